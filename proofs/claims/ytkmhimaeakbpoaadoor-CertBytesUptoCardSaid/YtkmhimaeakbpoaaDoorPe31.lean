/- cert.Decode: between two rounds of its loop. -/
import Derived.Test.YtkmhimaeakbpoaaDoorPe30
set_option linter.unusedVariables false
set_option linter.unusedSimpArgs false
set_option linter.unnecessarySimpa false
namespace Go.Proofs.YtkmhimaeakbpoaaDoor
open Go.RowKit Go.Shelf

theorem get1Y {l : List Bs} {t g : Bs} {ll : List Bs} (h : l = t :: g :: ll) {hh : 1 < l.length} : l[1] = g := by subst h; rfl
theorem get0Y {l : List Bs} {t g : Bs} {ll : List Bs} (h : l = t :: g :: ll) {hh : 0 < l.length} : l[0] = t := by subst h; rfl
theorem getNY {l : List Bs} {t g : Bs} {ll : List Bs} (h : l = t :: g :: ll) {k : Nat} (hk : 2 + k < l.length) : l[2 + k] = ll.getD k [] := by
  subst h
  have hk' : k < ll.length := by simp at hk; omega
  rw [List.getD_eq_getElem?_getD, List.getElem?_eq_getElem hk']
  have e : (t :: g :: ll)[k + 2]'(by simp; omega) = ll[k] := rfl
  simp only [Nat.add_comm 2 k]
  exact e
structure MidV (w : World) (be : Nat) (t : Bs) (gn : Int) (ll : List Bs) (l : List Bs) (sl : Value) (pre : List Nat) (W : World) : Prop where
  i : DecI w W
  out : ∃ v, Blk W be 24 #[.string ⟨t.toArray⟩, .int .i64 gn, v] ∧ W.ownsRow (be + 3) 64 2 v pre.length (cellsT (prL ll pre.length))
  good : ∀ i, i < pre.length → prG ll i
  row : Rd W be 1 sl l.length (strs l)
  size : be + 3 ≤ W.heap.size
structure EndV (w : World) (ll : List Bs) (q : Nat) (c : Code) (pre : List Nat) (W : World) : Prop where
  ret : c = .ret
  bad : ∃ i, i < q ∧ ¬ prG ll i
  x : DecX w 4 W
theorem midV_stands (w : World) (be : Nat) (t : Bs) (gn : Int) (ll l : List Bs) (sl : Value) (B : Nat) (hB : be ≤ B) (hw : w.heap.size ≤ be) : StandsKeep B (MidV w be t gn ll l sl) := by
  intro s A C h hc
  obtain ⟨v, h1, h2⟩ := h.out
  have hlow : Below be A C := hc.to_below (fun i hi => by rintro ⟨e, _⟩; omega) (by have := h.size; omega)
  exact ⟨⟨blk_standsK h.i.z hc, blk_standsK h.i.e hc, h.i.bel.trans (hlow.mono hw)⟩, ⟨v, blk_standsK h1 hc, own_standsK h2 hc⟩, h.good, h.row.below hlow, Nat.le_trans h.size hc.size⟩
theorem endV_stands (w : World) (ll : List Bs) (q B : Nat) (hB : w.heap.size ≤ B) (c : Code) : StandsKeep B (EndV w ll q c) := by
  intro s A C h hc
  exact ⟨h.ret, h.bad, ⟨blk_standsK h.x.z hc, blk_standsK h.x.e hc, h.x.bel.trans (hc.to_below (fun i hi => by rintro ⟨e, _⟩; omega) h.x.bel.size)⟩⟩
/-- A round that took a tag. -/
theorem MidV.push {w : World} {be : Nat} {t : Bs} {gn : Int} {ll l : List Bs} {sl : Value} {pre : List Nat} {W w5 w6 : World} {v : Value} {n : Int} {s : Bs} {A6 : Option Addr} {c6 : Nat} {o1 : Obj} (h : MidV w be t gn ll l sl pre W)
    (hbe : w.heap.size + 2 ≤ be) (hbx : Blk W be 24 #[.string ⟨t.toArray⟩, .int .i64 gn, v]) (how : W.ownsRow (be + 3) 64 2 v pre.length (cellsT (prL ll pre.length)))
    (hb : Below W.heap.size W w5) (hg : (w5.drew.alloc o1).grownBy w6 v.ownBlock) (ho : w6.ownsRow (be + 3) 64 2 (.slice A6 (pre.length + 1) c6) (pre.length + 1) (cellsT (prL ll pre.length) ++ tagC (n, s)))
    (he : prT ll pre.length = (n, s)) (hgd : prG ll pre.length) (x : Nat) :
    KeepsOthers W (w6.setCell ⟨be, 2, none⟩ (.slice A6 (pre.length + 1) c6)) ∧ (Below w.heap.size W (w6.setCell ⟨be, 2, none⟩ (.slice A6 (pre.length + 1) c6)) ∧ (∀ b, be + 1 ≤ b → b < be + 1 + 2 → (w6.setCell ⟨be, 2, none⟩ (.slice A6 (pre.length + 1) c6)).heap[b]? = W.heap[b]?)) ∧
      MidV w be t gn ll l sl (pre ++ [x]) (w6.setCell ⟨be, 2, none⟩ (.slice A6 (pre.length + 1) c6)) := by
  have hC1 : Chg (fun k => v.ownBlock = some k) W w6 := (((Chg.refl _ W).below hb).drew.trans (chg_app hg) (fun i _ e => e))
  have hC2 : Chg (fun k => v.ownBlock = some k ∨ k = be) W (w6.setCell ⟨be, 2, none⟩ (.slice A6 (pre.length + 1) c6)) := (hC1.mono (fun _ _ e => .inl e)).setCell (p := ⟨be, 2, none⟩) (fun _ => .inr rfl) _
  have hFar : ∀ i, (v.ownBlock = some i ∨ i = be) → i = be ∨ be + 3 ≤ i := by
    rintro i (h1 | h1)
    · exact .inr (how.lt i h1).1
    · exact .inl h1
  have hsz := h.size
  have hbl : Below be W (w6.setCell ⟨be, 2, none⟩ (.slice A6 (pre.length + 1) c6)) := hC2.to_below (fun i hi h1 => by have := hFar i h1; omega) (by omega)
  have hbx6 : Blk w6 be 24 #[.string ⟨t.toArray⟩, .int .i64 gn, v] := hbx.chg hC1 (fun e => by have := (how.lt _ e).1; omega)
  refine ⟨keeps_chg hC2 ?_, ⟨hbl.mono (by omega), fun b h1 h2 => hC2.block b (by omega) (fun h3 => by have := hFar b h3; omega)⟩, ?_⟩
  · rintro k (h1 | rfl) o hok
    · rcases how.2 with ⟨rfl, _⟩ | ⟨g', cap, cur, rfl, _, hgg, _⟩
      · cases h1
      · cases h1
        rw [hgg] at hok
        cases hok
        rfl
    · rw [show W.heap[k]? = _ from hbx] at hok; cases hok; rfl
  · refine ⟨⟨h.i.z.below hbl (by omega), h.i.e.below hbl (by omega), h.i.bel.trans (hbl.mono (by omega))⟩, ⟨_, hbx6.set_ 2 _, ?_⟩, ?_, h.row.below hbl, Nat.le_trans h.size hC2.size⟩
    · have hown2 := ((Chg.refl (fun k => k = be) w6).setCell (p := ⟨be, 2, none⟩) (fun _ => rfl) (.slice A6 (pre.length + 1) c6)).owns ho (fun g h e => by have := (ho.lt g h).1; omega)
      have e1 : (pre ++ [x]).length = pre.length + 1 := by simp
      rw [e1, prL_succ, cellsT_append, he]
      simpa [cellsT] using hown2
    · intro i hi
      rw [List.length_append, List.length_singleton] at hi
      by_cases h1 : i < pre.length
      · exact h.good i h1
      · rw [show i = pre.length by omega]; exact hgd

theorem DecI.stop {w W w5 : World} (h : DecI w W) (hb : Below W.heap.size W w5) (n : Int) :
    KeepsOthers W ((((w5.setCell ⟨w.heap.size, 0, none⟩ (.string ⟨#[]⟩)).setCell ⟨w.heap.size, 1, none⟩ (.int .i64 0)).setCell ⟨w.heap.size, 2, none⟩ (.slice none 0 0)).setCell ⟨w.heap.size + 1, 0, none⟩ (.int .i64 n)) ∧
      DecX w n ((((w5.setCell ⟨w.heap.size, 0, none⟩ (.string ⟨#[]⟩)).setCell ⟨w.heap.size, 1, none⟩ (.int .i64 0)).setCell ⟨w.heap.size, 2, none⟩ (.slice none 0 0)).setCell ⟨w.heap.size + 1, 0, none⟩ (.int .i64 n)) := by
  have h5 := h.below hb (by have := h.e.lt; omega)
  refine ⟨?_, h5.exit n⟩
  have hC := ((((Chg.of_below (F := fun i => i = w.heap.size ∨ i = w.heap.size + 1) hb).setCell (p := ⟨w.heap.size, 0, none⟩) (fun _ => .inl rfl) (.string ⟨#[]⟩)).setCell (p := ⟨w.heap.size, 1, none⟩) (fun _ => .inl rfl) (.int .i64 0)).setCell (p := ⟨w.heap.size, 2, none⟩) (fun _ => .inl rfl) (.slice none 0 0)).setCell (p := ⟨w.heap.size + 1, 0, none⟩) (fun _ => .inr rfl) (.int .i64 n)
  refine keeps_chg hC ?_
  rintro k (rfl | rfl) o hok
  · rw [show W.heap[w.heap.size]? = _ from h.z] at hok; cases hok; rfl
  · rw [show W.heap[w.heap.size + 1]? = _ from h.e] at hok; cases hok; rfl
/-- The certificate goes into the result. -/
theorem DecI.ok {w W : World} (h : DecI w W) (t : Bs) (gn : Int) (v : Value) {be n D : Nat} {xs : List Value} {ds : Option (List Deferred)} (ho : W.ownsRow be 64 2 v n xs) (hbe : w.heap.size + 2 ≤ be) (hD : W.heap[D]? = some (.deferred ds)) (hD2 : w.heap.size + 2 ≤ D) :
    let W5 := (((W.setCell ⟨w.heap.size, 0, none⟩ (.string ⟨t.toArray⟩)).setCell ⟨w.heap.size, 1, none⟩ (.int .i64 gn)).setCell ⟨w.heap.size, 2, none⟩ v).setCell ⟨w.heap.size + 1, 0, none⟩ (.int .i64 0)
    W5.heap[D]? = some (.deferred ds) ∧ Blk (W5.putObj D (.deferred none)) w.heap.size 24 #[.string ⟨t.toArray⟩, .int .i64 gn, v] ∧ Blk (W5.putObj D (.deferred none)) (w.heap.size + 1) 31 #[.int .i64 0] ∧ (W5.putObj D (.deferred none)).ownsRow w.heap.size 64 2 v n xs ∧ Below w.heap.size w (W5.putObj D (.deferred none)) := by
  intro W5
  have hC : Chg (fun i => i = w.heap.size ∨ i = w.heap.size + 1) W W5 := ((((Chg.refl _ W).setCell (p := ⟨w.heap.size, 0, none⟩) (fun _ => .inl rfl) (.string ⟨t.toArray⟩)).setCell (p := ⟨w.heap.size, 1, none⟩) (fun _ => .inl rfl) (.int .i64 gn)).setCell (p := ⟨w.heap.size, 2, none⟩) (fun _ => .inl rfl) v).setCell (p := ⟨w.heap.size + 1, 0, none⟩) (fun _ => .inr rfl) (.int .i64 0)
  have hDl : D < W.heap.size := (Array.getElem?_eq_some_iff.1 hD).1
  have hK' : W5.heap[D]? = some (.deferred ds) := (hC.block D hDl (by omega)).trans hD
  have hz : Blk W5 w.heap.size 24 #[.string ⟨t.toArray⟩, .int .i64 gn, v] := (((h.z.set_ 0 _).set_ 1 _).set_ 2 _).far (p := ⟨w.heap.size + 1, 0, none⟩) (by simp) _
  have he : Blk W5 (w.heap.size + 1) 31 #[.int .i64 0] := (((h.e.far (p := ⟨w.heap.size, 0, none⟩) (by simp) _).far (p := ⟨w.heap.size, 1, none⟩) (by simp) _).far (p := ⟨w.heap.size, 2, none⟩) (by simp) _).set_ 0 _
  have hown := hC.owns ho (fun g hg => by have := (ho.lt g hg).1; omega)
  have hbw : Below w.heap.size w W5 := h.bel.trans (hC.to_below (B := w.heap.size) (fun i hi h1 => by omega) h.bel.size)
  refine ⟨hK', (World.putObj_heap_other (by omega)).trans hz, (World.putObj_heap_other (by omega)).trans he, own_weaken (ownsRow_putObj hown (.deferred none) hK' rfl) (by omega), hbw.trans (belowK_b (w := w) (Nat.le_refl _) W5 D _ _ (by omega) hK' rfl rfl)⟩
theorem DecX.putD {w W : World} {n : Int} {D : Nat} {ds : Option (List Deferred)} (h : DecX w n W) (hD2 : w.heap.size + 2 ≤ D) (hD : W.heap[D]? = some (.deferred ds)) : DecX w n (W.putObj D (.deferred none)) :=
  ⟨(World.putObj_heap_other (by omega)).trans h.z, (World.putObj_heap_other (by omega)).trans h.e, h.bel.trans (belowK_b (w := w) (Nat.le_refl _) W D _ _ (by omega) hD rfl rfl)⟩
theorem DecI.exitD {w W : World} {D : Nat} {ds : Option (List Deferred)} (h : DecI w W) (hD2 : w.heap.size + 2 ≤ D) (hD : W.heap[D]? = some (.deferred ds)) (n : Int) :
    let W5 := (((W.setCell ⟨w.heap.size, 0, none⟩ (.string ⟨#[]⟩)).setCell ⟨w.heap.size, 1, none⟩ (.int .i64 0)).setCell ⟨w.heap.size, 2, none⟩ (.slice none 0 0)).setCell ⟨w.heap.size + 1, 0, none⟩ (.int .i64 n)
    W5.heap[D]? = some (.deferred ds) ∧ DecX w n (W5.putObj D (.deferred none)) := by
  intro W5
  have hC : Chg (fun i => i = w.heap.size ∨ i = w.heap.size + 1) W W5 := ((((Chg.refl _ W).setCell (p := ⟨w.heap.size, 0, none⟩) (fun _ => .inl rfl) (.string ⟨#[]⟩)).setCell (p := ⟨w.heap.size, 1, none⟩) (fun _ => .inl rfl) (.int .i64 0)).setCell (p := ⟨w.heap.size, 2, none⟩) (fun _ => .inl rfl) (.slice none 0 0)).setCell (p := ⟨w.heap.size + 1, 0, none⟩) (fun _ => .inr rfl) (.int .i64 n)
  have hK' : W5.heap[D]? = some (.deferred ds) := (hC.block D (Array.getElem?_eq_some_iff.1 hD).1 (by omega)).trans hD
  exact ⟨hK', (h.exit n).putD hD2 hK'⟩
theorem dec_blocks (w2 : World) (t : Bs) (gn : Int) (vs : Value) :
    let W3 := ((w2.alloc (.cells #[.string ⟨t.toArray⟩, .int .i64 gn, .slice none 0 0] 24)).alloc (.cells #[vs] 84)).alloc (.cells #[.int .i64 2] 3)
    Blk W3 w2.heap.size 24 #[.string ⟨t.toArray⟩, .int .i64 gn, .slice none 0 0] ∧ Blk W3 (w2.heap.size + 1) 84 #[vs] ∧ Blk W3 (w2.heap.size + 1 + 1) 3 #[.int .i64 2] ∧ Below w2.heap.size w2 W3 ∧ W3.heap.size = w2.heap.size + 3 := by
  intro W3
  have b1 := Blk.new (w2.alloc (.cells #[.string ⟨t.toArray⟩, .int .i64 gn, .slice none 0 0] 24)) 84 #[vs]
  have b2 := Blk.new ((w2.alloc (.cells #[.string ⟨t.toArray⟩, .int .i64 gn, .slice none 0 0] 24)).alloc (.cells #[vs] 84)) 3 #[.int .i64 2]
  simp only [World.size_alloc] at b1 b2
  exact ⟨((Blk.new w2 _ _).alloc _).alloc _, b1.alloc _, b2, (((Below.refl _ w2).alloc (Nat.le_refl _) _).alloc (by simp) _).alloc (by simp; omega) _, by simp [W3]⟩

variable {F : Fence} {n : Nat} {P : Program}
/-- The law of a range over a function with one value that is assigned to a slot. -/
theorem rangeFunc_one {α : Type} {g : Operand} {ps : Array Tmp} {assign body : Code} {Q : Exit → Act → World → Prop} {a : Act} {w : World} {f0 : Option Nat}
    (hro : F.round = f0) (h1 : 1 ≤ n) {gf : Nat} {lb : Array Value} (hg : a.eval g = .func (.func gf) #[] lb) (hFg : F.fn gf) (eg : ∀ args w, (callFunc gf args).run P w = .ok (.enter gf args) w)
    (hf0 : f0 = none)
    {encs : α → Array Value} {n₀ lo hi : Nat} {T : List α} {w0 : World} (hbs : hi ≤ w0.heap.size) (hn0 : n₀ ≤ w0.heap.size)
    (hseq : SeqKeep F (n - 1) P gf lb encs n₀ lo hi T w0) (hb0 : Below w0.heap.size w0 w) (hps : ∀ x, (encs x).size = ps.size)
    (I : List α → World → Prop) (Ix : Code → List α → World → Prop) (hI : StandsKeep w.heap.size I) (hIx : ∀ c, StandsKeep w.heap.size (Ix c)) (h0 : I [] w) (s0 s1 : Nat) (ev : α → Value)
    (hassign : ∀ (l : Nat) (x : α) (W : World) (K : Act → World → Prop), K { tmps := (a.tmps.setIfInBounds s0 (ev x)).setIfInBounds s1 (ev x), defers := [] } W →
      assign.wpIn (F.inRound l) (n - 1 - 1) P (Exit.then K (fun _ _ _ => False)) { tmps := (ps.zip (encs x)).foldl (fun t (p, v) => t.setIfInBounds p v) a.tmps, defers := [] } W)
    (hbody : ∀ (l : Nat) (pre : List α) (x : α) (W : World), pre ++ [x] <+: T → I pre W → body.wpIn (F.inRound l) (n - 1 - 1) P (keepPost n₀ lo hi I Ix (pre ++ [x]) W) { tmps := (a.tmps.setIfInBounds s0 (ev x)).setIfInBounds s1 (ev x), defers := [] } W)
    (hdone : ∀ (D : Nat) (W : World), w.heap.size ≤ D → I T W → W.heap[D]? = some (.deferred (some [])) → Q .normal { a with defers := { target := .collected D, args := #[] } :: a.defers } W)
    (hstop : ∀ (D : Nat) (c : Code) (pre : List α) (W : World), w.heap.size ≤ D → pre <+: T → Ix c pre W → W.heap[D]? = some (.deferred (some [])) → c.wpIn F n P Q { a with defers := { target := .collected D, args := #[] } :: a.defers } W) :
    (Code.rangeFunc g ps assign body).wpIn F n P Q a w :=
  wpIn_rangeFunc_keep hro h1 hg hFg eg hf0 hbs hn0 hseq hb0 hps I Ix hI hIx h0 (fun x => { tmps := (a.tmps.setIfInBounds s0 (ev x)).setIfInBounds s1 (ev x), defers := [] }) hassign hbody hdone hstop

end Go.Proofs.YtkmhimaeakbpoaaDoor
