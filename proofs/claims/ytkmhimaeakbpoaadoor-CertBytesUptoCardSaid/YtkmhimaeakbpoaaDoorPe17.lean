/- The list that a text is. -/
import Derived.Test.YtkmhimaeakbpoaaDoorPe16
import Derived.Maps.AppendAt
set_option linter.unusedVariables false
set_option linter.unusedSimpArgs false
set_option linter.unnecessarySimpa false
namespace Go.Proofs.YtkmhimaeakbpoaaDoor
open Go.RowKit Go.Shelf
attribute [local go_sem] Oper.semAt_some

theorem infoS : (Tryd.prog.info? 9).map (fun i => (i.zero, i.size, i.bytes)) = some (some (.string ⟨#[]⟩), 1, 16) := by kernel_rfl

set_option maxHeartbeats 1000000 in
theorem texts_in (n : Nat) (s : Bs) (w : World) :
    CallsIn Fence.wide n Tryd.prog 55 #[.string ⟨s.toArray⟩] w fun e w' => e = .returned (.func (.func 65) #[] #[.pointer (some ⟨w.heap.size, 0, none⟩)]) ∧ w' = w.alloc (.cells #[.string ⟨s.toArray⟩] 9) := by
  refine callsIn_of_wp Tryd.func55 rfl trivial ?_ rfl
  simp only [Tryd.ntmps55, List.size_toArray, List.length_cons, List.length_nil, Nat.reduceAdd, Nat.reduceSub, Array.replicate_succ, Array.replicate_zero, List.push_toArray, List.append_toArray, List.nil_append, List.cons_append]
  gi_wp2
  go_ret
  exact ⟨rfl, rfl⟩

theorem blk_stands {B bs : Nat} {g : Nat} {t : TypeId} {cs : Array Value} (hne : g ≠ bs) {A C : World} (h : Blk A g t cs) (hc : Chg (fun k => k = bs ∨ (B ≤ k ∧ ∃ o : Obj, A.heap[k]? = some o ∧ o.isCells = false)) A C) : Blk C g t cs := by
  refine (hc.block g h.lt ?_).trans h
  rintro (e | ⟨_, o, ho, hoc⟩)
  · exact hne e
  · rw [show A.heap[g]? = _ from h] at ho
    cases ho
    cases hoc
theorem own_stands {B bs base : Nat} {e : TypeId} {v : Value} {n : Nat} {xs : List Value} (hbs : bs < base) {A C : World} (h : A.ownsRow base e 1 v n xs) (hc : Chg (fun k => k = bs ∨ (B ≤ k ∧ ∃ o : Obj, A.heap[k]? = some o ∧ o.isCells = false)) A C) : C.ownsRow base e 1 v n xs := by
  refine hc.owns h ?_
  intro g hg
  obtain ⟨h1, h2⟩ := h.lt g hg
  rintro (e' | ⟨_, o, ho, hoc⟩)
  · omega
  · rcases h.2 with ⟨rfl, _⟩ | ⟨g', cap, cur, rfl, _, hgg, _⟩
    · cases hg
    · cases hg
      rw [hgg] at ho
      cases ho
      cases hoc
theorem below_stands {B bs n₀ : Nat} {w A C : World} (hbs : n₀ ≤ bs) (hB : n₀ ≤ B) (h : Below n₀ w A) (hc : Chg (fun k => k = bs ∨ (B ≤ k ∧ ∃ o : Obj, A.heap[k]? = some o ∧ o.isCells = false)) A C) (hn : n₀ ≤ w.heap.size) : Below n₀ w C :=
  h.trans (hc.to_below (fun i hi => by rintro (e | ⟨e, _⟩) <;> omega) (Nat.le_trans hn h.size))

theorem own_far {W : World} {base : Nat} {e : TypeId} {v : Value} {n : Nat} {xs : List Value} (hrow : W.ownsRow base e 1 v n xs) {g : Nat} (hlt : g < base) : ¬ v.ownBlock = some g := fun h => by have := (hrow.lt g h).1; omega
theorem own_iscells {W : World} {base : Nat} {e : TypeId} {v : Value} {n : Nat} {xs : List Value} (hrow : W.ownsRow base e 1 v n xs) {g : Nat} (hg : v.ownBlock = some g) {o : Obj} (ho : W.heap[g]? = some o) : o.isCells = true := by
  rcases hrow.2 with ⟨rfl, _⟩ | ⟨g', cap, cur, rfl, _, hgg, _⟩
  · cases hg
  · cases hg
    rw [hgg] at ho
    cases ho
    rfl
theorem keeps_chg {F : Nat → Prop} {W w1 : World} (hC : Chg F W w1) (hF : ∀ k, F k → ∀ o, W.heap[k]? = some o → o.isCells = true) : KeepsOthers W w1 :=
  ⟨hC.size, fun k o hk hn => (hC.block k (Array.getElem?_eq_some_iff.1 hk).1 (fun f => by rw [hF k f o hk] at hn; cases hn)).trans hk⟩
theorem blk_chg {F : Nat → Prop} {W w1 : World} {g : Nat} {t : TypeId} {cs : Array Value} (h : Blk W g t cs) (hC : Chg F W w1) (hF : ¬ F g) : Blk w1 g t cs := (hC.block g h.lt hF).trans h
theorem chg_app {W w1 : World} {v : Value} {o : Obj} (hg : (W.alloc o).grownBy w1 v.ownBlock) : Chg (fun k => v.ownBlock = some k) W w1 := ((Chg.refl _ W).alloc o).grown hg (fun _ e _ => e)

theorem own_base {W : World} {base B : Nat} {e : TypeId} {v : Value} {n : Nat} {xs : List Value} (h : W.ownsRow base e 1 v n xs) (hB : B ≤ base) : W.ownsRow B e 1 v n xs := by
  refine ⟨h.1, ?_⟩
  rcases h.2 with h0 | ⟨g, cap, cur, h1, h2, h3⟩
  · exact .inl h0
  · exact .inr ⟨g, cap, cur, h1, Nat.le_trans hB h2, h3⟩

/-- Between two rounds of Unpack. -/
structure MidU (w : World) (pre : List (Bs × Bool)) (W : World) : Prop where
  ok : pre.all (fun x => !x.2) = true
  r : Blk W w.heap.size 84 #[.slice none 0 0]
  e : Blk W (w.heap.size + 1) 31 #[.int .i64 0]
  out : ∃ v, Blk W (w.heap.size + 1 + 1) 84 #[v] ∧ W.ownsRow (w.heap.size + 4) 9 1 v (pre.map (·.1)).length (strs (pre.map (·.1)))
  below : Below w.heap.size w W
  size : w.heap.size + 4 ≤ W.heap.size
/-- A round of Unpack has met an error. -/
structure EndU (w : World) (c : Code) (pre : List (Bs × Bool)) (W : World) : Prop where
  ret : c = .ret
  bad : pre.all (fun x => !x.2) = false
  r : Blk W w.heap.size 84 #[.slice none 0 0]
  e : Blk W (w.heap.size + 1) 31 #[.int .i64 4]
  below : Below w.heap.size w W
theorem midU_stands (w : World) (B : Nat) (hB : w.heap.size ≤ B) : StandsCell B (w.heap.size + 1 + 1 + 1) (MidU w) := by
  intro s A C h hc
  obtain ⟨v, h1, h2⟩ := h.out
  exact ⟨h.ok, blk_stands (by omega) h.r hc, blk_stands (by omega) h.e hc, ⟨v, blk_stands (by omega) h1 hc, own_stands (by omega) h2 hc⟩, below_stands (by omega) hB h.below hc (Nat.le_refl _), Nat.le_trans h.size hc.size⟩
theorem endU_stands (w : World) (B : Nat) (hB : w.heap.size ≤ B) (c : Code) : StandsCell B (w.heap.size + 1 + 1 + 1) (EndU w c) := by
  intro s A C h hc
  exact ⟨h.ret, h.bad, blk_stands (by omega) h.r hc, blk_stands (by omega) h.e hc, below_stands (by omega) hB h.below hc (Nat.le_refl _)⟩

set_option maxHeartbeats 4000000 in
set_option maxRecDepth 100000 in
theorem unpack_any (s : Bs) (hs : s.length < 4294967281) (w : World) (hl : Lay w) :
    Calls Tryd.prog 41 #[.string ⟨s.toArray⟩] w fun e w' => ∃ v, e = .returned (.tuple #[v, .int .i64 (unpackB s).2]) ∧ w'.ownsRow w.heap.size 9 1 v (unpackB s).1.length (strs (unpackB s).1) ∧ Below w.heap.size w w' := by
  refine (callsIn_wide (n := 5)).1 ?_
  refine callsIn_of_wp_marks Tryd.func41 rfl trivial ?_ rfl
  simp only [Tryd.ntmps41, List.size_toArray, List.length_cons, List.length_nil, Nat.reduceAdd, Nat.reduceSub, Array.replicate_succ, Array.replicate_zero, List.push_toArray, List.append_toArray, List.nil_append, List.cons_append]
  gi_wp2_with fail
  refine ⟨trivial, ?_⟩
  refine (texts_in _ s _).mono ?_
  rintro e w1 ⟨rfl, rfl⟩
  gi_wp2
  have r0 := Blk.new w 84 #[.slice none 0 0]
  have r1 := (Blk.new (w.alloc (.cells #[.slice none 0 0] 84)) 31 #[.int .i64 0])
  have r2 := (Blk.new ((w.alloc (.cells #[.slice none 0 0] 84)).alloc (.cells #[.int .i64 0] 31)) 84 #[.slice none 0 0])
  have r3 := (Blk.new (((w.alloc (.cells #[.slice none 0 0] 84)).alloc (.cells #[.int .i64 0] 31)).alloc (.cells #[.slice none 0 0] 84)) 9 #[.string ⟨s.toArray⟩])
  replace r0 := ((r0.alloc (.cells #[.int .i64 0] 31)).alloc (.cells #[.slice none 0 0] 84)).alloc (.cells #[.string ⟨s.toArray⟩] 9)
  replace r1 := (r1.alloc (.cells #[.slice none 0 0] 84)).alloc (.cells #[.string ⟨s.toArray⟩] 9)
  replace r2 := r2.alloc (.cells #[.string ⟨s.toArray⟩] 9)
  have hB0 : Below w.heap.size w ((((w.alloc (.cells #[.slice none 0 0] 84)).alloc (.cells #[.int .i64 0] 31)).alloc (.cells #[.slice none 0 0] 84)).alloc (.cells #[.string ⟨s.toArray⟩] 9)) :=
    ((((Below.refl _ w).alloc (Nat.le_refl _) _).alloc (by simp) _).alloc (by simp; omega) _).alloc (by simp; omega) _
  have hz0 : ((((w.alloc (.cells #[.slice none 0 0] 84)).alloc (.cells #[.int .i64 0] 31)).alloc (.cells #[.slice none 0 0] 84)).alloc (.cells #[.string ⟨s.toArray⟩] 9)).heap.size = w.heap.size + 4 := by simp
  simp only [World.size_alloc] at r1 r2 r3
  generalize ((((w.alloc (.cells #[.slice none 0 0] 84)).alloc (.cells #[.int .i64 0] 31)).alloc (.cells #[.slice none 0 0] 84)).alloc (.cells #[.string ⟨s.toArray⟩] 9)) = w0 at r0 r1 r2 r3 hB0 hz0 ⊢
  have hl0 : Lay w0 := hl.later hB0
  have HTr := trace_shorter s.length s (Nat.le_refl _)
  have HUn := unpack_trace s.length s (Nat.le_refl _)
  refine wpIn_rangeFunc_cell (f0 := none) rfl (by omega) (gf := 65) (lb := #[.pointer (some ⟨w.heap.size + 1 + 1 + 1, 0, none⟩)]) rfl trivial (enters_of Tryd.func65 (by kernel_rfl) rfl) rfl
    (n₀ := w.heap.size) (bs := w.heap.size + 1 + 1 + 1) (w0 := w0) (by omega) (by omega)
    (texts_seq _ w.heap.size (by omega) hl.low s hs (w.heap.size + 1 + 1 + 1) w0 hl0 r3 (hl.far (by omega)) (by omega)) (Below.refl _ _) (fun _ => rfl)
    (MidU w) (EndU w) (midU_stands w _ (by omega)) (endU_stands w _ (by omega)) ⟨rfl, r0, r1, ⟨_, r2, World.ownsRow_nil _ _ _ _⟩, hB0, by omega⟩
    (fun x => { tmps := #[.string ⟨s.toArray⟩, undef, .pointer (some ⟨w.heap.size, 0, none⟩), .pointer (some ⟨w.heap.size + 1, 0, none⟩), .pointer (some ⟨w.heap.size + 1 + 1, 0, none⟩), .string ⟨x.1.toArray⟩, .int .i64 (if x.2 then 4 else 0),
      .string ⟨s.toArray⟩, .func (.func 65) #[] #[.pointer (some ⟨w.heap.size + 1 + 1 + 1, 0, none⟩)], .string ⟨x.1.toArray⟩, .int .i64 (if x.2 then 4 else 0), undef, undef, undef, undef, undef, undef, undef, undef], defers := [] }) ?assign ?body ?done ?stop
  case assign =>
    intro l x W K hK
    simp only [encT]
    generalize (if x.2 = true then (4 : Int) else 0) = e at hK ⊢
    gi_wp2
    exact hK
  case body =>
    rintro l pre ⟨t, b⟩ W hpx hI
    obtain ⟨i0, hi, hz0, hz1, hz2⟩ := info_parts infoS
    have hlen : pre.length + 1 ≤ s.length := by
      have := hpx.length_le
      rw [List.length_append, List.length_singleton] at this
      omega
    cases b with
    | false =>
      obtain ⟨v, hv, hrow⟩ := hI.out
      have hc := hv.cell 0
      have hfz := hv.frozen 0
      simp only [if_neg Bool.false_ne_true]
      have hpl : (pre.map (·.1)).length = pre.length := by simp
      have hWz := hI.size
      have hb1 : (pre.map (·.1)).length + 1 ≤ maxLen := by rw [hpl]; show _ ≤ 9223372036854775807; omega
      have hb2 : ((pre.map (·.1)).length + 1) * 16 ≤ 140737488355328 := by rw [hpl]; omega
      generalize (pre.map (·.1)).length = kk at hb1 hb2 hrow hpl
      have hplh : Hid (kk = pre.length) := hpl
      clear hpl
      gi_wp2_with (gi_at_builtin; refine wpListIn_append_own _ rfl _ _ 84 rfl (w.heap.size + 4) 9 i0 (.string ⟨#[]⟩) 1 16 Tryd.underlying84 hi hz0 hz1 hz2 rfl (by decide) _ _ _ rfl (hrow.alloc _) ⟨W.heap.size, 0, none⟩ 1 1 [.string ⟨t.toArray⟩] rfl rfl (cell_one_new _ _ _) (by simp [Value.oneCell']) hb1 hb2 (by simp; omega) ?_; intro v' w1 hown' hgrow _; obtain ⟨g', cap', rfl⟩ := ownsRow_succ hown'; have hO := blk_chg hv (chg_app hgrow) (own_far hrow (by omega)); have hc1 := hO.cell 0; have hf1 := hO.frozen 0)
      have hC2 : Chg (fun k => v.ownBlock = some k ∨ k = w.heap.size + 1 + 1) W (w1.setCell ⟨w.heap.size + 1 + 1, 0, none⟩ (.slice (some ⟨g', 0, none⟩) (kk + 1) cap')) :=
        ((chg_app hgrow).mono (fun _ _ e => .inl e)).setCell (p := ⟨w.heap.size + 1 + 1, 0, none⟩) (fun _ => .inr rfl) _
      have hFar : ∀ i, (v.ownBlock = some i ∨ i = w.heap.size + 1 + 1) → i ≠ w.heap.size ∧ i ≠ w.heap.size + 1 ∧ i ≠ w.heap.size + 1 + 1 + 1 ∧ w.heap.size ≤ i := by
        rintro i (h | h)
        · have := (hrow.lt i h).1
          omega
        · omega
      refine ⟨keeps_chg hC2 ?_, ⟨hC2.to_below (fun i hi h => by have := hFar i h; omega) hI.below.size, hC2.block _ (by omega) (fun h => (hFar _ h).2.2.1 rfl)⟩, ?_⟩
      · rintro k (h | rfl) o ho
        · exact own_iscells hrow h ho
        · rw [show W.heap[w.heap.size + 1 + 1]? = _ from hv] at ho
          cases ho
          rfl
      · have hown2 := ((Chg.refl (fun k => k = w.heap.size + 1 + 1) w1).setCell (p := ⟨w.heap.size + 1 + 1, 0, none⟩) (fun _ => rfl) (.slice (some ⟨g', 0, none⟩) (kk + 1) cap')).owns hown' (fun g h e => by have := (hown'.lt g h).1; omega)
        refine ⟨by rw [List.all_append, hI.ok]; rfl, blk_chg hI.r hC2 (fun h => (hFar _ h).1 rfl), blk_chg hI.e hC2 (fun h => (hFar _ h).2.1 rfl), ⟨_, hO.set_ 0 _, ?_⟩, hI.below.trans (hC2.to_below (fun i hi h => by have := hFar i h; omega) hI.below.size), Nat.le_trans hWz hC2.size⟩
        have e1 : ((pre ++ [(t, false)]).map (·.1)).length = kk + 1 := by simp [hplh.out]
        rw [e1]
        simpa [strs] using hown2
    | true =>
      have hc := hI.r.cell 0
      have hfz := hI.r.frozen 0
      have hc1 := hI.e.cell 0
      have hfz1 := hI.e.frozen 0
      simp only [if_true]
      gi_wp2
      have hC2 : Chg (fun k => k = w.heap.size ∨ k = w.heap.size + 1) W ((W.setCell ⟨w.heap.size, 0, none⟩ (.slice none 0 0)).setCell ⟨w.heap.size + 1, 0, none⟩ (.int .i64 4)) :=
        ((Chg.refl _ W).setCell (p := ⟨w.heap.size, 0, none⟩) (fun _ => .inl rfl) _).setCell (p := ⟨w.heap.size + 1, 0, none⟩) (fun _ => .inr rfl) _
      refine ⟨keeps_chg hC2 ?_, rfl, by simp, (hI.r.set_ 0 _).far (by simp) _, ((hI.e.far (by simp) _).set_ 0 _), hI.below.trans (hC2.to_below (fun i hi h => by omega) hI.below.size)⟩
      rintro k (rfl | rfl) o ho
      · rw [show W.heap[w.heap.size]? = _ from hI.r] at ho
        cases ho
        rfl
      · rw [show W.heap[w.heap.size + 1]? = _ from hI.e] at ho
        cases ho
        rfl
  case done =>
    rintro D W hD hI hK
    obtain ⟨v, hv, hrow⟩ := hI.out
    obtain ⟨A, c, rfl⟩ : ∃ A c, v = .slice A ((traceB s).map (·.1)).length c := by
      rcases hrow.2 with ⟨rfl, h0⟩ | ⟨g, cap, cur, rfl, _⟩
      · exact ⟨none, 0, by rw [h0]⟩
      · exact ⟨_, cap, rfl⟩
    have hc := hv.cell 0
    have hc1 := hI.r.cell 0
    have hf1 := hI.r.frozen 0
    have hc2 := hI.e.cell 0
    have hf2 := hI.e.frozen 0
    have hUn : Hid (unpackB s = ((traceB s).map (·.1), 0)) := by unfold Hid unpackB; rw [HUn, if_pos hI.ok]
    have hrowH : Hid (W.ownsRow (w.heap.size + 4) 9 1 (.slice A ((traceB s).map (·.1)).length c) ((traceB s).map (·.1)).length (strs ((traceB s).map (·.1)))) := hrow
    clear HTr HUn hrow
    generalize (traceB s).map (·.1) = xs at *
    gi_wp2
    have hC2 : Chg (fun k => k = w.heap.size ∨ k = w.heap.size + 1) W ((W.setCell ⟨w.heap.size, 0, none⟩ (.slice A xs.length c)).setCell ⟨w.heap.size + 1, 0, none⟩ (.int .i64 0)) :=
      ((Chg.refl _ W).setCell (p := ⟨w.heap.size, 0, none⟩) (fun _ => .inl rfl) _).setCell (p := ⟨w.heap.size + 1, 0, none⟩) (fun _ => .inr rfl) _
    have hr5 := (hI.r.set_ 0 (.slice A xs.length c)).far (p := ⟨w.heap.size + 1, 0, none⟩) (by simp) (.int .i64 0)
    have he5 := (hI.e.far (p := ⟨w.heap.size, 0, none⟩) (by simp) (.slice A xs.length c)).set_ 0 (.int .i64 0)
    have hK' := (hC2.block D (Array.getElem?_eq_some_iff.1 hK).1 (by omega)).trans hK
    have hown := hC2.owns hrowH.out (fun g h e => by have := (hrowH.out.lt g h).1; omega)
    have hbw := hI.below.trans (hC2.to_below (B := w.heap.size) (fun i hi h => by omega) hI.below.size)
    refine ⟨by simp, .inl ⟨_, _, rfl, run_takeDeferred hK', ?_⟩⟩
    generalize (W.setCell ⟨w.heap.size, 0, none⟩ (.slice A xs.length c)).setCell ⟨w.heap.size + 1, 0, none⟩ (.int .i64 0) = W5 at hr5 he5 hK' hown hbw ⊢
    have hr6 : Blk (W5.putObj D (.deferred none)) w.heap.size 84 _ := (World.putObj_heap_other (by omega)).trans hr5
    have he6 : Blk (W5.putObj D (.deferred none)) (w.heap.size + 1) 31 _ := (World.putObj_heap_other (by omega)).trans he5
    have z1 := hr6.cell 0
    have z2 := he6.cell 0
    refine ⟨.tuple #[.slice A xs.length c, .int .i64 0], ?_, .slice A xs.length c, by rw [hUn.out], ?_, ?_⟩
    · simp [results, Tryd.results41, go_sem, z1, z2]
    · rw [hUn.out]
      exact own_base (B := w.heap.size) (ownsRow_putObj hown (.deferred none) hK' rfl) (by omega)
    · exact hbw.trans (belowK_b (w := w) (Nat.le_refl _) W5 D _ _ (by omega) hK' rfl rfl)
  case stop =>
    rintro D c pre W hD hpre hE hK
    have hUn : Hid (unpackB s = ([], 4)) := by
      unfold Hid unpackB
      obtain ⟨suf, hsuf⟩ := hpre
      rw [HUn, if_neg]
      rw [← hsuf, List.all_append, hE.bad]
      simp
    have hr6 : Blk (W.putObj D (.deferred none)) w.heap.size 84 _ := (World.putObj_heap_other (by omega)).trans hE.r
    have he6 : Blk (W.putObj D (.deferred none)) (w.heap.size + 1) 31 _ := (World.putObj_heap_other (by omega)).trans hE.e
    have z1 := hr6.cell 0
    have z2 := he6.cell 0
    have hb := hE.below
    obtain rfl := hE.ret
    clear HTr HUn hE hpre
    gi_wp2
    refine ⟨by simp, .inl ⟨_, _, rfl, run_takeDeferred hK, ?_⟩⟩
    refine ⟨.tuple #[.slice none 0 0, .int .i64 4], ?_, .slice none 0 0, by rw [hUn.out], ?_, ?_⟩
    · simp [results, Tryd.results41, go_sem, z1, z2]
    · rw [hUn.out]
      exact World.ownsRow_nil _ _ _ _
    · exact hb.trans (belowK_b (w := w) (Nat.le_refl _) W D _ _ (by omega) hK rfl rfl)

end Go.Proofs.YtkmhimaeakbpoaaDoor
