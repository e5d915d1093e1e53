/- The numbers of a list's text, three by three: the program's. -/
import Derived.Test.YtijacbnoemjgcaaGreatDoorPb39
import Derived.Test.YtijacbnoemjgcaaGreatDoorPb33
set_option linter.unusedVariables false
set_option linter.unusedSimpArgs false
set_option linter.unnecessarySimpa false
namespace Go.Proofs.YtijacbnoemjgcaaGreatDoor
open Go.RowKit Go.Shelf
attribute [local go_sem] Oper.semAt_some

def triC (x : Tri) : List Value := [.int .i64 x.1, .int .i64 x.2.1, .int .i64 x.2.2]
def cellsI (l : List Tri) : List Value := l.flatMap triC
theorem cellsI_append (a b : List Tri) : cellsI (a ++ b) = cellsI a ++ cellsI b := by simp [cellsI]
def flat3 (l : List Tri) : List Int := l.flatMap fun x => [x.1, x.2.1, x.2.2]
theorem flat3_snoc (l : List Tri) (a b c : Int) : flat3 (l ++ [(a, b, c)]) = flat3 l ++ [a, b, c] := by simp [flat3]
theorem tri_info : (Tryz.prog.info? 55).map (fun i => (i.zero, i.size, i.bytes)) = some (some (.agg #[.int .i64 0, .int .i64 0, .int .i64 0]), 3, 24) := by kernel_rfl
/-- Numbers in a box of three. -/
def box3 (X : List Int) : Array Value := #[.int .i64 (X.getD 0 0), .int .i64 (X.getD 1 0), .int .i64 (X.getD 2 0)]
theorem box3_put (X : List Int) (n : Int) (k : Nat) (h : X.length = k) (hk : k < 3) : (box3 X).setIfInBounds k (.int .i64 n) = box3 (X ++ [n]) := by
  match X, h with
  | [], h => subst h; rfl
  | [a], h => subst h; rfl
  | [a, b], h => subst h; rfl
  | _ :: _ :: _ :: _, h => simp at h; omega
theorem three_ofU {α : Type} (l : List α) (h : l.length = 3) : ∃ a b c, l = [a, b, c] := by
  match l, h with
  | [a, b, c], _ => exact ⟨a, b, c, rfl⟩
theorem toNum_fourU (s : Bs) (h : ¬ (toNumB s).2 = 0) : (toNumB s).2 = 4 := by
  rcases toNum_cases s with e | ⟨e, _⟩
  · rw [e]
  · exact absurd (by rw [e]) h
theorem unpackB_fourU (s : Bs) (h : ¬ (unpackB s).2 = 0) : unpackB s = ([], 4) := by
  unfold unpackB at h ⊢
  cases hu : unpackO s with
  | none => rfl
  | some l => rw [hu] at h; simp at h
/-- Between two rounds of threes. -/
structure MidT (w : World) (be : Nat) (l : List Bs) (sl : Value) (pre : List Nat) (W : World) : Prop where
  r : Blk W w.heap.size 52 #[.slice none 0 0]
  e : Blk W (w.heap.size + 1) 24 #[.int .i64 0]
  ev : Blk W be 24 #[.int .i64 0]
  out : ∃ v L, Blk W (be + 1) 52 #[v] ∧ W.ownsRow (be + 4) 55 3 v L.length (cellsI L) ∧ L.length = pre.length ∧ toNums (l.take (3 * pre.length)) = some (flat3 L)
  row : Rd W be 1 sl l.length (strs l)
  below : Below w.heap.size w W
  size : be + 4 ≤ W.heap.size
/-- A round of threes has met what is no number. -/
structure EndT (w : World) (l : List Bs) (c : Code) (pre : List Nat) (W : World) : Prop where
  ret : c = .ret
  bad : toNums l = none
  r : Blk W w.heap.size 52 #[.slice none 0 0]
  e : Blk W (w.heap.size + 1) 24 #[.int .i64 4]
  below : Below w.heap.size w W
theorem blk_standsK {B : Nat} {g : Nat} {t : TypeId} {cs : Array Value} {A C : World} (h : Blk A g t cs) (hc : Chg (fun k => B ≤ k ∧ ∃ o : Obj, A.heap[k]? = some o ∧ o.isCells = false) A C) : Blk C g t cs := by
  refine (hc.block g h.lt ?_).trans h
  rintro ⟨_, o, ho, hoc⟩
  rw [show A.heap[g]? = _ from h] at ho
  cases ho
  cases hoc
theorem own_standsK {B base size : Nat} {e : TypeId} {v : Value} {n : Nat} {xs : List Value} {A C : World} (h : A.ownsRow base e size v n xs) (hc : Chg (fun k => B ≤ k ∧ ∃ o : Obj, A.heap[k]? = some o ∧ o.isCells = false) A C) : C.ownsRow base e size v n xs := by
  refine hc.owns h ?_
  intro g hg
  rintro ⟨_, o, ho, hoc⟩
  rcases h.2 with ⟨rfl, _⟩ | ⟨g', cap, cur, rfl, _, hgg, _⟩
  · cases hg
  · cases hg
    rw [hgg] at ho
    cases ho
    cases hoc
theorem midT_stands (w : World) (be : Nat) (l : List Bs) (sl : Value) (B : Nat) (hB : be ≤ B) (hw : w.heap.size ≤ be) : StandsKeep B (MidT w be l sl) := by
  intro s A C h hc
  obtain ⟨v, L, h1, h2, h3, h4⟩ := h.out
  have hlow : Below be A C := hc.to_below (fun i hi => by rintro ⟨e, _⟩; omega) (by have := h.size; omega)
  exact ⟨blk_standsK h.r hc, blk_standsK h.e hc, blk_standsK h.ev hc, ⟨v, L, blk_standsK h1 hc, own_standsK h2 hc, h3, h4⟩, h.row.below hlow, h.below.trans (hlow.mono hw), Nat.le_trans h.size hc.size⟩
theorem endT_stands (w : World) (l : List Bs) (B : Nat) (hB : w.heap.size ≤ B) (c : Code) : StandsKeep B (EndT w l c) := by
  intro s A C h hc
  exact ⟨h.ret, h.bad, blk_standsK h.r hc, blk_standsK h.e hc, h.below.trans (hc.to_below (fun i hi => by rintro ⟨e, _⟩; omega) h.below.size)⟩
/-- What threes answers. -/
def thrS (t : Bs) : List Tri × Int := match thrO t with
  | some ns => (trisO ns, 0)
  | none => ([], 4)

theorem pre_range {pre : List Nat} {x q : Nat} (h : pre ++ [x] <+: List.range q) : pre.length = x ∧ x < q := by
  have h1 := List.prefix_iff_eq_take.1 h
  have hl := h.length_le
  rw [List.length_append, List.length_singleton, List.length_range] at hl
  have h2 : (pre ++ [x])[pre.length]? = some x := by simp
  rw [h1, List.getElem?_take] at h2
  rw [if_pos (by simp), List.getElem?_range (by omega)] at h2
  injection h2 with h2
  omega
theorem chunk_any (n n₀ : Nat) (hn : 1 ≤ n) {base : Nat} {w1 : World} (l : List Bs) (A : Option Addr) (c q lo : Nat) (hq : l.length = 3 * q) (hq2 : q ≤ 1000000000) (w0 : World) (hv : w1.ownsRow base 9 1 (.slice A l.length c) l.length (strs l)) (hs : Blk w0 lo 49 #[.slice A (3 * q) c]) (h3 : Blk w0 (lo + 1) 3 #[.int .i64 3]) (hle : n₀ ≤ w0.heap.size) :
    ∃ g, (0 < q → A = some ⟨g, 0, none⟩) ∧ SeqKeep Fence.wide n Tryz.prog 41 #[.pointer (some ⟨lo, 0, none⟩), .pointer (some ⟨lo + 1, 0, none⟩)] (chunkV g 0) n₀ lo (lo + 2) (List.range q) w0 := by
  by_cases h0 : q = 0
  · subst h0
    refine ⟨0, fun h => by omega, ?_⟩
    exact chunk0_seq n n₀ hn A c lo w0 hs
  · rcases hv.2 with ⟨_, h1⟩ | ⟨g, cap, cur, he, hbg, hg, hnc, hcm, _⟩
    · omega
    · injection he with e1 e2 e3
      subst e1 e3
      refine ⟨g, fun _ => rfl, ?_⟩
      exact chunk3_seq n n₀ hn g 0 q c lo w0 hs h3 (by omega) hq2 hcm hle
/-- Within a round of threes. -/
structure InT (be nb j : Nat) (l : List Bs) (L : List Tri) (k : Nat) (X : List Int) (W wr : World) : Prop where
  len : X.length = k
  nums : toNums (l.take (3 * j + k)) = some (flat3 L ++ X)
  box : Blk wr nb 55 (box3 X)
  ev : Blk wr be 24 #[.int .i64 0]
  chg : Chg (fun i => i = be) W wr
/-- What a round of threes meets. -/
structure RoT (w : World) (be : Nat) (l : List Bs) (sl : Value) (j : Nat) (v : Value) (L : List Tri) (W : World) : Prop where
  r : Blk W w.heap.size 52 #[.slice none 0 0]
  e : Blk W (w.heap.size + 1) 24 #[.int .i64 0]
  ev : Blk W be 24 #[.int .i64 0]
  ob : Blk W (be + 1) 52 #[v]
  own : W.ownsRow (be + 4) 55 3 v L.length (cellsI L)
  len : L.length = j
  nums : toNums (l.take (3 * j)) = some (flat3 L)
  row : Rd W be 1 sl l.length (strs l)
  below : Below w.heap.size w W
  size : be + 4 ≤ W.heap.size
  hbe : w.heap.size + 2 ≤ be

set_option maxHeartbeats 4000000 in
set_option maxRecDepth 100000 in
theorem threes_any (t : Bs) (ht : t.length ≤ 1000000000) (w : World) (hl : Lay w) :
    Calls Tryz.prog 14 #[.string ⟨t.toArray⟩] w fun e w' => ∃ v, e = .returned (.tuple #[v, .int .i64 (thrS t).2]) ∧ w'.ownsRow w.heap.size 55 3 v (thrS t).1.length (cellsI (thrS t).1) ∧ Below w.heap.size w w' := by
  have hb0 : Below w.heap.size w ((w.alloc (.cells #[.slice none 0 0] 52)).alloc (.cells #[.int .i64 0] 24)) := ((Below.refl _ w).alloc (Nat.le_refl _) _).alloc (by simp) _
  have hU := unpack_any t (by omega) _ (hl.later hb0)
  have hsm := unpackB_small t
  have r0 := (Blk.new w 52 #[.slice none 0 0]).alloc (.cells #[.int .i64 0] 24)
  have r1 := Blk.new (w.alloc (.cells #[.slice none 0 0] 52)) 24 #[.int .i64 0]
  have hz0 : ((w.alloc (.cells #[.slice none 0 0] 52)).alloc (.cells #[.int .i64 0] 24)).heap.size = w.heap.size + 2 := by simp
  simp only [World.size_alloc] at r1
  have HB0 := Lib.hid hb0
  have R0 := Lib.hid r0
  have R1 := Lib.hid r1
  have HZ0 := Lib.hid hz0
  have HSM := Lib.hid hsm
  have HTS : Hid (thrS t = match (if (unpackB t).2 = 0 ∧ (unpackB t).1.length % 3 = 0 then toNums (unpackB t).1 else none) with | some ns => (trisO ns, (0 : Int)) | none => ([], 4)) := rfl
  clear hb0 r0 r1 hsm hz0
  by_cases he : (unpackB t).2 = 0
  · by_cases h3 : (unpackB t).1.length % 3 = 0
    · have HTS2 : Hid (thrS t = match toNums (unpackB t).1 with | some ns => (trisO ns, (0 : Int)) | none => ([], 4)) := by unfold Hid; rw [HTS.out, if_pos ⟨he, h3⟩]
      rw [he] at hU
      clear HTS he
      generalize (unpackB t).1 = l at *
      obtain ⟨q, hq⟩ : ∃ q, l.length = 3 * q := ⟨l.length / 3, by omega⟩
      have hq9 : q ≤ 1000000000 := by have := HSM.out.1; omega
      refine (callsIn_wide (n := 6)).1 ?_
      refine callsIn_of_wp_marks Tryz.func14 rfl trivial ?_ rfl
      simp only [Tryz.ntmps14, List.size_toArray, List.length_cons, List.length_nil, Nat.reduceAdd, Nat.reduceSub, Array.replicate_succ, Array.replicate_zero, List.push_toArray, List.append_toArray, List.nil_append, List.cons_append]
      gi_wp2_with fail
      refine ⟨trivial, ?_⟩
      refine (callsIn_wide.2 hU).mono ?_
      rintro e w1 ⟨v, rfl, hv, hb1⟩
      obtain ⟨A, c, rfl⟩ := own_shape hv
      have HV := Lib.hid hv
      have HB1 := Lib.hid hb1
      have hsz1 : w.heap.size + 2 ≤ w1.heap.size := by have := hb1.size; have := HZ0.out; omega
      have r0 := Lib.hid (R0.out.below hb1 (by rw [HZ0.out]; omega))
      have r1 := Lib.hid (R1.out.below hb1 (by rw [HZ0.out]; omega))
      have hbw : Hid (Below w.heap.size w w1) := HB0.out.trans (hb1.mono HB0.out.size)
      clear hU hv hb1 R0 R1 HB0 HB1
      gi_wp2_with fail
      refine ⟨trivial, ?_⟩
      refine (chunk_in _ A (3 * q) c _).mono ?_
      rintro e w2 ⟨rfl, rfl⟩
      simp only [World.size_alloc]
      gi_wp2
      have b0 := ((((Blk.new w1 24 #[.int .i64 0]).alloc (.cells #[.slice none 0 0] 52)).alloc (.cells #[.slice A (3 * q) c] 49)).alloc (.cells #[.int .i64 3] 3))
      have b1 := (((Blk.new (w1.alloc (.cells #[.int .i64 0] 24)) 52 #[.slice none 0 0]).alloc (.cells #[.slice A (3 * q) c] 49)).alloc (.cells #[.int .i64 3] 3))
      have b2 := ((Blk.new ((w1.alloc (.cells #[.int .i64 0] 24)).alloc (.cells #[.slice none 0 0] 52)) 49 #[.slice A (3 * q) c]).alloc (.cells #[.int .i64 3] 3))
      have b3 := (Blk.new (((w1.alloc (.cells #[.int .i64 0] 24)).alloc (.cells #[.slice none 0 0] 52)).alloc (.cells #[.slice A (3 * q) c] 49)) 3 #[.int .i64 3])
      have hC0 : Below w1.heap.size w1 ((((w1.alloc (.cells #[.int .i64 0] 24)).alloc (.cells #[.slice none 0 0] 52)).alloc (.cells #[.slice A (3 * q) c] 49)).alloc (.cells #[.int .i64 3] 3)) :=
        ((((Below.refl _ w1).alloc (Nat.le_refl _) _).alloc (by simp) _).alloc (by simp; omega) _).alloc (by simp; omega) _
      have hz2 : ((((w1.alloc (.cells #[.int .i64 0] 24)).alloc (.cells #[.slice none 0 0] 52)).alloc (.cells #[.slice A (3 * q) c] 49)).alloc (.cells #[.int .i64 3] 3)).heap.size = w1.heap.size + 4 := by simp
      simp only [World.size_alloc] at b1 b2 b3
      generalize ((((w1.alloc (.cells #[.int .i64 0] 24)).alloc (.cells #[.slice none 0 0] 52)).alloc (.cells #[.slice A (3 * q) c] 49)).alloc (.cells #[.int .i64 3] 3)) = w3 at b0 b1 b2 b3 hC0 hz2 ⊢
      have HRd : Hid (Rd w1 w1.heap.size 1 (.slice A (3 * q) c) l.length (strs l)) := by
        have := Rd.of_own HV.out
        rw [hq] at this ⊢
        exact this
      have r0 := Lib.hid (r0.out.below hC0 (by omega))
      have r1 := Lib.hid (r1.out.below hC0 (by omega))
      have HB3 : Hid (Below w.heap.size w w3) := hbw.out.trans (hC0.mono (by omega))
      have HR3 := Lib.hid (HRd.out.below hC0)
      obtain ⟨g, hAg, hseq⟩ := chunk_any 5 w.heap.size (by omega) l A c q (w1.heap.size + 1 + 1) hq hq9 w3 HV.out b2 b3 (by omega)
      clear HRd hC0 hbw HV b2 b3
      refine wpIn_rangeFunc_keep (f0 := none) rfl (by omega) (gf := 41) (lb := #[.pointer (some ⟨w1.heap.size + 1 + 1, 0, none⟩), .pointer (some ⟨w1.heap.size + 1 + 1 + 1, 0, none⟩)]) rfl trivial (enters_of Tryz.func41 (by kernel_rfl) rfl) rfl
        (n₀ := w.heap.size) (lo := w1.heap.size + 1 + 1) (hi := w1.heap.size + 1 + 1 + 2) (w0 := w3) (by omega) (by omega) hseq (Below.refl _ _) (fun _ => rfl)
        (MidT w w1.heap.size l (.slice A (3 * q) c)) (EndT w l) (midT_stands w w1.heap.size l _ _ (by omega) (by omega)) (endT_stands w l _ (by omega)) ⟨r0.out, r1.out, b0, ⟨_, [], b1, World.ownsRow_nil _ _ _ _, rfl, rfl⟩, HR3.out, HB3.out, by omega⟩
        (fun x => { tmps := #[.string ⟨t.toArray⟩, undef, .pointer (some ⟨w.heap.size, 0, none⟩), .pointer (some ⟨w.heap.size + 1, 0, none⟩), .slice A (3 * q) c, .pointer (some ⟨w1.heap.size, 0, none⟩), .pointer (some ⟨w1.heap.size + 1, 0, none⟩), .slice (some ⟨g, 3 * x, none⟩) 3 3, undef, undef, undef,
          .tuple #[.slice A (3 * q) c, .int .i64 0], .string ⟨t.toArray⟩, .tuple #[.slice A (3 * q) c, .int .i64 0], .slice A (3 * q) c, .int .i64 0, .int .i64 0, .bool false, .bool false, .slice A (3 * q) c, .int .i64 (3 * q), .int .i64 0, .bool false, .bool false, .slice A (3 * q) c,
          .func (.func 41) #[] #[.pointer (some ⟨w1.heap.size + 1 + 1, 0, none⟩), .pointer (some ⟨w1.heap.size + 1 + 1 + 1, 0, none⟩)], .slice (some ⟨g, 3 * x, none⟩) 3 3, undef, undef, undef, undef, undef, undef, undef, undef, undef, undef, undef, undef, undef, undef, undef, undef, undef, undef, undef, undef, undef, undef, undef], defers := [] }) ?assign ?body ?done ?stop
      case assign =>
        intro l x W K hK
        simp only [chunkV]
        gi_wp2
        exact hK
      case body =>
        rintro ll pre x W hpx hI
        obtain ⟨hpl, hxq⟩ := pre_range hpx
        obtain ⟨v, L, hOb, hOw, hLl, hNm⟩ := hI.out
        have hRo : Hid (RoT w w1.heap.size l (.slice A (3 * q) c) x v L W) := ⟨hI.r, hI.e, hI.ev, hOb, hOw, by omega, by rw [hpl] at hNm; exact hNm, hI.row, hI.below, hI.size, hsz1⟩
        have hA' := hAg (by omega)
        clear hI hOb hOw hLl hNm hAg hseq b0 b1 r0 r1 HB3 HR3 hz2 hsz1
        subst hA'
        gi_wp2_with fail
        gi_loopw [29] (fun i wr => ∃ (k : Nat) (X : List Int), k ≤ 3 ∧ i = .int .i64 k ∧ Hid (InT w1.heap.size W.heap.size x l L k X W wr)) (fun i _ => 3 - (intOf i).toNat)
        case atStart => 
          refine ⟨0, [], by omega, rfl, rfl, by simpa using hRo.out.nums, Blk.new _ _ _, hRo.out.ev.alloc _, (Chg.refl _ W).alloc _⟩
        case round =>
          obtain ⟨k, X, hk, rfl, HI⟩ := hrel
          by_cases hlt : k < 3
          · have hd : 3 * x + k < l.length := by omega
            have hrow : Rd wr w1.heap.size 1 (.slice (some ⟨g, 0, none⟩) (3 * q) c) l.length (strs l) := hRo.out.row.chg HI.out.chg (fun i hi h => by omega)
            obtain ⟨g', of', c', hV, _, q0⟩ := rd_gets hrow hd
            injection hV with hA1 hB1 hC1
            injection hA1 with hA1
            injection hA1 with hA1 hA2 hA3
            subst hA1
            subst hA2
            clear hB1 hC1 hA3
            rw [show 0 + (3 * x + k) = 3 * x + k by omega] at q0
            have hsl := HSM.out.2 l[3 * x + k] (List.getElem_mem hd)
            have HT := Lib.hid (toNums_take l (3 * x + k) hd _ HI.out.nums)
            have HNO := Lib.hid (toNums_none l (3 * x + k) hd)
            have h4 := toNum_fourU l[3 * x + k]
            clear hrow
            generalize l[3 * x + k] = s at *
            have k1 : ((k : Int)) < 3 := by omega
            have hN := toNum_any s (by omega) wr (hl.later ((hRo.out.below).trans (HI.out.chg.to_below (fun i hi h => by have := hRo.out.hbe; omega) hRo.out.below.size)))
            have c1 := HI.out.ev.cell 0
            have c2 := HI.out.ev.frozen 0
            have HIN := Lib.hid HI
            clear HI
            by_cases h0 : (toNumB s).2 = 0
            · rw [h0] at hN
              have HT2 : Hid (toNums (l.take (3 * x + (k + 1))) = some (flat3 L ++ (X ++ [(toNumB s).1]))) := by unfold Hid; rw [← Nat.add_assoc, HT.out, if_pos h0, List.append_assoc]
              clear HT HNO h0 h4
              generalize (toNumB s).1 = n at *
              gi_wp2_with fail
              refine ⟨trivial, ?_⟩
              refine (CallsIn.inRound ll (callsIn_wide.2 hN)).mono ?_
              rintro e w5 ⟨rfl, hb5⟩
              have b5 : Blk w5 W.heap.size 55 (box3 X) := HIN.out.out.box.below hb5 HIN.out.out.box.lt
              have e5 : Blk w5 w1.heap.size 24 #[.int .i64 0] := HIN.out.out.ev.below hb5 HIN.out.out.ev.lt
              have ke := e5.cell 0
              have kf := e5.frozen 0
              have kf2 := b5.frozen k
              have hne1 : W.heap.size ≠ w1.heap.size := by have := hRo.out.size; omega
              have hne2 : w1.heap.size ≠ W.heap.size := hne1.symm
              have hlt5 := b5.lt
              have hlt6 := e5.lt
              have k0 : (0 : Int) ≤ (k : Int) := by omega
              obtain ⟨u5, kc5⟩ : ∃ u, w5.cell? ⟨W.heap.size, k, none⟩ = some u := ⟨_, (b5.cell k).trans (Array.getElem?_eq_getElem (by simpa [box3] using hlt))⟩
              gi_wp2_with fail
              refine ⟨⟨k + 1, X ++ [n], by omega, by simp, ⟨by simp [HIN.out.out.len], HT2.out, ?_, (e5.far (p := ⟨W.heap.size, k, none⟩) hne2 _).set_ 0 _, ?_⟩⟩, by simp [intOf]; omega⟩
              · have := b5.set_ k (.int .i64 n)
                rw [box3_put X n k HIN.out.out.len hlt] at this
                exact this.far (p := ⟨w1.heap.size, 0, none⟩) hne1 _
              · exact ((HIN.out.out.chg.below hb5).setCell (p := ⟨W.heap.size, k, none⟩) (fun h => absurd h (Nat.lt_irrefl _)) _).setCell (p := ⟨w1.heap.size, 0, none⟩) (fun _ => rfl) _
            · have h4' := h4 h0
              rw [h4'] at hN
              have hbad : Hid (toNums l = none) := HNO.out h0
              clear h4 h0 HNO HT h4'
              generalize (toNumB s).1 = n at *
              gi_wp2_with fail
              refine ⟨trivial, ?_⟩
              refine (CallsIn.inRound ll (callsIn_wide.2 hN)).mono ?_
              rintro e w5 ⟨rfl, hb5⟩
              have hC5 := HIN.out.out.chg.below hb5
              have b5 : Blk w5 W.heap.size 55 (box3 X) := HIN.out.out.box.below hb5 HIN.out.out.box.lt
              have e5 : Blk w5 w1.heap.size 24 #[.int .i64 0] := HIN.out.out.ev.below hb5 HIN.out.out.ev.lt
              have y0 := hRo.out.r.chg hC5 (by have := hRo.out.hbe; omega)
              have y1 := hRo.out.e.chg hC5 (by have := hRo.out.hbe; omega)
              have ke := e5.cell 0
              have kf := e5.frozen 0
              have kf2 := b5.frozen k
              have hne1 : W.heap.size ≠ w1.heap.size := by have := hRo.out.size; omega
              have hne2 : w1.heap.size ≠ W.heap.size := hne1.symm
              have hne3 : w.heap.size ≠ W.heap.size := by have := hRo.out.size; have := hRo.out.hbe; omega
              have hne4 : w.heap.size + 1 ≠ W.heap.size := by have := hRo.out.size; have := hRo.out.hbe; omega
              have hne5 : w.heap.size ≠ w1.heap.size := by have := hRo.out.hbe; omega
              have hne6 : w.heap.size + 1 ≠ w1.heap.size := by have := hRo.out.hbe; omega
              have k0 : (0 : Int) ≤ (k : Int) := by omega
              obtain ⟨u5, kc5⟩ : ∃ u, w5.cell? ⟨W.heap.size, k, none⟩ = some u := ⟨_, (b5.cell k).trans (Array.getElem?_eq_getElem (by simpa [box3] using hlt))⟩
              have hC6 := (hC5.setCell (p := ⟨W.heap.size, k, none⟩) (fun h => absurd h (Nat.lt_irrefl _)) (.int .i64 n)).setCell (p := ⟨w1.heap.size, 0, none⟩) (fun _ => rfl) (.int .i64 4)
              have g0 := (y0.far (p := ⟨W.heap.size, k, none⟩) hne3 (.int .i64 n)).far (p := ⟨w1.heap.size, 0, none⟩) hne5 (.int .i64 4)
              have g1 := (y1.far (p := ⟨W.heap.size, k, none⟩) hne4 (.int .i64 n)).far (p := ⟨w1.heap.size, 0, none⟩) hne6 (.int .i64 4)
              have g2 := (e5.far (p := ⟨W.heap.size, k, none⟩) hne2 (.int .i64 n)).set_ 0 (.int .i64 4)
              have hHH := Lib.hid (And.intro hC6 (And.intro g0 (And.intro g1 g2)))
              clear hC5 hC6 g0 g1 g2 b5 y0 y1 hN HIN q0 c1 c2 hb5
              gi_wp2_with fail
              generalize ((w5.setCell ⟨W.heap.size, k, none⟩ (.int .i64 n)).setCell ⟨w1.heap.size, 0, none⟩ (.int .i64 4)) = w6 at hHH ⊢
              obtain ⟨hC6, g0, g1, g2⟩ := hHH.out
              have v0 := g0.cell 0
              have v1 := g1.cell 0
              have v2 := g2.cell 0
              have x0 := g0.frozen 0
              have x1 := g1.frozen 0
              clear ke kf kf2 kc5 hHH e5 hne1 hne2 hne3 hne4
              have hC6' := hC6.mono (F' := fun i => i = w1.heap.size ∨ i = w.heap.size ∨ i = w.heap.size + 1) (fun _ _ h => .inl h)
              have hA := ((hC6'.setCell (p := ⟨w.heap.size, 0, none⟩) (fun _ => .inr (.inl rfl)) (.slice none 0 0)).setCell (p := ⟨w.heap.size + 1, 0, none⟩) (fun _ => .inr (.inr rfl)) (.int .i64 4))
              have hB := ((hC6'.setCell (p := ⟨w.heap.size + 1, 0, none⟩) (fun _ => .inr (.inr rfl)) (.int .i64 4)).setCell (p := ⟨w.heap.size, 0, none⟩) (fun _ => .inr (.inl rfl)) (.slice none 0 0))
              have a0 := (g0.set_ 0 (.slice none 0 0)).far (p := ⟨w.heap.size + 1, 0, none⟩) (by simp) (.int .i64 4)
              have a1 := (g1.far (p := ⟨w.heap.size, 0, none⟩) (by simp) (.slice none 0 0)).set_ 0 (.int .i64 4)
              have b0 := (g0.far (p := ⟨w.heap.size + 1, 0, none⟩) (by simp) (.int .i64 4)).set_ 0 (.slice none 0 0)
              have b1 := (g1.set_ 0 (.int .i64 4)).far (p := ⟨w.heap.size, 0, none⟩) (by simp) (.slice none 0 0)
              have hko : ∀ W', Chg (fun i => i = w1.heap.size ∨ i = w.heap.size ∨ i = w.heap.size + 1) W W' → KeepsOthers W W' ∧ Below w.heap.size w W' := fun W' h => by
                refine ⟨keeps_chg h ?_, hRo.out.below.trans (h.to_below (fun i hi h => by have := hRo.out.hbe; omega) hRo.out.below.size)⟩
                rintro k (rfl | rfl | rfl) o ho
                · rw [show W.heap[w1.heap.size]? = _ from hRo.out.ev] at ho; cases ho; rfl
                · rw [show W.heap[w.heap.size]? = _ from hRo.out.r] at ho; cases ho; rfl
                · rw [show W.heap[w.heap.size + 1]? = _ from hRo.out.e] at ho; cases ho; rfl
              have HF := Lib.hid (And.intro hA (And.intro hB (And.intro a0 (And.intro a1 (And.intro b0 (And.intro b1 hko))))))
              clear hA hB a0 a1 b0 b1 hko hC6 hC6' g0 g1 g2
              gi_region
              gi_wp2
              all_goals
                obtain ⟨hA, hB, a0, a1, b0, b1, hko⟩ := HF.out
                first
                | exact ⟨(hko _ hA.drew).1, rfl, hbad.out, a0.drew, a1.drew, (hko _ hA.drew).2⟩
                | exact ⟨(hko _ hB.drew).1, rfl, hbad.out, b0.drew, b1.drew, (hko _ hB.drew).2⟩
          · obtain rfl : k = 3 := by omega
            obtain ⟨a, b, cc, rfl⟩ := three_ofU X HI.out.len
            obtain ⟨i0, hi, hz0, hz1, hz2⟩ := info_parts tri_info
            have hC := HI.out.chg
            have hbx := HI.out.box
            have z0 : wr.cell? ⟨W.heap.size, 0, none⟩ = some (.int .i64 a) := hbx.cell 0
            have z1 : wr.cell? ⟨W.heap.size, 1, none⟩ = some (.int .i64 b) := hbx.cell 1
            have z2 : wr.cell? ⟨W.heap.size, 2, none⟩ = some (.int .i64 cc) := hbx.cell 2
            have hOb := hRo.out.ob.chg hC (by omega)
            have hrow := hC.owns hRo.out.own (fun g h e => by have := (hRo.out.own.lt g h).1; omega)
            have hc := hOb.cell 0
            have hfz := hOb.frozen 0
            have hwz := hRo.out.size
            have hz9 := hC.size
            have hb1 : L.length + 1 ≤ maxLen := by have := hRo.out.len; show _ ≤ 9223372036854775807; omega
            have hb2 : (L.length + 1) * 24 ≤ 140737488355328 := by have := hRo.out.len; omega
            have HII := Lib.hid HI
            clear hC hbx HI
            gi_wp2_with (gi_at_builtin; refine wpListIn_append_own _ rfl _ _ 52 rfl (w1.heap.size + 4) 55 i0 (.agg #[.int .i64 0, .int .i64 0, .int .i64 0]) 3 24 Tryz.underlying52 hi hz0 hz1 hz2 rfl (by decide) _ _ _ rfl (hrow.alloc _) ⟨wr.heap.size, 0, none⟩ 1 1 [.int .i64 a, .int .i64 b, .int .i64 cc] rfl rfl (news_box (cs := #[.int .i64 a, .int .i64 b, .int .i64 cc]) rfl) (by simp [Value.oneCell']) hb1 hb2 (by simp; omega) ?_; intro v' w5 hown' hgrow _; obtain ⟨g', cap', rfl⟩ := ownsRow_succ hown'; have hO := blk_chg hOb (chg_app hgrow) (fun h => by have := (hrow.lt _ h).1; omega); have hc1 := hO.cell 0; have hf1 := hO.frozen 0)
            have hC1 : Chg (fun i => i = w1.heap.size ∨ v.ownBlock = some i) W w5 := (HII.out.out.chg.mono (fun _ _ h => Or.inl h)).trans (chg_app hgrow) (fun i _ h => .inr h)
            have hC2 : Chg (fun i => i = w1.heap.size ∨ v.ownBlock = some i ∨ i = w1.heap.size + 1) W (w5.setCell ⟨w1.heap.size + 1, 0, none⟩ (.slice (some ⟨g', 0, none⟩) (L.length + 1) cap')) :=
              (hC1.mono (fun _ _ h => h.imp id .inl)).setCell (p := ⟨w1.heap.size + 1, 0, none⟩) (fun _ => .inr (.inr rfl)) _
            have hFar : ∀ i, (i = w1.heap.size ∨ v.ownBlock = some i ∨ i = w1.heap.size + 1) → w.heap.size + 2 ≤ i ∧ (i < w1.heap.size + 2 ∨ w1.heap.size + 4 ≤ i) := by
              have := hRo.out.hbe
              rintro i (h | h | h)
              · omega
              · have := (hrow.lt i h).1
                omega
              · omega
            have hown2 := ((Chg.refl (fun k => k = w1.heap.size + 1) w5).setCell (p := ⟨w1.heap.size + 1, 0, none⟩) (fun _ => rfl) (.slice (some ⟨g', 0, none⟩) (L.length + 1) cap')).owns hown' (fun g h e => by have := (hown'.lt g h).1; omega)
            have hb5 := hC2.to_below (B := w.heap.size) (fun i hi h => by have := hFar i h; omega) hRo.out.below.size
            refine ⟨keeps_chg hC2 ?_, ⟨hb5, fun b h1 h2 => hC2.block b (by omega) (fun h => by have := hFar b h; omega)⟩, ?_⟩
            · rintro k (rfl | h | rfl) o ho
              · rw [show W.heap[w1.heap.size]? = _ from hRo.out.ev] at ho; cases ho; rfl
              · rcases hRo.out.own.2 with ⟨rfl, _⟩ | ⟨g', cap, cur, rfl, _, hgg, _⟩
                · cases h
                · cases h
                  rw [hgg] at ho
                  cases ho
                  rfl
              · rw [show W.heap[w1.heap.size + 1]? = _ from hRo.out.ob] at ho; cases ho; rfl
            · refine ⟨hRo.out.r.chg hC2 (fun h => by have := hFar _ h; omega), hRo.out.e.chg hC2 (fun h => by have := hFar _ h; omega), ?_, ⟨_, L ++ [(a, b, cc)], hO.set_ 0 _, ?_, by simp [hRo.out.len, hpl], ?_⟩, hRo.out.row.chg hC2 (fun i hi h => ?_), hRo.out.below.trans hb5, Nat.le_trans hRo.out.size hC2.size⟩
              · have h1 := HII.out.out.ev
                exact ((h1.alloc _).grown hgrow (fun h => by have := (hrow.lt _ h.symm).1; omega)).far (p := ⟨w1.heap.size + 1, 0, none⟩) (by simp) _
              · rw [List.length_append, List.length_singleton, cellsI_append]
                exact hown2
              · have h1 := HII.out.out.nums
                rw [List.length_append, List.length_singleton, hpl, flat3_snoc]
                exact h1
              · rcases h with h | h | h
                · omega
                · have := (hrow.lt _ h).1
                  omega
                · omega
      case done =>
        rintro D W hD hI hK
        obtain ⟨v, L, hv, hrow, hLl, hNm⟩ := hI.out
        obtain ⟨A', c', rfl⟩ := own_shape hrow
        have hlr : (List.range q).length = q := List.length_range
        rw [hlr, ← hq, List.take_length] at hNm
        have hc := hv.cell 0
        have hc1 := hI.r.cell 0
        have hf1 := hI.r.frozen 0
        have hc2 := hI.e.cell 0
        have hf2 := hI.e.frozen 0
        have hUn : Hid (thrS t = (L, 0)) := by unfold Hid; rw [HTS2.out, hNm]; simp only; unfold flat3; rw [tris_of]
        have hrowH := Lib.hid hrow
        have hsz1' := hsz1
        clear HTS2 hrow hNm hLl
        gi_wp2
        have hC2 : Chg (fun k => k = w.heap.size ∨ k = w.heap.size + 1) W ((W.setCell ⟨w.heap.size, 0, none⟩ (.slice A' L.length c')).setCell ⟨w.heap.size + 1, 0, none⟩ (.int .i64 0)) :=
          ((Chg.refl _ W).setCell (p := ⟨w.heap.size, 0, none⟩) (fun _ => .inl rfl) _).setCell (p := ⟨w.heap.size + 1, 0, none⟩) (fun _ => .inr rfl) _
        have hr5 := (hI.r.set_ 0 (.slice A' L.length c')).far (p := ⟨w.heap.size + 1, 0, none⟩) (by simp) (.int .i64 0)
        have he5 := (hI.e.far (p := ⟨w.heap.size, 0, none⟩) (by simp) (.slice A' L.length c')).set_ 0 (.int .i64 0)
        have hK' := (hC2.block D (Array.getElem?_eq_some_iff.1 hK).1 (by omega)).trans hK
        have hown := hC2.owns hrowH.out (fun g h e => by have := (hrowH.out.lt g h).1; omega)
        have hbw := hI.below.trans (hC2.to_below (B := w.heap.size) (fun i hi h => by omega) hI.below.size)
        refine ⟨by simp, .inl ⟨_, _, rfl, run_takeDeferred hK', ?_⟩⟩
        generalize (W.setCell ⟨w.heap.size, 0, none⟩ (.slice A' L.length c')).setCell ⟨w.heap.size + 1, 0, none⟩ (.int .i64 0) = W5 at hr5 he5 hK' hown hbw ⊢
        have hr6 : Blk (W5.putObj D (.deferred none)) w.heap.size 52 _ := (World.putObj_heap_other (by omega)).trans hr5
        have he6 : Blk (W5.putObj D (.deferred none)) (w.heap.size + 1) 24 _ := (World.putObj_heap_other (by omega)).trans he5
        have z1 := hr6.cell 0
        have z2 := he6.cell 0
        refine ⟨.tuple #[.slice A' L.length c', .int .i64 0], ?_, .slice A' L.length c', by rw [hUn.out], ?_, ?_⟩
        · simp [results, Tryz.results14, go_sem, z1, z2]
        · rw [hUn.out]
          exact own_weaken (ownsRow_putObj hown (.deferred none) hK' rfl) (by omega)
        · exact hbw.trans (belowK_b (w := w) (Nat.le_refl _) W5 D _ _ (by omega) hK' rfl rfl)
      case stop =>
        rintro D c pre W hD hpre hE hK
        have hUn : Hid (thrS t = ([], 4)) := by unfold Hid; rw [HTS2.out, hE.bad]
        have hr6 : Blk (W.putObj D (.deferred none)) w.heap.size 52 _ := (World.putObj_heap_other (by omega)).trans hE.r
        have he6 : Blk (W.putObj D (.deferred none)) (w.heap.size + 1) 24 _ := (World.putObj_heap_other (by omega)).trans hE.e
        have z1 := hr6.cell 0
        have z2 := he6.cell 0
        have hb := hE.below
        obtain rfl := hE.ret
        clear HTS2 hE hpre
        gi_wp2
        refine ⟨by simp, .inl ⟨_, _, rfl, run_takeDeferred hK, ?_⟩⟩
        refine ⟨.tuple #[.slice none 0 0, .int .i64 4], ?_, .slice none 0 0, by rw [hUn.out], ?_, ?_⟩
        · simp [results, Tryz.results14, go_sem, z1, z2]
        · rw [hUn.out]
          exact World.ownsRow_nil _ _ _ _
        · exact hb.trans (belowK_b (w := w) (Nat.le_refl _) W D _ _ (by omega) hK rfl rfl)
    · have hmod : (((unpackB t).1.length : Int) % 3 != 0) = true := by simp only [bne_iff_ne, ne_eq]; omega
      have HF : Hid (thrS t = ([], 4)) := by unfold Hid; rw [HTS.out, if_neg (fun h => h3 h.2)]
      rw [he] at hU
      clear HTS

      refine (callsIn_wide (n := 6)).1 ?_
      refine callsIn_of_wp_marks Tryz.func14 rfl trivial ?_ rfl
      simp only [Tryz.ntmps14, List.size_toArray, List.length_cons, List.length_nil, Nat.reduceAdd, Nat.reduceSub, Array.replicate_succ, Array.replicate_zero, List.push_toArray, List.append_toArray, List.nil_append, List.cons_append]
      gi_wp2_with fail
      refine ⟨trivial, ?_⟩
      refine (callsIn_wide.2 hU).mono ?_
      rintro e w1 ⟨v, rfl, hv, hb1⟩
      obtain ⟨A, c, rfl⟩ := own_shape hv
      have r0 := (R0.out.below hb1 (by rw [HZ0.out]; omega)).alloc (.cells #[.int .i64 0] 24)
      have r1 := (R1.out.below hb1 (by rw [HZ0.out]; omega)).alloc (.cells #[.int .i64 0] 24)
      have hbw : Hid (Below w.heap.size w (w1.alloc (.cells #[.int .i64 0] 24))) := (HB0.out.trans (hb1.mono HB0.out.size)).alloc (HB0.out.trans (hb1.mono HB0.out.size)).size _
      have v0 := r0.cell 0
      have v1 := r1.cell 0
      have x0 := r0.frozen 0
      have x1 := r1.frozen 0
      have hlt := Lib.hid r0.lt
      have hlt1 := Lib.hid r1.lt
      have a0 := (r0.set_ 0 (.slice none 0 0)).far (p := ⟨w.heap.size + 1, 0, none⟩) (by simp) (.int .i64 4)
      have a1 := (r1.far (p := ⟨w.heap.size, 0, none⟩) (by simp) (.slice none 0 0)).set_ 0 (.int .i64 4)
      have hC : Below w.heap.size w (((w1.alloc (.cells #[.int .i64 0] 24)).setCell ⟨w.heap.size, 0, none⟩ (.slice none 0 0)).setCell ⟨w.heap.size + 1, 0, none⟩ (.int .i64 4)) :=
        hbw.out.trans ((((Chg.refl (fun i => w.heap.size ≤ i) (w1.alloc (.cells #[.int .i64 0] 24))).setCell (p := ⟨w.heap.size, 0, none⟩) (fun _ => Nat.le_refl _) _).setCell (p := ⟨w.heap.size + 1, 0, none⟩) (fun _ => Nat.le_succ _) _).to_below (fun i hi h => by omega) hbw.out.size)
      have HA := Lib.hid (And.intro a0 (And.intro a1 hC))
      clear hU hv hb1 R0 R1 HB0 a0 a1 hC r0 r1
      gi_wp2
      obtain ⟨a0, a1, hC⟩ := HA.out
      have z1 := a0.cell 0
      have z2 := a1.cell 0
      refine ⟨.tuple #[.slice none 0 0, .int .i64 4], ?_, .slice none 0 0, by rw [HF.out], ?_, hC⟩
      · simp [results, Tryz.results14, go_sem, z1, z2]
      · rw [HF.out]
        exact World.ownsRow_nil _ _ _ _
  · have hu := unpackB_fourU t he
    have HF : Hid (thrS t = ([], 4)) := by unfold Hid; rw [HTS.out, if_neg (fun h => he h.1)]
    rw [hu] at hU
    clear HTS

    refine (callsIn_wide (n := 6)).1 ?_
    refine callsIn_of_wp_marks Tryz.func14 rfl trivial ?_ rfl
    simp only [Tryz.ntmps14, List.size_toArray, List.length_cons, List.length_nil, Nat.reduceAdd, Nat.reduceSub, Array.replicate_succ, Array.replicate_zero, List.push_toArray, List.append_toArray, List.nil_append, List.cons_append]
    gi_wp2_with fail
    refine ⟨trivial, ?_⟩
    refine (callsIn_wide.2 hU).mono ?_
    rintro e w1 ⟨v, rfl, hv, hb1⟩
    obtain ⟨A, c, rfl⟩ := own_shape hv
    have r0 := (R0.out.below hb1 (by rw [HZ0.out]; omega)).alloc (.cells #[.int .i64 4] 24)
    have r1 := (R1.out.below hb1 (by rw [HZ0.out]; omega)).alloc (.cells #[.int .i64 4] 24)
    have hbw : Hid (Below w.heap.size w (w1.alloc (.cells #[.int .i64 4] 24))) := (HB0.out.trans (hb1.mono HB0.out.size)).alloc (HB0.out.trans (hb1.mono HB0.out.size)).size _
    have v0 := r0.cell 0
    have v1 := r1.cell 0
    have x0 := r0.frozen 0
    have x1 := r1.frozen 0
    have hlt := Lib.hid r0.lt
    have hlt1 := Lib.hid r1.lt
    have a0 := (r0.set_ 0 (.slice none 0 0)).far (p := ⟨w.heap.size + 1, 0, none⟩) (by simp) (.int .i64 4)
    have a1 := (r1.far (p := ⟨w.heap.size, 0, none⟩) (by simp) (.slice none 0 0)).set_ 0 (.int .i64 4)
    have hC : Below w.heap.size w (((w1.alloc (.cells #[.int .i64 4] 24)).setCell ⟨w.heap.size, 0, none⟩ (.slice none 0 0)).setCell ⟨w.heap.size + 1, 0, none⟩ (.int .i64 4)) :=
      hbw.out.trans ((((Chg.refl (fun i => w.heap.size ≤ i) (w1.alloc (.cells #[.int .i64 4] 24))).setCell (p := ⟨w.heap.size, 0, none⟩) (fun _ => Nat.le_refl _) _).setCell (p := ⟨w.heap.size + 1, 0, none⟩) (fun _ => Nat.le_succ _) _).to_below (fun i hi h => by omega) hbw.out.size)
    have HA := Lib.hid (And.intro a0 (And.intro a1 hC))
    clear hU hv hb1 R0 R1 HB0 a0 a1 hC r0 r1
    gi_wp2
    obtain ⟨a0, a1, hC⟩ := HA.out
    have z1 := a0.cell 0
    have z2 := a1.cell 0
    refine ⟨.tuple #[.slice none 0 0, .int .i64 4], ?_, .slice none 0 0, by rw [HF.out], ?_, hC⟩
    · simp [results, Tryz.results14, go_sem, z1, z2]
    · rw [HF.out]
      exact World.ownsRow_nil _ _ _ _

end Go.Proofs.YtijacbnoemjgcaaGreatDoor
