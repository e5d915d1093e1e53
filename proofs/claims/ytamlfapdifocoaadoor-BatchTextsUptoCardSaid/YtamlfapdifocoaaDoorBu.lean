/- A batch's text, and the texts of a batch; the document's answer. -/
import Derived.Test.YtamlfapdifocoaaDoorNi
import Derived.Test.YtamlfapdifocoaaDoorNv
import Derived.Test.YtamlfapdifocoaaDoorNlb
set_option linter.unusedVariables false
set_option linter.unusedSimpArgs false
set_option linter.unnecessarySimpa false
namespace Go.Proofs.YtamlfapdifocoaaDoor
open Go.RowKit Go.Shelf

/-- A request, by its bytes. -/
structure ReqS where
  c : Int
  n : Int
  s : Bs
def ReqS.cells (r : ReqS) : List Value := [.int .i64 r.c, .int .i64 r.n, .string ⟨r.s.toArray⟩]
theorem flat_at {α : Type} (f : α → List Value) (s : Nat) (hs : ∀ a, (f a).length = s) (l : List α) (k : Nat) (hk : k < l.length) (j : Nat) (hj : j < s) : (l.flatMap f)[k * s + j]? = (f l[k])[j]? := by
  induction l generalizing k with
  | nil => simp at hk
  | cons a l ih =>
    rw [List.flatMap_cons]
    cases k with
    | zero => rw [Nat.zero_mul, Nat.zero_add, List.getElem?_append_left (by rw [hs]; exact hj)]; rfl
    | succ k =>
      rw [List.getElem?_append_right (by rw [hs, Nat.add_mul]; omega), hs, show (k + 1) * s + j - s = k * s + j by rw [Nat.add_mul]; omega]
      rw [ih k (by simpa using hk)]
      rfl
theorem rd_reqs {w : World} {B : Nat} {v : Value} {l : List ReqS} (h : Rd w B 3 v l.length (l.flatMap ReqS.cells)) {k : Nat} (hk : k < l.length) :
    ∃ g off cap, v = .slice (some ⟨g, off, none⟩) l.length cap ∧ g < B ∧ w.cell? ⟨g, off + k * 3, none⟩ = some (.int .i64 l[k].c) ∧ w.cell? ⟨g, off + k * 3 + 1, none⟩ = some (.int .i64 l[k].n) ∧ w.cell? ⟨g, off + k * 3 + 2, none⟩ = some (.string ⟨l[k].s.toArray⟩) := by
  obtain ⟨_, A, cap, rfl, _, h0 | ⟨g, off, rfl, hg, hc⟩⟩ := h
  · omega
  · have key : ∀ j u, j < 3 → l[k].cells[j]? = some u → w.cell? ⟨g, off + k * 3 + j, none⟩ = some u := fun j u hj hu => by
      have := hc (k * 3 + j) u (by rw [flat_at ReqS.cells 3 (fun _ => rfl) l k hk j hj]; exact hu)
      rwa [← Nat.add_assoc] at this
    exact ⟨g, off, cap, rfl, hg, key 0 _ (by omega) rfl, key 1 _ (by omega) rfl, key 2 _ (by omega) rfl⟩
/-- The texts of requests. -/
def textsB (l : List ReqS) : List Bs := l.map (·.s)
theorem textsB_take (l : List ReqS) (k : Nat) (hk : k < l.length) : textsB (l.take (k + 1)) = textsB (l.take k) ++ [l[k].s] := by
  unfold textsB; rw [List.take_succ_eq_append_getElem hk, List.map_append]; rfl
/-- The texts of a batch. -/
def btextsB (t : Bs) : List Bs × Int := if (unpackB t).2 = 0 ∧ (unpackB t).1.length ≤ 4 ∧ ((unpackB t).1.all fun s => decide (s.length ≤ 4000)) = true then ((unpackB t).1, 0) else ([], 4)

def shortS (l : List Bs) : Bool := l.all fun s => decide (s.length ≤ 4000)
theorem shortS_iff (l : List Bs) : shortS l = true ↔ ∀ j (h : j < l.length), l[j].length ≤ 4000 := by
  unfold shortS
  rw [List.all_eq_true]
  constructor
  · intro h j hj
    simpa using h l[j] (List.getElem_mem hj)
  · intro h s hs
    obtain ⟨j, hj, rfl⟩ := List.getElem_of_mem hs
    simpa using h j hj
theorem long1_any (s : Bs) (w : World) : Calls Tryd.prog 17 #[.string ⟨s.toArray⟩] w fun e w' => e = .returned (.bool (decide ((4000 : Int) < s.length))) ∧ w = w' := by
  go_enter Tryd.func17, Tryd.ntmps17
  go_wp2
  go_ret
  exact ⟨rfl, rfl⟩
def LongAt (l : List Bs) (w : World) (e : Ending) (w' : World) : Prop := ∃ r : Int, e = .returned (.int .i64 r) ∧ decide (0 ≤ r) = !shortS l ∧ Below w.heap.size w w'

set_option maxHeartbeats 4000000 in
set_option maxRecDepth 100000 in
theorem longs_any (v : Value) (l : List Bs) (w : World) (hr : Rd w w.heap.size 1 v l.length (strs l)) (hm : l.length ≤ 1000000000) :
    Calls Tryd.prog 27 #[v, .func (.func 17) #[] #[]] w (LongAt l w) := by
  have HR : Hid (Rd w w.heap.size 1 v l.length (strs l)) := hr
  obtain ⟨_, A, c, rfl, _, _⟩ := hr
  have eg := enters_of Tryd.func17 (by kernel_rfl) rfl
  go_enter Tryd.func27, Tryd.ntmps27
  go_wp2
  go_loopw [5, 8] (fun i s wr => ∃ k : Nat, k ≤ l.length ∧ s = .int .i64 k ∧ Hid (∀ j (h : j < l.length), j < k → l[j].length ≤ 4000) ∧ wr = w) (fun _ i _ => l.length - (intOf i).toNat)
  case atStart => exact ⟨0, Nat.zero_le _, rfl, fun j h hj => by omega, rfl⟩
  case round =>
    obtain ⟨k, hk, rfl, HN, hw⟩ := hrel
    subst hw
    by_cases hlt : k < l.length
    · obtain ⟨g, off, c', hV, hg, hc⟩ := rd_gets HR.out hlt
      injection hV with hA _ hcc
      subst hA
      clear hcc
      by_cases hs : (4000 : Int) < l[k].length
      · have hd : decide ((4000 : Int) < l[k].length) = true := decide_eq_true hs
        have hcall := long1_any l[k] wr
        rw [hd] at hcall
        have HS : Hid (shortS l = false) := by
          unfold Hid
          cases hh : shortS l with
          | false => rfl
          | true =>
            have := (shortS_iff l).1 hh k hlt
            omega
        clear hd hs
        go_wp2_with (go_at_call 17; refine hcall.mono ?_; rintro e w' ⟨rfl, rfl⟩)
        go_ret
        exact ⟨k, rfl, by rw [HS.out]; simp, Below.refl _ _⟩
      · have hd : decide ((4000 : Int) < l[k].length) = false := decide_eq_false hs
        have hcall := long1_any l[k] wr
        rw [hd] at hcall
        have HS := Lib.hid hs
        clear hd hs
        go_wp2_with (go_at_call 17; refine hcall.mono ?_; rintro e w' ⟨rfl, rfl⟩)
        refine ⟨⟨k + 1, by omega, by simp, ?_, trivial⟩, by simp [intOf]; omega⟩
        intro j hj hjk
        rcases Nat.lt_or_ge j k with h | h
        · exact HN.out j hj h
        · have : j = k := by omega
          subst this
          have := HS.out
          omega
    · obtain rfl : k = l.length := by omega
      have HS : Hid (shortS l = true) := (shortS_iff l).2 (fun j h => HN.out j h h)
      go_wp2
      go_ret
      exact ⟨-1, rfl, by rw [HS.out]; rfl, Below.refl _ _⟩

theorem haslong_any (v : Value) (l : List Bs) (w : World) (hr : Rd w w.heap.size 1 v l.length (strs l)) (hm : l.length ≤ 1000000000) :
    Calls Tryd.prog 16 #[v, .func (.func 17) #[] #[]] w fun e w' => e = .returned (.bool (!shortS l)) ∧ Below w.heap.size w w' := by
  go_enter Tryd.func16, Tryd.ntmps16
  go_wp2_with fail
  refine (longs_any v l _ hr hm).mono ?_
  rintro e w1 ⟨r, rfl, hr, hb⟩
  have HR := Lib.hid hr
  clear hr
  go_wp2
  go_ret
  refine ⟨?_, hb⟩
  rw [← HR.out]
  rfl

theorem btexts_is (t : Bs) : btextsB t = if (unpackB t).2 = 0 ∧ (unpackB t).1.length ≤ 4 ∧ shortS (unpackB t).1 = true then ((unpackB t).1, 0) else ([], 4) := rfl
set_option maxHeartbeats 4000000 in
set_option maxRecDepth 100000 in
theorem btexts_any (t : Bs) (ht : t.length ≤ 1000000000) (w : World) (hl : Lay w) :
    Calls Tryd.prog 6 #[.string ⟨t.toArray⟩] w fun e w' => ∃ v, e = .returned (.tuple #[v, .int .i64 (btextsB t).2]) ∧ w'.ownsRow w.heap.size 9 1 v (btextsB t).1.length (strs (btextsB t).1) ∧ Below w.heap.size w w' := by
  have hU := unpack_any t (by omega) w hl
  have hbt := btexts_is t
  generalize unpackB t = u at hU hbt
  obtain ⟨l, e⟩ := u
  simp only at hU hbt
  have HBT := Lib.hid hbt
  clear hbt
  go_enter Tryd.func6, Tryd.ntmps6
  go_wp2_with fail
  refine hU.mono ?_
  rintro e' w1 ⟨v, rfl, hv, hb1⟩
  obtain ⟨A, c, rfl⟩ := own_shape hv
  clear hU
  by_cases he : e = 0
  · subst he
    by_cases h4 : l.length ≤ 4
    · have hC := haslong_any _ l w1 (Rd.of_own hv) (by omega)
      cases hs : shortS l with
      | true =>
        have ev : Hid (btextsB t = (l, 0)) := by unfold Hid; rw [HBT.out, if_pos ⟨rfl, h4, hs⟩]
        rw [hs] at hC
        clear hs
        go_wp2_with fail
        refine hC.mono ?_
        rintro e' w2 ⟨rfl, hb2⟩
        go_wp2
        go_ret2
        refine ⟨_, by rw [ev.out]; rfl, ?_, hb1.trans (hb2.mono hb1.size)⟩
        rw [ev.out]
        exact own_below hv hb2
      | false =>
        have ev : Hid (btextsB t = ([], 4)) := by unfold Hid; rw [HBT.out, if_neg (by rintro ⟨_, _, h⟩; rw [hs] at h; cases h)]
        rw [hs] at hC
        clear hs
        go_wp2_with fail
        refine hC.mono ?_
        rintro e' w2 ⟨rfl, hb2⟩
        go_wp2
        go_ret2
        refine ⟨_, by rw [ev.out]; rfl, ?_, hb1.trans (hb2.mono hb1.size)⟩
        rw [ev.out]
        exact World.ownsRow_nil _ _ _ _
    · have ev : Hid (btextsB t = ([], 4)) := by unfold Hid; rw [HBT.out, if_neg (by rintro ⟨_, h, _⟩; exact h4 h)]
      go_wp2
      go_ret2
      refine ⟨_, by rw [ev.out]; rfl, ?_, hb1⟩
      rw [ev.out]
      exact World.ownsRow_nil _ _ _ _
  · have ev : Hid (btextsB t = ([], 4)) := by unfold Hid; rw [HBT.out, if_neg (by rintro ⟨h, _⟩; exact he h)]
    go_wp2
    go_ret2
    refine ⟨_, by rw [ev.out]; rfl, ?_, hb1⟩
    rw [ev.out]
    exact World.ownsRow_nil _ _ _ _

set_option maxHeartbeats 4000000 in
set_option maxRecDepth 100000 in
theorem rbtexts_any (t : Bs) (ht : t.length ≤ 1000000000) (w : World) :
    Calls Tryd.prog 7 #[.string ⟨t.toArray⟩] w fun e w' => ∃ v, e = .returned (.tuple #[v, .int .i64 (btextsB t).2]) ∧ w'.ownsRow w.heap.size 9 1 v (btextsB t).1.length (strs (btextsB t).1) ∧ Below w.heap.size w w' := by
  have hU := runpack_any t (by omega) w
  have hbt := btexts_is t
  generalize unpackB t = u at hU hbt
  obtain ⟨l, e⟩ := u
  simp only at hU hbt
  have HBT := Lib.hid hbt
  clear hbt
  go_enter Tryd.func7, Tryd.ntmps7
  go_wp2_with fail
  refine hU.mono ?_
  rintro e' w1 ⟨v, rfl, hv, hb1⟩
  obtain ⟨A, c, rfl⟩ := own_shape hv
  clear hU
  by_cases he : e = 0
  · subst he
    by_cases h4 : l.length ≤ 4
    · have HV := Lib.hid hv
      go_wp2_with fail
      go_loopw [22] (fun i wr => ∃ k : Nat, k ≤ l.length ∧ i = .int .i64 k ∧ Hid (∀ j (h : j < l.length), j < k → l[j].length ≤ 4000) ∧ wr = w1) (fun i _ => l.length - (intOf i).toNat)
      case atStart => exact ⟨0, Nat.zero_le _, rfl, fun j h hj => by omega, rfl⟩
      case round =>
        obtain ⟨k, hk, rfl, HN, hw⟩ := hrel
        subst hw
        by_cases hlt : k < l.length
        · obtain ⟨g, off, c', hV, hg, hc⟩ := rd_gets (Rd.of_own HV.out) hlt
          injection hV with hA _ hcc
          subst hA
          clear hcc
          by_cases hs : (4000 : Int) < l[k].length
          · have ev : Hid (btextsB t = ([], 4)) := by
              unfold Hid; rw [HBT.out, if_neg]
              rintro ⟨_, _, h⟩
              have := (shortS_iff l).1 h k hlt
              omega
            go_wp2
            go_ret2
            refine ⟨_, by rw [ev.out]; rfl, ?_, hb1⟩
            rw [ev.out]
            exact World.ownsRow_nil _ _ _ _
          · go_wp2
            refine ⟨⟨k + 1, by omega, by simp, ?_, trivial⟩, by simp [intOf]; omega⟩
            intro j hj hjk
            rcases Nat.lt_or_ge j k with h | h
            · exact HN.out j hj h
            · have : j = k := by omega
              subst this
              omega
        · obtain rfl : k = l.length := by omega
          have ev : Hid (btextsB t = (l, 0)) := by unfold Hid; rw [HBT.out, if_pos ⟨by first | rfl | trivial, h4, (shortS_iff l).2 (fun j h => HN.out j h h)⟩]
          go_wp2
          go_ret2
          refine ⟨_, by rw [ev.out]; rfl, ?_, hb1⟩
          rw [ev.out]
          exact HV.out
    · have ev : Hid (btextsB t = ([], 4)) := by unfold Hid; rw [HBT.out, if_neg (by rintro ⟨_, h, _⟩; exact h4 h)]
      go_wp2
      go_ret2
      refine ⟨_, by rw [ev.out]; rfl, ?_, hb1⟩
      rw [ev.out]
      exact World.ownsRow_nil _ _ _ _
  · have ev : Hid (btextsB t = ([], 4)) := by unfold Hid; rw [HBT.out, if_neg (by rintro ⟨h, _⟩; exact he h)]
    go_wp2
    go_ret2
    refine ⟨_, by rw [ev.out]; rfl, ?_, hb1⟩
    rw [ev.out]
    exact World.ownsRow_nil _ _ _ _

end Go.Proofs.YtamlfapdifocoaaDoor
