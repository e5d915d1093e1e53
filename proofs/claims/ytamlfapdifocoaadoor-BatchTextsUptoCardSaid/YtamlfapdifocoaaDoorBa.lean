/- The leaf functions of package batch: wrong, IndexFunc at of's closure, of. -/
import Derived.Test.YtamlfapdifocoaaDoorRows
import Derived.Test.YtamlfapdifocoaaDoorMem
import Derived.Shelf.Abstract
set_option linter.unusedVariables false
set_option linter.unusedSimpArgs false
set_option linter.unnecessarySimpa false
namespace Go.Proofs.YtamlfapdifocoaaDoor
open Go.RowKit Go.Shelf

structure Req where
  c : Int
  n : Int
  t : ByteArray

def Req.val (r : Req) : Value := .agg #[.int .i64 r.c, .int .i64 r.n, .string r.t]
def Req.cells (r : Req) : List Value := [.int .i64 r.c, .int .i64 r.n, .string r.t]
def cellsOf (l : List Req) : List Value := l.flatMap Req.cells

theorem cellsOf_length (l : List Req) : (cellsOf l).length = l.length * 3 := by
  induction l with
  | nil => rfl
  | cons a l ih => simp only [cellsOf, List.flatMap_cons, List.length_append, List.length_cons] at ih ⊢; rw [ih]; simp [Req.cells]; omega
theorem cellsOf_append (l m : List Req) : cellsOf (l ++ m) = cellsOf l ++ cellsOf m := by simp [cellsOf]
theorem cellsOf_get (l : List Req) (k : Nat) (hk : k < l.length) :
    (cellsOf l)[k * 3]? = some (.int .i64 l[k].c) ∧ (cellsOf l)[k * 3 + 1]? = some (.int .i64 l[k].n) ∧ (cellsOf l)[k * 3 + 2]? = some (.string l[k].t) := by
  induction l generalizing k with
  | nil => simp at hk
  | cons a l ih =>
    cases k with
    | zero => simp [cellsOf, Req.cells]
    | succ k =>
      have := ih k (by simpa using hk)
      simp only [cellsOf, List.flatMap_cons, List.getElem_cons_succ] at this ⊢
      refine ⟨?_, ?_, ?_⟩
      · rw [show (k + 1) * 3 = (Req.cells a).length + k * 3 by simp [Req.cells]; omega, List.getElem?_append_right (by omega)]; simpa using this.1
      · rw [show (k + 1) * 3 + 1 = (Req.cells a).length + (k * 3 + 1) by simp [Req.cells]; omega, List.getElem?_append_right (by omega)]; simpa using this.2.1
      · rw [show (k + 1) * 3 + 2 = (Req.cells a).length + (k * 3 + 2) by simp [Req.cells]; omega, List.getElem?_append_right (by omega)]; simpa using this.2.2

def wrongB (c n : Int) : Bool := decide (c < 0) || decide (63 < c) || decide (n < 1) || decide (1099511627776 < n)

set_option maxRecDepth 100000 in
set_option maxHeartbeats 400000 in
theorem wrong_yes (c n : Int) (w : World) (h : wrongB c n = true) :
    Calls Tryd.prog 20 #[.int .i64 c, .int .i64 n] w fun e w' => e = .returned (.bool true) ∧ w = w' := by
  by_cases h1 : c < 0
  · go_enter Tryd.func20, Tryd.ntmps20
    go_wp2
    go_ret
    exact ⟨rfl, rfl⟩
  · by_cases h2 : 63 < c
    · go_enter Tryd.func20, Tryd.ntmps20
      go_wp2
      go_ret
      exact ⟨rfl, rfl⟩
    · by_cases h3 : n < 1
      · go_enter Tryd.func20, Tryd.ntmps20
        go_wp2
        go_ret
        exact ⟨rfl, rfl⟩
      · have h4 : 1099511627776 < n := by simpa [wrongB, h1, h2, h3] using h
        go_enter Tryd.func20, Tryd.ntmps20
        go_wp2
        go_ret
        exact ⟨rfl, rfl⟩

set_option maxRecDepth 100000 in
set_option maxHeartbeats 400000 in
theorem wrong_no (c n : Int) (w : World) (h : wrongB c n = false) :
    Calls Tryd.prog 20 #[.int .i64 c, .int .i64 n] w fun e w' => e = .returned (.bool false) ∧ w = w' := by
  simp only [wrongB, Bool.or_eq_false_iff, decide_eq_false_iff_not] at h
  obtain ⟨⟨⟨h1, h2⟩, h3⟩, h4⟩ := h
  go_enter Tryd.func20, Tryd.ntmps20
  go_wp2
  go_ret
  exact ⟨rfl, rfl⟩

set_option maxRecDepth 100000 in
set_option maxHeartbeats 400000 in
theorem of1_any (r : Req) (x : Int) (b : Nat) (w : World) (hb : b < w.heap.size) (hc : w.cell? ⟨b, 0, none⟩ = some (.int .i64 x)) :
    Calls Tryd.prog 30 #[.agg #[.int .i64 r.c, .int .i64 r.n, .string r.t], .pointer (some ⟨b, 0, none⟩)] w fun e w' => e = .returned (.bool (r.c == x)) ∧ Below w.heap.size w w' := by
  go_enter Tryd.func30, Tryd.ntmps30
  go_wp2
  go_ret
  exact ⟨rfl, (Below.refl _ _).alloc (Nat.le_refl _) _⟩

/-- where the first request of a caller stands -/
def idxC (x : Int) : List Req → Int
  | [] => -1
  | r :: l => if r.c = x then 0 else (if idxC x l = -1 then -1 else idxC x l + 1)

theorem idxC_at (x : Int) (l : List Req) (k : Nat) (hk : k < l.length) (h : l[k].c = x) (hb : ∀ j (hj : j < k), l[j].c ≠ x) : idxC x l = k := by
  induction l generalizing k with
  | nil => simp at hk
  | cons a l ih =>
    cases k with
    | zero => simp at h; simp [idxC, h]
    | succ k =>
      have h0 := hb 0 (by omega)
      have hi := ih k (by simpa using hk) (by simpa using h) (fun j hj => by simpa using hb (j + 1) (by omega))
      simp at h0
      rw [idxC, if_neg h0, hi, if_neg (by omega)]; rfl
theorem idxC_none (x : Int) (l : List Req) (h : ∀ j (hj : j < l.length), l[j].c ≠ x) : idxC x l = -1 := by
  induction l with
  | nil => rfl
  | cons a l ih =>
    have h0 := h 0 (by simp)
    simp at h0
    rw [idxC, if_neg h0, ih (fun j hj => by have := h (j + 1) (by simpa using hj); simpa using this), if_pos rfl]

set_option maxRecDepth 100000 in
set_option maxHeartbeats 400000 in
theorem indexC_any (v : Value) (l : List Req) (x : Int) (b : Nat) (w : World) (hb : b < w.heap.size) (hc : w.cell? ⟨b, 0, none⟩ = some (.int .i64 x))
    (hr : Rd w w.heap.size 3 v l.length (cellsOf l)) (hm : l.length ≤ 1000000000) :
    Calls Tryd.prog 29 #[v, .func (.func 30) #[] #[.pointer (some ⟨b, 0, none⟩)]] w fun e w' => e = .returned (.int .i64 (idxC x l)) ∧ Below w.heap.size w w' := by
  obtain ⟨hl, A, c, rfl, hnc, hA⟩ := hr
  have eg := enters_of Tryd.func30 (by kernel_rfl) rfl
  go_enter Tryd.func29, Tryd.ntmps29
  go_wp2
  go_loopw [5, 8] (fun i s wr => ∃ k : Nat, k ≤ l.length ∧ s = .int .i64 k ∧ Below w.heap.size w wr ∧ Hid (∀ j (hj : j < k) (hj' : j < l.length), l[j].c ≠ x)) (fun _ i _ => l.length - (intOf i).toNat)
  case atStart => exact ⟨0, Nat.zero_le _, rfl, Below.refl _ _, fun j hj => by omega⟩
  case round =>
    obtain ⟨k, hk, rfl, hbw, hno⟩ := hrel
    by_cases hlt : k < l.length
    · rcases hA with hA | ⟨g, off, rfl, hg, hcell⟩
      · omega
      obtain ⟨h1, h2, h3⟩ := cellsOf_get l k hlt
      have c1 := (hbw.cell (p := ⟨g, off + k * 3, none⟩) hg).trans (hcell _ _ h1)
      have c2 := (hbw.cell (p := ⟨g, off + k * 3 + 1, none⟩) hg).trans (hcell _ _ h2)
      have c3 := (hbw.cell (p := ⟨g, off + k * 3 + 2, none⟩) hg).trans (hcell _ _ h3)
      have cb := (hbw.cell (p := ⟨b, 0, none⟩) hb).trans hc
      have hsz := hbw.size
      clear h1 h2 h3 hcell hc
      cases hq : (l[k].c == x) with
      | true =>
        have hcall := of1_any l[k] x b wr (by omega) cb
        rw [hq] at hcall
        have HQ := Lib.hid hq
        clear hq
        go_wp2_with (go_at_call 30; refine hcall.mono ?_; rintro e w' ⟨rfl, hb'⟩)
        go_ret
        refine ⟨?_, hbw.trans (hb'.mono hsz)⟩
        have e1 : l[k].c = x := by simpa using HQ.out
        rw [idxC_at x l k hlt e1 (fun j hj => hno.out j hj (by omega))]; rfl
      | false =>
        have hcall := of1_any l[k] x b wr (by omega) cb
        rw [hq] at hcall
        have HQ := Lib.hid hq
        clear hq
        go_wp2_with (go_at_call 30; refine hcall.mono ?_; rintro e w' ⟨rfl, hb'⟩)
        go_roundw
        case rel =>
          have e1 : l[k].c ≠ x := by simpa using HQ.out
          refine ⟨k + 1, by omega, by go_num, hbw.trans (hb'.mono hsz), ?_⟩
          intro j hj hj'
          rcases Nat.lt_or_ge j k with h | h
          · exact hno.out j h hj'
          · obtain rfl : j = k := by omega
            exact e1
        case measure => simp [intOf]; omega
    · go_wp2
      go_ret
      refine ⟨?_, hbw⟩
      rw [idxC_none x l (fun j hj => hno.out j (by omega) hj)]; rfl

end Go.Proofs.YtamlfapdifocoaaDoor
