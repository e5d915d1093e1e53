/- slices.BinarySearchFunc over tags by their numbers. -/
import Derived.Test.YtkmhimaeakbpoaaDoorPe25
set_option linter.unusedVariables false
set_option linter.unusedSimpArgs false
set_option linter.unnecessarySimpa false
namespace Go.Proofs.YtkmhimaeakbpoaaDoor
open Go.RowKit Go.Shelf

def cmpI (x y : Int) : Int := if x < y then -1 else if y < x then 1 else 0
theorem tagsE_pair {l : List TagV} : ∀ {last : Int}, tagsE last l = 0 → l.Pairwise (fun a b => a.1 < b.1) := by
  induction l with
  | nil => intro _ _; exact List.Pairwise.nil
  | cons y l ih =>
    intro last h
    have hl : tagsE y.1 l = 0 := by
      rw [tagsE] at h
      split at h
      · simp at h
      · split at h
        · simp at h
        · split at h
          · simp at h
          · exact h
    exact List.Pairwise.cons (fun z hz => (tagsE_in hl z hz).2.2.2) (ih hl)
theorem cnt_bound (l : List TagV) (no : Int) (lo : Nat) (hlo : lo ≤ l.length) (h1 : ∀ t (ht : t < l.length), t < lo → l[t].1 < no) (h2 : ∀ t (ht : t < l.length), lo ≤ t → no ≤ l[t].1) :
    l.countP (fun y => decide (y.1 < no)) = lo := by
  conv => lhs; rw [← List.take_append_drop lo l]
  rw [List.countP_append]
  have e1 : (l.take lo).countP (fun y => decide (y.1 < no)) = (l.take lo).length := by
    rw [List.countP_eq_length]
    intro y hy
    obtain ⟨t, ht, rfl⟩ := List.getElem_of_mem hy
    rw [List.length_take] at ht
    rw [List.getElem_take]
    exact decide_eq_true (h1 t (by omega) (by omega))
  have e2 : (l.drop lo).countP (fun y => decide (y.1 < no)) = 0 := by
    refine cnt_zero _ no (fun y hy => ?_)
    obtain ⟨t, ht, rfl⟩ := List.getElem_of_mem hy
    rw [List.length_drop] at ht
    rw [List.getElem_drop]
    exact h2 _ (by omega) (by omega)
  rw [e1, e2, List.length_take]
  omega
theorem any_bound (l : List TagV) (no : Int) (lo : Nat) (h1 : ∀ t (ht : t < l.length), t < lo → l[t].1 < no) (hs : l.Pairwise (fun a b => a.1 < b.1)) (h2 : ∀ t (ht : t < l.length), lo ≤ t → no ≤ l[t].1) :
    l.any (fun y => decide (y.1 = no)) = (decide (lo < l.length) && decide ((l.getD lo (0, [])).1 = no)) := by
  rw [Bool.eq_iff_iff, List.any_eq_true]
  simp only [Bool.and_eq_true, decide_eq_true_eq]
  constructor
  · rintro ⟨y, hy, rfl⟩
    obtain ⟨t, ht, rfl⟩ := List.getElem_of_mem hy
    have hge : lo ≤ t := by
      rcases Nat.lt_or_ge t lo with h | h
      · have := h1 t ht h; omega
      · exact h
    have hlt : lo < l.length := by omega
    refine ⟨hlt, ?_⟩
    rw [List.getD_eq_getElem?_getD, List.getElem?_eq_getElem hlt]
    show l[lo].1 = _
    have h3 := h2 lo hlt (Nat.le_refl _)
    rcases Nat.lt_or_ge lo t with h | h
    · have := List.pairwise_iff_getElem.1 hs lo t hlt ht h; omega
    · have : lo = t := by omega
      subst this; rfl
  · rintro ⟨hlt, h⟩
    rw [List.getD_eq_getElem?_getD, List.getElem?_eq_getElem hlt] at h
    exact ⟨l[lo], List.getElem_mem hlt, h⟩

set_option maxHeartbeats 400000 in
theorem isNaN_any (x : Int) (w : World) : Calls Tryd.prog 47 #[.int .i64 x] w fun e w' => e = .returned (.bool false) ∧ w = w' := by
  go_enter Tryd.func47, Tryd.ntmps47
  go_wp2
  go_ret
  exact ⟨by simp, rfl⟩
set_option maxHeartbeats 1000000 in
theorem compare_any (x y : Int) (w : World) : Calls Tryd.prog 28 #[.int .i64 x, .int .i64 y] w fun e w' => e = .returned (.int .i64 (cmpI x y)) ∧ w = w' := by
  unfold cmpI
  by_cases h1 : x < y
  · rw [if_pos h1]
    go_enter Tryd.func28, Tryd.ntmps28
    go_wp2_with (go_at_call 47; refine (isNaN_any _ _).mono ?_; rintro e w' ⟨rfl, rfl⟩)
    go_ret
    exact ⟨rfl, rfl⟩
  · rw [if_neg h1]
    have d1 : decide (x < y) = false := decide_eq_false h1
    by_cases h2 : y < x
    · rw [if_pos h2]
      clear h1
      go_enter Tryd.func28, Tryd.ntmps28
      go_wp2_with (go_at_call 47; refine (isNaN_any _ _).mono ?_; rintro e w' ⟨rfl, rfl⟩)
      go_ret
      exact ⟨rfl, rfl⟩
    · rw [if_neg h2]
      have d2 : decide (y < x) = false := decide_eq_false h2
      clear h1 h2
      go_enter Tryd.func28, Tryd.ntmps28
      go_wp2_with (go_at_call 47; refine (isNaN_any _ _).mono ?_; rintro e w' ⟨rfl, rfl⟩)
      go_ret
      exact ⟨rfl, rfl⟩
set_option maxHeartbeats 1000000 in
theorem add1_any (n : Int) (s : ByteArray) (no : Int) (w : World) : Calls Tryd.prog 27 #[.agg #[.int .i64 n, .string s], .int .i64 no] w fun e w' => e = .returned (.int .i64 (cmpI n no)) ∧ Below w.heap.size w w' := by
  go_enter Tryd.func27, Tryd.ntmps27
  go_wp2_with (go_at_call 28; refine (compare_any _ _ _).mono ?_; rintro e w' ⟨rfl, rfl⟩)
  go_ret
  exact ⟨rfl, (Below.refl _ w).alloc (Nat.le_refl _) _⟩

set_option maxHeartbeats 4000000 in
set_option maxRecDepth 100000 in
theorem search_any (v : Value) (l : List TagV) (no : Int) (w : World) (B : Nat) (hB : B ≤ w.heap.size) (hr : Rd w B 2 v l.length (cellsT l)) (hs : l.Pairwise (fun a b => a.1 < b.1)) (hm : l.length ≤ 1048576) :
    Calls Tryd.prog 26 #[v, .int .i64 no, .func (.func 27) #[] #[]] w fun e w' =>
      e = .returned (.tuple #[.int .i64 (l.countP (fun y => decide (y.1 < no)) : Nat), .bool (l.any (fun y => decide (y.1 = no)))]) ∧ Below w.heap.size w w' := by
  have HR := Lib.hid (hr.more hB)
  have HS := Lib.hid hs
  obtain ⟨_, A, c, rfl, hlc, _⟩ := hr
  have eg := enters_of Tryd.func27 (by kernel_rfl) rfl
  generalize hcnt : l.countP (fun y => decide (y.1 < no)) = cnt
  generalize hany : l.any (fun y => decide (y.1 = no)) = fin
  have HC := Lib.hid hcnt
  have HA := Lib.hid hany
  clear hs hcnt hany
  go_enter Tryd.func26, Tryd.ntmps26
  go_wp2_with fail
  go_loopw [9, 10] (fun i j wr => ∃ lo hi : Nat, i = .int .i64 lo ∧ j = .int .i64 hi ∧ lo ≤ hi ∧ hi ≤ l.length ∧ Hid (Below w.heap.size w wr ∧ (∀ t (ht : t < l.length), t < lo → l[t].1 < no) ∧ (∀ t (ht : t < l.length), hi ≤ t → no ≤ l[t].1))) (fun i j _ => (intOf j).toNat - (intOf i).toNat)
  case atStart => exact ⟨0, l.length, rfl, rfl, Nat.zero_le _, Nat.le_refl _, Below.refl _ _, fun t ht h => by omega, fun t ht h => by omega⟩
  case round =>
    obtain ⟨lo, hi, rfl, rfl, hlh, hin, HI⟩ := hrel
    by_cases hlt : lo < hi
    · have hmid : (lo + hi) / 2 < l.length := by omega
      obtain ⟨g, off, c', hV, hg, x0, x1⟩ := rd_tag (HR.out.below HI.out.1) hmid
      injection hV with hA _ hcc
      subst hA
      clear hcc
      have HM : Hid (l[(lo + hi) / 2].1 = l[(lo + hi) / 2].1) := rfl
      have HP := Lib.hid (fun (t : Nat) (ht : t < l.length) (h : t < (lo + hi) / 2) => List.pairwise_iff_getElem.1 HS.out t ((lo + hi) / 2) ht hmid h)
      have HP2 := Lib.hid (fun (t : Nat) (ht : t < l.length) (h : (lo + hi) / 2 < t) => List.pairwise_iff_getElem.1 HS.out ((lo + hi) / 2) t hmid ht h)
      have HE : Hid (∀ t (ht : t < l.length), t = (lo + hi) / 2 → l[t].1 = l[(lo + hi) / 2].1) := fun t ht h => by subst h; rfl
      generalize l[(lo + hi) / 2] = x at *
      obtain ⟨n, s⟩ := x
      simp only at x0 x1 HP HP2 HE
      clear HM
      have hc := fun w' => add1_any n ⟨s.toArray⟩ no w'
      by_cases hyx : n < no
      · have he : cmpI n no = -1 := by unfold cmpI; rw [if_pos hyx]
        rw [he] at hc
        have HC1 := Lib.hid hc
        have HN := Lib.hid hyx
        clear hc he hyx
        go_wp2_with (go_at_call 27; refine (HC1.out _).mono ?_; rintro e w' ⟨rfl, hb1⟩; have HB1 := Lib.hid (HI.out.1.trans (hb1.mono HI.out.1.size)); clear hb1)
        go_roundw
        case rel =>
          refine ⟨(lo + hi) / 2 + 1, hi, by simp, rfl, by omega, hin, HB1.out, fun t ht h => ?_, HI.out.2.2⟩
          rcases Nat.lt_or_ge t ((lo + hi) / 2) with h2 | h2
          · have := HP.out t ht h2; have := HN.out; omega
          · have := HE.out t ht (by omega); have := HN.out; omega
        case measure => simp [intOf]; omega
      · have he : cmpI n no = cmpI n no := rfl
        have hge : 0 ≤ cmpI n no := by unfold cmpI; rw [if_neg hyx]; split <;> omega
        generalize cmpI n no = q at *
        have hdq : decide (q < 0) = false := by rw [decide_eq_false_iff_not]; omega
        have HC1 := Lib.hid hc
        have HN := Lib.hid hyx
        clear hc he hyx hge
        go_wp2_with (go_at_call 27; refine (HC1.out _).mono ?_; rintro e w' ⟨rfl, hb1⟩; have HB1 := Lib.hid (HI.out.1.trans (hb1.mono HI.out.1.size)); clear hb1)
        go_roundw
        case rel =>
          refine ⟨lo, (lo + hi) / 2, rfl, by simp, by omega, by omega, HB1.out, HI.out.2.1, fun t ht h => ?_⟩
          rcases Nat.lt_or_ge ((lo + hi) / 2) t with h2 | h2
          · have := HP2.out t ht h2; have := HN.out; omega
          · have := HE.out t ht (by omega); have := HN.out; omega
        case measure => simp [intOf]; omega
    · obtain rfl : hi = lo := by omega
      obtain rfl : cnt = hi := by rw [← HC.out]; exact cnt_bound l no hi hin HI.out.2.1 HI.out.2.2
      have HF : Hid (fin = (decide (cnt < l.length) && decide ((l.getD cnt (0, [])).1 = no))) := by unfold Hid; rw [← HA.out]; exact any_bound l no cnt HI.out.2.1 HS.out HI.out.2.2
      by_cases hn : cnt < l.length
      · obtain ⟨g, off, c', hV, hg, x0, x1⟩ := rd_tag (HR.out.below HI.out.1) hn
        injection hV with hA _ hcc
        subst hA
        clear hcc
        have HF2 : Hid (fin = decide (l[cnt].1 = no)) := by
          unfold Hid
          rw [HF.out, decide_eq_true hn, Bool.true_and, List.getD_eq_getElem?_getD, List.getElem?_eq_getElem hn]; rfl
        generalize l[cnt] = x at *
        obtain ⟨n, s⟩ := x
        simp only at x0 x1 HF2
        have hc := fun w' => add1_any n ⟨s.toArray⟩ no w'
        have hz : (cmpI n no == 0) = decide (n = no) := by
          unfold cmpI
          by_cases h1 : n < no
          · rw [if_pos h1, decide_eq_false (by omega)]; rfl
          · rw [if_neg h1]
            by_cases h2 : no < n
            · rw [if_pos h2, decide_eq_false (by omega)]; rfl
            · rw [if_neg h2, decide_eq_true (by omega)]; rfl
        rw [← hz] at HF2
        generalize cmpI n no = q at *
        have HC1 := Lib.hid hc
        clear hc hz HF HC HA
        go_wp2_with (go_at_call 27; refine (HC1.out _).mono ?_; rintro e w' ⟨rfl, hb1⟩; have HB1 := Lib.hid (HI.out.1.trans (hb1.mono HI.out.1.size)); clear hb1)
        go_ret2
        exact ⟨by rw [HF2.out]; rfl, HB1.out⟩
      · have HF2 : Hid (fin = false) := by unfold Hid; rw [HF.out, decide_eq_false hn, Bool.false_and]
        clear HF HC HA
        go_wp2_with fail
        go_ret2
        exact ⟨by rw [HF2.out]; rfl, HI.out.1⟩

end Go.Proofs.YtkmhimaeakbpoaaDoor
