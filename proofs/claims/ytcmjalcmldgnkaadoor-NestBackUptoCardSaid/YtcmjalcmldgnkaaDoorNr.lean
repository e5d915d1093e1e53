/- NestBack: the law's walk. -/
import Derived.Test.YtcmjalcmldgnkaaDoorNn
set_option linter.unusedVariables false
set_option linter.unusedSimpArgs false
set_option linter.unnecessarySimpa false
namespace Go.Proofs.YtcmjalcmldgnkaaDoor
open Go.RowKit Go.Shelf

theorem packB_count (l : List Bs) : l.length ≤ (packB l).length := by
  induction l with
  | nil => simp
  | cons a l ih => rw [packB_cons]; simp only [List.length_append, List.length_cons]; omega

set_option maxHeartbeats 4000000 in
set_option maxRecDepth 100000 in
theorem back_law (v : Value) (l : List Bs) (s : Bs) (w : World) (hl : Lay w) (hr : Rd w w.heap.size 1 v l.length (strs l)) (hm : l.length ≤ 1048576) (hs : ∀ s ∈ l, s.length ≤ 1048576) (hsz : s.length ≤ 1048576) :
    Calls Tryd.prog 8 #[v, .string ⟨s.toArray⟩] w fun e w' => e = .returned (.bool true) ∧ Below w.heap.size w w' := by
  have HR : Hid (Rd w w.heap.size 1 v l.length (strs l)) := hr
  obtain ⟨_, A, c, rfl, _, _⟩ := hr
  have hlen := packB_len l hs
  go_enter Tryd.func8, Tryd.ntmps8
  go_wp2_with fail
  refine (large_any _ l w.heap.size _ (Nat.le_refl _) HR.out (by omega) (fun s hm => by have := hs s hm; omega)).mono ?_
  rintro e w1 ⟨rfl | ⟨rfl, hsm, hln⟩, hb1⟩
  · go_wp2_with fail
    refine (two_any _ (hl.later hb1)).mono ?_
    rintro e w2 ⟨rfl, hb2⟩
    go_wp2
    go_ret
    exact ⟨rfl, hb1.trans (hb2.mono hb1.size)⟩
  · by_cases hbig : 20000 < s.length
    · go_wp2_with fail
      refine (two_any _ (hl.later hb1)).mono ?_
      rintro e w2 ⟨rfl, hb2⟩
      go_wp2
      go_ret
      exact ⟨rfl, hb1.trans (hb2.mono hb1.size)⟩
    · go_wp2_with fail
      refine (pack_any _ l w.heap.size _ (hl.later hb1) hb1.size (HR.out.below hb1) (by omega) (by omega)).mono ?_
      rintro e w2 ⟨rfl, hb2⟩
      have hb12 := hb1.trans (hb2.mono hb1.size)
      have hl2 := hl.later hb12
      have hup : unpackB (packB l) = (l, 0) := by unfold unpackB; rw [unpack_pack l (fun t ht => by have := hs t ht; omega)]
      have hU := unpack_any (packB l) (by omega) w2 hl2
      rw [hup] at hU
      go_wp2_with fail
      refine hU.mono ?_
      rintro e w3 ⟨v3, rfl, hv3, hb3⟩
      obtain ⟨A3, c3, rfl⟩ := own_shape hv3
      have hb13 := hb12.trans (hb3.mono hb12.size)
      go_wp2_with fail
      refine (same_any _ _ l l w3.heap.size _ (Nat.le_refl _) (Rd.of_own hv3) ((HR.out.below hb13).more hb13.size) (by omega) (by omega)).mono ?_
      rintro e w4 ⟨rfl, hb4⟩
      rw [decide_eq_true rfl]
      have hb14 := hb13.trans (hb4.mono hb13.size)
      have hl4 := hl.later hb14
      have hU5 := unpack_any s (by omega) w4 hl4
      cases hu : unpackO s with
      | none =>
        have hub : unpackB s = ([], 4) := by unfold unpackB; rw [hu]
        rw [hub] at hU5
        go_wp2_with fail
        refine hU5.mono ?_
        rintro e w5 ⟨v5, rfl, hv5, hb5⟩
        obtain ⟨A5, c5, rfl⟩ := own_shape hv5
        have hb15 := hb14.trans (hb5.mono hb14.size)
        go_wp2_with fail
        refine (two_any _ (hl.later hb15)).mono ?_
        rintro e w6 ⟨rfl, hb6⟩
        go_wp2
        go_ret
        exact ⟨rfl, hb15.trans (hb6.mono hb15.size)⟩
      | some l2 =>
        have hub : unpackB s = (l2, 0) := by unfold unpackB; rw [hu]
        have hpu := (pack_unpack s.length s l2 (Nat.le_refl _) hu).1
        have hpc := packB_count l2
        rw [hpu] at hpc
        rw [hub] at hU5
        go_wp2_with fail
        refine hU5.mono ?_
        rintro e w5 ⟨v5, rfl, hv5, hb5⟩
        obtain ⟨A5, c5, rfl⟩ := own_shape hv5
        have hb15 := hb14.trans (hb5.mono hb14.size)
        go_wp2_with fail
        refine (pack_any _ l2 w5.heap.size _ (hl.later hb15) (Nat.le_refl _) (Rd.of_own hv5) (by omega) (by rw [hpu]; omega)).mono ?_
        rintro e w6 ⟨rfl, hb6⟩
        rw [hpu]
        have hb16 := hb15.trans (hb6.mono hb15.size)
        go_wp2_with fail
        refine (two_any _ (hl.later hb16)).mono ?_
        rintro e w7 ⟨rfl, hb7⟩
        go_wp2
        go_ret
        exact ⟨rfl, hb16.trans (hb7.mono hb16.size)⟩

end Go.Proofs.YtcmjalcmldgnkaaDoor
