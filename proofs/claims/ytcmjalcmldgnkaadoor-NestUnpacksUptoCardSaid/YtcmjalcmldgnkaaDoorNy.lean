/- NestUnpacks: the law's walk. -/
import Derived.Test.YtcmjalcmldgnkaaDoorNv
import Derived.Test.YtcmjalcmldgnkaaDoorNm
set_option linter.unusedVariables false
set_option linter.unusedSimpArgs false
set_option linter.unnecessarySimpa false
namespace Go.Proofs.YtcmjalcmldgnkaaDoor
open Go.RowKit Go.Shelf

set_option maxHeartbeats 4000000 in
set_option maxRecDepth 100000 in
theorem unpacks_law (s : Bs) (w : World) (hl : Lay w) (hs : s.length ≤ 1048576) :
    Calls Tryd.prog 5 #[.string ⟨s.toArray⟩] w fun e w' => e = .returned (.bool true) ∧ Below w.heap.size w w' := by
  have hcnt : (unpackB s).1.length ≤ s.length := by
    unfold unpackB
    cases hu : unpackO s with
    | none => simp
    | some l =>
      have hpc := (pack_unpack s.length s l (Nat.le_refl _) hu).1
      show l.length ≤ s.length
      rw [← hpc]
      have : ∀ l : List Bs, l.length ≤ (packB l).length := by
        intro l
        induction l with
        | nil => simp
        | cons a l ih => rw [packB_cons]; simp; omega
      exact this l
  by_cases hbig : 20000 < s.length
  · go_enter Tryd.func5, Tryd.ntmps5
    go_wp2_with fail
    refine (two_any _ hl).mono ?_
    rintro e w3 ⟨rfl, hb3⟩
    go_wp2
    go_ret
    exact ⟨rfl, hb3⟩
  · go_enter Tryd.func5, Tryd.ntmps5
    go_wp2_with fail
    refine (unpack_any s (by omega) _ hl).mono ?_
    rintro e w1 ⟨v1, rfl, hv1, hb1⟩
    obtain ⟨A1, c1, rfl⟩ := own_shape hv1
    go_wp2_with fail
    refine (runpack_any s (by omega) _).mono ?_
    rintro e w2 ⟨v2, rfl, hv2, hb2⟩
    obtain ⟨A2, c2, rfl⟩ := own_shape hv2
    have hb12 := hb1.trans (hb2.mono hb1.size)
    have H1 := Lib.hid (Rd.of_own (own_below hv1 hb2))
    have H2 := Lib.hid (Rd.of_own hv2)
    clear hv1 hv2
    go_wp2_with fail
    refine (same_any _ _ (unpackB s).1 (unpackB s).1 w2.heap.size _ (Nat.le_refl _) H1.out H2.out (by omega) (by omega)).mono ?_
    rintro e w3 ⟨rfl, hb3⟩
    rw [decide_eq_true rfl]
    have hb13 := hb12.trans (hb3.mono hb12.size)
    go_wp2_with fail
    refine (two_any _ (hl.later hb13)).mono ?_
    rintro e w4 ⟨rfl, hb4⟩
    go_wp2
    go_ret
    exact ⟨rfl, hb13.trans (hb4.mono hb13.size)⟩

end Go.Proofs.YtcmjalcmldgnkaaDoor
