/- NestDeeps: the law's walk. -/
import Derived.Test.YtcmjalcmldgnkaaDoorNw
import Derived.Test.YtcmjalcmldgnkaaDoorNm
set_option linter.unusedVariables false
set_option linter.unusedSimpArgs false
set_option linter.unnecessarySimpa false
namespace Go.Proofs.YtcmjalcmldgnkaaDoor
open Go.RowKit Go.Shelf

set_option maxHeartbeats 4000000 in
set_option maxRecDepth 100000 in
theorem deeps_law (s : Bs) (w : World) (hl : Lay w) (hs : s.length ≤ 1048576) :
    Calls Tryd.prog 7 #[.string ⟨s.toArray⟩] w fun e w' => e = .returned (.bool true) ∧ Below w.heap.size w w' := by
  by_cases hbig : 2000 < s.length
  · go_enter Tryd.func7, Tryd.ntmps7
    go_wp2_with fail
    refine (two_any _ hl).mono ?_
    rintro e w3 ⟨rfl, hb3⟩
    go_wp2
    go_ret
    exact ⟨rfl, hb3⟩
  · go_enter Tryd.func7, Tryd.ntmps7
    go_wp2_with fail
    refine (deep_any _ s (Nat.le_refl _) (by omega) _ hl).mono ?_
    rintro e w1 ⟨rfl, hb1⟩
    go_wp2_with fail
    refine (rdeep_any _ s (Nat.le_refl _) (by omega) _).mono ?_
    rintro e w2 ⟨rfl, hb2⟩
    have hb12 := hb1.trans (hb2.mono hb1.size)
    go_wp2_with fail
    refine (two_any _ (hl.later hb12)).mono ?_
    rintro e w3 ⟨rfl, hb3⟩
    go_wp2
    go_ret
    exact ⟨rfl, hb12.trans (hb3.mono hb12.size)⟩

end Go.Proofs.YtcmjalcmldgnkaaDoor
