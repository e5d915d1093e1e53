/- NestNums: the law's walk. -/
import Derived.Test.YtcmjalcmldgnkaaDoorNt
import Derived.Test.YtcmjalcmldgnkaaDoorNm
set_option linter.unusedVariables false
set_option linter.unusedSimpArgs false
set_option linter.unnecessarySimpa false
namespace Go.Proofs.YtcmjalcmldgnkaaDoor
open Go.RowKit Go.Shelf

set_option maxHeartbeats 4000000 in
set_option maxRecDepth 100000 in
theorem nums_law (n : Int) (s : Bs) (w : World) (hl : Lay w) (hn : -9223372036854775808 ≤ n ∧ n ≤ 9223372036854775807) (hs : s.length ≤ 1048576) :
    Calls Tryd.prog 6 #[.int .i64 n, .string ⟨s.toArray⟩] w fun e w' => e = .returned (.bool true) ∧ Below w.heap.size w w' := by
  have hi21 := Lib.itoa_length_le n hn.1 hn.2
  have HT := Lib.hid (toNum_itoa n hn.1 hn.2)
  have hcase := toNum_cases s
  have hrng : -9223372036854775808 ≤ (toNumB s).1 ∧ (toNumB s).1 ≤ 9223372036854775807 := by
    unfold toNumB
    split
    · rename_i v hv
      have hb := Lib.atoiAll_bounds hv
      split
      · exact hb
      · simp
    · simp
  have HC := Lib.hid hcase
  clear hcase
  go_enter Tryd.func6, Tryd.ntmps6
  go_wp2_with fail
  refine (num_any n hn.1 hn.2 _ hl).mono ?_
  rintro e w1 ⟨rfl, hb1⟩
  go_wp2_with fail
  refine (toNum_any s (by omega) _ (hl.later hb1)).mono ?_
  rintro e w2 ⟨rfl, hb2⟩
  have hb12 := hb1.trans (hb2.mono hb1.size)
  go_wp2_with fail
  refine (rtoNum_any s (by omega) _).mono ?_
  rintro e w3 ⟨rfl, hb3⟩
  have hb13 := hb12.trans (hb3.mono hb12.size)
  go_wp2_with fail
  refine (toNum_any (Lib.itoa n) (by omega) _ (hl.later hb13)).mono ?_
  rintro e w4 ⟨rfl, hb4⟩
  have hb14 := hb13.trans (hb4.mono hb13.size)
  rw [HT.out]
  go_wp2_with fail
  refine (rnum_any n hn.1 hn.2 _).mono ?_
  rintro e w5 ⟨rfl, hb5⟩
  have hb15 := hb14.trans (hb5.mono hb14.size)
  rcases HC.out with h | ⟨h1, h2⟩
  · rw [h]
    clear h
    go_wp2_with fail
    refine (two_any _ (hl.later hb15)).mono ?_
    rintro e w6 ⟨rfl, hb6⟩
    go_wp2
    go_ret
    exact ⟨rfl, hb15.trans (hb6.mono hb15.size)⟩
  · have h20 : (toNumB s).2 = 0 := by rw [h1]
    rw [h20]
    have H2 := Lib.hid h2
    clear h1 h2 h20
    go_wp2_with fail
    refine (num_any (toNumB s).1 hrng.1 hrng.2 _ (hl.later hb15)).mono ?_
    rintro e w6 ⟨rfl, hb6⟩
    rw [H2.out]
    have hb16 := hb15.trans (hb6.mono hb15.size)
    go_wp2_with fail
    refine (two_any _ (hl.later hb16)).mono ?_
    rintro e w7 ⟨rfl, hb7⟩
    go_wp2
    go_ret
    exact ⟨rfl, hb16.trans (hb7.mono hb16.size)⟩

end Go.Proofs.YtcmjalcmldgnkaaDoor
