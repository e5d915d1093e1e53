/- MarkTexts: the law's walk. -/
import Derived.Test.YtogpbldipmcbdaaDoorKf
set_option linter.unusedVariables false
set_option linter.unusedSimpArgs false
set_option linter.unnecessarySimpa false
namespace Go.Proofs.YtogpbldipmcbdaaDoor
open Go.RowKit Go.Shelf

set_option maxHeartbeats 4000000 in
set_option maxRecDepth 100000 in
theorem mtexts_law (g n : Int) (s : Bs) (w : World) (hl : Lay w) (hs : s.length ≤ 1048576) :
    Calls Tryd.prog 4 #[.int .i64 g, .int .i64 n, .string ⟨s.toArray⟩] w fun e w' => e = .returned (.bool true) ∧ Below w.heap.size w w' := by
  go_enter Tryd.func4, Tryd.ntmps4
  go_wp2_with fail
  refine (mtext_any g n s (by omega) _ hl).mono ?_
  rintro e w1 ⟨rfl, hb1⟩
  go_wp2_with fail
  refine (rmtext_any g n s (by omega) _).mono ?_
  rintro e w2 ⟨rfl, hb2⟩
  have hb12 := hb1.trans (hb2.mono hb1.size)
  go_wp2_with fail
  refine (mread_any s (by omega) _ (hl.later hb12)).mono ?_
  rintro e w3 ⟨rfl, hb3⟩
  have hb13 := hb12.trans (hb3.mono hb12.size)
  go_wp2_with fail
  refine (rmread_any s (by omega) _).mono ?_
  rintro e w4 ⟨rfl, hb4⟩
  have hb14 := hb13.trans (hb4.mono hb13.size)
  have hb15 := hb14.alloc hb14.size (.cells #[.int .i64 (mrkR s).g, .int .i64 (mrkR s).n, .string ⟨(mrkR s).s.toArray⟩] 46)
  have hbk := Lib.hid (mrk_back g n s)
  by_cases he : (mrkT g n s).2 = 0
  · have hlen := ((mrkT_ok g n s).1 he).2
    rw [← mrkT_text g n s he] at hlen
    have HBK := Lib.hid (hbk.out he)
    clear hbk
    generalize hmt : mrkT g n s = mt at *
    obtain ⟨a, e⟩ := mt
    simp only at he HBK hlen
    subst he
    clear hmt
    go_wp2_with fail
    refine (mread_any a (by omega) _ (hl.later hb15)).mono ?_
    rintro e w5 ⟨rfl, hb5⟩
    rw [HBK.out]
    have hb16 := hb15.trans (hb5.mono hb15.size)
    go_wp2_with fail
    refine (one_any _ (hl.later hb16)).mono ?_
    rintro e w6 ⟨rfl, hb6⟩
    go_wp2
    go_ret
    exact ⟨rfl, hb16.trans (hb6.mono hb16.size)⟩
  · go_wp2_with fail
    refine (one_any _ (hl.later hb15)).mono ?_
    rintro e w6 ⟨rfl, hb6⟩
    go_wp2
    go_ret
    exact ⟨rfl, hb15.trans (hb6.mono hb15.size)⟩

end Go.Proofs.YtogpbldipmcbdaaDoor
