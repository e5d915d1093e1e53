/- The law's own one(), of chapter 11. -/
import Derived.Test.YtogpbldipmcbdaaDoorKe
set_option linter.unusedVariables false
set_option linter.unusedSimpArgs false
set_option linter.unnecessarySimpa false
namespace Go.Proofs.YtogpbldipmcbdaaDoor
open Go.RowKit Go.Shelf

theorem itoa_one (n : Nat) (h : n < 10) : Lib.itoa (n : Int) = [UInt8.ofNat (48 + n)] := by
  unfold Lib.itoa
  rw [if_neg (by omega), Int.toNat_natCast, Lib.decDigits, dif_pos h]
theorem mrk_one : mrkT 1 4 [115] = ([52, 58, 109, 97, 114, 107, 44, 49, 58, 49, 44, 49, 58, 52, 44, 49, 58, 115, 44], 0) := by
  have i1 : Lib.itoa 1 = [49] := itoa_one 1 (by omega)
  have i4 : Lib.itoa 4 = [52] := itoa_one 4 (by omega)
  have hm : mrkB 1 4 [115] = [52, 58, 109, 97, 114, 107, 44, 49, 58, 49, 44, 49, 58, 52, 44, 49, 58, 115, 44] := by
    unfold mrkB
    rw [i1, i4, packB_cons, packB_cons, packB_cons, packB_cons]
    have e4 : Lib.itoa (wMark.length : Int) = [52] := itoa_one 4 (by omega)
    have e1 : Lib.itoa (([49] : Bs).length : Int) = [49] := itoa_one 1 (by omega)
    have e2 : Lib.itoa (([52] : Bs).length : Int) = [49] := itoa_one 1 (by omega)
    have e3 : Lib.itoa (([115] : Bs).length : Int) = [49] := itoa_one 1 (by omega)
    rw [e4, e1, e2, e3]
    rfl
  rw [mrkT_in 1 4 [115] (by decide), hm]
  rfl
def tag16 : Bs := [48, 49, 50, 51, 52, 53, 54, 55, 56, 57, 97, 98, 99, 100, 101, 102]
theorem vote_one : voteS (m0 1 0) 0 4 [115] tag16 = ⟨⟨1, 0, [⟨4, [115], tag16⟩], 4, [115], ⟨[52, 58, 109, 97, 114, 107, 44, 49, 58, 49, 44, 49, 58, 52, 44, 49, 58, 115, 44], 1, [(0, tag16)]⟩⟩, true, 0⟩ := by
  unfold voteS
  have hg : (m0 1 0).g = 1 := rfl
  rw [hg, mrk_one]
  rfl

set_option maxHeartbeats 4000000 in
set_option maxRecDepth 100000 in
theorem oneN_any (w : World) (hl : LayN w) :
    Calls Tryd.prog 8 #[] w fun e w' => e = .returned (.bool true) ∧ Below w.heap.size w w' := by
  have hT := mtextN_any 1 4 [115] (by decide) w hl
  rw [mrk_one] at hT
  go_enter Tryd.func8, Tryd.ntmps8
  go_wp2_with fail
  refine hT.mono ?_
  rintro e w1 ⟨rfl, hb1⟩
  go_wp2_with fail
  refine (mnew_ok 1 0 (by omega) (by omega) _).mono ?_
  rintro e w2 ⟨rfl, hM, hb2⟩
  have hb12 := hb1.trans (hb2.mono hb1.size)
  have hl2 := hl.later hb12
  have hV := mvoteN_any (w1.heap.size + 1) w1.heap.size (m0 1 0) 0 4 [115] tag16 (by decide) (by decide) w2 hl2 hM
  rw [vote_one] at hV
  go_wp2_with fail
  refine hV.mono ?_
  rintro e w3 ⟨rfl, hM3, hc3⟩
  have hb13 : Below w.heap.size w w3 := hb12.trans (hc3.to_below (fun i hi e => by have := hb1.size; omega) hb12.size)
  go_wp2_with fail
  refine (mstable_any _ _ _ _ hM3 (by decide)).mono ?_
  rintro e w4 ⟨A, c, rfl, hown, hb4⟩
  have hb14 := hb13.trans (hb4.mono hb13.size)
  go_wp2
  go_ret
  exact ⟨rfl, hb14.alloc hb14.size _⟩

theorem one_any (w : World) (hl : Lay w) :
    Calls Tryd.prog 8 #[] w fun e w' => e = .returned (.bool true) ∧ Below w.heap.size w w' := oneN_any w hl.n


end Go.Proofs.YtogpbldipmcbdaaDoor
