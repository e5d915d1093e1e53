/- The law's own two() and large(). -/
import Derived.Test.YtcmjalcmldgnkaaDoorNl
import Derived.Test.YtcmjalcmldgnkaaDoorNj
set_option linter.unusedVariables false
set_option linter.unusedSimpArgs false
set_option linter.unnecessarySimpa false
namespace Go.Proofs.YtcmjalcmldgnkaaDoor
open Go.RowKit Go.Shelf

theorem itoa_one (n : Nat) (h : n < 10) : Lib.itoa (n : Int) = [UInt8.ofNat (48 + n)] := by
  unfold Lib.itoa
  rw [if_neg (by omega), Int.toNat_natCast, Lib.decDigits, dif_pos h]
theorem packB_two : packB [[97, 98], []] = [50, 58, 97, 98, 44, 48, 58, 44] := by
  rw [packB_cons, packB_cons, show (([97, 98] : Bs).length : Int) = ((2 : Nat) : Int) from rfl, show (([] : Bs).length : Int) = ((0 : Nat) : Int) from rfl, itoa_one 2 (by omega), itoa_one 0 (by omega)]
  rfl
theorem packB_nil1 : packB [[]] = [48, 58, 44] := by
  rw [packB_cons, show (([] : Bs).length : Int) = ((0 : Nat) : Int) from rfl, itoa_one 0 (by omega)]
  rfl
theorem packB_deep : packB [packB [[]]] = [51, 58, 48, 58, 44, 44] := by
  rw [packB_nil1, packB_cons, show (([48, 58, 44] : Bs).length : Int) = ((3 : Nat) : Int) from rfl, itoa_one 3 (by omega)]
  rfl
theorem unpackB_two : unpackB [50, 58, 97, 98, 44, 48, 58, 44] = ([[97, 98], []], 0) := by
  unfold unpackB
  rw [← packB_two, unpack_pack _ (by simp)]
theorem deepB_two : deepB [51, 58, 48, 58, 44, 44] = 2 := by
  rw [← packB_deep, deep_in _ (by rw [packB_nil1]; decide), deep_in _ (by decide)]
  have : deepB [] = 0 := by rw [deep_is, unpack_nil]; rfl
  rw [this]; rfl

theorem rd_two (w : World) (a b : Bs) : Rd (w.alloc (.cells #[.string ⟨a.toArray⟩, .string ⟨b.toArray⟩] 9)) (w.heap.size + 1) 1 (.slice (some ⟨w.heap.size, 0, none⟩) 2 2) 2 (strs [a, b]) := by
  refine ⟨rfl, _, 2, rfl, Nat.le_refl _, .inr ⟨w.heap.size, 0, rfl, by omega, fun j u hu => ?_⟩⟩
  rw [(Blk.new w 9 #[.string ⟨a.toArray⟩, .string ⟨b.toArray⟩]).cell (0 + j)]
  match j, hu with
  | 0, hu => exact hu
  | 1, hu => exact hu
  | j + 2, hu => simp [strs] at hu

set_option maxHeartbeats 4000000 in
set_option maxRecDepth 100000 in
theorem two_any (w : World) (hl : Lay w) :
    Calls Tryd.prog 13 #[] w fun e w' => e = .returned (.bool true) ∧ Below w.heap.size w w' := by
  have hU := unpack_any [50, 58, 97, 98, 44, 48, 58, 44] (by decide) w hl
  rw [unpackB_two] at hU
  go_enter Tryd.func13, Tryd.ntmps13
  go_wp2_with fail
  refine hU.mono ?_
  rintro e w1 ⟨v, rfl, hv, hb1⟩
  have hl1 : Lay w1 := hl.later hb1
  obtain ⟨A, c, rfl⟩ := own_shape hv
  go_wp2_with fail
  have hb1a : Below w1.heap.size w1 (w1.alloc (.cells #[.string ⟨#[97, 98]⟩, .string ⟨#[]⟩] 9)) := (Below.refl _ w1).alloc (Nat.le_refl _) _
  refine (pack_any _ [[97, 98], []] (w1.heap.size + 1) _ (hl1.later hb1a) (by simp) (rd_two w1 [97, 98] []) (by decide) (by rw [packB_two]; decide)).mono ?_
  rintro e w2 ⟨rfl, hb2⟩
  rw [packB_two]
  have hb12 : Below w1.heap.size w1 w2 := hb1a.trans (hb2.mono hb1a.size)
  have hl2 : Lay w2 := hl1.later hb12
  have hv2 := Rd.of_own (own_below hv hb12)
  go_wp2_with fail
  have hb2a : Below w2.heap.size w2 (w2.alloc (.cells #[.string ⟨#[97, 98]⟩, .string ⟨#[]⟩] 9)) := (Below.refl _ w2).alloc (Nat.le_refl _) _
  refine (same_any _ _ [[97, 98], []] [[97, 98], []] (w2.heap.size + 1) _ (by simp) ((hv2.below hb2a).more (by omega)) (rd_two w2 [97, 98] []) (by decide) (by decide)).mono ?_
  rintro e w3 ⟨rfl, hb3⟩
  have hb23 : Below w2.heap.size w2 w3 := hb2a.trans (hb3.mono hb2a.size)
  rw [decide_eq_true rfl]
  go_wp2_with fail
  refine (deep_any 6 [51, 58, 48, 58, 44, 44] (by decide) (by decide) _ (hl2.later hb23)).mono ?_
  rintro e w4 ⟨rfl, hb4⟩
  rw [deepB_two]
  go_wp2
  go_ret
  exact ⟨rfl, hb1.trans ((hb12.trans ((hb23.trans (hb4.mono hb23.size)).mono hb12.size)).mono hb1.size)⟩

def sumB (l : List Bs) : Nat := (l.map List.length).sum
theorem large_any (v : Value) (l : List Bs) (B0 : Nat) (w : World) (hB0 : B0 ≤ w.heap.size) (hr : Rd w B0 1 v l.length (strs l)) (hm : l.length ≤ 1000000000000) (hs : ∀ s ∈ l, s.length ≤ 1000000000000) :
    Calls Tryd.prog 10 #[v] w fun e w' => (e = .returned (.bool true) ∨ (e = .returned (.bool false) ∧ sumB l ≤ 20000 ∧ l.length ≤ 2000)) ∧ Below w.heap.size w w' := by
  have HR : Hid (Rd w w.heap.size 1 v l.length (strs l)) := hr.more hB0
  obtain ⟨_, A, c, rfl, _, _⟩ := hr
  go_enter Tryd.func10, Tryd.ntmps10
  go_wp2
  go_loopw [3, 5, 8] (fun acc _ s wr => ∃ k : Nat, k ≤ l.length ∧ s = .int .i64 k ∧ ∃ n : Nat, acc = .int .i64 n ∧ n ≤ 20000 ∧ Hid (sumB (l.take k) = n ∧ Below w.heap.size w wr)) (fun _ _ i _ => l.length - (intOf i).toNat)
  case atStart => exact ⟨0, Nat.zero_le _, rfl, 0, rfl, by omega, rfl, Below.refl _ _⟩
  case round =>
    obtain ⟨k, hk, rfl, n, rfl, hn, HI⟩ := hrel
    by_cases hlt : k < l.length
    · obtain ⟨g, off, c', hV, hg, hc⟩ := rd_gets (HR.out.below HI.out.2) hlt
      injection hV with hA _ hcc
      subst hA
      clear hcc
      have hsk := hs l[k] (List.getElem_mem hlt)
      have hst : Hid (sumB (l.take (k + 1)) = n + l[k].length) := by
        unfold Hid
        rw [List.take_succ_eq_append_getElem hlt]
        have h1 := HI.out.1
        unfold sumB at h1 ⊢
        rw [List.map_append, List.sum_append, h1]
        simp
      go_wp2
      · go_ret
        exact ⟨.inl rfl, HI.out.2⟩
      · rename_i q
        exact ⟨⟨k + 1, by omega, by simp, n + l[k].length, by simp, by omega, hst.out, HI.out.2⟩, by simp [intOf]; omega⟩
    · obtain rfl : k = l.length := by omega
      have h1 := HI.out.1
      rw [List.take_length] at h1
      by_cases hbig : 2000 < l.length
      · go_wp2
        go_ret
        exact ⟨.inl (by rw [decide_eq_true (show (2000 : Int) < l.length by omega)]; rfl), HI.out.2⟩
      · go_wp2
        go_ret
        exact ⟨.inr ⟨by rw [decide_eq_false (show ¬ (2000 : Int) < l.length by omega)]; rfl, by omega, by omega⟩, HI.out.2⟩

end Go.Proofs.YtcmjalcmldgnkaaDoor
