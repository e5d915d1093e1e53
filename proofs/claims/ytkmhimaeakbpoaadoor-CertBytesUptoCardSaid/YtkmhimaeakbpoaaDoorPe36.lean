/- The document's answer: a number's text. -/
import Derived.Test.YtkmhimaeakbpoaaDoorPe7
import Derived.BigQuiet
import Derived.Maps.AppendAt
set_option linter.unusedVariables false
set_option linter.unusedSimpArgs false
set_option linter.unnecessarySimpa false
namespace Go.Proofs.YtkmhimaeakbpoaaDoor
open Go.RowKit Go.Shelf

/-- The digits of k's amount, ahead of s; none for 0. -/
def digs (k : Int) : Bs := if k = 0 then [] else Lib.decDigits k.natAbs
theorem digs_step (k : Int) (hk : k ≠ 0) : digs k = digs (k.tdiv 10) ++ [UInt8.ofNat (48 + k.natAbs % 10)] := by
  have e : (k.tdiv 10).natAbs = k.natAbs / 10 := by rw [Int.natAbs_tdiv]; rfl
  unfold digs
  rw [if_neg hk, Lib.decDigits, e]
  by_cases h : k.natAbs < 10
  · have h0 : k.tdiv 10 = 0 := by
      apply Int.natAbs_eq_zero.1
      rw [e]; omega
    simp only [h, h0, if_true, dite_true, Nat.mod_eq_of_lt h, List.nil_append]
  · have h0 : k.tdiv 10 ≠ 0 := by
      intro e0
      rw [e0] at e
      simp at e
      omega
    simp only [h, h0, if_false, dite_false]
theorem itoa_digs (n : Int) (hn : n ≠ 0) : Lib.itoa n = if n < 0 then 45 :: digs n else digs n := by
  unfold Lib.itoa digs
  rw [if_neg hn]
  by_cases h : n < 0
  · rw [if_pos h, if_pos h]
  · rw [if_neg h, if_neg h, show n.toNat = n.natAbs by omega]

theorem digs_len (n : Int) (h0 : -9223372036854775808 ≤ n) (h1 : n ≤ 9223372036854775807) : (digs n).length ≤ 21 := by
  by_cases hz : n = 0
  · subst hz; simp [digs]
  · have h := Lib.itoa_length_le n h0 h1
    rw [itoa_digs n hz] at h
    split at h
    · simp at h; omega
    · exact h
theorem conv1 {P : Program} {src dst e : TypeId} (hs : P.underlying src = some (.slice e)) (he : P.underlying e = some (.int .u8)) (hd : P.underlying dst = some .string) (w : World) (x : Int) :
    (convert src dst (.slice (some ⟨w.heap.size, 0, none⟩) 1 1)).run P (w.alloc (.cells #[.int .u8 x] e)) = .ok (.string ⟨#[UInt8.ofNat x.toNat]⟩) (w.alloc (.cells #[.int .u8 x] e)) := by
  rw [run_convert_bytes_string _ src dst e _ 1 1 hs he hd]
  have hl := run_loadCells_list (P := P) (w.alloc (.cells #[.int .u8 x] e)) ⟨w.heap.size, 0, none⟩ ([x].map (Value.int .u8)) (cell_one_new _ _ _)
  simp only [List.length_map, List.length_singleton] at hl
  rw [run_bytesToString _ _ 1 1 _ hl]
  rfl
theorem ba_cons (c : UInt8) (s : Bs) : (⟨#[c]⟩ : ByteArray) ++ ⟨s.toArray⟩ = ⟨(c :: s).toArray⟩ := by
  apply ByteArray.ext
  simp [ByteArray.data_append]

set_option maxHeartbeats 4000000 in
set_option maxRecDepth 100000 in
theorem rnum_any (n : Int) (h0 : -9223372036854775808 ≤ n) (h1 : n ≤ 9223372036854775807) (w : World) :
    Calls Tryd.prog 39 #[.int .i64 n] w fun e w' => e = .returned (.string ⟨(Lib.itoa n).toArray⟩) ∧ Below w.heap.size w w' := by
  by_cases hz : n = 0
  · subst hz
    have e0 : Lib.itoa 0 = [48] := by unfold Lib.itoa; rw [if_neg (by omega), Lib.decDigits, dif_pos (by decide)]; rfl
    go_enter Tryd.func39, Tryd.ntmps39
    go_wp2
    go_ret
    exact ⟨by rw [e0]; rfl, Below.refl _ _⟩
  · have hz' : (n == 0) = false := by simpa using hz
    have hit := itoa_digs n hz
    go_enter Tryd.func39, Tryd.ntmps39
    go_wp2
    go_loopw [3, 4, 5] (fun s k _ wr => ∃ (kk : Int) (acc : Bs), k = .int .i64 kk ∧ s = .string ⟨acc.toArray⟩ ∧ (-9223372036854775808 ≤ kk ∧ kk ≤ 9223372036854775807) ∧ Hid (digs n = digs kk ++ acc ∧ Below w.heap.size w wr)) (fun _ k _ _ => (intOf k).natAbs)
    case atStart => exact ⟨n, [], rfl, rfl, ⟨h0, h1⟩, by simp, Below.refl _ _⟩
    case round =>
      obtain ⟨kk, acc, rfl, rfl, hb, HI⟩ := hrel
      by_cases hk : kk = 0
      · subst hk
        have hdn : digs n = acc := by have := HI.out.1; simpa [digs] using this
        have hal : acc.length ≤ 21 := by rw [← hdn]; exact digs_len n h0 h1
        go_wp2
        all_goals
          go_ret
          refine ⟨?_, HI.out.2⟩
          rw [hit, hdn]
          split
          · first | (show Ending.returned (Value.string ((⟨#[45]⟩ : ByteArray) ++ ⟨acc.toArray⟩)) = _; rw [ba_cons]) | omega
          · first | rfl | omega
      · have hk' : (kk == 0) = false := by simpa using hk
        have hcv := conv1 (P := Tryd.prog) Tryd.underlying104 Tryd.underlying5 Tryd.underlying9 wr
        have hal : acc.length ≤ 21 := by
          have := congrArg List.length HI.out.1
          have h2 := digs_len n h0 h1
          rw [List.length_append] at this
          omega
        go_wp2
        all_goals
          have e1 : (kk.tdiv 10).natAbs = kk.natAbs / 10 := by rw [Int.natAbs_tdiv]; rfl
          have e2 : (kk.tmod 10).natAbs = kk.natAbs % 10 := by rw [Int.natAbs_tmod]; rfl
          have hs := digs_step kk hk
          have hbw : Below w.heap.size w wr := HI.out.2
        · rename_i q
          have hx : (wrap64 (48 + wrap64 (-kk.tmod 10)) % 256).toNat = 48 + kk.natAbs % 10 := by
            generalize kk.tmod 10 = d at *
            have w1 : wrap64 (-d) = -d := by unfold wrap64; omega
            rw [w1]
            have w2 : wrap64 (48 + -d) = 48 + -d := by unfold wrap64; omega
            rw [w2]; omega
          rw [hx]
          refine ⟨⟨kk.tdiv 10, UInt8.ofNat (48 + kk.natAbs % 10) :: acc, rfl, congrArg _ (ba_cons _ _), ⟨by omega, by omega⟩, by rw [HI.out.1, hs]; simp, hbw.alloc hbw.size _⟩, ?_⟩
          simp only [intOf]; omega
        · rename_i q
          have hx : (wrap64 (48 + kk.tmod 10) % 256).toNat = 48 + kk.natAbs % 10 := by
            generalize kk.tmod 10 = d at *
            have w2 : wrap64 (48 + d) = 48 + d := by unfold wrap64; omega
            rw [w2]; omega
          rw [hx]
          refine ⟨⟨kk.tdiv 10, UInt8.ofNat (48 + kk.natAbs % 10) :: acc, rfl, congrArg _ (ba_cons _ _), ⟨by omega, by omega⟩, by rw [HI.out.1, hs]; simp, hbw.alloc hbw.size _⟩, ?_⟩
          simp only [intOf]; omega

end Go.Proofs.YtkmhimaeakbpoaaDoor
