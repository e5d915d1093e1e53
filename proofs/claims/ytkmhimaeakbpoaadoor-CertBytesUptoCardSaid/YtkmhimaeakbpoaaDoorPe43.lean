/- The document's answer: the first text of a text. -/
import Derived.Test.YtkmhimaeakbpoaaDoorPe42
set_option linter.unusedVariables false
set_option linter.unusedSimpArgs false
set_option linter.unnecessarySimpa false
namespace Go.Proofs.YtkmhimaeakbpoaaDoor
open Go.RowKit Go.Shelf

theorem ba_mid (r : Bs) (a b : Nat) : (⟨r.toArray⟩ : ByteArray).extract a b = ⟨((r.drop a).take (b - a)).toArray⟩ := by
  apply ByteArray.ext
  simp [ByteArray.data_extract]
theorem split_first (s : Bs) (k : Nat) (hk : k < s.length) (hn : ∀ c ∈ s.take k, c ≠ 58) (hc : s[k] = 58) : splitColon s = some (s.take k, s.drop (k + 1)) := by
  have h : s = s.take k ++ 58 :: s.drop (k + 1) := by rw [← hc, ← List.drop_eq_getElem_cons hk, List.take_append_drop]
  have := split_at (s.take k) (s.drop (k + 1)) hn
  rw [← h] at this
  exact this
theorem take_long (s : Bs) (h : (∀ c ∈ s.take 10, c ≠ 58) ∨ (∀ c ∈ s, c ≠ 58)) : takeB s = ([], [], 4) := by
  unfold takeB
  cases hs : splitColon s with
  | none => rfl
  | some p =>
    obtain ⟨a, r⟩ := p
    obtain ⟨e, hn⟩ := split_inv hs
    simp only
    rw [if_neg]
    rintro ⟨_, h9, _⟩
    rcases h with h | h
    · refine h 58 ?_ rfl
      rw [e, List.take_append]
      rw [List.take_of_length_le (by omega)]
      refine List.mem_append_right _ ?_
      obtain ⟨m, hm⟩ : ∃ m, 10 - a.length = m + 1 := ⟨9 - a.length, by omega⟩
      rw [hm, List.take_succ_cons]
      simp
    · refine h 58 ?_ rfl
      rw [e]
      simp

set_option maxHeartbeats 4000000 in
set_option maxRecDepth 100000 in
theorem rtake_any (s : Bs) (hs : s.length ≤ 281474976710656) (w : World) :
    Calls Tryd.prog 58 #[.string ⟨s.toArray⟩] w fun e w' => e = .returned (.tuple #[.string ⟨(takeB s).1.toArray⟩, .string ⟨(takeB s).2.1.toArray⟩, .int .i64 (takeB s).2.2]) ∧ Below w.heap.size w w' := by
  go_enter Tryd.func58, Tryd.ntmps58
  go_wp2
  go_loopw [5] (fun i wr => ∃ k : Nat, k ≤ s.length ∧ k ≤ 10 ∧ i = .int .i64 k ∧ Hid (∀ c ∈ s.take k, c ≠ 58) ∧ wr = w) (fun i _ => s.length - (intOf i).toNat)
  case atStart => exact ⟨0, Nat.zero_le _, by omega, rfl, by simp [Hid], rfl⟩
  case round =>
    obtain ⟨k, hk, hk10, rfl, HN, hw⟩ := hrel
    subst hw
    by_cases hlt : k < s.length ∧ k < 10
    · obtain ⟨hlt, hk9⟩ := hlt
      by_cases hc : s[k] = 58
      · have hsp := split_first s k hlt HN.out hc
        have et : Hid (takeB s = if (toNumB (s.take k)).2 = 0 ∧ (s.take k).length ≤ 9 ∧ 0 ≤ (toNumB (s.take k)).1 ∧ (toNumB (s.take k)).1 < (s.drop (k + 1)).length ∧ (s.drop (k + 1))[(toNumB (s.take k)).1.toNat]? = some 44 then ((s.drop (k + 1)).take (toNumB (s.take k)).1.toNat, (s.drop (k + 1)).drop ((toNumB (s.take k)).1.toNat + 1), 0) else ([], [], 4)) := by unfold Hid takeB; rw [hsp]
        have hcb : ((⟨s.toArray⟩ : ByteArray)[k]'(by show k < s.toArray.size; simpa using hlt)).toNat = 58 := by rw [ba_get' s k hlt, hc]; rfl
        clear hsp
        go_wp2_with fail
        rw [ba_take]
        refine (rtoNum_any (s.take k) (by simp; omega) _).mono ?_
        rintro e w1 ⟨rfl, hb1⟩
        generalize toNumB (s.take k) = nh at et ⊢
        obtain ⟨n, en⟩ := nh
        simp only at et ⊢
        have hdl : (s.drop (k + 1)).length = s.length - (k + 1) := by simp
        by_cases he : en = 0
        · subst he
          by_cases hn0 : n < 0
          · go_wp2
            go_ret3
            exact ⟨by rw [et.out, if_neg (by rintro ⟨c1, c2, c3, c4, c5⟩; omega)]; rfl, hb1⟩
          · obtain ⟨i, rfl⟩ : ∃ i : Nat, n = (i : Int) := ⟨n.toNat, by omega⟩
            simp only [Int.toNat_natCast] at et
            by_cases hlen : k + 1 + i < s.length
            · have hgi : (s.drop (k + 1))[i]? = some s[k + 1 + i] := by rw [List.getElem?_drop, List.getElem?_eq_getElem hlen]
              have hbnd : (i : Int) < (s.length : Int) - (k : Int) - 1 := by omega
              have HGI := Lib.hid hgi
              have HDL := Lib.hid hdl
              clear hgi hdl
              by_cases hcm : s[k + 1 + i] = 44
              · have hcm2 : ((⟨s.toArray⟩ : ByteArray)[k + 1 + i]'(by show k + 1 + i < s.toArray.size; simpa using hlen)).toNat = 44 := by rw [ba_get' s _ hlen, hcm]; rfl
                have et0 : Hid (takeB s = ((s.drop (k + 1)).take i, (s.drop (k + 1)).drop (i + 1), 0)) := by
                  unfold Hid
                  rw [et.out, if_pos]
                  refine ⟨trivial, by rw [List.length_take]; omega, by omega, by have := HDL.out; omega, by rw [HGI.out, hcm]⟩
                clear et
                go_wp2
                have w1' : IntKind.i64.wrap ((k : Int) + 1) = (k : Int) + 1 := by rw [IntKind.wrap_i64]; omega
                have w2' : IntKind.i64.wrap ((k : Int) + 2) = (k : Int) + 2 := by rw [IntKind.wrap_i64]; omega
                have w3' : IntKind.i64.wrap ((k : Int) + 1 + (i : Int)) = (k : Int) + 1 + (i : Int) := by rw [IntKind.wrap_i64]; omega
                have w4' : IntKind.i64.wrap ((k : Int) + 2 + (i : Int)) = (k : Int) + 2 + (i : Int) := by rw [IntKind.wrap_i64]; omega
                have b1 : (0 : Int) ≤ (k : Int) + 1 := by omega
                have b2 : (k : Int) + 1 ≤ (k : Int) + 1 + (i : Int) := by omega
                have b3 : (k : Int) + 1 + (i : Int) ≤ (s.length : Int) := by omega
                have b4 : (0 : Int) ≤ (k : Int) + 2 + (i : Int) := by omega
                have b5 : (k : Int) + 2 + (i : Int) ≤ (s.length : Int) := by omega
                rename (∀ (a : Act) (w : World), Code.wp _ _ _ a w → _) => ha
                go_quiet (fail)
                refine ha _ _ ?_
                go_wp2
                go_ret3
                refine ⟨?_, below_drewN hb1 _⟩
                rw [et0.out]
                show Ending.returned (.tuple #[.string ((⟨s.toArray⟩ : ByteArray).extract (k + 1) (k + 1 + i)), .string ((⟨s.toArray⟩ : ByteArray).extract (k + 2 + i) s.length), .int .i64 0]) = _
                rw [ba_mid, ba_drop, show k + 1 + i - (k + 1) = i by omega, List.drop_drop, show k + 1 + (i + 1) = k + 2 + i by omega]
              · have hcm2 : ¬ ((⟨s.toArray⟩ : ByteArray)[k + 1 + i]'(by show k + 1 + i < s.toArray.size; simpa using hlen)).toNat = 44 := by
                  rw [ba_get' s _ hlen]; exact fun e => hcm (UInt8.toNat_inj.1 e)
                go_wp2
                · go_ret3
                  refine ⟨?_, hb1⟩
                  rw [et.out, if_neg]
                  · rfl
                  · rintro ⟨c1, c2, c3, c4, c5⟩
                    rw [HGI.out] at c5
                    injection c5 with c5
                    exact hcm c5
                · rename_i q K ha
                  exfalso
                  have := q.2
                  simp at this
                  omega
            · have hbnd : (s.length : Int) - (k : Int) - 1 ≤ (i : Int) := by omega
              have HDL := Lib.hid hdl
              clear hdl
              go_wp2
              go_ret3
              exact ⟨by rw [et.out, if_neg (by rintro ⟨c1, c2, c3, c4, c5⟩; have := HDL.out; omega)]; rfl, hb1⟩
        · go_wp2
          go_ret3
          exact ⟨by rw [et.out, if_neg (by rintro ⟨c1, c2, c3, c4, c5⟩; exact he c1)]; rfl, hb1⟩
      · have hcb : ¬ ((⟨s.toArray⟩ : ByteArray)[k]'(by show k < s.toArray.size; simpa using hlt)).toNat = 58 := by
          rw [ba_get' s k hlt]; exact fun e => hc (UInt8.toNat_inj.1 e)
        go_wp2
        refine ⟨⟨k + 1, by omega, by omega, by simp, ?_, trivial⟩, by simp [intOf]; omega⟩
        intro c hcc
        rw [List.take_succ_eq_append_getElem hlt] at hcc
        rcases List.mem_append.1 hcc with h | h
        · exact HN.out c h
        · rw [List.mem_singleton] at h
          rw [h]; exact hc
    · have et : Hid (takeB s = ([], [], 4)) := by
        refine take_long s ?_
        by_cases h10 : k = 10
        · subst h10; exact .inl HN.out
        · have : k = s.length := by omega
          subst this
          have := HN.out
          rw [List.take_length] at this
          exact .inr this
      by_cases h1 : k < s.length
      · have h2 : ¬ k ≤ 9 := by omega
        go_wp2
        go_ret3
        exact ⟨by rw [et.out]; rfl, Below.refl _ _⟩
      · go_wp2
        go_ret3
        exact ⟨by rw [et.out]; rfl, Below.refl _ _⟩

end Go.Proofs.YtkmhimaeakbpoaaDoor
