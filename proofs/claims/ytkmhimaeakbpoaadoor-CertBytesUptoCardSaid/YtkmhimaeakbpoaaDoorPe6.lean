/- The first text of a text, and what is behind it. -/
import Derived.Test.YtkmhimaeakbpoaaDoorPe5
import Derived.BigQuiet
set_option linter.unusedVariables false
set_option linter.unusedSimpArgs false
set_option linter.unnecessarySimpa false
namespace Go.Proofs.YtkmhimaeakbpoaaDoor
open Go.RowKit Go.Shelf

theorem cut_split (s : Bs) : Lib.cut s [58] = match splitColon s with
    | some (h, r) => (h, r, true)
    | none => (s, [], false) := by
  have key : ∀ s : Bs, match splitColon s with
      | some (h, r) => Lib.index s [58] = h.length ∧ s = h ++ 58 :: r
      | none => Lib.index s [58] = -1 := by
    intro s
    induction s with
    | nil => rfl
    | cons c s ih =>
      rw [splitColon]
      by_cases hc : c = 58
      · subst hc
        rw [if_pos rfl]
        exact ⟨by simp [Lib.index, List.isPrefixOf], rfl⟩
      · rw [if_neg hc]
        have hi : Lib.index (c :: s) [58] = if Lib.index s [58] == -1 then -1 else Lib.index s [58] + 1 := by
          have hc' : ¬ (58 : UInt8) = c := fun e => hc e.symm
          rw [Lib.index]
          simp [List.isPrefixOf, hc']
        cases hs : splitColon s with
        | none =>
          rw [hs] at ih
          simp only [Option.map_none]
          rw [hi, ih]; rfl
        | some p =>
          obtain ⟨h, r⟩ := p
          rw [hs] at ih
          simp only [Option.map_some]
          refine ⟨?_, by rw [ih.2]; rfl⟩
          rw [hi, ih.1, if_neg (by simp)]
          simp
  have hk := key s
  unfold Lib.cut
  cases hs : splitColon s with
  | none =>
    rw [hs] at hk
    simp only at hk
    rw [hk, if_neg (by omega)]
  | some p =>
    obtain ⟨h, r⟩ := p
    rw [hs] at hk
    obtain ⟨h1, h2⟩ := hk
    rw [h1, if_pos (by omega), h2]
    simp

theorem ba_get (r : Bs) (i : Nat) (h : i < r.length) : (⟨r.toArray⟩ : ByteArray)[i]'(by show i < r.toArray.size; simpa using h) = r[i] := rfl
theorem ba_take (r : Bs) (i : Nat) : (⟨r.toArray⟩ : ByteArray).extract 0 i = ⟨(r.take i).toArray⟩ := by
  apply ByteArray.ext
  simp [ByteArray.data_extract]
theorem ba_drop (r : Bs) (i : Nat) : (⟨r.toArray⟩ : ByteArray).extract i r.length = ⟨(r.drop i).toArray⟩ := by
  apply ByteArray.ext
  simp [ByteArray.data_extract]
  exact List.take_of_length_le (by simp)
theorem drewN_below {w w' : World} {k : Nat} (h : Below (w.drewN k).heap.size (w.drewN k) w') : Below w.heap.size w w' := ⟨h.os, h.tape, h.output, h.size, h.block⟩

set_option maxHeartbeats 4000000 in
set_option maxRecDepth 100000 in
theorem take_any (s : Bs) (hs : s.length < 4294967281) (w : World) (hl : Lay w) :
    Calls Tryd.prog 66 #[.string ⟨s.toArray⟩] w fun e w' => e = .returned (.tuple #[.string ⟨(takeB s).1.toArray⟩, .string ⟨(takeB s).2.1.toArray⟩, .int .i64 (takeB s).2.2]) ∧ Below w.heap.size w w' := by
  obtain ⟨m, hm⟩ := hl.max
  have hcut := Tryd.strings_Cut ⟨s.toArray⟩ ⟨#[58]⟩ m w (by show s.toArray.size < _; simpa using hs) hm
  have e1 : Lib.cut (⟨s.toArray⟩ : ByteArray).data.toList (⟨#[58]⟩ : ByteArray).data.toList = Lib.cut s [58] := by simp
  rw [e1, cut_split] at hcut
  cases hsp : splitColon s with
  | none =>
    rw [hsp] at hcut
    have e0 : takeB s = ([], [], 4) := by unfold takeB; rw [hsp]
    go_enter Tryd.func66, Tryd.ntmps66
    go_wp2_with (first | (go_at_call 75; refine hcut.mono ?_; rintro e w1 ⟨rfl, k, rfl⟩) | (go_at_call 42; refine (toNum_any s (by omega) _ (hl.drewN k)).mono ?_; rintro e w2 ⟨rfl, hb2⟩))
    go_ret3
    exact ⟨by rw [e0]; rfl, drewN_below hb2⟩
  | some p =>
    obtain ⟨h, r⟩ := p
    rw [hsp] at hcut
    have hlen : h.length ≤ s.length ∧ r.length < s.length := by have := (split_inv hsp).1; rw [this]; simp; omega
    go_enter Tryd.func66, Tryd.ntmps66
    go_wp2_with (go_at_call 75; refine hcut.mono ?_; rintro e w1 ⟨rfl, k, rfl⟩)
    refine (toNum_any h (by omega) _ (hl.drewN k)).mono ?_
    rintro e w2 ⟨rfl, hb2⟩
    have hb : Below w.heap.size w w2 := drewN_below hb2
    have et : Hid (takeB s = if (toNumB h).2 = 0 ∧ h.length ≤ 9 ∧ 0 ≤ (toNumB h).1 ∧ (toNumB h).1 < r.length ∧ r[(toNumB h).1.toNat]? = some 44 then (r.take (toNumB h).1.toNat, r.drop ((toNumB h).1.toNat + 1), 0) else ([], [], 4)) := by unfold Hid takeB; rw [hsp]
    generalize toNumB h = nh at et ⊢
    obtain ⟨n, en⟩ := nh
    simp only at et ⊢
    go_wp2
    · rename_i q0 q1 q2 q3 q4
      go_ret3
      refine ⟨?_, hb⟩
      rw [et.out, if_neg]
      · rfl
      · rintro ⟨c1, c2, c3, c4, c5⟩
        have hi : n.toNat < r.length := by omega
        rw [List.getElem?_eq_getElem hi] at c5
        injection c5 with c5
        rcases q4 with ((q | q) | q) | q
        · omega
        · omega
        · omega
        · rw [ba_get r n.toNat hi, c5] at q
          simp at q
    · rename_i q0 q1 q2 q3 q4 K ha
      obtain ⟨i, rfl⟩ : ∃ i : Nat, n = (i : Int) := ⟨n.toNat, by omega⟩
      have hi : i < r.length := by omega
      subst q0
      have e0 : Hid (takeB s = (r.take i, r.drop (i + 1), 0)) := by
        unfold Hid
        rw [et.out, if_pos]
        · simp
        · refine ⟨rfl, by omega, by omega, by omega, ?_⟩
          have hi' : (i : Int).toNat < r.length := by omega
          rw [List.getElem?_eq_getElem hi']
          have q5 := q4.2
          rw [ba_get r _ hi'] at q5
          simp at q5
          simp
          exact UInt8.toNat_inj.1 (by show r[i].toNat = 44; omega)
      clear q4 et
      go_quiet (fail)
      refine ha _ _ ?_
      go_wp2
      go_ret3
      refine ⟨?_, below_drewN hb _⟩
      rw [e0.out]
      simp only [← ba_take, ← ba_drop]
      rfl
    · rename_i q0 q1 q2 q3
      go_ret3
      refine ⟨?_, hb⟩
      rw [et.out, if_neg (by rintro ⟨c1, c2, c3, c4, c5⟩; omega)]
      rfl
    · rename_i q0 q1 q2
      go_ret3
      refine ⟨?_, hb⟩
      rw [et.out, if_neg (by rintro ⟨c1, c2, c3, c4, c5⟩; omega)]
      rfl
    · rename_i q0 q1
      go_ret3
      refine ⟨?_, hb⟩
      rw [et.out, if_neg (by rintro ⟨c1, c2, c3, c4, c5⟩; omega)]
      rfl
    · rename_i q0
      go_ret3
      refine ⟨?_, hb⟩
      rw [et.out, if_neg (by rintro ⟨c1, c2, c3, c4, c5⟩; exact q0 c1)]
      rfl

end Go.Proofs.YtkmhimaeakbpoaaDoor
