/- The first text of a text, and what is behind it. -/
import Derived.Test.YtijacbnoemjgcaaGreatDoorPb3
import Derived.BigQuiet
import Derived.Lib.ItoaLen
import Derived.Lib.OthersKept
set_option linter.unusedVariables false
set_option linter.unusedSimpArgs false
set_option linter.unnecessarySimpa false
namespace Go.Proofs.YtijacbnoemjgcaaGreatDoor
open Go.RowKit Go.Shelf

theorem cut_split (s : Bs) : Lib.cut s [58] = match splitColon s with
    | some (h, r) => (h, r, true)
    | none => (s, [], false) := by
  have key : ∀ s : Bs, match splitColon s with
      | some (h, r) => Lib.index s [58] = h.length ∧ s = h ++ 58 :: r
      | none => Lib.index s [58] = -1 := by
    intro s
    induction s with
    | nil => rfl
    | cons c s ih =>
      rw [splitColon]
      by_cases hc : c = 58
      · subst hc
        rw [if_pos rfl]
        exact ⟨by simp [Lib.index, List.isPrefixOf], rfl⟩
      · rw [if_neg hc]
        have hi : Lib.index (c :: s) [58] = if Lib.index s [58] == -1 then -1 else Lib.index s [58] + 1 := by
          have hc' : ¬ (58 : UInt8) = c := fun e => hc e.symm
          rw [Lib.index]
          simp [List.isPrefixOf, hc']
        cases hs : splitColon s with
        | none =>
          rw [hs] at ih
          simp only [Option.map_none]
          rw [hi, ih]; rfl
        | some p =>
          obtain ⟨h, r⟩ := p
          rw [hs] at ih
          simp only [Option.map_some]
          refine ⟨?_, by rw [ih.2]; rfl⟩
          rw [hi, ih.1, if_neg (by simp)]
          simp
  have hk := key s
  unfold Lib.cut
  cases hs : splitColon s with
  | none =>
    rw [hs] at hk
    simp only at hk
    rw [hk, if_neg (by omega)]
  | some p =>
    obtain ⟨h, r⟩ := p
    rw [hs] at hk
    obtain ⟨h1, h2⟩ := hk
    rw [h1, if_pos (by omega), h2]
    simp

theorem ba_get (r : Bs) (i : Nat) (h : i < r.length) : (⟨r.toArray⟩ : ByteArray)[i]'(by show i < r.toArray.size; simpa using h) = r[i] := rfl
theorem ba_take (r : Bs) (i : Nat) : (⟨r.toArray⟩ : ByteArray).extract 0 i = ⟨(r.take i).toArray⟩ := by
  apply ByteArray.ext
  simp [ByteArray.data_extract]
theorem ba_drop (r : Bs) (i : Nat) : (⟨r.toArray⟩ : ByteArray).extract i r.length = ⟨(r.drop i).toArray⟩ := by
  apply ByteArray.ext
  simp [ByteArray.data_extract]
  exact List.take_of_length_le (by simp)
theorem drewN_below {w w' : World} {k : Nat} (h : Below (w.drewN k).heap.size (w.drewN k) w') : Below w.heap.size w w' := ⟨h.os, h.tape, h.output, h.size, h.block⟩

set_option maxHeartbeats 4000000 in
set_option maxRecDepth 100000 in
theorem take_any (s : Bs) (hs : s.length < 4294967281) (w : World) (hl : Lay w) :
    Calls Tryz.prog 40 #[.string ⟨s.toArray⟩] w fun e w' => e = .returned (.tuple #[.string ⟨(takeB s).1.toArray⟩, .string ⟨(takeB s).2.1.toArray⟩, .int .i64 (takeB s).2.2]) ∧ Below w.heap.size w w' := by
  obtain ⟨m, hm⟩ := hl.max
  have hcut := Tryz.strings_Cut ⟨s.toArray⟩ ⟨#[58]⟩ m w (by show s.toArray.size < _; simpa using hs) hm
  have e1 : Lib.cut (⟨s.toArray⟩ : ByteArray).data.toList (⟨#[58]⟩ : ByteArray).data.toList = Lib.cut s [58] := by simp
  rw [e1, cut_split] at hcut
  cases hsp : splitColon s with
  | none =>
    rw [hsp] at hcut
    have e0 : takeB s = ([], [], 4) := by unfold takeB; rw [hsp]
    go_enter Tryz.func40, Tryz.ntmps40
    go_wp2_with (first | (go_at_call 51; refine hcut.mono ?_; rintro e w1 ⟨rfl, k, rfl⟩) | (go_at_call 28; refine (toNum_any s (by omega) _ (hl.drewN k)).mono ?_; rintro e w2 ⟨rfl, hb2⟩))
    go_ret3
    exact ⟨by rw [e0]; rfl, drewN_below hb2⟩
  | some p =>
    obtain ⟨h, r⟩ := p
    rw [hsp] at hcut
    have hlen : h.length ≤ s.length ∧ r.length < s.length := by have := (split_inv hsp).1; rw [this]; simp; omega
    go_enter Tryz.func40, Tryz.ntmps40
    go_wp2_with (go_at_call 51; refine hcut.mono ?_; rintro e w1 ⟨rfl, k, rfl⟩)
    refine (toNum_any h (by omega) _ (hl.drewN k)).mono ?_
    rintro e w2 ⟨rfl, hb2⟩
    have hb : Below w.heap.size w w2 := drewN_below hb2
    have et : Hid (takeB s = if (toNumB h).2 = 0 ∧ h.length ≤ 9 ∧ 0 ≤ (toNumB h).1 ∧ (toNumB h).1 < r.length ∧ r[(toNumB h).1.toNat]? = some 44 then (r.take (toNumB h).1.toNat, r.drop ((toNumB h).1.toNat + 1), 0) else ([], [], 4)) := by unfold Hid takeB; rw [hsp]
    generalize toNumB h = nh at et ⊢
    obtain ⟨n, en⟩ := nh
    simp only at et ⊢
    go_wp2
    · rename_i q0 q1 q2 q3 q4
      go_ret3
      refine ⟨?_, hb⟩
      rw [et.out, if_neg]
      · rfl
      · rintro ⟨c1, c2, c3, c4, c5⟩
        have hi : n.toNat < r.length := by omega
        rw [List.getElem?_eq_getElem hi] at c5
        injection c5 with c5
        rcases q4 with ((q | q) | q) | q
        · omega
        · omega
        · omega
        · rw [ba_get r n.toNat hi, c5] at q
          simp at q
    · rename_i q0 q1 q2 q3 q4 K ha
      obtain ⟨i, rfl⟩ : ∃ i : Nat, n = (i : Int) := ⟨n.toNat, by omega⟩
      have hi : i < r.length := by omega
      subst q0
      have e0 : Hid (takeB s = (r.take i, r.drop (i + 1), 0)) := by
        unfold Hid
        rw [et.out, if_pos]
        · simp
        · refine ⟨rfl, by omega, by omega, by omega, ?_⟩
          have hi' : (i : Int).toNat < r.length := by omega
          rw [List.getElem?_eq_getElem hi']
          have q5 := q4.2
          rw [ba_get r _ hi'] at q5
          simp at q5
          simp
          exact UInt8.toNat_inj.1 (by show r[i].toNat = 44; omega)
      clear q4 et
      go_quiet (fail)
      refine ha _ _ ?_
      go_wp2
      go_ret3
      refine ⟨?_, below_drewN hb _⟩
      rw [e0.out]
      simp only [← ba_take, ← ba_drop]
      rfl
    · rename_i q0 q1 q2 q3
      go_ret3
      refine ⟨?_, hb⟩
      rw [et.out, if_neg (by rintro ⟨c1, c2, c3, c4, c5⟩; omega)]
      rfl
    · rename_i q0 q1 q2
      go_ret3
      refine ⟨?_, hb⟩
      rw [et.out, if_neg (by rintro ⟨c1, c2, c3, c4, c5⟩; omega)]
      rfl
    · rename_i q0 q1
      go_ret3
      refine ⟨?_, hb⟩
      rw [et.out, if_neg (by rintro ⟨c1, c2, c3, c4, c5⟩; omega)]
      rfl
    · rename_i q0
      go_ret3
      refine ⟨?_, hb⟩
      rw [et.out, if_neg (by rintro ⟨c1, c2, c3, c4, c5⟩; exact q0 c1)]
      rfl

end Go.Proofs.YtijacbnoemjgcaaGreatDoor

namespace Go.Proofs.YtijacbnoemjgcaaGreatDoor
open Go.RowKit Go.Shelf

def strs (l : List Bs) : List Value := l.map fun s => .string ⟨s.toArray⟩
theorem strs_length (l : List Bs) : (strs l).length = l.length := by simp [strs]
theorem strs_get (l : List Bs) (k : Nat) (hk : k < l.length) : (strs l)[k]? = some (.string ⟨l[k].toArray⟩) := by simp [strs, hk]
theorem rd_gets {w : World} {B : Nat} {v : Value} {l : List Bs} (h : Rd w B 1 v l.length (strs l)) {k : Nat} (hk : k < l.length) :
    ∃ g off c, v = .slice (some ⟨g, off, none⟩) l.length c ∧ g < B ∧ w.cell? ⟨g, off + k, none⟩ = some (.string ⟨l[k].toArray⟩) := by
  obtain ⟨_, A, c, rfl, _, h0 | ⟨g, off, rfl, hg, hc⟩⟩ := h
  · omega
  · exact ⟨g, off, c, rfl, hg, hc _ _ (strs_get l k hk)⟩
theorem pack_take (l : List Bs) (k : Nat) (hk : k < l.length) : packB (l.take (k + 1)) = packB (l.take k) ++ itemB l[k] := by
  rw [List.take_succ_eq_append_getElem hk, packB_append]
  simp [packB]
theorem pack_take_le (l : List Bs) (k : Nat) : (packB (l.take k)).length ≤ (packB l).length := by
  have : packB l = packB (l.take k) ++ packB (l.drop k) := by rw [← packB_append, List.take_append_drop]
  rw [this]; simp

theorem isb_below {T e : TypeId} {B b : Nat} {bs : List Value} {w w' : World} (h : Lib.IsBuilderF T e B b bs w) (hb : Below w.heap.size w w') : Lib.IsBuilderF T e B b bs w' := by
  have key : ∀ p, Lib.BuilderAtF T e B b p bs w → Lib.BuilderAtF T e B b p bs w' := by
    rintro p ⟨h1, v, h2, h3, h4⟩
    exact ⟨h1, v, (hb.block b (Array.getElem?_eq_some_iff.1 h2).1).trans h2, h3.kept (row := none) ⟨hb.os, hb.tape, hb.output, hb.size, fun k hk _ => hb.block k hk⟩ (by cases v.ownBlock <;> simp), h4⟩
  exact h.elim (fun x => .inl (key _ x)) (fun x => .inr (key _ x))
def itemV (s : Bs) : ByteArray := ((⟨(Lib.itoa s.length).toArray⟩ : ByteArray) ++ ⟨#[58]⟩) ++ ⟨s.toArray⟩ ++ ⟨#[44]⟩
theorem item_data (s : Bs) : (itemV s).data.toList = itemB s := by
  unfold itemV itemB
  simp [ByteArray.data_append]
theorem item_size (s : Bs) : (itemV s).size = (itemB s).length := by
  rw [← item_data, Array.length_toList]; rfl
theorem item_cells (s : Bs) (pre : Bs) : Lib.byteCells pre ++ Lib.strCells (itemV s) = Lib.byteCells (pre ++ itemB s) := by
  rw [Lib.strCells_eq, item_data]; simp [Lib.byteCells]
theorem byteCells_length (s : Bs) : (Lib.byteCells s).length = s.length := by simp [Lib.byteCells]

set_option maxHeartbeats 4000000 in
set_option maxRecDepth 100000 in
theorem pack_anyN (v : Value) (l : List Bs) (B0 : Nat) (w : World) (hl : LayN w) (hB0 : B0 ≤ w.heap.size) (hr : Rd w B0 1 v l.length (strs l)) (hm : l.length ≤ 1000000000000) (hp : (packB l).length ≤ 140737488355328) :
    Calls Tryz.prog 20 #[v] w fun e w' => e = .returned (.string ⟨(packB l).toArray⟩) ∧ Below w.heap.size w w' := by
  have HR : Hid (Rd w w.heap.size 1 v l.length (strs l)) := hr.more hB0
  obtain ⟨_, A, c, rfl, _, _⟩ := hr
  go_enter Tryz.func20, Tryz.ntmps20
  go_wp2
  go_loopw [5, 8] (fun _ s wr => ∃ k : Nat, k ≤ l.length ∧ s = .int .i64 k ∧ Hid (Lib.IsBuilderF 98 5 w.heap.size w.heap.size (Lib.byteCells (packB (l.take k))) wr ∧ Below w.heap.size w wr ∧ w.heap.size < wr.heap.size)) (fun _ i _ => l.length - (intOf i).toNat)
  case atStart =>
    exact ⟨0, Nat.zero_le _, rfl, (Lib.IsBuilderF.of (Lib.fresh_isBuilder 98 5 w)), ((Below.refl _ w).alloc (Nat.le_refl _) _), by simp⟩
  case round =>
    obtain ⟨k, hk, rfl, HI⟩ := hrel
    by_cases hlt : k < l.length
    · obtain ⟨g, off, c', hV, hg, hc⟩ := rd_gets (HR.out.below HI.out.2.1) hlt
      injection hV with hA _ hcc
      subst hA
      clear hcc
      have hpk : (packB (l.take k)).length + (itemB l[k]).length ≤ 140737488355328 := by
        have := pack_take_le l (k + 1)
        rw [pack_take l k hlt, List.length_append] at this
        omega
      have hil : l[k].length ≤ (itemB l[k]).length := by simp [itemB]; omega
      have hlr : LayN wr := hl.later HI.out.2.1
      have hws := HI.out.2.1.size
      have hi21 := Lib.itoa_length_le (l[k].length : Int) (by omega) (by omega)
      go_wp2_with (go_at_call 19; refine (num_anyN _ (by omega) (by omega) _ hlr).mono ?_; rintro e w1 ⟨rfl, hb1⟩)
      all_goals (try (exfalso; omega))
      refine (Tryz.Builder_WriteString_k w.heap.size w.heap.size (Lib.byteCells (packB (l.take k))) (itemV l[k]) _ (isb_below HI.out.1 hb1) (by rw [byteCells_length, item_size]; omega) (Nat.le_trans hws hb1.size)).mono ?_
      rintro e w2 ⟨rfl, hI2, hb2, _⟩
      rw [item_cells, ← pack_take l k hlt] at hI2
      have hb3 : Below w.heap.size w w2 := (HI.out.2.1.trans (hb1.mono hws)).trans hb2
      have hs3 : w.heap.size < w2.heap.size := Nat.lt_of_lt_of_le HI.out.2.2 (Nat.le_trans hb1.size hb2.size)
      clear HI
      go_wp2
      go_roundw
      case rel => exact ⟨k + 1, by omega, by go_num, .inr hI2, hb3, hs3⟩
      case measure => simp [intOf]; omega
    · obtain rfl : k = l.length := by omega
      rw [List.take_length] at HI
      go_wp2_with fail
      refine (Tryz.Builder_String_any_k w.heap.size w.heap.size (packB l) _ HI.out.1 HI.out.2.1.size).mono ?_
      rintro e w2 ⟨rfl, _, hb2, _⟩
      go_wp2
      go_ret
      exact ⟨rfl, HI.out.2.1.trans hb2⟩

theorem pack_any (v : Value) (l : List Bs) (B0 : Nat) (w : World) (hl : Lay w) (hB0 : B0 ≤ w.heap.size) (hr : Rd w B0 1 v l.length (strs l)) (hm : l.length ≤ 1000000000000) (hp : (packB l).length ≤ 140737488355328) :
    Calls Tryz.prog 20 #[v] w fun e w' => e = .returned (.string ⟨(packB l).toArray⟩) ∧ Below w.heap.size w w' := pack_anyN v l B0 w hl.n hB0 hr hm hp


end Go.Proofs.YtijacbnoemjgcaaGreatDoor
