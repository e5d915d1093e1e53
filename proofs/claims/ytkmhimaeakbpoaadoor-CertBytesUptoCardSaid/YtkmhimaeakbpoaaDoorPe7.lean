/- A list's text. -/
import Derived.Test.YtkmhimaeakbpoaaDoorPe6
import Derived.Lib.ItoaLen
import Derived.Lib.OthersKept
set_option linter.unusedVariables false
set_option linter.unusedSimpArgs false
set_option linter.unnecessarySimpa false
namespace Go.Proofs.YtkmhimaeakbpoaaDoor
open Go.RowKit Go.Shelf

def strs (l : List Bs) : List Value := l.map fun s => .string ⟨s.toArray⟩
theorem strs_length (l : List Bs) : (strs l).length = l.length := by simp [strs]
theorem strs_get (l : List Bs) (k : Nat) (hk : k < l.length) : (strs l)[k]? = some (.string ⟨l[k].toArray⟩) := by simp [strs, hk]
theorem rd_gets {w : World} {B : Nat} {v : Value} {l : List Bs} (h : Rd w B 1 v l.length (strs l)) {k : Nat} (hk : k < l.length) :
    ∃ g off c, v = .slice (some ⟨g, off, none⟩) l.length c ∧ g < B ∧ w.cell? ⟨g, off + k, none⟩ = some (.string ⟨l[k].toArray⟩) := by
  obtain ⟨_, A, c, rfl, _, h0 | ⟨g, off, rfl, hg, hc⟩⟩ := h
  · omega
  · exact ⟨g, off, c, rfl, hg, hc _ _ (strs_get l k hk)⟩
theorem pack_take (l : List Bs) (k : Nat) (hk : k < l.length) : packB (l.take (k + 1)) = packB (l.take k) ++ itemB l[k] := by
  rw [List.take_succ_eq_append_getElem hk, packB_append]
  simp [packB]
theorem pack_take_le (l : List Bs) (k : Nat) : (packB (l.take k)).length ≤ (packB l).length := by
  have : packB l = packB (l.take k) ++ packB (l.drop k) := by rw [← packB_append, List.take_append_drop]
  rw [this]; simp

theorem isb_below {T e : TypeId} {B b : Nat} {bs : List Value} {w w' : World} (h : Lib.IsBuilderF T e B b bs w) (hb : Below w.heap.size w w') : Lib.IsBuilderF T e B b bs w' := by
  have key : ∀ p, Lib.BuilderAtF T e B b p bs w → Lib.BuilderAtF T e B b p bs w' := by
    rintro p ⟨h1, v, h2, h3, h4⟩
    exact ⟨h1, v, (hb.block b (Array.getElem?_eq_some_iff.1 h2).1).trans h2, h3.kept (row := none) ⟨hb.os, hb.tape, hb.output, hb.size, fun k hk _ => hb.block k hk⟩ (by cases v.ownBlock <;> simp), h4⟩
  exact h.elim (fun x => .inl (key _ x)) (fun x => .inr (key _ x))
def itemV (s : Bs) : ByteArray := ((⟨(Lib.itoa s.length).toArray⟩ : ByteArray) ++ ⟨#[58]⟩) ++ ⟨s.toArray⟩ ++ ⟨#[44]⟩
theorem item_data (s : Bs) : (itemV s).data.toList = itemB s := by
  unfold itemV itemB
  simp [ByteArray.data_append]
theorem item_size (s : Bs) : (itemV s).size = (itemB s).length := by
  rw [← item_data, Array.length_toList]; rfl
theorem item_cells (s : Bs) (pre : Bs) : Lib.byteCells pre ++ Lib.strCells (itemV s) = Lib.byteCells (pre ++ itemB s) := by
  rw [Lib.strCells_eq, item_data]; simp [Lib.byteCells]
theorem byteCells_length (s : Bs) : (Lib.byteCells s).length = s.length := by simp [Lib.byteCells]

set_option maxHeartbeats 4000000 in
set_option maxRecDepth 100000 in
theorem pack_anyN (v : Value) (l : List Bs) (B0 : Nat) (w : World) (hl : LayN w) (hB0 : B0 ≤ w.heap.size) (hr : Rd w B0 1 v l.length (strs l)) (hm : l.length ≤ 1000000000000) (hp : (packB l).length ≤ 140737488355328) :
    Calls Tryd.prog 38 #[v] w fun e w' => e = .returned (.string ⟨(packB l).toArray⟩) ∧ Below w.heap.size w w' := by
  have HR : Hid (Rd w w.heap.size 1 v l.length (strs l)) := hr.more hB0
  obtain ⟨_, A, c, rfl, _, _⟩ := hr
  go_enter Tryd.func38, Tryd.ntmps38
  go_wp2
  go_loopw [5, 8] (fun _ s wr => ∃ k : Nat, k ≤ l.length ∧ s = .int .i64 k ∧ Hid (Lib.IsBuilderF 108 5 w.heap.size w.heap.size (Lib.byteCells (packB (l.take k))) wr ∧ Below w.heap.size w wr ∧ w.heap.size < wr.heap.size)) (fun _ i _ => l.length - (intOf i).toNat)
  case atStart =>
    exact ⟨0, Nat.zero_le _, rfl, (Lib.IsBuilderF.of (Lib.fresh_isBuilder 108 5 w)), ((Below.refl _ w).alloc (Nat.le_refl _) _), by simp⟩
  case round =>
    obtain ⟨k, hk, rfl, HI⟩ := hrel
    by_cases hlt : k < l.length
    · obtain ⟨g, off, c', hV, hg, hc⟩ := rd_gets (HR.out.below HI.out.2.1) hlt
      injection hV with hA _ hcc
      subst hA
      clear hcc
      have hpk : (packB (l.take k)).length + (itemB l[k]).length ≤ 140737488355328 := by
        have := pack_take_le l (k + 1)
        rw [pack_take l k hlt, List.length_append] at this
        omega
      have hil : l[k].length ≤ (itemB l[k]).length := by simp [itemB]; omega
      have hlr : LayN wr := hl.later HI.out.2.1
      have hws := HI.out.2.1.size
      have hi21 := Lib.itoa_length_le (l[k].length : Int) (by omega) (by omega)
      go_wp2_with (go_at_call 37; refine (num_anyN _ (by omega) (by omega) _ hlr).mono ?_; rintro e w1 ⟨rfl, hb1⟩)
      all_goals (try (exfalso; omega))
      refine (Tryd.Builder_WriteString_k w.heap.size w.heap.size (Lib.byteCells (packB (l.take k))) (itemV l[k]) _ (isb_below HI.out.1 hb1) (by rw [byteCells_length, item_size]; omega) (Nat.le_trans hws hb1.size)).mono ?_
      rintro e w2 ⟨rfl, hI2, hb2, _⟩
      rw [item_cells, ← pack_take l k hlt] at hI2
      have hb3 : Below w.heap.size w w2 := (HI.out.2.1.trans (hb1.mono hws)).trans hb2
      have hs3 : w.heap.size < w2.heap.size := Nat.lt_of_lt_of_le HI.out.2.2 (Nat.le_trans hb1.size hb2.size)
      clear HI
      go_wp2
      go_roundw
      case rel => exact ⟨k + 1, by omega, by go_num, .inr hI2, hb3, hs3⟩
      case measure => simp [intOf]; omega
    · obtain rfl : k = l.length := by omega
      rw [List.take_length] at HI
      go_wp2_with fail
      refine (Tryd.Builder_String_any_k w.heap.size w.heap.size (packB l) _ HI.out.1 HI.out.2.1.size).mono ?_
      rintro e w2 ⟨rfl, _, hb2, _⟩
      go_wp2
      go_ret
      exact ⟨rfl, HI.out.2.1.trans hb2⟩

theorem pack_any (v : Value) (l : List Bs) (B0 : Nat) (w : World) (hl : Lay w) (hB0 : B0 ≤ w.heap.size) (hr : Rd w B0 1 v l.length (strs l)) (hm : l.length ≤ 1000000000000) (hp : (packB l).length ≤ 140737488355328) :
    Calls Tryd.prog 38 #[v] w fun e w' => e = .returned (.string ⟨(packB l).toArray⟩) ∧ Below w.heap.size w w' := pack_anyN v l B0 w hl.n hB0 hr hm hp


end Go.Proofs.YtkmhimaeakbpoaaDoor
