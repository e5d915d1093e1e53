/- The first text of a text, and what is behind it. -/
import Derived.Test.YtijacbnoemjgcaaDoorPn5
import Derived.BigQuiet
set_option linter.unusedVariables false
set_option linter.unusedSimpArgs false
set_option linter.unnecessarySimpa false
namespace Go.Proofs.YtijacbnoemjgcaaDoor
open Go.RowKit Go.Shelf

theorem ba_get (r : Bs) (i : Nat) (h : i < r.length) : (⟨r.toArray⟩ : ByteArray)[i]'(by show i < r.toArray.size; simpa using h) = r[i] := rfl
theorem ba_take (r : Bs) (i : Nat) : (⟨r.toArray⟩ : ByteArray).extract 0 i = ⟨(r.take i).toArray⟩ := by
  apply ByteArray.ext
  simp [ByteArray.data_extract]
theorem ba_drop (r : Bs) (i : Nat) : (⟨r.toArray⟩ : ByteArray).extract i r.length = ⟨(r.drop i).toArray⟩ := by
  apply ByteArray.ext
  simp [ByteArray.data_extract]
  exact List.take_of_length_le (by simp)
theorem drewN_below {w w' : World} {k : Nat} (h : Below (w.drewN k).heap.size (w.drewN k) w') : Below w.heap.size w w' := ⟨h.os, h.tape, h.output, h.size, h.block⟩

end Go.Proofs.YtijacbnoemjgcaaDoor
