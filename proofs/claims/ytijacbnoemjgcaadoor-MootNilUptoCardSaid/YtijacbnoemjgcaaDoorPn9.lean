/- What the laws' rows lay gives 'Lay'; a world that meets it. -/
import Derived.Test.YtijacbnoemjgcaaDoorCards
import Derived.Test.YtijacbnoemjgcaaDoorTie
import Derived.Test.YtijacbnoemjgcaaDoorPn5
import Derived.ProofKit
import Derived.OpenShut
import Derived.Deep.DeepHandedRow
import Derived.Deep.DeepWitnessRowRef
import Derived.Stop.LaidErr
set_option linter.unusedVariables false
set_option linter.unusedSimpArgs false
set_option linter.unnecessarySimpa false
namespace Go.Proofs.YtijacbnoemjgcaaDoor
open Go.ChangeShapes Go.WideShapes Go.ChangeAt Go.RowKit Go.Shelf

theorem own0 : ownKnob Tryd.prog.godebug = none := by kernel_rfl
theorem gTab : Tryd.prog.globalNamed "internal/strconv.uint64pow10" = some 0 := by kernel_rfl

abbrev laidL : List (String × DataW Unit) := [("math/bits.deBruijn32tab", Rows.laid_math_bits_deBruijn32tab), ("math/bits.deBruijn64tab", Rows.laid_math_bits_deBruijn64tab), ("internal/strconv.uint64pow10", Rows.laid_internal_strconv_uint64pow10)]
theorem lay_of {W : World} (h : laidMet Tryd.prog laidL W) (hs : W.ShapedOpen Tryd.prog) : Lay W := by
  have h3 := h.tail.tail
  exact ⟨Lib.tabIs_of_head gTab (t := 135) (e := 117) (n := 20) (by kernel_rfl) Tryd.underlying135 Tryd.underlying117 (by kernel_rfl) (by kernel_rfl) h3⟩

end Go.Proofs.YtijacbnoemjgcaaDoor
