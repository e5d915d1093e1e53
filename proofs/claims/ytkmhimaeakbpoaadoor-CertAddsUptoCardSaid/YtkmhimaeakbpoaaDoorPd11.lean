/- Rows that lay the tables alone. -/
import Derived.Test.YtkmhimaeakbpoaaDoorPd10
set_option linter.unusedVariables false
set_option linter.unusedSimpArgs false
set_option linter.unnecessarySimpa false
namespace Go.Proofs.YtkmhimaeakbpoaaDoor
open Go.ChangeShapes Go.WideShapes Go.ChangeAt Go.RowKit Go.Shelf

abbrev laidLN : List (String × DataW Unit) := [("math/bits.deBruijn32tab", Rows.laid_math_bits_deBruijn32tab), ("math/bits.deBruijn64tab", Rows.laid_math_bits_deBruijn64tab), ("internal/strconv.uint64pow10", Rows.laid_internal_strconv_uint64pow10)]
theorem lay_ofN {W : World} (h : laidMet Tryd.prog laidLN W) (hs : W.ShapedOpen Tryd.prog) : LayN W := by
  have h3 := h.tail.tail
  exact ⟨Lib.tabIs_of_head gTab (t := 179) (e := 131) (n := 20) (by kernel_rfl) Tryd.underlying179 Tryd.underlying131 (by kernel_rfl) (by kernel_rfl) h3⟩
set_option maxRecDepth 100000 in
theorem laid_metN (os : Os) (args : Array Value) : laidMet Tryd.prog laidLN ((laidWorld os).forCall (fun _ _ => 0) ⟨#[], args, []⟩).memory :=
  laidMet_of_run' 8 (by kernel_rfl) (by kernel_rfl)

end Go.Proofs.YtkmhimaeakbpoaaDoor
