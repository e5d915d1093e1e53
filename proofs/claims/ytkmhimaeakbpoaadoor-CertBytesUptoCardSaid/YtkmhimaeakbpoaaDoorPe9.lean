/- What the laws' rows lay gives 'Lay'; a world that meets it. -/
import Derived.Test.YtkmhimaeakbpoaaDoorCards
import Derived.Test.YtkmhimaeakbpoaaDoorTie
import Derived.Test.YtkmhimaeakbpoaaDoorPe5
import Derived.ProofKit
import Derived.OpenShut
import Derived.Deep.DeepHandedRow
import Derived.Deep.DeepWitnessRowRef
import Derived.Stop.LaidErr
set_option linter.unusedVariables false
set_option linter.unusedSimpArgs false
set_option linter.unnecessarySimpa false
namespace Go.Proofs.YtkmhimaeakbpoaaDoor
open Go.ChangeShapes Go.WideShapes Go.ChangeAt Go.RowKit Go.Shelf

theorem own0 : ownKnob Tryd.prog.godebug = none := by kernel_rfl
theorem gTab : Tryd.prog.globalNamed "internal/strconv.uint64pow10" = some 4 := by kernel_rfl
theorem gRng : Tryd.prog.globalNamed "strconv.ErrRange" = some 3 := by kernel_rfl
theorem gSyn : Tryd.prog.globalNamed "strconv.ErrSyntax" = some 2 := by kernel_rfl
theorem gRngT : (Tryd.prog.globals[3]?).map (·.type) = some 110 := by kernel_rfl
theorem gSynT : (Tryd.prog.globals[2]?).map (·.type) = some 110 := by kernel_rfl
theorem cellsE : Tryd.prog.cellsOf 187 = 1 := by kernel_rfl
theorem cellsStr : Tryd.prog.cellsOf 9 = 1 := by kernel_rfl
theorem star : "*" ++ "errors.errorString" = "*errors.errorString" := by decide
theorem rowE (u : TypeId) (h : Tryd.prog.typeName? 3 u = some "*errors.errorString") : u = 185 :=
  typeName_ptr_named (nm := "errors.errorString") (by rw [star]; kernel_rfl) (by kernel_rfl) (by decide) u (by rw [star]; exact h)

abbrev laidL : List (String × DataW Unit) := [("math/bits.deBruijn32tab", Rows.laid_math_bits_deBruijn32tab), ("math/bits.deBruijn64tab", Rows.laid_math_bits_deBruijn64tab), ("internal/strconv.uint64pow10", Rows.laid_internal_strconv_uint64pow10), ("strconv.ErrRange", Rows.laid_strconv_ErrRange), ("strconv.ErrSyntax", Rows.laid_strconv_ErrSyntax)]

theorem lay_of {W : World} (h : laidMet Tryd.prog laidL W) (hs : W.ShapedOpen Tryd.prog) : Lay W := by
  have h3 := h.tail.tail
  have h4 := h3.tail
  have h5 := h4.tail
  refine ⟨?_, ?_, ?_, Tryd.laysM145.s1_3 W hs⟩
  · exact Lib.tabIs_of_head gTab (t := 179) (e := 131) (n := 20) (by kernel_rfl) Tryd.underlying179 Tryd.underlying131 (by kernel_rfl) (by kernel_rfl) h3
  · obtain ⟨a, s, hv, _⟩ := laid_sentinel h5 gSyn gSynT Tryd.underlying110 rowE Tryd.underlying185 Tryd.underlying187 rfl rfl Tryd.underlying9 cellsE cellsStr
    exact ⟨_, _, hv⟩
  · obtain ⟨a, s, hv, _⟩ := laid_sentinel h4 gRng gRngT Tryd.underlying110 rowE Tryd.underlying185 Tryd.underlying187 rfl rfl Tryd.underlying9 cellsE cellsStr
    exact ⟨_, _, hv⟩

end Go.Proofs.YtkmhimaeakbpoaaDoor
