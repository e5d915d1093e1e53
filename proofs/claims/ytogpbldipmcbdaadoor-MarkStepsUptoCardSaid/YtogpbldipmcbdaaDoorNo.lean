/- What the laws' rows lay gives 'Lay'; a world that meets it. -/
import Derived.Test.YtogpbldipmcbdaaDoorCards
import Derived.Test.YtogpbldipmcbdaaDoorTie
import Derived.Test.YtogpbldipmcbdaaDoorNe
import Derived.ProofKit
import Derived.OpenShut
import Derived.Deep.DeepHandedRow
import Derived.Deep.DeepWitnessRowRef
import Derived.Stop.LaidErr
set_option linter.unusedVariables false
set_option linter.unusedSimpArgs false
set_option linter.unnecessarySimpa false
namespace Go.Proofs.YtogpbldipmcbdaaDoor
open Go.ChangeShapes Go.WideShapes Go.ChangeAt Go.RowKit Go.Shelf

theorem own0 : ownKnob Tryd.prog.godebug = none := by kernel_rfl
theorem gTab : Tryd.prog.globalNamed "internal/strconv.uint64pow10" = some 2 := by kernel_rfl
theorem gRng : Tryd.prog.globalNamed "strconv.ErrRange" = some 1 := by kernel_rfl
theorem gSyn : Tryd.prog.globalNamed "strconv.ErrSyntax" = some 0 := by kernel_rfl
theorem gRngT : (Tryd.prog.globals[1]?).map (·.type) = some 101 := by kernel_rfl
theorem gSynT : (Tryd.prog.globals[0]?).map (·.type) = some 101 := by kernel_rfl
theorem cellsE : Tryd.prog.cellsOf 148 = 1 := by kernel_rfl
theorem cellsStr : Tryd.prog.cellsOf 9 = 1 := by kernel_rfl
theorem star : "*" ++ "errors.errorString" = "*errors.errorString" := by decide
theorem rowE (u : TypeId) (h : Tryd.prog.typeName? 3 u = some "*errors.errorString") : u = 146 :=
  typeName_ptr_named (nm := "errors.errorString") (by rw [star]; kernel_rfl) (by kernel_rfl) (by decide) u (by rw [star]; exact h)

abbrev laidL : List (String × DataW Unit) := [("math/bits.deBruijn32tab", Rows.laid_math_bits_deBruijn32tab), ("math/bits.deBruijn64tab", Rows.laid_math_bits_deBruijn64tab), ("internal/strconv.uint64pow10", Rows.laid_internal_strconv_uint64pow10), ("strconv.ErrRange", Rows.laid_strconv_ErrRange), ("strconv.ErrSyntax", Rows.laid_strconv_ErrSyntax)]

theorem lay_of {W : World} (h : laidMet Tryd.prog laidL W) (hs : W.ShapedOpen Tryd.prog) : Lay W := by
  have h3 := h.tail.tail
  have h4 := h3.tail
  have h5 := h4.tail
  refine ⟨?_, ?_, ?_, Tryd.laysM145.s1_3 W hs⟩
  · exact Lib.tabIs_of_head gTab (t := 139) (e := 127) (n := 20) (by kernel_rfl) Tryd.underlying139 Tryd.underlying127 (by kernel_rfl) (by kernel_rfl) h3
  · obtain ⟨a, s, hv, _⟩ := laid_sentinel h5 gSyn gSynT Tryd.underlying101 rowE Tryd.underlying146 Tryd.underlying148 rfl rfl Tryd.underlying9 cellsE cellsStr
    exact ⟨_, _, hv⟩
  · obtain ⟨a, s, hv, _⟩ := laid_sentinel h4 gRng gRngT Tryd.underlying101 rowE Tryd.underlying146 Tryd.underlying148 rfl rfl Tryd.underlying9 cellsE cellsStr
    exact ⟨_, _, hv⟩

end Go.Proofs.YtogpbldipmcbdaaDoor
