/- What comes in: a slice of texts, opened to its cells, under the second form's bound. -/
import Derived.Test.YtijacbnoemjgcaaGreatDoorRows
import Derived.Test.YtijacbnoemjgcaaGreatDoorPb4
import Derived.SliceStrings
import Derived.ProofKit
import Derived.Test.YtijacbnoemjgcaaGreatDoorCards
import Derived.Test.YtijacbnoemjgcaaGreatDoorTie
import Derived.Test.YtijacbnoemjgcaaGreatDoorPb3
import Derived.OpenShut
import Derived.Deep.DeepHandedRow
import Derived.Deep.DeepWitnessRowRef
import Derived.Stop.LaidErr
set_option linter.unusedVariables false
set_option linter.unusedSimpArgs false
set_option linter.unnecessarySimpa false
namespace Go.Proofs.YtijacbnoemjgcaaGreatDoor
open Go.RowKit Go.ChangeShapes Go.WideShapes

theorem bulk_mem {H : Type} {d : DataW H} {l : List (DataW H)} (h : d ∈ l) : Rows.uptoBulk d ≤ Rows.uptoBulkAll l := by
  induction l with
  | nil => cases h
  | cons x r ih =>
    simp only [Rows.uptoBulkAll]
    rcases List.mem_cons.1 h with e | e
    · subst e; omega
    · have := ih e; omega
theorem bulk_string {H : Type} (bytes : List UInt8) : Rows.uptoBulk (DataW.lit (H := H) (.string bytes)) = bytes.length + 1 := by
  simp [Rows.uptoBulk]
theorem bulk_len {H : Type} (ss : List ByteArray) : ss.length ≤ Rows.uptoBulkAll (H := H) (Go.ChangeShapes.strs ss) := by
  induction ss with
  | nil => simp [Go.ChangeShapes.strs, Rows.uptoBulkAll]
  | cons x r ih =>
    have e : Go.ChangeShapes.strs (H := H) (x :: r) = .lit (.string x.data.toList) :: Go.ChangeShapes.strs r := rfl
    rw [e]
    simp only [Rows.uptoBulkAll, List.length_cons, bulk_string]
    omega
theorem bulk_bound {H : Type} {l : List (DataW H)} (hk : Rows.uptoSmall H l = true) : Rows.uptoBulkAll l ≤ 1048576 := of_decide_eq_true hk

section
variable {H : Type} {enc : TypeId × Value → H} {w : World} {base : Nat} {spare : Nat → Bool} {held : Bool} {fuel : Nat}
theorem open_texts {a0 : Option Addr} {len cap : Nat} {d : DataW H} {ps : List MemPlace} (h : DataW.trod enc Tryz.prog w base spare held fuel 49 [.slice a0 len cap] = some (d, ps)) (hb : Rows.uptoBulk d ≤ 1048576) :
    ∃ l : List Bs, l.length = len ∧ Rd w w.heap.size 1 (.slice a0 len cap) l.length (strs l) ∧ l.length ≤ 1048576 ∧ ∀ s ∈ l, s.length ≤ 1048576 := by
  rcases open_strings Tryz.underlying49 Tryz.underlying9 (by kernel_rfl) h with ⟨hcs, _⟩ | ⟨a, l, c, ss, hcs, _, hl, _, hss, hx, hcell, _⟩
  · simp at hcs
    obtain ⟨rfl, rfl, rfl⟩ := hcs
    exact ⟨[], rfl, by simpa [strs] using Rd.nil w w.heap.size 1 0, by simp, by simp⟩
  · simp at hcs
    obtain ⟨rfl, rfl, rfl⟩ := hcs
    have hlm : len ≤ ss.length := by rw [hss]; split <;> omega
    obtain ⟨rfl, _⟩ : d = .slice (Go.ChangeShapes.strs (ss.take len)) (Go.ChangeShapes.strs (ss.drop len)) ∧ True := by
      simp only [Prod.mk.injEq] at hx
      exact ⟨hx.1, trivial⟩
    simp only [Rows.uptoBulk] at hb
    have hbl := bulk_len (H := H) (ss.take len)
    rw [List.length_take, Nat.min_eq_left hlm] at hbl
    refine ⟨(ss.take len).map (·.data.toList), by simp [hlm], ⟨by simp [strs], some a, cap, by simp [hlm], by simp [hlm]; omega, ?_⟩, by simp [hlm]; omega, ?_⟩
    · by_cases h0 : len = 0
      · exact .inl (by simp [hlm, h0])
      · obtain ⟨b, off, spot⟩ := a
        have hc := hcell 0 (by omega)
        have hspot : spot = none := by simpa [Addr.add] using World.cell?_spot hc
        subst hspot
        refine .inr ⟨b, off, rfl, by simpa [Addr.add] using World.block_lt_of_cell? _ _ hc, ?_⟩
        intro j u hu
        have hj : j < len := by
          have := (List.getElem?_eq_some_iff.1 hu).1
          simp [strs, hlm] at this
          exact this
        have hcj := hcell j (by omega)
        rw [Addr.add_lit] at hcj
        rw [hcj, ← hu]
        have hjs : j < ss.length := by omega
        simp [strs, hj, hjs, List.getElem?_take]
    · intro s hs
      obtain ⟨b, hb1, rfl⟩ := List.mem_map.1 hs
      have hm : (DataW.lit (.string b.data.toList) : DataW H) ∈ Go.ChangeShapes.strs (ss.take len) := List.mem_map.2 ⟨b, hb1, rfl⟩
      have := bulk_mem hm
      rw [bulk_string] at this
      omega
end
end Go.Proofs.YtijacbnoemjgcaaGreatDoor

namespace Go.Proofs.YtijacbnoemjgcaaGreatDoor
open Go.ChangeShapes Go.WideShapes Go.ChangeAt Go.RowKit Go.Shelf

theorem own0 : ownKnob Tryz.prog.godebug = none := by kernel_rfl
theorem gTab : Tryz.prog.globalNamed "internal/strconv.uint64pow10" = some 2 := by kernel_rfl
theorem gRng : Tryz.prog.globalNamed "strconv.ErrRange" = some 1 := by kernel_rfl
theorem gSyn : Tryz.prog.globalNamed "strconv.ErrSyntax" = some 0 := by kernel_rfl
theorem gRngT : (Tryz.prog.globals[1]?).map (·.type) = some 100 := by kernel_rfl
theorem gSynT : (Tryz.prog.globals[0]?).map (·.type) = some 100 := by kernel_rfl
theorem cellsE : Tryz.prog.cellsOf 179 = 1 := by kernel_rfl
theorem cellsStr : Tryz.prog.cellsOf 9 = 1 := by kernel_rfl
theorem star : "*" ++ "errors.errorString" = "*errors.errorString" := by decide
theorem rowE (u : TypeId) (h : Tryz.prog.typeName? 3 u = some "*errors.errorString") : u = 177 :=
  typeName_ptr_named (nm := "errors.errorString") (by rw [star]; kernel_rfl) (by kernel_rfl) (by decide) u (by rw [star]; exact h)

abbrev laidL : List (String × DataW Unit) := [("math/bits.deBruijn32tab", Rows.laid_math_bits_deBruijn32tab), ("math/bits.deBruijn64tab", Rows.laid_math_bits_deBruijn64tab), ("internal/strconv.uint64pow10", Rows.laid_internal_strconv_uint64pow10), ("strconv.ErrRange", Rows.laid_strconv_ErrRange), ("strconv.ErrSyntax", Rows.laid_strconv_ErrSyntax)]

theorem lay_of {W : World} (h : laidMet Tryz.prog laidL W) (hs : W.ShapedOpen Tryz.prog) : Lay W := by
  have h3 := h.tail.tail
  have h4 := h3.tail
  have h5 := h4.tail
  refine ⟨?_, ?_, ?_, Tryz.laysM145.s1_3 W hs⟩
  · exact Lib.tabIs_of_head gTab (t := 173) (e := 148) (n := 20) (by kernel_rfl) Tryz.underlying173 Tryz.underlying148 (by kernel_rfl) (by kernel_rfl) h3
  · obtain ⟨a, s, hv, _⟩ := laid_sentinel h5 gSyn gSynT Tryz.underlying100 rowE Tryz.underlying177 Tryz.underlying179 rfl rfl Tryz.underlying9 cellsE cellsStr
    exact ⟨_, _, hv⟩
  · obtain ⟨a, s, hv, _⟩ := laid_sentinel h4 gRng gRngT Tryz.underlying100 rowE Tryz.underlying177 Tryz.underlying179 rfl rfl Tryz.underlying9 cellsE cellsStr
    exact ⟨_, _, hv⟩

end Go.Proofs.YtijacbnoemjgcaaGreatDoor

namespace Go.Proofs.YtijacbnoemjgcaaGreatDoor
open Go.ChangeShapes Go.WideShapes Go.ChangeAt Go.RowKit Go.Shelf

def plainCells : DataW Unit → Array Value
  | .agg l => (l.map fun
    | .lit (.int k n) => Value.int k n
    | _ => undef).toArray
  | _ => #[]
def textOf : DataW Unit → ByteArray
  | .iface _ (.ptr (.agg [.lit (.string l)])) => ⟨l.toArray⟩
  | _ => ⟨#[]⟩
noncomputable def laidWorld (os : Os) : World :=
  let N := (World.settled Tryz.prog os).heap.size
  let w0 := World.holding Tryz.prog os ⟨#[.cells #[.string (textOf Rows.laid_strconv_ErrRange)] 179, .cells #[.string (textOf Rows.laid_strconv_ErrSyntax)] 179], #[], []⟩
  let put (h : Array Obj) (g : Nat) (cs : Array Value) : Array Obj := h.modify g fun
    | .cells _ t frozen => .cells cs t frozen
    | o => o
  { w0 with heap := put (put (put (put (put w0.heap 4 (plainCells Rows.laid_math_bits_deBruijn32tab)) 5 (plainCells Rows.laid_math_bits_deBruijn64tab)) 2 (plainCells Rows.laid_internal_strconv_uint64pow10))
      1 #[.iface 177 (.pointer (some ⟨N, 0, none⟩))]) 0 #[.iface 177 (.pointer (some ⟨N + 1, 0, none⟩))] }

set_option maxRecDepth 100000 in
theorem laid_met (os : Os) (args : Array Value) : laidMet Tryz.prog laidL ((laidWorld os).forCall (fun _ _ => 0) ⟨#[], args, []⟩).memory :=
  laidMet_of_run' 8 (by kernel_rfl) (by kernel_rfl)

end Go.Proofs.YtijacbnoemjgcaaGreatDoor
