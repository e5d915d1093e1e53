/-
  DERIVED. GIVEN WITH THE SEED: THE CARDS: each row of YtamlfapdifocoaaDoorRows.lean that lists a variable, with what it lists TIED to the program's text (the seventh form; the later family's looks); each row that meets fmt, with fmt's text TOLD by the authors' own Lean function (tested against real Go, not proved from fmt's source: count such statements apart). THE CARD IS WHAT COUNTS. Prove the row's statement (the work); the ties are given (YtamlfapdifocoaaDoorTie.lean); close each card by the builder's one call (the guide's Derived/Test/ToyasCard.lean, 'card_holds'). Laid BY PROGRAM, IN A SANDBOX (cutbox-door.mjs). By AI agents, Wed Nov 11 2026. No macro, syntax, notation, axiom, sorry.
-/
import Derived.Test.YtamlfapdifocoaaDoorRows
import GoSem.ClaimSeven
namespace Go.Proofs.YtamlfapdifocoaaDoor
namespace Rows

/-- THE TIED CARD OF 'wapentakelaw08.BatchTexts'. -/
def batchTextsCard : Claim7 := { stood := { row := batchTextsRow, standIns := [], harness := (true, "7da4c021613396b6e8c80ee06da2f47eaab3a5efe6e2f6e74b08bc26100a9963"), looks := true }, kinds := [], alts := [], laidByText := true, laidKinds := [.data, .data, .data, .sentinel, .sentinel], laidTests := true, laidLooks := .later }
def BatchTextsCardSaid : Prop := Claim7.holds Tryd.pinned (.plain (OpenSpec.ofChange batchTextsSpec)) batchTextsCard

/-- THE SECOND FORM's CARD OF 'wapentakelaw08.BatchTexts'. -/
def batchTextsUptoCard : Claim7 := { stood := { row := batchTextsUptoRow, standIns := [], harness := (true, "7da4c021613396b6e8c80ee06da2f47eaab3a5efe6e2f6e74b08bc26100a9963"), looks := true }, kinds := [], alts := [], laidByText := true, laidKinds := [.data, .data, .data, .sentinel, .sentinel], laidTests := true, laidLooks := .later }
def BatchTextsUptoCardSaid : Prop := Claim7.holds Tryd.pinned (.plain (OpenSpec.upto batchTextsSpec)) batchTextsUptoCard
end Rows
end Go.Proofs.YtamlfapdifocoaaDoor
