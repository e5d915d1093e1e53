/-
  DERIVED. GIVEN WITH THE SEED: THE CARDS: each row of YtijacbnoemjgcaaDoorRows.lean that lists a variable, with what it lists TIED to the program's text (the seventh form; the later family's looks); each row that meets fmt, with fmt's text TOLD by the authors' own Lean function (tested against real Go, not proved from fmt's source: count such statements apart). THE CARD IS WHAT COUNTS. Prove the row's statement (the work); the ties are given (YtijacbnoemjgcaaDoorTie.lean); close each card by the builder's one call (the guide's Derived/Test/ToyasCard.lean, 'card_holds'). Laid BY PROGRAM, IN A SANDBOX (cutbox-door.mjs). By AI agents, Wed Nov 11 2026. No macro, syntax, notation, axiom, sorry.
-/
import Derived.Test.YtijacbnoemjgcaaDoorRows
import GoSem.ClaimSeven
namespace Go.Proofs.YtijacbnoemjgcaaDoor
namespace Rows

/-- THE TIED CARD OF 'wapentakelaw17.MootSteps'. -/
def mootStepsCard : Claim7 := { stood := { row := mootStepsRow, standIns := [], harness := (true, "d09cbae1e227acc07d7f645029703ad759da916a6f283e68af23b2e838811087"), looks := false }, kinds := [], alts := [], laidByText := true, laidKinds := [.data, .data, .data], laidTests := true, laidLooks := .later }
def MootStepsCardSaid : Prop := Claim7.holds Tryd.pinned (.plain (OpenSpec.ofChange mootStepsSpec)) mootStepsCard

/-- THE TIED CARD OF 'wapentakelaw17.MootNil'. -/
def mootNilCard : Claim7 := { stood := { row := mootNilRow, standIns := [], harness := (true, "d09cbae1e227acc07d7f645029703ad759da916a6f283e68af23b2e838811087"), looks := false }, kinds := [], alts := [], laidByText := true, laidKinds := [.data, .data, .data], laidTests := true, laidLooks := .later }
def MootNilCardSaid : Prop := Claim7.holds Tryd.pinned (.plain (OpenSpec.ofChange mootNilSpec)) mootNilCard

/-- THE SECOND FORM's CARD OF 'wapentakelaw17.MootSteps'. -/
def mootStepsUptoCard : Claim7 := { stood := { row := mootStepsUptoRow, standIns := [], harness := (true, "d09cbae1e227acc07d7f645029703ad759da916a6f283e68af23b2e838811087"), looks := false }, kinds := [], alts := [], laidByText := true, laidKinds := [.data, .data, .data], laidTests := true, laidLooks := .later }
def MootStepsUptoCardSaid : Prop := Claim7.holds Tryd.pinned (.plain (OpenSpec.upto mootStepsSpec)) mootStepsUptoCard

/-- THE SECOND FORM's CARD OF 'wapentakelaw17.MootNil'. -/
def mootNilUptoCard : Claim7 := { stood := { row := mootNilUptoRow, standIns := [], harness := (true, "d09cbae1e227acc07d7f645029703ad759da916a6f283e68af23b2e838811087"), looks := false }, kinds := [], alts := [], laidByText := true, laidKinds := [.data, .data, .data], laidTests := true, laidLooks := .later }
def MootNilUptoCardSaid : Prop := Claim7.holds Tryd.pinned (.plain (OpenSpec.upto mootNilSpec)) mootNilUptoCard
end Rows
end Go.Proofs.YtijacbnoemjgcaaDoor
