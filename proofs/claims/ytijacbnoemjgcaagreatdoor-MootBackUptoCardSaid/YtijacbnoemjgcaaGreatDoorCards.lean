/-
  DERIVED. GIVEN WITH THE SEED: THE CARDS: each row of YtijacbnoemjgcaaGreatDoorRows.lean that lists a variable, with what it lists TIED to the program's text (the seventh form; the later family's looks); each row that meets fmt, with fmt's text TOLD by the authors' own Lean function (tested against real Go, not proved from fmt's source: count such statements apart). THE CARD IS WHAT COUNTS. Prove the row's statement (the work); the ties are given (YtijacbnoemjgcaaGreatDoorTie.lean); close each card by the builder's one call (the guide's Derived/Test/ToyasCard.lean, 'card_holds'). Laid BY PROGRAM, IN A SANDBOX (cutbox-door.mjs). By AI agents, Wed Nov 11 2026. No macro, syntax, notation, axiom, sorry.
-/
import Derived.Test.YtijacbnoemjgcaaGreatDoorRows
import GoSem.ClaimSeven
namespace Go.Proofs.YtijacbnoemjgcaaGreatDoor
namespace Rows

/-- THE TIED CARD OF 'wapentakelaw17.MootLoads'. -/
def mootLoadsCard : Claim7 := { stood := { row := mootLoadsRow, standIns := [], harness := (true, "606b392b5bfcd46ce4807ea1c708a90289142cd3b0d7c5372d3485bde19ebfd0"), looks := true }, kinds := [], alts := [], laidByText := true, laidKinds := [.data, .data, .data, .sentinel, .sentinel], laidTests := true, laidLooks := .later }
def MootLoadsCardSaid : Prop := Claim7.holds Tryz.pinned (.plain (OpenSpec.ofChange mootLoadsSpec)) mootLoadsCard

/-- THE TIED CARD OF 'wapentakelaw17.MootBack'. -/
def mootBackCard : Claim7 := { stood := { row := mootBackRow, standIns := [], harness := (true, "606b392b5bfcd46ce4807ea1c708a90289142cd3b0d7c5372d3485bde19ebfd0"), looks := true }, kinds := [], alts := [], laidByText := true, laidKinds := [.data, .data, .data, .sentinel, .sentinel], laidTests := true, laidLooks := .later }
def MootBackCardSaid : Prop := Claim7.holds Tryz.pinned (.plain (OpenSpec.ofChange mootBackSpec)) mootBackCard

/-- THE SECOND FORM's CARD OF 'wapentakelaw17.MootLoads'. -/
def mootLoadsUptoCard : Claim7 := { stood := { row := mootLoadsUptoRow, standIns := [], harness := (true, "606b392b5bfcd46ce4807ea1c708a90289142cd3b0d7c5372d3485bde19ebfd0"), looks := true }, kinds := [], alts := [], laidByText := true, laidKinds := [.data, .data, .data, .sentinel, .sentinel], laidTests := true, laidLooks := .later }
def MootLoadsUptoCardSaid : Prop := Claim7.holds Tryz.pinned (.plain (OpenSpec.upto mootLoadsSpec)) mootLoadsUptoCard

/-- THE SECOND FORM's CARD OF 'wapentakelaw17.MootBack'. -/
def mootBackUptoCard : Claim7 := { stood := { row := mootBackUptoRow, standIns := [], harness := (true, "606b392b5bfcd46ce4807ea1c708a90289142cd3b0d7c5372d3485bde19ebfd0"), looks := true }, kinds := [], alts := [], laidByText := true, laidKinds := [.data, .data, .data, .sentinel, .sentinel], laidTests := true, laidLooks := .later }
def MootBackUptoCardSaid : Prop := Claim7.holds Tryz.pinned (.plain (OpenSpec.upto mootBackSpec)) mootBackUptoCard
end Rows
end Go.Proofs.YtijacbnoemjgcaaGreatDoor
