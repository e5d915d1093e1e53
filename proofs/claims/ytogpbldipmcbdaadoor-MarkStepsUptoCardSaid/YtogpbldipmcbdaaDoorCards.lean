/-
  DERIVED. GIVEN WITH THE SEED: THE CARDS: each row of YtogpbldipmcbdaaDoorRows.lean that lists a variable, with what it lists TIED to the program's text (the seventh form; the later family's looks); each row that meets fmt, with fmt's text TOLD by the authors' own Lean function (tested against real Go, not proved from fmt's source: count such statements apart). THE CARD IS WHAT COUNTS. Prove the row's statement (the work); the ties are given (YtogpbldipmcbdaaDoorTie.lean); close each card by the builder's one call (the guide's Derived/Test/ToyasCard.lean, 'card_holds'). Laid BY PROGRAM, IN A SANDBOX (cutbox-door.mjs). By AI agents, Wed Nov 11 2026. No macro, syntax, notation, axiom, sorry.
-/
import Derived.Test.YtogpbldipmcbdaaDoorRows
import GoSem.ClaimSeven
namespace Go.Proofs.YtogpbldipmcbdaaDoor
namespace Rows

/-- THE TIED CARD OF 'wapentakelaw11.MarkOne'. -/
def markOneCard : Claim7 := { stood := { row := markOneRow, standIns := [], harness := (true, "a1956065e5b389316493b4fff7409355770ace4651276f1c2d0ad5e16294482d"), looks := true }, kinds := [], alts := [], laidByText := true, laidKinds := [.data, .data, .data], laidTests := true, laidLooks := .later }
def MarkOneCardSaid : Prop := Claim7.holds Tryd.pinned (.plain (OpenSpec.ofChange markOneSpec)) markOneCard

/-- THE TIED CARD OF 'wapentakelaw11.MarkTexts'. -/
def markTextsCard : Claim7 := { stood := { row := markTextsRow, standIns := [], harness := (true, "a1956065e5b389316493b4fff7409355770ace4651276f1c2d0ad5e16294482d"), looks := true }, kinds := [], alts := [], laidByText := true, laidKinds := [.data, .data, .data, .sentinel, .sentinel], laidTests := true, laidLooks := .later }
def MarkTextsCardSaid : Prop := Claim7.holds Tryd.pinned (.plain (OpenSpec.ofChange markTextsSpec)) markTextsCard

/-- THE TIED CARD OF 'wapentakelaw11.MarkRises'. -/
def markRisesCard : Claim7 := { stood := { row := markRisesRow, standIns := [], harness := (true, "a1956065e5b389316493b4fff7409355770ace4651276f1c2d0ad5e16294482d"), looks := true }, kinds := [], alts := [], laidByText := true, laidKinds := [.data, .data, .data, .sentinel, .sentinel], laidTests := true, laidLooks := .later }
def MarkRisesCardSaid : Prop := Claim7.holds Tryd.pinned (.plain (OpenSpec.ofChange markRisesSpec)) markRisesCard

/-- THE TIED CARD OF 'wapentakelaw11.MarkSteps'. -/
def markStepsCard : Claim7 := { stood := { row := markStepsRow, standIns := [], harness := (true, "a1956065e5b389316493b4fff7409355770ace4651276f1c2d0ad5e16294482d"), looks := true }, kinds := [], alts := [], laidByText := true, laidKinds := [.data, .data, .data, .sentinel, .sentinel], laidTests := true, laidLooks := .later }
def MarkStepsCardSaid : Prop := Claim7.holds Tryd.pinned (.plain (OpenSpec.ofChange markStepsSpec)) markStepsCard

/-- THE TIED CARD OF 'wapentakelaw11.MarkNil'. -/
def markNilCard : Claim7 := { stood := { row := markNilRow, standIns := [], harness := (true, "a1956065e5b389316493b4fff7409355770ace4651276f1c2d0ad5e16294482d"), looks := true }, kinds := [], alts := [], laidByText := true, laidKinds := [.data, .data, .data, .sentinel, .sentinel], laidTests := true, laidLooks := .later }
def MarkNilCardSaid : Prop := Claim7.holds Tryd.pinned (.plain (OpenSpec.ofChange markNilSpec)) markNilCard

/-- THE SECOND FORM's CARD OF 'wapentakelaw11.MarkOne'. -/
def markOneUptoCard : Claim7 := { stood := { row := markOneUptoRow, standIns := [], harness := (true, "a1956065e5b389316493b4fff7409355770ace4651276f1c2d0ad5e16294482d"), looks := true }, kinds := [], alts := [], laidByText := true, laidKinds := [.data, .data, .data], laidTests := true, laidLooks := .later }
def MarkOneUptoCardSaid : Prop := Claim7.holds Tryd.pinned (.plain (OpenSpec.upto markOneSpec)) markOneUptoCard

/-- THE SECOND FORM's CARD OF 'wapentakelaw11.MarkTexts'. -/
def markTextsUptoCard : Claim7 := { stood := { row := markTextsUptoRow, standIns := [], harness := (true, "a1956065e5b389316493b4fff7409355770ace4651276f1c2d0ad5e16294482d"), looks := true }, kinds := [], alts := [], laidByText := true, laidKinds := [.data, .data, .data, .sentinel, .sentinel], laidTests := true, laidLooks := .later }
def MarkTextsUptoCardSaid : Prop := Claim7.holds Tryd.pinned (.plain (OpenSpec.upto markTextsSpec)) markTextsUptoCard

/-- THE SECOND FORM's CARD OF 'wapentakelaw11.MarkRises'. -/
def markRisesUptoCard : Claim7 := { stood := { row := markRisesUptoRow, standIns := [], harness := (true, "a1956065e5b389316493b4fff7409355770ace4651276f1c2d0ad5e16294482d"), looks := true }, kinds := [], alts := [], laidByText := true, laidKinds := [.data, .data, .data, .sentinel, .sentinel], laidTests := true, laidLooks := .later }
def MarkRisesUptoCardSaid : Prop := Claim7.holds Tryd.pinned (.plain (OpenSpec.upto markRisesSpec)) markRisesUptoCard

/-- THE SECOND FORM's CARD OF 'wapentakelaw11.MarkSteps'. -/
def markStepsUptoCard : Claim7 := { stood := { row := markStepsUptoRow, standIns := [], harness := (true, "a1956065e5b389316493b4fff7409355770ace4651276f1c2d0ad5e16294482d"), looks := true }, kinds := [], alts := [], laidByText := true, laidKinds := [.data, .data, .data, .sentinel, .sentinel], laidTests := true, laidLooks := .later }
def MarkStepsUptoCardSaid : Prop := Claim7.holds Tryd.pinned (.plain (OpenSpec.upto markStepsSpec)) markStepsUptoCard

/-- THE SECOND FORM's CARD OF 'wapentakelaw11.MarkNil'. -/
def markNilUptoCard : Claim7 := { stood := { row := markNilUptoRow, standIns := [], harness := (true, "a1956065e5b389316493b4fff7409355770ace4651276f1c2d0ad5e16294482d"), looks := true }, kinds := [], alts := [], laidByText := true, laidKinds := [.data, .data, .data, .sentinel, .sentinel], laidTests := true, laidLooks := .later }
def MarkNilUptoCardSaid : Prop := Claim7.holds Tryd.pinned (.plain (OpenSpec.upto markNilSpec)) markNilUptoCard
end Rows
end Go.Proofs.YtogpbldipmcbdaaDoor
