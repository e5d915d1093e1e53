/-
  DERIVED. GIVEN WITH THE SEED: THE CARDS: each row of YtcmjalcmldgnkaaDoorRows.lean that lists a variable, with what it lists TIED to the program's text (the seventh form; the later family's looks); each row that meets fmt, with fmt's text TOLD by the authors' own Lean function (tested against real Go, not proved from fmt's source: count such statements apart). THE CARD IS WHAT COUNTS. Prove the row's statement (the work); the ties are given (YtcmjalcmldgnkaaDoorTie.lean); close each card by the builder's one call (the guide's Derived/Test/ToyasCard.lean, 'card_holds'). Laid BY PROGRAM, IN A SANDBOX (cutbox-door.mjs). By AI agents, Wed Nov 11 2026. No macro, syntax, notation, axiom, sorry.
-/
import Derived.Test.YtcmjalcmldgnkaaDoorRows
import GoSem.ClaimSeven
namespace Go.Proofs.YtcmjalcmldgnkaaDoor
namespace Rows

/-- THE TIED CARD OF 'wapentakelaw01.NestPacks'. -/
def nestPacksCard : Claim7 := { stood := { row := nestPacksRow, standIns := [], harness := (true, "9e53af4ec85a1825fee2a1719da0e730a08d5f384c9d441eebdff4be24df59cd"), looks := true }, kinds := [], alts := [], laidByText := true, laidKinds := [.data, .data, .data, .sentinel, .sentinel], laidTests := true, laidLooks := .later }
def NestPacksCardSaid : Prop := Claim7.holds Tryd.pinned (.plain (OpenSpec.ofChange nestPacksSpec)) nestPacksCard

/-- THE TIED CARD OF 'wapentakelaw01.NestTakes'. -/
def nestTakesCard : Claim7 := { stood := { row := nestTakesRow, standIns := [], harness := (true, "9e53af4ec85a1825fee2a1719da0e730a08d5f384c9d441eebdff4be24df59cd"), looks := true }, kinds := [], alts := [], laidByText := true, laidKinds := [.data, .data, .data, .sentinel, .sentinel], laidTests := true, laidLooks := .later }
def NestTakesCardSaid : Prop := Claim7.holds Tryd.pinned (.plain (OpenSpec.ofChange nestTakesSpec)) nestTakesCard

/-- THE TIED CARD OF 'wapentakelaw01.NestUnpacks'. -/
def nestUnpacksCard : Claim7 := { stood := { row := nestUnpacksRow, standIns := [], harness := (true, "9e53af4ec85a1825fee2a1719da0e730a08d5f384c9d441eebdff4be24df59cd"), looks := true }, kinds := [], alts := [], laidByText := true, laidKinds := [.data, .data, .data, .sentinel, .sentinel], laidTests := true, laidLooks := .later }
def NestUnpacksCardSaid : Prop := Claim7.holds Tryd.pinned (.plain (OpenSpec.ofChange nestUnpacksSpec)) nestUnpacksCard

/-- THE TIED CARD OF 'wapentakelaw01.NestNums'. -/
def nestNumsCard : Claim7 := { stood := { row := nestNumsRow, standIns := [], harness := (true, "9e53af4ec85a1825fee2a1719da0e730a08d5f384c9d441eebdff4be24df59cd"), looks := true }, kinds := [], alts := [], laidByText := true, laidKinds := [.data, .data, .data, .sentinel, .sentinel], laidTests := true, laidLooks := .later }
def NestNumsCardSaid : Prop := Claim7.holds Tryd.pinned (.plain (OpenSpec.ofChange nestNumsSpec)) nestNumsCard

/-- THE TIED CARD OF 'wapentakelaw01.NestDeeps'. -/
def nestDeepsCard : Claim7 := { stood := { row := nestDeepsRow, standIns := [], harness := (true, "9e53af4ec85a1825fee2a1719da0e730a08d5f384c9d441eebdff4be24df59cd"), looks := true }, kinds := [], alts := [], laidByText := true, laidKinds := [.data, .data, .data, .sentinel, .sentinel], laidTests := true, laidLooks := .later }
def NestDeepsCardSaid : Prop := Claim7.holds Tryd.pinned (.plain (OpenSpec.ofChange nestDeepsSpec)) nestDeepsCard

/-- THE TIED CARD OF 'wapentakelaw01.NestBack'. -/
def nestBackCard : Claim7 := { stood := { row := nestBackRow, standIns := [], harness := (true, "9e53af4ec85a1825fee2a1719da0e730a08d5f384c9d441eebdff4be24df59cd"), looks := true }, kinds := [], alts := [], laidByText := true, laidKinds := [.data, .data, .data, .sentinel, .sentinel], laidTests := true, laidLooks := .later }
def NestBackCardSaid : Prop := Claim7.holds Tryd.pinned (.plain (OpenSpec.ofChange nestBackSpec)) nestBackCard

/-- THE TIED CARD OF 'wapentakelaw01.NestJoins'. -/
def nestJoinsCard : Claim7 := { stood := { row := nestJoinsRow, standIns := [], harness := (true, "9e53af4ec85a1825fee2a1719da0e730a08d5f384c9d441eebdff4be24df59cd"), looks := true }, kinds := [], alts := [], laidByText := true, laidKinds := [.data, .data, .data, .sentinel, .sentinel], laidTests := true, laidLooks := .later }
def NestJoinsCardSaid : Prop := Claim7.holds Tryd.pinned (.plain (OpenSpec.ofChange nestJoinsSpec)) nestJoinsCard

/-- THE SECOND FORM's CARD OF 'wapentakelaw01.NestPacks'. -/
def nestPacksUptoCard : Claim7 := { stood := { row := nestPacksUptoRow, standIns := [], harness := (true, "9e53af4ec85a1825fee2a1719da0e730a08d5f384c9d441eebdff4be24df59cd"), looks := true }, kinds := [], alts := [], laidByText := true, laidKinds := [.data, .data, .data, .sentinel, .sentinel], laidTests := true, laidLooks := .later }
def NestPacksUptoCardSaid : Prop := Claim7.holds Tryd.pinned (.plain (OpenSpec.upto nestPacksSpec)) nestPacksUptoCard

/-- THE SECOND FORM's CARD OF 'wapentakelaw01.NestTakes'. -/
def nestTakesUptoCard : Claim7 := { stood := { row := nestTakesUptoRow, standIns := [], harness := (true, "9e53af4ec85a1825fee2a1719da0e730a08d5f384c9d441eebdff4be24df59cd"), looks := true }, kinds := [], alts := [], laidByText := true, laidKinds := [.data, .data, .data, .sentinel, .sentinel], laidTests := true, laidLooks := .later }
def NestTakesUptoCardSaid : Prop := Claim7.holds Tryd.pinned (.plain (OpenSpec.upto nestTakesSpec)) nestTakesUptoCard

/-- THE SECOND FORM's CARD OF 'wapentakelaw01.NestUnpacks'. -/
def nestUnpacksUptoCard : Claim7 := { stood := { row := nestUnpacksUptoRow, standIns := [], harness := (true, "9e53af4ec85a1825fee2a1719da0e730a08d5f384c9d441eebdff4be24df59cd"), looks := true }, kinds := [], alts := [], laidByText := true, laidKinds := [.data, .data, .data, .sentinel, .sentinel], laidTests := true, laidLooks := .later }
def NestUnpacksUptoCardSaid : Prop := Claim7.holds Tryd.pinned (.plain (OpenSpec.upto nestUnpacksSpec)) nestUnpacksUptoCard

/-- THE SECOND FORM's CARD OF 'wapentakelaw01.NestNums'. -/
def nestNumsUptoCard : Claim7 := { stood := { row := nestNumsUptoRow, standIns := [], harness := (true, "9e53af4ec85a1825fee2a1719da0e730a08d5f384c9d441eebdff4be24df59cd"), looks := true }, kinds := [], alts := [], laidByText := true, laidKinds := [.data, .data, .data, .sentinel, .sentinel], laidTests := true, laidLooks := .later }
def NestNumsUptoCardSaid : Prop := Claim7.holds Tryd.pinned (.plain (OpenSpec.upto nestNumsSpec)) nestNumsUptoCard

/-- THE SECOND FORM's CARD OF 'wapentakelaw01.NestDeeps'. -/
def nestDeepsUptoCard : Claim7 := { stood := { row := nestDeepsUptoRow, standIns := [], harness := (true, "9e53af4ec85a1825fee2a1719da0e730a08d5f384c9d441eebdff4be24df59cd"), looks := true }, kinds := [], alts := [], laidByText := true, laidKinds := [.data, .data, .data, .sentinel, .sentinel], laidTests := true, laidLooks := .later }
def NestDeepsUptoCardSaid : Prop := Claim7.holds Tryd.pinned (.plain (OpenSpec.upto nestDeepsSpec)) nestDeepsUptoCard

/-- THE SECOND FORM's CARD OF 'wapentakelaw01.NestBack'. -/
def nestBackUptoCard : Claim7 := { stood := { row := nestBackUptoRow, standIns := [], harness := (true, "9e53af4ec85a1825fee2a1719da0e730a08d5f384c9d441eebdff4be24df59cd"), looks := true }, kinds := [], alts := [], laidByText := true, laidKinds := [.data, .data, .data, .sentinel, .sentinel], laidTests := true, laidLooks := .later }
def NestBackUptoCardSaid : Prop := Claim7.holds Tryd.pinned (.plain (OpenSpec.upto nestBackSpec)) nestBackUptoCard

/-- THE SECOND FORM's CARD OF 'wapentakelaw01.NestJoins'. -/
def nestJoinsUptoCard : Claim7 := { stood := { row := nestJoinsUptoRow, standIns := [], harness := (true, "9e53af4ec85a1825fee2a1719da0e730a08d5f384c9d441eebdff4be24df59cd"), looks := true }, kinds := [], alts := [], laidByText := true, laidKinds := [.data, .data, .data, .sentinel, .sentinel], laidTests := true, laidLooks := .later }
def NestJoinsUptoCardSaid : Prop := Claim7.holds Tryd.pinned (.plain (OpenSpec.upto nestJoinsSpec)) nestJoinsUptoCard
end Rows
end Go.Proofs.YtcmjalcmldgnkaaDoor
