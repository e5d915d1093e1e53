/-
  DERIVED. GIVEN WITH THE SEED: THE CARDS: each row of YtkmhimaeakbpoaaDoorRows.lean that lists a variable, with what it lists TIED to the program's text (the seventh form; the later family's looks); each row that meets fmt, with fmt's text TOLD by the authors' own Lean function (tested against real Go, not proved from fmt's source: count such statements apart). THE CARD IS WHAT COUNTS. Prove the row's statement (the work); the ties are given (YtkmhimaeakbpoaaDoorTie.lean); close each card by the builder's one call (the guide's Derived/Test/ToyasCard.lean, 'card_holds'). Laid BY PROGRAM, IN A SANDBOX (cutbox-door.mjs). By AI agents, Wed Nov 11 2026. No macro, syntax, notation, axiom, sorry.
-/
import Derived.Test.YtkmhimaeakbpoaaDoorRows
import GoSem.ClaimSeven
namespace Go.Proofs.YtkmhimaeakbpoaaDoor
namespace Rows

/-- THE TIED CARD OF 'wapentakelaw04.CertAdds'. -/
def certAddsCard : Claim7 := { stood := { row := certAddsRow, standIns := [], harness := (true, "5efaafe389231d974b6435e2da0845cfa27be5dc19d418cc0ce150d74671ba5d"), looks := true }, kinds := [], alts := [], laidByText := true, laidKinds := [.data, .data, .data], laidTests := true, laidLooks := .later }
def CertAddsCardSaid : Prop := Claim7.holds Tryd.pinned (.plain (OpenSpec.ofChange certAddsSpec)) certAddsCard

/-- THE TIED CARD OF 'wapentakelaw04.CertMeets'. -/
def certMeetsCard : Claim7 := { stood := { row := certMeetsRow, standIns := [], harness := (true, "5efaafe389231d974b6435e2da0845cfa27be5dc19d418cc0ce150d74671ba5d"), looks := true }, kinds := [], alts := [], laidByText := true, laidKinds := [.data, .data, .data], laidTests := true, laidLooks := .later }
def CertMeetsCardSaid : Prop := Claim7.holds Tryd.pinned (.plain (OpenSpec.ofChange certMeetsSpec)) certMeetsCard

/-- THE TIED CARD OF 'wapentakelaw04.CertChecks'. -/
def certChecksCard : Claim7 := { stood := { row := certChecksRow, standIns := [], harness := (true, "5efaafe389231d974b6435e2da0845cfa27be5dc19d418cc0ce150d74671ba5d"), looks := true }, kinds := [], alts := [], laidByText := true, laidKinds := [.data, .data, .data, .data, .data], laidTests := true, laidLooks := .later }
def CertChecksCardSaid : Prop := Claim7.holds Tryd.pinned (.plain (OpenSpec.ofChange certChecksSpec)) certChecksCard

/-- THE TIED CARD OF 'wapentakelaw04.CertOrder'. -/
def certOrderCard : Claim7 := { stood := { row := certOrderRow, standIns := [], harness := (true, "5efaafe389231d974b6435e2da0845cfa27be5dc19d418cc0ce150d74671ba5d"), looks := true }, kinds := [], alts := [], laidByText := true, laidKinds := [.data, .data, .data, .data, .data], laidTests := true, laidLooks := .later }
def CertOrderCardSaid : Prop := Claim7.holds Tryd.pinned (.plain (OpenSpec.ofChange certOrderSpec)) certOrderCard

/-- THE TIED CARD OF 'wapentakelaw04.CertBytes'. -/
def certBytesCard : Claim7 := { stood := { row := certBytesRow, standIns := [], harness := (true, "5efaafe389231d974b6435e2da0845cfa27be5dc19d418cc0ce150d74671ba5d"), looks := true }, kinds := [], alts := [], laidByText := true, laidKinds := [.data, .data, .data, .sentinel, .sentinel], laidTests := true, laidLooks := .later }
def CertBytesCardSaid : Prop := Claim7.holds Tryd.pinned (.plain (OpenSpec.ofChange certBytesSpec)) certBytesCard

/-- THE SECOND FORM's CARD OF 'wapentakelaw04.CertAdds'. -/
def certAddsUptoCard : Claim7 := { stood := { row := certAddsUptoRow, standIns := [], harness := (true, "5efaafe389231d974b6435e2da0845cfa27be5dc19d418cc0ce150d74671ba5d"), looks := true }, kinds := [], alts := [], laidByText := true, laidKinds := [.data, .data, .data], laidTests := true, laidLooks := .later }
def CertAddsUptoCardSaid : Prop := Claim7.holds Tryd.pinned (.plain (OpenSpec.upto certAddsSpec)) certAddsUptoCard

/-- THE SECOND FORM's CARD OF 'wapentakelaw04.CertMeets'. -/
def certMeetsUptoCard : Claim7 := { stood := { row := certMeetsUptoRow, standIns := [], harness := (true, "5efaafe389231d974b6435e2da0845cfa27be5dc19d418cc0ce150d74671ba5d"), looks := true }, kinds := [], alts := [], laidByText := true, laidKinds := [.data, .data, .data], laidTests := true, laidLooks := .later }
def CertMeetsUptoCardSaid : Prop := Claim7.holds Tryd.pinned (.plain (OpenSpec.upto certMeetsSpec)) certMeetsUptoCard

/-- THE SECOND FORM's CARD OF 'wapentakelaw04.CertChecks'. -/
def certChecksUptoCard : Claim7 := { stood := { row := certChecksUptoRow, standIns := [], harness := (true, "5efaafe389231d974b6435e2da0845cfa27be5dc19d418cc0ce150d74671ba5d"), looks := true }, kinds := [], alts := [], laidByText := true, laidKinds := [.data, .data, .data, .data, .data], laidTests := true, laidLooks := .later }
def CertChecksUptoCardSaid : Prop := Claim7.holds Tryd.pinned (.plain (OpenSpec.upto certChecksSpec)) certChecksUptoCard

/-- THE SECOND FORM's CARD OF 'wapentakelaw04.CertOrder'. -/
def certOrderUptoCard : Claim7 := { stood := { row := certOrderUptoRow, standIns := [], harness := (true, "5efaafe389231d974b6435e2da0845cfa27be5dc19d418cc0ce150d74671ba5d"), looks := true }, kinds := [], alts := [], laidByText := true, laidKinds := [.data, .data, .data, .data, .data], laidTests := true, laidLooks := .later }
def CertOrderUptoCardSaid : Prop := Claim7.holds Tryd.pinned (.plain (OpenSpec.upto certOrderSpec)) certOrderUptoCard

/-- THE SECOND FORM's CARD OF 'wapentakelaw04.CertBytes'. -/
def certBytesUptoCard : Claim7 := { stood := { row := certBytesUptoRow, standIns := [], harness := (true, "5efaafe389231d974b6435e2da0845cfa27be5dc19d418cc0ce150d74671ba5d"), looks := true }, kinds := [], alts := [], laidByText := true, laidKinds := [.data, .data, .data, .sentinel, .sentinel], laidTests := true, laidLooks := .later }
def CertBytesUptoCardSaid : Prop := Claim7.holds Tryd.pinned (.plain (OpenSpec.upto certBytesSpec)) certBytesUptoCard
end Rows
end Go.Proofs.YtkmhimaeakbpoaaDoor
