/-
  No cell of these rows narrows 'for every input' (looked for: loops, veiled, ifaces, maps, wideKeys, modest, calm, conditions, laid).
  DERIVED. THE GIVEN ROWS OF THIS SEAT. 4 by the template 'for every input the law returns true; each argument reads behind the call as it read before'; 0 by the template 'total and deterministic' (their statements: YtgelgjjhpioihaaTotals.lean).
  GIVEN WITH THE SEED: the statements are not yours to turn. If you find one false, say at which input.
  Laid BY PROGRAM, IN A SANDBOX (cutbox-rows.mjs): the forced cells as the released guide's own fill.sh prints them over the translation 99e2777ffdfcc168… (all of the seat's roots in one cut). By AI agents, Wed Nov 11 2026. No macro, syntax, notation, axiom, sorry.
-/
import Derived.Test.YtgelgjjhpioihaaChecked
import GoSem.Claim
import GoSem.ClaimJoined
import GoSem.ClaimMapViews
import Derived.JoinedTies
import Derived.KernelRfl
namespace Go.Proofs.Ytgelgjjhpioihaa
/- THE CELL 'sum', in the pinned program and in every row, IS THE sha256 OF THE DUMP (.gsa) THAT YtgelgjjhpioihaaProg.lean LOADS. Nothing in Lean hashes anything: it is a label: what it is worth is what the hold of that sum in a sandbox is worth. -/
noncomputable def Try.pinned : Pinned := { name := "ytgelgjjhpioihaa", sum := "99e2777ffdfcc168d6480bc45b8a816bd65127efbde7d436327bec1820d21e95", checked := Try.checked }
namespace Rows
def none {H : Type} : Left H := { results := [], args := [] }

/-- 'wapentakelaw28.ReeveChains': WHATEVER THE INPUT: true; the input reads as it did. -/
def reeveChainsSpec : ChangeSpec := { name := "reeveChains", fn := fun _ => fun
  | [d] => { results := [.lit (.bool true)], args := [d] }
  | _ => none }
def reeveChainsRow : OpenClaim := { program := "ytgelgjjhpioihaa", sum := "99e2777ffdfcc168d6480bc45b8a816bd65127efbde7d436327bec1820d21e95", func := "wapentake/wapentakelaw28.ReeveChains", spec := "reeveChains", unfollowed := true, recurses := true, apart := false }
def ReeveChainsSaid : Prop := reeveChainsRow.holds Try.pinned (OpenSpec.ofChange reeveChainsSpec)

/-- ITS FALSE NEIGHBOUR: 'it returns false'. Refute it at one input. -/
def reeveChainsWrong : ChangeSpec := { name := "reeveChains", fn := fun _ => fun
  | [d] => { results := [.lit (.bool false)], args := [d] }
  | _ => none }
def ReeveChainsWrongFalsely : Prop := reeveChainsRow.holds Try.pinned (OpenSpec.ofChange reeveChainsWrong)

/-- 'wapentakelaw28.ReeveFew': WHATEVER THE INPUT: true; the input reads as it did. -/
def reeveFewSpec : ChangeSpec := { name := "reeveFew", fn := fun _ => fun
  | [d] => { results := [.lit (.bool true)], args := [d] }
  | _ => none }
def reeveFewRow : OpenClaim := { program := "ytgelgjjhpioihaa", sum := "99e2777ffdfcc168d6480bc45b8a816bd65127efbde7d436327bec1820d21e95", func := "wapentake/wapentakelaw28.ReeveFew", spec := "reeveFew", unfollowed := true, recurses := true, apart := false }
def ReeveFewSaid : Prop := reeveFewRow.holds Try.pinned (OpenSpec.ofChange reeveFewSpec)

/-- ITS FALSE NEIGHBOUR: 'it returns false'. Refute it at one input. -/
def reeveFewWrong : ChangeSpec := { name := "reeveFew", fn := fun _ => fun
  | [d] => { results := [.lit (.bool false)], args := [d] }
  | _ => none }
def ReeveFewWrongFalsely : Prop := reeveFewRow.holds Try.pinned (OpenSpec.ofChange reeveFewWrong)

/-- 'wapentakelaw28.ReeveChecks': WHATEVER THE INPUT: true; the input reads as it did. -/
def reeveChecksSpec : ChangeSpec := { name := "reeveChecks", fn := fun _ => fun
  | [d1, d2] => { results := [.lit (.bool true)], args := [d1, d2] }
  | _ => none }
def reeveChecksRow : OpenClaim := { program := "ytgelgjjhpioihaa", sum := "99e2777ffdfcc168d6480bc45b8a816bd65127efbde7d436327bec1820d21e95", func := "wapentake/wapentakelaw28.ReeveChecks", spec := "reeveChecks", unfollowed := true, recurses := true, apart := false }
def ReeveChecksSaid : Prop := reeveChecksRow.holds Try.pinned (OpenSpec.ofChange reeveChecksSpec)

/-- ITS FALSE NEIGHBOUR: 'it returns false'. Refute it at one input. -/
def reeveChecksWrong : ChangeSpec := { name := "reeveChecks", fn := fun _ => fun
  | [d1, d2] => { results := [.lit (.bool false)], args := [d1, d2] }
  | _ => none }
def ReeveChecksWrongFalsely : Prop := reeveChecksRow.holds Try.pinned (OpenSpec.ofChange reeveChecksWrong)

/-- 'wapentakelaw28.ReeveBegins': WHATEVER THE INPUT: true; the input reads as it did. -/
def reeveBeginsSpec : ChangeSpec := { name := "reeveBegins", fn := fun _ => fun
  | [d1, d2] => { results := [.lit (.bool true)], args := [d1, d2] }
  | _ => none }
def reeveBeginsRow : OpenClaim := { program := "ytgelgjjhpioihaa", sum := "99e2777ffdfcc168d6480bc45b8a816bd65127efbde7d436327bec1820d21e95", func := "wapentake/wapentakelaw28.ReeveBegins", spec := "reeveBegins", unfollowed := true, recurses := true, apart := false }
def ReeveBeginsSaid : Prop := reeveBeginsRow.holds Try.pinned (OpenSpec.ofChange reeveBeginsSpec)

/-- ITS FALSE NEIGHBOUR: 'it returns false'. Refute it at one input. -/
def reeveBeginsWrong : ChangeSpec := { name := "reeveBegins", fn := fun _ => fun
  | [d1, d2] => { results := [.lit (.bool false)], args := [d1, d2] }
  | _ => none }
def ReeveBeginsWrongFalsely : Prop := reeveBeginsRow.holds Try.pinned (OpenSpec.ofChange reeveBeginsWrong)

/- THE SECOND FORM. 'bulk': how many values and letters a reading holds, each counted each time it is reached (what is shared counts as often as it is met; a slice's spare places count too). A statement '..UptoSaid' is the law's where the arguments, and the package variables that the reading takes, are together of bulk at most 1048576: NARROWER than '..Said'. Prove '..Said' where nothing that the law and all that it calls make is longer than what came in: it says more and counts as full. Else prove '..UptoSaid'. A law counts once. -/
mutual
def uptoBulk {H : Type} : DataW H → Nat
  | .lit (.string bytes) => bytes.length + 1
  | .lit _ => 1
  | .nil => 1
  | .ptr d => uptoBulk d + 1
  | .slice elems spare => uptoBulkAll elems + uptoBulkAll spare + 1
  | .agg parts => uptoBulkAll parts + 1
  | .iface _ d => uptoBulk d + 1
  | .map entries => uptoBulkEntries entries + 1
  | .held _ => 1
def uptoBulkAll {H : Type} : List (DataW H) → Nat
  | [] => 0
  | d :: r => uptoBulk d + uptoBulkAll r
def uptoBulkEntries {H : Type} : List (Lit × DataW H) → Nat
  | [] => 0
  | x :: r => uptoBulkEntry x + uptoBulkEntries r
def uptoBulkEntry {H : Type} : Lit × DataW H → Nat
  | (.string bytes, d) => bytes.length + uptoBulk d + 1
  | (_, d) => uptoBulk d + 1
 end
def uptoSmall : (H : Type) → List (DataW H) → Bool := fun _ ds => decide (uptoBulkAll ds ≤ 1048576)
def OpenSpec.upto (s : _root_.Go.ChangeSpec) : _root_.Go.OpenSpec := { _root_.Go.OpenSpec.ofChange s with cond := some uptoSmall }

/-- 'wapentakelaw28.ReeveChains', WHERE WHAT IT READS IS OF BULK AT MOST 1048576: true; the input reads as it did. -/
def reeveChainsUptoRow : OpenClaim := { program := "ytgelgjjhpioihaa", sum := "99e2777ffdfcc168d6480bc45b8a816bd65127efbde7d436327bec1820d21e95", func := "wapentake/wapentakelaw28.ReeveChains", spec := "reeveChains", unfollowed := true, recurses := true, apart := false, narrowed := true }
def ReeveChainsUptoSaid : Prop := reeveChainsUptoRow.holds Try.pinned (OpenSpec.upto reeveChainsSpec)

/-- 'wapentakelaw28.ReeveFew', WHERE WHAT IT READS IS OF BULK AT MOST 1048576: true; the input reads as it did. -/
def reeveFewUptoRow : OpenClaim := { program := "ytgelgjjhpioihaa", sum := "99e2777ffdfcc168d6480bc45b8a816bd65127efbde7d436327bec1820d21e95", func := "wapentake/wapentakelaw28.ReeveFew", spec := "reeveFew", unfollowed := true, recurses := true, apart := false, narrowed := true }
def ReeveFewUptoSaid : Prop := reeveFewUptoRow.holds Try.pinned (OpenSpec.upto reeveFewSpec)

/-- 'wapentakelaw28.ReeveChecks', WHERE WHAT IT READS IS OF BULK AT MOST 1048576: true; the input reads as it did. -/
def reeveChecksUptoRow : OpenClaim := { program := "ytgelgjjhpioihaa", sum := "99e2777ffdfcc168d6480bc45b8a816bd65127efbde7d436327bec1820d21e95", func := "wapentake/wapentakelaw28.ReeveChecks", spec := "reeveChecks", unfollowed := true, recurses := true, apart := false, narrowed := true }
def ReeveChecksUptoSaid : Prop := reeveChecksUptoRow.holds Try.pinned (OpenSpec.upto reeveChecksSpec)

/-- 'wapentakelaw28.ReeveBegins', WHERE WHAT IT READS IS OF BULK AT MOST 1048576: true; the input reads as it did. -/
def reeveBeginsUptoRow : OpenClaim := { program := "ytgelgjjhpioihaa", sum := "99e2777ffdfcc168d6480bc45b8a816bd65127efbde7d436327bec1820d21e95", func := "wapentake/wapentakelaw28.ReeveBegins", spec := "reeveBegins", unfollowed := true, recurses := true, apart := false, narrowed := true }
def ReeveBeginsUptoSaid : Prop := reeveBeginsUptoRow.holds Try.pinned (OpenSpec.upto reeveBeginsSpec)

end Rows
end Go.Proofs.Ytgelgjjhpioihaa
