/-
  No cell of these rows narrows 'for every input' (looked for: loops, veiled, ifaces, maps, wideKeys, modest, calm, conditions, laid).
  DERIVED. THE GIVEN ROWS OF THIS SEAT. 5 by the template 'for every input the law returns true; each argument reads behind the call as it read before'; 0 by the template 'total and deterministic' (their statements: YtoaocdhpbpghgaaTotals.lean).
  GIVEN WITH THE SEED: the statements are not yours to turn. If you find one false, say at which input.
  Laid BY PROGRAM, IN A SANDBOX (cutbox-rows.mjs): the forced cells as the released guide's own fill.sh prints them over the translation eadb257bb195fa36… (all of the seat's roots in one cut). By AI agents, Wed Nov 11 2026. No macro, syntax, notation, axiom, sorry.
-/
import Derived.Test.YtoaocdhpbpghgaaChecked
import GoSem.Claim
import GoSem.ClaimJoined
import GoSem.ClaimMapViews
import Derived.JoinedTies
import Derived.KernelRfl
namespace Go.Proofs.Ytoaocdhpbpghgaa
/- THE CELL 'sum', in the pinned program and in every row, IS THE sha256 OF THE DUMP (.gsa) THAT YtoaocdhpbpghgaaProg.lean LOADS. Nothing in Lean hashes anything: it is a label: what it is worth is what the hold of that sum in a sandbox is worth. -/
noncomputable def Try.pinned : Pinned := { name := "ytoaocdhpbpghgaa", sum := "eadb257bb195fa363832d0d5aa8bfe289668a9729358272bd8cc864827d90b58", checked := Try.checked }
namespace Rows
def none {H : Type} : Left H := { results := [], args := [] }

/-- 'wapentakelaw15.ChainNext': WHATEVER THE INPUT: true; the input reads as it did. -/
def chainNextSpec : ChangeSpec := { name := "chainNext", fn := fun _ => fun
  | [d1, d2] => { results := [.lit (.bool true)], args := [d1, d2] }
  | _ => none }
def chainNextRow : OpenClaim := { program := "ytoaocdhpbpghgaa", sum := "eadb257bb195fa363832d0d5aa8bfe289668a9729358272bd8cc864827d90b58", func := "wapentake/wapentakelaw15.ChainNext", spec := "chainNext", unfollowed := true, recurses := true, apart := false }
def ChainNextSaid : Prop := chainNextRow.holds Try.pinned (OpenSpec.ofChange chainNextSpec)

/-- ITS FALSE NEIGHBOUR: 'it returns false'. Refute it at one input. -/
def chainNextWrong : ChangeSpec := { name := "chainNext", fn := fun _ => fun
  | [d1, d2] => { results := [.lit (.bool false)], args := [d1, d2] }
  | _ => none }
def ChainNextWrongFalsely : Prop := chainNextRow.holds Try.pinned (OpenSpec.ofChange chainNextWrong)

/-- 'wapentakelaw15.ChainRuns': WHATEVER THE INPUT: true; the input reads as it did. -/
def chainRunsSpec : ChangeSpec := { name := "chainRuns", fn := fun _ => fun
  | [d1, d2] => { results := [.lit (.bool true)], args := [d1, d2] }
  | _ => none }
def chainRunsRow : OpenClaim := { program := "ytoaocdhpbpghgaa", sum := "eadb257bb195fa363832d0d5aa8bfe289668a9729358272bd8cc864827d90b58", func := "wapentake/wapentakelaw15.ChainRuns", spec := "chainRuns", unfollowed := true, recurses := true, apart := false }
def ChainRunsSaid : Prop := chainRunsRow.holds Try.pinned (OpenSpec.ofChange chainRunsSpec)

/-- ITS FALSE NEIGHBOUR: 'it returns false'. Refute it at one input. -/
def chainRunsWrong : ChangeSpec := { name := "chainRuns", fn := fun _ => fun
  | [d1, d2] => { results := [.lit (.bool false)], args := [d1, d2] }
  | _ => none }
def ChainRunsWrongFalsely : Prop := chainRunsRow.holds Try.pinned (OpenSpec.ofChange chainRunsWrong)

/-- 'wapentakelaw15.ChainFew': WHATEVER THE INPUT: true; the input reads as it did. -/
def chainFewSpec : ChangeSpec := { name := "chainFew", fn := fun _ => fun
  | [d1, d2] => { results := [.lit (.bool true)], args := [d1, d2] }
  | _ => none }
def chainFewRow : OpenClaim := { program := "ytoaocdhpbpghgaa", sum := "eadb257bb195fa363832d0d5aa8bfe289668a9729358272bd8cc864827d90b58", func := "wapentake/wapentakelaw15.ChainFew", spec := "chainFew", unfollowed := true, recurses := true, apart := false }
def ChainFewSaid : Prop := chainFewRow.holds Try.pinned (OpenSpec.ofChange chainFewSpec)

/-- ITS FALSE NEIGHBOUR: 'it returns false'. Refute it at one input. -/
def chainFewWrong : ChangeSpec := { name := "chainFew", fn := fun _ => fun
  | [d1, d2] => { results := [.lit (.bool false)], args := [d1, d2] }
  | _ => none }
def ChainFewWrongFalsely : Prop := chainFewRow.holds Try.pinned (OpenSpec.ofChange chainFewWrong)

/-- 'wapentakelaw15.ChainNil': WHATEVER THE INPUT: true; the input reads as it did. -/
def chainNilSpec : ChangeSpec := { name := "chainNil", fn := fun _ => fun
  | [d1, d2] => { results := [.lit (.bool true)], args := [d1, d2] }
  | _ => none }
def chainNilRow : OpenClaim := { program := "ytoaocdhpbpghgaa", sum := "eadb257bb195fa363832d0d5aa8bfe289668a9729358272bd8cc864827d90b58", func := "wapentake/wapentakelaw15.ChainNil", spec := "chainNil", unfollowed := true, recurses := true, apart := false }
def ChainNilSaid : Prop := chainNilRow.holds Try.pinned (OpenSpec.ofChange chainNilSpec)

/-- ITS FALSE NEIGHBOUR: 'it returns false'. Refute it at one input. -/
def chainNilWrong : ChangeSpec := { name := "chainNil", fn := fun _ => fun
  | [d1, d2] => { results := [.lit (.bool false)], args := [d1, d2] }
  | _ => none }
def ChainNilWrongFalsely : Prop := chainNilRow.holds Try.pinned (OpenSpec.ofChange chainNilWrong)

/-- 'wapentakelaw15.ChainBalance': WHATEVER THE INPUT: true; the input reads as it did. -/
def chainBalanceSpec : ChangeSpec := { name := "chainBalance", fn := fun _ => fun
  | [d1, d2] => { results := [.lit (.bool true)], args := [d1, d2] }
  | _ => none }
def chainBalanceRow : OpenClaim := { program := "ytoaocdhpbpghgaa", sum := "eadb257bb195fa363832d0d5aa8bfe289668a9729358272bd8cc864827d90b58", func := "wapentake/wapentakelaw15.ChainBalance", spec := "chainBalance", unfollowed := true, recurses := true, apart := false }
def ChainBalanceSaid : Prop := chainBalanceRow.holds Try.pinned (OpenSpec.ofChange chainBalanceSpec)

/-- ITS FALSE NEIGHBOUR: 'it returns false'. Refute it at one input. -/
def chainBalanceWrong : ChangeSpec := { name := "chainBalance", fn := fun _ => fun
  | [d1, d2] => { results := [.lit (.bool false)], args := [d1, d2] }
  | _ => none }
def ChainBalanceWrongFalsely : Prop := chainBalanceRow.holds Try.pinned (OpenSpec.ofChange chainBalanceWrong)

/- THE SECOND FORM. 'bulk': how many values and letters a reading holds, each counted each time it is reached (what is shared counts as often as it is met; a slice's spare places count too). A statement '..UptoSaid' is the law's where the arguments, and the package variables that the reading takes, are together of bulk at most 1048576: NARROWER than '..Said'. Prove '..Said' where nothing that the law and all that it calls make is longer than what came in: it says more and counts as full. Else prove '..UptoSaid'. A law counts once. -/
mutual
def uptoBulk {H : Type} : DataW H → Nat
  | .lit (.string bytes) => bytes.length + 1
  | .lit _ => 1
  | .nil => 1
  | .ptr d => uptoBulk d + 1
  | .slice elems spare => uptoBulkAll elems + uptoBulkAll spare + 1
  | .agg parts => uptoBulkAll parts + 1
  | .iface _ d => uptoBulk d + 1
  | .map entries => uptoBulkEntries entries + 1
  | .held _ => 1
def uptoBulkAll {H : Type} : List (DataW H) → Nat
  | [] => 0
  | d :: r => uptoBulk d + uptoBulkAll r
def uptoBulkEntries {H : Type} : List (Lit × DataW H) → Nat
  | [] => 0
  | x :: r => uptoBulkEntry x + uptoBulkEntries r
def uptoBulkEntry {H : Type} : Lit × DataW H → Nat
  | (.string bytes, d) => bytes.length + uptoBulk d + 1
  | (_, d) => uptoBulk d + 1
 end
def uptoSmall : (H : Type) → List (DataW H) → Bool := fun _ ds => decide (uptoBulkAll ds ≤ 1048576)
def OpenSpec.upto (s : _root_.Go.ChangeSpec) : _root_.Go.OpenSpec := { _root_.Go.OpenSpec.ofChange s with cond := some uptoSmall }

/-- 'wapentakelaw15.ChainNext', WHERE WHAT IT READS IS OF BULK AT MOST 1048576: true; the input reads as it did. -/
def chainNextUptoRow : OpenClaim := { program := "ytoaocdhpbpghgaa", sum := "eadb257bb195fa363832d0d5aa8bfe289668a9729358272bd8cc864827d90b58", func := "wapentake/wapentakelaw15.ChainNext", spec := "chainNext", unfollowed := true, recurses := true, apart := false, narrowed := true }
def ChainNextUptoSaid : Prop := chainNextUptoRow.holds Try.pinned (OpenSpec.upto chainNextSpec)

/-- 'wapentakelaw15.ChainRuns', WHERE WHAT IT READS IS OF BULK AT MOST 1048576: true; the input reads as it did. -/
def chainRunsUptoRow : OpenClaim := { program := "ytoaocdhpbpghgaa", sum := "eadb257bb195fa363832d0d5aa8bfe289668a9729358272bd8cc864827d90b58", func := "wapentake/wapentakelaw15.ChainRuns", spec := "chainRuns", unfollowed := true, recurses := true, apart := false, narrowed := true }
def ChainRunsUptoSaid : Prop := chainRunsUptoRow.holds Try.pinned (OpenSpec.upto chainRunsSpec)

/-- 'wapentakelaw15.ChainFew', WHERE WHAT IT READS IS OF BULK AT MOST 1048576: true; the input reads as it did. -/
def chainFewUptoRow : OpenClaim := { program := "ytoaocdhpbpghgaa", sum := "eadb257bb195fa363832d0d5aa8bfe289668a9729358272bd8cc864827d90b58", func := "wapentake/wapentakelaw15.ChainFew", spec := "chainFew", unfollowed := true, recurses := true, apart := false, narrowed := true }
def ChainFewUptoSaid : Prop := chainFewUptoRow.holds Try.pinned (OpenSpec.upto chainFewSpec)

/-- 'wapentakelaw15.ChainNil', WHERE WHAT IT READS IS OF BULK AT MOST 1048576: true; the input reads as it did. -/
def chainNilUptoRow : OpenClaim := { program := "ytoaocdhpbpghgaa", sum := "eadb257bb195fa363832d0d5aa8bfe289668a9729358272bd8cc864827d90b58", func := "wapentake/wapentakelaw15.ChainNil", spec := "chainNil", unfollowed := true, recurses := true, apart := false, narrowed := true }
def ChainNilUptoSaid : Prop := chainNilUptoRow.holds Try.pinned (OpenSpec.upto chainNilSpec)

/-- 'wapentakelaw15.ChainBalance', WHERE WHAT IT READS IS OF BULK AT MOST 1048576: true; the input reads as it did. -/
def chainBalanceUptoRow : OpenClaim := { program := "ytoaocdhpbpghgaa", sum := "eadb257bb195fa363832d0d5aa8bfe289668a9729358272bd8cc864827d90b58", func := "wapentake/wapentakelaw15.ChainBalance", spec := "chainBalance", unfollowed := true, recurses := true, apart := false, narrowed := true }
def ChainBalanceUptoSaid : Prop := chainBalanceUptoRow.holds Try.pinned (OpenSpec.upto chainBalanceSpec)

end Rows
end Go.Proofs.Ytoaocdhpbpghgaa
