/-
  No cell of these rows narrows 'for every input' (looked for: loops, veiled, ifaces, maps, wideKeys, modest, calm, conditions, laid).
  DERIVED. THE GIVEN ROWS OF THIS SEAT. 4 by the template 'for every input the law returns true; each argument reads behind the call as it read before'; 0 by the template 'total and deterministic' (their statements: YtemldlfolacekaaTotals.lean).
  GIVEN WITH THE SEED: the statements are not yours to turn. If you find one false, say at which input.
  Laid BY PROGRAM, IN A SANDBOX (cutbox-rows.mjs): the forced cells as the released guide's own fill.sh prints them over the translation d9f4aec4cb9f4c02… (all of the seat's roots in one cut). By AI agents, Wed Nov 11 2026. No macro, syntax, notation, axiom, sorry.
-/
import Derived.Test.YtemldlfolacekaaChecked
import GoSem.Claim
import GoSem.ClaimJoined
import GoSem.ClaimMapViews
import Derived.JoinedTies
import Derived.KernelRfl
namespace Go.Proofs.Ytemldlfolacekaa
/- THE CELL 'sum', in the pinned program and in every row, IS THE sha256 OF THE DUMP (.gsa) THAT YtemldlfolacekaaProg.lean LOADS. Nothing in Lean hashes anything: it is a label: what it is worth is what the hold of that sum in a sandbox is worth. -/
noncomputable def Try.pinned : Pinned := { name := "ytemldlfolacekaa", sum := "d9f4aec4cb9f4c02406f83d1fb0ba4d634a252e9bd269ec02c1f1471daa7099a", checked := Try.checked }
namespace Rows
def none {H : Type} : Left H := { results := [], args := [] }

/-- 'wapentakelaw08.BatchOnce': WHATEVER THE INPUT: true; the input reads as it did. -/
def batchOnceSpec : ChangeSpec := { name := "batchOnce", fn := fun _ => fun
  | [d] => { results := [.lit (.bool true)], args := [d] }
  | _ => none }
def batchOnceRow : OpenClaim := { program := "ytemldlfolacekaa", sum := "d9f4aec4cb9f4c02406f83d1fb0ba4d634a252e9bd269ec02c1f1471daa7099a", func := "wapentake/wapentakelaw08.BatchOnce", spec := "batchOnce", unfollowed := true, recurses := true, apart := false }
def BatchOnceSaid : Prop := batchOnceRow.holds Try.pinned (OpenSpec.ofChange batchOnceSpec)

/-- ITS FALSE NEIGHBOUR: 'it returns false'. Refute it at one input. -/
def batchOnceWrong : ChangeSpec := { name := "batchOnce", fn := fun _ => fun
  | [d] => { results := [.lit (.bool false)], args := [d] }
  | _ => none }
def BatchOnceWrongFalsely : Prop := batchOnceRow.holds Try.pinned (OpenSpec.ofChange batchOnceWrong)

/-- 'wapentakelaw08.BatchBounds': WHATEVER THE INPUT: true; the input reads as it did. -/
def batchBoundsSpec : ChangeSpec := { name := "batchBounds", fn := fun _ => fun
  | [d] => { results := [.lit (.bool true)], args := [d] }
  | _ => none }
def batchBoundsRow : OpenClaim := { program := "ytemldlfolacekaa", sum := "d9f4aec4cb9f4c02406f83d1fb0ba4d634a252e9bd269ec02c1f1471daa7099a", func := "wapentake/wapentakelaw08.BatchBounds", spec := "batchBounds", unfollowed := true, recurses := true, apart := false }
def BatchBoundsSaid : Prop := batchBoundsRow.holds Try.pinned (OpenSpec.ofChange batchBoundsSpec)

/-- ITS FALSE NEIGHBOUR: 'it returns false'. Refute it at one input. -/
def batchBoundsWrong : ChangeSpec := { name := "batchBounds", fn := fun _ => fun
  | [d] => { results := [.lit (.bool false)], args := [d] }
  | _ => none }
def BatchBoundsWrongFalsely : Prop := batchBoundsRow.holds Try.pinned (OpenSpec.ofChange batchBoundsWrong)

/-- 'wapentakelaw08.BatchSteps': WHATEVER THE INPUT: true; the input reads as it did. -/
def batchStepsSpec : ChangeSpec := { name := "batchSteps", fn := fun _ => fun
  | [d] => { results := [.lit (.bool true)], args := [d] }
  | _ => none }
def batchStepsRow : OpenClaim := { program := "ytemldlfolacekaa", sum := "d9f4aec4cb9f4c02406f83d1fb0ba4d634a252e9bd269ec02c1f1471daa7099a", func := "wapentake/wapentakelaw08.BatchSteps", spec := "batchSteps", unfollowed := true, recurses := true, apart := false }
def BatchStepsSaid : Prop := batchStepsRow.holds Try.pinned (OpenSpec.ofChange batchStepsSpec)

/-- ITS FALSE NEIGHBOUR: 'it returns false'. Refute it at one input. -/
def batchStepsWrong : ChangeSpec := { name := "batchSteps", fn := fun _ => fun
  | [d] => { results := [.lit (.bool false)], args := [d] }
  | _ => none }
def BatchStepsWrongFalsely : Prop := batchStepsRow.holds Try.pinned (OpenSpec.ofChange batchStepsWrong)

/-- 'wapentakelaw08.BatchNil': WHATEVER THE INPUT: true; the input reads as it did. -/
def batchNilSpec : ChangeSpec := { name := "batchNil", fn := fun _ => fun
  | [d] => { results := [.lit (.bool true)], args := [d] }
  | _ => none }
def batchNilRow : OpenClaim := { program := "ytemldlfolacekaa", sum := "d9f4aec4cb9f4c02406f83d1fb0ba4d634a252e9bd269ec02c1f1471daa7099a", func := "wapentake/wapentakelaw08.BatchNil", spec := "batchNil", unfollowed := true, recurses := true, apart := false }
def BatchNilSaid : Prop := batchNilRow.holds Try.pinned (OpenSpec.ofChange batchNilSpec)

/-- ITS FALSE NEIGHBOUR: 'it returns false'. Refute it at one input. -/
def batchNilWrong : ChangeSpec := { name := "batchNil", fn := fun _ => fun
  | [d] => { results := [.lit (.bool false)], args := [d] }
  | _ => none }
def BatchNilWrongFalsely : Prop := batchNilRow.holds Try.pinned (OpenSpec.ofChange batchNilWrong)

/- THE SECOND FORM. 'bulk': how many values and letters a reading holds, each counted each time it is reached (what is shared counts as often as it is met; a slice's spare places count too). A statement '..UptoSaid' is the law's where the arguments, and the package variables that the reading takes, are together of bulk at most 1048576: NARROWER than '..Said'. Prove '..Said' where nothing that the law and all that it calls make is longer than what came in: it says more and counts as full. Else prove '..UptoSaid'. A law counts once. -/
mutual
def uptoBulk {H : Type} : DataW H → Nat
  | .lit (.string bytes) => bytes.length + 1
  | .lit _ => 1
  | .nil => 1
  | .ptr d => uptoBulk d + 1
  | .slice elems spare => uptoBulkAll elems + uptoBulkAll spare + 1
  | .agg parts => uptoBulkAll parts + 1
  | .iface _ d => uptoBulk d + 1
  | .map entries => uptoBulkEntries entries + 1
  | .held _ => 1
def uptoBulkAll {H : Type} : List (DataW H) → Nat
  | [] => 0
  | d :: r => uptoBulk d + uptoBulkAll r
def uptoBulkEntries {H : Type} : List (Lit × DataW H) → Nat
  | [] => 0
  | x :: r => uptoBulkEntry x + uptoBulkEntries r
def uptoBulkEntry {H : Type} : Lit × DataW H → Nat
  | (.string bytes, d) => bytes.length + uptoBulk d + 1
  | (_, d) => uptoBulk d + 1
 end
def uptoSmall : (H : Type) → List (DataW H) → Bool := fun _ ds => decide (uptoBulkAll ds ≤ 1048576)
def OpenSpec.upto (s : _root_.Go.ChangeSpec) : _root_.Go.OpenSpec := { _root_.Go.OpenSpec.ofChange s with cond := some uptoSmall }

/-- 'wapentakelaw08.BatchOnce', WHERE WHAT IT READS IS OF BULK AT MOST 1048576: true; the input reads as it did. -/
def batchOnceUptoRow : OpenClaim := { program := "ytemldlfolacekaa", sum := "d9f4aec4cb9f4c02406f83d1fb0ba4d634a252e9bd269ec02c1f1471daa7099a", func := "wapentake/wapentakelaw08.BatchOnce", spec := "batchOnce", unfollowed := true, recurses := true, apart := false, narrowed := true }
def BatchOnceUptoSaid : Prop := batchOnceUptoRow.holds Try.pinned (OpenSpec.upto batchOnceSpec)

/-- 'wapentakelaw08.BatchBounds', WHERE WHAT IT READS IS OF BULK AT MOST 1048576: true; the input reads as it did. -/
def batchBoundsUptoRow : OpenClaim := { program := "ytemldlfolacekaa", sum := "d9f4aec4cb9f4c02406f83d1fb0ba4d634a252e9bd269ec02c1f1471daa7099a", func := "wapentake/wapentakelaw08.BatchBounds", spec := "batchBounds", unfollowed := true, recurses := true, apart := false, narrowed := true }
def BatchBoundsUptoSaid : Prop := batchBoundsUptoRow.holds Try.pinned (OpenSpec.upto batchBoundsSpec)

/-- 'wapentakelaw08.BatchSteps', WHERE WHAT IT READS IS OF BULK AT MOST 1048576: true; the input reads as it did. -/
def batchStepsUptoRow : OpenClaim := { program := "ytemldlfolacekaa", sum := "d9f4aec4cb9f4c02406f83d1fb0ba4d634a252e9bd269ec02c1f1471daa7099a", func := "wapentake/wapentakelaw08.BatchSteps", spec := "batchSteps", unfollowed := true, recurses := true, apart := false, narrowed := true }
def BatchStepsUptoSaid : Prop := batchStepsUptoRow.holds Try.pinned (OpenSpec.upto batchStepsSpec)

/-- 'wapentakelaw08.BatchNil', WHERE WHAT IT READS IS OF BULK AT MOST 1048576: true; the input reads as it did. -/
def batchNilUptoRow : OpenClaim := { program := "ytemldlfolacekaa", sum := "d9f4aec4cb9f4c02406f83d1fb0ba4d634a252e9bd269ec02c1f1471daa7099a", func := "wapentake/wapentakelaw08.BatchNil", spec := "batchNil", unfollowed := true, recurses := true, apart := false, narrowed := true }
def BatchNilUptoSaid : Prop := batchNilUptoRow.holds Try.pinned (OpenSpec.upto batchNilSpec)

end Rows
end Go.Proofs.Ytemldlfolacekaa
