/-
  No cell of these rows narrows 'for every input' (looked for: loops, veiled, ifaces, maps, wideKeys, modest, calm, conditions, laid).
  DERIVED. THE GIVEN ROWS OF THIS SEAT. 14 by the template 'for every input the law returns true; each argument reads behind the call as it read before'; 0 by the template 'total and deterministic' (their statements: YtgohnbhnckgcnaaTotals.lean).
  GIVEN WITH THE SEED: the statements are not yours to turn. If you find one false, say at which input.
  Laid BY PROGRAM, IN A SANDBOX (cutbox-rows.mjs): the forced cells as the released guide's own fill.sh prints them over the translation 0bfe7d96ef39e1a6… (all of the seat's roots in one cut). By AI agents, Wed Nov 11 2026. No macro, syntax, notation, axiom, sorry.
-/
import Derived.Test.YtgohnbhnckgcnaaChecked
import GoSem.Claim
import GoSem.ClaimJoined
import GoSem.ClaimMapViews
import Derived.JoinedTies
import Derived.KernelRfl
namespace Go.Proofs.Ytgohnbhnckgcnaa
/- THE CELL 'sum', in the pinned program and in every row, IS THE sha256 OF THE DUMP (.gsa) THAT YtgohnbhnckgcnaaProg.lean LOADS. Nothing in Lean hashes anything: it is a label: what it is worth is what the hold of that sum in a sandbox is worth. -/
noncomputable def Try.pinned : Pinned := { name := "ytgohnbhnckgcnaa", sum := "0bfe7d96ef39e1a67df31a98aab6bd6b9185bc832fb5a38ead98b99301340cad", checked := Try.checked }
namespace Rows
def none {H : Type} : Left H := { results := [], args := [] }

/-- 'laws.FnExactPileEmpty': WHATEVER THE INPUT: true; the input reads as it did. -/
def fnExactPileEmptySpec : ChangeSpec := { name := "fnExactPileEmpty", fn := fun _ => fun
  | [d] => { results := [.lit (.bool true)], args := [d] }
  | _ => none }
def fnExactPileEmptyRow : OpenClaim := { program := "ytgohnbhnckgcnaa", sum := "0bfe7d96ef39e1a67df31a98aab6bd6b9185bc832fb5a38ead98b99301340cad", func := "loop.example/steelmill/laws.FnExactPileEmpty", spec := "fnExactPileEmpty", apart := false }
def FnExactPileEmptySaid : Prop := fnExactPileEmptyRow.holds Try.pinned (OpenSpec.ofChange fnExactPileEmptySpec)

/-- ITS FALSE NEIGHBOUR: 'it returns false'. Refute it at one input. -/
def fnExactPileEmptyWrong : ChangeSpec := { name := "fnExactPileEmpty", fn := fun _ => fun
  | [d] => { results := [.lit (.bool false)], args := [d] }
  | _ => none }
def FnExactPileEmptyWrongFalsely : Prop := fnExactPileEmptyRow.holds Try.pinned (OpenSpec.ofChange fnExactPileEmptyWrong)

/-- 'laws.FnExactPileValid': WHATEVER THE INPUT: true; the input reads as it did. -/
def fnExactPileValidSpec : ChangeSpec := { name := "fnExactPileValid", fn := fun _ => fun
  | [d] => { results := [.lit (.bool true)], args := [d] }
  | _ => none }
def fnExactPileValidRow : OpenClaim := { program := "ytgohnbhnckgcnaa", sum := "0bfe7d96ef39e1a67df31a98aab6bd6b9185bc832fb5a38ead98b99301340cad", func := "loop.example/steelmill/laws.FnExactPileValid", spec := "fnExactPileValid", apart := false }
def FnExactPileValidSaid : Prop := fnExactPileValidRow.holds Try.pinned (OpenSpec.ofChange fnExactPileValidSpec)

/-- ITS FALSE NEIGHBOUR: 'it returns false'. Refute it at one input. -/
def fnExactPileValidWrong : ChangeSpec := { name := "fnExactPileValid", fn := fun _ => fun
  | [d] => { results := [.lit (.bool false)], args := [d] }
  | _ => none }
def FnExactPileValidWrongFalsely : Prop := fnExactPileValidRow.holds Try.pinned (OpenSpec.ofChange fnExactPileValidWrong)

/-- 'laws.FnExactCoilFind': WHATEVER THE INPUT: true; the input reads as it did. -/
def fnExactCoilFindSpec : ChangeSpec := { name := "fnExactCoilFind", fn := fun _ => fun
  | [d1, d2] => { results := [.lit (.bool true)], args := [d1, d2] }
  | _ => none }
def fnExactCoilFindRow : OpenClaim := { program := "ytgohnbhnckgcnaa", sum := "0bfe7d96ef39e1a67df31a98aab6bd6b9185bc832fb5a38ead98b99301340cad", func := "loop.example/steelmill/laws.FnExactCoilFind", spec := "fnExactCoilFind", apart := false }
def FnExactCoilFindSaid : Prop := fnExactCoilFindRow.holds Try.pinned (OpenSpec.ofChange fnExactCoilFindSpec)

/-- ITS FALSE NEIGHBOUR: 'it returns false'. Refute it at one input. -/
def fnExactCoilFindWrong : ChangeSpec := { name := "fnExactCoilFind", fn := fun _ => fun
  | [d1, d2] => { results := [.lit (.bool false)], args := [d1, d2] }
  | _ => none }
def FnExactCoilFindWrongFalsely : Prop := fnExactCoilFindRow.holds Try.pinned (OpenSpec.ofChange fnExactCoilFindWrong)

/-- 'laws.FnExactCoilAt': WHATEVER THE INPUT: true; the input reads as it did. -/
def fnExactCoilAtSpec : ChangeSpec := { name := "fnExactCoilAt", fn := fun _ => fun
  | [d1, d2] => { results := [.lit (.bool true)], args := [d1, d2] }
  | _ => none }
def fnExactCoilAtRow : OpenClaim := { program := "ytgohnbhnckgcnaa", sum := "0bfe7d96ef39e1a67df31a98aab6bd6b9185bc832fb5a38ead98b99301340cad", func := "loop.example/steelmill/laws.FnExactCoilAt", spec := "fnExactCoilAt", apart := false }
def FnExactCoilAtSaid : Prop := fnExactCoilAtRow.holds Try.pinned (OpenSpec.ofChange fnExactCoilAtSpec)

/-- ITS FALSE NEIGHBOUR: 'it returns false'. Refute it at one input. -/
def fnExactCoilAtWrong : ChangeSpec := { name := "fnExactCoilAt", fn := fun _ => fun
  | [d1, d2] => { results := [.lit (.bool false)], args := [d1, d2] }
  | _ => none }
def FnExactCoilAtWrongFalsely : Prop := fnExactCoilAtRow.holds Try.pinned (OpenSpec.ofChange fnExactCoilAtWrong)

/-- 'laws.FnExactLeaveOk': WHATEVER THE INPUT: true; the input reads as it did. -/
def fnExactLeaveOkSpec : ChangeSpec := { name := "fnExactLeaveOk", fn := fun _ => fun
  | [d1, d2] => { results := [.lit (.bool true)], args := [d1, d2] }
  | _ => none }
def fnExactLeaveOkRow : OpenClaim := { program := "ytgohnbhnckgcnaa", sum := "0bfe7d96ef39e1a67df31a98aab6bd6b9185bc832fb5a38ead98b99301340cad", func := "loop.example/steelmill/laws.FnExactLeaveOk", spec := "fnExactLeaveOk", apart := false }
def FnExactLeaveOkSaid : Prop := fnExactLeaveOkRow.holds Try.pinned (OpenSpec.ofChange fnExactLeaveOkSpec)

/-- ITS FALSE NEIGHBOUR: 'it returns false'. Refute it at one input. -/
def fnExactLeaveOkWrong : ChangeSpec := { name := "fnExactLeaveOk", fn := fun _ => fun
  | [d1, d2] => { results := [.lit (.bool false)], args := [d1, d2] }
  | _ => none }
def FnExactLeaveOkWrongFalsely : Prop := fnExactLeaveOkRow.holds Try.pinned (OpenSpec.ofChange fnExactLeaveOkWrong)

/-- 'laws.FnExactCoilsOn': WHATEVER THE INPUT: true; the input reads as it did. -/
def fnExactCoilsOnSpec : ChangeSpec := { name := "fnExactCoilsOn", fn := fun _ => fun
  | [d1, d2] => { results := [.lit (.bool true)], args := [d1, d2] }
  | _ => none }
def fnExactCoilsOnRow : OpenClaim := { program := "ytgohnbhnckgcnaa", sum := "0bfe7d96ef39e1a67df31a98aab6bd6b9185bc832fb5a38ead98b99301340cad", func := "loop.example/steelmill/laws.FnExactCoilsOn", spec := "fnExactCoilsOn", apart := false }
def FnExactCoilsOnSaid : Prop := fnExactCoilsOnRow.holds Try.pinned (OpenSpec.ofChange fnExactCoilsOnSpec)

/-- ITS FALSE NEIGHBOUR: 'it returns false'. Refute it at one input. -/
def fnExactCoilsOnWrong : ChangeSpec := { name := "fnExactCoilsOn", fn := fun _ => fun
  | [d1, d2] => { results := [.lit (.bool false)], args := [d1, d2] }
  | _ => none }
def FnExactCoilsOnWrongFalsely : Prop := fnExactCoilsOnRow.holds Try.pinned (OpenSpec.ofChange fnExactCoilsOnWrong)

/-- 'laws.FnExactLeaveLifts': WHATEVER THE INPUT: true; the input reads as it did. -/
def fnExactLeaveLiftsSpec : ChangeSpec := { name := "fnExactLeaveLifts", fn := fun _ => fun
  | [d1, d2] => { results := [.lit (.bool true)], args := [d1, d2] }
  | _ => none }
def fnExactLeaveLiftsRow : OpenClaim := { program := "ytgohnbhnckgcnaa", sum := "0bfe7d96ef39e1a67df31a98aab6bd6b9185bc832fb5a38ead98b99301340cad", func := "loop.example/steelmill/laws.FnExactLeaveLifts", spec := "fnExactLeaveLifts", apart := false }
def FnExactLeaveLiftsSaid : Prop := fnExactLeaveLiftsRow.holds Try.pinned (OpenSpec.ofChange fnExactLeaveLiftsSpec)

/-- ITS FALSE NEIGHBOUR: 'it returns false'. Refute it at one input. -/
def fnExactLeaveLiftsWrong : ChangeSpec := { name := "fnExactLeaveLifts", fn := fun _ => fun
  | [d1, d2] => { results := [.lit (.bool false)], args := [d1, d2] }
  | _ => none }
def FnExactLeaveLiftsWrongFalsely : Prop := fnExactLeaveLiftsRow.holds Try.pinned (OpenSpec.ofChange fnExactLeaveLiftsWrong)

/-- 'laws.FnExactCoilPut': WHATEVER THE INPUT: true; the input reads as it did. -/
def fnExactCoilPutSpec : ChangeSpec := { name := "fnExactCoilPut", fn := fun _ => fun
  | [d1, d2, d3] => { results := [.lit (.bool true)], args := [d1, d2, d3] }
  | _ => none }
def fnExactCoilPutRow : OpenClaim := { program := "ytgohnbhnckgcnaa", sum := "0bfe7d96ef39e1a67df31a98aab6bd6b9185bc832fb5a38ead98b99301340cad", func := "loop.example/steelmill/laws.FnExactCoilPut", spec := "fnExactCoilPut", apart := false }
def FnExactCoilPutSaid : Prop := fnExactCoilPutRow.holds Try.pinned (OpenSpec.ofChange fnExactCoilPutSpec)

/-- ITS FALSE NEIGHBOUR: 'it returns false'. Refute it at one input. -/
def fnExactCoilPutWrong : ChangeSpec := { name := "fnExactCoilPut", fn := fun _ => fun
  | [d1, d2, d3] => { results := [.lit (.bool false)], args := [d1, d2, d3] }
  | _ => none }
def FnExactCoilPutWrongFalsely : Prop := fnExactCoilPutRow.holds Try.pinned (OpenSpec.ofChange fnExactCoilPutWrong)

/-- 'laws.FnExactCoilTake': WHATEVER THE INPUT: true; the input reads as it did. -/
def fnExactCoilTakeSpec : ChangeSpec := { name := "fnExactCoilTake", fn := fun _ => fun
  | [d1, d2] => { results := [.lit (.bool true)], args := [d1, d2] }
  | _ => none }
def fnExactCoilTakeRow : OpenClaim := { program := "ytgohnbhnckgcnaa", sum := "0bfe7d96ef39e1a67df31a98aab6bd6b9185bc832fb5a38ead98b99301340cad", func := "loop.example/steelmill/laws.FnExactCoilTake", spec := "fnExactCoilTake", apart := false }
def FnExactCoilTakeSaid : Prop := fnExactCoilTakeRow.holds Try.pinned (OpenSpec.ofChange fnExactCoilTakeSpec)

/-- ITS FALSE NEIGHBOUR: 'it returns false'. Refute it at one input. -/
def fnExactCoilTakeWrong : ChangeSpec := { name := "fnExactCoilTake", fn := fun _ => fun
  | [d1, d2] => { results := [.lit (.bool false)], args := [d1, d2] }
  | _ => none }
def FnExactCoilTakeWrongFalsely : Prop := fnExactCoilTakeRow.holds Try.pinned (OpenSpec.ofChange fnExactCoilTakeWrong)

/-- 'laws.FnExactCoilLift': WHATEVER THE INPUT: true; the input reads as it did. -/
def fnExactCoilLiftSpec : ChangeSpec := { name := "fnExactCoilLift", fn := fun _ => fun
  | [d1, d2] => { results := [.lit (.bool true)], args := [d1, d2] }
  | _ => none }
def fnExactCoilLiftRow : OpenClaim := { program := "ytgohnbhnckgcnaa", sum := "0bfe7d96ef39e1a67df31a98aab6bd6b9185bc832fb5a38ead98b99301340cad", func := "loop.example/steelmill/laws.FnExactCoilLift", spec := "fnExactCoilLift", apart := false }
def FnExactCoilLiftSaid : Prop := fnExactCoilLiftRow.holds Try.pinned (OpenSpec.ofChange fnExactCoilLiftSpec)

/-- ITS FALSE NEIGHBOUR: 'it returns false'. Refute it at one input. -/
def fnExactCoilLiftWrong : ChangeSpec := { name := "fnExactCoilLift", fn := fun _ => fun
  | [d1, d2] => { results := [.lit (.bool false)], args := [d1, d2] }
  | _ => none }
def FnExactCoilLiftWrongFalsely : Prop := fnExactCoilLiftRow.holds Try.pinned (OpenSpec.ofChange fnExactCoilLiftWrong)

/-- 'laws.FnExactLiftRun': WHATEVER THE INPUT: true; the input reads as it did. -/
def fnExactLiftRunSpec : ChangeSpec := { name := "fnExactLiftRun", fn := fun _ => fun
  | [d1, d2] => { results := [.lit (.bool true)], args := [d1, d2] }
  | _ => none }
def fnExactLiftRunRow : OpenClaim := { program := "ytgohnbhnckgcnaa", sum := "0bfe7d96ef39e1a67df31a98aab6bd6b9185bc832fb5a38ead98b99301340cad", func := "loop.example/steelmill/laws.FnExactLiftRun", spec := "fnExactLiftRun", apart := false }
def FnExactLiftRunSaid : Prop := fnExactLiftRunRow.holds Try.pinned (OpenSpec.ofChange fnExactLiftRunSpec)

/-- ITS FALSE NEIGHBOUR: 'it returns false'. Refute it at one input. -/
def fnExactLiftRunWrong : ChangeSpec := { name := "fnExactLiftRun", fn := fun _ => fun
  | [d1, d2] => { results := [.lit (.bool false)], args := [d1, d2] }
  | _ => none }
def FnExactLiftRunWrongFalsely : Prop := fnExactLiftRunRow.holds Try.pinned (OpenSpec.ofChange fnExactLiftRunWrong)

/-- 'laws.FnExactDigLifts': WHATEVER THE INPUT: true; the input reads as it did. -/
def fnExactDigLiftsSpec : ChangeSpec := { name := "fnExactDigLifts", fn := fun _ => fun
  | [d1, d2] => { results := [.lit (.bool true)], args := [d1, d2] }
  | _ => none }
def fnExactDigLiftsRow : OpenClaim := { program := "ytgohnbhnckgcnaa", sum := "0bfe7d96ef39e1a67df31a98aab6bd6b9185bc832fb5a38ead98b99301340cad", func := "loop.example/steelmill/laws.FnExactDigLifts", spec := "fnExactDigLifts", apart := false }
def FnExactDigLiftsSaid : Prop := fnExactDigLiftsRow.holds Try.pinned (OpenSpec.ofChange fnExactDigLiftsSpec)

/-- ITS FALSE NEIGHBOUR: 'it returns false'. Refute it at one input. -/
def fnExactDigLiftsWrong : ChangeSpec := { name := "fnExactDigLifts", fn := fun _ => fun
  | [d1, d2] => { results := [.lit (.bool false)], args := [d1, d2] }
  | _ => none }
def FnExactDigLiftsWrongFalsely : Prop := fnExactDigLiftsRow.holds Try.pinned (OpenSpec.ofChange fnExactDigLiftsWrong)

/-- 'laws.FnExactLeaveAll': WHATEVER THE INPUT: true; the input reads as it did. -/
def fnExactLeaveAllSpec : ChangeSpec := { name := "fnExactLeaveAll", fn := fun _ => fun
  | [d1, d2] => { results := [.lit (.bool true)], args := [d1, d2] }
  | _ => none }
def fnExactLeaveAllRow : OpenClaim := { program := "ytgohnbhnckgcnaa", sum := "0bfe7d96ef39e1a67df31a98aab6bd6b9185bc832fb5a38ead98b99301340cad", func := "loop.example/steelmill/laws.FnExactLeaveAll", spec := "fnExactLeaveAll", apart := false }
def FnExactLeaveAllSaid : Prop := fnExactLeaveAllRow.holds Try.pinned (OpenSpec.ofChange fnExactLeaveAllSpec)

/-- ITS FALSE NEIGHBOUR: 'it returns false'. Refute it at one input. -/
def fnExactLeaveAllWrong : ChangeSpec := { name := "fnExactLeaveAll", fn := fun _ => fun
  | [d1, d2] => { results := [.lit (.bool false)], args := [d1, d2] }
  | _ => none }
def FnExactLeaveAllWrongFalsely : Prop := fnExactLeaveAllRow.holds Try.pinned (OpenSpec.ofChange fnExactLeaveAllWrong)

/-- 'laws.FnExactCoilIds': WHATEVER THE INPUT: true; the input reads as it did. -/
def fnExactCoilIdsSpec : ChangeSpec := { name := "fnExactCoilIds", fn := fun _ => fun
  | [d] => { results := [.lit (.bool true)], args := [d] }
  | _ => none }
def fnExactCoilIdsRow : OpenClaim := { program := "ytgohnbhnckgcnaa", sum := "0bfe7d96ef39e1a67df31a98aab6bd6b9185bc832fb5a38ead98b99301340cad", func := "loop.example/steelmill/laws.FnExactCoilIds", spec := "fnExactCoilIds", recurses := true, apart := false }
def FnExactCoilIdsSaid : Prop := fnExactCoilIdsRow.holds Try.pinned (OpenSpec.ofChange fnExactCoilIdsSpec)

/-- ITS FALSE NEIGHBOUR: 'it returns false'. Refute it at one input. -/
def fnExactCoilIdsWrong : ChangeSpec := { name := "fnExactCoilIds", fn := fun _ => fun
  | [d] => { results := [.lit (.bool false)], args := [d] }
  | _ => none }
def FnExactCoilIdsWrongFalsely : Prop := fnExactCoilIdsRow.holds Try.pinned (OpenSpec.ofChange fnExactCoilIdsWrong)

/- THE SECOND FORM. 'bulk': how many values and letters a reading holds, each counted each time it is reached (what is shared counts as often as it is met; a slice's spare places count too). A statement '..UptoSaid' is the law's where the arguments, and the package variables that the reading takes, are together of bulk at most 1048576: NARROWER than '..Said'. Prove '..Said' where nothing that the law and all that it calls make is longer than what came in: it says more and counts as full. Else prove '..UptoSaid'. A law counts once. -/
mutual
def uptoBulk {H : Type} : DataW H → Nat
  | .lit (.string bytes) => bytes.length + 1
  | .lit _ => 1
  | .nil => 1
  | .ptr d => uptoBulk d + 1
  | .slice elems spare => uptoBulkAll elems + uptoBulkAll spare + 1
  | .agg parts => uptoBulkAll parts + 1
  | .iface _ d => uptoBulk d + 1
  | .map entries => uptoBulkEntries entries + 1
  | .held _ => 1
def uptoBulkAll {H : Type} : List (DataW H) → Nat
  | [] => 0
  | d :: r => uptoBulk d + uptoBulkAll r
def uptoBulkEntries {H : Type} : List (Lit × DataW H) → Nat
  | [] => 0
  | x :: r => uptoBulkEntry x + uptoBulkEntries r
def uptoBulkEntry {H : Type} : Lit × DataW H → Nat
  | (.string bytes, d) => bytes.length + uptoBulk d + 1
  | (_, d) => uptoBulk d + 1
 end
def uptoSmall : (H : Type) → List (DataW H) → Bool := fun _ ds => decide (uptoBulkAll ds ≤ 1048576)
def OpenSpec.upto (s : _root_.Go.ChangeSpec) : _root_.Go.OpenSpec := { _root_.Go.OpenSpec.ofChange s with cond := some uptoSmall }

/-- 'laws.FnExactPileEmpty', WHERE WHAT IT READS IS OF BULK AT MOST 1048576: true; the input reads as it did. -/
def fnExactPileEmptyUptoRow : OpenClaim := { program := "ytgohnbhnckgcnaa", sum := "0bfe7d96ef39e1a67df31a98aab6bd6b9185bc832fb5a38ead98b99301340cad", func := "loop.example/steelmill/laws.FnExactPileEmpty", spec := "fnExactPileEmpty", apart := false, narrowed := true }
def FnExactPileEmptyUptoSaid : Prop := fnExactPileEmptyUptoRow.holds Try.pinned (OpenSpec.upto fnExactPileEmptySpec)

/-- 'laws.FnExactPileValid', WHERE WHAT IT READS IS OF BULK AT MOST 1048576: true; the input reads as it did. -/
def fnExactPileValidUptoRow : OpenClaim := { program := "ytgohnbhnckgcnaa", sum := "0bfe7d96ef39e1a67df31a98aab6bd6b9185bc832fb5a38ead98b99301340cad", func := "loop.example/steelmill/laws.FnExactPileValid", spec := "fnExactPileValid", apart := false, narrowed := true }
def FnExactPileValidUptoSaid : Prop := fnExactPileValidUptoRow.holds Try.pinned (OpenSpec.upto fnExactPileValidSpec)

/-- 'laws.FnExactCoilFind', WHERE WHAT IT READS IS OF BULK AT MOST 1048576: true; the input reads as it did. -/
def fnExactCoilFindUptoRow : OpenClaim := { program := "ytgohnbhnckgcnaa", sum := "0bfe7d96ef39e1a67df31a98aab6bd6b9185bc832fb5a38ead98b99301340cad", func := "loop.example/steelmill/laws.FnExactCoilFind", spec := "fnExactCoilFind", apart := false, narrowed := true }
def FnExactCoilFindUptoSaid : Prop := fnExactCoilFindUptoRow.holds Try.pinned (OpenSpec.upto fnExactCoilFindSpec)

/-- 'laws.FnExactCoilAt', WHERE WHAT IT READS IS OF BULK AT MOST 1048576: true; the input reads as it did. -/
def fnExactCoilAtUptoRow : OpenClaim := { program := "ytgohnbhnckgcnaa", sum := "0bfe7d96ef39e1a67df31a98aab6bd6b9185bc832fb5a38ead98b99301340cad", func := "loop.example/steelmill/laws.FnExactCoilAt", spec := "fnExactCoilAt", apart := false, narrowed := true }
def FnExactCoilAtUptoSaid : Prop := fnExactCoilAtUptoRow.holds Try.pinned (OpenSpec.upto fnExactCoilAtSpec)

/-- 'laws.FnExactLeaveOk', WHERE WHAT IT READS IS OF BULK AT MOST 1048576: true; the input reads as it did. -/
def fnExactLeaveOkUptoRow : OpenClaim := { program := "ytgohnbhnckgcnaa", sum := "0bfe7d96ef39e1a67df31a98aab6bd6b9185bc832fb5a38ead98b99301340cad", func := "loop.example/steelmill/laws.FnExactLeaveOk", spec := "fnExactLeaveOk", apart := false, narrowed := true }
def FnExactLeaveOkUptoSaid : Prop := fnExactLeaveOkUptoRow.holds Try.pinned (OpenSpec.upto fnExactLeaveOkSpec)

/-- 'laws.FnExactCoilsOn', WHERE WHAT IT READS IS OF BULK AT MOST 1048576: true; the input reads as it did. -/
def fnExactCoilsOnUptoRow : OpenClaim := { program := "ytgohnbhnckgcnaa", sum := "0bfe7d96ef39e1a67df31a98aab6bd6b9185bc832fb5a38ead98b99301340cad", func := "loop.example/steelmill/laws.FnExactCoilsOn", spec := "fnExactCoilsOn", apart := false, narrowed := true }
def FnExactCoilsOnUptoSaid : Prop := fnExactCoilsOnUptoRow.holds Try.pinned (OpenSpec.upto fnExactCoilsOnSpec)

/-- 'laws.FnExactLeaveLifts', WHERE WHAT IT READS IS OF BULK AT MOST 1048576: true; the input reads as it did. -/
def fnExactLeaveLiftsUptoRow : OpenClaim := { program := "ytgohnbhnckgcnaa", sum := "0bfe7d96ef39e1a67df31a98aab6bd6b9185bc832fb5a38ead98b99301340cad", func := "loop.example/steelmill/laws.FnExactLeaveLifts", spec := "fnExactLeaveLifts", apart := false, narrowed := true }
def FnExactLeaveLiftsUptoSaid : Prop := fnExactLeaveLiftsUptoRow.holds Try.pinned (OpenSpec.upto fnExactLeaveLiftsSpec)

/-- 'laws.FnExactCoilPut', WHERE WHAT IT READS IS OF BULK AT MOST 1048576: true; the input reads as it did. -/
def fnExactCoilPutUptoRow : OpenClaim := { program := "ytgohnbhnckgcnaa", sum := "0bfe7d96ef39e1a67df31a98aab6bd6b9185bc832fb5a38ead98b99301340cad", func := "loop.example/steelmill/laws.FnExactCoilPut", spec := "fnExactCoilPut", apart := false, narrowed := true }
def FnExactCoilPutUptoSaid : Prop := fnExactCoilPutUptoRow.holds Try.pinned (OpenSpec.upto fnExactCoilPutSpec)

/-- 'laws.FnExactCoilTake', WHERE WHAT IT READS IS OF BULK AT MOST 1048576: true; the input reads as it did. -/
def fnExactCoilTakeUptoRow : OpenClaim := { program := "ytgohnbhnckgcnaa", sum := "0bfe7d96ef39e1a67df31a98aab6bd6b9185bc832fb5a38ead98b99301340cad", func := "loop.example/steelmill/laws.FnExactCoilTake", spec := "fnExactCoilTake", apart := false, narrowed := true }
def FnExactCoilTakeUptoSaid : Prop := fnExactCoilTakeUptoRow.holds Try.pinned (OpenSpec.upto fnExactCoilTakeSpec)

/-- 'laws.FnExactCoilLift', WHERE WHAT IT READS IS OF BULK AT MOST 1048576: true; the input reads as it did. -/
def fnExactCoilLiftUptoRow : OpenClaim := { program := "ytgohnbhnckgcnaa", sum := "0bfe7d96ef39e1a67df31a98aab6bd6b9185bc832fb5a38ead98b99301340cad", func := "loop.example/steelmill/laws.FnExactCoilLift", spec := "fnExactCoilLift", apart := false, narrowed := true }
def FnExactCoilLiftUptoSaid : Prop := fnExactCoilLiftUptoRow.holds Try.pinned (OpenSpec.upto fnExactCoilLiftSpec)

/-- 'laws.FnExactLiftRun', WHERE WHAT IT READS IS OF BULK AT MOST 1048576: true; the input reads as it did. -/
def fnExactLiftRunUptoRow : OpenClaim := { program := "ytgohnbhnckgcnaa", sum := "0bfe7d96ef39e1a67df31a98aab6bd6b9185bc832fb5a38ead98b99301340cad", func := "loop.example/steelmill/laws.FnExactLiftRun", spec := "fnExactLiftRun", apart := false, narrowed := true }
def FnExactLiftRunUptoSaid : Prop := fnExactLiftRunUptoRow.holds Try.pinned (OpenSpec.upto fnExactLiftRunSpec)

/-- 'laws.FnExactDigLifts', WHERE WHAT IT READS IS OF BULK AT MOST 1048576: true; the input reads as it did. -/
def fnExactDigLiftsUptoRow : OpenClaim := { program := "ytgohnbhnckgcnaa", sum := "0bfe7d96ef39e1a67df31a98aab6bd6b9185bc832fb5a38ead98b99301340cad", func := "loop.example/steelmill/laws.FnExactDigLifts", spec := "fnExactDigLifts", apart := false, narrowed := true }
def FnExactDigLiftsUptoSaid : Prop := fnExactDigLiftsUptoRow.holds Try.pinned (OpenSpec.upto fnExactDigLiftsSpec)

/-- 'laws.FnExactLeaveAll', WHERE WHAT IT READS IS OF BULK AT MOST 1048576: true; the input reads as it did. -/
def fnExactLeaveAllUptoRow : OpenClaim := { program := "ytgohnbhnckgcnaa", sum := "0bfe7d96ef39e1a67df31a98aab6bd6b9185bc832fb5a38ead98b99301340cad", func := "loop.example/steelmill/laws.FnExactLeaveAll", spec := "fnExactLeaveAll", apart := false, narrowed := true }
def FnExactLeaveAllUptoSaid : Prop := fnExactLeaveAllUptoRow.holds Try.pinned (OpenSpec.upto fnExactLeaveAllSpec)

/-- 'laws.FnExactCoilIds', WHERE WHAT IT READS IS OF BULK AT MOST 1048576: true; the input reads as it did. -/
def fnExactCoilIdsUptoRow : OpenClaim := { program := "ytgohnbhnckgcnaa", sum := "0bfe7d96ef39e1a67df31a98aab6bd6b9185bc832fb5a38ead98b99301340cad", func := "loop.example/steelmill/laws.FnExactCoilIds", spec := "fnExactCoilIds", recurses := true, apart := false, narrowed := true }
def FnExactCoilIdsUptoSaid : Prop := fnExactCoilIdsUptoRow.holds Try.pinned (OpenSpec.upto fnExactCoilIdsSpec)

end Rows
end Go.Proofs.Ytgohnbhnckgcnaa
