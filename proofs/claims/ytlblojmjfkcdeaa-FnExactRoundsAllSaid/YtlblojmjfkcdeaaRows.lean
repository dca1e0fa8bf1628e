/-
  No cell of these rows narrows 'for every input' (looked for: loops, veiled, ifaces, maps, wideKeys, modest, calm, conditions, laid).
  DERIVED. THE GIVEN ROWS OF THIS SEAT. 15 by the template 'for every input the law returns true; each argument reads behind the call as it read before'; 0 by the template 'total and deterministic' (their statements: YtlblojmjfkcdeaaTotals.lean).
  GIVEN WITH THE SEED: the statements are not yours to turn. If you find one false, say at which input.
  Laid BY PROGRAM, IN A SANDBOX (cutbox-rows.mjs): the forced cells as the released guide's own fill.sh prints them over the translation 94defb943a5eec69… (all of the seat's roots in one cut). By AI agents, Wed Nov 11 2026. No macro, syntax, notation, axiom, sorry.
-/
import Derived.Test.YtlblojmjfkcdeaaChecked
import GoSem.Claim
import GoSem.ClaimJoined
import GoSem.ClaimMapViews
import Derived.JoinedTies
import Derived.KernelRfl
namespace Go.Proofs.Ytlblojmjfkcdeaa
/- THE CELL 'sum', in the pinned program and in every row, IS THE sha256 OF THE DUMP (.gsa) THAT YtlblojmjfkcdeaaProg.lean LOADS. Nothing in Lean hashes anything: it is a label: what it is worth is what the hold of that sum in a sandbox is worth. -/
noncomputable def Try.pinned : Pinned := { name := "ytlblojmjfkcdeaa", sum := "94defb943a5eec69a6aa38ca5a89bd98c8fbeb5e0da52d541f21430a483fd832", checked := Try.checked }
namespace Rows
def none {H : Type} : Left H := { results := [], args := [] }

/-- 'laws.FnExactRollMay': WHATEVER THE INPUT: true; the input reads as it did. -/
def fnExactRollMaySpec : ChangeSpec := { name := "fnExactRollMay", fn := fun _ => fun
  | [d1, d2, d3] => { results := [.lit (.bool true)], args := [d1, d2, d3] }
  | _ => none }
def fnExactRollMayRow : OpenClaim := { program := "ytlblojmjfkcdeaa", sum := "94defb943a5eec69a6aa38ca5a89bd98c8fbeb5e0da52d541f21430a483fd832", func := "loop.example/steelmill/laws.FnExactRollMay", spec := "fnExactRollMay", apart := false }
def FnExactRollMaySaid : Prop := fnExactRollMayRow.holds Try.pinned (OpenSpec.ofChange fnExactRollMaySpec)

/-- ITS FALSE NEIGHBOUR: 'it returns false'. Refute it at one input. -/
def fnExactRollMayWrong : ChangeSpec := { name := "fnExactRollMay", fn := fun _ => fun
  | [d1, d2, d3] => { results := [.lit (.bool false)], args := [d1, d2, d3] }
  | _ => none }
def FnExactRollMayWrongFalsely : Prop := fnExactRollMayRow.holds Try.pinned (OpenSpec.ofChange fnExactRollMayWrong)

/-- 'laws.FnExactSpeedOut': WHATEVER THE INPUT: true; the input reads as it did. -/
def fnExactSpeedOutSpec : ChangeSpec := { name := "fnExactSpeedOut", fn := fun _ => fun
  | [d1, d2, d3] => { results := [.lit (.bool true)], args := [d1, d2, d3] }
  | _ => none }
def fnExactSpeedOutRow : OpenClaim := { program := "ytlblojmjfkcdeaa", sum := "94defb943a5eec69a6aa38ca5a89bd98c8fbeb5e0da52d541f21430a483fd832", func := "loop.example/steelmill/laws.FnExactSpeedOut", spec := "fnExactSpeedOut", apart := false }
def FnExactSpeedOutSaid : Prop := fnExactSpeedOutRow.holds Try.pinned (OpenSpec.ofChange fnExactSpeedOutSpec)

/-- ITS FALSE NEIGHBOUR: 'it returns false'. Refute it at one input. -/
def fnExactSpeedOutWrong : ChangeSpec := { name := "fnExactSpeedOut", fn := fun _ => fun
  | [d1, d2, d3] => { results := [.lit (.bool false)], args := [d1, d2, d3] }
  | _ => none }
def FnExactSpeedOutWrongFalsely : Prop := fnExactSpeedOutRow.holds Try.pinned (OpenSpec.ofChange fnExactSpeedOutWrong)

/-- 'laws.FnExactJumpValid': WHATEVER THE INPUT: true; the input reads as it did. -/
def fnExactJumpValidSpec : ChangeSpec := { name := "fnExactJumpValid", fn := fun _ => fun
  | [d] => { results := [.lit (.bool true)], args := [d] }
  | _ => none }
def fnExactJumpValidRow : OpenClaim := { program := "ytlblojmjfkcdeaa", sum := "94defb943a5eec69a6aa38ca5a89bd98c8fbeb5e0da52d541f21430a483fd832", func := "loop.example/steelmill/laws.FnExactJumpValid", spec := "fnExactJumpValid", apart := false }
def FnExactJumpValidSaid : Prop := fnExactJumpValidRow.holds Try.pinned (OpenSpec.ofChange fnExactJumpValidSpec)

/-- ITS FALSE NEIGHBOUR: 'it returns false'. Refute it at one input. -/
def fnExactJumpValidWrong : ChangeSpec := { name := "fnExactJumpValid", fn := fun _ => fun
  | [d] => { results := [.lit (.bool false)], args := [d] }
  | _ => none }
def FnExactJumpValidWrongFalsely : Prop := fnExactJumpValidRow.holds Try.pinned (OpenSpec.ofChange fnExactJumpValidWrong)

/-- 'laws.FnExactSheetValid': WHATEVER THE INPUT: true; the input reads as it did. -/
def fnExactSheetValidSpec : ChangeSpec := { name := "fnExactSheetValid", fn := fun _ => fun
  | [d] => { results := [.lit (.bool true)], args := [d] }
  | _ => none }
def fnExactSheetValidRow : OpenClaim := { program := "ytlblojmjfkcdeaa", sum := "94defb943a5eec69a6aa38ca5a89bd98c8fbeb5e0da52d541f21430a483fd832", func := "loop.example/steelmill/laws.FnExactSheetValid", spec := "fnExactSheetValid", apart := false }
def FnExactSheetValidSaid : Prop := fnExactSheetValidRow.holds Try.pinned (OpenSpec.ofChange fnExactSheetValidSpec)

/-- ITS FALSE NEIGHBOUR: 'it returns false'. Refute it at one input. -/
def fnExactSheetValidWrong : ChangeSpec := { name := "fnExactSheetValid", fn := fun _ => fun
  | [d] => { results := [.lit (.bool false)], args := [d] }
  | _ => none }
def FnExactSheetValidWrongFalsely : Prop := fnExactSheetValidRow.holds Try.pinned (OpenSpec.ofChange fnExactSheetValidWrong)

/-- 'laws.FnExactRollLeast': WHATEVER THE INPUT: true; the input reads as it did. -/
def fnExactRollLeastSpec : ChangeSpec := { name := "fnExactRollLeast", fn := fun _ => fun
  | [d1, d2] => { results := [.lit (.bool true)], args := [d1, d2] }
  | _ => none }
def fnExactRollLeastRow : OpenClaim := { program := "ytlblojmjfkcdeaa", sum := "94defb943a5eec69a6aa38ca5a89bd98c8fbeb5e0da52d541f21430a483fd832", func := "loop.example/steelmill/laws.FnExactRollLeast", spec := "fnExactRollLeast", apart := false }
def FnExactRollLeastSaid : Prop := fnExactRollLeastRow.holds Try.pinned (OpenSpec.ofChange fnExactRollLeastSpec)

/-- ITS FALSE NEIGHBOUR: 'it returns false'. Refute it at one input. -/
def fnExactRollLeastWrong : ChangeSpec := { name := "fnExactRollLeast", fn := fun _ => fun
  | [d1, d2] => { results := [.lit (.bool false)], args := [d1, d2] }
  | _ => none }
def FnExactRollLeastWrongFalsely : Prop := fnExactRollLeastRow.holds Try.pinned (OpenSpec.ofChange fnExactRollLeastWrong)

/-- 'laws.FnExactSpeedSafe': WHATEVER THE INPUT: true; the input reads as it did. -/
def fnExactSpeedSafeSpec : ChangeSpec := { name := "fnExactSpeedSafe", fn := fun _ => fun
  | [d1, d2, d3] => { results := [.lit (.bool true)], args := [d1, d2, d3] }
  | _ => none }
def fnExactSpeedSafeRow : OpenClaim := { program := "ytlblojmjfkcdeaa", sum := "94defb943a5eec69a6aa38ca5a89bd98c8fbeb5e0da52d541f21430a483fd832", func := "loop.example/steelmill/laws.FnExactSpeedSafe", spec := "fnExactSpeedSafe", apart := false }
def FnExactSpeedSafeSaid : Prop := fnExactSpeedSafeRow.holds Try.pinned (OpenSpec.ofChange fnExactSpeedSafeSpec)

/-- ITS FALSE NEIGHBOUR: 'it returns false'. Refute it at one input. -/
def fnExactSpeedSafeWrong : ChangeSpec := { name := "fnExactSpeedSafe", fn := fun _ => fun
  | [d1, d2, d3] => { results := [.lit (.bool false)], args := [d1, d2, d3] }
  | _ => none }
def FnExactSpeedSafeWrongFalsely : Prop := fnExactSpeedSafeRow.holds Try.pinned (OpenSpec.ofChange fnExactSpeedSafeWrong)

/-- 'laws.FnExactJumpMay': WHATEVER THE INPUT: true; the input reads as it did. -/
def fnExactJumpMaySpec : ChangeSpec := { name := "fnExactJumpMay", fn := fun _ => fun
  | [d1, d2, d3] => { results := [.lit (.bool true)], args := [d1, d2, d3] }
  | _ => none }
def fnExactJumpMayRow : OpenClaim := { program := "ytlblojmjfkcdeaa", sum := "94defb943a5eec69a6aa38ca5a89bd98c8fbeb5e0da52d541f21430a483fd832", func := "loop.example/steelmill/laws.FnExactJumpMay", spec := "fnExactJumpMay", apart := false }
def FnExactJumpMaySaid : Prop := fnExactJumpMayRow.holds Try.pinned (OpenSpec.ofChange fnExactJumpMaySpec)

/-- ITS FALSE NEIGHBOUR: 'it returns false'. Refute it at one input. -/
def fnExactJumpMayWrong : ChangeSpec := { name := "fnExactJumpMay", fn := fun _ => fun
  | [d1, d2, d3] => { results := [.lit (.bool false)], args := [d1, d2, d3] }
  | _ => none }
def FnExactJumpMayWrongFalsely : Prop := fnExactJumpMayRow.holds Try.pinned (OpenSpec.ofChange fnExactJumpMayWrong)

/-- 'laws.FnExactRollsOk': WHATEVER THE INPUT: true; the input reads as it did. -/
def fnExactRollsOkSpec : ChangeSpec := { name := "fnExactRollsOk", fn := fun _ => fun
  | [d1, d2, d3, d4] => { results := [.lit (.bool true)], args := [d1, d2, d3, d4] }
  | _ => none }
def fnExactRollsOkRow : OpenClaim := { program := "ytlblojmjfkcdeaa", sum := "94defb943a5eec69a6aa38ca5a89bd98c8fbeb5e0da52d541f21430a483fd832", func := "loop.example/steelmill/laws.FnExactRollsOk", spec := "fnExactRollsOk", apart := false }
def FnExactRollsOkSaid : Prop := fnExactRollsOkRow.holds Try.pinned (OpenSpec.ofChange fnExactRollsOkSpec)

/-- ITS FALSE NEIGHBOUR: 'it returns false'. Refute it at one input. -/
def fnExactRollsOkWrong : ChangeSpec := { name := "fnExactRollsOk", fn := fun _ => fun
  | [d1, d2, d3, d4] => { results := [.lit (.bool false)], args := [d1, d2, d3, d4] }
  | _ => none }
def FnExactRollsOkWrongFalsely : Prop := fnExactRollsOkRow.holds Try.pinned (OpenSpec.ofChange fnExactRollsOkWrong)

/-- 'laws.FnExactRollsFew': WHATEVER THE INPUT: true; the input reads as it did. -/
def fnExactRollsFewSpec : ChangeSpec := { name := "fnExactRollsFew", fn := fun _ => fun
  | [d1, d2, d3] => { results := [.lit (.bool true)], args := [d1, d2, d3] }
  | _ => none }
def fnExactRollsFewRow : OpenClaim := { program := "ytlblojmjfkcdeaa", sum := "94defb943a5eec69a6aa38ca5a89bd98c8fbeb5e0da52d541f21430a483fd832", func := "loop.example/steelmill/laws.FnExactRollsFew", spec := "fnExactRollsFew", apart := false }
def FnExactRollsFewSaid : Prop := fnExactRollsFewRow.holds Try.pinned (OpenSpec.ofChange fnExactRollsFewSpec)

/-- ITS FALSE NEIGHBOUR: 'it returns false'. Refute it at one input. -/
def fnExactRollsFewWrong : ChangeSpec := { name := "fnExactRollsFew", fn := fun _ => fun
  | [d1, d2, d3] => { results := [.lit (.bool false)], args := [d1, d2, d3] }
  | _ => none }
def FnExactRollsFewWrongFalsely : Prop := fnExactRollsFewRow.holds Try.pinned (OpenSpec.ofChange fnExactRollsFewWrong)

/-- 'laws.FnExactSheetsValid': WHATEVER THE INPUT: true; the input reads as it did. -/
def fnExactSheetsValidSpec : ChangeSpec := { name := "fnExactSheetsValid", fn := fun _ => fun
  | [d] => { results := [.lit (.bool true)], args := [d] }
  | _ => none }
def fnExactSheetsValidRow : OpenClaim := { program := "ytlblojmjfkcdeaa", sum := "94defb943a5eec69a6aa38ca5a89bd98c8fbeb5e0da52d541f21430a483fd832", func := "loop.example/steelmill/laws.FnExactSheetsValid", spec := "fnExactSheetsValid", apart := false }
def FnExactSheetsValidSaid : Prop := fnExactSheetsValidRow.holds Try.pinned (OpenSpec.ofChange fnExactSheetsValidSpec)

/-- ITS FALSE NEIGHBOUR: 'it returns false'. Refute it at one input. -/
def fnExactSheetsValidWrong : ChangeSpec := { name := "fnExactSheetsValid", fn := fun _ => fun
  | [d] => { results := [.lit (.bool false)], args := [d] }
  | _ => none }
def FnExactSheetsValidWrongFalsely : Prop := fnExactSheetsValidRow.holds Try.pinned (OpenSpec.ofChange fnExactSheetsValidWrong)

/-- 'laws.FnExactRollsFor': WHATEVER THE INPUT: true; the input reads as it did. -/
def fnExactRollsForSpec : ChangeSpec := { name := "fnExactRollsFor", fn := fun _ => fun
  | [d1, d2, d3] => { results := [.lit (.bool true)], args := [d1, d2, d3] }
  | _ => none }
def fnExactRollsForRow : OpenClaim := { program := "ytlblojmjfkcdeaa", sum := "94defb943a5eec69a6aa38ca5a89bd98c8fbeb5e0da52d541f21430a483fd832", func := "loop.example/steelmill/laws.FnExactRollsFor", spec := "fnExactRollsFor", apart := false }
def FnExactRollsForSaid : Prop := fnExactRollsForRow.holds Try.pinned (OpenSpec.ofChange fnExactRollsForSpec)

/-- ITS FALSE NEIGHBOUR: 'it returns false'. Refute it at one input. -/
def fnExactRollsForWrong : ChangeSpec := { name := "fnExactRollsFor", fn := fun _ => fun
  | [d1, d2, d3] => { results := [.lit (.bool false)], args := [d1, d2, d3] }
  | _ => none }
def FnExactRollsForWrongFalsely : Prop := fnExactRollsForRow.holds Try.pinned (OpenSpec.ofChange fnExactRollsForWrong)

/-- 'laws.FnExactRoundOk': WHATEVER THE INPUT: true; the input reads as it did. -/
def fnExactRoundOkSpec : ChangeSpec := { name := "fnExactRoundOk", fn := fun _ => fun
  | [d1, d2, d3] => { results := [.lit (.bool true)], args := [d1, d2, d3] }
  | _ => none }
def fnExactRoundOkRow : OpenClaim := { program := "ytlblojmjfkcdeaa", sum := "94defb943a5eec69a6aa38ca5a89bd98c8fbeb5e0da52d541f21430a483fd832", func := "loop.example/steelmill/laws.FnExactRoundOk", spec := "fnExactRoundOk", apart := false }
def FnExactRoundOkSaid : Prop := fnExactRoundOkRow.holds Try.pinned (OpenSpec.ofChange fnExactRoundOkSpec)

/-- ITS FALSE NEIGHBOUR: 'it returns false'. Refute it at one input. -/
def fnExactRoundOkWrong : ChangeSpec := { name := "fnExactRoundOk", fn := fun _ => fun
  | [d1, d2, d3] => { results := [.lit (.bool false)], args := [d1, d2, d3] }
  | _ => none }
def FnExactRoundOkWrongFalsely : Prop := fnExactRoundOkRow.holds Try.pinned (OpenSpec.ofChange fnExactRoundOkWrong)

/-- 'laws.FnExactRoundMost': WHATEVER THE INPUT: true; the input reads as it did. -/
def fnExactRoundMostSpec : ChangeSpec := { name := "fnExactRoundMost", fn := fun _ => fun
  | [d1, d2] => { results := [.lit (.bool true)], args := [d1, d2] }
  | _ => none }
def fnExactRoundMostRow : OpenClaim := { program := "ytlblojmjfkcdeaa", sum := "94defb943a5eec69a6aa38ca5a89bd98c8fbeb5e0da52d541f21430a483fd832", func := "loop.example/steelmill/laws.FnExactRoundMost", spec := "fnExactRoundMost", unfollowed := true, recurses := true, apart := false }
def FnExactRoundMostSaid : Prop := fnExactRoundMostRow.holds Try.pinned (OpenSpec.ofChange fnExactRoundMostSpec)

/-- ITS FALSE NEIGHBOUR: 'it returns false'. Refute it at one input. -/
def fnExactRoundMostWrong : ChangeSpec := { name := "fnExactRoundMost", fn := fun _ => fun
  | [d1, d2] => { results := [.lit (.bool false)], args := [d1, d2] }
  | _ => none }
def FnExactRoundMostWrongFalsely : Prop := fnExactRoundMostRow.holds Try.pinned (OpenSpec.ofChange fnExactRoundMostWrong)

/-- 'laws.FnExactRoundBest': WHATEVER THE INPUT: true; the input reads as it did. -/
def fnExactRoundBestSpec : ChangeSpec := { name := "fnExactRoundBest", fn := fun _ => fun
  | [d1, d2] => { results := [.lit (.bool true)], args := [d1, d2] }
  | _ => none }
def fnExactRoundBestRow : OpenClaim := { program := "ytlblojmjfkcdeaa", sum := "94defb943a5eec69a6aa38ca5a89bd98c8fbeb5e0da52d541f21430a483fd832", func := "loop.example/steelmill/laws.FnExactRoundBest", spec := "fnExactRoundBest", unfollowed := true, recurses := true, apart := false }
def FnExactRoundBestSaid : Prop := fnExactRoundBestRow.holds Try.pinned (OpenSpec.ofChange fnExactRoundBestSpec)

/-- ITS FALSE NEIGHBOUR: 'it returns false'. Refute it at one input. -/
def fnExactRoundBestWrong : ChangeSpec := { name := "fnExactRoundBest", fn := fun _ => fun
  | [d1, d2] => { results := [.lit (.bool false)], args := [d1, d2] }
  | _ => none }
def FnExactRoundBestWrongFalsely : Prop := fnExactRoundBestRow.holds Try.pinned (OpenSpec.ofChange fnExactRoundBestWrong)

/-- 'laws.FnExactRoundsAll': WHATEVER THE INPUT: true; the input reads as it did. -/
def fnExactRoundsAllSpec : ChangeSpec := { name := "fnExactRoundsAll", fn := fun _ => fun
  | [d1, d2] => { results := [.lit (.bool true)], args := [d1, d2] }
  | _ => none }
def fnExactRoundsAllRow : OpenClaim := { program := "ytlblojmjfkcdeaa", sum := "94defb943a5eec69a6aa38ca5a89bd98c8fbeb5e0da52d541f21430a483fd832", func := "loop.example/steelmill/laws.FnExactRoundsAll", spec := "fnExactRoundsAll", unfollowed := true, recurses := true, apart := false }
def FnExactRoundsAllSaid : Prop := fnExactRoundsAllRow.holds Try.pinned (OpenSpec.ofChange fnExactRoundsAllSpec)

/-- ITS FALSE NEIGHBOUR: 'it returns false'. Refute it at one input. -/
def fnExactRoundsAllWrong : ChangeSpec := { name := "fnExactRoundsAll", fn := fun _ => fun
  | [d1, d2] => { results := [.lit (.bool false)], args := [d1, d2] }
  | _ => none }
def FnExactRoundsAllWrongFalsely : Prop := fnExactRoundsAllRow.holds Try.pinned (OpenSpec.ofChange fnExactRoundsAllWrong)

/- THE SECOND FORM. 'bulk': how many values and letters a reading holds, each counted each time it is reached (what is shared counts as often as it is met; a slice's spare places count too). A statement '..UptoSaid' is the law's where the arguments, and the package variables that the reading takes, are together of bulk at most 1048576: NARROWER than '..Said'. Prove '..Said' where nothing that the law and all that it calls make is longer than what came in: it says more and counts as full. Else prove '..UptoSaid'. A law counts once. -/
mutual
def uptoBulk {H : Type} : DataW H → Nat
  | .lit (.string bytes) => bytes.length + 1
  | .lit _ => 1
  | .nil => 1
  | .ptr d => uptoBulk d + 1
  | .slice elems spare => uptoBulkAll elems + uptoBulkAll spare + 1
  | .agg parts => uptoBulkAll parts + 1
  | .iface _ d => uptoBulk d + 1
  | .map entries => uptoBulkEntries entries + 1
  | .held _ => 1
def uptoBulkAll {H : Type} : List (DataW H) → Nat
  | [] => 0
  | d :: r => uptoBulk d + uptoBulkAll r
def uptoBulkEntries {H : Type} : List (Lit × DataW H) → Nat
  | [] => 0
  | x :: r => uptoBulkEntry x + uptoBulkEntries r
def uptoBulkEntry {H : Type} : Lit × DataW H → Nat
  | (.string bytes, d) => bytes.length + uptoBulk d + 1
  | (_, d) => uptoBulk d + 1
 end
def uptoSmall : (H : Type) → List (DataW H) → Bool := fun _ ds => decide (uptoBulkAll ds ≤ 1048576)
def OpenSpec.upto (s : _root_.Go.ChangeSpec) : _root_.Go.OpenSpec := { _root_.Go.OpenSpec.ofChange s with cond := some uptoSmall }

/-- 'laws.FnExactRollMay', WHERE WHAT IT READS IS OF BULK AT MOST 1048576: true; the input reads as it did. -/
def fnExactRollMayUptoRow : OpenClaim := { program := "ytlblojmjfkcdeaa", sum := "94defb943a5eec69a6aa38ca5a89bd98c8fbeb5e0da52d541f21430a483fd832", func := "loop.example/steelmill/laws.FnExactRollMay", spec := "fnExactRollMay", apart := false, narrowed := true }
def FnExactRollMayUptoSaid : Prop := fnExactRollMayUptoRow.holds Try.pinned (OpenSpec.upto fnExactRollMaySpec)

/-- 'laws.FnExactSpeedOut', WHERE WHAT IT READS IS OF BULK AT MOST 1048576: true; the input reads as it did. -/
def fnExactSpeedOutUptoRow : OpenClaim := { program := "ytlblojmjfkcdeaa", sum := "94defb943a5eec69a6aa38ca5a89bd98c8fbeb5e0da52d541f21430a483fd832", func := "loop.example/steelmill/laws.FnExactSpeedOut", spec := "fnExactSpeedOut", apart := false, narrowed := true }
def FnExactSpeedOutUptoSaid : Prop := fnExactSpeedOutUptoRow.holds Try.pinned (OpenSpec.upto fnExactSpeedOutSpec)

/-- 'laws.FnExactJumpValid', WHERE WHAT IT READS IS OF BULK AT MOST 1048576: true; the input reads as it did. -/
def fnExactJumpValidUptoRow : OpenClaim := { program := "ytlblojmjfkcdeaa", sum := "94defb943a5eec69a6aa38ca5a89bd98c8fbeb5e0da52d541f21430a483fd832", func := "loop.example/steelmill/laws.FnExactJumpValid", spec := "fnExactJumpValid", apart := false, narrowed := true }
def FnExactJumpValidUptoSaid : Prop := fnExactJumpValidUptoRow.holds Try.pinned (OpenSpec.upto fnExactJumpValidSpec)

/-- 'laws.FnExactSheetValid', WHERE WHAT IT READS IS OF BULK AT MOST 1048576: true; the input reads as it did. -/
def fnExactSheetValidUptoRow : OpenClaim := { program := "ytlblojmjfkcdeaa", sum := "94defb943a5eec69a6aa38ca5a89bd98c8fbeb5e0da52d541f21430a483fd832", func := "loop.example/steelmill/laws.FnExactSheetValid", spec := "fnExactSheetValid", apart := false, narrowed := true }
def FnExactSheetValidUptoSaid : Prop := fnExactSheetValidUptoRow.holds Try.pinned (OpenSpec.upto fnExactSheetValidSpec)

/-- 'laws.FnExactRollLeast', WHERE WHAT IT READS IS OF BULK AT MOST 1048576: true; the input reads as it did. -/
def fnExactRollLeastUptoRow : OpenClaim := { program := "ytlblojmjfkcdeaa", sum := "94defb943a5eec69a6aa38ca5a89bd98c8fbeb5e0da52d541f21430a483fd832", func := "loop.example/steelmill/laws.FnExactRollLeast", spec := "fnExactRollLeast", apart := false, narrowed := true }
def FnExactRollLeastUptoSaid : Prop := fnExactRollLeastUptoRow.holds Try.pinned (OpenSpec.upto fnExactRollLeastSpec)

/-- 'laws.FnExactSpeedSafe', WHERE WHAT IT READS IS OF BULK AT MOST 1048576: true; the input reads as it did. -/
def fnExactSpeedSafeUptoRow : OpenClaim := { program := "ytlblojmjfkcdeaa", sum := "94defb943a5eec69a6aa38ca5a89bd98c8fbeb5e0da52d541f21430a483fd832", func := "loop.example/steelmill/laws.FnExactSpeedSafe", spec := "fnExactSpeedSafe", apart := false, narrowed := true }
def FnExactSpeedSafeUptoSaid : Prop := fnExactSpeedSafeUptoRow.holds Try.pinned (OpenSpec.upto fnExactSpeedSafeSpec)

/-- 'laws.FnExactJumpMay', WHERE WHAT IT READS IS OF BULK AT MOST 1048576: true; the input reads as it did. -/
def fnExactJumpMayUptoRow : OpenClaim := { program := "ytlblojmjfkcdeaa", sum := "94defb943a5eec69a6aa38ca5a89bd98c8fbeb5e0da52d541f21430a483fd832", func := "loop.example/steelmill/laws.FnExactJumpMay", spec := "fnExactJumpMay", apart := false, narrowed := true }
def FnExactJumpMayUptoSaid : Prop := fnExactJumpMayUptoRow.holds Try.pinned (OpenSpec.upto fnExactJumpMaySpec)

/-- 'laws.FnExactRollsOk', WHERE WHAT IT READS IS OF BULK AT MOST 1048576: true; the input reads as it did. -/
def fnExactRollsOkUptoRow : OpenClaim := { program := "ytlblojmjfkcdeaa", sum := "94defb943a5eec69a6aa38ca5a89bd98c8fbeb5e0da52d541f21430a483fd832", func := "loop.example/steelmill/laws.FnExactRollsOk", spec := "fnExactRollsOk", apart := false, narrowed := true }
def FnExactRollsOkUptoSaid : Prop := fnExactRollsOkUptoRow.holds Try.pinned (OpenSpec.upto fnExactRollsOkSpec)

/-- 'laws.FnExactRollsFew', WHERE WHAT IT READS IS OF BULK AT MOST 1048576: true; the input reads as it did. -/
def fnExactRollsFewUptoRow : OpenClaim := { program := "ytlblojmjfkcdeaa", sum := "94defb943a5eec69a6aa38ca5a89bd98c8fbeb5e0da52d541f21430a483fd832", func := "loop.example/steelmill/laws.FnExactRollsFew", spec := "fnExactRollsFew", apart := false, narrowed := true }
def FnExactRollsFewUptoSaid : Prop := fnExactRollsFewUptoRow.holds Try.pinned (OpenSpec.upto fnExactRollsFewSpec)

/-- 'laws.FnExactSheetsValid', WHERE WHAT IT READS IS OF BULK AT MOST 1048576: true; the input reads as it did. -/
def fnExactSheetsValidUptoRow : OpenClaim := { program := "ytlblojmjfkcdeaa", sum := "94defb943a5eec69a6aa38ca5a89bd98c8fbeb5e0da52d541f21430a483fd832", func := "loop.example/steelmill/laws.FnExactSheetsValid", spec := "fnExactSheetsValid", apart := false, narrowed := true }
def FnExactSheetsValidUptoSaid : Prop := fnExactSheetsValidUptoRow.holds Try.pinned (OpenSpec.upto fnExactSheetsValidSpec)

/-- 'laws.FnExactRollsFor', WHERE WHAT IT READS IS OF BULK AT MOST 1048576: true; the input reads as it did. -/
def fnExactRollsForUptoRow : OpenClaim := { program := "ytlblojmjfkcdeaa", sum := "94defb943a5eec69a6aa38ca5a89bd98c8fbeb5e0da52d541f21430a483fd832", func := "loop.example/steelmill/laws.FnExactRollsFor", spec := "fnExactRollsFor", apart := false, narrowed := true }
def FnExactRollsForUptoSaid : Prop := fnExactRollsForUptoRow.holds Try.pinned (OpenSpec.upto fnExactRollsForSpec)

/-- 'laws.FnExactRoundOk', WHERE WHAT IT READS IS OF BULK AT MOST 1048576: true; the input reads as it did. -/
def fnExactRoundOkUptoRow : OpenClaim := { program := "ytlblojmjfkcdeaa", sum := "94defb943a5eec69a6aa38ca5a89bd98c8fbeb5e0da52d541f21430a483fd832", func := "loop.example/steelmill/laws.FnExactRoundOk", spec := "fnExactRoundOk", apart := false, narrowed := true }
def FnExactRoundOkUptoSaid : Prop := fnExactRoundOkUptoRow.holds Try.pinned (OpenSpec.upto fnExactRoundOkSpec)

/-- 'laws.FnExactRoundMost', WHERE WHAT IT READS IS OF BULK AT MOST 1048576: true; the input reads as it did. -/
def fnExactRoundMostUptoRow : OpenClaim := { program := "ytlblojmjfkcdeaa", sum := "94defb943a5eec69a6aa38ca5a89bd98c8fbeb5e0da52d541f21430a483fd832", func := "loop.example/steelmill/laws.FnExactRoundMost", spec := "fnExactRoundMost", unfollowed := true, recurses := true, apart := false, narrowed := true }
def FnExactRoundMostUptoSaid : Prop := fnExactRoundMostUptoRow.holds Try.pinned (OpenSpec.upto fnExactRoundMostSpec)

/-- 'laws.FnExactRoundBest', WHERE WHAT IT READS IS OF BULK AT MOST 1048576: true; the input reads as it did. -/
def fnExactRoundBestUptoRow : OpenClaim := { program := "ytlblojmjfkcdeaa", sum := "94defb943a5eec69a6aa38ca5a89bd98c8fbeb5e0da52d541f21430a483fd832", func := "loop.example/steelmill/laws.FnExactRoundBest", spec := "fnExactRoundBest", unfollowed := true, recurses := true, apart := false, narrowed := true }
def FnExactRoundBestUptoSaid : Prop := fnExactRoundBestUptoRow.holds Try.pinned (OpenSpec.upto fnExactRoundBestSpec)

/-- 'laws.FnExactRoundsAll', WHERE WHAT IT READS IS OF BULK AT MOST 1048576: true; the input reads as it did. -/
def fnExactRoundsAllUptoRow : OpenClaim := { program := "ytlblojmjfkcdeaa", sum := "94defb943a5eec69a6aa38ca5a89bd98c8fbeb5e0da52d541f21430a483fd832", func := "loop.example/steelmill/laws.FnExactRoundsAll", spec := "fnExactRoundsAll", unfollowed := true, recurses := true, apart := false, narrowed := true }
def FnExactRoundsAllUptoSaid : Prop := fnExactRoundsAllUptoRow.holds Try.pinned (OpenSpec.upto fnExactRoundsAllSpec)

end Rows
end Go.Proofs.Ytlblojmjfkcdeaa
