/-
  NARROWER THAN 'FOR EVERY INPUT', by the rows' own cells (each row's printed sentence says how): FnSheetValid: laid · FnRollMay: laid · FnJumpValid: laid · FnSpeedOut: laid · FnRollLeast: laid · FnJumpMay: laid · FnSpeedSafe: laid · FnSheetsValid: laid · FnRollsFew: laid · FnRollsFor: laid · FnRollsOk: laid · FnRoundMost: laid · FnRoundBest: laid · FnRoundOk: laid · FnRoundsAll: laid · FnSplitBest: laid.
  DERIVED. THE GIVEN ROWS OF THIS SEAT. 16 by the template 'for every input the law returns true; each argument reads behind the call as it read before'; 0 by the template 'total and deterministic' (their statements: YtcdoopccmljaoaaDoorTotals.lean).
  GIVEN WITH THE SEED: the statements are not yours to turn. If you find one false, say at which input.
  Laid BY PROGRAM, IN A SANDBOX (cutbox-rows.mjs): the forced cells as the released guide's own fill.sh prints them over the translation 110b64dfdf1039b7… (all of the seat's roots in one cut). By AI agents, Wed Nov 11 2026. No macro, syntax, notation, axiom, sorry.
-/
import Derived.Test.YtcdoopccmljaoaaDoorChecked
import GoSem.Claim
import GoSem.ClaimJoined
import GoSem.ClaimMapViews
import Derived.JoinedTies
import Derived.KernelRfl
namespace Go.Proofs.YtcdoopccmljaoaaDoor
/- THE CELL 'sum', in the pinned program and in every row, IS THE sha256 OF THE DUMP (.gsa) THAT YtcdoopccmljaoaaDoorProg.lean LOADS. Nothing in Lean hashes anything: it is a label: what it is worth is what the hold of that sum in a sandbox is worth. -/
noncomputable def Tryd.pinned : Pinned := { name := "ytcdoopccmljaoaadoor", sum := "110b64dfdf1039b75100cca154501f3859c1c9149aa2ed5090600ba8728ec573", checked := Tryd.checked }
namespace Rows
def none {H : Type} : Left H := { results := [], args := [] }

/- WHAT THE LISTED PACKAGE-LEVEL VARIABLES READ AS WHEN THE CALL BEGINS. Each datum BY PROGRAM (the guide's laid-datum.mjs) off the statement by which the dump's own 'gosem.cut.vars' lays the variable. In a bare row this is a premise. The card (YtcdoopccmljaoaaDoorCards.lean) ties it to the program's text. -/
def laid_math_bits_deBruijn32tab {H : Type} : DataW H := .agg [.lit (.int .u8 0), .lit (.int .u8 1), .lit (.int .u8 28), .lit (.int .u8 2), .lit (.int .u8 29), .lit (.int .u8 14), .lit (.int .u8 24), .lit (.int .u8 3), .lit (.int .u8 30), .lit (.int .u8 22), .lit (.int .u8 20), .lit (.int .u8 15), .lit (.int .u8 25), .lit (.int .u8 17), .lit (.int .u8 4), .lit (.int .u8 8), .lit (.int .u8 31), .lit (.int .u8 27), .lit (.int .u8 13), .lit (.int .u8 23), .lit (.int .u8 21), .lit (.int .u8 19), .lit (.int .u8 16), .lit (.int .u8 7), .lit (.int .u8 26), .lit (.int .u8 12), .lit (.int .u8 18), .lit (.int .u8 6), .lit (.int .u8 11), .lit (.int .u8 5), .lit (.int .u8 10), .lit (.int .u8 9)]
def laid_math_bits_deBruijn64tab {H : Type} : DataW H := .agg [.lit (.int .u8 0), .lit (.int .u8 1), .lit (.int .u8 56), .lit (.int .u8 2), .lit (.int .u8 57), .lit (.int .u8 49), .lit (.int .u8 28), .lit (.int .u8 3), .lit (.int .u8 61), .lit (.int .u8 58), .lit (.int .u8 42), .lit (.int .u8 50), .lit (.int .u8 38), .lit (.int .u8 29), .lit (.int .u8 17), .lit (.int .u8 4), .lit (.int .u8 62), .lit (.int .u8 47), .lit (.int .u8 59), .lit (.int .u8 36), .lit (.int .u8 45), .lit (.int .u8 43), .lit (.int .u8 51), .lit (.int .u8 22), .lit (.int .u8 53), .lit (.int .u8 39), .lit (.int .u8 33), .lit (.int .u8 30), .lit (.int .u8 24), .lit (.int .u8 18), .lit (.int .u8 12), .lit (.int .u8 5), .lit (.int .u8 63), .lit (.int .u8 55), .lit (.int .u8 48), .lit (.int .u8 27), .lit (.int .u8 60), .lit (.int .u8 41), .lit (.int .u8 37), .lit (.int .u8 16), .lit (.int .u8 46), .lit (.int .u8 35), .lit (.int .u8 44), .lit (.int .u8 21), .lit (.int .u8 52), .lit (.int .u8 32), .lit (.int .u8 23), .lit (.int .u8 11), .lit (.int .u8 54), .lit (.int .u8 26), .lit (.int .u8 40), .lit (.int .u8 15), .lit (.int .u8 34), .lit (.int .u8 20), .lit (.int .u8 31), .lit (.int .u8 10), .lit (.int .u8 25), .lit (.int .u8 14), .lit (.int .u8 19), .lit (.int .u8 9), .lit (.int .u8 13), .lit (.int .u8 8), .lit (.int .u8 7), .lit (.int .u8 6)]
def laid_internal_strconv_uint64pow10 {H : Type} : DataW H := .agg [.lit (.int .u64 1), .lit (.int .u64 10), .lit (.int .u64 100), .lit (.int .u64 1000), .lit (.int .u64 10000), .lit (.int .u64 100000), .lit (.int .u64 1000000), .lit (.int .u64 10000000), .lit (.int .u64 100000000), .lit (.int .u64 1000000000), .lit (.int .u64 10000000000), .lit (.int .u64 100000000000), .lit (.int .u64 1000000000000), .lit (.int .u64 10000000000000), .lit (.int .u64 100000000000000), .lit (.int .u64 1000000000000000), .lit (.int .u64 10000000000000000), .lit (.int .u64 100000000000000000), .lit (.int .u64 1000000000000000000), .lit (.int .u64 10000000000000000000)]

/-- 'laws.FnSheetValid': WHATEVER THE INPUT: true; the input reads as it did. -/
def fnSheetValidSpec : ChangeSpec := { name := "fnSheetValid", fn := fun _ => fun
  | [d] => { results := [.lit (.bool true)], args := [d] }
  | _ => none }
def fnSheetValidRow : OpenClaim := { program := "ytcdoopccmljaoaadoor", sum := "110b64dfdf1039b75100cca154501f3859c1c9149aa2ed5090600ba8728ec573", func := "loop.example/steelmill/laws.FnSheetValid", spec := "fnSheetValid", named := ["internal/strconv.uint64pow10", "math/bits.deBruijn32tab", "math/bits.deBruijn64tab"], apart := false, laid := [("math/bits.deBruijn32tab", laid_math_bits_deBruijn32tab), ("math/bits.deBruijn64tab", laid_math_bits_deBruijn64tab), ("internal/strconv.uint64pow10", laid_internal_strconv_uint64pow10)] }
def FnSheetValidSaid : Prop := fnSheetValidRow.holds Tryd.pinned (OpenSpec.ofChange fnSheetValidSpec)

/-- ITS FALSE NEIGHBOUR: 'it returns false'. Refute it at one input. -/
def fnSheetValidWrong : ChangeSpec := { name := "fnSheetValid", fn := fun _ => fun
  | [d] => { results := [.lit (.bool false)], args := [d] }
  | _ => none }
def FnSheetValidWrongFalsely : Prop := fnSheetValidRow.holds Tryd.pinned (OpenSpec.ofChange fnSheetValidWrong)

/-- 'laws.FnRollMay': WHATEVER THE INPUT: true; the input reads as it did. -/
def fnRollMaySpec : ChangeSpec := { name := "fnRollMay", fn := fun _ => fun
  | [d] => { results := [.lit (.bool true)], args := [d] }
  | _ => none }
def fnRollMayRow : OpenClaim := { program := "ytcdoopccmljaoaadoor", sum := "110b64dfdf1039b75100cca154501f3859c1c9149aa2ed5090600ba8728ec573", func := "loop.example/steelmill/laws.FnRollMay", spec := "fnRollMay", named := ["internal/strconv.uint64pow10", "math/bits.deBruijn32tab", "math/bits.deBruijn64tab"], apart := false, laid := [("math/bits.deBruijn32tab", laid_math_bits_deBruijn32tab), ("math/bits.deBruijn64tab", laid_math_bits_deBruijn64tab), ("internal/strconv.uint64pow10", laid_internal_strconv_uint64pow10)] }
def FnRollMaySaid : Prop := fnRollMayRow.holds Tryd.pinned (OpenSpec.ofChange fnRollMaySpec)

/-- ITS FALSE NEIGHBOUR: 'it returns false'. Refute it at one input. -/
def fnRollMayWrong : ChangeSpec := { name := "fnRollMay", fn := fun _ => fun
  | [d] => { results := [.lit (.bool false)], args := [d] }
  | _ => none }
def FnRollMayWrongFalsely : Prop := fnRollMayRow.holds Tryd.pinned (OpenSpec.ofChange fnRollMayWrong)

/-- 'laws.FnJumpValid': WHATEVER THE INPUT: true; the input reads as it did. -/
def fnJumpValidSpec : ChangeSpec := { name := "fnJumpValid", fn := fun _ => fun
  | [d] => { results := [.lit (.bool true)], args := [d] }
  | _ => none }
def fnJumpValidRow : OpenClaim := { program := "ytcdoopccmljaoaadoor", sum := "110b64dfdf1039b75100cca154501f3859c1c9149aa2ed5090600ba8728ec573", func := "loop.example/steelmill/laws.FnJumpValid", spec := "fnJumpValid", named := ["internal/strconv.uint64pow10", "math/bits.deBruijn32tab", "math/bits.deBruijn64tab"], apart := false, laid := [("math/bits.deBruijn32tab", laid_math_bits_deBruijn32tab), ("math/bits.deBruijn64tab", laid_math_bits_deBruijn64tab), ("internal/strconv.uint64pow10", laid_internal_strconv_uint64pow10)] }
def FnJumpValidSaid : Prop := fnJumpValidRow.holds Tryd.pinned (OpenSpec.ofChange fnJumpValidSpec)

/-- ITS FALSE NEIGHBOUR: 'it returns false'. Refute it at one input. -/
def fnJumpValidWrong : ChangeSpec := { name := "fnJumpValid", fn := fun _ => fun
  | [d] => { results := [.lit (.bool false)], args := [d] }
  | _ => none }
def FnJumpValidWrongFalsely : Prop := fnJumpValidRow.holds Tryd.pinned (OpenSpec.ofChange fnJumpValidWrong)

/-- 'laws.FnSpeedOut': WHATEVER THE INPUT: true; the input reads as it did. -/
def fnSpeedOutSpec : ChangeSpec := { name := "fnSpeedOut", fn := fun _ => fun
  | [d] => { results := [.lit (.bool true)], args := [d] }
  | _ => none }
def fnSpeedOutRow : OpenClaim := { program := "ytcdoopccmljaoaadoor", sum := "110b64dfdf1039b75100cca154501f3859c1c9149aa2ed5090600ba8728ec573", func := "loop.example/steelmill/laws.FnSpeedOut", spec := "fnSpeedOut", named := ["internal/strconv.uint64pow10", "math/bits.deBruijn32tab", "math/bits.deBruijn64tab"], apart := false, laid := [("math/bits.deBruijn32tab", laid_math_bits_deBruijn32tab), ("math/bits.deBruijn64tab", laid_math_bits_deBruijn64tab), ("internal/strconv.uint64pow10", laid_internal_strconv_uint64pow10)] }
def FnSpeedOutSaid : Prop := fnSpeedOutRow.holds Tryd.pinned (OpenSpec.ofChange fnSpeedOutSpec)

/-- ITS FALSE NEIGHBOUR: 'it returns false'. Refute it at one input. -/
def fnSpeedOutWrong : ChangeSpec := { name := "fnSpeedOut", fn := fun _ => fun
  | [d] => { results := [.lit (.bool false)], args := [d] }
  | _ => none }
def FnSpeedOutWrongFalsely : Prop := fnSpeedOutRow.holds Tryd.pinned (OpenSpec.ofChange fnSpeedOutWrong)

/-- 'laws.FnRollLeast': WHATEVER THE INPUT: true; the input reads as it did. -/
def fnRollLeastSpec : ChangeSpec := { name := "fnRollLeast", fn := fun _ => fun
  | [d] => { results := [.lit (.bool true)], args := [d] }
  | _ => none }
def fnRollLeastRow : OpenClaim := { program := "ytcdoopccmljaoaadoor", sum := "110b64dfdf1039b75100cca154501f3859c1c9149aa2ed5090600ba8728ec573", func := "loop.example/steelmill/laws.FnRollLeast", spec := "fnRollLeast", named := ["internal/strconv.uint64pow10", "math/bits.deBruijn32tab", "math/bits.deBruijn64tab"], apart := false, laid := [("math/bits.deBruijn32tab", laid_math_bits_deBruijn32tab), ("math/bits.deBruijn64tab", laid_math_bits_deBruijn64tab), ("internal/strconv.uint64pow10", laid_internal_strconv_uint64pow10)] }
def FnRollLeastSaid : Prop := fnRollLeastRow.holds Tryd.pinned (OpenSpec.ofChange fnRollLeastSpec)

/-- ITS FALSE NEIGHBOUR: 'it returns false'. Refute it at one input. -/
def fnRollLeastWrong : ChangeSpec := { name := "fnRollLeast", fn := fun _ => fun
  | [d] => { results := [.lit (.bool false)], args := [d] }
  | _ => none }
def FnRollLeastWrongFalsely : Prop := fnRollLeastRow.holds Tryd.pinned (OpenSpec.ofChange fnRollLeastWrong)

/-- 'laws.FnJumpMay': WHATEVER THE INPUT: true; the input reads as it did. -/
def fnJumpMaySpec : ChangeSpec := { name := "fnJumpMay", fn := fun _ => fun
  | [d] => { results := [.lit (.bool true)], args := [d] }
  | _ => none }
def fnJumpMayRow : OpenClaim := { program := "ytcdoopccmljaoaadoor", sum := "110b64dfdf1039b75100cca154501f3859c1c9149aa2ed5090600ba8728ec573", func := "loop.example/steelmill/laws.FnJumpMay", spec := "fnJumpMay", named := ["internal/strconv.uint64pow10", "math/bits.deBruijn32tab", "math/bits.deBruijn64tab"], apart := false, laid := [("math/bits.deBruijn32tab", laid_math_bits_deBruijn32tab), ("math/bits.deBruijn64tab", laid_math_bits_deBruijn64tab), ("internal/strconv.uint64pow10", laid_internal_strconv_uint64pow10)] }
def FnJumpMaySaid : Prop := fnJumpMayRow.holds Tryd.pinned (OpenSpec.ofChange fnJumpMaySpec)

/-- ITS FALSE NEIGHBOUR: 'it returns false'. Refute it at one input. -/
def fnJumpMayWrong : ChangeSpec := { name := "fnJumpMay", fn := fun _ => fun
  | [d] => { results := [.lit (.bool false)], args := [d] }
  | _ => none }
def FnJumpMayWrongFalsely : Prop := fnJumpMayRow.holds Tryd.pinned (OpenSpec.ofChange fnJumpMayWrong)

/-- 'laws.FnSpeedSafe': WHATEVER THE INPUT: true; the input reads as it did. -/
def fnSpeedSafeSpec : ChangeSpec := { name := "fnSpeedSafe", fn := fun _ => fun
  | [d] => { results := [.lit (.bool true)], args := [d] }
  | _ => none }
def fnSpeedSafeRow : OpenClaim := { program := "ytcdoopccmljaoaadoor", sum := "110b64dfdf1039b75100cca154501f3859c1c9149aa2ed5090600ba8728ec573", func := "loop.example/steelmill/laws.FnSpeedSafe", spec := "fnSpeedSafe", named := ["internal/strconv.uint64pow10", "math/bits.deBruijn32tab", "math/bits.deBruijn64tab"], apart := false, laid := [("math/bits.deBruijn32tab", laid_math_bits_deBruijn32tab), ("math/bits.deBruijn64tab", laid_math_bits_deBruijn64tab), ("internal/strconv.uint64pow10", laid_internal_strconv_uint64pow10)] }
def FnSpeedSafeSaid : Prop := fnSpeedSafeRow.holds Tryd.pinned (OpenSpec.ofChange fnSpeedSafeSpec)

/-- ITS FALSE NEIGHBOUR: 'it returns false'. Refute it at one input. -/
def fnSpeedSafeWrong : ChangeSpec := { name := "fnSpeedSafe", fn := fun _ => fun
  | [d] => { results := [.lit (.bool false)], args := [d] }
  | _ => none }
def FnSpeedSafeWrongFalsely : Prop := fnSpeedSafeRow.holds Tryd.pinned (OpenSpec.ofChange fnSpeedSafeWrong)

/-- 'laws.FnSheetsValid': WHATEVER THE INPUT: true; the input reads as it did. -/
def fnSheetsValidSpec : ChangeSpec := { name := "fnSheetsValid", fn := fun _ => fun
  | [d] => { results := [.lit (.bool true)], args := [d] }
  | _ => none }
def fnSheetsValidRow : OpenClaim := { program := "ytcdoopccmljaoaadoor", sum := "110b64dfdf1039b75100cca154501f3859c1c9149aa2ed5090600ba8728ec573", func := "loop.example/steelmill/laws.FnSheetsValid", spec := "fnSheetsValid", named := ["internal/strconv.uint64pow10", "math/bits.deBruijn32tab", "math/bits.deBruijn64tab"], apart := false, laid := [("math/bits.deBruijn32tab", laid_math_bits_deBruijn32tab), ("math/bits.deBruijn64tab", laid_math_bits_deBruijn64tab), ("internal/strconv.uint64pow10", laid_internal_strconv_uint64pow10)] }
def FnSheetsValidSaid : Prop := fnSheetsValidRow.holds Tryd.pinned (OpenSpec.ofChange fnSheetsValidSpec)

/-- ITS FALSE NEIGHBOUR: 'it returns false'. Refute it at one input. -/
def fnSheetsValidWrong : ChangeSpec := { name := "fnSheetsValid", fn := fun _ => fun
  | [d] => { results := [.lit (.bool false)], args := [d] }
  | _ => none }
def FnSheetsValidWrongFalsely : Prop := fnSheetsValidRow.holds Tryd.pinned (OpenSpec.ofChange fnSheetsValidWrong)

/-- 'laws.FnRollsFew': WHATEVER THE INPUT: true; the input reads as it did. -/
def fnRollsFewSpec : ChangeSpec := { name := "fnRollsFew", fn := fun _ => fun
  | [d] => { results := [.lit (.bool true)], args := [d] }
  | _ => none }
def fnRollsFewRow : OpenClaim := { program := "ytcdoopccmljaoaadoor", sum := "110b64dfdf1039b75100cca154501f3859c1c9149aa2ed5090600ba8728ec573", func := "loop.example/steelmill/laws.FnRollsFew", spec := "fnRollsFew", named := ["internal/strconv.uint64pow10", "math/bits.deBruijn32tab", "math/bits.deBruijn64tab"], apart := false, laid := [("math/bits.deBruijn32tab", laid_math_bits_deBruijn32tab), ("math/bits.deBruijn64tab", laid_math_bits_deBruijn64tab), ("internal/strconv.uint64pow10", laid_internal_strconv_uint64pow10)] }
def FnRollsFewSaid : Prop := fnRollsFewRow.holds Tryd.pinned (OpenSpec.ofChange fnRollsFewSpec)

/-- ITS FALSE NEIGHBOUR: 'it returns false'. Refute it at one input. -/
def fnRollsFewWrong : ChangeSpec := { name := "fnRollsFew", fn := fun _ => fun
  | [d] => { results := [.lit (.bool false)], args := [d] }
  | _ => none }
def FnRollsFewWrongFalsely : Prop := fnRollsFewRow.holds Tryd.pinned (OpenSpec.ofChange fnRollsFewWrong)

/-- 'laws.FnRollsFor': WHATEVER THE INPUT: true; the input reads as it did. -/
def fnRollsForSpec : ChangeSpec := { name := "fnRollsFor", fn := fun _ => fun
  | [d] => { results := [.lit (.bool true)], args := [d] }
  | _ => none }
def fnRollsForRow : OpenClaim := { program := "ytcdoopccmljaoaadoor", sum := "110b64dfdf1039b75100cca154501f3859c1c9149aa2ed5090600ba8728ec573", func := "loop.example/steelmill/laws.FnRollsFor", spec := "fnRollsFor", named := ["internal/strconv.uint64pow10", "math/bits.deBruijn32tab", "math/bits.deBruijn64tab"], apart := false, laid := [("math/bits.deBruijn32tab", laid_math_bits_deBruijn32tab), ("math/bits.deBruijn64tab", laid_math_bits_deBruijn64tab), ("internal/strconv.uint64pow10", laid_internal_strconv_uint64pow10)] }
def FnRollsForSaid : Prop := fnRollsForRow.holds Tryd.pinned (OpenSpec.ofChange fnRollsForSpec)

/-- ITS FALSE NEIGHBOUR: 'it returns false'. Refute it at one input. -/
def fnRollsForWrong : ChangeSpec := { name := "fnRollsFor", fn := fun _ => fun
  | [d] => { results := [.lit (.bool false)], args := [d] }
  | _ => none }
def FnRollsForWrongFalsely : Prop := fnRollsForRow.holds Tryd.pinned (OpenSpec.ofChange fnRollsForWrong)

/-- 'laws.FnRollsOk': WHATEVER THE INPUT: true; the input reads as it did. -/
def fnRollsOkSpec : ChangeSpec := { name := "fnRollsOk", fn := fun _ => fun
  | [d] => { results := [.lit (.bool true)], args := [d] }
  | _ => none }
def fnRollsOkRow : OpenClaim := { program := "ytcdoopccmljaoaadoor", sum := "110b64dfdf1039b75100cca154501f3859c1c9149aa2ed5090600ba8728ec573", func := "loop.example/steelmill/laws.FnRollsOk", spec := "fnRollsOk", named := ["internal/strconv.uint64pow10", "math/bits.deBruijn32tab", "math/bits.deBruijn64tab"], apart := false, laid := [("math/bits.deBruijn32tab", laid_math_bits_deBruijn32tab), ("math/bits.deBruijn64tab", laid_math_bits_deBruijn64tab), ("internal/strconv.uint64pow10", laid_internal_strconv_uint64pow10)] }
def FnRollsOkSaid : Prop := fnRollsOkRow.holds Tryd.pinned (OpenSpec.ofChange fnRollsOkSpec)

/-- ITS FALSE NEIGHBOUR: 'it returns false'. Refute it at one input. -/
def fnRollsOkWrong : ChangeSpec := { name := "fnRollsOk", fn := fun _ => fun
  | [d] => { results := [.lit (.bool false)], args := [d] }
  | _ => none }
def FnRollsOkWrongFalsely : Prop := fnRollsOkRow.holds Tryd.pinned (OpenSpec.ofChange fnRollsOkWrong)

/-- 'laws.FnRoundMost': WHATEVER THE INPUT: true; the input reads as it did. -/
def fnRoundMostSpec : ChangeSpec := { name := "fnRoundMost", fn := fun _ => fun
  | [d] => { results := [.lit (.bool true)], args := [d] }
  | _ => none }
def fnRoundMostRow : OpenClaim := { program := "ytcdoopccmljaoaadoor", sum := "110b64dfdf1039b75100cca154501f3859c1c9149aa2ed5090600ba8728ec573", func := "loop.example/steelmill/laws.FnRoundMost", spec := "fnRoundMost", unfollowed := true, recurses := true, named := ["internal/strconv.uint64pow10", "math/bits.deBruijn32tab", "math/bits.deBruijn64tab"], apart := false, laid := [("math/bits.deBruijn32tab", laid_math_bits_deBruijn32tab), ("math/bits.deBruijn64tab", laid_math_bits_deBruijn64tab), ("internal/strconv.uint64pow10", laid_internal_strconv_uint64pow10)] }
def FnRoundMostSaid : Prop := fnRoundMostRow.holds Tryd.pinned (OpenSpec.ofChange fnRoundMostSpec)

/-- ITS FALSE NEIGHBOUR: 'it returns false'. Refute it at one input. -/
def fnRoundMostWrong : ChangeSpec := { name := "fnRoundMost", fn := fun _ => fun
  | [d] => { results := [.lit (.bool false)], args := [d] }
  | _ => none }
def FnRoundMostWrongFalsely : Prop := fnRoundMostRow.holds Tryd.pinned (OpenSpec.ofChange fnRoundMostWrong)

/-- 'laws.FnRoundBest': WHATEVER THE INPUT: true; the input reads as it did. -/
def fnRoundBestSpec : ChangeSpec := { name := "fnRoundBest", fn := fun _ => fun
  | [d] => { results := [.lit (.bool true)], args := [d] }
  | _ => none }
def fnRoundBestRow : OpenClaim := { program := "ytcdoopccmljaoaadoor", sum := "110b64dfdf1039b75100cca154501f3859c1c9149aa2ed5090600ba8728ec573", func := "loop.example/steelmill/laws.FnRoundBest", spec := "fnRoundBest", unfollowed := true, recurses := true, named := ["internal/strconv.uint64pow10", "math/bits.deBruijn32tab", "math/bits.deBruijn64tab"], apart := false, laid := [("math/bits.deBruijn32tab", laid_math_bits_deBruijn32tab), ("math/bits.deBruijn64tab", laid_math_bits_deBruijn64tab), ("internal/strconv.uint64pow10", laid_internal_strconv_uint64pow10)] }
def FnRoundBestSaid : Prop := fnRoundBestRow.holds Tryd.pinned (OpenSpec.ofChange fnRoundBestSpec)

/-- ITS FALSE NEIGHBOUR: 'it returns false'. Refute it at one input. -/
def fnRoundBestWrong : ChangeSpec := { name := "fnRoundBest", fn := fun _ => fun
  | [d] => { results := [.lit (.bool false)], args := [d] }
  | _ => none }
def FnRoundBestWrongFalsely : Prop := fnRoundBestRow.holds Tryd.pinned (OpenSpec.ofChange fnRoundBestWrong)

/-- 'laws.FnRoundOk': WHATEVER THE INPUT: true; the input reads as it did. -/
def fnRoundOkSpec : ChangeSpec := { name := "fnRoundOk", fn := fun _ => fun
  | [d] => { results := [.lit (.bool true)], args := [d] }
  | _ => none }
def fnRoundOkRow : OpenClaim := { program := "ytcdoopccmljaoaadoor", sum := "110b64dfdf1039b75100cca154501f3859c1c9149aa2ed5090600ba8728ec573", func := "loop.example/steelmill/laws.FnRoundOk", spec := "fnRoundOk", unfollowed := true, recurses := true, named := ["internal/strconv.uint64pow10", "math/bits.deBruijn32tab", "math/bits.deBruijn64tab"], apart := false, laid := [("math/bits.deBruijn32tab", laid_math_bits_deBruijn32tab), ("math/bits.deBruijn64tab", laid_math_bits_deBruijn64tab), ("internal/strconv.uint64pow10", laid_internal_strconv_uint64pow10)] }
def FnRoundOkSaid : Prop := fnRoundOkRow.holds Tryd.pinned (OpenSpec.ofChange fnRoundOkSpec)

/-- ITS FALSE NEIGHBOUR: 'it returns false'. Refute it at one input. -/
def fnRoundOkWrong : ChangeSpec := { name := "fnRoundOk", fn := fun _ => fun
  | [d] => { results := [.lit (.bool false)], args := [d] }
  | _ => none }
def FnRoundOkWrongFalsely : Prop := fnRoundOkRow.holds Tryd.pinned (OpenSpec.ofChange fnRoundOkWrong)

/-- 'laws.FnRoundsAll': WHATEVER THE INPUT: true; the input reads as it did. -/
def fnRoundsAllSpec : ChangeSpec := { name := "fnRoundsAll", fn := fun _ => fun
  | [d] => { results := [.lit (.bool true)], args := [d] }
  | _ => none }
def fnRoundsAllRow : OpenClaim := { program := "ytcdoopccmljaoaadoor", sum := "110b64dfdf1039b75100cca154501f3859c1c9149aa2ed5090600ba8728ec573", func := "loop.example/steelmill/laws.FnRoundsAll", spec := "fnRoundsAll", unfollowed := true, recurses := true, named := ["internal/strconv.uint64pow10", "math/bits.deBruijn32tab", "math/bits.deBruijn64tab"], apart := false, laid := [("math/bits.deBruijn32tab", laid_math_bits_deBruijn32tab), ("math/bits.deBruijn64tab", laid_math_bits_deBruijn64tab), ("internal/strconv.uint64pow10", laid_internal_strconv_uint64pow10)] }
def FnRoundsAllSaid : Prop := fnRoundsAllRow.holds Tryd.pinned (OpenSpec.ofChange fnRoundsAllSpec)

/-- ITS FALSE NEIGHBOUR: 'it returns false'. Refute it at one input. -/
def fnRoundsAllWrong : ChangeSpec := { name := "fnRoundsAll", fn := fun _ => fun
  | [d] => { results := [.lit (.bool false)], args := [d] }
  | _ => none }
def FnRoundsAllWrongFalsely : Prop := fnRoundsAllRow.holds Tryd.pinned (OpenSpec.ofChange fnRoundsAllWrong)

/-- 'laws.FnSplitBest': WHATEVER THE INPUT: true; the input reads as it did. -/
def fnSplitBestSpec : ChangeSpec := { name := "fnSplitBest", fn := fun _ => fun
  | [d] => { results := [.lit (.bool true)], args := [d] }
  | _ => none }
def fnSplitBestRow : OpenClaim := { program := "ytcdoopccmljaoaadoor", sum := "110b64dfdf1039b75100cca154501f3859c1c9149aa2ed5090600ba8728ec573", func := "loop.example/steelmill/laws.FnSplitBest", spec := "fnSplitBest", named := ["internal/strconv.uint64pow10", "math/bits.deBruijn32tab", "math/bits.deBruijn64tab"], apart := false, laid := [("math/bits.deBruijn32tab", laid_math_bits_deBruijn32tab), ("math/bits.deBruijn64tab", laid_math_bits_deBruijn64tab), ("internal/strconv.uint64pow10", laid_internal_strconv_uint64pow10)] }
def FnSplitBestSaid : Prop := fnSplitBestRow.holds Tryd.pinned (OpenSpec.ofChange fnSplitBestSpec)

/-- ITS FALSE NEIGHBOUR: 'it returns false'. Refute it at one input. -/
def fnSplitBestWrong : ChangeSpec := { name := "fnSplitBest", fn := fun _ => fun
  | [d] => { results := [.lit (.bool false)], args := [d] }
  | _ => none }
def FnSplitBestWrongFalsely : Prop := fnSplitBestRow.holds Tryd.pinned (OpenSpec.ofChange fnSplitBestWrong)

/- THE SECOND FORM. 'bulk': how many values and letters a reading holds, each counted each time it is reached (what is shared counts as often as it is met; a slice's spare places count too). A statement '..UptoSaid' is the law's where the arguments, and the package variables that the reading takes, are together of bulk at most 1048576: NARROWER than '..Said'. Prove '..Said' where nothing that the law and all that it calls make is longer than what came in: it says more and counts as full. Else prove '..UptoSaid'. A law counts once. -/
mutual
def uptoBulk {H : Type} : DataW H → Nat
  | .lit (.string bytes) => bytes.length + 1
  | .lit _ => 1
  | .nil => 1
  | .ptr d => uptoBulk d + 1
  | .slice elems spare => uptoBulkAll elems + uptoBulkAll spare + 1
  | .agg parts => uptoBulkAll parts + 1
  | .iface _ d => uptoBulk d + 1
  | .map entries => uptoBulkEntries entries + 1
  | .held _ => 1
def uptoBulkAll {H : Type} : List (DataW H) → Nat
  | [] => 0
  | d :: r => uptoBulk d + uptoBulkAll r
def uptoBulkEntries {H : Type} : List (Lit × DataW H) → Nat
  | [] => 0
  | x :: r => uptoBulkEntry x + uptoBulkEntries r
def uptoBulkEntry {H : Type} : Lit × DataW H → Nat
  | (.string bytes, d) => bytes.length + uptoBulk d + 1
  | (_, d) => uptoBulk d + 1
 end
def uptoSmall : (H : Type) → List (DataW H) → Bool := fun _ ds => decide (uptoBulkAll ds ≤ 1048576)
def OpenSpec.upto (s : _root_.Go.ChangeSpec) : _root_.Go.OpenSpec := { _root_.Go.OpenSpec.ofChange s with cond := some uptoSmall }

/-- 'laws.FnSheetValid', WHERE WHAT IT READS IS OF BULK AT MOST 1048576: true; the input reads as it did. -/
def fnSheetValidUptoRow : OpenClaim := { program := "ytcdoopccmljaoaadoor", sum := "110b64dfdf1039b75100cca154501f3859c1c9149aa2ed5090600ba8728ec573", func := "loop.example/steelmill/laws.FnSheetValid", spec := "fnSheetValid", named := ["internal/strconv.uint64pow10", "math/bits.deBruijn32tab", "math/bits.deBruijn64tab"], apart := false, laid := [("math/bits.deBruijn32tab", laid_math_bits_deBruijn32tab), ("math/bits.deBruijn64tab", laid_math_bits_deBruijn64tab), ("internal/strconv.uint64pow10", laid_internal_strconv_uint64pow10)], narrowed := true }
def FnSheetValidUptoSaid : Prop := fnSheetValidUptoRow.holds Tryd.pinned (OpenSpec.upto fnSheetValidSpec)

/-- 'laws.FnRollMay', WHERE WHAT IT READS IS OF BULK AT MOST 1048576: true; the input reads as it did. -/
def fnRollMayUptoRow : OpenClaim := { program := "ytcdoopccmljaoaadoor", sum := "110b64dfdf1039b75100cca154501f3859c1c9149aa2ed5090600ba8728ec573", func := "loop.example/steelmill/laws.FnRollMay", spec := "fnRollMay", named := ["internal/strconv.uint64pow10", "math/bits.deBruijn32tab", "math/bits.deBruijn64tab"], apart := false, laid := [("math/bits.deBruijn32tab", laid_math_bits_deBruijn32tab), ("math/bits.deBruijn64tab", laid_math_bits_deBruijn64tab), ("internal/strconv.uint64pow10", laid_internal_strconv_uint64pow10)], narrowed := true }
def FnRollMayUptoSaid : Prop := fnRollMayUptoRow.holds Tryd.pinned (OpenSpec.upto fnRollMaySpec)

/-- 'laws.FnJumpValid', WHERE WHAT IT READS IS OF BULK AT MOST 1048576: true; the input reads as it did. -/
def fnJumpValidUptoRow : OpenClaim := { program := "ytcdoopccmljaoaadoor", sum := "110b64dfdf1039b75100cca154501f3859c1c9149aa2ed5090600ba8728ec573", func := "loop.example/steelmill/laws.FnJumpValid", spec := "fnJumpValid", named := ["internal/strconv.uint64pow10", "math/bits.deBruijn32tab", "math/bits.deBruijn64tab"], apart := false, laid := [("math/bits.deBruijn32tab", laid_math_bits_deBruijn32tab), ("math/bits.deBruijn64tab", laid_math_bits_deBruijn64tab), ("internal/strconv.uint64pow10", laid_internal_strconv_uint64pow10)], narrowed := true }
def FnJumpValidUptoSaid : Prop := fnJumpValidUptoRow.holds Tryd.pinned (OpenSpec.upto fnJumpValidSpec)

/-- 'laws.FnSpeedOut', WHERE WHAT IT READS IS OF BULK AT MOST 1048576: true; the input reads as it did. -/
def fnSpeedOutUptoRow : OpenClaim := { program := "ytcdoopccmljaoaadoor", sum := "110b64dfdf1039b75100cca154501f3859c1c9149aa2ed5090600ba8728ec573", func := "loop.example/steelmill/laws.FnSpeedOut", spec := "fnSpeedOut", named := ["internal/strconv.uint64pow10", "math/bits.deBruijn32tab", "math/bits.deBruijn64tab"], apart := false, laid := [("math/bits.deBruijn32tab", laid_math_bits_deBruijn32tab), ("math/bits.deBruijn64tab", laid_math_bits_deBruijn64tab), ("internal/strconv.uint64pow10", laid_internal_strconv_uint64pow10)], narrowed := true }
def FnSpeedOutUptoSaid : Prop := fnSpeedOutUptoRow.holds Tryd.pinned (OpenSpec.upto fnSpeedOutSpec)

/-- 'laws.FnRollLeast', WHERE WHAT IT READS IS OF BULK AT MOST 1048576: true; the input reads as it did. -/
def fnRollLeastUptoRow : OpenClaim := { program := "ytcdoopccmljaoaadoor", sum := "110b64dfdf1039b75100cca154501f3859c1c9149aa2ed5090600ba8728ec573", func := "loop.example/steelmill/laws.FnRollLeast", spec := "fnRollLeast", named := ["internal/strconv.uint64pow10", "math/bits.deBruijn32tab", "math/bits.deBruijn64tab"], apart := false, laid := [("math/bits.deBruijn32tab", laid_math_bits_deBruijn32tab), ("math/bits.deBruijn64tab", laid_math_bits_deBruijn64tab), ("internal/strconv.uint64pow10", laid_internal_strconv_uint64pow10)], narrowed := true }
def FnRollLeastUptoSaid : Prop := fnRollLeastUptoRow.holds Tryd.pinned (OpenSpec.upto fnRollLeastSpec)

/-- 'laws.FnJumpMay', WHERE WHAT IT READS IS OF BULK AT MOST 1048576: true; the input reads as it did. -/
def fnJumpMayUptoRow : OpenClaim := { program := "ytcdoopccmljaoaadoor", sum := "110b64dfdf1039b75100cca154501f3859c1c9149aa2ed5090600ba8728ec573", func := "loop.example/steelmill/laws.FnJumpMay", spec := "fnJumpMay", named := ["internal/strconv.uint64pow10", "math/bits.deBruijn32tab", "math/bits.deBruijn64tab"], apart := false, laid := [("math/bits.deBruijn32tab", laid_math_bits_deBruijn32tab), ("math/bits.deBruijn64tab", laid_math_bits_deBruijn64tab), ("internal/strconv.uint64pow10", laid_internal_strconv_uint64pow10)], narrowed := true }
def FnJumpMayUptoSaid : Prop := fnJumpMayUptoRow.holds Tryd.pinned (OpenSpec.upto fnJumpMaySpec)

/-- 'laws.FnSpeedSafe', WHERE WHAT IT READS IS OF BULK AT MOST 1048576: true; the input reads as it did. -/
def fnSpeedSafeUptoRow : OpenClaim := { program := "ytcdoopccmljaoaadoor", sum := "110b64dfdf1039b75100cca154501f3859c1c9149aa2ed5090600ba8728ec573", func := "loop.example/steelmill/laws.FnSpeedSafe", spec := "fnSpeedSafe", named := ["internal/strconv.uint64pow10", "math/bits.deBruijn32tab", "math/bits.deBruijn64tab"], apart := false, laid := [("math/bits.deBruijn32tab", laid_math_bits_deBruijn32tab), ("math/bits.deBruijn64tab", laid_math_bits_deBruijn64tab), ("internal/strconv.uint64pow10", laid_internal_strconv_uint64pow10)], narrowed := true }
def FnSpeedSafeUptoSaid : Prop := fnSpeedSafeUptoRow.holds Tryd.pinned (OpenSpec.upto fnSpeedSafeSpec)

/-- 'laws.FnSheetsValid', WHERE WHAT IT READS IS OF BULK AT MOST 1048576: true; the input reads as it did. -/
def fnSheetsValidUptoRow : OpenClaim := { program := "ytcdoopccmljaoaadoor", sum := "110b64dfdf1039b75100cca154501f3859c1c9149aa2ed5090600ba8728ec573", func := "loop.example/steelmill/laws.FnSheetsValid", spec := "fnSheetsValid", named := ["internal/strconv.uint64pow10", "math/bits.deBruijn32tab", "math/bits.deBruijn64tab"], apart := false, laid := [("math/bits.deBruijn32tab", laid_math_bits_deBruijn32tab), ("math/bits.deBruijn64tab", laid_math_bits_deBruijn64tab), ("internal/strconv.uint64pow10", laid_internal_strconv_uint64pow10)], narrowed := true }
def FnSheetsValidUptoSaid : Prop := fnSheetsValidUptoRow.holds Tryd.pinned (OpenSpec.upto fnSheetsValidSpec)

/-- 'laws.FnRollsFew', WHERE WHAT IT READS IS OF BULK AT MOST 1048576: true; the input reads as it did. -/
def fnRollsFewUptoRow : OpenClaim := { program := "ytcdoopccmljaoaadoor", sum := "110b64dfdf1039b75100cca154501f3859c1c9149aa2ed5090600ba8728ec573", func := "loop.example/steelmill/laws.FnRollsFew", spec := "fnRollsFew", named := ["internal/strconv.uint64pow10", "math/bits.deBruijn32tab", "math/bits.deBruijn64tab"], apart := false, laid := [("math/bits.deBruijn32tab", laid_math_bits_deBruijn32tab), ("math/bits.deBruijn64tab", laid_math_bits_deBruijn64tab), ("internal/strconv.uint64pow10", laid_internal_strconv_uint64pow10)], narrowed := true }
def FnRollsFewUptoSaid : Prop := fnRollsFewUptoRow.holds Tryd.pinned (OpenSpec.upto fnRollsFewSpec)

/-- 'laws.FnRollsFor', WHERE WHAT IT READS IS OF BULK AT MOST 1048576: true; the input reads as it did. -/
def fnRollsForUptoRow : OpenClaim := { program := "ytcdoopccmljaoaadoor", sum := "110b64dfdf1039b75100cca154501f3859c1c9149aa2ed5090600ba8728ec573", func := "loop.example/steelmill/laws.FnRollsFor", spec := "fnRollsFor", named := ["internal/strconv.uint64pow10", "math/bits.deBruijn32tab", "math/bits.deBruijn64tab"], apart := false, laid := [("math/bits.deBruijn32tab", laid_math_bits_deBruijn32tab), ("math/bits.deBruijn64tab", laid_math_bits_deBruijn64tab), ("internal/strconv.uint64pow10", laid_internal_strconv_uint64pow10)], narrowed := true }
def FnRollsForUptoSaid : Prop := fnRollsForUptoRow.holds Tryd.pinned (OpenSpec.upto fnRollsForSpec)

/-- 'laws.FnRollsOk', WHERE WHAT IT READS IS OF BULK AT MOST 1048576: true; the input reads as it did. -/
def fnRollsOkUptoRow : OpenClaim := { program := "ytcdoopccmljaoaadoor", sum := "110b64dfdf1039b75100cca154501f3859c1c9149aa2ed5090600ba8728ec573", func := "loop.example/steelmill/laws.FnRollsOk", spec := "fnRollsOk", named := ["internal/strconv.uint64pow10", "math/bits.deBruijn32tab", "math/bits.deBruijn64tab"], apart := false, laid := [("math/bits.deBruijn32tab", laid_math_bits_deBruijn32tab), ("math/bits.deBruijn64tab", laid_math_bits_deBruijn64tab), ("internal/strconv.uint64pow10", laid_internal_strconv_uint64pow10)], narrowed := true }
def FnRollsOkUptoSaid : Prop := fnRollsOkUptoRow.holds Tryd.pinned (OpenSpec.upto fnRollsOkSpec)

/-- 'laws.FnRoundMost', WHERE WHAT IT READS IS OF BULK AT MOST 1048576: true; the input reads as it did. -/
def fnRoundMostUptoRow : OpenClaim := { program := "ytcdoopccmljaoaadoor", sum := "110b64dfdf1039b75100cca154501f3859c1c9149aa2ed5090600ba8728ec573", func := "loop.example/steelmill/laws.FnRoundMost", spec := "fnRoundMost", unfollowed := true, recurses := true, named := ["internal/strconv.uint64pow10", "math/bits.deBruijn32tab", "math/bits.deBruijn64tab"], apart := false, laid := [("math/bits.deBruijn32tab", laid_math_bits_deBruijn32tab), ("math/bits.deBruijn64tab", laid_math_bits_deBruijn64tab), ("internal/strconv.uint64pow10", laid_internal_strconv_uint64pow10)], narrowed := true }
def FnRoundMostUptoSaid : Prop := fnRoundMostUptoRow.holds Tryd.pinned (OpenSpec.upto fnRoundMostSpec)

/-- 'laws.FnRoundBest', WHERE WHAT IT READS IS OF BULK AT MOST 1048576: true; the input reads as it did. -/
def fnRoundBestUptoRow : OpenClaim := { program := "ytcdoopccmljaoaadoor", sum := "110b64dfdf1039b75100cca154501f3859c1c9149aa2ed5090600ba8728ec573", func := "loop.example/steelmill/laws.FnRoundBest", spec := "fnRoundBest", unfollowed := true, recurses := true, named := ["internal/strconv.uint64pow10", "math/bits.deBruijn32tab", "math/bits.deBruijn64tab"], apart := false, laid := [("math/bits.deBruijn32tab", laid_math_bits_deBruijn32tab), ("math/bits.deBruijn64tab", laid_math_bits_deBruijn64tab), ("internal/strconv.uint64pow10", laid_internal_strconv_uint64pow10)], narrowed := true }
def FnRoundBestUptoSaid : Prop := fnRoundBestUptoRow.holds Tryd.pinned (OpenSpec.upto fnRoundBestSpec)

/-- 'laws.FnRoundOk', WHERE WHAT IT READS IS OF BULK AT MOST 1048576: true; the input reads as it did. -/
def fnRoundOkUptoRow : OpenClaim := { program := "ytcdoopccmljaoaadoor", sum := "110b64dfdf1039b75100cca154501f3859c1c9149aa2ed5090600ba8728ec573", func := "loop.example/steelmill/laws.FnRoundOk", spec := "fnRoundOk", unfollowed := true, recurses := true, named := ["internal/strconv.uint64pow10", "math/bits.deBruijn32tab", "math/bits.deBruijn64tab"], apart := false, laid := [("math/bits.deBruijn32tab", laid_math_bits_deBruijn32tab), ("math/bits.deBruijn64tab", laid_math_bits_deBruijn64tab), ("internal/strconv.uint64pow10", laid_internal_strconv_uint64pow10)], narrowed := true }
def FnRoundOkUptoSaid : Prop := fnRoundOkUptoRow.holds Tryd.pinned (OpenSpec.upto fnRoundOkSpec)

/-- 'laws.FnRoundsAll', WHERE WHAT IT READS IS OF BULK AT MOST 1048576: true; the input reads as it did. -/
def fnRoundsAllUptoRow : OpenClaim := { program := "ytcdoopccmljaoaadoor", sum := "110b64dfdf1039b75100cca154501f3859c1c9149aa2ed5090600ba8728ec573", func := "loop.example/steelmill/laws.FnRoundsAll", spec := "fnRoundsAll", unfollowed := true, recurses := true, named := ["internal/strconv.uint64pow10", "math/bits.deBruijn32tab", "math/bits.deBruijn64tab"], apart := false, laid := [("math/bits.deBruijn32tab", laid_math_bits_deBruijn32tab), ("math/bits.deBruijn64tab", laid_math_bits_deBruijn64tab), ("internal/strconv.uint64pow10", laid_internal_strconv_uint64pow10)], narrowed := true }
def FnRoundsAllUptoSaid : Prop := fnRoundsAllUptoRow.holds Tryd.pinned (OpenSpec.upto fnRoundsAllSpec)

/-- 'laws.FnSplitBest', WHERE WHAT IT READS IS OF BULK AT MOST 1048576: true; the input reads as it did. -/
def fnSplitBestUptoRow : OpenClaim := { program := "ytcdoopccmljaoaadoor", sum := "110b64dfdf1039b75100cca154501f3859c1c9149aa2ed5090600ba8728ec573", func := "loop.example/steelmill/laws.FnSplitBest", spec := "fnSplitBest", named := ["internal/strconv.uint64pow10", "math/bits.deBruijn32tab", "math/bits.deBruijn64tab"], apart := false, laid := [("math/bits.deBruijn32tab", laid_math_bits_deBruijn32tab), ("math/bits.deBruijn64tab", laid_math_bits_deBruijn64tab), ("internal/strconv.uint64pow10", laid_internal_strconv_uint64pow10)], narrowed := true }
def FnSplitBestUptoSaid : Prop := fnSplitBestUptoRow.holds Tryd.pinned (OpenSpec.upto fnSplitBestSpec)

end Rows
end Go.Proofs.YtcdoopccmljaoaaDoor
