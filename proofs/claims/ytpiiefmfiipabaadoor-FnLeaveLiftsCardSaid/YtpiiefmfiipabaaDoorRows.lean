/-
  NARROWER THAN 'FOR EVERY INPUT', by the rows' own cells (each row's printed sentence says how): FnPileValid: laid · FnCoilAt: laid · FnLeaveOk: laid · FnCoilsOn: laid · FnCoilTake: laid · FnCoilPut: laid · FnDigLifts: laid · FnPileEmpty: laid · FnCoilLift: laid · FnLiftRun: laid · FnLeaveLifts: laid · FnLeaveAll: laid · FnCoilIds: laid · FnCoilFind: laid.
  DERIVED. THE GIVEN ROWS OF THIS SEAT. 14 by the template 'for every input the law returns true; each argument reads behind the call as it read before'; 0 by the template 'total and deterministic' (their statements: YtpiiefmfiipabaaDoorTotals.lean).
  GIVEN WITH THE SEED: the statements are not yours to turn. If you find one false, say at which input.
  Laid BY PROGRAM, IN A SANDBOX (cutbox-rows.mjs): the forced cells as the released guide's own fill.sh prints them over the translation bcf74aed98398667… (all of the seat's roots in one cut). By AI agents, Wed Nov 11 2026. No macro, syntax, notation, axiom, sorry.
-/
import Derived.Test.YtpiiefmfiipabaaDoorChecked
import GoSem.Claim
import GoSem.ClaimJoined
import GoSem.ClaimMapViews
import Derived.JoinedTies
import Derived.KernelRfl
namespace Go.Proofs.YtpiiefmfiipabaaDoor
/- THE CELL 'sum', in the pinned program and in every row, IS THE sha256 OF THE DUMP (.gsa) THAT YtpiiefmfiipabaaDoorProg.lean LOADS. Nothing in Lean hashes anything: it is a label: what it is worth is what the hold of that sum in a sandbox is worth. -/
noncomputable def Tryd.pinned : Pinned := { name := "ytpiiefmfiipabaadoor", sum := "bcf74aed9839866728469ea009b9043ed4585ac79016255f8c7c8a1f42e22393", checked := Tryd.checked }
namespace Rows
def none {H : Type} : Left H := { results := [], args := [] }

/- WHAT THE LISTED PACKAGE-LEVEL VARIABLES READ AS WHEN THE CALL BEGINS. Each datum BY PROGRAM (the guide's laid-datum.mjs) off the statement by which the dump's own 'gosem.cut.vars' lays the variable. In a bare row this is a premise. The card (YtpiiefmfiipabaaDoorCards.lean) ties it to the program's text. -/
def laid_math_bits_deBruijn32tab {H : Type} : DataW H := .agg [.lit (.int .u8 0), .lit (.int .u8 1), .lit (.int .u8 28), .lit (.int .u8 2), .lit (.int .u8 29), .lit (.int .u8 14), .lit (.int .u8 24), .lit (.int .u8 3), .lit (.int .u8 30), .lit (.int .u8 22), .lit (.int .u8 20), .lit (.int .u8 15), .lit (.int .u8 25), .lit (.int .u8 17), .lit (.int .u8 4), .lit (.int .u8 8), .lit (.int .u8 31), .lit (.int .u8 27), .lit (.int .u8 13), .lit (.int .u8 23), .lit (.int .u8 21), .lit (.int .u8 19), .lit (.int .u8 16), .lit (.int .u8 7), .lit (.int .u8 26), .lit (.int .u8 12), .lit (.int .u8 18), .lit (.int .u8 6), .lit (.int .u8 11), .lit (.int .u8 5), .lit (.int .u8 10), .lit (.int .u8 9)]
def laid_math_bits_deBruijn64tab {H : Type} : DataW H := .agg [.lit (.int .u8 0), .lit (.int .u8 1), .lit (.int .u8 56), .lit (.int .u8 2), .lit (.int .u8 57), .lit (.int .u8 49), .lit (.int .u8 28), .lit (.int .u8 3), .lit (.int .u8 61), .lit (.int .u8 58), .lit (.int .u8 42), .lit (.int .u8 50), .lit (.int .u8 38), .lit (.int .u8 29), .lit (.int .u8 17), .lit (.int .u8 4), .lit (.int .u8 62), .lit (.int .u8 47), .lit (.int .u8 59), .lit (.int .u8 36), .lit (.int .u8 45), .lit (.int .u8 43), .lit (.int .u8 51), .lit (.int .u8 22), .lit (.int .u8 53), .lit (.int .u8 39), .lit (.int .u8 33), .lit (.int .u8 30), .lit (.int .u8 24), .lit (.int .u8 18), .lit (.int .u8 12), .lit (.int .u8 5), .lit (.int .u8 63), .lit (.int .u8 55), .lit (.int .u8 48), .lit (.int .u8 27), .lit (.int .u8 60), .lit (.int .u8 41), .lit (.int .u8 37), .lit (.int .u8 16), .lit (.int .u8 46), .lit (.int .u8 35), .lit (.int .u8 44), .lit (.int .u8 21), .lit (.int .u8 52), .lit (.int .u8 32), .lit (.int .u8 23), .lit (.int .u8 11), .lit (.int .u8 54), .lit (.int .u8 26), .lit (.int .u8 40), .lit (.int .u8 15), .lit (.int .u8 34), .lit (.int .u8 20), .lit (.int .u8 31), .lit (.int .u8 10), .lit (.int .u8 25), .lit (.int .u8 14), .lit (.int .u8 19), .lit (.int .u8 9), .lit (.int .u8 13), .lit (.int .u8 8), .lit (.int .u8 7), .lit (.int .u8 6)]
def laid_internal_strconv_uint64pow10 {H : Type} : DataW H := .agg [.lit (.int .u64 1), .lit (.int .u64 10), .lit (.int .u64 100), .lit (.int .u64 1000), .lit (.int .u64 10000), .lit (.int .u64 100000), .lit (.int .u64 1000000), .lit (.int .u64 10000000), .lit (.int .u64 100000000), .lit (.int .u64 1000000000), .lit (.int .u64 10000000000), .lit (.int .u64 100000000000), .lit (.int .u64 1000000000000), .lit (.int .u64 10000000000000), .lit (.int .u64 100000000000000), .lit (.int .u64 1000000000000000), .lit (.int .u64 10000000000000000), .lit (.int .u64 100000000000000000), .lit (.int .u64 1000000000000000000), .lit (.int .u64 10000000000000000000)]

/-- 'laws.FnPileValid': WHATEVER THE INPUT: true; the input reads as it did. -/
def fnPileValidSpec : ChangeSpec := { name := "fnPileValid", fn := fun _ => fun
  | [d] => { results := [.lit (.bool true)], args := [d] }
  | _ => none }
def fnPileValidRow : OpenClaim := { program := "ytpiiefmfiipabaadoor", sum := "bcf74aed9839866728469ea009b9043ed4585ac79016255f8c7c8a1f42e22393", func := "loop.example/steelmill/laws.FnPileValid", spec := "fnPileValid", named := ["internal/strconv.uint64pow10", "math/bits.deBruijn32tab", "math/bits.deBruijn64tab"], apart := false, laid := [("math/bits.deBruijn32tab", laid_math_bits_deBruijn32tab), ("math/bits.deBruijn64tab", laid_math_bits_deBruijn64tab), ("internal/strconv.uint64pow10", laid_internal_strconv_uint64pow10)] }
def FnPileValidSaid : Prop := fnPileValidRow.holds Tryd.pinned (OpenSpec.ofChange fnPileValidSpec)

/-- ITS FALSE NEIGHBOUR: 'it returns false'. Refute it at one input. -/
def fnPileValidWrong : ChangeSpec := { name := "fnPileValid", fn := fun _ => fun
  | [d] => { results := [.lit (.bool false)], args := [d] }
  | _ => none }
def FnPileValidWrongFalsely : Prop := fnPileValidRow.holds Tryd.pinned (OpenSpec.ofChange fnPileValidWrong)

/-- 'laws.FnCoilAt': WHATEVER THE INPUT: true; the input reads as it did. -/
def fnCoilAtSpec : ChangeSpec := { name := "fnCoilAt", fn := fun _ => fun
  | [d] => { results := [.lit (.bool true)], args := [d] }
  | _ => none }
def fnCoilAtRow : OpenClaim := { program := "ytpiiefmfiipabaadoor", sum := "bcf74aed9839866728469ea009b9043ed4585ac79016255f8c7c8a1f42e22393", func := "loop.example/steelmill/laws.FnCoilAt", spec := "fnCoilAt", named := ["internal/strconv.uint64pow10", "math/bits.deBruijn32tab", "math/bits.deBruijn64tab"], apart := false, laid := [("math/bits.deBruijn32tab", laid_math_bits_deBruijn32tab), ("math/bits.deBruijn64tab", laid_math_bits_deBruijn64tab), ("internal/strconv.uint64pow10", laid_internal_strconv_uint64pow10)] }
def FnCoilAtSaid : Prop := fnCoilAtRow.holds Tryd.pinned (OpenSpec.ofChange fnCoilAtSpec)

/-- ITS FALSE NEIGHBOUR: 'it returns false'. Refute it at one input. -/
def fnCoilAtWrong : ChangeSpec := { name := "fnCoilAt", fn := fun _ => fun
  | [d] => { results := [.lit (.bool false)], args := [d] }
  | _ => none }
def FnCoilAtWrongFalsely : Prop := fnCoilAtRow.holds Tryd.pinned (OpenSpec.ofChange fnCoilAtWrong)

/-- 'laws.FnLeaveOk': WHATEVER THE INPUT: true; the input reads as it did. -/
def fnLeaveOkSpec : ChangeSpec := { name := "fnLeaveOk", fn := fun _ => fun
  | [d] => { results := [.lit (.bool true)], args := [d] }
  | _ => none }
def fnLeaveOkRow : OpenClaim := { program := "ytpiiefmfiipabaadoor", sum := "bcf74aed9839866728469ea009b9043ed4585ac79016255f8c7c8a1f42e22393", func := "loop.example/steelmill/laws.FnLeaveOk", spec := "fnLeaveOk", named := ["internal/strconv.uint64pow10", "math/bits.deBruijn32tab", "math/bits.deBruijn64tab"], apart := false, laid := [("math/bits.deBruijn32tab", laid_math_bits_deBruijn32tab), ("math/bits.deBruijn64tab", laid_math_bits_deBruijn64tab), ("internal/strconv.uint64pow10", laid_internal_strconv_uint64pow10)] }
def FnLeaveOkSaid : Prop := fnLeaveOkRow.holds Tryd.pinned (OpenSpec.ofChange fnLeaveOkSpec)

/-- ITS FALSE NEIGHBOUR: 'it returns false'. Refute it at one input. -/
def fnLeaveOkWrong : ChangeSpec := { name := "fnLeaveOk", fn := fun _ => fun
  | [d] => { results := [.lit (.bool false)], args := [d] }
  | _ => none }
def FnLeaveOkWrongFalsely : Prop := fnLeaveOkRow.holds Tryd.pinned (OpenSpec.ofChange fnLeaveOkWrong)

/-- 'laws.FnCoilsOn': WHATEVER THE INPUT: true; the input reads as it did. -/
def fnCoilsOnSpec : ChangeSpec := { name := "fnCoilsOn", fn := fun _ => fun
  | [d] => { results := [.lit (.bool true)], args := [d] }
  | _ => none }
def fnCoilsOnRow : OpenClaim := { program := "ytpiiefmfiipabaadoor", sum := "bcf74aed9839866728469ea009b9043ed4585ac79016255f8c7c8a1f42e22393", func := "loop.example/steelmill/laws.FnCoilsOn", spec := "fnCoilsOn", named := ["internal/strconv.uint64pow10", "math/bits.deBruijn32tab", "math/bits.deBruijn64tab"], apart := false, laid := [("math/bits.deBruijn32tab", laid_math_bits_deBruijn32tab), ("math/bits.deBruijn64tab", laid_math_bits_deBruijn64tab), ("internal/strconv.uint64pow10", laid_internal_strconv_uint64pow10)] }
def FnCoilsOnSaid : Prop := fnCoilsOnRow.holds Tryd.pinned (OpenSpec.ofChange fnCoilsOnSpec)

/-- ITS FALSE NEIGHBOUR: 'it returns false'. Refute it at one input. -/
def fnCoilsOnWrong : ChangeSpec := { name := "fnCoilsOn", fn := fun _ => fun
  | [d] => { results := [.lit (.bool false)], args := [d] }
  | _ => none }
def FnCoilsOnWrongFalsely : Prop := fnCoilsOnRow.holds Tryd.pinned (OpenSpec.ofChange fnCoilsOnWrong)

/-- 'laws.FnCoilTake': WHATEVER THE INPUT: true; the input reads as it did. -/
def fnCoilTakeSpec : ChangeSpec := { name := "fnCoilTake", fn := fun _ => fun
  | [d] => { results := [.lit (.bool true)], args := [d] }
  | _ => none }
def fnCoilTakeRow : OpenClaim := { program := "ytpiiefmfiipabaadoor", sum := "bcf74aed9839866728469ea009b9043ed4585ac79016255f8c7c8a1f42e22393", func := "loop.example/steelmill/laws.FnCoilTake", spec := "fnCoilTake", named := ["internal/strconv.uint64pow10", "math/bits.deBruijn32tab", "math/bits.deBruijn64tab"], apart := false, laid := [("math/bits.deBruijn32tab", laid_math_bits_deBruijn32tab), ("math/bits.deBruijn64tab", laid_math_bits_deBruijn64tab), ("internal/strconv.uint64pow10", laid_internal_strconv_uint64pow10)] }
def FnCoilTakeSaid : Prop := fnCoilTakeRow.holds Tryd.pinned (OpenSpec.ofChange fnCoilTakeSpec)

/-- ITS FALSE NEIGHBOUR: 'it returns false'. Refute it at one input. -/
def fnCoilTakeWrong : ChangeSpec := { name := "fnCoilTake", fn := fun _ => fun
  | [d] => { results := [.lit (.bool false)], args := [d] }
  | _ => none }
def FnCoilTakeWrongFalsely : Prop := fnCoilTakeRow.holds Tryd.pinned (OpenSpec.ofChange fnCoilTakeWrong)

/-- 'laws.FnCoilPut': WHATEVER THE INPUT: true; the input reads as it did. -/
def fnCoilPutSpec : ChangeSpec := { name := "fnCoilPut", fn := fun _ => fun
  | [d] => { results := [.lit (.bool true)], args := [d] }
  | _ => none }
def fnCoilPutRow : OpenClaim := { program := "ytpiiefmfiipabaadoor", sum := "bcf74aed9839866728469ea009b9043ed4585ac79016255f8c7c8a1f42e22393", func := "loop.example/steelmill/laws.FnCoilPut", spec := "fnCoilPut", named := ["internal/strconv.uint64pow10", "math/bits.deBruijn32tab", "math/bits.deBruijn64tab"], apart := false, laid := [("math/bits.deBruijn32tab", laid_math_bits_deBruijn32tab), ("math/bits.deBruijn64tab", laid_math_bits_deBruijn64tab), ("internal/strconv.uint64pow10", laid_internal_strconv_uint64pow10)] }
def FnCoilPutSaid : Prop := fnCoilPutRow.holds Tryd.pinned (OpenSpec.ofChange fnCoilPutSpec)

/-- ITS FALSE NEIGHBOUR: 'it returns false'. Refute it at one input. -/
def fnCoilPutWrong : ChangeSpec := { name := "fnCoilPut", fn := fun _ => fun
  | [d] => { results := [.lit (.bool false)], args := [d] }
  | _ => none }
def FnCoilPutWrongFalsely : Prop := fnCoilPutRow.holds Tryd.pinned (OpenSpec.ofChange fnCoilPutWrong)

/-- 'laws.FnDigLifts': WHATEVER THE INPUT: true; the input reads as it did. -/
def fnDigLiftsSpec : ChangeSpec := { name := "fnDigLifts", fn := fun _ => fun
  | [d] => { results := [.lit (.bool true)], args := [d] }
  | _ => none }
def fnDigLiftsRow : OpenClaim := { program := "ytpiiefmfiipabaadoor", sum := "bcf74aed9839866728469ea009b9043ed4585ac79016255f8c7c8a1f42e22393", func := "loop.example/steelmill/laws.FnDigLifts", spec := "fnDigLifts", named := ["internal/strconv.uint64pow10", "math/bits.deBruijn32tab", "math/bits.deBruijn64tab"], apart := false, laid := [("math/bits.deBruijn32tab", laid_math_bits_deBruijn32tab), ("math/bits.deBruijn64tab", laid_math_bits_deBruijn64tab), ("internal/strconv.uint64pow10", laid_internal_strconv_uint64pow10)] }
def FnDigLiftsSaid : Prop := fnDigLiftsRow.holds Tryd.pinned (OpenSpec.ofChange fnDigLiftsSpec)

/-- ITS FALSE NEIGHBOUR: 'it returns false'. Refute it at one input. -/
def fnDigLiftsWrong : ChangeSpec := { name := "fnDigLifts", fn := fun _ => fun
  | [d] => { results := [.lit (.bool false)], args := [d] }
  | _ => none }
def FnDigLiftsWrongFalsely : Prop := fnDigLiftsRow.holds Tryd.pinned (OpenSpec.ofChange fnDigLiftsWrong)

/-- 'laws.FnPileEmpty': WHATEVER THE INPUT: true; the input reads as it did. -/
def fnPileEmptySpec : ChangeSpec := { name := "fnPileEmpty", fn := fun _ => fun
  | [d] => { results := [.lit (.bool true)], args := [d] }
  | _ => none }
def fnPileEmptyRow : OpenClaim := { program := "ytpiiefmfiipabaadoor", sum := "bcf74aed9839866728469ea009b9043ed4585ac79016255f8c7c8a1f42e22393", func := "loop.example/steelmill/laws.FnPileEmpty", spec := "fnPileEmpty", recurses := true, named := ["internal/strconv.uint64pow10", "math/bits.deBruijn32tab", "math/bits.deBruijn64tab"], apart := false, laid := [("math/bits.deBruijn32tab", laid_math_bits_deBruijn32tab), ("math/bits.deBruijn64tab", laid_math_bits_deBruijn64tab), ("internal/strconv.uint64pow10", laid_internal_strconv_uint64pow10)] }
def FnPileEmptySaid : Prop := fnPileEmptyRow.holds Tryd.pinned (OpenSpec.ofChange fnPileEmptySpec)

/-- ITS FALSE NEIGHBOUR: 'it returns false'. Refute it at one input. -/
def fnPileEmptyWrong : ChangeSpec := { name := "fnPileEmpty", fn := fun _ => fun
  | [d] => { results := [.lit (.bool false)], args := [d] }
  | _ => none }
def FnPileEmptyWrongFalsely : Prop := fnPileEmptyRow.holds Tryd.pinned (OpenSpec.ofChange fnPileEmptyWrong)

/-- 'laws.FnCoilLift': WHATEVER THE INPUT: true; the input reads as it did. -/
def fnCoilLiftSpec : ChangeSpec := { name := "fnCoilLift", fn := fun _ => fun
  | [d] => { results := [.lit (.bool true)], args := [d] }
  | _ => none }
def fnCoilLiftRow : OpenClaim := { program := "ytpiiefmfiipabaadoor", sum := "bcf74aed9839866728469ea009b9043ed4585ac79016255f8c7c8a1f42e22393", func := "loop.example/steelmill/laws.FnCoilLift", spec := "fnCoilLift", recurses := true, named := ["internal/strconv.uint64pow10", "math/bits.deBruijn32tab", "math/bits.deBruijn64tab"], apart := false, laid := [("math/bits.deBruijn32tab", laid_math_bits_deBruijn32tab), ("math/bits.deBruijn64tab", laid_math_bits_deBruijn64tab), ("internal/strconv.uint64pow10", laid_internal_strconv_uint64pow10)] }
def FnCoilLiftSaid : Prop := fnCoilLiftRow.holds Tryd.pinned (OpenSpec.ofChange fnCoilLiftSpec)

/-- ITS FALSE NEIGHBOUR: 'it returns false'. Refute it at one input. -/
def fnCoilLiftWrong : ChangeSpec := { name := "fnCoilLift", fn := fun _ => fun
  | [d] => { results := [.lit (.bool false)], args := [d] }
  | _ => none }
def FnCoilLiftWrongFalsely : Prop := fnCoilLiftRow.holds Tryd.pinned (OpenSpec.ofChange fnCoilLiftWrong)

/-- 'laws.FnLiftRun': WHATEVER THE INPUT: true; the input reads as it did. -/
def fnLiftRunSpec : ChangeSpec := { name := "fnLiftRun", fn := fun _ => fun
  | [d] => { results := [.lit (.bool true)], args := [d] }
  | _ => none }
def fnLiftRunRow : OpenClaim := { program := "ytpiiefmfiipabaadoor", sum := "bcf74aed9839866728469ea009b9043ed4585ac79016255f8c7c8a1f42e22393", func := "loop.example/steelmill/laws.FnLiftRun", spec := "fnLiftRun", recurses := true, named := ["internal/strconv.uint64pow10", "math/bits.deBruijn32tab", "math/bits.deBruijn64tab"], apart := false, laid := [("math/bits.deBruijn32tab", laid_math_bits_deBruijn32tab), ("math/bits.deBruijn64tab", laid_math_bits_deBruijn64tab), ("internal/strconv.uint64pow10", laid_internal_strconv_uint64pow10)] }
def FnLiftRunSaid : Prop := fnLiftRunRow.holds Tryd.pinned (OpenSpec.ofChange fnLiftRunSpec)

/-- ITS FALSE NEIGHBOUR: 'it returns false'. Refute it at one input. -/
def fnLiftRunWrong : ChangeSpec := { name := "fnLiftRun", fn := fun _ => fun
  | [d] => { results := [.lit (.bool false)], args := [d] }
  | _ => none }
def FnLiftRunWrongFalsely : Prop := fnLiftRunRow.holds Tryd.pinned (OpenSpec.ofChange fnLiftRunWrong)

/-- 'laws.FnLeaveLifts': WHATEVER THE INPUT: true; the input reads as it did. -/
def fnLeaveLiftsSpec : ChangeSpec := { name := "fnLeaveLifts", fn := fun _ => fun
  | [d1, d2] => { results := [.lit (.bool true)], args := [d1, d2] }
  | _ => none }
def fnLeaveLiftsRow : OpenClaim := { program := "ytpiiefmfiipabaadoor", sum := "bcf74aed9839866728469ea009b9043ed4585ac79016255f8c7c8a1f42e22393", func := "loop.example/steelmill/laws.FnLeaveLifts", spec := "fnLeaveLifts", named := ["internal/strconv.uint64pow10", "math/bits.deBruijn32tab", "math/bits.deBruijn64tab"], apart := false, laid := [("math/bits.deBruijn32tab", laid_math_bits_deBruijn32tab), ("math/bits.deBruijn64tab", laid_math_bits_deBruijn64tab), ("internal/strconv.uint64pow10", laid_internal_strconv_uint64pow10)] }
def FnLeaveLiftsSaid : Prop := fnLeaveLiftsRow.holds Tryd.pinned (OpenSpec.ofChange fnLeaveLiftsSpec)

/-- ITS FALSE NEIGHBOUR: 'it returns false'. Refute it at one input. -/
def fnLeaveLiftsWrong : ChangeSpec := { name := "fnLeaveLifts", fn := fun _ => fun
  | [d1, d2] => { results := [.lit (.bool false)], args := [d1, d2] }
  | _ => none }
def FnLeaveLiftsWrongFalsely : Prop := fnLeaveLiftsRow.holds Tryd.pinned (OpenSpec.ofChange fnLeaveLiftsWrong)

/-- 'laws.FnLeaveAll': WHATEVER THE INPUT: true; the input reads as it did. -/
def fnLeaveAllSpec : ChangeSpec := { name := "fnLeaveAll", fn := fun _ => fun
  | [d] => { results := [.lit (.bool true)], args := [d] }
  | _ => none }
def fnLeaveAllRow : OpenClaim := { program := "ytpiiefmfiipabaadoor", sum := "bcf74aed9839866728469ea009b9043ed4585ac79016255f8c7c8a1f42e22393", func := "loop.example/steelmill/laws.FnLeaveAll", spec := "fnLeaveAll", named := ["internal/strconv.uint64pow10", "math/bits.deBruijn32tab", "math/bits.deBruijn64tab"], apart := false, laid := [("math/bits.deBruijn32tab", laid_math_bits_deBruijn32tab), ("math/bits.deBruijn64tab", laid_math_bits_deBruijn64tab), ("internal/strconv.uint64pow10", laid_internal_strconv_uint64pow10)] }
def FnLeaveAllSaid : Prop := fnLeaveAllRow.holds Tryd.pinned (OpenSpec.ofChange fnLeaveAllSpec)

/-- ITS FALSE NEIGHBOUR: 'it returns false'. Refute it at one input. -/
def fnLeaveAllWrong : ChangeSpec := { name := "fnLeaveAll", fn := fun _ => fun
  | [d] => { results := [.lit (.bool false)], args := [d] }
  | _ => none }
def FnLeaveAllWrongFalsely : Prop := fnLeaveAllRow.holds Tryd.pinned (OpenSpec.ofChange fnLeaveAllWrong)

/-- 'laws.FnCoilIds': WHATEVER THE INPUT: true; the input reads as it did. -/
def fnCoilIdsSpec : ChangeSpec := { name := "fnCoilIds", fn := fun _ => fun
  | [d] => { results := [.lit (.bool true)], args := [d] }
  | _ => none }
def fnCoilIdsRow : OpenClaim := { program := "ytpiiefmfiipabaadoor", sum := "bcf74aed9839866728469ea009b9043ed4585ac79016255f8c7c8a1f42e22393", func := "loop.example/steelmill/laws.FnCoilIds", spec := "fnCoilIds", recurses := true, named := ["internal/strconv.uint64pow10", "math/bits.deBruijn32tab", "math/bits.deBruijn64tab"], apart := false, laid := [("math/bits.deBruijn32tab", laid_math_bits_deBruijn32tab), ("math/bits.deBruijn64tab", laid_math_bits_deBruijn64tab), ("internal/strconv.uint64pow10", laid_internal_strconv_uint64pow10)] }
def FnCoilIdsSaid : Prop := fnCoilIdsRow.holds Tryd.pinned (OpenSpec.ofChange fnCoilIdsSpec)

/-- ITS FALSE NEIGHBOUR: 'it returns false'. Refute it at one input. -/
def fnCoilIdsWrong : ChangeSpec := { name := "fnCoilIds", fn := fun _ => fun
  | [d] => { results := [.lit (.bool false)], args := [d] }
  | _ => none }
def FnCoilIdsWrongFalsely : Prop := fnCoilIdsRow.holds Tryd.pinned (OpenSpec.ofChange fnCoilIdsWrong)

/-- 'laws.FnCoilFind': WHATEVER THE INPUT: true; the input reads as it did. -/
def fnCoilFindSpec : ChangeSpec := { name := "fnCoilFind", fn := fun _ => fun
  | [d] => { results := [.lit (.bool true)], args := [d] }
  | _ => none }
def fnCoilFindRow : OpenClaim := { program := "ytpiiefmfiipabaadoor", sum := "bcf74aed9839866728469ea009b9043ed4585ac79016255f8c7c8a1f42e22393", func := "loop.example/steelmill/laws.FnCoilFind", spec := "fnCoilFind", recurses := true, named := ["internal/strconv.uint64pow10", "math/bits.deBruijn32tab", "math/bits.deBruijn64tab"], apart := false, laid := [("math/bits.deBruijn32tab", laid_math_bits_deBruijn32tab), ("math/bits.deBruijn64tab", laid_math_bits_deBruijn64tab), ("internal/strconv.uint64pow10", laid_internal_strconv_uint64pow10)] }
def FnCoilFindSaid : Prop := fnCoilFindRow.holds Tryd.pinned (OpenSpec.ofChange fnCoilFindSpec)

/-- ITS FALSE NEIGHBOUR: 'it returns false'. Refute it at one input. -/
def fnCoilFindWrong : ChangeSpec := { name := "fnCoilFind", fn := fun _ => fun
  | [d] => { results := [.lit (.bool false)], args := [d] }
  | _ => none }
def FnCoilFindWrongFalsely : Prop := fnCoilFindRow.holds Tryd.pinned (OpenSpec.ofChange fnCoilFindWrong)

/- THE SECOND FORM. 'bulk': how many values and letters a reading holds, each counted each time it is reached (what is shared counts as often as it is met; a slice's spare places count too). A statement '..UptoSaid' is the law's where the arguments, and the package variables that the reading takes, are together of bulk at most 1048576: NARROWER than '..Said'. Prove '..Said' where nothing that the law and all that it calls make is longer than what came in: it says more and counts as full. Else prove '..UptoSaid'. A law counts once. -/
mutual
def uptoBulk {H : Type} : DataW H → Nat
  | .lit (.string bytes) => bytes.length + 1
  | .lit _ => 1
  | .nil => 1
  | .ptr d => uptoBulk d + 1
  | .slice elems spare => uptoBulkAll elems + uptoBulkAll spare + 1
  | .agg parts => uptoBulkAll parts + 1
  | .iface _ d => uptoBulk d + 1
  | .map entries => uptoBulkEntries entries + 1
  | .held _ => 1
def uptoBulkAll {H : Type} : List (DataW H) → Nat
  | [] => 0
  | d :: r => uptoBulk d + uptoBulkAll r
def uptoBulkEntries {H : Type} : List (Lit × DataW H) → Nat
  | [] => 0
  | x :: r => uptoBulkEntry x + uptoBulkEntries r
def uptoBulkEntry {H : Type} : Lit × DataW H → Nat
  | (.string bytes, d) => bytes.length + uptoBulk d + 1
  | (_, d) => uptoBulk d + 1
 end
def uptoSmall : (H : Type) → List (DataW H) → Bool := fun _ ds => decide (uptoBulkAll ds ≤ 1048576)
def OpenSpec.upto (s : _root_.Go.ChangeSpec) : _root_.Go.OpenSpec := { _root_.Go.OpenSpec.ofChange s with cond := some uptoSmall }

/-- 'laws.FnPileValid', WHERE WHAT IT READS IS OF BULK AT MOST 1048576: true; the input reads as it did. -/
def fnPileValidUptoRow : OpenClaim := { program := "ytpiiefmfiipabaadoor", sum := "bcf74aed9839866728469ea009b9043ed4585ac79016255f8c7c8a1f42e22393", func := "loop.example/steelmill/laws.FnPileValid", spec := "fnPileValid", named := ["internal/strconv.uint64pow10", "math/bits.deBruijn32tab", "math/bits.deBruijn64tab"], apart := false, laid := [("math/bits.deBruijn32tab", laid_math_bits_deBruijn32tab), ("math/bits.deBruijn64tab", laid_math_bits_deBruijn64tab), ("internal/strconv.uint64pow10", laid_internal_strconv_uint64pow10)], narrowed := true }
def FnPileValidUptoSaid : Prop := fnPileValidUptoRow.holds Tryd.pinned (OpenSpec.upto fnPileValidSpec)

/-- 'laws.FnCoilAt', WHERE WHAT IT READS IS OF BULK AT MOST 1048576: true; the input reads as it did. -/
def fnCoilAtUptoRow : OpenClaim := { program := "ytpiiefmfiipabaadoor", sum := "bcf74aed9839866728469ea009b9043ed4585ac79016255f8c7c8a1f42e22393", func := "loop.example/steelmill/laws.FnCoilAt", spec := "fnCoilAt", named := ["internal/strconv.uint64pow10", "math/bits.deBruijn32tab", "math/bits.deBruijn64tab"], apart := false, laid := [("math/bits.deBruijn32tab", laid_math_bits_deBruijn32tab), ("math/bits.deBruijn64tab", laid_math_bits_deBruijn64tab), ("internal/strconv.uint64pow10", laid_internal_strconv_uint64pow10)], narrowed := true }
def FnCoilAtUptoSaid : Prop := fnCoilAtUptoRow.holds Tryd.pinned (OpenSpec.upto fnCoilAtSpec)

/-- 'laws.FnLeaveOk', WHERE WHAT IT READS IS OF BULK AT MOST 1048576: true; the input reads as it did. -/
def fnLeaveOkUptoRow : OpenClaim := { program := "ytpiiefmfiipabaadoor", sum := "bcf74aed9839866728469ea009b9043ed4585ac79016255f8c7c8a1f42e22393", func := "loop.example/steelmill/laws.FnLeaveOk", spec := "fnLeaveOk", named := ["internal/strconv.uint64pow10", "math/bits.deBruijn32tab", "math/bits.deBruijn64tab"], apart := false, laid := [("math/bits.deBruijn32tab", laid_math_bits_deBruijn32tab), ("math/bits.deBruijn64tab", laid_math_bits_deBruijn64tab), ("internal/strconv.uint64pow10", laid_internal_strconv_uint64pow10)], narrowed := true }
def FnLeaveOkUptoSaid : Prop := fnLeaveOkUptoRow.holds Tryd.pinned (OpenSpec.upto fnLeaveOkSpec)

/-- 'laws.FnCoilsOn', WHERE WHAT IT READS IS OF BULK AT MOST 1048576: true; the input reads as it did. -/
def fnCoilsOnUptoRow : OpenClaim := { program := "ytpiiefmfiipabaadoor", sum := "bcf74aed9839866728469ea009b9043ed4585ac79016255f8c7c8a1f42e22393", func := "loop.example/steelmill/laws.FnCoilsOn", spec := "fnCoilsOn", named := ["internal/strconv.uint64pow10", "math/bits.deBruijn32tab", "math/bits.deBruijn64tab"], apart := false, laid := [("math/bits.deBruijn32tab", laid_math_bits_deBruijn32tab), ("math/bits.deBruijn64tab", laid_math_bits_deBruijn64tab), ("internal/strconv.uint64pow10", laid_internal_strconv_uint64pow10)], narrowed := true }
def FnCoilsOnUptoSaid : Prop := fnCoilsOnUptoRow.holds Tryd.pinned (OpenSpec.upto fnCoilsOnSpec)

/-- 'laws.FnCoilTake', WHERE WHAT IT READS IS OF BULK AT MOST 1048576: true; the input reads as it did. -/
def fnCoilTakeUptoRow : OpenClaim := { program := "ytpiiefmfiipabaadoor", sum := "bcf74aed9839866728469ea009b9043ed4585ac79016255f8c7c8a1f42e22393", func := "loop.example/steelmill/laws.FnCoilTake", spec := "fnCoilTake", named := ["internal/strconv.uint64pow10", "math/bits.deBruijn32tab", "math/bits.deBruijn64tab"], apart := false, laid := [("math/bits.deBruijn32tab", laid_math_bits_deBruijn32tab), ("math/bits.deBruijn64tab", laid_math_bits_deBruijn64tab), ("internal/strconv.uint64pow10", laid_internal_strconv_uint64pow10)], narrowed := true }
def FnCoilTakeUptoSaid : Prop := fnCoilTakeUptoRow.holds Tryd.pinned (OpenSpec.upto fnCoilTakeSpec)

/-- 'laws.FnCoilPut', WHERE WHAT IT READS IS OF BULK AT MOST 1048576: true; the input reads as it did. -/
def fnCoilPutUptoRow : OpenClaim := { program := "ytpiiefmfiipabaadoor", sum := "bcf74aed9839866728469ea009b9043ed4585ac79016255f8c7c8a1f42e22393", func := "loop.example/steelmill/laws.FnCoilPut", spec := "fnCoilPut", named := ["internal/strconv.uint64pow10", "math/bits.deBruijn32tab", "math/bits.deBruijn64tab"], apart := false, laid := [("math/bits.deBruijn32tab", laid_math_bits_deBruijn32tab), ("math/bits.deBruijn64tab", laid_math_bits_deBruijn64tab), ("internal/strconv.uint64pow10", laid_internal_strconv_uint64pow10)], narrowed := true }
def FnCoilPutUptoSaid : Prop := fnCoilPutUptoRow.holds Tryd.pinned (OpenSpec.upto fnCoilPutSpec)

/-- 'laws.FnDigLifts', WHERE WHAT IT READS IS OF BULK AT MOST 1048576: true; the input reads as it did. -/
def fnDigLiftsUptoRow : OpenClaim := { program := "ytpiiefmfiipabaadoor", sum := "bcf74aed9839866728469ea009b9043ed4585ac79016255f8c7c8a1f42e22393", func := "loop.example/steelmill/laws.FnDigLifts", spec := "fnDigLifts", named := ["internal/strconv.uint64pow10", "math/bits.deBruijn32tab", "math/bits.deBruijn64tab"], apart := false, laid := [("math/bits.deBruijn32tab", laid_math_bits_deBruijn32tab), ("math/bits.deBruijn64tab", laid_math_bits_deBruijn64tab), ("internal/strconv.uint64pow10", laid_internal_strconv_uint64pow10)], narrowed := true }
def FnDigLiftsUptoSaid : Prop := fnDigLiftsUptoRow.holds Tryd.pinned (OpenSpec.upto fnDigLiftsSpec)

/-- 'laws.FnPileEmpty', WHERE WHAT IT READS IS OF BULK AT MOST 1048576: true; the input reads as it did. -/
def fnPileEmptyUptoRow : OpenClaim := { program := "ytpiiefmfiipabaadoor", sum := "bcf74aed9839866728469ea009b9043ed4585ac79016255f8c7c8a1f42e22393", func := "loop.example/steelmill/laws.FnPileEmpty", spec := "fnPileEmpty", recurses := true, named := ["internal/strconv.uint64pow10", "math/bits.deBruijn32tab", "math/bits.deBruijn64tab"], apart := false, laid := [("math/bits.deBruijn32tab", laid_math_bits_deBruijn32tab), ("math/bits.deBruijn64tab", laid_math_bits_deBruijn64tab), ("internal/strconv.uint64pow10", laid_internal_strconv_uint64pow10)], narrowed := true }
def FnPileEmptyUptoSaid : Prop := fnPileEmptyUptoRow.holds Tryd.pinned (OpenSpec.upto fnPileEmptySpec)

/-- 'laws.FnCoilLift', WHERE WHAT IT READS IS OF BULK AT MOST 1048576: true; the input reads as it did. -/
def fnCoilLiftUptoRow : OpenClaim := { program := "ytpiiefmfiipabaadoor", sum := "bcf74aed9839866728469ea009b9043ed4585ac79016255f8c7c8a1f42e22393", func := "loop.example/steelmill/laws.FnCoilLift", spec := "fnCoilLift", recurses := true, named := ["internal/strconv.uint64pow10", "math/bits.deBruijn32tab", "math/bits.deBruijn64tab"], apart := false, laid := [("math/bits.deBruijn32tab", laid_math_bits_deBruijn32tab), ("math/bits.deBruijn64tab", laid_math_bits_deBruijn64tab), ("internal/strconv.uint64pow10", laid_internal_strconv_uint64pow10)], narrowed := true }
def FnCoilLiftUptoSaid : Prop := fnCoilLiftUptoRow.holds Tryd.pinned (OpenSpec.upto fnCoilLiftSpec)

/-- 'laws.FnLiftRun', WHERE WHAT IT READS IS OF BULK AT MOST 1048576: true; the input reads as it did. -/
def fnLiftRunUptoRow : OpenClaim := { program := "ytpiiefmfiipabaadoor", sum := "bcf74aed9839866728469ea009b9043ed4585ac79016255f8c7c8a1f42e22393", func := "loop.example/steelmill/laws.FnLiftRun", spec := "fnLiftRun", recurses := true, named := ["internal/strconv.uint64pow10", "math/bits.deBruijn32tab", "math/bits.deBruijn64tab"], apart := false, laid := [("math/bits.deBruijn32tab", laid_math_bits_deBruijn32tab), ("math/bits.deBruijn64tab", laid_math_bits_deBruijn64tab), ("internal/strconv.uint64pow10", laid_internal_strconv_uint64pow10)], narrowed := true }
def FnLiftRunUptoSaid : Prop := fnLiftRunUptoRow.holds Tryd.pinned (OpenSpec.upto fnLiftRunSpec)

/-- 'laws.FnLeaveLifts', WHERE WHAT IT READS IS OF BULK AT MOST 1048576: true; the input reads as it did. -/
def fnLeaveLiftsUptoRow : OpenClaim := { program := "ytpiiefmfiipabaadoor", sum := "bcf74aed9839866728469ea009b9043ed4585ac79016255f8c7c8a1f42e22393", func := "loop.example/steelmill/laws.FnLeaveLifts", spec := "fnLeaveLifts", named := ["internal/strconv.uint64pow10", "math/bits.deBruijn32tab", "math/bits.deBruijn64tab"], apart := false, laid := [("math/bits.deBruijn32tab", laid_math_bits_deBruijn32tab), ("math/bits.deBruijn64tab", laid_math_bits_deBruijn64tab), ("internal/strconv.uint64pow10", laid_internal_strconv_uint64pow10)], narrowed := true }
def FnLeaveLiftsUptoSaid : Prop := fnLeaveLiftsUptoRow.holds Tryd.pinned (OpenSpec.upto fnLeaveLiftsSpec)

/-- 'laws.FnLeaveAll', WHERE WHAT IT READS IS OF BULK AT MOST 1048576: true; the input reads as it did. -/
def fnLeaveAllUptoRow : OpenClaim := { program := "ytpiiefmfiipabaadoor", sum := "bcf74aed9839866728469ea009b9043ed4585ac79016255f8c7c8a1f42e22393", func := "loop.example/steelmill/laws.FnLeaveAll", spec := "fnLeaveAll", named := ["internal/strconv.uint64pow10", "math/bits.deBruijn32tab", "math/bits.deBruijn64tab"], apart := false, laid := [("math/bits.deBruijn32tab", laid_math_bits_deBruijn32tab), ("math/bits.deBruijn64tab", laid_math_bits_deBruijn64tab), ("internal/strconv.uint64pow10", laid_internal_strconv_uint64pow10)], narrowed := true }
def FnLeaveAllUptoSaid : Prop := fnLeaveAllUptoRow.holds Tryd.pinned (OpenSpec.upto fnLeaveAllSpec)

/-- 'laws.FnCoilIds', WHERE WHAT IT READS IS OF BULK AT MOST 1048576: true; the input reads as it did. -/
def fnCoilIdsUptoRow : OpenClaim := { program := "ytpiiefmfiipabaadoor", sum := "bcf74aed9839866728469ea009b9043ed4585ac79016255f8c7c8a1f42e22393", func := "loop.example/steelmill/laws.FnCoilIds", spec := "fnCoilIds", recurses := true, named := ["internal/strconv.uint64pow10", "math/bits.deBruijn32tab", "math/bits.deBruijn64tab"], apart := false, laid := [("math/bits.deBruijn32tab", laid_math_bits_deBruijn32tab), ("math/bits.deBruijn64tab", laid_math_bits_deBruijn64tab), ("internal/strconv.uint64pow10", laid_internal_strconv_uint64pow10)], narrowed := true }
def FnCoilIdsUptoSaid : Prop := fnCoilIdsUptoRow.holds Tryd.pinned (OpenSpec.upto fnCoilIdsSpec)

/-- 'laws.FnCoilFind', WHERE WHAT IT READS IS OF BULK AT MOST 1048576: true; the input reads as it did. -/
def fnCoilFindUptoRow : OpenClaim := { program := "ytpiiefmfiipabaadoor", sum := "bcf74aed9839866728469ea009b9043ed4585ac79016255f8c7c8a1f42e22393", func := "loop.example/steelmill/laws.FnCoilFind", spec := "fnCoilFind", recurses := true, named := ["internal/strconv.uint64pow10", "math/bits.deBruijn32tab", "math/bits.deBruijn64tab"], apart := false, laid := [("math/bits.deBruijn32tab", laid_math_bits_deBruijn32tab), ("math/bits.deBruijn64tab", laid_math_bits_deBruijn64tab), ("internal/strconv.uint64pow10", laid_internal_strconv_uint64pow10)], narrowed := true }
def FnCoilFindUptoSaid : Prop := fnCoilFindUptoRow.holds Tryd.pinned (OpenSpec.upto fnCoilFindSpec)

end Rows
end Go.Proofs.YtpiiefmfiipabaaDoor
