/- Copies of rows of lifts in a law. No conditions but bounds on lengths. -/
import Derived.Test.YtpiiefmfiipabaaDoorLiftKit
import Derived.Test.YtpiiefmfiipabaaDoorLawKit
namespace Go.Proofs.YtpiiefmfiipabaaDoor
open Go.ChangeShapes Go.WideShapes Go.ChangeAt Go.RowKit Go.Deep
theorem liftInfo : (Tryd.prog.info? 59).map (fun i => (i.zero, i.size, i.bytes)) = some (some (.agg #[.bool false, .int .i64 0, .bool false, .int .i64 0]), 4, 32) := by kernel_rfl
theorem madeLifts (n : Nat) : (madeCells #[Value.bool false, Value.int .i64 0, Value.bool false, Value.int .i64 0] (n * 4)).toList = lc (List.replicate n l0) := by
  apply List.ext_getElem?
  intro j
  by_cases hj : j < n * 4
  · have hjn : j / 4 < n := by omega
    obtain ⟨s0, s1, s2, s3⟩ := lc_get (List.replicate n l0) (j / 4) (by simpa using hjn)
    simp only [madeCells, Array.toList_map, Array.toList_range, List.getElem?_map, List.getElem?_range hj, Option.map_some]
    have : j % 4 = 0 ∨ j % 4 = 1 ∨ j % 4 = 2 ∨ j % 4 = 3 := by omega
    rcases this with e | e | e | e
    · rw [show j / 4 * 4 = j by omega] at s0; rw [s0]; simp [e, l0]
    · rw [show j / 4 * 4 + 1 = j by omega] at s1; rw [s1]; simp [e, l0]
    · rw [show j / 4 * 4 + 2 = j by omega] at s2; rw [s2]; simp [e, l0]
    · rw [show j / 4 * 4 + 3 = j by omega] at s3; rw [s3]; simp [e, l0]
  · rw [List.getElem?_eq_none (by simp [madeCells]; omega), List.getElem?_eq_none (by rw [lc_len]; simp; omega)]
end Go.Proofs.YtpiiefmfiipabaaDoor
