/- Rows of sheets marked by a law. No conditions but bounds on lengths. -/
import Derived.Test.YtlblojmjfkcdeaaSheets
namespace Go.Proofs.Ytlblojmjfkcdeaa
open Go.ChangeShapes Go.WideShapes Go.ChangeAt Go.RowKit Go.Deep
set_option maxHeartbeats 1600000 in
theorem markSheetS_any (g c : Nat) (zs : List (Int × Int)) (k0 : Int) (w : World) (hn : zs.length ≤ 1048576) (h0 : 0 ≤ k0) (h1 : k0 ≤ 1099511627776) (q : Row w g 32 (sc zs)) :
    Calls Try.prog 55 #[.slice (some ⟨g, 0, none⟩) zs.length c, .int .i64 k0] w fun e w' => e = .returned (.int .i64 (k0 + 2 * (zs.length : Int))) ∧ w.grownBy w' (some g) := by
  have hl := sc_len zs
  generalize sc zs = cs0 at *
  generalize zs.length = n at *
  go_enter Try.func55, Try.ntmps55
  go_wp2
  go_loopw [1, 5] (fun v i wr => ∃ (k : Nat) (cs : List Value), k ≤ n ∧ i = .int .i64 k ∧ v = .int .i64 (k0 + 2 * (k : Int)) ∧ cs.length = n * 2 ∧ Row wr g 32 cs ∧ w.grownBy wr (some g)) (fun _ i _ => n - (intOf i).toNat)
  case atStart => exact ⟨0, cs0, Nat.zero_le _, rfl, by simp, hl, q, World.grownBy.refl _ _⟩
  case round =>
    obtain ⟨k, cs, hk, rfl, rfl, hz, q4, hg⟩ := hrel
    by_cases hlt : k < n
    · have d1 := q4.cell (j := k * 2) (by omega)
      have d2 := q4.cell (j := k * 2 + 1) (by omega)
      have f1 := q4.frozen (k * 2)
      have f2 := q4.frozen (k * 2 + 1)
      go_wp2_with fail
      go_roundw
      case rel =>
        refine ⟨k + 1, (cs.set (k * 2) (.int .i64 (k0 + 2 * (k : Int)))).set (k * 2 + 1) (.int .i64 (k0 + 2 * (k : Int) + 1)), by omega, by go_num, by go_num, by simpa using hz, ?_, ?_⟩
        · exact (q4.set (k * 2) _).set (k * 2 + 1) _
        · exact grown_trans (grown_trans hg (grown_set _ ⟨g, k * 2, none⟩ _)) (grown_set _ ⟨g, k * 2 + 1, none⟩ _)
      case measure => simp [intOf]; omega
    · obtain rfl : k = n := by omega
      go_wp2
      go_ret
      exact ⟨rfl, hg⟩
end Go.Proofs.Ytlblojmjfkcdeaa
