/- What the small rolling functions compute, the program's and the reference's, for every argument. No conditions. -/
import Derived.Test.YtlblojmjfkcdeaaRows
import Derived.Test.YtlblojmjfkcdeaaLib
import Derived.WalkLawsBesides
import Derived.Deep.RegionHeld3
namespace Go.Proofs.Ytlblojmjfkcdeaa
open Go.ChangeShapes Go.WideShapes Go.ChangeAt Go.RowKit Go.Deep

def inR (n lo hi : Int) : Bool := decide (lo ≤ n) && decide (n ≤ hi)
theorem inR_iff {n lo hi : Int} : inR n lo hi = true ↔ lo ≤ n ∧ n ≤ hi := by simp [inR]
theorem inR_not {n lo hi : Int} : ¬ inR n lo hi = true ↔ n < lo ∨ hi < n := by rw [inR_iff]; omega
theorem inR_false {n lo hi : Int} : inR n lo hi = false ↔ n < lo ∨ hi < n := by rw [← inR_not]; simp

theorem within_any (n lo hi : Int) (w : World) :
    Calls Try.prog 62 #[.int .i64 n, .int .i64 lo, .int .i64 hi] w fun e w' => e = .returned (.bool (inR n lo hi)) ∧ w = w' := by
  by_cases h : lo ≤ n
  · go_enter Try.func62, Try.ntmps62
    go_wp2
    go_ret
    simp [inR, h]
  · go_enter Try.func62, Try.ntmps62
    go_wp2
    go_ret
    simp [inR]; omega
theorem l1In_any (n lo hi : Int) (w : World) :
    Calls Try.prog 61 #[.int .i64 n, .int .i64 lo, .int .i64 hi] w fun e w' => e = .returned (.bool (inR n lo hi)) ∧ w = w' := by
  by_cases h : lo ≤ n
  · go_enter Try.func61, Try.ntmps61
    go_wp2
    go_ret
    simp [inR, h]
  · go_enter Try.func61, Try.ntmps61
    go_wp2
    go_ret
    simp [inR]; omega

theorem ret_bool {a b : Bool} (h : a = b) : Ending.returned (.bool a) = Ending.returned (.bool b) := by rw [h]
theorem ret_int {a b : Int} (h : a = b) : Ending.returned (.int .i64 a) = Ending.returned (.int .i64 b) := by rw [h]

def rollMay (f t p : Int) : Bool := inR f 1 400 && (inR t 1 f && (inR p 1 60 && decide (f * (100 - p) ≤ 100 * t)))
theorem mul_bd {f p : Int} (h1 : 1 ≤ f) (h2 : f ≤ 400) (h3 : 1 ≤ p) (h4 : p ≤ 60) : 0 ≤ f * (100 - p) ∧ f * (100 - p) ≤ 40000 := by
  have a : 0 ≤ f * (100 - p) := Int.mul_nonneg (by omega) (by omega)
  have b : f * (100 - p) ≤ 400 * 100 := Int.mul_le_mul (by omega) (by omega) (by omega) (by omega)
  omega
theorem rollMay_any (f t p : Int) (w : World) :
    Calls Try.prog 19 #[.int .i64 f, .int .i64 t, .int .i64 p] w fun e w' => e = .returned (.bool (rollMay f t p)) ∧ w = w' := by
  by_cases h : inR f 1 400 = true ∧ inR t 1 f = true ∧ inR p 1 60 = true
  · obtain ⟨h1, h2, h3⟩ := h
    have b1 := inR_iff.1 h1
    have b2 := inR_iff.1 h2
    have b3 := inR_iff.1 h3
    obtain ⟨m1, m2⟩ := mul_bd b1.1 b1.2 b3.1 b3.2
    obtain ⟨b1, b1'⟩ := b1
    obtain ⟨b2, b2'⟩ := b2
    obtain ⟨b3, b3'⟩ := b3
    go_enter Try.func19, Try.ntmps19
    go_wp2_with (go_at_call 62; refine (within_any _ _ _ _).mono ?_; rintro e w' ⟨rfl, rfl⟩)
    all_goals (go_ret; exact ⟨ret_bool (by simp [rollMay, h1, h2, h3]), rfl⟩)
  · go_enter Try.func19, Try.ntmps19
    go_wp2_with (go_at_call 62; refine (within_any _ _ _ _).mono ?_; rintro e w' ⟨rfl, rfl⟩)
    all_goals (go_ret; first | (exact absurd ⟨‹_›, ‹_›, ‹_›⟩ h) | exact ⟨ret_bool (by simp [rollMay, *]), rfl⟩)
theorem rollMay_spec (f t p : Int) (w : World) :
    Calls Try.prog 18 #[.int .i64 f, .int .i64 t, .int .i64 p] w fun e w' => e = .returned (.bool (rollMay f t p)) ∧ w = w' := by
  by_cases h : inR f 1 400 = true ∧ inR t 1 f = true ∧ inR p 1 60 = true
  · obtain ⟨h1, h2, h3⟩ := h
    have b1 := inR_iff.1 h1
    have b2 := inR_iff.1 h2
    have b3 := inR_iff.1 h3
    obtain ⟨m1, m2⟩ := mul_bd b1.1 b1.2 b3.1 b3.2
    obtain ⟨b1, b1'⟩ := b1
    obtain ⟨b2, b2'⟩ := b2
    obtain ⟨b3, b3'⟩ := b3
    go_enter Try.func18, Try.ntmps18
    go_wp2_with (go_at_call 61; refine (l1In_any _ _ _ _).mono ?_; rintro e w' ⟨rfl, rfl⟩)
    all_goals (go_ret; exact ⟨ret_bool (by simp [rollMay, h1, h2, h3]), rfl⟩)
  · go_enter Try.func18, Try.ntmps18
    go_wp2_with (go_at_call 61; refine (l1In_any _ _ _ _).mono ?_; rintro e w' ⟨rfl, rfl⟩)
    all_goals (go_ret; first | (exact absurd ⟨‹_›, ‹_›, ‹_›⟩ h) | exact ⟨ret_bool (by simp [rollMay, *]), rfl⟩)
end Go.Proofs.Ytlblojmjfkcdeaa
