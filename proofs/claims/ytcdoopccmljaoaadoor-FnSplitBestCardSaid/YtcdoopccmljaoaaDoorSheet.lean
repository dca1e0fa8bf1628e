/- What the functions on sheets and jumps compute, the program's and the reference's, for every argument. No conditions. -/
import Derived.Test.YtcdoopccmljaoaaDoorRoll
import Derived.Deep.RegionHeld3
namespace Go.Proofs.YtcdoopccmljaoaaDoor
open Go.ChangeShapes Go.WideShapes Go.ChangeAt Go.RowKit Go.Deep

def sheetValid (a b : Int) : Bool := inR a 1 200 && inR b 1 400
def jumpValid (a b : Int) : Bool := inR a 0 400 && inR b 0 400
theorem sheetValid_any (a b : Int) (w : World) :
    Calls Tryd.prog 20 #[.agg #[.int .i64 a, .int .i64 b]] w fun e w' => e = .returned (.bool (sheetValid a b)) ∧ w.alloc (.cells #[.int .i64 a, .int .i64 b] 24) = w' := by
  go_enter Tryd.func20, Tryd.ntmps20
  go_wp2_with (go_at_call 75; refine (within_any _ _ _ _).mono ?_; rintro e w' ⟨rfl, rfl⟩)
  all_goals (go_ret; exact ⟨ret_bool (by simp [sheetValid, *]), rfl⟩)
theorem jumpValid_any (a b : Int) (w : World) :
    Calls Tryd.prog 27 #[.agg #[.int .i64 a, .int .i64 b]] w fun e w' => e = .returned (.bool (jumpValid a b)) ∧ w.alloc (.cells #[.int .i64 a, .int .i64 b] 32) = w' := by
  go_enter Tryd.func27, Tryd.ntmps27
  go_wp2_with (go_at_call 75; refine (within_any _ _ _ _).mono ?_; rintro e w' ⟨rfl, rfl⟩)
  all_goals (go_ret; exact ⟨ret_bool (by simp [jumpValid, *]), rfl⟩)
theorem sheetValid_spec (a b : Int) (w : World) :
    Calls Tryd.prog 21 #[.agg #[.int .i64 a, .int .i64 b]] w fun e w' => e = .returned (.bool (sheetValid a b)) ∧ w.alloc (.cells #[.int .i64 a, .int .i64 b] 24) = w' := by
  go_enter Tryd.func21, Tryd.ntmps21
  go_wp2_with (go_at_call 76; refine (l1In_any _ _ _ _).mono ?_; rintro e w' ⟨rfl, rfl⟩)
  all_goals (go_ret; exact ⟨ret_bool (by simp [sheetValid, *]), rfl⟩)
theorem jumpValid_spec (a b : Int) (w : World) :
    Calls Tryd.prog 28 #[.agg #[.int .i64 a, .int .i64 b]] w fun e w' => e = .returned (.bool (jumpValid a b)) ∧ w.alloc (.cells #[.int .i64 a, .int .i64 b] 32) = w' := by
  go_enter Tryd.func28, Tryd.ntmps28
  go_wp2_with (go_at_call 76; refine (l1In_any _ _ _ _).mono ?_; rintro e w' ⟨rfl, rfl⟩)
  all_goals (go_ret; exact ⟨ret_bool (by simp [jumpValid, *]), rfl⟩)
def jumpMay (a b c d j k : Int) : Bool := sheetValid a b && (sheetValid c d && (jumpValid j k && (inR (a - c) 0 j && inR (b - d) (-k) k)))
theorem jumpMay_any (a b c d j k : Int) (w : World) :
    Calls Tryd.prog 36 #[.agg #[.int .i64 a, .int .i64 b], .agg #[.int .i64 c, .int .i64 d], .agg #[.int .i64 j, .int .i64 k]] w fun e w' => e = .returned (.bool (jumpMay a b c d j k)) ∧ Below w.heap.size w w' := by
  by_cases h : sheetValid a b = true ∧ sheetValid c d = true ∧ jumpValid j k = true
  · obtain ⟨h1, h2, h3⟩ := h
    obtain ⟨u1, u2⟩ := Bool.and_eq_true_iff.1 h1
    obtain ⟨u3, u4⟩ := Bool.and_eq_true_iff.1 h2
    obtain ⟨u5, u6⟩ := Bool.and_eq_true_iff.1 h3
    obtain ⟨b1, b1'⟩ := inR_iff.1 u1
    obtain ⟨b2, b2'⟩ := inR_iff.1 u2
    obtain ⟨b3, b3'⟩ := inR_iff.1 u3
    obtain ⟨b4, b4'⟩ := inR_iff.1 u4
    obtain ⟨b5, b5'⟩ := inR_iff.1 u5
    obtain ⟨b6, b6'⟩ := inR_iff.1 u6
    clear u1 u2 u3 u4 u5 u6
    go_enter Tryd.func36, Tryd.ntmps36
    go_wp2_with (first | (go_at_call 20; refine (sheetValid_any _ _ _).mono ?_; rintro e w' ⟨rfl, rfl⟩) | (go_at_call 27; refine (jumpValid_any _ _ _).mono ?_; rintro e w' ⟨rfl, rfl⟩) | (go_at_call 75; refine (within_any _ _ _ _).mono ?_; rintro e w' ⟨rfl, rfl⟩))
    all_goals (go_ret; exact ⟨ret_bool (by simp [jumpMay, *]), by go_grown⟩)
  · go_enter Tryd.func36, Tryd.ntmps36
    go_wp2_with (first | (go_at_call 20; refine (sheetValid_any _ _ _).mono ?_; rintro e w' ⟨rfl, rfl⟩) | (go_at_call 27; refine (jumpValid_any _ _ _).mono ?_; rintro e w' ⟨rfl, rfl⟩) | (go_at_call 75; refine (within_any _ _ _ _).mono ?_; rintro e w' ⟨rfl, rfl⟩))
    all_goals first
      | exact (h ⟨by assumption, by assumption, by assumption⟩).elim
      | (go_ret; exact ⟨ret_bool (by simp [jumpMay, *]), by go_grown⟩)
theorem jumpMay_spec (a b c d j k : Int) (w : World) :
    Calls Tryd.prog 37 #[.agg #[.int .i64 a, .int .i64 b], .agg #[.int .i64 c, .int .i64 d], .agg #[.int .i64 j, .int .i64 k]] w fun e w' => e = .returned (.bool (jumpMay a b c d j k)) ∧ Below w.heap.size w w' := by
  by_cases h : sheetValid a b = true ∧ sheetValid c d = true ∧ jumpValid j k = true
  · obtain ⟨h1, h2, h3⟩ := h
    obtain ⟨u1, u2⟩ := Bool.and_eq_true_iff.1 h1
    obtain ⟨u3, u4⟩ := Bool.and_eq_true_iff.1 h2
    obtain ⟨u5, u6⟩ := Bool.and_eq_true_iff.1 h3
    obtain ⟨b1, b1'⟩ := inR_iff.1 u1
    obtain ⟨b2, b2'⟩ := inR_iff.1 u2
    obtain ⟨b3, b3'⟩ := inR_iff.1 u3
    obtain ⟨b4, b4'⟩ := inR_iff.1 u4
    obtain ⟨b5, b5'⟩ := inR_iff.1 u5
    obtain ⟨b6, b6'⟩ := inR_iff.1 u6
    clear u1 u2 u3 u4 u5 u6
    go_enter Tryd.func37, Tryd.ntmps37
    go_wp2_with (first | (go_at_call 21; refine (sheetValid_spec _ _ _).mono ?_; rintro e w' ⟨rfl, rfl⟩) | (go_at_call 28; refine (jumpValid_spec _ _ _).mono ?_; rintro e w' ⟨rfl, rfl⟩) | (go_at_call 76; refine (l1In_any _ _ _ _).mono ?_; rintro e w' ⟨rfl, rfl⟩))
    all_goals (go_ret; exact ⟨ret_bool (by simp [jumpMay, *]), by go_grown⟩)
  · go_enter Tryd.func37, Tryd.ntmps37
    go_wp2_with (first | (go_at_call 21; refine (sheetValid_spec _ _ _).mono ?_; rintro e w' ⟨rfl, rfl⟩) | (go_at_call 28; refine (jumpValid_spec _ _ _).mono ?_; rintro e w' ⟨rfl, rfl⟩) | (go_at_call 76; refine (l1In_any _ _ _ _).mono ?_; rintro e w' ⟨rfl, rfl⟩))
    all_goals first
      | exact (h ⟨by assumption, by assumption, by assumption⟩).elim
      | (go_ret; exact ⟨ret_bool (by simp [jumpMay, *]), by go_grown⟩)
end Go.Proofs.YtcdoopccmljaoaaDoor
