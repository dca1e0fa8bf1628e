/- What the small rolling functions compute, the program's and the reference's, for every argument. No conditions. -/
import Derived.Test.YtcdoopccmljaoaaDoorRows
import Derived.Test.YtcdoopccmljaoaaDoorLib
import Derived.WalkLawsBesides

import Derived.LoopTactic
namespace Go.Proofs.YtcdoopccmljaoaaDoor
open Go.ChangeShapes Go.WideShapes Go.ChangeAt Go.RowKit Go.Deep

def inR (n lo hi : Int) : Bool := decide (lo ≤ n) && decide (n ≤ hi)
theorem inR_iff {n lo hi : Int} : inR n lo hi = true ↔ lo ≤ n ∧ n ≤ hi := by simp [inR]
theorem inR_not {n lo hi : Int} : ¬ inR n lo hi = true ↔ n < lo ∨ hi < n := by rw [inR_iff]; omega
theorem inR_false {n lo hi : Int} : inR n lo hi = false ↔ n < lo ∨ hi < n := by rw [← inR_not]; simp
theorem inR_mk {n lo hi : Int} (h1 : lo ≤ n) (h2 : n ≤ hi) : inR n lo hi = true := inR_iff.2 ⟨h1, h2⟩
theorem ret_bool {a b : Bool} (h : a = b) : Ending.returned (.bool a) = Ending.returned (.bool b) := by rw [h]
theorem notF {b : Bool} (h : (!b) = false) : b = true := by simpa using h
theorem notT {b : Bool} (h : (!b) = true) : b = false := by simpa using h
theorem ret_int {a b : Int} (h : a = b) : Ending.returned (.int .i64 a) = Ending.returned (.int .i64 b) := by rw [h]

theorem within_any (n lo hi : Int) (w : World) :
    Calls Tryd.prog 75 #[.int .i64 n, .int .i64 lo, .int .i64 hi] w fun e w' => e = .returned (.bool (inR n lo hi)) ∧ w = w' := by
  by_cases h : lo ≤ n
  · go_enter Tryd.func75, Tryd.ntmps75
    go_wp2
    go_ret
    simp [inR, h]
  · go_enter Tryd.func75, Tryd.ntmps75
    go_wp2
    go_ret
    simp [inR]; omega
theorem l1In_any (n lo hi : Int) (w : World) :
    Calls Tryd.prog 76 #[.int .i64 n, .int .i64 lo, .int .i64 hi] w fun e w' => e = .returned (.bool (inR n lo hi)) ∧ w = w' := by
  by_cases h : lo ≤ n
  · go_enter Tryd.func76, Tryd.ntmps76
    go_wp2
    go_ret
    simp [inR, h]
  · go_enter Tryd.func76, Tryd.ntmps76
    go_wp2
    go_ret
    simp [inR]; omega

def rollMay (f t p : Int) : Bool := inR f 1 400 && (inR t 1 f && (inR p 1 60 && decide (f * (100 - p) ≤ 100 * t)))
theorem mul_bd {f p : Int} (h1 : 1 ≤ f) (h2 : f ≤ 400) (h3 : 1 ≤ p) (h4 : p ≤ 60) : 0 ≤ f * (100 - p) ∧ f * (100 - p) ≤ 40000 := by
  have a : 0 ≤ f * (100 - p) := Int.mul_nonneg (by omega) (by omega)
  have b : f * (100 - p) ≤ 400 * 100 := Int.mul_le_mul (by omega) (by omega) (by omega) (by omega)
  omega
theorem rollMay_any (f t p : Int) (w : World) :
    Calls Tryd.prog 24 #[.int .i64 f, .int .i64 t, .int .i64 p] w fun e w' => e = .returned (.bool (rollMay f t p)) ∧ w = w' := by
  by_cases h : inR f 1 400 = true ∧ inR t 1 f = true ∧ inR p 1 60 = true
  · obtain ⟨h1, h2, h3⟩ := h
    obtain ⟨b1, b1'⟩ := inR_iff.1 h1
    obtain ⟨b2, b2'⟩ := inR_iff.1 h2
    obtain ⟨b3, b3'⟩ := inR_iff.1 h3
    obtain ⟨m1, m2⟩ := mul_bd b1 b1' b3 b3'
    go_enter Tryd.func24, Tryd.ntmps24
    go_wp2_with (go_at_call 75; refine (within_any _ _ _ _).mono ?_; rintro e w' ⟨rfl, rfl⟩)
    all_goals (go_ret; exact ⟨ret_bool (by simp [rollMay, h1, h2, h3]), rfl⟩)
  · go_enter Tryd.func24, Tryd.ntmps24
    go_wp2_with (go_at_call 75; refine (within_any _ _ _ _).mono ?_; rintro e w' ⟨rfl, rfl⟩)
    all_goals (go_ret; first | (exact absurd ⟨‹_›, ‹_›, ‹_›⟩ h) | exact ⟨ret_bool (by simp [rollMay, *]), rfl⟩)
theorem rollMay_spec (f t p : Int) (w : World) :
    Calls Tryd.prog 25 #[.int .i64 f, .int .i64 t, .int .i64 p] w fun e w' => e = .returned (.bool (rollMay f t p)) ∧ w = w' := by
  by_cases h : inR f 1 400 = true ∧ inR t 1 f = true ∧ inR p 1 60 = true
  · obtain ⟨h1, h2, h3⟩ := h
    obtain ⟨b1, b1'⟩ := inR_iff.1 h1
    obtain ⟨b2, b2'⟩ := inR_iff.1 h2
    obtain ⟨b3, b3'⟩ := inR_iff.1 h3
    obtain ⟨m1, m2⟩ := mul_bd b1 b1' b3 b3'
    go_enter Tryd.func25, Tryd.ntmps25
    go_wp2_with (go_at_call 76; refine (l1In_any _ _ _ _).mono ?_; rintro e w' ⟨rfl, rfl⟩)
    all_goals (go_ret; exact ⟨ret_bool (by simp [rollMay, h1, h2, h3]), rfl⟩)
  · go_enter Tryd.func25, Tryd.ntmps25
    go_wp2_with (go_at_call 76; refine (l1In_any _ _ _ _).mono ?_; rintro e w' ⟨rfl, rfl⟩)
    all_goals (go_ret; first | (exact absurd ⟨‹_›, ‹_›, ‹_›⟩ h) | exact ⟨ret_bool (by simp [rollMay, *]), rfl⟩)

def rollLeast (f p : Int) : Int := if inR f 1 400 = true ∧ inR p 1 60 = true then (f * (100 - p) + 99) / 100 else -1
theorem rollMay_self (f p : Int) : rollMay f f p = true ↔ inR f 1 400 = true ∧ inR p 1 60 = true := by
  simp only [rollMay, Bool.and_eq_true, decide_eq_true_eq]
  constructor
  · rintro ⟨h1, _, h3, _⟩; exact ⟨h1, h3⟩
  · rintro ⟨h1, h3⟩
    have b1 := inR_iff.1 h1
    have b3 := inR_iff.1 h3
    refine ⟨h1, inR_mk (by omega) (by omega), h3, ?_⟩
    rw [Int.mul_comm 100 f]
    exact Int.mul_le_mul_of_nonneg_left (by omega) (by omega)
theorem rollLeast_any (f p : Int) (w : World) :
    Calls Tryd.prog 33 #[.int .i64 f, .int .i64 p] w fun e w' => e = .returned (.int .i64 (rollLeast f p)) ∧ w = w' := by
  by_cases h : inR f 1 400 = true ∧ inR p 1 60 = true
  · have hs := (rollMay_self f p).2 h
    obtain ⟨h1, h2⟩ := h
    obtain ⟨b1, b1'⟩ := inR_iff.1 h1
    obtain ⟨b2, b2'⟩ := inR_iff.1 h2
    obtain ⟨m1, m2⟩ := mul_bd b1 b1' b2 b2'
    go_enter Tryd.func33, Tryd.ntmps33
    go_wp2_with (go_at_call 75; refine (within_any _ _ _ _).mono ?_; rintro e w' ⟨rfl, rfl⟩)
    all_goals (go_ret; exact ⟨ret_int (by simp [rollLeast, h1, h2]), rfl⟩)
  · have hs : rollMay f f p = false := by
      cases e : rollMay f f p
      · rfl
      · exact absurd ((rollMay_self f p).1 e) h
    go_enter Tryd.func33, Tryd.ntmps33
    go_wp2_with (go_at_call 75; refine (within_any _ _ _ _).mono ?_; rintro e w' ⟨rfl, rfl⟩)
    all_goals first | exact (h ⟨by assumption, notF (by assumption)⟩).elim | (go_ret; exact ⟨ret_int (by rw [rollLeast, if_neg h]), rfl⟩)
theorem rollLeast_spec (f p : Int) (w : World) :
    Calls Tryd.prog 34 #[.int .i64 f, .int .i64 p] w fun e w' => e = .returned (.int .i64 (rollLeast f p)) ∧ w = w' := by
  by_cases h : inR f 1 400 = true ∧ inR p 1 60 = true
  · have hs := (rollMay_self f p).2 h
    obtain ⟨h1, h2⟩ := h
    obtain ⟨b1, b1'⟩ := inR_iff.1 h1
    obtain ⟨b2, b2'⟩ := inR_iff.1 h2
    obtain ⟨m1, m2⟩ := mul_bd b1 b1' b2 b2'
    go_enter Tryd.func34, Tryd.ntmps34
    go_wp2_with (go_at_call 25; refine (rollMay_spec _ _ _ _).mono ?_; rintro e w' ⟨rfl, rfl⟩)
    all_goals (go_ret; exact ⟨ret_int (by simp [rollLeast, h1, h2]), rfl⟩)
  · have hs : rollMay f f p = false := by
      cases e : rollMay f f p
      · rfl
      · exact absurd ((rollMay_self f p).1 e) h
    go_enter Tryd.func34, Tryd.ntmps34
    go_wp2_with (go_at_call 25; refine (rollMay_spec _ _ _ _).mono ?_; rintro e w' ⟨rfl, rfl⟩)
    all_goals first | exact (h ⟨by assumption, notF (by assumption)⟩).elim | (go_ret; exact ⟨ret_int (by rw [rollLeast, if_neg h]), rfl⟩)

def speedOk (s f t : Int) : Prop := inR s 0 999 = true ∧ inR f 1 400 = true ∧ inR t 1 f = true
instance (s f t : Int) : Decidable (speedOk s f t) := inferInstanceAs (Decidable (_ ∧ _ ∧ _))
def speedOut (s f t : Int) : Int := if speedOk s f t then s * f / t else -1
theorem speed_bd {s f : Int} (h1 : 0 ≤ s) (h2 : s ≤ 999) (h3 : 1 ≤ f) (h4 : f ≤ 400) : 0 ≤ s * f ∧ s * f ≤ 399600 := by
  have a : 0 ≤ s * f := Int.mul_nonneg (by omega) (by omega)
  have b : s * f ≤ 999 * 400 := Int.mul_le_mul (by omega) (by omega) (by omega) (by omega)
  omega
theorem speedOut_any (s f t : Int) (w : World) :
    Calls Tryd.prog 30 #[.int .i64 s, .int .i64 f, .int .i64 t] w fun e w' => e = .returned (.int .i64 (speedOut s f t)) ∧ w = w' := by
  by_cases h : speedOk s f t
  · obtain ⟨h1, h2, h3⟩ := h
    obtain ⟨b1, b1'⟩ := inR_iff.1 h1
    obtain ⟨b2, b2'⟩ := inR_iff.1 h2
    obtain ⟨b3, b3'⟩ := inR_iff.1 h3
    obtain ⟨m1, m2⟩ := speed_bd b1 b1' b2 b2'
    have q1 : 0 ≤ s * f / t := Int.ediv_nonneg m1 (by omega)
    have q2 : s * f / t ≤ 399600 := Int.le_trans (Int.ediv_le_self _ m1) m2
    go_enter Tryd.func30, Tryd.ntmps30
    go_wp2_with (go_at_call 75; refine (within_any _ _ _ _).mono ?_; rintro e w' ⟨rfl, rfl⟩)
    all_goals (go_ret; exact ⟨ret_int (by rw [speedOut, if_pos ⟨h1, h2, h3⟩]), rfl⟩)
  · go_enter Tryd.func30, Tryd.ntmps30
    go_wp2_with (go_at_call 75; refine (within_any _ _ _ _).mono ?_; rintro e w' ⟨rfl, rfl⟩)
    all_goals first | exact (h ⟨by assumption, by assumption, notF (by assumption)⟩).elim | (go_ret; exact ⟨ret_int (by rw [speedOut, if_neg h]), rfl⟩)
theorem speedOut_spec (s f t : Int) (w : World) :
    Calls Tryd.prog 31 #[.int .i64 s, .int .i64 f, .int .i64 t] w fun e w' => e = .returned (.int .i64 (speedOut s f t)) ∧ w = w' := by
  by_cases h : speedOk s f t
  · obtain ⟨h1, h2, h3⟩ := h
    obtain ⟨b1, b1'⟩ := inR_iff.1 h1
    obtain ⟨b2, b2'⟩ := inR_iff.1 h2
    obtain ⟨b3, b3'⟩ := inR_iff.1 h3
    obtain ⟨m1, m2⟩ := speed_bd b1 b1' b2 b2'
    have q1 : 0 ≤ s * f / t := Int.ediv_nonneg m1 (by omega)
    have q2 : s * f / t ≤ 399600 := Int.le_trans (Int.ediv_le_self _ m1) m2
    go_enter Tryd.func31, Tryd.ntmps31
    go_wp2_with (go_at_call 76; refine (l1In_any _ _ _ _).mono ?_; rintro e w' ⟨rfl, rfl⟩)
    all_goals (go_ret; exact ⟨ret_int (by rw [speedOut, if_pos ⟨h1, h2, h3⟩]), rfl⟩)
  · go_enter Tryd.func31, Tryd.ntmps31
    go_wp2_with (go_at_call 76; refine (l1In_any _ _ _ _).mono ?_; rintro e w' ⟨rfl, rfl⟩)
    all_goals first | exact (h ⟨by assumption, by assumption, notF (by assumption)⟩).elim | (go_ret; exact ⟨ret_int (by rw [speedOut, if_neg h]), rfl⟩)

def safeOk (m f t : Int) : Prop := inR m 0 99999 = true ∧ inR f 1 400 = true ∧ inR t 1 f = true
instance (s f t : Int) : Decidable (safeOk s f t) := inferInstanceAs (Decidable (_ ∧ _ ∧ _))
/-- The greatest speed without the bound 999. -/
def safeX (m f t : Int) : Int := ((m + 1) * t - 1) / f
def speedSafe (m f t : Int) : Int := if safeOk m f t then min (safeX m f t) 999 else -1
theorem speed_test {m f t k : Int} (h : safeOk m f t) (h0 : 0 ≤ k) (h1 : k ≤ 999) : m < speedOut k f t ↔ safeX m f t < k := by
  obtain ⟨_, h2, h3⟩ := h
  have b2 := inR_iff.1 h2
  have b3 := inR_iff.1 h3
  rw [speedOut, if_pos ⟨inR_mk h0 h1, h2, h3⟩, safeX]
  have e1 : m < k * f / t ↔ (m + 1) * t ≤ k * f := by rw [← Int.add_one_le_iff, Int.le_ediv_iff_mul_le (by omega)]
  have e2 : ((m + 1) * t - 1) / f < k ↔ (m + 1) * t - 1 < k * f := Int.ediv_lt_iff_lt_mul (by omega)
  rw [e1, e2]; omega
theorem safeX_bd {m f t : Int} (h : safeOk m f t) : 0 ≤ safeX m f t ∧ safeX m f t ≤ 40000000 ∧ 0 ≤ (m + 1) * t ∧ 1 ≤ (m + 1) * t ∧ (m + 1) * t ≤ 40000000 := by
  obtain ⟨h1, h2, h3⟩ := h
  have b1 := inR_iff.1 h1
  have b2 := inR_iff.1 h2
  have b3 := inR_iff.1 h3
  have p0 : 0 < (m + 1) * t := Int.mul_pos (by omega) (by omega)
  have p1 : (m + 1) * t ≤ 100000 * 400 := Int.mul_le_mul (by omega) (by omega) (by omega) (by omega)
  have q : 0 ≤ safeX m f t := Int.ediv_nonneg (by omega) (by omega)
  have q2 : safeX m f t ≤ (m + 1) * t - 1 := Int.ediv_le_self _ (by omega)
  omega
theorem speedSafe_spec (m f t : Int) (w : World) :
    Calls Tryd.prog 40 #[.int .i64 m, .int .i64 f, .int .i64 t] w fun e w' => e = .returned (.int .i64 (speedSafe m f t)) ∧ w = w' := by
  by_cases h : safeOk m f t
  · obtain ⟨p1, p2, p3, p4, p5⟩ := safeX_bd h
    obtain ⟨h1, h2, h3⟩ := h
    obtain ⟨b1, b1'⟩ := inR_iff.1 h1
    obtain ⟨b2, b2'⟩ := inR_iff.1 h2
    obtain ⟨b3, b3'⟩ := inR_iff.1 h3
    have e0 : speedOut 0 f t = 0 := by rw [speedOut, if_pos ⟨inR_mk (by omega) (by omega), h2, h3⟩]; simp
    unfold safeX at p1 p2
    go_enter Tryd.func40, Tryd.ntmps40
    go_wp2_with (first | (go_at_call 31; refine (speedOut_spec _ _ _ _).mono ?_; rintro e w' ⟨rfl, rfl⟩) | (go_at_call 76; refine (l1In_any _ _ _ _).mono ?_; rintro e w' ⟨rfl, rfl⟩))
    all_goals (go_ret; refine ⟨ret_int ?_, rfl⟩; rw [speedSafe, if_pos ⟨h1, h2, h3⟩, safeX]; first | rfl | omega)
  · have HN := hide (show speedSafe m f t = -1 by rw [speedSafe, if_neg h])
    by_cases h' : inR f 1 400 = true ∧ inR t 1 f = true
    · have e0 : speedOut 0 f t = 0 := by rw [speedOut, if_pos ⟨inR_mk (by omega) (by omega), h'.1, h'.2⟩]; simp
      have hm : inR m 0 99999 = false := by
        cases e : inR m 0 99999
        · rfl
        · exact absurd ⟨e, h'.1, h'.2⟩ h
      clear h h'
      go_enter Tryd.func40, Tryd.ntmps40
      go_wp2_with (first | (go_at_call 31; refine (speedOut_spec _ _ _ _).mono ?_; rintro e w' ⟨rfl, rfl⟩) | (go_at_call 76; refine (l1In_any _ _ _ _).mono ?_; rintro e w' ⟨rfl, rfl⟩))
      go_ret
      exact ⟨ret_int HN.out.symm, rfl⟩
    · have e0 : speedOut 0 f t < 0 := by rw [speedOut, if_neg (fun x => h' ⟨x.2.1, x.2.2⟩)]; decide
      clear h h'
      go_enter Tryd.func40, Tryd.ntmps40
      go_wp2_with (first | (go_at_call 31; refine (speedOut_spec _ _ _ _).mono ?_; rintro e w' ⟨rfl, rfl⟩) | (go_at_call 76; refine (l1In_any _ _ _ _).mono ?_; rintro e w' ⟨rfl, rfl⟩))
      go_ret
      exact ⟨ret_int HN.out.symm, rfl⟩
theorem speedSafe_any (m f t : Int) (w : World) :
    Calls Tryd.prog 39 #[.int .i64 m, .int .i64 f, .int .i64 t] w fun e w' => e = .returned (.int .i64 (speedSafe m f t)) ∧ w = w' := by
  by_cases h : safeOk m f t
  · obtain ⟨p1, p2, p3, p4, p5⟩ := safeX_bd h
    have ht := fun k : Int => @speed_test m f t k h
    have HT := hide ht
    clear ht
    obtain ⟨h1, h2, h3⟩ := h
    go_enter Tryd.func39, Tryd.ntmps39
    go_wp2_with (go_at_call 75; refine (within_any _ _ _ _).mono ?_; rintro e w' ⟨rfl, rfl⟩)
    go_loop [7] (fun v => ∃ k : Int, 0 ≤ k ∧ k ≤ 999 ∧ (safeX m f t ≤ k ∨ k = 999) ∧ v = .int .i64 k) (fun v => (intOf v).toNat)
    case atStart => exact ⟨999, by omega, by omega, .inr rfl, rfl⟩
    case round =>
      obtain ⟨k, k0, k1, k2, rfl⟩ := hrel
      by_cases hk : safeX m f t < k
      · have hlt : m < speedOut k f t := (HT.out k k0 k1).2 hk
        go_wp2_with (go_at_call 30; refine (speedOut_any _ _ _ _).mono ?_; rintro e w' ⟨rfl, rfl⟩)
        go_round
        case rel => exact ⟨k - 1, by omega, by omega, .inl (by omega), by go_num⟩
        case measure => simp [intOf]; omega
      · have hlt : ¬ m < speedOut k f t := fun x => hk ((HT.out k k0 k1).1 x)
        go_wp2_with (go_at_call 30; refine (speedOut_any _ _ _ _).mono ?_; rintro e w' ⟨rfl, rfl⟩)
        go_ret
        refine ⟨ret_int ?_, rfl⟩
        rw [speedSafe, if_pos ⟨h1, h2, h3⟩]; omega
  · have HN := hide (show speedSafe m f t = -1 by rw [speedSafe, if_neg h])
    go_enter Tryd.func39, Tryd.ntmps39
    go_wp2_with (go_at_call 75; refine (within_any _ _ _ _).mono ?_; rintro e w' ⟨rfl, rfl⟩)
    all_goals first
      | exact (h ⟨by assumption, by assumption, notF (by assumption)⟩).elim
      | (go_ret; exact ⟨ret_int HN.out.symm, rfl⟩)
end Go.Proofs.YtcdoopccmljaoaaDoor
