/- Lengths of the longest rounds, reckoned round by round. Plain laws. -/
import Derived.Test.YtcdoopccmljaoaaDoorRoundMath
namespace Go.Proofs.YtcdoopccmljaoaaDoor
open Go.ChangeShapes Go.WideShapes Go.ChangeAt Go.RowKit Go.Deep
/-- A row of numbers, one of them set. -/
theorem asN_set (v : List Nat) (a x : Nat) : ic ((v.set a x).map fun (i : Nat) => (i : Int)) = (ic (v.map fun (i : Nat) => (i : Int))).set a (.int .i64 (x : Int)) := by
  unfold ic
  rw [List.map_set, List.map_set]
theorem getD_set_eq {v : List Nat} {a x : Nat} (h : a < v.length) : (v.set a x).getD a 0 = x := by
  rw [List.getD_eq_getElem?_getD, List.getElem?_set_self h]; rfl
theorem getD_set_ne {v : List Nat} {a b x : Nat} (h : a ≠ b) : (v.set a x).getD b 0 = v.getD b 0 := by
  rw [List.getD_eq_getElem?_getD, List.getElem?_set_ne h, ← List.getD_eq_getElem?_getD]
/-- How many the longest round has that begins with each sheet. -/
def farL (zs : List (Int × Int)) (j k : Int) : List Int := (List.range zs.length).map fun a => ((far zs.length (fol zs j k) a : Nat) : Int)
theorem farL_len (zs : List (Int × Int)) (j k : Int) : (farL zs j k).length = zs.length := by simp [farL]
theorem farL_get {zs : List (Int × Int)} {j k : Int} {a : Nat} (h : a < (farL zs j k).length) : (farL zs j k)[a] = ((far zs.length (fol zs j k) a : Nat) : Int) := by simp [farL]
theorem farL_of {zs : List (Int × Int)} {j k : Int} {v : List Nat} (hl : v.length = zs.length) (h : ∀ a, a < zs.length → v.getD a 0 = far zs.length (fol zs j k) a) : v.map (fun (i : Nat) => (i : Int)) = farL zs j k := by
  apply List.ext_getElem
  · rw [List.length_map, farL_len, hl]
  · intro a h1 h2
    rw [List.length_map] at h1
    rw [List.getElem_map, farL_get]
    have := h a (by omega)
    rw [List.getD_eq_getElem?_getD, List.getElem?_eq_getElem h1] at this
    rw [← this]; rfl
theorem acc_yes {F : Nat → Bool} {f : Nat → Nat} {b : Nat} (h : F b = true) : 1 + maxOver F f (b + 1) = max (1 + maxOver F f b) (f b + 1) := by
  rw [maxOver, if_pos h]; omega
theorem acc_no {F : Nat → Bool} {f : Nat → Nat} {b : Nat} (h : F b = false) : 1 + maxOver F f (b + 1) = 1 + maxOver F f b := by
  rw [maxOver, if_neg (by rw [h]; simp)]
/-- The reckoning round by round: behind t rounds and a sheets of the next one, the last of which has come to b. -/
structure LgAt (n : Nat) (F : Nat → Nat → Bool) (t a m : Nat) (v : List Nat) : Prop where
  len : v.length = n
  lo : ∀ x, x < n → long n F t x ≤ v.getD x 0
  lo1 : ∀ x, x < n → x < a → long n F (t + 1) x ≤ v.getD x 0
  hi : ∀ x, x < n → v.getD x 0 ≤ far n F x
  cur : m ≤ v.getD a 0
section
variable {n : Nat} {F : Nat → Nat → Bool} {r : Nat → Nat} {t a m : Nat} {v : List Nat}
theorem lg_start (n : Nat) (F : Nat → Nat → Bool) : LgAt n F 0 0 0 (List.replicate n 0) :=
  ⟨by simp, fun _ _ => Nat.zero_le _, fun _ _ h => absurd h (Nat.not_lt_zero _), fun x hx => by
    rw [List.getD_eq_getElem?_getD, List.getElem?_replicate, if_pos hx]; exact Nat.zero_le _, Nat.zero_le _⟩
theorem lg_set (h : LgAt n F t a m v) (ha : a < n) {x : Nat} (hx : x ≤ far n F a) {m' : Nat} (hm : m' ≤ max (v.getD a 0) x) : LgAt n F t a m' (v.set a (max (v.getD a 0) x)) := by
  have hl : a < v.length := by rw [h.len]; exact ha
  refine ⟨by rw [List.length_set]; exact h.len, ?_, ?_, ?_, by rw [getD_set_eq hl]; exact hm⟩
  · intro y hy
    by_cases e : a = y
    · subst e; rw [getD_set_eq hl]; have := h.lo a ha; omega
    · rw [getD_set_ne e]; exact h.lo y hy
  · intro y hy hya
    rw [getD_set_ne (by omega)]; exact h.lo1 y hy hya
  · intro y hy
    by_cases e : a = y
    · subst e; rw [getD_set_eq hl]; have := h.hi a ha; omega
    · rw [getD_set_ne e]; exact h.hi y hy
theorem lg_one (hr : Ranked n F r) (h : LgAt n F t a 0 v) (ha : a < n) : LgAt n F t a (1 + maxOver (F a) (long n F t) 0) (v.set a (max (v.getD a 0) 1)) :=
  lg_set h ha (far_pos hr ha) (by show 1 + 0 ≤ _; omega)
theorem lg_yes (hr : Ranked n F r) {b : Nat} (h : LgAt n F t a (1 + maxOver (F a) (long n F t) b) v) (ha : a < n) (hb : b < n) (hF : F a b = true) : LgAt n F t a (1 + maxOver (F a) (long n F t) (b + 1)) (v.set a (max (v.getD a 0) (1 + v.getD b 0))) := by
  refine lg_set h ha ?_ ?_
  · have := h.hi b hb
    have := far_step hr ha hb hF
    omega
  · rw [acc_yes hF]
    have := h.lo b hb
    have := h.cur
    omega
theorem lg_no {b : Nat} (h : LgAt n F t a (1 + maxOver (F a) (long n F t) b) v) (hF : F a b = false) : LgAt n F t a (1 + maxOver (F a) (long n F t) (b + 1)) v :=
  ⟨h.len, h.lo, h.lo1, h.hi, by rw [acc_no hF]; exact h.cur⟩
theorem lg_next (h : LgAt n F t a (1 + maxOver (F a) (long n F t) n) v) : LgAt n F t (a + 1) 0 v :=
  ⟨h.len, h.lo, fun x hx hxa => by
    rcases Nat.lt_succ_iff_lt_or_eq.1 hxa with h1 | h1
    · exact h.lo1 x hx h1
    · subst h1; exact h.cur, h.hi, Nat.zero_le _⟩
theorem lg_round (h : LgAt n F t n 0 v) : LgAt n F (t + 1) 0 0 v :=
  ⟨h.len, fun x hx => h.lo1 x hx hx, fun _ _ h => absurd h (Nat.not_lt_zero _), h.hi, Nat.zero_le _⟩
theorem lg_done (h : LgAt n F n 0 0 v) : ∀ x, x < n → v.getD x 0 = far n F x := fun x hx => Nat.le_antisymm (h.hi x hx) (h.lo x hx)
end
end Go.Proofs.YtcdoopccmljaoaaDoor
