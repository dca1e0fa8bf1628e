/- The best way to share slabs among two furnaces. Plain laws, no conditions but those stated. -/
import Derived.Test.YtcdoopccmljaoaaDoorLib
namespace Go.Proofs.YtcdoopccmljaoaaDoor
open Go.ChangeShapes Go.WideShapes Go.ChangeAt Go.RowKit Go.Deep
/-- Those whose bit in a number is as told. -/
def setOf {α : Type} (zs : List α) (s : Nat) (b : Bool) : List α := ((List.range zs.length).filter fun k => s.testBit k == b).filterMap fun k => zs[k]?
theorem filterMap_range {α : Type} (zs : List α) : ((List.range zs.length).filterMap fun k => zs[k]?) = zs := by
  induction zs with
  | nil => rfl
  | cons x r ih =>
    rw [List.length_cons, List.range_succ_eq_map, List.filterMap_cons]
    simp only [List.getElem?_cons_zero, List.filterMap_map]
    congr 1
theorem setOf_zero {α : Type} (zs : List α) : setOf zs 0 false = zs ∧ setOf zs 0 true = [] := by
  unfold setOf
  constructor
  · have : (List.range zs.length).filter (fun k => Nat.testBit 0 k == false) = List.range zs.length := List.filter_eq_self.2 (fun _ _ => by simp)
    rw [this]; exact filterMap_range zs
  · have : (List.range zs.length).filter (fun k => Nat.testBit 0 k == true) = [] := List.filter_eq_nil_iff.2 (fun _ _ => by simp)
    rw [this]; rfl
theorem setOf_compl {α : Type} (zs : List α) {s : Nat} (h : s < 2 ^ zs.length) (b : Bool) : setOf zs (2 ^ zs.length - (s + 1)) b = setOf zs s (!b) := by
  unfold setOf
  congr 1
  refine List.filter_congr fun k hk => ?_
  rw [Nat.testBit_two_pow_sub_succ h, decide_eq_true (List.mem_range.1 hk)]
  cases s.testBit k <;> cases b <;> rfl
/-- The greater of both ends. -/
def splitN {α : Type} (E : List α → Int) (zs : List α) (s : Nat) : Int := max (E (setOf zs s false)) (E (setOf zs s true))
theorem splitN_compl {α : Type} (E : List α → Int) (zs : List α) {s : Nat} (h : s < 2 ^ zs.length) : splitN E zs (2 ^ zs.length - (s + 1)) = splitN E zs s := by
  unfold splitN
  rw [setOf_compl zs h, setOf_compl zs h]
  simp only [Bool.not_false, Bool.not_true]
  omega
theorem splitN_zero {α : Type} (E : List α → Int) (zs : List α) (h0 : E [] = 0) (h : 0 ≤ E zs) : splitN E zs 0 = E zs := by
  unfold splitN; rw [(setOf_zero zs).1, (setOf_zero zs).2, h0]; omega
/-- The least number at which F is least, of those up to n. -/
def argMin (F : Nat → Int) : Nat → Nat
  | 0 => 0
  | n + 1 => if F (n + 1) < F (argMin F n) then n + 1 else argMin F n
theorem argMin_le (F : Nat → Int) : ∀ n, argMin F n ≤ n
  | 0 => Nat.le_refl _
  | n + 1 => by
    unfold argMin
    split
    · exact Nat.le_refl _
    · exact Nat.le_succ_of_le (argMin_le F n)
theorem argMin_least (F : Nat → Int) : ∀ n i, i ≤ n → F (argMin F n) ≤ F i
  | 0, i, h => by rw [show i = 0 by omega]; exact Int.le_refl _
  | n + 1, i, h => by
    unfold argMin
    split
    · rename_i hlt
      rcases Nat.lt_or_ge n i with h1 | h1
      · rw [show i = n + 1 by omega]; exact Int.le_refl _
      · have := argMin_least F n i h1; omega
    · rename_i hlt
      rcases Nat.lt_or_ge n i with h1 | h1
      · rw [show i = n + 1 by omega]; omega
      · exact argMin_least F n i h1
theorem argMin_first (F : Nat → Int) : ∀ n i, i < argMin F n → F (argMin F n) < F i
  | 0, i, h => absurd h (Nat.not_lt_zero _)
  | n + 1, i, h => by
    unfold argMin at h ⊢
    split at h
    · rename_i hlt
      rw [if_pos hlt]
      have := argMin_least F n i (by omega)
      omega
    · rename_i hlt
      rw [if_neg hlt]
      exact argMin_first F n i h
def bestN {α : Type} (E : List α → Int) (zs : List α) : Nat := argMin (splitN E zs) (2 ^ zs.length - 1)
theorem bestN_lt {α : Type} (E : List α → Int) (zs : List α) : bestN E zs < 2 ^ zs.length := by
  have := argMin_le (splitN E zs) (2 ^ zs.length - 1)
  have := Nat.two_pow_pos zs.length
  unfold bestN; omega
theorem bestN_half {α : Type} (E : List α → Int) (zs : List α) : (zs.length = 0 ∧ bestN E zs = 0) ∨ 2 * bestN E zs < 2 ^ zs.length := by
  have hb := bestN_lt E zs
  cases hz : zs.length with
  | zero => left; rw [hz] at hb; simp at hb; exact ⟨rfl, hb⟩
  | succ n =>
    right
    rw [hz] at hb
    by_cases h : 2 * bestN E zs < 2 ^ (n + 1)
    · exact h
    · exfalso
      have hp : 2 ^ (n + 1) = 2 * 2 ^ n := by rw [Nat.pow_succ]; omega
      have hlt : 2 ^ zs.length - (bestN E zs + 1) < argMin (splitN E zs) (2 ^ zs.length - 1) := by
        show _ < bestN E zs
        rw [hz]; omega
      have := argMin_first (splitN E zs) _ _ hlt
      rw [splitN_compl E zs (by rw [hz]; exact hb)] at this
      have e : argMin (splitN E zs) (2 ^ zs.length - 1) = bestN E zs := rfl
      rw [e] at this; omega
theorem bestN_end {α : Type} (E : List α → Int) (zs : List α) (h0 : E [] = 0) (h : 0 ≤ E zs) : splitN E zs (bestN E zs) ≤ E zs := by
  have := argMin_least (splitN E zs) (2 ^ zs.length - 1) 0 (Nat.zero_le _)
  rw [splitN_zero E zs h0 h] at this
  exact this
end Go.Proofs.YtcdoopccmljaoaaDoor
