/- When slabs go through a furnace, and which ones go through which. Plain laws, no conditions but those stated. -/
import Derived.Test.YtcdoopccmljaoaaDoorSplitPlain
import Derived.Test.YtcdoopccmljaoaaDoorCharge
namespace Go.Proofs.YtcdoopccmljaoaaDoor
open Go.ChangeShapes Go.WideShapes Go.ChangeAt Go.RowKit Go.Deep
/-- When the next slab goes in, behind those that went. -/
def passIn (R : Nat) (P : List (Int × Int)) (s : Int × Int) : Int :=
  if P.length < R then (if P.length = 0 then s.1 else max s.1 (P.getD (P.length - 1) (0, 0)).1)
  else max (if P.length = 0 then s.1 else max s.1 (P.getD (P.length - 1) (0, 0)).1) (P.getD (P.length - R) (0, 0)).2
/-- When it leaves. -/
def passOut (R : Nat) (z : Int) (P : List (Int × Int)) (s : Int × Int) : Int :=
  if P.length = 0 then passIn R P s + s.2 else max (passIn R P s + s.2) ((P.getD (P.length - 1) (0, 0)).2 + z)
/-- The times of the first slabs. -/
def passUp (R : Nat) (z : Int) (zs : List (Int × Int)) : Nat → List (Int × Int)
  | 0 => []
  | q + 1 => passUp R z zs q ++ [(passIn R (passUp R z zs q) (zs.getD q (0, 0)), passOut R z (passUp R z zs q) (zs.getD q (0, 0)))]
def passEnd (R : Nat) (z : Int) (zs : List (Int × Int)) : Int := if zs.length = 0 then 0 else ((passUp R z zs zs.length).getD (zs.length - 1) (0, 0)).2
theorem passUp_len (R : Nat) (z : Int) (zs : List (Int × Int)) : ∀ q, (passUp R z zs q).length = q
  | 0 => rfl
  | q + 1 => by rw [passUp, List.length_append, passUp_len R z zs q]; rfl
theorem getD_app (P : List (Int × Int)) (x : Int × Int) (i : Nat) : (P ++ [x]).getD i (0, 0) = if i < P.length then P.getD i (0, 0) else if i = P.length then x else (0, 0) := by
  rw [List.getD_eq_getElem?_getD, List.getD_eq_getElem?_getD]
  split
  · rw [List.getElem?_append_left (by assumption)]
  · rw [List.getElem?_append_right (by omega)]
    split
    · rename_i h; rw [h, Nat.sub_self]; rfl
    · rw [List.getElem?_eq_none (by simp; omega)]; rfl
theorem charges_at {zs : List (Int × Int)} (h : chargesValid zs = true) : zs.length ≤ 8 ∧ ∀ s ∈ zs, (0 ≤ s.1 ∧ s.1 ≤ 999) ∧ (1 ≤ s.2 ∧ s.2 ≤ 99) := by
  simp only [chargesValid, chargeValid, Bool.and_eq_true, List.all_eq_true, decide_eq_true_eq] at h
  exact ⟨h.1, fun s hs => ⟨inR_iff.1 (h.2 s hs).1, inR_iff.1 (h.2 s hs).2⟩⟩
theorem charges_of {zs : List (Int × Int)} (h1 : zs.length ≤ 8) (h2 : ∀ s ∈ zs, (0 ≤ s.1 ∧ s.1 ≤ 999) ∧ (1 ≤ s.2 ∧ s.2 ≤ 99)) : chargesValid zs = true := by
  simp only [chargesValid, chargeValid, Bool.and_eq_true, List.all_eq_true, decide_eq_true_eq]
  exact ⟨h1, fun s hs => ⟨inR_iff.2 (h2 s hs).1, inR_iff.2 (h2 s hs).2⟩⟩
theorem furnace_at {a b : Int} (h : furnaceValid a b = true) : (1 ≤ a ∧ a ≤ 8) ∧ (0 ≤ b ∧ b ≤ 99) := by
  simp only [furnaceValid, Bool.and_eq_true] at h
  exact ⟨inR_iff.1 h.1, inR_iff.1 h.2⟩
/-- Times are not below nothing, and not too late. -/
def PassB (P : List (Int × Int)) : Prop := ∀ i, i < P.length → (0 ≤ (P.getD i (0, 0)).1 ∧ (P.getD i (0, 0)).1 ≤ 999 + 198 * (i : Int)) ∧ (0 ≤ (P.getD i (0, 0)).2 ∧ (P.getD i (0, 0)).2 ≤ 999 + 198 * ((i : Int) + 1))
theorem passIn_bd {R : Nat} {P : List (Int × Int)} {s : Int × Int} (hR : 1 ≤ R) (hP : PassB P) (hs : 0 ≤ s.1 ∧ s.1 ≤ 999) : 0 ≤ passIn R P s ∧ passIn R P s ≤ 999 + 198 * (P.length : Int) := by
  unfold passIn
  by_cases h0 : P.length = 0
  · rw [if_pos h0, if_pos (by omega)]; omega
  · have h1 := hP (P.length - 1) (by omega)
    rw [if_neg h0]
    split
    · omega
    · have h2 := hP (P.length - R) (by omega)
      omega
theorem passOut_bd {R : Nat} {z : Int} {P : List (Int × Int)} {s : Int × Int} (hR : 1 ≤ R) (hz : 0 ≤ z ∧ z ≤ 99) (hP : PassB P) (hs : 0 ≤ s.1 ∧ s.1 ≤ 999) (hs' : 1 ≤ s.2 ∧ s.2 ≤ 99) : 0 ≤ passOut R z P s ∧ passOut R z P s ≤ 999 + 198 * ((P.length : Int) + 1) := by
  have h := passIn_bd hR hP hs
  unfold passOut
  by_cases h0 : P.length = 0
  · rw [if_pos h0]; omega
  · have h1 := hP (P.length - 1) (by omega)
    rw [if_neg h0]
    omega
theorem passUp_bd {R : Nat} {z : Int} {zs : List (Int × Int)} (hR : 1 ≤ R) (hz : 0 ≤ z ∧ z ≤ 99) (hv : ∀ s ∈ zs, (0 ≤ s.1 ∧ s.1 ≤ 999) ∧ (1 ≤ s.2 ∧ s.2 ≤ 99)) : ∀ q, q ≤ zs.length → PassB (passUp R z zs q)
  | 0, _ => fun i hi => absurd hi (Nat.not_lt_zero _)
  | q + 1, hq => by
    have ih := passUp_bd hR hz hv q (by omega)
    have hm := hv (zs.getD q (0, 0)) (by rw [List.getD_eq_getElem?_getD, List.getElem?_eq_getElem (by omega)]; exact List.getElem_mem _)
    have h1 := passIn_bd hR ih hm.1
    have h2 := passOut_bd hR hz ih hm.1 hm.2
    have hl := passUp_len R z zs q
    intro i hi
    rw [passUp, List.length_append, hl] at hi
    rw [passUp, getD_app, hl]
    rw [hl] at h1 h2
    by_cases hiq : i < q
    · rw [if_pos hiq]; exact ih i (by omega)
    · obtain rfl : i = q := by simp at hi; omega
      rw [if_neg hiq, if_pos rfl]
      exact ⟨h1, h2⟩
theorem passEnd_bd {R : Nat} {z : Int} {zs : List (Int × Int)} (hR : 1 ≤ R) (hz : 0 ≤ z ∧ z ≤ 99) (hl : zs.length ≤ 8) (hv : ∀ s ∈ zs, (0 ≤ s.1 ∧ s.1 ≤ 999) ∧ (1 ≤ s.2 ∧ s.2 ≤ 99)) : 0 ≤ passEnd R z zs ∧ passEnd R z zs ≤ 9999 := by
  unfold passEnd
  split
  · omega
  · have := (passUp_bd hR hz hv zs.length (Nat.le_refl _) (zs.length - 1) (by rw [passUp_len]; omega)).2
    omega
theorem filterMap_same {α β : Type} {f g : α → Option β} : ∀ {l : List α}, (∀ x ∈ l, f x = g x) → l.filterMap f = l.filterMap g
  | [], _ => rfl
  | x :: r, h => by
    rw [List.filterMap_cons, List.filterMap_cons, h x List.mem_cons_self, filterMap_same fun y hy => h y (List.mem_cons_of_mem _ hy)]
theorem passIn_zero {R : Nat} {P : List (Int × Int)} {s : Int × Int} (hR : 1 ≤ R) (h : P.length = 0) : passIn R P s = s.1 := by
  unfold passIn; rw [if_pos (by omega), if_pos h]
theorem passIn_lo {R p : Nat} {P : List (Int × Int)} {s : Int × Int} (h : P.length = p + 1) (hR : p + 1 < R) : passIn R P s = max s.1 (P.getD p (0, 0)).1 := by
  unfold passIn; rw [if_pos (by omega), if_neg (by omega), h, Nat.add_sub_cancel]
theorem passIn_hi {R p : Nat} {P : List (Int × Int)} {s : Int × Int} (h : P.length = p + 1) (hR : R ≤ p + 1) : passIn R P s = max (max s.1 (P.getD p (0, 0)).1) (P.getD (p + 1 - R) (0, 0)).2 := by
  unfold passIn; rw [if_neg (by omega), if_neg (by omega), h, Nat.add_sub_cancel]
theorem passOut_zero {R : Nat} {z : Int} {P : List (Int × Int)} {s : Int × Int} (hR : 1 ≤ R) (h : P.length = 0) : passOut R z P s = s.1 + s.2 := by
  unfold passOut; rw [if_pos h, passIn_zero hR h]
theorem passOut_succ {R p : Nat} {z : Int} {P : List (Int × Int)} {s : Int × Int} (h : P.length = p + 1) : passOut R z P s = max (passIn R P s + s.2) ((P.getD p (0, 0)).2 + z) := by
  unfold passOut; rw [if_neg (by omega), h, Nat.add_sub_cancel]
theorem setOf_snoc {α : Type} (xs : List α) (x : α) (s : Nat) (b : Bool) : setOf (xs ++ [x]) s b = setOf xs s b ++ (if s.testBit xs.length == b then [x] else []) := by
  unfold setOf
  rw [List.length_append, List.length_singleton, List.range_succ, List.filter_append, List.filterMap_append]
  congr 1
  · refine filterMap_same fun k hk => ?_
    have := List.mem_range.1 (List.mem_filter.1 hk).1
    rw [List.getElem?_append_left this]
  · cases h : s.testBit xs.length == b
    · simp [h]
    · simp [h]
theorem setOf_take {α : Type} (zs : List α) (s : Nat) (b : Bool) {q : Nat} (h : q < zs.length) : setOf (zs.take (q + 1)) s b = setOf (zs.take q) s b ++ (if s.testBit q == b then [zs[q]] else []) := by
  rw [List.take_succ_eq_append_getElem h, setOf_snoc, List.length_take, Nat.min_eq_left (by omega)]
theorem setOf_mem {α : Type} {zs : List α} {s : Nat} {b : Bool} {x : α} (h : x ∈ setOf zs s b) : x ∈ zs := by
  unfold setOf at h
  obtain ⟨k, _, hk⟩ := List.mem_filterMap.1 h
  exact List.mem_of_getElem? hk
theorem setOf_len {α : Type} (zs : List α) (s : Nat) (b : Bool) : (setOf zs s b).length ≤ zs.length := by
  unfold setOf
  refine Nat.le_trans (List.length_filterMap_le _ _) (Nat.le_trans (List.length_filter_le _ _) ?_)
  rw [List.length_range]; exact Nat.le_refl _
theorem charges_set {zs : List (Int × Int)} (h : chargesValid zs = true) (s : Nat) (b : Bool) : chargesValid (setOf zs s b) = true := by
  obtain ⟨h1, h2⟩ := charges_at h
  exact charges_of (Nat.le_trans (setOf_len zs s b) h1) fun x hx => h2 x (setOf_mem hx)
end Go.Proofs.YtcdoopccmljaoaaDoor
