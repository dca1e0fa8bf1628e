/- What the laws over piles ask, in plain numbers: what was taken can be put back, what was put can be taken, a lift can be undone. No conditions. -/
import Derived.Test.YtpiiefmfiipabaaDoorCoilDig
import Derived.Test.YtpiiefmfiipabaaDoorPileRes
namespace Go.Proofs.YtpiiefmfiipabaaDoor
open Go.ChangeShapes Go.WideShapes Go.ChangeAt Go.RowKit Go.Deep
theorem spt_int {t : Bool} {z : Int} (h : 0 ≤ z) : (((spt t z).2 : Nat) : Int) = z := by
  unfold spt
  simp only
  omega
theorem take_law0 {p : PL} {t : Bool} {z : Int} (h : (coilTake p t z).2 = 0) : (coilTake p t z).1 = p ∨ pileValid p = false := by
  by_cases hv : pileValid p = true
  · left
    unfold coilTake at *
    rw [if_pos hv] at h ⊢
    by_cases hc : (decide (coilAt p t z < 1) || decide (coilsOn p t z ≠ [])) = true
    · rw [if_pos hc]
    · rw [if_neg hc] at h
      simp only [Bool.or_eq_true, decide_eq_true_eq, not_or] at hc
      simp only at h
      omega
  · right; simpa using hv
theorem take_law1 {p : PL} {t : Bool} {z : Int} (h : (coilTake p t z).2 ≠ 0) : pileValid (coilTake p t z).1 = true ∧ coilPut (coilTake p t z).1 t z (coilTake p t z).2 = (p, true) := by
  obtain ⟨V, h0, hne, hb, he⟩ := take_iff h
  rw [he]
  have hs := cl_pos_in hne
  have V' := vd_take V hs hb
  have hback := st_st (p := p) (s := spt t z) (x := 0) (y := cl p (spt t z)) hs rfl
  have m : May (st p (spt t z) 0) (spt t z) (cl p (spt t z)) := may_of (inP_st.2 hs) (by rw [cl_st hs, if_pos rfl]) (by have := (V.rng (spt t z)).1; omega) (by rw [hback]; exact V)
  have k := put_yes V' m
  rw [hback, spt_int h0] at k
  exact ⟨(vd_iff _).2 V', k⟩
theorem put_law0 {p : PL} {t : Bool} {z id : Int} (h : (coilPut p t z id).2 = false) : (coilPut p t z id).1 = p ∨ pileValid p = false := by
  by_cases hv : pileValid p = true
  · left; rw [put_no ((vd_iff p).1 hv) h]
  · right; simpa using hv
theorem put_law1 {p : PL} {t : Bool} {z id : Int} (h : (coilPut p t z id).2 = true) : pileValid (coilPut p t z id).1 = true ∧ coilTake (coilPut p t z id).1 t z = (p, id) ∧ coilAt (coilPut p t z id).1 t z = id := by
  obtain ⟨V, h0, m, he⟩ := put_iff h
  rw [he]
  have hs := m.1
  have V' := vd_put V m
  have hid : 1 ≤ id := m.2.2.1.1
  have hat : cl (st p (spt t z) id) (spt t z) = id := by rw [cl_st hs, if_pos rfl]
  have hb : Bare (st p (spt t z) id) (spt t z) := by
    intro ht hc
    have hlow : cl p (spt t z) = 0 := m.2.1
    have e1 : spt t z = (false, z.toNat) := by unfold spt at ht ⊢; simp only at ht; rw [ht]
    rw [e1] at hlow hc
    have up : ∀ k, cl (st p (false, z.toNat) id) (true, k) = cl p (true, k) := fun k => by rw [cl_st (by rw [← e1]; exact hs), if_neg (by simp)]
    simp only [Cov, up] at hc
    rcases hc with hc | ⟨j, hj, hc⟩
    · exact (V.sup _ hc).1 hlow
    · rw [hj] at hlow; exact (V.sup _ hc).2 hlow
  have k := take_yes V' (s := spt t z) (by rw [hat]; omega) hb
  rw [hat, st_st hs m.2.1, spt_int h0] at k
  refine ⟨(vd_iff _).2 V', k, ?_⟩
  have k2 := coilAt_nat V' (s := spt t z) (inP_st.2 hs)
  rw [hat, spt_int h0] at k2
  exact k2
theorem lift_law0 {p : PL} {l : LF} (h : (coilLift p l).2 = false) : (coilLift p l).1 = p ∨ pileValid p = false := by
  by_cases hv : pileValid p = true
  · left; rw [lift_no ((vd_iff p).1 hv) h]
  · right; simpa using hv
theorem lift_law1 {p : PL} {l : LF} (h : (coilLift p l).2 = true) : pileValid (coilLift p l).1 = true ∧ coilLift (coilLift p l).1 (l.2, l.1) = (p, true) ∧ coilIds (coilLift p l).1 = coilIds p ∧ (coilLift p l).1 ≠ p := by
  have V := (lift_iff h).1
  exact ⟨(vd_iff _).2 (lift_vd V l), lift_back h, lift_ids V l, lift_ne h⟩
/-- What the law of coils on a coil asks. -/
theorem on_none {p : PL} {t : Bool} {z : Int} (h : coilAt p t z < 1) : coilsOn p t z = [] := by
  unfold coilsOn
  rw [if_pos (by simp [h])]
theorem on_each {p : PL} {t : Bool} {z x : Int} (h : x ∈ coilsOn p t z) : (coilFind p x).isSome = true ∧ (findV p x).1 = true ∧ t = false ∧ ((findV p x).2 = z ∨ (findV p x).2 = z - 1) := by
  obtain ⟨h1, rfl, hx, k, hk, hc⟩ := coilsOn_mem.1 h
  obtain ⟨V, h0, hs, _⟩ := coilAt_pos h1
  have hne : cl p (true, k) ≠ 0 := by omega
  have hf := findV_at V hne
  rw [hc] at hf
  refine ⟨find_isSome.2 ⟨V, by omega, (true, k), hc⟩, by rw [hf], rfl, ?_⟩
  rw [hf]
  simp only
  omega
theorem on_take {p : PL} {t : Bool} {z : Int} (h : ¬ coilAt p t z < 1) : (0 < (coilTake p t z).2 ↔ (coilsOn p t z).length = 0) := by
  have h1 : 1 ≤ coilAt p t z := by omega
  obtain ⟨V, h0, hs, he⟩ := coilAt_pos h1
  have hv := (vd_iff p).2 V
  unfold coilTake
  rw [if_pos hv]
  by_cases hc : coilsOn p t z = []
  · rw [if_neg (by simp [hc]; omega)]
    simp only [hc, List.length_nil, iff_true]
    omega
  · rw [if_pos (by simp [hc])]
    simp only [Int.lt_irrefl, false_iff]
    intro e; exact hc (List.eq_nil_of_length_eq_zero e)
end Go.Proofs.YtpiiefmfiipabaaDoor
