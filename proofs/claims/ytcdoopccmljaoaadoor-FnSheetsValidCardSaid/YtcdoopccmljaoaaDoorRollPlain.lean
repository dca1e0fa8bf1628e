/- Rolling: less can always be taken off, no plan has fewer passes, what goes in comes out. Plain laws, no conditions but those stated. -/
import Derived.Test.YtcdoopccmljaoaaDoorRolls
import Derived.Test.YtcdoopccmljaoaaDoorSheets
namespace Go.Proofs.YtcdoopccmljaoaaDoor
open Go.ChangeShapes Go.WideShapes Go.ChangeAt Go.RowKit Go.Deep
theorem rollMay_more {f t p : Int} (h : rollMay f t p = true) : (t = f ∨ rollMay f (t + 1) p = true) ∧ (p = 60 ∨ rollMay f t (p + 1) = true) := by
  obtain ⟨h1, h2, h3, h4⟩ := rollMay_iff.1 h
  constructor
  · by_cases e : t = f
    · exact .inl e
    · exact .inr (rollMay_iff.2 ⟨h1, by omega, h3, by omega⟩)
  · by_cases e : p = 60
    · exact .inl e
    · refine .inr (rollMay_iff.2 ⟨h1, h2, by omega, ?_⟩)
      have e1 : f * (100 - (p + 1)) = f * (100 - p) - f := by rw [show (100 - (p + 1) : Int) = (100 - p) - 1 by omega, Int.mul_sub, Int.mul_one]
      omega
theorem speedOut_neg {s f t : Int} (h : speedOut s f t < 0) : speedOut s f t = -1 := by
  unfold speedOut at h ⊢
  split at h
  · rename_i hv
    obtain ⟨h1, h2, h3⟩ := hv
    have b1 := inR_iff.1 h1; have b2 := inR_iff.1 h2; have b3 := inR_iff.1 h3
    have := Int.ediv_nonneg (a := s * f) (b := t) (Int.mul_nonneg (by omega) (by omega)) (by omega)
    omega
  · rename_i hv; rw [if_neg hv]
theorem speedOut_law {s f t : Int} (h : 0 ≤ speedOut s f t) : (0 ≤ s ∧ s ≤ 999) ∧ (1 ≤ f ∧ f ≤ 400) ∧ (1 ≤ t ∧ t ≤ f) ∧ speedOut s f t ≤ 399600 ∧ speedOut s f t * t ≤ s * f ∧ s * f - speedOut s f t * t < t ∧ s ≤ speedOut s f t ∧ speedOut s f f = s := by
  by_cases hv : speedOk s f t
  · have e : speedOut s f t = s * f / t := by rw [speedOut, if_pos hv]
    obtain ⟨h1, h2, h3⟩ := hv
    have b1 := inR_iff.1 h1; have b2 := inR_iff.1 h2; have b3 := inR_iff.1 h3
    have m := speed_bd b1.1 b1.2 b2.1 b2.2
    have e2 : speedOut s f f = s := by
      rw [speedOut, if_pos ⟨h1, h2, inR_mk (by omega) (by omega)⟩]
      exact Int.mul_ediv_cancel _ (by omega)
    have d1 := Int.ediv_mul_le (s * f) (b := t) (by omega)
    have d2 := Int.lt_ediv_add_one_mul_self (s * f) (b := t) (by omega)
    rw [Int.add_mul, Int.one_mul] at d2
    have d3 : s ≤ s * f / t := by
      rw [Int.le_ediv_iff_mul_le (by omega)]
      exact Int.mul_le_mul_of_nonneg_left b3.2 b1.1
    have d4 : s * f / t ≤ s * f := Int.ediv_le_self _ m.1
    rw [e]
    exact ⟨b1, b2, b3, by omega, d1, by omega, d3, e2⟩
  · rw [speedOut, if_neg hv] at h; omega
theorem rollLeast_neg {f p : Int} (h : rollLeast f p < 0) : rollLeast f p = -1 := by
  by_cases hv : inR f 1 400 = true ∧ inR p 1 60 = true
  · have := rollLeast_bd hv.1 hv.2; omega
  · rw [rollLeast, if_neg hv]
theorem rollLeast_valid {f p : Int} (h : 0 ≤ rollLeast f p) : inR f 1 400 = true ∧ inR p 1 60 = true := by
  by_cases hv : inR f 1 400 = true ∧ inR p 1 60 = true
  · exact hv
  · rw [rollLeast, if_neg hv] at h; omega
theorem rollLeast_le {f z p : Int} (h1 : inR f 1 400 = true) (h2 : inR p 1 60 = true) : rollLeast f p ≤ z ↔ f * (100 - p) ≤ 100 * z := by
  rw [rollLeast, if_pos ⟨h1, h2⟩]; omega
theorem rollLeast_mono {f g p : Int} (h1 : inR f 1 400 = true) (h2 : inR g 1 400 = true) (hp : inR p 1 60 = true) (h : g ≤ f) : rollLeast g p ≤ rollLeast f p := by
  rw [rollLeast_le h2 hp]
  have := (rollLeast_le (z := rollLeast f p) h1 hp).1 (Int.le_refl _)
  have b := inR_iff.1 hp
  have : g * (100 - p) ≤ f * (100 - p) := Int.mul_le_mul_of_nonneg_right h (by omega)
  omega
theorem rollLeast_law {f p : Int} (h : 0 ≤ rollLeast f p) : rollMay f (rollLeast f p) p = true ∧ rollMay f (rollLeast f p - 1) p = false ∧ (f = 400 ∨ rollLeast f p ≤ rollLeast (f + 1) p) ∧ (1 ≤ f ∧ f ≤ 400) ∧ 1 ≤ rollLeast f p ∧ rollLeast f p ≤ 400 := by
  obtain ⟨h1, h2⟩ := rollLeast_valid h
  have b1 := inR_iff.1 h1; have b2 := inR_iff.1 h2
  have bd := rollLeast_bd h1 h2
  refine ⟨rollMay_iff.2 ⟨b1, bd, b2, (rollLeast_le h1 h2).1 (Int.le_refl _)⟩, ?_, ?_, b1, bd.1, by omega⟩
  · cases e : rollMay f (rollLeast f p - 1) p
    · rfl
    · have := (rollMay_iff.1 e).2.2.2
      have := (rollLeast_le h1 h2).2 this; omega
  · by_cases e : f = 400
    · exact .inl e
    · exact .inr (rollLeast_mono (inR_mk (by omega) (by omega)) h1 h2 (by omega))
theorem jumpMay_self {a b j k : Int} : jumpMay a b a b j k = (sheetValid a b && jumpValid j k) := by
  rw [Bool.eq_iff_iff]
  simp only [jumpMay, Bool.and_eq_true]
  constructor
  · rintro ⟨h1, _, h2, _⟩; exact ⟨h1, h2⟩
  · rintro ⟨h1, h2⟩
    refine ⟨h1, h1, h2, ?_⟩
    simp only [jumpValid, Bool.and_eq_true, inR_iff] at h2
    rw [inR_iff, inR_iff]; omega
theorem jumpMay_both {a b c d j k : Int} (h : jumpMay a b c d j k = true) (h' : jumpMay c d a b j k = true) : a = c := by
  simp only [jumpMay, Bool.and_eq_true, inR_iff] at h h'; omega
theorem speedSafe_law {m f t : Int} (h : 0 ≤ speedSafe m f t) : speedSafe m f t ≤ 999 ∧ speedOut (speedSafe m f t) f t ≤ m ∧ (speedSafe m f t = 999 ∨ m < speedOut (speedSafe m f t + 1) f t) := by
  by_cases hv : safeOk m f t
  · have e : speedSafe m f t = min (safeX m f t) 999 := by rw [speedSafe, if_pos hv]
    have b := safeX_bd hv
    rw [e]
    refine ⟨by omega, ?_, ?_⟩
    · have := speed_test (k := min (safeX m f t) 999) hv (by omega) (by omega)
      have h2 : ¬ safeX m f t < min (safeX m f t) 999 := by omega
      rw [← this] at h2; omega
    · by_cases e9 : min (safeX m f t) 999 = 999
      · exact .inl e9
      · right
        exact (speed_test (k := min (safeX m f t) 999 + 1) hv (by omega) (by omega)).2 (by omega)
  · rw [speedSafe, if_neg hv] at h; omega
theorem speedSafe_neg {m f t : Int} (h : speedSafe m f t < 0) : speedSafe m f t = -1 := by
  by_cases hv : safeOk m f t
  · have b := safeX_bd hv
    rw [speedSafe, if_pos hv] at h; omega
  · rw [speedSafe, if_neg hv]
/-! ### The fewest passes -/
theorem rollTo_stuck {g p : Int} (hg : inR g 1 400 = true) (hp : inR p 1 60 = true) (e : rollLeast g p = g) : ∀ (zs : List Int) (f m : Int), g ≤ f → f ≤ 400 → rollTo p f zs = some m → g ≤ m
  | [], f, m, h, _, hr => by simp [rollTo] at hr; omega
  | z :: r, f, m, h, h4, hr => by
    have bg := inR_iff.1 hg
    simp only [rollTo] at hr
    split at hr
    · rename_i hm
      obtain ⟨h1, h2, _, h3⟩ := rollMay_iff.1 hm
      have hf : inR f 1 400 = true := inR_mk h1.1 h1.2
      have l1 := (rollLeast_le hf hp).2 h3
      have l2 := rollLeast_mono hf hg hp h
      exact rollTo_stuck hg hp e r z m (by omega) (by omega) hr
    · cases hr
/-- Whatever passes lead at least as far, there are at least as many. -/
theorem few_least {p wd : Int} (hp : inR p 1 60 = true) (hw : 1 ≤ wd) : ∀ (zs : List Int) (f g m : Int), 1 ≤ g → g ≤ f → f ≤ 400 → m ≤ wd → rollTo p f zs = some m → ∃ ys, rollsForF g wd p = some ys ∧ ys.length ≤ zs.length
  | [], f, g, m, _, hgf, _, hm, hr => by
    simp [rollTo] at hr
    exact ⟨[], rollsFor_end (by omega), Nat.le_refl _⟩
  | z :: r, f, g, m, h1, hgf, h4, hm, hr => by
    by_cases hlt : wd < g
    · have hg : inR g 1 400 = true := inR_mk h1 (by omega)
      have hf : inR f 1 400 = true := inR_mk (by omega) h4
      have bd := rollLeast_bd hg hp
      have hr0 := hr
      simp only [rollTo] at hr
      split at hr
      · rename_i hmay
        obtain ⟨_, h2, _, h3⟩ := rollMay_iff.1 hmay
        have l1 := (rollLeast_le hf hp).2 h3
        have l2 := rollLeast_mono hf hg hp hgf
        by_cases e : max (rollLeast g p) wd = g
        · have := rollTo_stuck hg hp (by omega) (z :: r) f m hgf h4 hr0
          omega
        · rw [rollsFor_step hg hp hw hlt e]
          by_cases hz : wd ≤ z
          · obtain ⟨ys, e1, e2⟩ := few_least hp hw r z (max (rollLeast g p) wd) m (by omega) (by omega) (by omega) hm hr
            exact ⟨_, by rw [e1]; rfl, by simp; omega⟩
          · have e3 : max (rollLeast g p) wd = wd := by omega
            rw [e3, rollsFor_end (show ¬ wd < wd by omega)]
            exact ⟨_, rfl, by simp⟩
      · cases hr
    · exact ⟨[], rollsFor_end hlt, Nat.zero_le _⟩
/-- The passes lead there, each less than the one before. -/
theorem for_to {p wd : Int} (hp : inR p 1 60 = true) (hw : 1 ≤ wd) : ∀ (n : Nat) (f : Int) (ys : List Int), 1 ≤ f → f ≤ 400 → wd ≤ f → f - wd ≤ n → rollsForF f wd p = some ys → rollTo p f ys = some wd ∧ ys.length ≤ n ∧ (f :: ys).Pairwise (fun a b => b < a)
  | 0, f, ys, _, _, h, hn, hr => by
    rw [rollsFor_end (by omega)] at hr
    cases hr
    exact ⟨by simp [rollTo]; omega, by simp, by simp⟩
  | n + 1, f, ys, h1, h4, h, hn, hr => by
    by_cases hlt : wd < f
    · have hf : inR f 1 400 = true := inR_mk h1 h4
      have bd := rollLeast_bd hf hp
      by_cases e : max (rollLeast f p) wd = f
      · rw [rollsFor_none hlt e] at hr; cases hr
      · rw [rollsFor_step hf hp hw hlt e] at hr
        cases hr2 : rollsForF (max (rollLeast f p) wd) wd p with
        | none => rw [hr2] at hr; cases hr
        | some zs =>
          rw [hr2] at hr
          cases hr
          obtain ⟨a, b, c⟩ := for_to hp hw n (max (rollLeast f p) wd) zs (by omega) (by omega) (by omega) (by omega) hr2
          have hmay : rollMay f (max (rollLeast f p) wd) p = true := rollMay_iff.2 ⟨⟨h1, h4⟩, by omega, inR_iff.1 hp, (rollLeast_le hf hp).1 (by omega)⟩
          refine ⟨by simp only [rollTo]; rw [if_pos hmay, a], by simp; omega, ?_⟩
          rw [List.pairwise_cons]
          refine ⟨fun x hx => ?_, c⟩
          rw [List.mem_cons] at hx
          rw [List.pairwise_cons] at c
          rcases hx with rfl | hx
          · omega
          · have := c.1 x hx; omega
    · rw [rollsFor_end hlt] at hr
      cases hr
      exact ⟨by simp [rollTo]; omega, by simp, by simp⟩
theorem rollsFor_law {f wd p : Int} {ys : List Int} (h : rollsFor f wd p = some ys) : rollsOk f wd p ys = true ∧ (f :: ys).Pairwise (fun a b => b < a) ∧ ys.length ≤ 400 := by
  unfold rollsFor at h
  split at h
  · rename_i hv
    obtain ⟨h1, h2, h3⟩ := hv
    have b1 := inR_iff.1 h1; have b2 := inR_iff.1 h2
    obtain ⟨a, b, c⟩ := for_to h3 b2.1 400 f ys b1.1 b1.2 b2.2 (by omega) h
    exact ⟨by simp [rollsOk, a, (rollMay_self f p).2 ⟨h1, h3⟩], c, b⟩
  · cases h
theorem desc_get {f : Int} {ys : List Int} (h : (f :: ys).Pairwise (fun a b => b < a)) {i : Nat} (hi : i < ys.length) : ys[i] < (if i = 0 then f else ys.getD (i - 1) 0) := by
  have hp := List.pairwise_iff_getElem.1 h
  have := hp i (i + 1) (by simp; omega) (by simp; omega) (by omega)
  simp only [List.getElem_cons_succ] at this
  split
  · rename_i e; subst e; simpa using this
  · rename_i e
    obtain ⟨i', rfl⟩ : ∃ i', i = i' + 1 := ⟨i - 1, by omega⟩
    simp only [List.getElem_cons_succ] at this
    rw [show i' + 1 - 1 = i' by omega, List.getD, List.getElem?_eq_getElem (by omega)]
    exact this
/-- No plan has fewer passes. -/
theorem rollsOk_few {f wd p : Int} {zs : List Int} (h : rollsOk f wd p zs = true) : 0 ≤ rollsFew f wd p ∧ rollsFew f wd p ≤ zs.length := by
  obtain ⟨h1, h2, h3⟩ := rollsOk_valid h
  have b1 := inR_iff.1 h1; have b2 := inR_iff.1 h2
  simp only [rollsOk, Bool.and_eq_true, decide_eq_true_eq] at h
  have hb := rollTo_bd p zs f wd b1.1 b1.2 h.2
  obtain ⟨ys, e1, e2⟩ := few_least h3 b2.1 zs f f wd b1.1 (Int.le_refl _) b1.2 (Int.le_refl _) h.2
  have : rollsFor f wd p = some ys := by rw [rollsFor, if_pos ⟨h1, inR_mk (by omega) (by omega), h3⟩]; exact e1
  unfold rollsFew; rw [this]; simp only; omega
theorem rollsFew_neg {f wd p : Int} (h : rollsFew f wd p < 0) : rollsFew f wd p = -1 := by
  unfold rollsFew at h ⊢
  split at h
  · omega
  · rfl
theorem rollsFew_law {f wd p : Int} (h : 0 ≤ rollsFew f wd p) : 0 ≤ rollsFew f (min (wd + 1) f) p ∧ rollsFew f (min (wd + 1) f) p ≤ rollsFew f wd p ∧ (rollsFew f wd p = 0 ↔ f = wd) ∧ (1 ≤ wd ∧ wd ≤ f) := by
  unfold rollsFew at h ⊢
  cases hr : rollsFor f wd p with
  | none => rw [hr] at h; simp at h
  | some ys =>
    have hl := rollsFor_law hr
    unfold rollsFor at hr
    split at hr
    · rename_i hv
      obtain ⟨h1, h2, h3⟩ := hv
      have b1 := inR_iff.1 h1; have b2 := inR_iff.1 h2
      have ht := hl.1
      simp only [rollsOk, Bool.and_eq_true, decide_eq_true_eq] at ht
      obtain ⟨zs, e1, e2⟩ := few_least (wd := min (wd + 1) f) h3 (by omega) ys f f wd b1.1 (Int.le_refl _) b1.2 (by omega) ht.2
      have : rollsFor f (min (wd + 1) f) p = some zs := by rw [rollsFor, if_pos ⟨h1, inR_mk (by omega) (by omega), h3⟩]; exact e1
      rw [this]
      simp only
      refine ⟨by omega, by omega, ?_, b2⟩
      constructor
      · intro h0
        have : ys = [] := List.eq_nil_of_length_eq_zero (by omega)
        subst this
        have := ht.2
        simp [rollTo] at this; exact this
      · intro e
        subst e
        rw [rollsFor_end (by omega)] at hr
        cases hr; rfl
    · cases hr
/-! ### Sheets -/
theorem sheetsValid_tail {s : Int × Int} {zs : List (Int × Int)} (h : sheetsValid (s :: zs) = true) : sheetsValid zs = true := by
  simp only [sheetsValid, Bool.and_eq_true, decide_eq_true_eq, List.length_cons, List.all_cons] at h ⊢
  exact ⟨by omega, h.2.2⟩
theorem sheetsValid_bad {zs : List (Int × Int)} : sheetsValid (zs ++ [(0, 1)]) = false := by
  cases e : sheetsValid (zs ++ [(0, 1)])
  · rfl
  · simp [sheetsValid, sheetValid, inR] at e
theorem sheetsValid_none : sheetsValid [] = true := rfl
end Go.Proofs.YtcdoopccmljaoaaDoor
