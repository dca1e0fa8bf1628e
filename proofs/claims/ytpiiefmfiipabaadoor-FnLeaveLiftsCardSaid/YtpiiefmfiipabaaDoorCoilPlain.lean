/- Piles spot by spot: what may be taken, put and lifted, and that lifts can be undone. Plain laws, no conditions but those stated. -/
import Derived.Test.YtpiiefmfiipabaaDoorCoilMath
namespace Go.Proofs.YtpiiefmfiipabaaDoor
open Go.ChangeShapes Go.WideShapes Go.ChangeAt Go.RowKit Go.Deep
/-- What lies in a spot. -/
def cl (p : PL) (s : Bool × Nat) : Int := (rowOf p s.1).getD s.2 0
def inP (p : PL) (s : Bool × Nat) : Prop := s.2 < (rowOf p s.1).length
theorem cl_low (p : PL) (k : Nat) : cl p (false, k) = p.1.getD k 0 := rfl
theorem cl_high (p : PL) (k : Nat) : cl p (true, k) = p.2.getD k 0 := rfl
theorem cl_pos_in {p : PL} {s : Bool × Nat} (h : cl p s ≠ 0) : inP p s := by
  unfold cl at h
  by_cases hs : s.2 < (rowOf p s.1).length
  · exact hs
  · rw [List.getD, List.getElem?_eq_none (by omega)] at h; exact absurd rfl h
/-- A valid pile, spot by spot. -/
structure Vd (p : PL) : Prop where
  l1 : 1 ≤ p.1.length
  l6 : p.1.length ≤ 6
  up : p.2.length + 1 = p.1.length
  rng : ∀ s, 0 ≤ cl p s ∧ cl p s ≤ 99
  inj : ∀ s t, cl p s = cl p t → cl p s ≠ 0 → s = t
  sup : ∀ k, cl p (true, k) ≠ 0 → cl p (false, k) ≠ 0 ∧ cl p (false, k + 1) ≠ 0
theorem nodup_take {z : List Int} {i j : Nat} (hi : i < z.length) (hj : j < i) : z[j]'(by omega) ∈ z.take i := by
  rw [List.mem_iff_getElem?]
  exact ⟨j, by rw [List.getElem?_take, if_pos hj, List.getElem?_eq_getElem]⟩
def ix (p : PL) (s : Bool × Nat) : Nat := if s.1 then p.1.length + s.2 else s.2
theorem cl_ix {p : PL} {s : Bool × Nat} (h : inP p s) : (p.1 ++ p.2).getD (ix p s) 0 = cl p s := by
  obtain ⟨t, k⟩ := s
  cases t
  · have h' : k < p.1.length := h
    simp [ix, cl, rowOf, List.getD, List.getElem?_append_left h']
  · simp [ix, cl, rowOf, List.getD, List.getElem?_append_right]
theorem ix_lt {p : PL} {s : Bool × Nat} (h : inP p s) : ix p s < (p.1 ++ p.2).length := by
  obtain ⟨t, k⟩ := s
  cases t
  · have h' : k < p.1.length := h
    simp [ix]; omega
  · have h' : k < p.2.length := h
    simp [ix]; omega
theorem ix_inj {p : PL} {s t : Bool × Nat} (hs : inP p s) (ht : inP p t) (h : ix p s = ix p t) : s = t := by
  obtain ⟨a, k⟩ := s
  obtain ⟨b, j⟩ := t
  cases a <;> cases b <;> simp [ix, inP, rowOf] at * <;> omega
theorem vd_iff (p : PL) : pileValid p = true ↔ Vd p := by
  rw [pileValid_iff]
  constructor
  · rintro ⟨⟨⟨h1, h2⟩, h3⟩, h4, h5⟩
    have rng : ∀ s, 0 ≤ cl p s ∧ cl p s ≤ 99 := by
      intro s
      by_cases hs : inP p s
      · have := h4 _ (ix_lt hs)
        simp only [idOk, cl_ix hs, Bool.and_eq_true] at this
        exact inR_iff.1 this.1
      · have : cl p s = 0 := by
          by_cases e : cl p s = 0
          · exact e
          · exact absurd (cl_pos_in e) hs
        omega
    refine ⟨h1, h2, h3, rng, ?_, ?_⟩
    · have key : ∀ s t, inP p s → inP p t → cl p s = cl p t → cl p s ≠ 0 → ¬ ix p s < ix p t := by
        intro s t hs ht he h0 hlt
        have := h4 _ (ix_lt ht)
        simp only [idOk, cl_ix ht, Bool.and_eq_true, Bool.or_eq_true, decide_eq_true_eq] at this
        rcases this.2 with h | h
        · omega
        · apply h
          rw [← he, ← cl_ix hs, List.getD, List.getElem?_eq_getElem (ix_lt hs)]
          exact nodup_take (ix_lt ht) hlt
      intro s t he h0
      have hs := cl_pos_in h0
      have ht := cl_pos_in (p := p) (s := t) (by omega)
      have a := key s t hs ht he h0
      have b := key t s ht hs he.symm (by omega)
      exact ix_inj hs ht (by omega)
    · intro k hk
      have := h5 k (cl_pos_in hk)
      simp only [hiOk, Bool.or_eq_true, Bool.and_eq_true, decide_eq_true_eq] at this
      rcases this with h | h
      · exact absurd h hk
      · exact h
  · rintro ⟨h1, h2, h3, rng, inj, sup⟩
    have split : ∀ i, i < (p.1 ++ p.2).length → ∃ s, inP p s ∧ ix p s = i := by
      intro i hi
      by_cases h : i < p.1.length
      · exact ⟨(false, i), h, rfl⟩
      · refine ⟨(true, i - p.1.length), ?_, ?_⟩
        · simp [inP, rowOf] at *; omega
        · simp [ix]; omega
    refine ⟨⟨⟨h1, h2⟩, h3⟩, ?_, ?_⟩
    · intro i hi
      obtain ⟨s, hs, rfl⟩ := split i hi
      simp only [idOk, cl_ix hs, Bool.and_eq_true, Bool.or_eq_true, decide_eq_true_eq]
      refine ⟨inR_iff.2 (rng s), ?_⟩
      by_cases h0 : cl p s = 0
      · exact .inl h0
      · right
        intro hm
        obtain ⟨j, hj⟩ := List.mem_iff_getElem?.1 hm
        rw [List.getElem?_take] at hj
        split at hj
        · rename_i hlt
          obtain ⟨t, ht, rfl⟩ := split j (by omega)
          have e : cl p t = cl p s := by rw [← cl_ix ht, List.getD, hj]; rfl
          have := inj t s e (by omega)
          subst this; omega
        · cases hj
    · intro k hk
      simp only [hiOk, Bool.or_eq_true, Bool.and_eq_true, decide_eq_true_eq]
      by_cases h0 : cl p (true, k) = 0
      · exact .inl h0
      · exact .inr (sup k h0)
theorem ext_cl {p q : PL} (h1 : p.1.length = q.1.length) (h2 : p.2.length = q.2.length) (h : ∀ s, inP p s → cl p s = cl q s) : p = q := by
  refine Prod.ext (List.ext_getElem h1 ?_) (List.ext_getElem h2 ?_)
  · intro i a b
    have := h (false, i) a
    simpa [cl, rowOf, List.getD, List.getElem?_eq_getElem a, List.getElem?_eq_getElem b] using this
  · intro i a b
    have := h (true, i) a
    simpa [cl, rowOf, List.getD, List.getElem?_eq_getElem a, List.getElem?_eq_getElem b] using this
/-- A pile with one spot set. -/
def st (p : PL) (s : Bool × Nat) (x : Int) : PL := setRow p s.1 s.2 x
theorem st_len (p : PL) (s : Bool × Nat) (x : Int) : (st p s x).1.length = p.1.length ∧ (st p s x).2.length = p.2.length := by
  obtain ⟨t, k⟩ := s
  cases t <;> simp [st, setRow]
theorem inP_st {p : PL} {s t : Bool × Nat} {x : Int} : inP (st p s x) t ↔ inP p t := by
  have := st_len p s x
  obtain ⟨b, k⟩ := t
  cases b <;> simp [inP, rowOf, this]
theorem cl_st {p : PL} {s t : Bool × Nat} {x : Int} (hs : inP p s) : cl (st p s x) t = if t = s then x else cl p t := by
  obtain ⟨a, k⟩ := s
  obtain ⟨b, j⟩ := t
  have h' : k < (rowOf p a).length := hs
  cases a <;> cases b <;> simp [st, setRow, cl, rowOf, List.getD, List.getElem?_set] at * 
  · by_cases e : k = j
    · subst e; simp [h']
    · have e' : ¬ j = k := fun h => e h.symm
      simp [e, e']
  · by_cases e : k = j
    · subst e; simp [h']
    · have e' : ¬ j = k := fun h => e h.symm
      simp [e, e']
theorem st_st {p : PL} {s : Bool × Nat} {x y : Int} (hs : inP p s) (hy : cl p s = y) : st (st p s x) s y = p := by
  have l1 := st_len p s x
  have l2 := st_len (st p s x) s y
  refine ext_cl (by omega) (by omega) fun t _ => ?_
  rw [cl_st (inP_st.2 hs), cl_st hs]
  split
  · subst t; exact hy.symm
  · rfl
/-- Something lies on a spot of the lower row. -/
def Cov (p : PL) (k : Nat) : Prop := cl p (true, k) ≠ 0 ∨ ∃ j, k = j + 1 ∧ cl p (true, j) ≠ 0
/-- Nothing lies on the coil of a spot. -/
def Bare (p : PL) (s : Bool × Nat) : Prop := s.1 = false → ¬ Cov p s.2
theorem vd_take {p : PL} (h : Vd p) {s : Bool × Nat} (hs : inP p s) (hb : Bare p s) : Vd (st p s 0) := by
  have l := st_len p s 0
  refine ⟨by rw [l.1]; exact h.l1, by rw [l.1]; exact h.l6, by rw [l.1, l.2]; exact h.up, ?_, ?_, ?_⟩
  · intro t; rw [cl_st hs]; split
    · omega
    · exact h.rng t
  · intro a b; rw [cl_st hs, cl_st hs]
    split
    · intro _ h0; exact absurd rfl h0
    · split
      · intro e h0; exact absurd e h0
      · exact h.inj a b
  · intro k; rw [cl_st hs, cl_st hs, cl_st hs]
    split
    · intro h0; exact absurd rfl h0
    · intro h0
      have := h.sup k h0
      constructor
      · split
        · rename_i _ e; subst e; exact absurd (.inl h0) (hb rfl)
        · exact this.1
      · split
        · rename_i _ e; subst e; exact absurd (.inr ⟨k, rfl, h0⟩) (hb rfl)
        · exact this.2
/-- A coil may be put into a spot. -/
def May (p : PL) (s : Bool × Nat) (id : Int) : Prop := inP p s ∧ cl p s = 0 ∧ (1 ≤ id ∧ id ≤ 99) ∧ (∀ t, cl p t ≠ id) ∧ (s.1 = true → cl p (false, s.2) ≠ 0 ∧ cl p (false, s.2 + 1) ≠ 0)
theorem vd_put {p : PL} (h : Vd p) {s : Bool × Nat} {id : Int} (m : May p s id) : Vd (st p s id) := by
  obtain ⟨hs, h0, hi, hn, hp⟩ := m
  have l := st_len p s id
  refine ⟨by rw [l.1]; exact h.l1, by rw [l.1]; exact h.l6, by rw [l.1, l.2]; exact h.up, ?_, ?_, ?_⟩
  · intro t; rw [cl_st hs]; split
    · omega
    · exact h.rng t
  · intro a b; rw [cl_st hs, cl_st hs]
    split
    · split
      · intro _ _; simp [*]
      · intro e; exact absurd e.symm (hn b)
    · split
      · intro e; exact absurd e (hn a)
      · exact h.inj a b
  · intro k; rw [cl_st hs, cl_st hs, cl_st hs]
    have aux : ∀ (a : Int) (P : Prop) [Decidable P], a ≠ 0 → (if P then id else a) ≠ 0 := by
      intro a P _ ha; split <;> omega
    split
    · rename_i e
      intro _
      have := hp (by rw [← e])
      rw [← e] at this
      exact ⟨aux _ _ this.1, aux _ _ this.2⟩
    · intro hk
      have := h.sup k hk
      exact ⟨aux _ _ this.1, aux _ _ this.2⟩
theorem may_of {p : PL} {s : Bool × Nat} {id : Int} (hs : inP p s) (h0 : cl p s = 0) (h1 : 1 ≤ id) (h : Vd (st p s id)) : May p s id := by
  have e : cl (st p s id) s = id := by rw [cl_st hs, if_pos rfl]
  refine ⟨hs, h0, ⟨h1, by have := (h.rng s).2; omega⟩, fun t ht => ?_, fun ht => ?_⟩
  · by_cases hts : t = s
    · subst hts; omega
    · have e2 : cl (st p s id) t = id := by rw [cl_st hs, if_neg hts]; exact ht
      exact hts (h.inj t s (by omega) (by omega))
  · obtain ⟨b, k⟩ := s
    simp only at ht; subst ht
    have := h.sup k (by omega)
    rw [cl_st hs, cl_st hs] at this
    simpa using this
/-- A spot as a number of a place. -/
def spt (top : Bool) (place : Int) : Bool × Nat := (top, place.toNat)
theorem spotIn_iff {p : PL} {top : Bool} {place : Int} : spotIn p top place = true ↔ 0 ≤ place ∧ inP p (spt top place) := by
  unfold spotIn inP spt; rw [inR_iff]; simp only; omega
theorem coilAt_in {p : PL} {top : Bool} {place : Int} (h : pileValid p = true) (hs : spotIn p top place = true) : coilAt p top place = cl p (spt top place) := by
  simp [coilAt, h, hs, cl, spt]
theorem coilAt_out {p : PL} {top : Bool} {place : Int} (h : ¬ (pileValid p = true ∧ spotIn p top place = true)) : coilAt p top place = -1 := by
  unfold coilAt; rw [if_neg]; simpa using h
theorem coilAt_ge (p : PL) (top : Bool) (place : Int) : -1 ≤ coilAt p top place ∧ coilAt p top place ≤ 99 := by
  by_cases h : pileValid p = true ∧ spotIn p top place = true
  · rw [coilAt_in h.1 h.2]; have := ((vd_iff p).1 h.1).rng (spt top place); omega
  · rw [coilAt_out h]; omega
theorem coilAt_pos {p : PL} {top : Bool} {place : Int} (h : 1 ≤ coilAt p top place) : Vd p ∧ 0 ≤ place ∧ inP p (spt top place) ∧ coilAt p top place = cl p (spt top place) := by
  by_cases g : pileValid p = true ∧ spotIn p top place = true
  · have := spotIn_iff.1 g.2
    exact ⟨(vd_iff p).1 g.1, this.1, this.2, coilAt_in g.1 g.2⟩
  · rw [coilAt_out g] at h; omega
theorem coilAt_zero {p : PL} {top : Bool} {place : Int} (h : coilAt p top place = 0) : Vd p ∧ 0 ≤ place ∧ inP p (spt top place) ∧ cl p (spt top place) = 0 := by
  by_cases g : pileValid p = true ∧ spotIn p top place = true
  · have := spotIn_iff.1 g.2
    exact ⟨(vd_iff p).1 g.1, this.1, this.2, by rw [← coilAt_in g.1 g.2, h]⟩
  · rw [coilAt_out g] at h; omega
theorem coilAt_nat {p : PL} (h : Vd p) {s : Bool × Nat} (hs : inP p s) : coilAt p s.1 (s.2 : Int) = cl p s :=
  coilAt_in ((vd_iff p).2 h) (spotIn_iff.2 ⟨by omega, hs⟩)
theorem getD_idx {z : List Int} {x : Int} (h : x ∈ z) : z.getD (z.idxOf x) 0 = x := by
  have hl := List.idxOf_lt_length_of_mem h
  rw [List.getD, List.getElem?_eq_getElem hl]
  simp
/-- Where a coil is found. -/
theorem find_iff {p : PL} {id : Int} {s : Bool × Nat} : coilFind p id = some s ↔ Vd p ∧ 1 ≤ id ∧ inP p s ∧ cl p s = id := by
  unfold coilFind
  by_cases hg : pileValid p = true ∧ 1 ≤ id
  · obtain ⟨hv, h1⟩ := hg
    have V := (vd_iff p).1 hv
    rw [if_pos (by simp [hv, h1])]
    have key : ∀ s t, cl p s = id → cl p t = id → s = t := fun s t a b => V.inj s t (by omega) (by omega)
    by_cases m1 : id ∈ p.1
    · rw [if_pos m1]
      have e : cl p (false, p.1.idxOf id) = id := getD_idx m1
      constructor
      · intro h; cases h
        exact ⟨V, h1, cl_pos_in (by omega), e⟩
      · rintro ⟨_, _, _, h⟩
        rw [key _ _ e h]
    · rw [if_neg m1]
      by_cases m2 : id ∈ p.2
      · rw [if_pos m2]
        have e : cl p (true, p.2.idxOf id) = id := getD_idx m2
        constructor
        · intro h; cases h
          exact ⟨V, h1, cl_pos_in (by omega), e⟩
        · rintro ⟨_, _, _, h⟩
          rw [key _ _ e h]
      · rw [if_neg m2]
        constructor
        · intro h; cases h
        · rintro ⟨_, _, hs, h⟩
          obtain ⟨b, k⟩ := s
          exfalso
          cases b
          · have hk : k < p.1.length := hs
            exact m1 (by rw [← h, cl_low, List.getD, List.getElem?_eq_getElem hk]; exact List.getElem_mem hk)
          · have hk : k < p.2.length := hs
            exact m2 (by rw [← h, cl_high, List.getD, List.getElem?_eq_getElem hk]; exact List.getElem_mem hk)
  · rw [if_neg (by simpa using hg)]
    constructor
    · intro h; cases h
    · rintro ⟨V, h1, _⟩; exact absurd ⟨(vd_iff p).2 V, h1⟩ hg
theorem find_isSome {p : PL} {id : Int} : (coilFind p id).isSome = true ↔ Vd p ∧ 1 ≤ id ∧ ∃ s, cl p s = id := by
  rw [Option.isSome_iff_exists]
  constructor
  · rintro ⟨s, h⟩; obtain ⟨a, b, _, c⟩ := find_iff.1 h; exact ⟨a, b, s, c⟩
  · rintro ⟨a, b, s, c⟩; exact ⟨s, find_iff.2 ⟨a, b, cl_pos_in (by omega), c⟩⟩
theorem onAt_mem {p : PL} {k x : Int} : x ∈ onAt p k ↔ 0 ≤ k ∧ 0 < cl p (true, k.toNat) ∧ x = cl p (true, k.toNat) := by
  unfold onAt
  split
  · rename_i h
    simp only [Bool.and_eq_true, inR_iff, decide_eq_true_eq] at h
    rw [List.mem_singleton]
    exact ⟨fun e => ⟨h.1.1, h.2, e⟩, fun e => e.2.2⟩
  · rename_i h
    simp only [Bool.and_eq_true, inR_iff, decide_eq_true_eq] at h
    constructor
    · intro h; cases h
    · rintro ⟨a, b, _⟩
      exact absurd ⟨⟨a, by have : k.toNat < p.2.length := cl_pos_in (p := p) (s := (true, k.toNat)) (by omega); omega⟩, b⟩ h
theorem coilsOn_mem {p : PL} {top : Bool} {place x : Int} : x ∈ coilsOn p top place ↔ 1 ≤ coilAt p top place ∧ top = false ∧ 0 < x ∧ ∃ k : Nat, ((k : Int) = place - 1 ∨ (k : Int) = place) ∧ cl p (true, k) = x := by
  unfold coilsOn
  split
  · rename_i h
    simp only [Bool.or_eq_true, decide_eq_true_eq] at h
    constructor
    · intro h; cases h
    · rintro ⟨a, b, _⟩
      rcases h with h | h
      · omega
      · rw [b] at h; cases h
  · rename_i h
    simp only [Bool.or_eq_true, decide_eq_true_eq, not_or, Bool.not_eq_true] at h
    rw [List.mem_append, onAt_mem, onAt_mem]
    constructor
    · rintro (⟨a, b, rfl⟩ | ⟨a, b, rfl⟩)
      · exact ⟨by omega, h.2, b, (place - 1).toNat, by omega, rfl⟩
      · exact ⟨by omega, h.2, b, place.toNat, by omega, rfl⟩
    · rintro ⟨_, _, hx, k, hk, rfl⟩
      rcases hk with hk | hk
      · left; rw [← hk]; exact ⟨by omega, by simpa using hx, by simp⟩
      · right; rw [← hk]; exact ⟨by omega, by simpa using hx, by simp⟩
/-- Nothing lies on it. -/
theorem coilsOn_nil {p : PL} {top : Bool} {place : Int} (h : 1 ≤ coilAt p top place) : coilsOn p top place = [] ↔ Bare p (spt top place) := by
  obtain ⟨V, hpl, hs, he⟩ := coilAt_pos h
  constructor
  · intro e ht hc
    have ht' : top = false := ht
    have key : ∀ k : Nat, ((k : Int) = place - 1 ∨ (k : Int) = place) → cl p (true, k) ≠ 0 → False := by
      intro k hk h0
      have : cl p (true, k) ∈ coilsOn p top place := coilsOn_mem.2 ⟨h, ht', by have := V.rng (true, k); omega, k, hk, rfl⟩
      rw [e] at this; cases this
    rcases hc with hc | ⟨j, hj, hc⟩
    · exact key _ (by simp [spt]; omega) hc
    · exact key j (by simp [spt] at hj; omega) hc
  · intro hb
    rw [List.eq_nil_iff_forall_not_mem]
    intro x hx
    obtain ⟨_, ht, h0, k, hk, rfl⟩ := coilsOn_mem.1 hx
    subst ht
    refine hb rfl ?_
    rcases hk with hk | hk
    · exact .inr ⟨k, by simp [spt]; omega, by omega⟩
    · have e : place.toNat = k := by omega
      exact .inl (by simp only [spt, e]; omega)
theorem coilsOn_le {p : PL} {top : Bool} {place : Int} : (coilsOn p top place).length ≤ 2 := by
  unfold coilsOn
  split
  · simp
  · rw [List.length_append]
    have : ∀ k, (onAt p k).length ≤ 1 := by intro k; unfold onAt; split <;> simp
    have a := this (place - 1)
    have b := this place
    omega
/-- A coil that can be taken. -/
theorem take_yes {p : PL} {s : Bool × Nat} (V : Vd p) (h : cl p s ≠ 0) (hb : Bare p s) : coilTake p s.1 (s.2 : Int) = (st p s 0, cl p s) := by
  have hs := cl_pos_in h
  have e := coilAt_nat V hs
  have hr := V.rng s
  have hn := (coilsOn_nil (p := p) (top := s.1) (place := (s.2 : Int)) (by omega)).2 (by simpa [spt] using hb)
  unfold coilTake
  rw [if_pos ((vd_iff p).2 V), if_neg (by simp [hn]; omega), e]
  simp [st]
theorem take_no {p : PL} {top : Bool} {place : Int} (V : Vd p) (h : coilAt p top place < 1 ∨ ¬ Bare p (spt top place)) : coilTake p top place = (p, 0) := by
  unfold coilTake
  rw [if_pos ((vd_iff p).2 V), if_pos]
  by_cases h1 : coilAt p top place < 1
  · simp [h1]
  · have h2 := h.resolve_left h1
    simp only [Bool.or_eq_true, decide_eq_true_eq]
    exact .inr fun e => h2 ((coilsOn_nil (by omega)).1 e)
theorem take_iff {p : PL} {top : Bool} {place : Int} (h : (coilTake p top place).2 ≠ 0) : Vd p ∧ 0 ≤ place ∧ cl p (spt top place) ≠ 0 ∧ Bare p (spt top place) ∧ coilTake p top place = (st p (spt top place) 0, cl p (spt top place)) := by
  by_cases hv : pileValid p = true
  · have V := (vd_iff p).1 hv
    by_cases g : coilAt p top place < 1 ∨ ¬ Bare p (spt top place)
    · rw [take_no V g] at h; exact absurd rfl h
    · have g1 : 1 ≤ coilAt p top place := by omega
      have g2 : Bare p (spt top place) := Classical.byContradiction fun e => g (.inr e)
      obtain ⟨_, hp, hs, he⟩ := coilAt_pos g1
      have h0 : cl p (spt top place) ≠ 0 := by omega
      have := take_yes V h0 g2
      have e : ((spt top place).2 : Int) = place := by simp [spt]; omega
      rw [e] at this
      exact ⟨V, hp, h0, g2, this⟩
  · unfold coilTake at h; rw [if_neg hv] at h; exact absurd rfl h
/-- A coil that can be put. -/
theorem put_yes {p : PL} {s : Bool × Nat} {id : Int} (V : Vd p) (m : May p s id) : coilPut p s.1 (s.2 : Int) id = (st p s id, true) := by
  have e := coilAt_nat V m.1
  have h1 := m.2.2.1
  have hv := (vd_iff _).2 (vd_put V m)
  have e0 := m.2.1
  unfold coilPut
  rw [if_pos ((vd_iff p).2 V), if_neg (by simp [e, e0]; omega)]
  simp only [st] at hv ⊢
  simp only [Int.toNat_natCast]
  rw [if_pos hv]
theorem put_iff {p : PL} {top : Bool} {place id : Int} (h : (coilPut p top place id).2 = true) : Vd p ∧ 0 ≤ place ∧ May p (spt top place) id ∧ coilPut p top place id = (st p (spt top place) id, true) := by
  unfold coilPut at h
  by_cases hv : pileValid p = true
  · rw [if_pos hv] at h
    by_cases hc : id < 1 ∨ coilAt p top place ≠ 0
    · rw [if_pos (by simpa using hc)] at h; cases h
    · rw [if_neg (by simpa using hc)] at h
      by_cases hv2 : pileValid (setRow p top place.toNat id) = true
      · have hc0 : coilAt p top place = 0 := by
          by_cases e : coilAt p top place = 0
          · exact e
          · exact absurd (.inr e) hc
        obtain ⟨V, hp, hs, h0⟩ := coilAt_zero hc0
        have m : May p (spt top place) id := may_of hs h0 (by omega) ((vd_iff _).1 hv2)
        have := put_yes V m
        have e : ((spt top place).2 : Int) = place := by simp [spt]; omega
        rw [e] at this
        exact ⟨V, hp, m, this⟩
      · rw [if_neg hv2] at h; cases h
  · rw [if_neg hv] at h; cases h
theorem put_no {p : PL} {top : Bool} {place id : Int} (V : Vd p) (h : (coilPut p top place id).2 = false) : coilPut p top place id = (p, false) := by
  unfold coilPut at h ⊢
  rw [if_pos ((vd_iff p).2 V)] at h ⊢
  split at h
  · rename_i hc; rw [if_pos hc]
  · rename_i hc; rw [if_neg hc]
    split at h
    · cases h
    · rename_i hc2; rw [if_neg hc2]
/-- A lift that is done. -/
theorem lift_iff {p : PL} {l : LF} (h : (coilLift p l).2 = true) :
    Vd p ∧ 0 ≤ l.1.2 ∧ 0 ≤ l.2.2 ∧ spt l.1.1 l.1.2 ≠ spt l.2.1 l.2.2 ∧ cl p (spt l.1.1 l.1.2) ≠ 0 ∧ Bare p (spt l.1.1 l.1.2) ∧ May (st p (spt l.1.1 l.1.2) 0) (spt l.2.1 l.2.2) (cl p (spt l.1.1 l.1.2)) ∧
      coilLift p l = (st (st p (spt l.1.1 l.1.2) 0) (spt l.2.1 l.2.2) (cl p (spt l.1.1 l.1.2)), true) := by
  obtain ⟨⟨a, k⟩, ⟨b, j⟩⟩ := l
  unfold coilLift at h ⊢
  by_cases hv : pileValid p = true
  · rw [if_pos hv] at h ⊢
    by_cases he : ((a, k) : Bool × Int) = (b, j)
    · simp only at h; rw [if_pos he] at h; cases h
    · simp only at h ⊢
      rw [if_neg he] at h ⊢
      by_cases ht : (coilTake p a k).2 = 0
      · rw [if_pos ht] at h; cases h
      · rw [if_neg ht] at h ⊢
        obtain ⟨V, hk, h0, hb, e⟩ := take_iff ht
        rw [e] at h ⊢
        simp only at h ⊢
        by_cases hp : (coilPut (st p (spt a k) 0) b j (cl p (spt a k))).2 = true
        · rw [if_pos hp] at h ⊢
          obtain ⟨_, hj, m, e2⟩ := put_iff hp
          refine ⟨V, hk, hj, ?_, h0, hb, m, e2⟩
          intro e3
          simp only [spt, Prod.mk.injEq] at e3
          exact he (by rw [e3.1, show k = j by omega])
        · rw [if_neg hp] at h; cases h
  · rw [if_neg hv] at h; cases h
theorem lift_no {p : PL} {l : LF} (V : Vd p) (h : (coilLift p l).2 = false) : coilLift p l = (p, false) := by
  unfold coilLift at h ⊢
  rw [if_pos ((vd_iff p).2 V)] at h ⊢
  split at h
  · rename_i hc; rw [if_pos hc]
  · rename_i hc; rw [if_neg hc]
    split at h
    · rename_i hc; rw [if_pos hc]
    · rename_i hc; rw [if_neg hc]
      split at h
      · rename_i hc; rw [h] at hc; cases hc
      · rename_i hc; rw [if_neg hc]
theorem lift_yes {p : PL} {s t : Bool × Nat} (V : Vd p) (h : s ≠ t) (h0 : cl p s ≠ 0) (hb : Bare p s) (m : May (st p s 0) t (cl p s)) :
    coilLift p ((s.1, (s.2 : Int)), (t.1, (t.2 : Int))) = (st (st p s 0) t (cl p s), true) := by
  have hs := cl_pos_in h0
  have V1 := vd_take V hs hb
  have e1 := take_yes V h0 hb
  have e2 := put_yes V1 m
  have hne : ¬ (((s.1, (s.2 : Int)) : Bool × Int) = (t.1, (t.2 : Int))) := by
    intro e
    simp only [Prod.mk.injEq] at e
    exact h (Prod.ext e.1 (by omega))
  unfold coilLift
  simp only
  rw [if_pos ((vd_iff p).2 V), if_neg hne, e1]
  simp only
  rw [if_neg h0, e2]
  rfl
/-- Lifts keep piles valid. -/
theorem lift_vd {p : PL} (V : Vd p) (l : LF) : Vd (coilLift p l).1 := by
  cases h : (coilLift p l).2
  · rw [lift_no V h]; exact V
  · obtain ⟨_, _, _, _, h0, hb, m, e⟩ := lift_iff h
    rw [e]
    exact vd_put (vd_take V (cl_pos_in h0) hb) m
theorem take_vd {p : PL} (V : Vd p) (top : Bool) (place : Int) : Vd (coilTake p top place).1 := by
  by_cases h : (coilTake p top place).2 = 0
  · by_cases g : coilAt p top place < 1 ∨ ¬ Bare p (spt top place)
    · rw [take_no V g]; exact V
    · have g1 : 1 ≤ coilAt p top place := by omega
      have g2 : Bare p (spt top place) := Classical.byContradiction fun e => g (.inr e)
      obtain ⟨_, hp, hs, he⟩ := coilAt_pos g1
      have := take_yes V (s := spt top place) (by omega) g2
      have e : ((spt top place).2 : Int) = place := by simp [spt]; omega
      rw [e] at this
      have e2 : (spt top place).1 = top := rfl
      rw [e2] at this
      rw [this] at h
      simp only at h; omega
  · obtain ⟨_, _, h0, hb, e⟩ := take_iff h
    rw [e]; exact vd_take V (cl_pos_in h0) hb
theorem put_vd {p : PL} (V : Vd p) (top : Bool) (place id : Int) : Vd (coilPut p top place id).1 := by
  cases h : (coilPut p top place id).2
  · rw [put_no V h]; exact V
  · obtain ⟨_, _, m, e⟩ := put_iff h
    rw [e]; exact vd_put V m
theorem liftN_vd {p : PL} (V : Vd p) (ls : List LF) : Vd (liftN p ls).1 := by
  induction ls generalizing p with
  | nil => exact V
  | cons l r ih =>
    unfold liftN
    split
    · exact ih (lift_vd V l)
    · exact V
/-- A lift can be undone. -/
theorem lift_back {p : PL} {l : LF} (h : (coilLift p l).2 = true) : coilLift (coilLift p l).1 (l.2, l.1) = (p, true) := by
  obtain ⟨V, hk, hj, hne, h0, hb, m, e⟩ := lift_iff h
  have hs := cl_pos_in h0
  generalize hS : spt l.1.1 l.1.2 = s at *
  generalize hT : spt l.2.1 l.2.2 = t at *
  have V1 := vd_take V hs hb
  have V2 := vd_put V1 m
  have ht : inP p t := inP_st.1 m.1
  rw [e]
  have ct : cl (st (st p s 0) t (cl p s)) t = cl p s := by rw [cl_st m.1, if_pos rfl]
  have h0' : cl p t = 0 := by
    have := m.2.1
    rwa [cl_st hs, if_neg (fun e => hne e.symm)] at this
  -- nothing lies on t
  have hb2 : Bare (st (st p s 0) t (cl p s)) t := by
    intro hlow hc
    have key : ∀ j, (t.2 = j ∨ t.2 = j + 1) → cl (st (st p s 0) t (cl p s)) (true, j) ≠ 0 → False := by
      intro j hj' hc
      rw [cl_st m.1, if_neg (fun e => by rw [← e] at hlow; cases hlow), cl_st hs] at hc
      split at hc
      · exact hc rfl
      · have := V.sup j hc
        obtain ⟨b, k⟩ := t
        simp only at hlow hj'; subst hlow
        rcases hj' with rfl | rfl
        · exact this.1 h0'
        · exact this.2 h0'
    rcases hc with hc | ⟨j, hj', hc⟩
    · exact key _ (.inl rfl) hc
    · exact key j (.inr hj') hc
  have hback : st (st (st p s 0) t (cl p s)) t 0 = st p s 0 := st_st m.1 (by rw [cl_st hs, if_neg (fun e => hne e.symm)]; exact h0')
  have m2 : May (st (st (st p s 0) t (cl p s)) t 0) s (cl (st (st p s 0) t (cl p s)) t) := by
    rw [hback, ct]
    have hst : st (st p s 0) s (cl p s) = p := st_st hs rfl
    refine may_of (inP_st.2 hs) (by rw [cl_st hs, if_pos rfl]) (by have := V.rng s; omega) (by rw [hst]; exact V)
  have := lift_yes V2 (s := t) (t := s) (fun e => hne e.symm) (by rw [ct]; exact h0) hb2 m2
  rw [hback, ct] at this
  rw [st_st hs rfl] at this
  have e1 : ((s.1, (s.2 : Int)) : Bool × Int) = l.1 := by rw [← hS]; simp only [spt]; exact Prod.ext rfl (by simp; omega)
  have e2 : ((t.1, (t.2 : Int)) : Bool × Int) = l.2 := by rw [← hT]; simp only [spt]; exact Prod.ext rfl (by simp; omega)
  rw [e1, e2] at this
  exact this
/-- The ids of all coils, ascending. -/
def coilIds (p : PL) : List Int := ((List.range 99).map fun k : Nat => (k : Int) + 1).filter fun id => (coilFind p id).isSome
theorem ids_base {id : Int} : id ∈ ((List.range 99).map fun k : Nat => (k : Int) + 1) ↔ 1 ≤ id ∧ id ≤ 99 := by
  simp only [List.mem_map, List.mem_range]
  constructor
  · rintro ⟨k, hk, rfl⟩; omega
  · rintro ⟨a, b⟩; exact ⟨(id - 1).toNat, by omega, by omega⟩
theorem ids_mem {p : PL} {id : Int} : id ∈ coilIds p ↔ Vd p ∧ 1 ≤ id ∧ ∃ s, cl p s = id := by
  unfold coilIds
  rw [List.mem_filter, ids_base, find_isSome]
  constructor
  · rintro ⟨_, h⟩; exact h
  · rintro ⟨V, h1, s, hs⟩; exact ⟨⟨h1, by have := V.rng s; omega⟩, V, h1, s, hs⟩
theorem range_map_pw (n : Nat) : ((List.range n).map fun k : Nat => (k : Int) + 1).Pairwise (· < ·) := by
  rw [List.pairwise_map]
  exact (List.pairwise_lt_range).imp fun h => by omega
theorem ids_pw (p : PL) : (coilIds p).Pairwise (· < ·) := (range_map_pw 99).filter _
/-- Two ascending lists with the same members are the same. -/
theorem pw_ext {a b : List Int} (ha : a.Pairwise (· < ·)) (hb : b.Pairwise (· < ·)) (h : ∀ x, x ∈ a ↔ x ∈ b) : a = b := by
  induction a generalizing b with
  | nil =>
    cases b with
    | nil => rfl
    | cons y t => exact absurd ((h y).2 (List.mem_cons_self)) (by simp)
  | cons x r ih =>
    cases b with
    | nil => exact absurd ((h x).1 (List.mem_cons_self)) (by simp)
    | cons y t =>
      rw [List.pairwise_cons] at ha hb
      have e : x = y := by
        have h1 := (h x).1 List.mem_cons_self
        have h2 := (h y).2 List.mem_cons_self
        rw [List.mem_cons] at h1 h2
        rcases h1 with h1 | h1
        · exact h1
        · rcases h2 with h2 | h2
          · exact h2.symm
          · have := ha.1 y h2; have := hb.1 x h1; omega
      subst e
      rw [ih ha.2 hb.2 fun z => ?_]
      have hz := h z
      rw [List.mem_cons, List.mem_cons] at hz
      constructor
      · intro m
        have := ha.1 z m
        rcases hz.1 (.inr m) with e | e
        · omega
        · exact e
      · intro m
        have := hb.1 z m
        rcases hz.2 (.inr m) with e | e
        · omega
        · exact e
theorem ids_ext {p q : PL} (hp : Vd p) (hq : Vd q) (h : ∀ x, 1 ≤ x → ((∃ s, cl p s = x) ↔ ∃ s, cl q s = x)) : coilIds p = coilIds q := by
  refine pw_ext (ids_pw p) (ids_pw q) fun x => ?_
  rw [ids_mem, ids_mem]
  constructor
  · rintro ⟨_, h1, k⟩; exact ⟨hq, h1, (h x h1).1 k⟩
  · rintro ⟨_, h1, k⟩; exact ⟨hp, h1, (h x h1).2 k⟩
/-- The coils of a pile, in the order of the rows. -/
def some0 (z : List Int) : List Int := z.filter (· ≠ 0)
theorem all_mem {p : PL} {x : Int} (h : x ≠ 0) : x ∈ p.1 ++ p.2 ↔ ∃ s, cl p s = x := by
  rw [List.mem_append]
  constructor
  · rintro (m | m)
    · exact ⟨(false, p.1.idxOf x), getD_idx m⟩
    · exact ⟨(true, p.2.idxOf x), getD_idx m⟩
  · rintro ⟨⟨b, k⟩, hs⟩
    have hi := cl_pos_in (p := p) (s := (b, k)) (by omega)
    cases b
    · have hk : k < p.1.length := hi
      left; rw [← hs, cl_low, List.getD, List.getElem?_eq_getElem hk]; exact List.getElem_mem hk
    · have hk : k < p.2.length := hi
      right; rw [← hs, cl_high, List.getD, List.getElem?_eq_getElem hk]; exact List.getElem_mem hk
theorem nodup_some {p : PL} (V : Vd p) : (some0 (p.1 ++ p.2)).Nodup := by
  unfold some0 List.Nodup
  rw [List.pairwise_filter, List.pairwise_iff_getElem]
  intro i j hi hj hij h1 h2 e
  have key : ∀ i (h : i < (p.1 ++ p.2).length), ∃ s, inP p s ∧ ix p s = i ∧ cl p s = (p.1 ++ p.2)[i] := by
    intro i hi
    by_cases h : i < p.1.length
    · exact ⟨(false, i), h, rfl, by rw [cl_low, List.getD, List.getElem?_eq_getElem h, List.getElem_append_left h]; rfl⟩
    · have hl : i - p.1.length < p.2.length := by rw [List.length_append] at hi; omega
      refine ⟨(true, i - p.1.length), hl, by simp [ix]; omega, ?_⟩
      rw [cl_high, List.getD, List.getElem?_eq_getElem hl, List.getElem_append_right (by omega)]; rfl
  obtain ⟨s, a1, a2, a3⟩ := key i hi
  obtain ⟨t, b1, b2, b3⟩ := key j hj
  have h1' : (p.1 ++ p.2)[i] ≠ 0 := by simpa using h1
  have := V.inj s t (by rw [a3, b3, e]) (by rw [a3]; exact h1')
  subst this; omega
theorem ids_perm {p : PL} (V : Vd p) {l : List Int} (hp : l.Perm (some0 (p.1 ++ p.2))) (hs : l.Pairwise (· ≤ ·)) : l = coilIds p := by
  have hn : l.Nodup := hp.nodup_iff.2 (nodup_some V)
  refine pw_ext ?_ (ids_pw p) fun x => ?_
  · exact (List.Pairwise.and hs hn).imp fun ⟨a, b⟩ => by omega
  · rw [hp.mem_iff, ids_mem, some0, List.mem_filter]
    constructor
    · rintro ⟨m, h⟩
      have h0 : x ≠ 0 := by simpa using h
      obtain ⟨s, hs⟩ := (all_mem h0).1 m
      exact ⟨V, by have := V.rng s; omega, s, hs⟩
    · rintro ⟨_, h1, hs⟩
      exact ⟨(all_mem (by omega)).2 hs, by simp; omega⟩
theorem ids_perm_self {p : PL} (V : Vd p) : (coilIds p).Perm (some0 (p.1 ++ p.2)) := by
  have hs := List.mergeSort_perm (some0 (p.1 ++ p.2)) (fun a b => decide (a ≤ b))
  have hw := List.pairwise_mergeSort (le := fun a b : Int => decide (a ≤ b)) (by intro a b c; simp; omega) (by intro a b; simp; omega) (some0 (p.1 ++ p.2))
  have e := ids_perm V hs (hw.imp fun h => by simpa using h)
  rw [← e]; exact hs
theorem ids_len {p : PL} (V : Vd p) : (coilIds p).length = (some0 p.1).length + (some0 p.2).length := by
  rw [(ids_perm_self V).length_eq, some0, List.filter_append, List.length_append]; rfl
theorem ids_no {p : PL} (h : ¬ Vd p) : coilIds p = [] := by
  rw [List.eq_nil_iff_forall_not_mem]; intro x hx; exact h (ids_mem.1 hx).1
theorem ids_le (p : PL) : (coilIds p).length ≤ 99 := by
  unfold coilIds
  refine Nat.le_trans (List.length_filter_le _ _) ?_
  rw [List.length_map, List.length_range]; exact Nat.le_refl _
theorem vals_st {p : PL} {s t : Bool × Nat} (hs : inP p s) (ht : inP p t) (h0 : cl p s ≠ 0) (ht0 : cl (st p s 0) t = 0) (hne : s ≠ t) {x : Int} (hx : 1 ≤ x) : (∃ u, cl (st (st p s 0) t (cl p s)) u = x) ↔ ∃ u, cl p u = x := by
  have f : ∀ u, cl (st (st p s 0) t (cl p s)) u = if u = t then cl p s else if u = s then 0 else cl p u := by
    intro u; rw [cl_st (inP_st.2 ht), cl_st hs]
  constructor
  · rintro ⟨u, hu⟩
    rw [f] at hu
    split at hu
    · exact ⟨s, hu⟩
    · split at hu
      · omega
      · exact ⟨u, hu⟩
  · rintro ⟨u, hu⟩
    by_cases e : u = s
    · subst e; exact ⟨t, by rw [f, if_pos rfl]; exact hu⟩
    · refine ⟨u, ?_⟩
      rw [f, if_neg, if_neg e]
      · exact hu
      · intro e2; subst e2
        rw [cl_st hs, if_neg e] at ht0; omega
theorem lift_ids {p : PL} (V : Vd p) (l : LF) : coilIds (coilLift p l).1 = coilIds p := by
  cases h : (coilLift p l).2
  · rw [lift_no V h]
  · obtain ⟨_, _, _, hne, h0, hb, m, e⟩ := lift_iff h
    have V2 := lift_vd V l
    rw [e] at V2 ⊢
    exact ids_ext V2 V fun x hx => vals_st (cl_pos_in h0) (inP_st.1 m.1) h0 m.2.1 hne hx
theorem liftN_ids {p : PL} (V : Vd p) (ls : List LF) : coilIds (liftN p ls).1 = coilIds p := by
  induction ls generalizing p with
  | nil => rfl
  | cons l r ih =>
    unfold liftN
    split
    · simp only; rw [ih (lift_vd V l), lift_ids V l]
    · rfl
theorem lift_ne {p : PL} {l : LF} (h : (coilLift p l).2 = true) : (coilLift p l).1 ≠ p := by
  obtain ⟨V, _, _, hne, h0, hb, m, e⟩ := lift_iff h
  rw [e]
  intro e2
  have : cl (st (st p (spt l.1.1 l.1.2) 0) (spt l.2.1 l.2.2) (cl p (spt l.1.1 l.1.2))) (spt l.1.1 l.1.2) = cl p (spt l.1.1 l.1.2) := congrArg (fun q => cl q (spt l.1.1 l.1.2)) e2
  rw [cl_st m.1, if_neg hne, cl_st (cl_pos_in h0), if_pos rfl] at this
  exact h0 this.symm
theorem liftN_le (p : PL) (ls : List LF) : (liftN p ls).2 ≤ ls.length := by
  induction ls generalizing p with
  | nil => exact Nat.le_refl _
  | cons l r ih =>
    unfold liftN
    split
    · have := ih (coilLift p l).1; simp only [List.length_cons]; omega
    · exact Nat.zero_le _
theorem liftN_append {p : PL} {a : List LF} (h : (liftN p a).2 = a.length) (b : List LF) : liftN p (a ++ b) = ((liftN (liftN p a).1 b).1, a.length + (liftN (liftN p a).1 b).2) := by
  induction a generalizing p with
  | nil => simp [liftN]
  | cons l r ih =>
    unfold liftN at h
    split at h
    · rename_i hl
      simp only [List.length_cons] at h
      have := ih (p := (coilLift p l).1) (by omega)
      rw [List.cons_append, liftN, if_pos hl, this]
      have e : liftN p (l :: r) = ((liftN (coilLift p l).1 r).1, (liftN (coilLift p l).1 r).2 + 1) := by rw [liftN, if_pos hl]
      rw [e]
      simp only [List.length_cons]
      refine Prod.ext rfl ?_
      simp only; omega
    · simp at h
def swp (l : LF) : LF := (l.2, l.1)
/-- The lifts that were done, in the other direction, lead back. -/
theorem liftN_back {p : PL} (ls : List LF) : liftN (liftN p ls).1 ((ls.take (liftN p ls).2).map swp).reverse = (p, (liftN p ls).2) := by
  induction ls generalizing p with
  | nil => rfl
  | cons l r ih =>
    by_cases hl : (coilLift p l).2 = true
    · have e : liftN p (l :: r) = ((liftN (coilLift p l).1 r).1, (liftN (coilLift p l).1 r).2 + 1) := by rw [liftN, if_pos hl]
      rw [e]
      simp only [List.take_succ_cons, List.map_cons, List.reverse_cons]
      have h1 := ih (p := (coilLift p l).1)
      have hlen : ((r.take (liftN (coilLift p l).1 r).2).map swp).reverse.length = (liftN (coilLift p l).1 r).2 := by
        have := liftN_le (coilLift p l).1 r
        simp; omega
      rw [liftN_append (by rw [h1, hlen]), h1, hlen]
      have hb := lift_back hl
      have e2 : liftN (coilLift p l).1 [swp l] = (p, 1) := by
        rw [liftN, show coilLift (coilLift p l).1 (swp l) = (p, true) from hb]; rfl
      rw [e2]
    · have e : liftN p (l :: r) = (p, 0) := by rw [liftN, if_neg hl]
      rw [e]; rfl
end Go.Proofs.YtpiiefmfiipabaaDoor
