/- Digging coils out, and orders in which coils leave. Plain laws, no conditions but those stated. -/
import Derived.Test.YtpiiefmfiipabaaDoorCoilPlain
namespace Go.Proofs.YtpiiefmfiipabaaDoor
open Go.ChangeShapes Go.WideShapes Go.ChangeAt Go.RowKit Go.Deep
def findV (p : PL) (id : Int) : Bool × Int := ((coilFind p id).map fun s => (s.1, (s.2 : Int))).getD (false, 0)
theorem findV_at {p : PL} (V : Vd p) {s : Bool × Nat} (h0 : cl p s ≠ 0) : findV p (cl p s) = (s.1, (s.2 : Int)) := by
  have : coilFind p (cl p s) = some s := find_iff.2 ⟨V, by have := V.rng s; omega, cl_pos_in h0, rfl⟩
  rw [findV, this]; rfl
theorem find_range_some {n k : Nat} {P : Nat → Bool} (hk : k < n) (h : P k = true) (hn : ∀ j, j < k → P j = false) : (List.range n).find? P = some k := by
  rw [List.find?_range_eq_some]
  exact ⟨h, List.mem_range.2 hk, fun j hj => by rw [hn j hj]; rfl⟩
theorem find_range_none {n : Nat} {P : Nat → Bool} (hn : ∀ j, j < n → P j = false) : (List.range n).find? P = none := by
  rw [List.find?_eq_none]
  intro j hj; rw [hn j (List.mem_range.1 hj)]; simp
theorem find_congr {n : Nat} {P Q : Nat → Bool} (h : ∀ k, k < n → P k = Q k) : (List.range n).find? P = (List.range n).find? Q := by
  have : ∀ l : List Nat, (∀ k ∈ l, P k = Q k) → l.find? P = l.find? Q := by
    intro l
    induction l with
    | nil => intro _; rfl
    | cons x r ih =>
      intro h
      rw [List.find?_cons, List.find?_cons, h x List.mem_cons_self, ih fun k hk => h k (List.mem_cons_of_mem _ hk)]
  exact this _ fun k hk => h k (List.mem_range.1 hk)
/-- The first spot to which a coil can be lifted where it does not lie on place b. -/
def lowTo (p : PL) (fr : Bool × Int) : Option Nat := (List.range p.1.length).find? fun k => (coilLift p (fr, (false, (k : Int)))).2
def highP (p : PL) (fr : Bool × Int) (b : Int) (k : Nat) : Bool := !(decide ((k : Int) = b) || decide ((k : Int) = b - 1)) && (coilLift p (fr, (true, (k : Int)))).2
def highTo (p : PL) (fr : Bool × Int) (b : Int) : Option Nat := (List.range p.2.length).find? (highP p fr b)
def awayTo (p : PL) (fr : Bool × Int) (b : Int) : Option (Bool × Nat) := ((lowTo p fr).map fun k => (false, k)).or ((highTo p fr b).map fun k => (true, k))
def lowFreeP (x : PL) (b : Int) (k : Nat) : Bool := decide (x.1.getD k 0 = 0) && decide ((k : Int) ≠ b)
def highFreeP (x : PL) (b : Int) (k : Nat) : Bool := decide (x.2.getD k 0 = 0) && (decide (0 < x.1.getD k 0) && (decide (0 < x.1.getD (k + 1) 0) && (decide ((k : Int) ≠ b) && decide ((k : Int) + 1 ≠ b))))
def freeTo (x : PL) (b : Int) : Option (Bool × Nat) := (((List.range x.1.length).find? (lowFreeP x b)).map fun k => (false, k)).or (((List.range x.2.length).find? (highFreeP x b)).map fun k => (true, k))
theorem may_iff {p : PL} (V : Vd p) {s t : Bool × Nat} (h0 : cl p s ≠ 0) : May (st p s 0) t (cl p s) ↔ inP p t ∧ cl (st p s 0) t = 0 ∧ (t.1 = true → cl (st p s 0) (false, t.2) ≠ 0 ∧ cl (st p s 0) (false, t.2 + 1) ≠ 0) := by
  have hs := cl_pos_in h0
  constructor
  · rintro ⟨a, b, _, _, c⟩; exact ⟨inP_st.1 a, b, c⟩
  · rintro ⟨a, b, c⟩
    refine ⟨inP_st.2 a, b, by have := V.rng s; omega, fun u => ?_, c⟩
    rw [cl_st hs]
    split
    · omega
    · rename_i e; intro h; exact e (V.inj u s h (by omega))
theorem lift_test {p : PL} (V : Vd p) {s t : Bool × Nat} (h0 : cl p s ≠ 0) (hb : Bare p s) :
    (coilLift p ((s.1, (s.2 : Int)), (t.1, (t.2 : Int)))).2 = true ↔ s ≠ t ∧ May (st p s 0) t (cl p s) := by
  constructor
  · intro h
    obtain ⟨_, _, _, hne, _, _, m, _⟩ := lift_iff h
    simp only [spt, Int.toNat_natCast] at hne m
    exact ⟨hne, m⟩
  · rintro ⟨h, m⟩; rw [lift_yes V h h0 hb m]
/-- A coil in the upper row, on the one at place b of the lower row. -/
structure On (p : PL) (b j : Nat) : Prop where
  vd : Vd p
  low : cl p (false, b) ≠ 0
  hi : cl p (true, j) ≠ 0
  near : j = b ∨ j + 1 = b
theorem On.bare {p : PL} {b j : Nat} (_h : On p b j) : Bare p (true, j) := fun e => by cases e
theorem away_free {p : PL} {b j : Nat} (h : On p b j) : awayTo p (true, (j : Int)) (b : Int) = freeTo (st p (true, j) 0) (b : Int) := by
  have hs := cl_pos_in h.hi
  have l := st_len p (true, j) 0
  have e1 : lowTo p (true, (j : Int)) = (List.range (st p (true, j) 0).1.length).find? (lowFreeP (st p (true, j) 0) (b : Int)) := by
    unfold lowTo
    rw [l.1]
    refine find_congr fun k hk => ?_
    rw [Bool.eq_iff_iff, lift_test h.vd (s := (true, j)) (t := (false, k)) h.hi h.bare, may_iff h.vd h.hi]
    simp only [lowFreeP, Bool.and_eq_true, decide_eq_true_eq]
    have e : cl (st p (true, j) 0) (false, k) = (st p (true, j) 0).1.getD k 0 := rfl
    rw [e]
    constructor
    · rintro ⟨_, _, a, _⟩
      refine ⟨a, fun hb => ?_⟩
      have : k = b := by omega
      subst this
      rw [← e, cl_st hs, if_neg (by simp)] at a
      exact h.low a
    · rintro ⟨a, _⟩
      exact ⟨by simp, hk, a, fun e => by cases e⟩
  have e2 : highTo p (true, (j : Int)) (b : Int) = (List.range (st p (true, j) 0).2.length).find? (highFreeP (st p (true, j) 0) (b : Int)) := by
    unfold highTo
    rw [l.2]
    refine find_congr fun k hk => ?_
    rw [Bool.eq_iff_iff]
    unfold highP
    rw [Bool.and_eq_true, lift_test h.vd (s := (true, j)) (t := (true, k)) h.hi h.bare, may_iff h.vd h.hi]
    simp only [highFreeP, Bool.and_eq_true, decide_eq_true_eq, Bool.not_eq_true', Bool.or_eq_false_iff, decide_eq_false_iff_not]
    have f1 : cl (st p (true, j) 0) (false, k) = (st p (true, j) 0).1.getD k 0 := rfl
    have f2 : cl (st p (true, j) 0) (false, k + 1) = (st p (true, j) 0).1.getD (k + 1) 0 := rfl
    have f3 : cl (st p (true, j) 0) (true, k) = (st p (true, j) 0).2.getD k 0 := rfl
    have V1 := vd_take h.vd hs h.bare
    have r1 := V1.rng (false, k)
    have r2 := V1.rng (false, k + 1)
    rw [← f1, ← f2, ← f3]
    constructor
    · rintro ⟨⟨a, a'⟩, _, _, c, d⟩
      have d := d trivial
      exact ⟨c, by omega, by omega, by omega, by omega⟩
    · rintro ⟨c, d1, d2, a, a'⟩
      refine ⟨⟨by omega, by omega⟩, ?_, hk, c, fun _ => ⟨by omega, by omega⟩⟩
      have := h.near
      simp only [ne_eq, Prod.mk.injEq, true_and]; omega
  unfold awayTo freeTo
  rw [e1, e2]
theorem away_some {p : PL} {b j : Nat} (h : On p b j) {t : Bool × Nat} (ht : awayTo p (true, (j : Int)) (b : Int) = some t) :
    (true, j) ≠ t ∧ May (st p (true, j) 0) t (cl p (true, j)) ∧ t ≠ (true, b) ∧ (∀ i, i + 1 = b → t ≠ (true, i)) ∧ coilLift p ((true, (j : Int)), (t.1, (t.2 : Int))) = (st (st p (true, j) 0) t (cl p (true, j)), true) := by
  have key : (coilLift p ((true, (j : Int)), (t.1, (t.2 : Int)))).2 = true ∧ t ≠ (true, b) ∧ ∀ i, i + 1 = b → t ≠ (true, i) := by
    unfold awayTo at ht
    cases h1 : lowTo p (true, (j : Int)) with
    | some k =>
      rw [h1] at ht
      cases ht
      have g := List.find?_some h1
      exact ⟨g, by simp, fun i _ => by simp⟩
    | none =>
      rw [h1] at ht
      cases h2 : highTo p (true, (j : Int)) (b : Int) with
      | some k =>
        rw [h2] at ht
        cases ht
        have := List.find?_some h2
        simp only [highP, Bool.and_eq_true, Bool.not_eq_true', Bool.or_eq_false_iff, decide_eq_false_iff_not] at this
        exact ⟨this.2, by simp; omega, fun i hi => by simp; omega⟩
      | none => rw [h2] at ht; cases ht
  obtain ⟨a, m⟩ := (lift_test h.vd (s := (true, j)) (t := t) h.hi h.bare).1 key.1
  exact ⟨a, m, key.2.1, key.2.2, lift_yes h.vd a h.hi h.bare m⟩
def digN (b : Int) : PL → List Int → Option (PL × List LF)
  | p, [] => some (p, [])
  | p, u :: r =>
    match awayTo p (findV p u) b with
    | none => none
    | some t => (digN b (coilLift p (findV p u, (t.1, (t.2 : Int)))).1 r).map fun x => (x.1, (findV p u, (t.1, (t.2 : Int))) :: x.2)
def digS (b : Int) : PL → List Int → Option (PL × List LF)
  | p, [] => some (p, [])
  | p, u :: r =>
    match freeTo (coilTake p (findV p u).1 (findV p u).2).1 b with
    | none => none
    | some t => (digS b (coilPut (coilTake p (findV p u).1 (findV p u).2).1 t.1 (t.2 : Int) u).1 r).map fun x => (x.1, (findV p u, (t.1, (t.2 : Int))) :: x.2)
/-- Coils that lie on the one at place b. -/
structure Ons (p : PL) (b : Nat) (us : List Int) : Prop where
  vd : Vd p
  low : us ≠ [] → cl p (false, b) ≠ 0
  nodup : us.Nodup
  on : ∀ u ∈ us, u ≠ 0 ∧ ∃ j, cl p (true, j) = u ∧ (j = b ∨ j + 1 = b)
theorem Ons.one {p : PL} {b : Nat} {u : Int} {r : List Int} (h : Ons p b (u :: r)) : ∃ j, On p b j ∧ cl p (true, j) = u ∧ findV p u = (true, (j : Int)) := by
  obtain ⟨h0, j, hj, hn⟩ := h.on u List.mem_cons_self
  exact ⟨j, ⟨h.vd, h.low (by simp), by omega, hn⟩, hj, by have := findV_at h.vd (s := (true, j)) (by omega); rwa [hj] at this⟩
theorem Ons.next {p : PL} {b : Nat} {u : Int} {r : List Int} (h : Ons p b (u :: r)) {j : Nat} (o : On p b j) (hj : cl p (true, j) = u) {t : Bool × Nat} (ht : awayTo p (true, (j : Int)) (b : Int) = some t) :
    Ons (st (st p (true, j) 0) t (cl p (true, j))) b r ∧ (∀ i, i = b ∨ i + 1 = b → cl (st (st p (true, j) 0) t (cl p (true, j))) (true, i) = if i = j then 0 else cl p (true, i)) ∧ cl (st (st p (true, j) 0) t (cl p (true, j))) (false, b) = cl p (false, b) := by
  obtain ⟨a, m, n1, n2, e⟩ := away_some o ht
  have hs := cl_pos_in o.hi
  have V2 := vd_put (vd_take o.vd hs o.bare) m
  have hlow : cl (st (st p (true, j) 0) t (cl p (true, j))) (false, b) = cl p (false, b) := by
    rw [cl_st m.1, if_neg, cl_st hs, if_neg (by simp)]
    intro e2
    have := m.2.1
    rw [← e2, cl_st hs, if_neg (by simp)] at this
    exact o.low this
  have hhi : ∀ i, i = b ∨ i + 1 = b → cl (st (st p (true, j) 0) t (cl p (true, j))) (true, i) = if i = j then 0 else cl p (true, i) := by
    intro i hi
    rw [cl_st m.1, if_neg, cl_st hs]
    · simp
    · intro e2
      rcases hi with rfl | hi
      · exact n1 e2.symm
      · exact n2 i hi e2.symm
  refine ⟨⟨V2, fun _ => by rw [hlow]; exact o.low, (List.nodup_cons.1 h.nodup).2, fun v hv => ?_⟩, hhi, hlow⟩
  obtain ⟨h0, i, hi, hn⟩ := h.on v (List.mem_cons_of_mem _ hv)
  refine ⟨h0, i, ?_, hn⟩
  rw [hhi i hn, if_neg]
  · exact hi
  · intro e2; subst e2
    rw [hj] at hi; subst hi
    exact (List.nodup_cons.1 h.nodup).1 hv
theorem dig_same {p : PL} {b : Nat} {us : List Int} (h : Ons p b us) : digN (b : Int) p us = digS (b : Int) p us := by
  induction us generalizing p with
  | nil => rfl
  | cons u r ih =>
    obtain ⟨j, o, hj, hf⟩ := h.one
    have ht := take_yes o.vd o.hi o.bare
    unfold digN digS
    rw [hf]
    simp only at ht ⊢
    rw [ht]
    simp only
    rw [away_free o]
    cases hw : freeTo (st p (true, j) 0) (b : Int) with
    | none => rfl
    | some t =>
      have ha : awayTo p (true, (j : Int)) (b : Int) = some t := by rw [away_free o, hw]
      obtain ⟨_, m, _, _, e⟩ := away_some o ha
      have hp := put_yes (vd_take o.vd (cl_pos_in o.hi) o.bare) m
      rw [hj] at hp
      simp only
      rw [e, hp]
      simp only
      rw [hj]
      have hn := (h.next o hj ha).1
      rw [hj] at hn
      rw [ih hn]
/-- What digging leads to. -/
theorem dig_some {p q : PL} {b : Nat} {us : List Int} {ls : List LF} (h : Ons p b us) (hd : digN (b : Int) p us = some (q, ls)) :
    liftN p ls = (q, ls.length) ∧ ls.length = us.length ∧ Vd q ∧ cl q (false, b) = cl p (false, b) ∧ (∀ i, i = b ∨ i + 1 = b → cl q (true, i) = if cl p (true, i) ∈ us then 0 else cl p (true, i)) := by
  induction us generalizing p q ls with
  | nil => cases hd; exact ⟨rfl, rfl, h.vd, rfl, fun i _ => by simp⟩
  | cons u r ih =>
    obtain ⟨j, o, hj, hf⟩ := h.one
    unfold digN at hd
    rw [hf] at hd
    cases ha : awayTo p (true, (j : Int)) (b : Int) with
    | none => rw [ha] at hd; cases hd
    | some t =>
      rw [ha] at hd
      simp only at hd
      obtain ⟨_, m, _, _, e⟩ := away_some o ha
      obtain ⟨hn, hhi, hlow⟩ := h.next o hj ha
      rw [e] at hd
      simp only at hd
      cases hr : digN (b : Int) (st (st p (true, j) 0) t (cl p (true, j))) r with
      | none => rw [hr] at hd; cases hd
      | some y =>
        obtain ⟨q', ls'⟩ := y
        rw [hr] at hd
        cases hd
        obtain ⟨i1, i2, i3, i4, i5⟩ := ih hn hr
        refine ⟨?_, by simp [i2], i3, by rw [i4, hlow], fun i hi => ?_⟩
        · rw [liftN, e, if_pos rfl, i1]; rfl
        · rw [i5 i hi, hhi i hi]
          by_cases eij : i = j
          · subst eij
            rw [if_pos rfl]
            simp [hj]
          · rw [if_neg eij]
            have hne : cl p (true, i) = u → cl p (true, i) = 0 := by
              intro e3
              by_cases h0 : cl p (true, i) = 0
              · exact h0
              · have := o.vd.inj (true, i) (true, j) (by omega) h0
                simp at this; exact absurd this eij
            by_cases hm : cl p (true, i) ∈ r
            · rw [if_pos hm, if_pos (List.mem_cons_of_mem _ hm)]
            · rw [if_neg hm]
              by_cases hu : cl p (true, i) = u
              · rw [if_pos (by rw [hu]; exact List.mem_cons_self), hne hu]
              · rw [if_neg]
                rw [List.mem_cons]; rintro (e4 | e4)
                · exact hu e4
                · exact hm e4
def digLifts (p : PL) (id : Int) : List LF × Bool :=
  match coilFind p id with
  | none => ([], false)
  | some s =>
    match digN (s.2 : Int) p (coilsOn p s.1 (s.2 : Int)) with
    | none => ([], false)
    | some x => (x.2, true)
theorem onAt_cases (p : PL) (k : Int) : (onAt p k = [] ∧ True) ∨ (0 ≤ k ∧ 0 < cl p (true, k.toNat) ∧ onAt p k = [cl p (true, k.toNat)]) := by
  unfold onAt
  split
  · rename_i h
    simp only [Bool.and_eq_true, inR_iff, decide_eq_true_eq] at h
    exact .inr ⟨h.1.1, h.2, rfl⟩
  · exact .inl ⟨rfl, trivial⟩
theorem ons_of {p : PL} {id : Int} {s : Bool × Nat} (h : coilFind p id = some s) : Ons p s.2 (coilsOn p s.1 (s.2 : Int)) := by
  obtain ⟨V, h1, hs, hid⟩ := find_iff.1 h
  have e := coilAt_nat V hs
  refine ⟨V, fun hne => ?_, ?_, fun u hu => ?_⟩
  · obtain ⟨b, k⟩ := s
    cases b
    · simp only at hid ⊢; omega
    · simp [coilsOn] at hne
  · unfold coilsOn
    split
    · simp
    · rcases onAt_cases p ((s.2 : Int) - 1) with ⟨a, _⟩ | ⟨a1, a2, a⟩
      · rcases onAt_cases p (s.2 : Int) with ⟨c, _⟩ | ⟨c1, c2, c⟩
        · rw [a, c]; simp
        · rw [a, c]; simp
      · rcases onAt_cases p (s.2 : Int) with ⟨c, _⟩ | ⟨c1, c2, c⟩
        · rw [a, c]; simp
        · rw [a, c]
          simp only [List.cons_append, List.nil_append, List.nodup_cons, List.mem_cons, List.not_mem_nil, or_false, not_false_eq_true, List.nodup_nil, and_true]
          intro e3
          have := V.inj _ _ e3 (by omega)
          simp only [Prod.mk.injEq, true_and] at this; omega
  · obtain ⟨_, ht, h0, k, hk, e2⟩ := coilsOn_mem.1 hu
    exact ⟨by omega, k, e2, by omega⟩
theorem dig_no {p : PL} {id : Int} (h : coilFind p id = none) : digLifts p id = ([], false) := by rw [digLifts, h]
/-- Coils are laid bare. -/
theorem dig_bare {p : PL} {id : Int} (h : (digLifts p id).2 = true) : ∃ s, coilFind p id = some s ∧ Vd p ∧
    (liftN p (digLifts p id).1).2 = (digLifts p id).1.length ∧ (digLifts p id).1.length = (coilsOn p s.1 (s.2 : Int)).length ∧
    coilFind (liftN p (digLifts p id).1).1 id = some s ∧ coilsOn (liftN p (digLifts p id).1).1 s.1 (s.2 : Int) = [] ∧ Bare (liftN p (digLifts p id).1).1 s := by
  unfold digLifts at h ⊢
  cases hf : coilFind p id with
  | none => rw [hf] at h; cases h
  | some s =>
    rw [hf] at h
    simp only at h ⊢
    have o := ons_of hf
    obtain ⟨V, h1, hs, hid⟩ := find_iff.1 hf
    cases hd : digN (s.2 : Int) p (coilsOn p s.1 (s.2 : Int)) with
    | none => rw [hd] at h; cases h
    | some y =>
      obtain ⟨q, ls⟩ := y
      simp only
      obtain ⟨a, b, c, d, e⟩ := dig_some o hd
      rw [a]
      simp only
      obtain ⟨t, k⟩ := s
      have hq : cl q (t, k) = id := by
        cases t
        · rw [d]; exact hid
        · simp only [coilsOn, Bool.or_true, if_true] at hd
          cases hd; exact hid
      have hf2 : coilFind q id = some (t, k) := find_iff.2 ⟨c, h1, cl_pos_in (by omega), hq⟩
      have hb : Bare q (t, k) := by
        intro ht
        simp only at ht; subst ht
        have key : ∀ i, i = k ∨ i + 1 = k → cl q (true, i) = 0 := by
          intro i hi
          rw [e i hi]
          split
          · rfl
          · rename_i hm
            by_cases h0 : cl p (true, i) = 0
            · exact h0
            · exact absurd (coilsOn_mem.2 ⟨by rw [coilAt_nat V hs]; omega, rfl, by have := V.rng (true, i); omega, i, by omega, rfl⟩) hm
        rintro (hc | ⟨i, hi, hc⟩)
        · exact hc (key _ (.inl rfl))
        · exact hc (key i (.inr hi.symm))
      have ea := coilAt_nat c (cl_pos_in (p := q) (s := (t, k)) (by omega))
      simp only at ea
      refine ⟨_, rfl, V, trivial, b, hf2, ?_, hb⟩
      exact (coilsOn_nil (top := t) (place := (k : Int)) (by omega)).2 (by simpa [spt] using hb)
def leaveOk (p : PL) (z : List Int) : Bool := pileValid p && (List.range z.length).all fun k => (coilFind p (z.getD k 0)).isSome && decide (z.getD k 0 ∉ z.take k)
theorem leaveOk_iff (p : PL) (z : List Int) : leaveOk p z = true ↔ pileValid p = true ∧ ∀ k, k < z.length → (coilFind p (z.getD k 0)).isSome = true ∧ z.getD k 0 ∉ z.take k := by
  simp [leaveOk, List.all_eq_true]
theorem getD_mem {z : List Int} {k : Nat} (h : k < z.length) : z.getD k 0 = z[k] := by rw [List.getD, List.getElem?_eq_getElem h]; rfl
theorem leaveOk_all {p : PL} {z : List Int} : leaveOk p z = true ↔ Vd p ∧ z.Nodup ∧ ∀ x ∈ z, 1 ≤ x ∧ ∃ s, cl p s = x := by
  rw [leaveOk_iff, vd_iff]
  constructor
  · rintro ⟨V, h⟩
    refine ⟨V, ?_, fun x hx => ?_⟩
    · unfold List.Nodup
      rw [List.pairwise_iff_getElem]
      intro i j hi hj hij e
      have := (h j hj).2
      rw [getD_mem hj, ← e] at this
      exact this (nodup_take hj hij)
    · obtain ⟨k, hk, rfl⟩ := List.getElem_of_mem hx
      have := find_isSome.1 (h k hk).1
      rw [getD_mem hk] at this
      exact this.2
  · rintro ⟨V, hn, h⟩
    refine ⟨V, fun k hk => ?_⟩
    rw [getD_mem hk]
    refine ⟨find_isSome.2 ⟨V, h _ (List.getElem_mem hk)⟩, fun hm => ?_⟩
    obtain ⟨j, hj⟩ := List.mem_iff_getElem?.1 hm
    rw [List.getElem?_take] at hj
    split at hj
    · rename_i hlt
      unfold List.Nodup at hn
      rw [List.pairwise_iff_getElem] at hn
      have := hn j k (by omega) hk hlt
      rw [List.getElem?_eq_getElem (by omega)] at hj
      exact this (by injection hj)
    · cases hj
theorem nodup_len : ∀ (z L : List Int), z.Nodup → (∀ x ∈ z, x ∈ L) → z.length ≤ L.length := by
  intro z
  induction z with
  | nil => intro L _ _; exact Nat.zero_le _
  | cons x r ih =>
    intro L hn h
    rw [List.nodup_cons] at hn
    have hx := h x List.mem_cons_self
    have := ih (L.erase x) hn.2 fun y hy => by
      rw [List.mem_erase_of_ne]
      · exact h y (List.mem_cons_of_mem _ hy)
      · intro e; subst e; exact hn.1 hy
    rw [List.length_erase_of_mem hx] at this
    have : 0 < L.length := List.length_pos_of_mem hx
    rw [List.length_cons]; omega
theorem leaveOk_len {p : PL} {z : List Int} (h : leaveOk p z = true) : z.length ≤ 99 := by
  obtain ⟨V, hn, hz⟩ := leaveOk_all.1 h
  have hsub : ∀ x ∈ z, x ∈ (List.range 99).map fun k : Nat => (k : Int) + 1 := fun x hx => by
    obtain ⟨h1, s, hs⟩ := hz x hx
    exact ids_base.2 ⟨h1, by have := V.rng s; omega⟩
  have := nodup_len _ _ hn hsub
  simpa using this
def leaveNeed (p : PL) (z : List Int) (k : Nat) : Bool := decide (p.2.getD k 0 ≠ 0) && (decide (z.idxOf (p.1.getD k 0) < z.idxOf (p.2.getD k 0)) || decide (z.idxOf (p.1.getD (k + 1) 0) < z.idxOf (p.2.getD k 0)))
def needN (p : PL) (z : List Int) (n : Nat) : Nat := ((List.range n).filter (leaveNeed p z)).length
def leaveLifts (p : PL) (z : List Int) : Int := if leaveOk p z then needN p z p.2.length else -1
theorem needN_succ (p : PL) (z : List Int) (n : Nat) : needN p z (n + 1) = needN p z n + if leaveNeed p z n = true then 1 else 0 := by
  unfold needN
  rw [List.range_succ, List.filter_append, List.length_append]
  by_cases h : leaveNeed p z n = true
  · simp [h]
  · simp [h]
theorem needN_le (p : PL) (z : List Int) (n : Nat) : needN p z n ≤ n := by
  unfold needN
  have := List.length_filter_le (leaveNeed p z) (List.range n)
  simpa using this
def outOf (p : PL) (id : Int) : PL := (coilTake p (findV p id).1 (findV p id).2).1
def leaveN : PL → List Int → Option Nat
  | _, [] => some 0
  | p, id :: r => if (digLifts p id).2 then (leaveN (outOf (liftN p (digLifts p id).1).1 id) r).map (· + (digLifts p id).1.length) else none
def leaveAll (p : PL) (z : List Int) : Int × Bool := if leaveOk p z then (match leaveN p z with | none => (-1, false) | some n => ((n : Int), true)) else (-1, false)
/-- Taking one out behind digging. -/
theorem dig_out {p : PL} {id : Int} (h : (digLifts p id).2 = true) : ∃ s, Vd p ∧ Vd (liftN p (digLifts p id).1).1 ∧ (liftN p (digLifts p id).1).2 = (digLifts p id).1.length ∧ (digLifts p id).1.length ≤ 2 ∧
    coilFind (liftN p (digLifts p id).1).1 id = some s ∧ Bare (liftN p (digLifts p id).1).1 s ∧ cl (liftN p (digLifts p id).1).1 s = id ∧ 1 ≤ id ∧
    coilTake (liftN p (digLifts p id).1).1 (findV (liftN p (digLifts p id).1).1 id).1 (findV (liftN p (digLifts p id).1).1 id).2 = (st (liftN p (digLifts p id).1).1 s 0, id) := by
  obtain ⟨s, _, V, hn, hl, hf, _, hb⟩ := dig_bare h
  obtain ⟨V2, h1, hs, hid⟩ := find_iff.1 hf
  refine ⟨s, V, V2, hn, by rw [hl]; exact coilsOn_le, hf, hb, hid, h1, ?_⟩
  have := findV_at V2 (s := s) (by omega)
  rw [hid] at this
  rw [this]
  have := take_yes V2 (s := s) (by omega) hb
  rw [hid] at this
  exact this
theorem out_vd {p : PL} (V : Vd p) (id : Int) : Vd (outOf p id) := take_vd V _ _
/-- Spots of the upper row that have to be lifted and are as they were. -/
def same3 (p q : PL) (k : Nat) : Bool := decide (cl q (true, k) = cl p (true, k)) && (decide (cl q (false, k) = cl p (false, k)) && decide (cl q (false, k + 1) = cl p (false, k + 1)))
def pot (p : PL) (z : List Int) (q : PL) : Nat := ((List.range p.2.length).filter fun k => leaveNeed p z k && same3 p q k).length
theorem same3_iff {p q : PL} {k : Nat} : same3 p q k = true ↔ cl q (true, k) = cl p (true, k) ∧ cl q (false, k) = cl p (false, k) ∧ cl q (false, k + 1) = cl p (false, k + 1) := by
  simp [same3]
theorem pot_start (p : PL) (z : List Int) : pot p z p = needN p z p.2.length := by
  unfold pot needN
  have e : (fun k => leaveNeed p z k && same3 p p k) = leaveNeed p z := by funext k; simp [same3]
  rw [e]
theorem filter_one {n : Nat} {P Q : Nat → Bool} {k0 : Nat} (h : ∀ k, P k = true → Q k = true ∨ k = k0) : ((List.range n).filter P).length ≤ ((List.range n).filter Q).length + 1 := by
  induction n with
  | zero => simp
  | succ n ih =>
    have key : ∀ m, m ≤ k0 → ((List.range m).filter P).length ≤ ((List.range m).filter Q).length := by
      intro m
      induction m with
      | zero => simp
      | succ m ihm =>
        intro hm
        have := ihm (by omega)
        rw [List.range_succ, List.filter_append, List.filter_append, List.length_append, List.length_append]
        have hp := h m
        cases e1 : P m <;> cases e2 : Q m <;> simp [e1, e2] at hp ⊢ <;> omega
    rw [List.range_succ, List.filter_append, List.filter_append, List.length_append, List.length_append]
    have hp := h n
    by_cases e : n = k0
    · have := key n (by omega)
      cases e1 : P n <;> cases e2 : Q n <;> simp [e1, e2] <;> omega
    · cases e1 : P n <;> cases e2 : Q n <;> simp [e1, e2, e] at hp ⊢ <;> omega
theorem filter_sub {n : Nat} {P Q : Nat → Bool} (h : ∀ k, P k = true → Q k = true) : ((List.range n).filter P).length ≤ ((List.range n).filter Q).length := by
  induction n with
  | zero => simp
  | succ n ih =>
    rw [List.range_succ, List.filter_append, List.filter_append, List.length_append, List.length_append]
    have hp := h n
    cases e1 : P n <;> cases e2 : Q n <;> simp [e1, e2] at hp ⊢ <;> omega
theorem need_pos {p : PL} {z : List Int} {k : Nat} (h : leaveNeed p z k = true) : cl p (true, k) ≠ 0 ∧ (z.idxOf (cl p (false, k)) < z.idxOf (cl p (true, k)) ∨ z.idxOf (cl p (false, k + 1)) < z.idxOf (cl p (true, k))) := by
  simpa [leaveNeed, cl, rowOf] using h
theorem pot_lift {p q : PL} {z : List Int} (l : LF) (h : (coilLift q l).2 = true) : pot p z q ≤ pot p z (coilLift q l).1 + 1 := by
  obtain ⟨V, _, _, hne, h0, hb, m, e⟩ := lift_iff h
  rw [e]
  generalize hs : spt l.1.1 l.1.2 = s at *
  generalize spt l.2.1 l.2.2 = t at *
  have hin := cl_pos_in h0
  have ht0 : cl q t = 0 := by
    have := m.2.1
    rwa [cl_st hin, if_neg (fun e => hne e.symm)] at this
  unfold pot
  refine filter_one (k0 := s.2) fun k hk => ?_
  simp only [Bool.and_eq_true] at hk ⊢
  obtain ⟨hn, h3⟩ := hk
  obtain ⟨e1, e2, e3⟩ := same3_iff.1 h3
  have hp := need_pos hn
  by_cases hsk : s = (true, k)
  · right; rw [hsk]
  · left
    have f : ∀ u, cl (st (st q s 0) t (cl q s)) u = if u = t then cl q s else if u = s then 0 else cl q u := by
      intro u; rw [cl_st m.1, cl_st hin]
    have hu := V.sup k (by omega)
    have key : ∀ u, u = (true, k) ∨ u = (false, k) ∨ u = (false, k + 1) → cl (st (st q s 0) t (cl q s)) u = cl q u := by
      intro u hu'
      have hne0 : cl q u ≠ 0 := by
        rcases hu' with rfl | rfl | rfl
        · omega
        · exact hu.1
        · exact hu.2
      rw [f, if_neg (fun e => hne0 (by rw [e]; exact ht0)), if_neg]
      intro e5
      rcases hu' with rfl | rfl | rfl
      · exact hsk e5.symm
      · rw [← e5] at hb; exact hb rfl (.inl (by simp only; omega))
      · rw [← e5] at hb; exact hb rfl (.inr ⟨k, rfl, by omega⟩)
    refine ⟨hn, same3_iff.2 ⟨?_, ?_, ?_⟩⟩
    · rw [key _ (.inl rfl), e1]
    · rw [key _ (.inr (.inl rfl)), e2]
    · rw [key _ (.inr (.inr rfl)), e3]
theorem pot_liftN {p q : PL} {z : List Int} (ls : List LF) (h : (liftN q ls).2 = ls.length) : pot p z q ≤ pot p z (liftN q ls).1 + ls.length := by
  induction ls generalizing q with
  | nil => simp [liftN]
  | cons l r ih =>
    unfold liftN at h ⊢
    split at h
    · rename_i hl
      rw [if_pos hl]
      simp only [List.length_cons] at h ⊢
      have a := pot_lift (p := p) (z := z) l hl
      have b := ih (q := (coilLift q l).1) (by omega)
      omega
    · simp at h
theorem idx_lt {z : List Int} {x y : Int} (h : z.idxOf x < z.idxOf y) : x ∈ z := by
  have : z.idxOf y ≤ z.length := List.idxOf_le_length
  exact List.idxOf_lt_length_iff.1 (by omega)
/-- Where the order stands at x: all that leave ahead have left. -/
theorem idx_split {a b : List Int} {x y : Int} (hn : (a ++ x :: b).Nodup) (h : (a ++ x :: b).idxOf y < (a ++ x :: b).idxOf x) : y ∈ a := by
  have hx : x ∉ a := fun hm => by
    rw [List.nodup_append] at hn
    exact hn.2.2 x hm x List.mem_cons_self rfl
  have e : (a ++ x :: b).idxOf x = a.length := by rw [List.idxOf_append, if_neg hx, List.idxOf_cons_self]; omega
  rw [e] at h
  by_cases hy : y ∈ a
  · exact hy
  · rw [List.idxOf_append, if_neg hy] at h; omega
theorem pot_take {p q : PL} {a b : List Int} {x : Int} (hn : (a ++ x :: b).Nodup) (V : Vd q) {s : Bool × Nat} (hs : cl q s = x) (h0 : x ≠ 0) (hb : Bare q s) (hgone : ∀ y ∈ a, ∀ u, cl q u ≠ y) :
    pot p (a ++ x :: b) q ≤ pot p (a ++ x :: b) (st q s 0) := by
  have hin : inP q s := cl_pos_in (by omega)
  unfold pot
  refine filter_sub fun k hk => ?_
  simp only [Bool.and_eq_true] at hk ⊢
  obtain ⟨hnd, h3⟩ := hk
  obtain ⟨e1, e2, e3⟩ := same3_iff.1 h3
  obtain ⟨hp0, hp⟩ := need_pos hnd
  have hu := V.sup k (by omega)
  have hsk : s ≠ (true, k) := by
    intro e; subst e
    have ex : x = cl p (true, k) := by omega
    rw [← ex] at hp
    rcases hp with hp | hp
    · exact hgone _ (idx_split hn hp) (false, k) e2
    · exact hgone _ (idx_split hn hp) (false, k + 1) e3
  have key : ∀ u, u = (true, k) ∨ u = (false, k) ∨ u = (false, k + 1) → cl (st q s 0) u = cl q u := by
    intro u hu'
    rw [cl_st hin, if_neg]
    intro e5
    rcases hu' with rfl | rfl | rfl
    · exact hsk e5.symm
    · rw [← e5] at hb; exact hb rfl (.inl (by simp only; omega))
    · rw [← e5] at hb; exact hb rfl (.inr ⟨k, rfl, by omega⟩)
  refine ⟨hnd, same3_iff.2 ⟨?_, ?_, ?_⟩⟩
  · rw [key _ (.inl rfl), e1]
  · rw [key _ (.inr (.inl rfl)), e2]
  · rw [key _ (.inr (.inr rfl)), e3]
/-- When all have left, nothing is as it was. -/
theorem pot_end {p q : PL} {z : List Int} (hgone : ∀ y ∈ z, ∀ u, cl q u ≠ y) : pot p z q = 0 := by
  unfold pot
  rw [List.length_eq_zero_iff, List.filter_eq_nil_iff]
  intro k _ hk
  simp only [Bool.and_eq_true] at hk
  obtain ⟨hnd, h3⟩ := hk
  obtain ⟨e1, e2, e3⟩ := same3_iff.1 h3
  rcases (need_pos hnd).2 with hp | hp
  · exact hgone _ (idx_lt hp) (false, k) e2
  · exact hgone _ (idx_lt hp) (false, k + 1) e3
/-- What a pile holds behind lifts. -/
theorem lift_gone {p : PL} (V : Vd p) (l : LF) {x : Int} (h0 : 1 ≤ x) (h : ∀ u, cl p u ≠ x) : ∀ u, cl (coilLift p l).1 u ≠ x := by
  intro u hu
  have h1 : x ∈ coilIds (coilLift p l).1 := ids_mem.2 ⟨lift_vd V l, h0, u, hu⟩
  rw [lift_ids V l] at h1
  obtain ⟨_, _, s, hs⟩ := ids_mem.1 h1
  exact h s hs
theorem liftN_gone {p : PL} (V : Vd p) (ls : List LF) {x : Int} (h0 : 1 ≤ x) (h : ∀ u, cl p u ≠ x) : ∀ u, cl (liftN p ls).1 u ≠ x := by
  intro u hu
  have h1 : x ∈ coilIds (liftN p ls).1 := ids_mem.2 ⟨liftN_vd V ls, h0, u, hu⟩
  rw [liftN_ids V ls] at h1
  obtain ⟨_, _, s, hs⟩ := ids_mem.1 h1
  exact h s hs
/-- One step: dig and take out. -/
theorem pot_step {p q : PL} {a b : List Int} {x : Int} (hn : (a ++ x :: b).Nodup) (hge : ∀ y ∈ a, 1 ≤ y) (hd : (digLifts q x).2 = true) (hgone : ∀ y ∈ a, ∀ u, cl q u ≠ y) :
    pot p (a ++ x :: b) q ≤ pot p (a ++ x :: b) (outOf (liftN q (digLifts q x).1).1 x) + (digLifts q x).1.length ∧ (∀ y ∈ a ++ [x], ∀ u, cl (outOf (liftN q (digLifts q x).1).1 x) u ≠ y) ∧ Vd (outOf (liftN q (digLifts q x).1).1 x) := by
  obtain ⟨s, V, V2, hN, _, _, hb, hid, h1, ht⟩ := dig_out hd
  have eo : outOf (liftN q (digLifts q x).1).1 x = st (liftN q (digLifts q x).1).1 s 0 := by rw [outOf, ht]
  have hin : inP (liftN q (digLifts q x).1).1 s := cl_pos_in (by omega)
  rw [eo]
  have g1 : ∀ y ∈ a, ∀ u, cl (liftN q (digLifts q x).1).1 u ≠ y := fun y hy => liftN_gone V _ (hge y hy) (hgone y hy)
  refine ⟨?_, ?_, vd_take V2 hin hb⟩
  · have a1 := pot_liftN (p := p) (z := a ++ x :: b) (digLifts q x).1 hN
    have a2 := pot_take (p := p) hn V2 hid (by omega) hb g1
    omega
  · intro y hy u
    rw [cl_st hin]
    rw [List.mem_append, List.mem_singleton] at hy
    split
    · rcases hy with hy | rfl
      · have := hge y hy; omega
      · omega
    · rename_i e
      rcases hy with hy | rfl
      · exact g1 y hy u
      · intro h; exact e (V2.inj u s (by omega) (by omega))
theorem leaveN_bound {p : PL} {z : List Int} (hn : z.Nodup) (hge : ∀ y ∈ z, 1 ≤ y) {n : Nat} : ∀ (b a : List Int) (q : PL), z = a ++ b → (∀ y ∈ a, ∀ u, cl q u ≠ y) → leaveN q b = some n → pot p z q ≤ n := by
  intro b
  induction b generalizing n with
  | nil =>
    intro a q hz hgone h
    simp at hz; subst hz
    rw [pot_end hgone]; exact Nat.zero_le _
  | cons x r ih =>
    intro a q hz hgone h
    unfold leaveN at h
    split at h
    · rename_i hd
      obtain ⟨s1, s2, _⟩ := pot_step (p := p) (b := r) (hz ▸ hn) (fun y hy => hge y (by rw [hz]; exact List.mem_append_left _ hy)) hd hgone
      rw [← hz] at s1
      cases hr : leaveN (outOf (liftN q (digLifts q x).1).1 x) r with
      | none => rw [hr] at h; cases h
      | some m =>
        rw [hr] at h
        simp at h
        have := ih (n := m) (a ++ [x]) _ (by rw [hz]; simp) s2 hr
        omega
    · cases h
/-- At least LeaveLifts lifts are made. -/
theorem leaveAll_ge {p : PL} {z : List Int} (h : (leaveAll p z).2 = true) : leaveLifts p z ≤ (leaveAll p z).1 := by
  unfold leaveAll at h ⊢
  split at h
  · rename_i ho
    rw [if_pos ho]
    obtain ⟨V, hn, hz⟩ := leaveOk_all.1 ho
    cases hN : leaveN p z with
    | none => rw [hN] at h; cases h
    | some n =>
      simp only
      rw [leaveLifts, if_pos ho, ← pot_start]
      have := leaveN_bound (p := p) hn (fun y hy => (hz y hy).1) z [] p (by simp) (by simp) hN
      omega
  · cases h
/-- With no lift needed none is made. -/
theorem leaveN_easy {p : PL} {z : List Int} (hz : ∀ y ∈ z, 1 ≤ y ∧ ∃ s, cl p s = y) (hn : z.Nodup) (hno : ∀ k, leaveNeed p z k = false) : ∀ (b a : List Int) (q : PL), z = a ++ b → Vd q → (∀ u, cl q u = if cl p u ∈ a then 0 else cl p u) → leaveN q b = some 0 := by
  intro b
  induction b with
  | nil => intro a q _ _ _; rfl
  | cons x r ih =>
    intro a q hza V hq
    subst hza
    obtain ⟨h1, s, hs⟩ := hz x (by simp)
    have hxa : x ∉ a := fun hm => by
      rw [List.nodup_append] at hn
      exact hn.2.2 x hm x List.mem_cons_self rfl
    have hcs : cl q s = x := by rw [hq, if_neg (by rw [hs]; exact hxa)]; exact hs
    have hin : inP q s := cl_pos_in (by omega)
    have hf : coilFind q x = some s := find_iff.2 ⟨V, h1, hin, hcs⟩
    have ex : (a ++ x :: r).idxOf x = a.length := by rw [List.idxOf_append, if_neg hxa, List.idxOf_cons_self]; omega
    have hb : Bare q s := by
      obtain ⟨t, k⟩ := s
      intro ht
      simp only at ht; subst ht
      have key : ∀ i, k = i ∨ k = i + 1 → cl q (true, i) = 0 := by
        intro i hi
        by_cases h0 : cl q (true, i) = 0
        · exact h0
        · exfalso
          rw [hq] at h0
          split at h0
          · exact h0 rfl
          · rename_i hm
            have := hno i
            have hneed : leaveNeed p (a ++ x :: r) i = true := by
              have e1 : x = cl p (false, i) ∨ x = cl p (false, i + 1) := by
                rcases hi with rfl | rfl
                · exact .inl hs.symm
                · exact .inr hs.symm
              have hlt : (a ++ x :: r).idxOf x < (a ++ x :: r).idxOf (cl p (true, i)) := by
                rw [ex, List.idxOf_append, if_neg hm]
                have hne : x ≠ cl p (true, i) := by
                  intro e
                  have e2 : cl q (true, i) = x := by rw [hq, if_neg hm]; exact e.symm
                  have := V.inj (true, i) (false, k) (by omega) (by omega)
                  simp at this
                rw [List.idxOf_cons, beq_false_of_ne hne]; simp only [cond_false]; omega
              have g : cl p (true, i) ≠ 0 := h0
              simp only [leaveNeed, Bool.and_eq_true, Bool.or_eq_true, decide_eq_true_eq]
              refine ⟨g, ?_⟩
              rcases e1 with e1 | e1
              · left; rw [e1] at hlt ⊢; exact hlt
              · right; rw [e1] at hlt ⊢; exact hlt
            rw [this] at hneed; cases hneed
      rintro (hc | ⟨i, hi, hc⟩)
      · exact hc (key _ (.inl rfl))
      · exact hc (key i (.inr hi))
    have ea := coilAt_nat V hin
    have hno2 : coilsOn q s.1 (s.2 : Int) = [] := (coilsOn_nil (by omega)).2 (by simpa [spt] using hb)
    have hd : digLifts q x = ([], true) := by rw [digLifts, hf]; simp only; rw [hno2]; rfl
    have eo : outOf q x = st q s 0 := by
      have := findV_at V (s := s) (by omega)
      rw [hcs] at this
      rw [outOf, this]
      have := take_yes V (s := s) (by omega) hb
      simp only at this ⊢; rw [this]
    rw [leaveN, hd]
    simp only [liftN, if_true]
    rw [eo, ih (a ++ [x]) (st q s 0) (by simp) (vd_take V hin hb)]
    · rfl
    · intro u
      rw [cl_st hin]
      by_cases e : u = s
      · subst e; rw [if_pos rfl, if_pos (by rw [hs]; simp)]
      · rw [if_neg e, hq]
        by_cases hm : cl p u ∈ a
        · rw [if_pos hm, if_pos (List.mem_append_left _ hm)]
        · rw [if_neg hm]
          by_cases hx : cl p u = x
          · exfalso
            have : cl q u = x := by rw [hq, if_neg hm]; exact hx
            exact e (V.inj u s (by omega) (by omega))
          · rw [if_neg]
            rw [List.mem_append, List.mem_singleton]; rintro (h | h)
            · exact hm h
            · exact hx h
theorem leaveAll_easy {p : PL} {z : List Int} (ho : leaveOk p z = true) (h : leaveLifts p z = 0) : leaveAll p z = (0, true) := by
  obtain ⟨V, hn, hz⟩ := leaveOk_all.1 ho
  rw [leaveLifts, if_pos ho] at h
  have hno : ∀ k, leaveNeed p z k = false := by
    intro k
    by_cases hk : k < p.2.length
    · have h0 : needN p z p.2.length = 0 := by omega
      unfold needN at h0
      rw [List.length_eq_zero_iff, List.filter_eq_nil_iff] at h0
      simpa using h0 k (List.mem_range.2 hk)
    · have : cl p (true, k) = 0 := by
        by_cases e : cl p (true, k) = 0
        · exact e
        · exact absurd (cl_pos_in e) hk
      have e : p.2.getD k 0 = 0 := this
      unfold leaveNeed; rw [e]; rfl
  have := leaveN_easy hz hn hno z [] p (by simp) V (by simp)
  rw [leaveAll, if_pos ho, this]; rfl
/-- The upper coils first, then the lower ones. -/
def topOrder (p : PL) : List Int := some0 p.2 ++ some0 p.1
theorem top_ok {p : PL} (V : Vd p) : leaveOk p (topOrder p) = true := by
  refine leaveOk_all.2 ⟨V, ?_, fun x hx => ?_⟩
  · have h := nodup_some V
    unfold some0 at h
    rw [List.filter_append, List.nodup_append] at h
    unfold topOrder some0
    rw [List.nodup_append]
    exact ⟨h.2.1, h.1, fun a ha b hb e => h.2.2 b hb a ha e.symm⟩
  · have h0 : x ≠ 0 ∧ x ∈ p.1 ++ p.2 := by
      unfold topOrder some0 at hx
      rw [List.mem_append, List.mem_filter, List.mem_filter] at hx
      rw [List.mem_append]
      rcases hx with ⟨a, b⟩ | ⟨a, b⟩
      · exact ⟨by simpa using b, .inr a⟩
      · exact ⟨by simpa using b, .inl a⟩
    obtain ⟨s, hs⟩ := (all_mem h0.1).1 h0.2
    exact ⟨by have := V.rng s; omega, s, hs⟩
theorem top_none {p : PL} (V : Vd p) : leaveLifts p (topOrder p) = 0 := by
  rw [leaveLifts, if_pos (top_ok V)]
  have : needN p (topOrder p) p.2.length = 0 := by
    unfold needN
    rw [List.length_eq_zero_iff, List.filter_eq_nil_iff]
    intro k _ hk
    obtain ⟨h0, h⟩ := need_pos hk
    have hm : cl p (true, k) ∈ some0 p.2 := by
      unfold some0
      rw [List.mem_filter]
      refine ⟨?_, by simpa using h0⟩
      have hi : k < p.2.length := cl_pos_in h0
      rw [cl_high, List.getD, List.getElem?_eq_getElem hi]; exact List.getElem_mem hi
    have hlt : (topOrder p).idxOf (cl p (true, k)) < (some0 p.2).length := by
      unfold topOrder
      rw [List.idxOf_append, if_pos hm]
      exact List.idxOf_lt_length_of_mem hm
    have key : ∀ j, cl p (false, j) ≠ 0 → (some0 p.2).length ≤ (topOrder p).idxOf (cl p (false, j)) := by
      intro j hj
      unfold topOrder
      rw [List.idxOf_append, if_neg]
      · omega
      · intro hm2
        unfold some0 at hm2
        rw [List.mem_filter] at hm2
        have e : cl p (true, p.2.idxOf (cl p (false, j))) = cl p (false, j) := getD_idx hm2.1
        have := V.inj _ _ e (by rw [e]; exact hj)
        simp at this
    have hs := V.sup k h0
    rcases h with h | h
    · have := key k hs.1; omega
    · have := key (k + 1) hs.2; omega
  omega
theorem leaveAll_top {p : PL} (V : Vd p) : leaveAll p (topOrder p) = (0, true) := leaveAll_easy (top_ok V) (top_none V)
end Go.Proofs.YtpiiefmfiipabaaDoor
