/- Longest rounds: the length of the longest chain from each sheet, and the round that is found by it. Plain definitions and laws over a relation F on the numbers below n, no program in sight. -/
import Derived.Test.YtcdoopccmljaoaaDoorRound
namespace Go.Proofs.YtcdoopccmljaoaaDoor
open Go.ChangeShapes Go.WideShapes Go.ChangeAt Go.RowKit Go.Deep

/-- The greatest of f b over the b below n that F admits; 0 if there is none. -/
def maxOver (F : Nat → Bool) (f : Nat → Nat) : Nat → Nat
  | 0 => 0
  | b + 1 => if F b = true then max (maxOver F f b) (f b) else maxOver F f b
theorem maxOver_le {F : Nat → Bool} {f : Nat → Nat} {n m : Nat} : maxOver F f n ≤ m ↔ ∀ b, b < n → F b = true → f b ≤ m := by
  induction n with
  | zero => simp [maxOver]
  | succ n ih =>
    simp only [maxOver]
    split
    · rename_i h
      rw [Nat.max_le, ih]
      constructor
      · rintro ⟨h1, h2⟩ b hb hF
        rcases Nat.lt_succ_iff_lt_or_eq.1 hb with h3 | h3
        · exact h1 b h3 hF
        · rw [h3]; exact h2
      · intro h1
        exact ⟨fun b hb hF => h1 b (by omega) hF, h1 n (by omega) h⟩
    · rename_i h
      rw [ih]
      constructor
      · intro h1 b hb hF
        rcases Nat.lt_succ_iff_lt_or_eq.1 hb with h3 | h3
        · exact h1 b h3 hF
        · rw [h3] at hF; exact absurd hF h
      · intro h1 b hb hF; exact h1 b (by omega) hF
theorem le_maxOver {F : Nat → Bool} {f : Nat → Nat} {n b : Nat} (hb : b < n) (hF : F b = true) : f b ≤ maxOver F f n := maxOver_le.1 (Nat.le_refl _) b hb hF
theorem maxOver_at {F : Nat → Bool} {f : Nat → Nat} {n : Nat} (h : 0 < maxOver F f n) : ∃ b, b < n ∧ F b = true ∧ f b = maxOver F f n := by
  induction n with
  | zero => simp [maxOver] at h
  | succ n ih =>
    simp only [maxOver] at h ⊢
    split at h
    · rename_i hF
      rw [if_pos hF]
      rcases Nat.le_total (maxOver F f n) (f n) with h1 | h1
      · exact ⟨n, by omega, hF, by omega⟩
      · obtain ⟨b, h2, h3, h4⟩ := ih (by omega)
        exact ⟨b, by omega, h3, by omega⟩
    · rename_i hF
      rw [if_neg hF]
      obtain ⟨b, h2, h3, h4⟩ := ih h
      exact ⟨b, by omega, h3, h4⟩
theorem maxOver_congr {F : Nat → Bool} {f g : Nat → Nat} {n : Nat} (h : ∀ b, b < n → F b = true → f b = g b) : maxOver F f n = maxOver F g n := by
  apply Nat.le_antisymm
  · rw [maxOver_le]; intro b hb hF; rw [h b hb hF]; exact le_maxOver hb hF
  · rw [maxOver_le]; intro b hb hF; rw [← h b hb hF]; exact le_maxOver hb hF
theorem maxOver_mono {F G : Nat → Bool} {f g : Nat → Nat} {n m : Nat} (hn : n ≤ m) (h : ∀ b, b < n → F b = true → G b = true ∧ f b ≤ g b) : maxOver F f n ≤ maxOver G g m := by
  rw [maxOver_le]; intro b hb hF
  exact Nat.le_trans (h b hb hF).2 (le_maxOver (by omega) (h b hb hF).1)

/-- The longest chain from a with at most t members. -/
def long (n : Nat) (F : Nat → Nat → Bool) : Nat → Nat → Nat
  | 0, _ => 0
  | t + 1, a => 1 + maxOver (F a) (long n F t) n
theorem long_le_succ (n : Nat) (F : Nat → Nat → Bool) : ∀ t a, long n F t a ≤ long n F (t + 1) a
  | 0, _ => Nat.zero_le _
  | t + 1, a => by
    show 1 + maxOver (F a) (long n F t) n ≤ 1 + maxOver (F a) (long n F (t + 1)) n
    have := maxOver_mono (F := F a) (G := F a) (f := long n F t) (g := long n F (t + 1)) (Nat.le_refl n) (fun b _ hF => ⟨hF, long_le_succ n F t b⟩)
    omega
theorem long_le_t (n : Nat) (F : Nat → Nat → Bool) : ∀ t a, long n F t a ≤ t
  | 0, _ => Nat.le_refl _
  | t + 1, a => by
    show 1 + maxOver (F a) (long n F t) n ≤ t + 1
    have := maxOver_le.2 (fun b (_ : b < n) (_ : F a b = true) => long_le_t n F t b)
    omega
/-- A rank that falls along F. -/
def Ranked (n : Nat) (F : Nat → Nat → Bool) (r : Nat → Nat) : Prop := (∀ a, a < n → r a < n) ∧ ∀ a b, a < n → b < n → F a b = true → r b < r a
theorem long_stable {n : Nat} {F : Nat → Nat → Bool} {r : Nat → Nat} (h : Ranked n F r) : ∀ t a, a < n → r a < t → long n F (t + 1) a = long n F t a
  | 0, _, _, ht => absurd ht (Nat.not_lt_zero _)
  | t + 1, a, ha, ht => by
    show 1 + maxOver (F a) (long n F (t + 1)) n = 1 + maxOver (F a) (long n F t) n
    rw [maxOver_congr]
    intro b hb hF
    have := h.2 a b ha hb hF
    exact long_stable h t b hb (by omega)
/-- The longest chain from a. -/
def far (n : Nat) (F : Nat → Nat → Bool) (a : Nat) : Nat := long n F n a
theorem far_eq {n : Nat} {F : Nat → Nat → Bool} {r : Nat → Nat} (h : Ranked n F r) {a : Nat} (ha : a < n) : far n F a = 1 + maxOver (F a) (far n F) n := by
  unfold far
  rw [← long_stable h n a ha (h.1 a ha)]
  rfl
theorem far_step {n : Nat} {F : Nat → Nat → Bool} {r : Nat → Nat} (h : Ranked n F r) {a b : Nat} (ha : a < n) (hb : b < n) (hF : F a b = true) : far n F b + 1 ≤ far n F a := by
  rw [far_eq h ha]
  have := le_maxOver (f := far n F) hb hF
  omega
theorem far_pos {n : Nat} {F : Nat → Nat → Bool} {r : Nat → Nat} (h : Ranked n F r) {a : Nat} (ha : a < n) : 1 ≤ far n F a := by rw [far_eq h ha]; omega
theorem far_next {n : Nat} {F : Nat → Nat → Bool} {r : Nat → Nat} (h : Ranked n F r) {a : Nat} (ha : a < n) (h2 : 2 ≤ far n F a) : ∃ b, b < n ∧ F a b = true ∧ far n F b + 1 = far n F a := by
  rw [far_eq h ha] at h2
  obtain ⟨b, h3, h4, h5⟩ := maxOver_at (F := F a) (f := far n F) (n := n) (by omega)
  exact ⟨b, h3, h4, by rw [far_eq h ha, ← h5]; omega⟩

/-- How many below n come behind a by Bef. -/
def behind (zs : List (Int × Int)) (n a : Nat) : Nat := ((List.range n).filter fun b => decide ((sh zs b).1 < (sh zs a).1) || (decide ((sh zs b).1 = (sh zs a).1) && decide (a < b))).length
theorem bef_dec (zs : List (Int × Int)) (a b : Nat) : (decide ((sh zs b).1 < (sh zs a).1) || (decide ((sh zs b).1 = (sh zs a).1) && decide (a < b))) = true ↔ Bef zs a b := by simp [Bef]
theorem filter_lt {α : Type} {p q : α → Bool} : ∀ {l : List α} (_ : ∀ x ∈ l, p x = true → q x = true) {y : α}, y ∈ l → q y = true → p y = false → (l.filter p).length < (l.filter q).length
  | [], _, _, hy, _, _ => by cases hy
  | x :: l, h, y, hy, hq, hp => by
    have hle : ∀ m : List α, (∀ z ∈ m, p z = true → q z = true) → (m.filter p).length ≤ (m.filter q).length := by
      intro m
      induction m with
      | nil => intro _; exact Nat.le_refl _
      | cons z m ih =>
        intro hm
        have := ih (fun a ha => hm a (List.mem_cons_of_mem _ ha))
        have hz := hm z (List.mem_cons_self ..)
        by_cases hpz : p z = true
        · simp [hpz, hz hpz]; omega
        · by_cases hqz : q z = true <;> simp [hpz, hqz] <;> omega
    rcases List.mem_cons.1 hy with rfl | hy'
    · have := hle l (fun a ha => h a (List.mem_cons_of_mem _ ha))
      simp [hq, hp]; omega
    · have := filter_lt (fun a ha => h a (List.mem_cons_of_mem _ ha)) hy' hq hp
      have hx := h x (List.mem_cons_self ..)
      by_cases hpx : p x = true
      · simp [hpx, hx hpx]; omega
      · by_cases hqx : q x = true <;> simp [hpx, hqx] <;> omega
theorem ranked (zs : List (Int × Int)) (j k : Int) : Ranked zs.length (fol zs j k) (behind zs zs.length) := by
  constructor
  · intro a ha
    have h := filter_lt (l := List.range zs.length) (p := fun b => decide ((sh zs b).1 < (sh zs a).1) || (decide ((sh zs b).1 = (sh zs a).1) && decide (a < b))) (q := fun _ => true) (fun _ _ _ => rfl) (List.mem_range.2 ha) rfl (by simp)
    have e : ((List.range zs.length).filter fun _ => true) = List.range zs.length := List.filter_eq_self.2 (fun _ _ => rfl)
    rw [e, List.length_range] at h
    exact h
  · intro a b ha hb hF
    have hab := fol_bef hF
    refine filter_lt (l := List.range zs.length) ?_ (List.mem_range.2 hb) ((bef_dec zs a b).2 hab) (by
      cases e : (decide ((sh zs b).1 < (sh zs b).1) || (decide ((sh zs b).1 = (sh zs b).1) && decide (b < b)))
      · rfl
      · exact absurd ((bef_dec zs b b).1 e) Bef.irrefl)
    intro c _ hc
    exact (bef_dec zs a c).2 (hab.trans ((bef_dec zs b c).1 hc))

/-- The first sheet that fits at a place of the round: l + 1 are left, behind the last one. -/
def fits (F : Nat → Nat → Bool) (L : Nat → Nat) (l : Nat) (last : Option Nat) (k : Nat) : Bool := decide (L k = l) && (match last with | none => true | some a => F a k)
def pick (n : Nat) (F : Nat → Nat → Bool) (L : Nat → Nat) (l : Nat) (last : Option Nat) : Option Nat := (List.range n).find? (fits F L l last)
/-- The rest of the round when l are left. -/
def restN (n : Nat) (F : Nat → Nat → Bool) (L : Nat → Nat) : Nat → Option Nat → List Nat
  | 0, _ => []
  | l + 1, last => match pick n F L (l + 1) last with
    | some k => k :: restN n F L l (some k)
    | none => restN n F L l last
theorem find_range_some {p : Nat → Bool} : ∀ {n k : Nat}, (List.range n).find? p = some k → k < n ∧ p k = true ∧ ∀ i, i < k → p i = false := by
  intro n k h
  have h1 := List.find?_some h
  have h2 := List.mem_of_find?_eq_some h
  refine ⟨List.mem_range.1 h2, h1, ?_⟩
  intro i hi
  induction n with
  | zero => simp at h2
  | succ n ih =>
    rw [List.range_succ, List.find?_append] at h
    cases e : (List.range n).find? p with
    | some m =>
      rw [e] at h
      simp at h
      subst h
      exact ih e (List.mem_of_find?_eq_some e)
    | none =>
      rw [e] at h
      rw [List.find?_eq_none] at e
      have hk : k = n := by
        simp only [Option.none_or, List.find?_cons] at h
        split at h
        · simpa using h.symm
        · cases h
      have := e i (List.mem_range.2 (by omega))
      simpa using this
theorem find_range_mk {p : Nat → Bool} {n k : Nat} (hk : k < n) (h1 : p k = true) (h2 : ∀ i, i < k → p i = false) : (List.range n).find? p = some k := by
  cases e : (List.range n).find? p with
  | none =>
    rw [List.find?_eq_none] at e
    exact absurd h1 (e k (List.mem_range.2 hk))
  | some m =>
    obtain ⟨h3, h4, h5⟩ := find_range_some e
    rcases Nat.lt_trichotomy m k with h | h | h
    · rw [h2 m h] at h4; cases h4
    · rw [h]
    · rw [h5 k h] at h1; cases h1
theorem find_range_none {p : Nat → Bool} {n : Nat} (h : ∀ i, i < n → p i = false) : (List.range n).find? p = none := by
  rw [List.find?_eq_none]
  intro x hx
  rw [h x (List.mem_range.1 hx)]; decide
/-- The greatest of all. -/
def top (n : Nat) (L : Nat → Nat) : Nat := maxOver (fun _ => true) L n
/-- The longest round of sheets, the first of them at the first difference. -/
def bestIx (zs : List (Int × Int)) (j k : Int) : List Nat := restN zs.length (fol zs j k) (far zs.length (fol zs j k)) (top zs.length (far zs.length (fol zs j k))) none
def roundBest (zs : List (Int × Int)) (j k : Int) : List Int := if sheetsValid zs && jumpValid j k then (bestIx zs j k).map (fun (i : Nat) => (i : Int)) else []
def roundMost (zs : List (Int × Int)) (j k : Int) : Int := if sheetsValid zs && jumpValid j k then ((bestIx zs j k).length : Int) else -1
section
variable {n : Nat} {F : Nat → Nat → Bool} {r : Nat → Nat}
/-- While l are left there is always one that fits: the last one has l + 1 before it, or l is the greatest. -/
def Live (n : Nat) (F : Nat → Nat → Bool) (l : Nat) (last : Option Nat) : Prop := match last with
  | none => l = top n (far n F)
  | some a => a < n ∧ far n F a = l + 1
theorem pick_some (h : Ranked n F r) {l : Nat} {last : Option Nat} (hl : Live n F (l + 1) last) : ∃ k, pick n F (far n F) (l + 1) last = some k ∧ k < n ∧ far n F k = l + 1 ∧ fits F (far n F) (l + 1) last k = true := by
  have hex : ∃ b, b < n ∧ fits F (far n F) (l + 1) last b = true := by
    cases last with
    | none =>
      have hl : l + 1 = top n (far n F) := hl
      obtain ⟨b, h1, _, h2⟩ := maxOver_at (F := fun _ => true) (f := far n F) (n := n) (by unfold top at hl; omega)
      exact ⟨b, h1, by simp [fits, h2, hl, top]⟩
    | some a =>
      obtain ⟨h1, h2⟩ := hl
      obtain ⟨b, h3, h4, h5⟩ := far_next h h1 (by omega)
      exact ⟨b, h3, by simp [fits, h4]; omega⟩
  cases e : pick n F (far n F) (l + 1) last with
  | none =>
    obtain ⟨b, h1, h2⟩ := hex
    unfold pick at e
    rw [List.find?_eq_none] at e
    exact absurd h2 (e b (List.mem_range.2 h1))
  | some k =>
    obtain ⟨h1, h2, _⟩ := find_range_some e
    refine ⟨k, rfl, h1, ?_, h2⟩
    simp only [fits, Bool.and_eq_true, decide_eq_true_eq] at h2
    exact h2.1
theorem live_next {l k : Nat} (hk : k < n) (hf : far n F k = l + 1) : Live n F l (some k) := ⟨hk, hf⟩
theorem rest_cons {l : Nat} {last : Option Nat} {k : Nat} (hk : pick n F (far n F) (l + 1) last = some k) : restN n F (far n F) (l + 1) last = k :: restN n F (far n F) l (some k) := by
  rw [restN, hk]
theorem rest_len (h : Ranked n F r) : ∀ (l : Nat) (last : Option Nat), Live n F l last → (restN n F (far n F) l last).length = l
  | 0, _, _ => rfl
  | l + 1, last, hl => by
    obtain ⟨k, h1, h2, h3, _⟩ := pick_some h hl
    rw [rest_cons h1, List.length_cons, rest_len h l (some k) (live_next h2 h3)]
end
end Go.Proofs.YtcdoopccmljaoaaDoor
