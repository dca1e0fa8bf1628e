/- Rounds of sheets: no round is longer than the best, wider jumps and more sheets make longer rounds, and all rounds together. Plain laws, no conditions but those stated. -/
import Derived.Test.YtcdoopccmljaoaaDoorRoundMath
namespace Go.Proofs.YtcdoopccmljaoaaDoor
open Go.ChangeShapes Go.WideShapes Go.ChangeAt Go.RowKit Go.Deep
/-! ### Chains -/
theorem long_map {m n : Nat} {F' F : Nat → Nat → Bool} {g : Nat → Nat} (hg : ∀ a, a < m → g a < n) (hF : ∀ a b, a < m → b < m → F' a b = true → F (g a) (g b) = true) : ∀ t a, a < m → long m F' t a ≤ long n F t (g a)
  | 0, _, _ => Nat.le_refl _
  | t + 1, a, ha => by
    show 1 + maxOver (F' a) (long m F' t) m ≤ 1 + maxOver (F (g a)) (long n F t) n
    have : maxOver (F' a) (long m F' t) m ≤ maxOver (F (g a)) (long n F t) n := by
      rw [maxOver_le]
      intro b hb hf
      exact Nat.le_trans (long_map hg hF t b hb) (le_maxOver (f := long n F t) (hg b hb) (hF a b ha hb hf))
    omega
theorem long_mono {n : Nat} {F : Nat → Nat → Bool} {s t : Nat} (h : s ≤ t) (a : Nat) : long n F s a ≤ long n F t a := by
  induction t with
  | zero => rw [show s = 0 by omega]; exact Nat.le_refl _
  | succ t ih =>
    rcases Nat.lt_or_ge s (t + 1) with h1 | h1
    · exact Nat.le_trans (ih (by omega)) (long_le_succ n F t a)
    · rw [show s = t + 1 by omega]; exact Nat.le_refl _
theorem far_map {m n : Nat} {F' F : Nat → Nat → Bool} {g : Nat → Nat} (hm : m ≤ n) (hg : ∀ a, a < m → g a < n) (hF : ∀ a b, a < m → b < m → F' a b = true → F (g a) (g b) = true) {a : Nat} (ha : a < m) : far m F' a ≤ far n F (g a) :=
  Nat.le_trans (long_map hg hF m a ha) (long_mono hm _)
theorem top_map {m n : Nat} {F' F : Nat → Nat → Bool} {g : Nat → Nat} (hm : m ≤ n) (hg : ∀ a, a < m → g a < n) (hF : ∀ a b, a < m → b < m → F' a b = true → F (g a) (g b) = true) : top m (far m F') ≤ top n (far n F) := by
  unfold top
  rw [maxOver_le]
  intro b hb _
  exact Nat.le_trans (far_map hm hg hF hb) (le_maxOver (f := far n F) (hg b hb) rfl)
theorem top_le {n : Nat} {F : Nat → Nat → Bool} : top n (far n F) ≤ n := by
  unfold top; rw [maxOver_le]; intro b _ _; exact long_le_t n F n b
theorem top_pos {n : Nat} {F : Nat → Nat → Bool} {r : Nat → Nat} (h : Ranked n F r) (hn : 0 < n) : 0 < top n (far n F) :=
  Nat.lt_of_lt_of_le (far_pos h hn) (le_maxOver (F := fun _ => true) (f := far n F) hn rfl)
/-- A chain below n by F, behind the last one. -/
def Ch (n : Nat) (F : Nat → Nat → Bool) : Option Nat → List Nat → Prop
  | _, [] => True
  | last, k :: r => k < n ∧ (∀ a, last = some a → F a k = true) ∧ Ch n F (some k) r
theorem ch_bound {n : Nat} {F : Nat → Nat → Bool} {r : Nat → Nat} (h : Ranked n F r) : ∀ (l : List Nat) (last : Option Nat) (k : Nat), Ch n F last (k :: l) → l.length + 1 ≤ far n F k
  | [], _, k, hc => by have := far_pos h hc.1; simpa using this
  | b :: l, _, k, hc => by
    have hb := hc.2.2
    have h1 := ch_bound h l (some k) b hb
    have h2 := far_step h hc.1 hb.1 (hb.2.1 k rfl)
    simp only [List.length_cons]; omega
theorem ch_top {n : Nat} {F : Nat → Nat → Bool} {r : Nat → Nat} (h : Ranked n F r) {last : Option Nat} {l : List Nat} (hc : Ch n F last l) : l.length ≤ top n (far n F) := by
  cases l with
  | nil => exact Nat.zero_le _
  | cons k l => exact Nat.le_trans (ch_bound h l last k hc) (le_maxOver (F := fun _ => true) (f := far n F) hc.1 rfl)
theorem ch_weak {n : Nat} {F : Nat → Nat → Bool} {l : List Nat} {last : Option Nat} (h : Ch n F last l) : Ch n F none l := by
  cases l with
  | nil => trivial
  | cons k l => exact ⟨h.1, (fun a e => by cases e), h.2.2⟩
theorem rest_ch {n : Nat} {F : Nat → Nat → Bool} {r : Nat → Nat} (h : Ranked n F r) : ∀ (l : Nat) (last : Option Nat), Live n F l last → Ch n F last (restN n F (far n F) l last)
  | 0, _, _ => trivial
  | l + 1, last, hl => by
    obtain ⟨k, h1, h2, h3, h4⟩ := pick_some h hl
    rw [rest_cons h1]
    refine ⟨h2, fun a e => ?_, rest_ch h l (some k) (live_next h2 h3)⟩
    subst e
    simp only [fits, Bool.and_eq_true] at h4
    exact h4.2
theorem ch_map {m n : Nat} {F' F : Nat → Nat → Bool} {g : Nat → Nat} (hg : ∀ a, a < m → g a < n) (hF : ∀ a b, a < m → b < m → F' a b = true → F (g a) (g b) = true) : ∀ (l : List Nat) (last : Option Nat), (∀ a, last = some a → a < m) → Ch m F' last l → Ch n F (last.map g) (l.map g)
  | [], _, _, _ => trivial
  | k :: l, last, hl, h => by
    refine ⟨hg k h.1, fun a e => ?_, ch_map hg hF l (some k) (fun a e => by cases e; exact h.1) h.2.2⟩
    cases last with
    | none => cases e
    | some b => cases e; exact hF b k (hl b rfl) h.1 (h.2.1 b rfl)
theorem ch_take {n : Nat} {F : Nat → Nat → Bool} : ∀ (l : List Nat) (last : Option Nat) (i : Nat), Ch n F last l → Ch n F last (l.take i)
  | [], _, i, _ => by rw [List.take_nil]; trivial
  | k :: l, last, 0, _ => trivial
  | k :: l, last, i + 1, h => ⟨h.1, h.2.1, ch_take l (some k) i h.2.2⟩
/-! ### Rounds of sheets -/
section
variable {zs : List (Int × Int)} {j k : Int}
theorem ok_ch_aux : ∀ (r : List Int) (last : Option Nat), ((∀ i, i < r.length → inR (r.getD i 0) 0 ((zs.length : Int) - 1) = true ∧ (∀ a, (if i = 0 then last else some (r.getD (i - 1) 0).toNat) = some a → fol zs j k a (r.getD i 0).toNat = true)) ↔ (∀ x ∈ r, 0 ≤ x) ∧ Ch zs.length (fol zs j k) last (r.map Int.toNat)) := by
  intro r
  induction r with
  | nil => intro last; simp [Ch]
  | cons x r ih =>
    intro last
    rw [List.map_cons, Ch]
    have ih' := ih (some x.toNat)
    constructor
    · intro h
      have h0 := h 0 (by simp)
      simp only [List.getD_cons_zero, if_true] at h0
      have hx := inR_iff.1 h0.1
      have h1 := ih'.1 (fun i hi => by
        have := h (i + 1) (by simpa using hi)
        simp only [List.getD_cons_succ, Nat.add_one_sub_one] at this
        refine ⟨this.1, fun a ha => this.2 a ?_⟩
        rw [if_neg (by omega)]
        by_cases e : i = 0
        · subst e; simpa using ha
        · rw [if_neg e] at ha
          obtain ⟨i', rfl⟩ : ∃ i', i = i' + 1 := ⟨i - 1, by omega⟩
          simpa using ha)
      refine ⟨?_, by omega, h0.2, h1.2⟩
      intro y hy
      rw [List.mem_cons] at hy
      rcases hy with rfl | hy
      · exact hx.1
      · exact h1.1 y hy
    · rintro ⟨hp, hx, hl, hc⟩ i hi
      have hx0 := hp x List.mem_cons_self
      have h1 := ih'.2 ⟨fun y hy => hp y (List.mem_cons_of_mem _ hy), hc⟩
      cases i with
      | zero =>
        simp only [List.getD_cons_zero, if_true]
        exact ⟨inR_mk hx0 (by omega), hl⟩
      | succ i =>
        have := h1 i (by simpa using hi)
        simp only [List.getD_cons_succ, Nat.add_one_sub_one]
        refine ⟨this.1, fun a ha => this.2 a ?_⟩
        rw [if_neg (by omega)] at ha
        by_cases e : i = 0
        · subst e; simpa using ha
        · rw [if_neg e]
          obtain ⟨i', rfl⟩ : ∃ i', i = i' + 1 := ⟨i - 1, by omega⟩
          simpa using ha
/-- A round is a chain. -/
theorem roundOk_iff {r : List Int} : roundOk zs j k r = true ↔ sheetsValid zs = true ∧ jumpValid j k = true ∧ (∀ x ∈ r, 0 ≤ x) ∧ Ch zs.length (fol zs j k) none (r.map Int.toNat) := by
  rw [← ok_ch_aux]
  simp only [roundOk, Bool.and_eq_true, List.all_eq_true, List.mem_range]
  constructor
  · rintro ⟨h1, h2, h3⟩
    refine ⟨h1, h2, fun i hi => ?_⟩
    have := h3 i hi
    simp only [okAt, Bool.and_eq_true, Bool.or_eq_true, decide_eq_true_eq] at this
    refine ⟨this.1, fun a ha => ?_⟩
    split at ha
    · cases ha
    · rename_i h0
      cases ha
      exact this.2.resolve_left h0
  · rintro ⟨h1, h2, h3⟩
    refine ⟨h1, h2, fun i hi => ?_⟩
    have := h3 i hi
    simp only [okAt, Bool.and_eq_true, Bool.or_eq_true, decide_eq_true_eq]
    refine ⟨this.1, ?_⟩
    by_cases h0 : i = 0
    · exact .inl h0
    · exact .inr (this.2 _ (by rw [if_neg h0]))
def asInt (l : List Nat) : List Int := l.map fun (i : Nat) => (i : Int)
theorem asInt_nat (l : List Nat) : (asInt l).map Int.toNat = l := by
  unfold asInt; rw [List.map_map]
  have : Int.toNat ∘ (fun (i : Nat) => (i : Int)) = id := by funext i; simp
  rw [this, List.map_id]
theorem asInt_pos (l : List Nat) : ∀ x ∈ asInt l, 0 ≤ x := by
  intro x hx
  obtain ⟨i, _, rfl⟩ := List.mem_map.1 hx
  omega
theorem best_live (zs : List (Int × Int)) (j k : Int) : Live zs.length (fol zs j k) (top zs.length (far zs.length (fol zs j k))) none := rfl
theorem best_ch (zs : List (Int × Int)) (j k : Int) : Ch zs.length (fol zs j k) none (bestIx zs j k) := rest_ch (ranked zs j k) _ none rfl
theorem best_len (zs : List (Int × Int)) (j k : Int) : (bestIx zs j k).length = top zs.length (far zs.length (fol zs j k)) := rest_len (ranked zs j k) _ none rfl
theorem best_le (zs : List (Int × Int)) (j k : Int) : (bestIx zs j k).length ≤ zs.length := by rw [best_len]; exact top_le
theorem best_nil (zs : List (Int × Int)) (j k : Int) : bestIx zs j k = [] ↔ zs = [] := by
  rw [← List.length_eq_zero_iff, best_len, ← List.length_eq_zero_iff]
  constructor
  · intro h
    rcases Nat.eq_zero_or_pos zs.length with h1 | h1
    · exact h1
    · have := top_pos (ranked zs j k) h1; omega
  · intro h; have := top_le (n := zs.length) (F := fol zs j k); omega
theorem best_ok (h1 : sheetsValid zs = true) (h2 : jumpValid j k = true) : roundOk zs j k (asInt (bestIx zs j k)) = true :=
  roundOk_iff.2 ⟨h1, h2, asInt_pos _, by rw [asInt_nat]; exact best_ch zs j k⟩
/-- No round is longer. -/
theorem roundOk_le {r : List Int} (h : roundOk zs j k r = true) : r.length ≤ (bestIx zs j k).length := by
  have := ch_top (ranked zs j k) (roundOk_iff.1 h).2.2.2
  rw [best_len]; simpa using this
theorem roundOk_longer {r : List Int} (h : (bestIx zs j k).length < r.length) : roundOk zs j k r = false := by
  cases e : roundOk zs j k r
  · rfl
  · have := roundOk_le e; omega
theorem roundOk_take {r : List Int} (h : roundOk zs j k r = true) (i : Nat) : roundOk zs j k (r.take i) = true := by
  obtain ⟨a, b, c, d⟩ := roundOk_iff.1 h
  refine roundOk_iff.2 ⟨a, b, fun x hx => c x (List.mem_of_mem_take hx), ?_⟩
  rw [List.map_take]; exact ch_take _ _ _ d
theorem roundOk_in {r : List Int} (h : roundOk zs j k r = true) {i : Nat} (hi : i < r.length) : 0 ≤ r[i] ∧ r[i].toNat < zs.length := by
  simp only [roundOk, Bool.and_eq_true, List.all_eq_true, List.mem_range] at h
  have := h.2.2 i hi
  simp only [okAt, Bool.and_eq_true] at this
  have h1 := inR_iff.1 this.1
  rw [List.getD, List.getElem?_eq_getElem hi] at h1
  have h2 : (some r[i]).getD 0 = r[i] := rfl
  rw [h2] at h1
  omega
theorem roundOk_apart {r : List Int} (h : roundOk zs j k r = true) {i : Nat} (hi : i < r.length) : r[i] ∉ r.take i := by
  intro hm
  simp only [roundOk, Bool.and_eq_true, List.all_eq_true, List.mem_range] at h
  have := ok_apart (zs := zs) (j := j) (k := k) hi (fun t ht => h.2.2 t (by omega)) hm
  rw [h.2.2 i hi] at this; cases this
theorem roundOk_wide {r : List Int} (h : roundOk zs j k r = true) {i : Nat} (hi : i + 1 < r.length) : (sh zs r[i + 1].toNat).1 ≤ (sh zs (r[i]'(by omega)).toNat).1 := by
  simp only [roundOk, Bool.and_eq_true, List.all_eq_true, List.mem_range] at h
  have := ok_fol (h.2.2 (i + 1) hi)
  rw [List.getD, List.getElem?_eq_getElem (show i < r.length by omega), List.getD, List.getElem?_eq_getElem hi] at this
  simp only [fol, Bool.and_eq_true] at this
  exact mayFol_wide this.1
/-! ### Other jumps, other sheets -/
theorem fol_wider {j k j' k' : Int} (h1 : j ≤ j') (h2 : k ≤ k') (hj : jumpValid j' k' = true) {a b : Nat} (h : fol zs j k a b = true) : fol zs j' k' a b = true := by
  simp only [fol, mayFol, jumpMay, Bool.and_eq_true, inR_iff] at h ⊢
  obtain ⟨⟨a1, a2, a3, a4, a5⟩, a6⟩ := h
  exact ⟨⟨a1, a2, hj, by omega, by omega⟩, a6⟩
theorem best_wider {j k j' k' : Int} (h1 : j ≤ j') (h2 : k ≤ k') (hj : jumpValid j' k' = true) : (bestIx zs j k).length ≤ (bestIx zs j' k').length := by
  rw [best_len, best_len]
  exact top_map (g := id) (Nat.le_refl _) (fun a ha => ha) fun a b _ _ h => fol_wider h1 h2 hj h
theorem sh_take {m a : Nat} (h : a < m) : sh (zs.take m) a = sh zs a := by
  unfold sh; rw [List.getD, List.getD, List.getElem?_take, if_pos h]
theorem best_less (m : Nat) : (bestIx (zs.take m) j k).length ≤ (bestIx zs j k).length := by
  rw [best_len, best_len]
  have hl : (zs.take m).length ≤ zs.length := by rw [List.length_take]; omega
  refine top_map (g := id) hl (fun a ha => by simp only [id]; omega) fun a b ha hb h => ?_
  rw [List.length_take] at ha hb
  simp only [fol, mayFol, sh_take (show a < m by omega), sh_take (show b < m by omega)] at h
  simpa only [fol, mayFol, id] using h
/-! ### All rounds -/
def pickSh (zs : List (Int × Int)) (rest : List Nat) : List (Int × Int) := rest.map (sh zs)
def roundOf (zs : List (Int × Int)) (j k : Int) (rest : List Nat) : List Nat := (bestIx (pickSh zs rest) j k).map fun b => rest.getD b 0
def leftOf (zs : List (Int × Int)) (j k : Int) (rest : List Nat) : List Nat := rest.filter fun x => decide (x ∉ roundOf zs j k rest)
def allN (zs : List (Int × Int)) (j k : Int) : Nat → List Nat → List (List Nat)
  | 0, _ => []
  | f + 1, rest => if rest = [] then [] else roundOf zs j k rest :: allN zs j k f (leftOf zs j k rest)
def roundsAll (zs : List (Int × Int)) (j k : Int) : List (List Int) := if sheetsValid zs && jumpValid j k then (allN zs j k zs.length (List.range zs.length)).map asInt else []
/-- Ascending numbers of sheets. -/
def Asc (zs : List (Int × Int)) (rest : List Nat) : Prop := rest.Pairwise (· < ·) ∧ ∀ x ∈ rest, x < zs.length
theorem asc_get {rest : List Nat} (h : Asc zs rest) {a b : Nat} (ha : a < rest.length) (hb : b < rest.length) : rest.getD a 0 < rest.getD b 0 ↔ a < b := by
  rw [List.getD, List.getD, List.getElem?_eq_getElem ha, List.getElem?_eq_getElem hb]
  have hp := List.pairwise_iff_getElem.1 h.1
  have e1 : (some rest[a]).getD 0 = rest[a] := rfl
  have e2 : (some rest[b]).getD 0 = rest[b] := rfl
  rw [e1, e2]
  constructor
  · intro hlt
    rcases Nat.lt_trichotomy a b with h1 | h1 | h1
    · exact h1
    · subst h1; omega
    · have := hp b a hb ha h1; omega
  · exact hp a b ha hb
theorem pick_len (rest : List Nat) : (pickSh zs rest).length = rest.length := by simp [pickSh]
theorem pick_sh {rest : List Nat} {a : Nat} (ha : a < rest.length) : sh (pickSh zs rest) a = sh zs (rest.getD a 0) := by
  unfold pickSh
  rw [sh, List.getD, List.getElem?_map, List.getD, List.getElem?_eq_getElem ha]; rfl
theorem pick_fol {rest : List Nat} (h : Asc zs rest) {a b : Nat} (ha : a < rest.length) (hb : b < rest.length) : fol (pickSh zs rest) j k a b = fol zs j k (rest.getD a 0) (rest.getD b 0) := by
  unfold fol mayFol
  rw [pick_sh ha, pick_sh hb, decide_eq_decide.2 (asc_get h ha hb)]
theorem getD_in {rest : List Nat} {a : Nat} (ha : a < rest.length) : rest.getD a 0 ∈ rest := by
  rw [List.getD, List.getElem?_eq_getElem ha]; exact List.getElem_mem ha
theorem ch_in {n : Nat} {F : Nat → Nat → Bool} : ∀ (l : List Nat) (last : Option Nat), Ch n F last l → ∀ x ∈ l, x < n
  | [], _, _, x, hx => by cases hx
  | k :: l, _, h, x, hx => by
    rw [List.mem_cons] at hx
    rcases hx with rfl | hx
    · exact h.1
    · exact ch_in l (some k) h.2.2 x hx
theorem round_ch {rest : List Nat} (h : Asc zs rest) : Ch zs.length (fol zs j k) none (roundOf zs j k rest) := by
  have hb := best_ch (pickSh zs rest) j k
  rw [pick_len] at hb
  refine ch_map (g := fun b => rest.getD b 0) (last := none) (fun a ha => h.2 _ (getD_in ha)) (fun a b ha hb hf => ?_) _ (fun a e => by cases e) hb
  rw [pick_fol h ha hb] at hf; exact hf
theorem round_in {rest : List Nat} : ∀ x ∈ roundOf zs j k rest, x ∈ rest := by
  intro x hx
  obtain ⟨b, hb, rfl⟩ := List.mem_map.1 hx
  have := ch_in _ _ (best_ch (pickSh zs rest) j k) b hb
  rw [pick_len] at this
  exact getD_in this
theorem round_len (rest : List Nat) : (roundOf zs j k rest).length = top rest.length (far rest.length (fol (pickSh zs rest) j k)) := by
  rw [roundOf, List.length_map, best_len, pick_len]
theorem round_nil {rest : List Nat} : roundOf zs j k rest = [] ↔ rest = [] := by
  rw [roundOf, List.map_eq_nil_iff, best_nil, pickSh, List.map_eq_nil_iff]
/-- A chain has no number twice. -/
theorem ch_nodup {zs : List (Int × Int)} {j k : Int} : ∀ (l : List Nat) (last : Option Nat), Ch zs.length (fol zs j k) last l → l.Nodup ∧ ∀ a, last = some a → ∀ x ∈ l, Bef zs a x
  | [], _, _ => ⟨List.nodup_nil, fun _ _ x hx => by cases hx⟩
  | b :: l, last, h => by
    obtain ⟨h1, h2⟩ := ch_nodup l (some b) h.2.2
    refine ⟨List.nodup_cons.2 ⟨fun hm => Bef.irrefl (h2 b rfl b hm), h1⟩, fun a e x hx => ?_⟩
    have hab := fol_bef (h.2.1 a e)
    rw [List.mem_cons] at hx
    rcases hx with rfl | hx
    · exact hab
    · exact hab.trans (h2 b rfl x hx)
theorem left_asc {rest : List Nat} (h : Asc zs rest) : Asc zs (leftOf zs j k rest) :=
  ⟨h.1.filter _, fun x hx => h.2 x ((List.mem_filter.1 hx).1)⟩
theorem asc_nodup {rest : List Nat} (h : Asc zs rest) : rest.Nodup := h.1.imp fun hab => by omega
theorem len_perm {a b : List Nat} (ha : a.Nodup) (hb : b.Nodup) (h : ∀ x, x ∈ a ↔ x ∈ b) : a.length = b.length := by
  have key : ∀ (z L : List Nat), z.Nodup → (∀ x ∈ z, x ∈ L) → z.length ≤ L.length := by
    intro z
    induction z with
    | nil => intro L _ _; exact Nat.zero_le _
    | cons x r ih =>
      intro L hn h
      rw [List.nodup_cons] at hn
      have hx := h x List.mem_cons_self
      have := ih (L.erase x) hn.2 fun y hy => by
        rw [List.mem_erase_of_ne]
        · exact h y (List.mem_cons_of_mem _ hy)
        · intro e; subst e; exact hn.1 hy
      rw [List.length_erase_of_mem hx] at this
      have : 0 < L.length := List.length_pos_of_mem hx
      rw [List.length_cons]; omega
  exact Nat.le_antisymm (key a b ha fun x hx => (h x).1 hx) (key b a hb fun x hx => (h x).2 hx)
theorem left_len {rest : List Nat} (h : Asc zs rest) : (leftOf zs j k rest).length + (roundOf zs j k rest).length = rest.length := by
  have hn := asc_nodup h
  have e : (rest.filter fun x => !decide (x ∉ roundOf zs j k rest)).length = (roundOf zs j k rest).length := by
    refine len_perm (hn.filter _) (ch_nodup _ _ (round_ch h)).1 fun x => ?_
    rw [List.mem_filter]
    constructor
    · rintro ⟨_, h2⟩; simpa using h2
    · intro hx; exact ⟨round_in x hx, by simpa using hx⟩
  have aux : ∀ (p : Nat → Bool) (l : List Nat), (l.filter p).length + (l.filter fun x => !p x).length = l.length := by
    intro p l
    induction l with
    | nil => rfl
    | cons x l ih => cases hp : p x <;> simp [hp] <;> omega
  have := aux (fun x => decide (x ∉ roundOf zs j k rest)) rest
  rw [leftOf, ← e]; exact this
theorem left_less {rest : List Nat} (h : Asc zs rest) (hr : rest ≠ []) : (leftOf zs j k rest).length < rest.length := by
  have := left_len (j := j) (k := k) h
  have h1 : 0 < (roundOf zs j k rest).length := List.length_pos_iff.2 fun e => hr (round_nil.1 e)
  omega
/-- What is asked of all rounds. -/
theorem all_ok : ∀ (f : Nat) (rest : List Nat), Asc zs rest → ∀ r ∈ allN zs j k f rest, Ch zs.length (fol zs j k) none r ∧ r ≠ []
  | 0, _, _, r, hr => by cases hr
  | f + 1, rest, h, r, hr => by
    unfold allN at hr
    split at hr
    · cases hr
    · rename_i hne
      rw [List.mem_cons] at hr
      rcases hr with rfl | hr
      · exact ⟨round_ch h, fun e => hne (round_nil.1 e)⟩
      · exact all_ok f _ (left_asc h) r hr
theorem all_mem : ∀ (f : Nat) (rest : List Nat), Asc zs rest → rest.length ≤ f → ∀ x, x ∈ (allN zs j k f rest).flatten ↔ x ∈ rest
  | 0, rest, _, hl, x => by
    have : rest = [] := List.eq_nil_of_length_eq_zero (by omega)
    subst this; simp [allN]
  | f + 1, rest, h, hl, x => by
    unfold allN
    split
    · rename_i e; subst e; simp
    · rename_i hne
      have := left_less (j := j) (k := k) h hne
      rw [List.flatten_cons, List.mem_append, all_mem f _ (left_asc h) (by omega), leftOf, List.mem_filter]
      constructor
      · rintro (h1 | h1)
        · exact round_in x h1
        · exact h1.1
      · intro hx
        by_cases hm : x ∈ roundOf zs j k rest
        · exact .inl hm
        · exact .inr ⟨hx, by simpa using hm⟩
theorem all_len : ∀ (f : Nat) (rest : List Nat), Asc zs rest → rest.length ≤ f → (allN zs j k f rest).flatten.length = rest.length
  | 0, rest, _, hl => by
    have : rest = [] := List.eq_nil_of_length_eq_zero (by omega)
    subst this; simp [allN]
  | f + 1, rest, h, hl => by
    unfold allN
    split
    · rename_i e; subst e; simp
    · rename_i hne
      have h1 := left_less (j := j) (k := k) h hne
      have h2 := left_len (j := j) (k := k) h
      rw [List.flatten_cons, List.length_append, all_len f _ (left_asc h) (by omega)]; omega
theorem idx_getD {l : List Nat} {x : Nat} (h : x ∈ l) : l.idxOf x < l.length ∧ l.getD (l.idxOf x) 0 = x := by
  have hl := List.idxOf_lt_length_of_mem h
  exact ⟨hl, by rw [List.getD, List.getElem?_eq_getElem hl]; simp⟩
/-- Fewer sheets give no longer round. -/
theorem round_sub {rest left : List Nat} (h : Asc zs rest) (hl : Asc zs left) (hs : ∀ x ∈ left, x ∈ rest) : (roundOf zs j k left).length ≤ (roundOf zs j k rest).length := by
  rw [round_len, round_len]
  have hlen : left.length ≤ rest.length := by
    have key := len_perm (a := left) (b := rest.filter fun x => decide (x ∈ left)) (asc_nodup hl) ((asc_nodup h).filter _) fun x => by
      rw [List.mem_filter]
      exact ⟨fun hx => ⟨hs x hx, by simpa using hx⟩, fun hx => by simpa using hx.2⟩
    have := List.length_filter_le (fun x => decide (x ∈ left)) rest
    omega
  have hg : ∀ a, a < left.length → rest.idxOf (left.getD a 0) < rest.length ∧ rest.getD (rest.idxOf (left.getD a 0)) 0 = left.getD a 0 := fun a ha => idx_getD (hs _ (getD_in ha))
  refine top_map (g := fun a => rest.idxOf (left.getD a 0)) hlen (fun a ha => (hg a ha).1) fun a b ha hb hf => ?_
  rw [pick_fol hl ha hb] at hf
  rw [pick_fol h (hg a ha).1 (hg b hb).1, (hg a ha).2, (hg b hb).2]; exact hf
theorem all_desc : ∀ (f : Nat) (rest : List Nat), Asc zs rest → (∀ r ∈ allN zs j k f rest, r.length ≤ (roundOf zs j k rest).length) ∧ ∀ i, i + 1 < (allN zs j k f rest).length → ((allN zs j k f rest).getD (i + 1) []).length ≤ ((allN zs j k f rest).getD i []).length
  | 0, _, _ => by simp [allN]
  | f + 1, rest, h => by
    unfold allN
    split
    · simp
    · rename_i hne
      obtain ⟨h1, h2⟩ := all_desc f (leftOf zs j k rest) (left_asc h)
      have hsub : (roundOf zs j k (leftOf zs j k rest)).length ≤ (roundOf zs j k rest).length := round_sub (j := j) (k := k) h (left_asc (j := j) (k := k) h) fun x hx => (List.mem_filter.1 hx).1
      refine ⟨fun r hr => ?_, fun i hi => ?_⟩
      · rw [List.mem_cons] at hr
        rcases hr with rfl | hr
        · exact Nat.le_refl _
        · exact Nat.le_trans (h1 r hr) hsub
      · rw [List.getD_cons_succ]
        cases i with
        | zero =>
          rw [List.getD_cons_zero]
          have hl : 0 < (allN zs j k f (leftOf zs j k rest)).length := by simpa using hi
          rw [List.getD, List.getElem?_eq_getElem hl]
          exact Nat.le_trans (h1 _ (List.getElem_mem hl)) hsub
        | succ i =>
          rw [List.getD_cons_succ]
          exact h2 i (by simpa using hi)
theorem asc_range (zs : List (Int × Int)) : Asc zs (List.range zs.length) := ⟨List.pairwise_lt_range, fun _ hx => List.mem_range.1 hx⟩
end
end Go.Proofs.YtcdoopccmljaoaaDoor
