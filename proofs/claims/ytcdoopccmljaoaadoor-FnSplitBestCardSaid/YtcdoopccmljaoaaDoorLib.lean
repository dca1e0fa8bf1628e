/- Words for slices in memory, of no program: a slice that reads as a list of cells, a row that the call made, and how both are kept while the world grows. No conditions. -/
import Derived.WalkKit
import Derived.ProofKit
import Derived.OpenShut
import Derived.Handy
import Derived.Below
import Derived.Laws.Rows
import Derived.Laws.OwnMore
import Derived.Deep.Slices
import Derived.Deep.Fields
import Derived.Lib.SmallJoins
namespace Go.Proofs.YtcdoopccmljaoaaDoor
open Go.ChangeShapes Go.WideShapes Go.ChangeAt Go.RowKit Go.Deep

/-- The slice address A reads as the cells xs, all below block B. -/
def Rd (w : World) (B : Nat) (A : Option Addr) (xs : List Value) : Prop :=
  xs = [] ∨ ∃ b o, A = some ⟨b, o, none⟩ ∧ b < B ∧ ∀ j (h : j < xs.length), w.cell? ⟨b, o + j, none⟩ = some xs[j]

/-- The slice address A is a row of its own, of element type T, from block B on, that holds xs ahead. -/
def Own (w : World) (B : Nat) (T : TypeId) (A : Option Addr) (xs : List Value) : Prop :=
  xs = [] ∨ ∃ g cs, A = some ⟨g, 0, none⟩ ∧ B ≤ g ∧ w.heap[g]? = some (.cells cs T (0, 0)) ∧ ∀ j (h : j < xs.length), cs[j]? = some xs[j]

section
variable {w w' : World} {B B' : Nat} {T : TypeId} {A : Option Addr} {xs : List Value}

theorem Rd.nil (w : World) (B : Nat) (A : Option Addr) : Rd w B A [] := .inl rfl
theorem Rd.at (h : Rd w B A xs) {k : Nat} (hk : k < xs.length) :
    ∃ b o, A = some ⟨b, o, none⟩ ∧ b < B ∧ ∀ j (h : j < xs.length), w.cell? ⟨b, o + j, none⟩ = some xs[j] := by
  rcases h with rfl | h
  · simp at hk
  · exact h
theorem Rd.below (h : Rd w B A xs) (hb : Below B w w') : Rd w' B A xs := by
  rcases h with h | ⟨b, o, hA, hlt, hc⟩
  · exact .inl h
  · exact .inr ⟨b, o, hA, hlt, fun j hj => (hb.cell (p := ⟨b, o + j, none⟩) hlt).trans (hc j hj)⟩
theorem Rd.mono (h : Rd w B A xs) (hB : B ≤ B') : Rd w B' A xs := by
  rcases h with h | ⟨b, o, hA, hlt, hc⟩
  · exact .inl h
  · exact .inr ⟨b, o, hA, by omega, hc⟩
theorem Rd.low (h : Rd w B A xs) : Rd w w.heap.size A xs := by
  rcases h with h | ⟨b, o, hA, hlt, hc⟩
  · exact .inl h
  · by_cases hx : xs = []
    · exact .inl hx
    · have hl : 0 < xs.length := List.length_pos_iff.2 hx
      exact .inr ⟨b, o, hA, block_lt_of_cell (hc 0 hl), hc⟩
theorem Own.nil (w : World) (B : Nat) (T : TypeId) (A : Option Addr) : Own w B T A [] := .inl rfl
theorem Own.at (h : Own w B T A xs) {k : Nat} (hk : k < xs.length) :
    ∃ g cs, A = some ⟨g, 0, none⟩ ∧ B ≤ g ∧ g < w.heap.size ∧ w.heap[g]? = some (.cells cs T (0, 0)) ∧ ∀ j (h : j < xs.length), cs[j]? = some xs[j] := by
  rcases h with rfl | ⟨g, cs, h1, h2, h3, h4⟩
  · simp at hk
  · exact ⟨g, cs, h1, h2, lt_of_block h3, h3, h4⟩
theorem Own.rd (h : Own w B T A xs) : Rd w w.heap.size A xs := by
  rcases h with h | ⟨g, cs, hA, hB, hg, hc⟩
  · exact .inl h
  · exact .inr ⟨g, 0, hA, lt_of_block hg, fun j hj => by rw [cell_of_row w g (0 + j) cs T (0, 0) hg, Nat.zero_add]; exact hc j hj⟩
theorem Own.mono (h : Own w B T A xs) (hB : B' ≤ B) : Own w B' T A xs := by
  rcases h with h | ⟨g, cs, hA, hlt, hc⟩
  · exact .inl h
  · exact .inr ⟨g, cs, hA, by omega, hc⟩
theorem Own.below (h : Own w B T A xs) (hb : Below w.heap.size w w') : Own w' B T A xs := by
  rcases h with h | ⟨g, cs, hA, hlt, hg, hc⟩
  · exact .inl h
  · exact .inr ⟨g, cs, hA, hlt, (hb.block g (lt_of_block hg)).trans hg, hc⟩
theorem Own.of_row {base n : Nat} {c : Nat} {size : Nat} (h : w.ownsRow base T size (.slice A n c) n xs) : Own w base T A xs := by
  obtain ⟨hl, h⟩ := h
  rcases h with ⟨_, rfl⟩ | ⟨g, cap, cur, hv, hb, hg, _, _, _, ht⟩
  · exact .inl (List.eq_nil_of_length_eq_zero (by simpa using hl))
  · injection hv with hA _ _
    subst ht
    refine .inr ⟨g, cur, hA, hb, hg, fun j hj => ?_⟩
    have h1 : (cur.toList.take (n * size))[j]? = some ((cur.toList.take (n * size))[j]) := List.getElem?_eq_getElem hj
    rw [← h1, List.getElem?_take, if_pos (by simp at hj; omega)]
    simp
end

/-- Block g, of element type T and not frozen, holds the cells xs ahead. -/
def Row (w : World) (g : Nat) (T : TypeId) (xs : List Value) : Prop := ∃ cs, w.heap[g]? = some (.cells cs T (0, 0)) ∧ ∀ j (h : j < xs.length), cs[j]? = some xs[j]
section
variable {w w' : World} {g : Nat} {T : TypeId} {xs : List Value}
theorem Row.lt (h : Row w g T xs) : g < w.heap.size := lt_of_block h.choose_spec.1
theorem Row.cell (h : Row w g T xs) {j : Nat} (hj : j < xs.length) : w.cell? ⟨g, j, none⟩ = some xs[j] := by
  obtain ⟨cs, h1, h2⟩ := h
  rw [cell_of_row w g j _ T (0, 0) h1]; exact h2 j hj
theorem Row.frozen (h : Row w g T xs) (j : Nat) : w.frozen? ⟨g, j, none⟩ = false := by
  obtain ⟨cs, h1, h2⟩ := h
  exact frozen_of_row w g j _ T h1
theorem Row.new (w : World) (T : TypeId) (cs : Array Value) : Row (w.alloc (.cells cs T)) w.heap.size T cs.toList := ⟨cs, heap_alloc_new w _, fun j hj => by simp at hj; simp [hj]⟩
theorem Row.drew (h : Row w g T xs) : Row w.drew g T xs := h
theorem Row.drewN (h : Row w g T xs) (q : Nat) : Row (w.drewN q) g T xs := h
theorem Row.alloc (h : Row w g T xs) (o : Obj) : Row (w.alloc o) g T xs := by
  obtain ⟨cs, h1, h2⟩ := h
  exact ⟨cs, (Below.heap_alloc w o g (lt_of_block h1)).trans h1, h2⟩
theorem Row.set (h : Row w g T xs) (j : Nat) (u : Value) : Row (w.setCell ⟨g, j, none⟩ u) g T (xs.set j u) := by
  obtain ⟨cs, h1, h2⟩ := h
  refine ⟨cs.setIfInBounds j u, by rw [heap_setCell_same w g j _ T u h1], fun i hi => ?_⟩
  have hi' : i < xs.length := by simpa using hi
  have hc := h2 i hi'
  by_cases e : j = i
  · subst e
    have hlt : j < cs.size := by
      rcases Nat.lt_or_ge j cs.size with hh | hh
      · exact hh
      · rw [Array.getElem?_eq_none hh] at hc; cases hc
    simp [hlt]
  · simp [e, hc]
theorem Row.far (h : Row w g T xs) {p : Addr} (hp : g ≠ p.block) (u : Value) : Row (w.setCell p u) g T xs := by
  obtain ⟨cs, h1, h2⟩ := h
  exact ⟨cs, (heap_setCell_other w p g u hp).trans h1, h2⟩
theorem Row.below {B : Nat} (h : Row w g T xs) (hb : Below B w w') (hg : g < B) : Row w' g T xs := by
  obtain ⟨cs, h1, h2⟩ := h
  exact ⟨cs, (hb.block g hg).trans h1, h2⟩
theorem Row.after (h : Row w g T xs) (hb : Below w.heap.size w w') : Row w' g T xs := h.below hb h.lt
theorem Row.kept {row : Option Nat} (h : Row w g T xs) (hb : w.grownBy w' row) (hg : some g ≠ row) : Row w' g T xs := by
  obtain ⟨cs, h1, h2⟩ := h
  exact ⟨cs, (hb.block g (lt_of_block h1) hg).trans h1, h2⟩
theorem Row.own (h : Row w g T xs) {B : Nat} (hB : B ≤ g) : Own w B T (some ⟨g, 0, none⟩) xs := by
  obtain ⟨cs, h1, h2⟩ := h
  exact .inr ⟨g, cs, rfl, hB, h1, h2⟩
theorem Row.rd (h : Row w g T xs) : Rd w w.heap.size (some ⟨g, 0, none⟩) xs := (h.own (Nat.le_refl g)).rd
theorem Own.row {B : Nat} {A : Option Addr} (h : Own w B T A xs) (hx : xs ≠ []) : ∃ g, A = some ⟨g, 0, none⟩ ∧ B ≤ g ∧ Row w g T xs := by
  rcases h with h | ⟨g, cs, h1, h2, h3, h4⟩
  · exact absurd h hx
  · exact ⟨g, h1, h2, cs, h3, h4⟩
theorem Own.kept {B : Nat} {A : Option Addr} {row : Option Nat} (h : Own w B T A xs) (hb : w.grownBy w' row) (hg : ∀ g o s, A = some ⟨g, o, s⟩ → some g ≠ row) : Own w' B T A xs := by
  rcases h with h | ⟨g, cs, h1, h2, h3, h4⟩
  · exact .inl h
  · exact .inr ⟨g, cs, h1, h2, (hb.block g (lt_of_block h3) (hg _ _ _ h1)).trans h3, h4⟩
end

theorem grown_trans {a b c : World} {row : Option Nat} (h : a.grownBy b row) (k : b.grownBy c row) : a.grownBy c row :=
  ⟨k.os.trans h.os, k.tape.trans h.tape, k.output.trans h.output, Nat.le_trans h.size k.size, fun i hi hne => (k.block i (Nat.lt_of_lt_of_le hi h.size) hne).trans (h.block i hi hne)⟩
/-- A store into block g. -/
theorem grown_set (w : World) (a : Addr) (u : Value) : w.grownBy (w.setCell a u) (some a.block) :=
  ⟨rfl, rfl, rfl, by simp [World.setCell], fun i _ hne => heap_setCell_other w a i u (fun e => hne (by rw [e]))⟩

/-- The block in which a row of the call's own lies; none if it is empty. -/
def ownB (A : Option Addr) (xs : List Value) : Option Nat := if xs.isEmpty then none else A.map (·.block)
theorem ownB_nil (A : Option Addr) : ownB A [] = none := rfl
theorem ownB_cons (A : Option Addr) {xs : List Value} (h : xs ≠ []) : ownB A xs = A.map (·.block) := by
  cases xs with
  | nil => exact absurd rfl h
  | cons => rfl
/-- Writing into a row from block B on turns nothing below B. -/
theorem Own.mark_below {w w' : World} {B : Nat} {T : TypeId} {A : Option Addr} {xs : List Value} (h : Own w B T A xs) (hB : B ≤ w.heap.size) (hg : w.grownBy w' (ownB A xs)) : Below B w w' := by
  refine (Below.refl B w).grown hg hB fun k hk => ?_
  by_cases hx : xs = []
  · subst hx; cases hk
  · obtain ⟨g, rfl, hb, _⟩ := h.row hx
    rw [ownB_cons _ hx] at hk
    simp at hk; omega

/-- xs up to k, behind it z. -/
def fill (z : Value) (xs : List Value) (k : Nat) : List Value := xs.take k ++ List.replicate (xs.length - k) z
theorem fill_len (z : Value) (xs : List Value) (k : Nat) (h : k ≤ xs.length) : (fill z xs k).length = xs.length := by simp [fill]; omega
theorem fill_zero (z : Value) (xs : List Value) : fill z xs 0 = List.replicate xs.length z := by simp [fill]
theorem fill_all (z : Value) (xs : List Value) : fill z xs xs.length = xs := by simp [fill]
theorem fill_set (z : Value) (xs : List Value) (k : Nat) (h : k < xs.length) : (fill z xs k).set k xs[k] = fill z xs (k + 1) := by
  unfold fill
  rw [List.set_append_right _ _ (by simp; omega)]
  have e : k - (List.take k xs).length = 0 := by simp; omega
  have e2 : xs.length - k = (xs.length - (k + 1)) + 1 := by omega
  rw [e, e2, List.replicate_succ, List.set_cons_zero, List.take_succ_eq_append_getElem h, List.append_assoc]; rfl

/-- A slice of numbers that came in. -/
theorem open_rd1 {H : Type} {enc : TypeId × Value → H} {P : Program} {w : World} {spare : Nat → Bool} {held : Bool} {t e : TypeId} {k : IntKind} {fuel : Nat} {A : Option Addr} {n c : Nat} {x : DataW H × List MemPlace}
    (ht : P.underlying t = some (.slice e)) (he : P.underlying e = some (.int k)) (hc : P.cellsOf e = 1)
    (h : DataW.trod enc P w 0 spare held fuel t [.slice A n c] = some x) :
    ∃ zs : List Int, zs.length = n ∧ n ≤ c ∧ c ≤ maxLen ∧ (∀ z ∈ zs, (Lit.int k z).wf = true) ∧ Rd w w.heap.size A (zs.map (Value.int k)) := by
  rcases open_ints ht he hc h with ⟨hcs, _⟩ | ⟨a, len, cap, zs, hcs, _, hl, hm, hz, _, hcell, hwf⟩
  · simp at hcs
    obtain ⟨rfl, rfl, rfl⟩ := hcs
    exact ⟨[], rfl, Nat.le_refl _, by simp [maxLen], by simp, .inl rfl⟩
  · simp at hcs
    obtain ⟨rfl, rfl, rfl⟩ := hcs
    have hln : n ≤ zs.length := by rw [hz]; split <;> omega
    refine ⟨zs.take n, by rw [List.length_take]; omega, hl, hm, fun z hz => hwf z (List.mem_of_mem_take hz), ?_⟩
    by_cases h0 : n = 0
    · subst h0; exact .inl (by simp)
    · obtain ⟨b, o, spot⟩ := a
      have g0 := hcell 0 (by omega)
      have hspot : spot = none := by simpa [Addr.add] using World.cell?_spot g0
      subst hspot
      have hb : b < w.heap.size := by simpa [Addr.add] using block_lt_of_cell g0
      refine .inr ⟨b, o, rfl, hb, fun j hj => ?_⟩
      have hj' : j < n := by simp at hj; omega
      have hjz : j < zs.length := by omega
      have := hcell j hjz
      rw [add_plain] at this
      rw [this]
      simp [List.getD, List.getElem?_eq_getElem hjz]

/-- Old cells and old marks read as before. -/
theorem bcell {W w1 : World} {B : Nat} (hb : Below B W w1) : (∀ b o, b < B → w1.cell? ⟨b, o, none⟩ = W.cell? ⟨b, o, none⟩) ∧ (∀ b o, b < B → w1.frozen? ⟨b, o, none⟩ = W.frozen? ⟨b, o, none⟩) :=
  ⟨fun b o h => hb.cell (p := ⟨b, o, none⟩) h, fun b o h => hb.frozen (p := ⟨b, o, none⟩) h⟩

/-- Two growths in a row, the second said of its own beginning. -/
theorem via {B : Nat} {a W w1 : World} (h1 : Below B a W) (h2 : Below W.heap.size W w1) (hB : B ≤ W.heap.size) : Below B a w1 := h1.trans (h2.mono hB)
/-- An old cell in a later world. -/
theorem later {B : Nat} {a w1 : World} {p : Addr} {v : Value} (h : Below B a w1) (hp : p.block < B) (hc : a.cell? p = some v) : w1.cell? p = some v := (h.cell hp).trans hc

/-- What read in w reads in every world that has grown from it. -/
theorem Rd.up {w w' : World} {A : Option Addr} {xs : List Value} (h : Rd w w.heap.size A xs) (hb : Below w.heap.size w w') : Rd w' w'.heap.size A xs := (h.below hb).mono hb.size

/-- A fact kept from the walk. -/
theorem hide {p : Prop} (h : p) : Hid p := h

theorem getElem_map_int (k : IntKind) (zs : List Int) (j : Nat) (h : j < (zs.map (Value.int k)).length) : (zs.map (Value.int k))[j] = .int k (zs[j]'(by simpa using h)) := by simp

/-- The cells of pairs of numbers. -/
def sc (zs : List (Int × Int)) : List Value := zs.flatMap fun s => [.int .i64 s.1, .int .i64 s.2]
theorem sc_len (zs : List (Int × Int)) : (sc zs).length = zs.length * 2 := by
  induction zs with
  | nil => rfl
  | cons s r ih => simp only [sc, List.flatMap_cons, List.length_append, List.length_cons, List.length_nil] at ih ⊢; omega
theorem sc_get (zs : List (Int × Int)) (k : Nat) (h : k < zs.length) : (sc zs)[k * 2]? = some (.int .i64 zs[k].1) ∧ (sc zs)[k * 2 + 1]? = some (.int .i64 zs[k].2) := by
  induction zs generalizing k with
  | nil => simp at h
  | cons s r ih =>
    cases k with
    | zero => simp [sc]
    | succ k =>
      have hk : k < r.length := by simpa using h
      have := ih k hk
      have e1 : (k + 1) * 2 = k * 2 + 1 + 1 := by omega
      simp only [sc, List.flatMap_cons] at this ⊢
      rw [e1]
      simpa using this
theorem Rd.pair {w : World} {B : Nat} {A : Option Addr} {zs : List (Int × Int)} (h : Rd w B A (sc zs)) {k : Nat} (hk : k < zs.length) :
    ∃ b o, A = some ⟨b, o, none⟩ ∧ b < B ∧ w.cell? ⟨b, o + k * 2, none⟩ = some (.int .i64 zs[k].1) ∧ w.cell? ⟨b, o + k * 2 + 1, none⟩ = some (.int .i64 zs[k].2) := by
  have hl := sc_len zs
  obtain ⟨b, o, hA, hb, hc⟩ := h.at (k := k * 2) (by omega)
  obtain ⟨g1, g2⟩ := sc_get zs k hk
  have c1 := hc (k * 2) (by omega)
  have c2 := hc (k * 2 + 1) (by omega)
  rw [List.getElem?_eq_getElem (by omega)] at g1 g2
  rw [← c1] at g1
  rw [← c2] at g2
  exact ⟨b, o, hA, hb, g1, by rw [Nat.add_assoc]; exact g2⟩

/-! ### A law's arguments -/
section
variable {H : Type} {enc : TypeId × Value → H} {P : Program} {w : World} {spare : Nat → Bool} {held : Bool}
theorem op_int {r : Reach} {b0 : Nat} {t : TypeId} {v : Value} {d : DataW H} {ps : List MemPlace} (ht : P.underlying t = some (.int .i64)) (hval : Value.okWide P w r b0 t v) (hd : DataW.Trod enc P w 0 spare held t v d ps) :
    ∃ n : Int, v = .int .i64 n := by
  obtain ⟨n, h, _⟩ := open_int ht hval hd
  exact ⟨n, h⟩
theorem op_pair {r : Reach} {b0 : Nat} {t : TypeId} {f0 f1 : Field} {v : Value} {d : DataW H} {ps : List MemPlace} (hs : P.underlying t = some (.struct #[f0, f1])) (hone : oneCellFields P #[f0, f1] = true) (hC : P.cellsOf t = 2)
    (h0 : P.underlying f0.type = some (.int .i64)) (h1 : P.underlying f1.type = some (.int .i64)) (hval : Value.okWide P w r b0 t v) (hd : DataW.Trod enc P w 0 spare held t v d ps) :
    ∃ a b : Int, v = .agg #[.int .i64 a, .int .i64 b] := by
  obtain ⟨v0, v1, y0, y1, n, rfl, _, _, t0, t1⟩ := Joins.open_agg2 hs hone hC hval hd
  obtain ⟨a, e0, _⟩ := DataW.trod_int h0 t0
  obtain ⟨b, e1, _⟩ := DataW.trod_int h1 t1
  simp at e0 e1
  exact ⟨a, b, by rw [e0, e1]⟩
theorem op_spot {r : Reach} {b0 : Nat} {t : TypeId} {f0 f1 : Field} {v : Value} {d : DataW H} {ps : List MemPlace} (hs : P.underlying t = some (.struct #[f0, f1])) (hone : oneCellFields P #[f0, f1] = true) (hC : P.cellsOf t = 2)
    (h0 : P.underlying f0.type = some .bool) (h1 : P.underlying f1.type = some (.int .i64)) (hval : Value.okWide P w r b0 t v) (hd : DataW.Trod enc P w 0 spare held t v d ps) :
    ∃ (a : Bool) (b : Int), v = .agg #[.bool a, .int .i64 b] := by
  obtain ⟨v0, v1, y0, y1, n, rfl, _, _, t0, t1⟩ := Joins.open_agg2 hs hone hC hval hd
  obtain ⟨a, e0, _⟩ := DataW.trod_bool h0 t0
  obtain ⟨b, e1, _⟩ := DataW.trod_int h1 t1
  simp at e0 e1
  exact ⟨a, b, by rw [e0, e1]⟩
theorem op_pairs {r : Reach} {b0 : Nat} {t e : TypeId} {f0 f1 : Field} {v : Value} {d : DataW H} {ps : List MemPlace} (ht : P.underlying t = some (.slice e)) (hs : P.underlying e = some (.struct #[f0, f1])) (hone : oneCellFields P #[f0, f1] = true) (hC : P.cellsOf e = 2)
    (h0 : P.underlying f0.type = some (.int .i64)) (h1 : P.underlying f1.type = some (.int .i64)) (hval : Value.okWide P w r b0 t v) (hd : DataW.Trod enc P w 0 spare held t v d ps) :
    ∃ (A : Option Addr) (n c : Nat) (z : List (Int × Int)), v = .slice A n c ∧ z.length = n ∧ n ≤ c ∧ c ≤ maxLen ∧ Rd w w.heap.size A (sc z) := by
  obtain ⟨A, n, c, rfl⟩ := okWide_slice ht hval
  obtain ⟨fuel, hf⟩ := hd
  rcases open_slice ht (x := (d, ps)) (by simpa [Value.cells] using hf) with ⟨hcs, _⟩ | ⟨a, len, cap, m, q, D, Pl, hcs, _, hl, hm, hmm, _, hi⟩
  · simp at hcs
    obtain ⟨rfl, rfl, rfl⟩ := hcs
    exact ⟨none, 0, 0, [], rfl, rfl, Nat.le_refl _, by simp [maxLen], .inl rfl⟩
  · simp at hcs
    obtain ⟨rfl, rfl, rfl⟩ := hcs
    have hnm : n ≤ m := by rw [hmm]; split <;> omega
    have hex : ∀ i, i < n → ∃ s : Int × Int, w.cell? (a.add (i * 2)) = some (.int .i64 s.1) ∧ w.cell? (a.add (i * 2 + 1)) = some (.int .i64 s.2) := by
      intro i hin
      obtain ⟨cs', hc, ht'⟩ := hi i (by omega)
      rw [hC] at hc
      obtain ⟨ys, n', _, _, hlen, hyl, hfl⟩ := DataW.trod_struct hs ht'
      obtain ⟨_, hcl, hat⟩ := World.cells?_some hc
      obtain ⟨o0, k0⟩ := hone_of hone 0 f0 rfl
      obtain ⟨o1, k1⟩ := hone_of hone 1 f1 rfl
      match cs', hcl, hat, hfl with
      | [c0, c1], _, hat, hfl =>
        have g0 := hfl 0 f0 rfl
        have g1 := hfl 1 f1 rfl
        rw [o0, k0] at g0
        rw [o1, k1] at g1
        have hy0 : ys[0]? = some (ys[0]'(by rw [hyl]; exact Nat.zero_lt_two)) := List.getElem?_eq_getElem _
        have hy1 : ys[1]? = some (ys[1]'(by rw [hyl]; exact Nat.one_lt_two)) := List.getElem?_eq_getElem _
        rw [hy0] at g0
        rw [hy1] at g1
        obtain ⟨x0, e0, _⟩ := DataW.trod_int h0 g0
        obtain ⟨x1, e1, _⟩ := DataW.trod_int h1 g1
        simp at e0 e1
        have a0 := hat 0 (by decide)
        have a1 := hat 1 (by decide)
        rw [add_add] at a0 a1
        exact ⟨(x0, x1), by simpa [e0] using a0, by simpa [e1] using a1⟩
    obtain ⟨F, hF⟩ := choose_lt hex
    refine ⟨some a, n, c, (List.range n).map F, rfl, by simp, hl, hm, ?_⟩
    by_cases h0' : n = 0
    · subst h0'; exact .inl (by simp [sc])
    · obtain ⟨b, o, spot⟩ := a
      have g0 := (hF 0 (by omega)).1
      have hspot : spot = none := by simpa [Addr.add] using World.cell?_spot g0
      subst hspot
      have hb : b < w.heap.size := by simpa [Addr.add] using block_lt_of_cell g0
      refine .inr ⟨b, o, rfl, hb, fun j hj => ?_⟩
      have hlen := sc_len ((List.range n).map F)
      have hjn : j / 2 < n := by simp at hlen; omega
      obtain ⟨s0, s1⟩ := sc_get ((List.range n).map F) (j / 2) (by simpa using hjn)
      have := hF (j / 2) hjn
      rw [add_plain, add_plain] at this
      rw [← List.getElem?_eq_getElem hj]
      rcases Nat.mod_two_eq_zero_or_one j with e | e
      · have ej : j / 2 * 2 = j := by omega
        rw [ej] at s0 this
        rw [this.1, s0]; simp
      · have ej : j / 2 * 2 + 1 = j := by omega
        rw [ej] at s1 this
        rw [this.2, s1]; simp
theorem op_ints {r : Reach} {b0 : Nat} {t e : TypeId} {k : IntKind} {v : Value} {d : DataW H} {ps : List MemPlace} (ht : P.underlying t = some (.slice e)) (he : P.underlying e = some (.int k)) (hc : P.cellsOf e = 1)
    (hval : Value.okWide P w r b0 t v) (hd : DataW.Trod enc P w 0 spare held t v d ps) :
    ∃ (A : Option Addr) (n c : Nat) (z : List Int), v = .slice A n c ∧ z.length = n ∧ n ≤ c ∧ c ≤ maxLen ∧ (∀ x ∈ z, (Lit.int k x).wf = true) ∧ Rd w w.heap.size A (z.map (Value.int k)) := by
  obtain ⟨A, n, c, rfl⟩ := okWide_slice ht hval
  obtain ⟨fuel, hf⟩ := hd
  obtain ⟨z, h1, h2, h3, h4, h5⟩ := open_rd1 ht he hc (x := (d, ps)) (by simpa [Value.cells] using hf)
  exact ⟨A, n, c, z, rfl, h1, h2, h3, h4, h5⟩
end
end Go.Proofs.YtcdoopccmljaoaaDoor
