/- What is drawn from a code: speeds, sheets, jumps. No conditions but bounds on how often the reader was asked. -/
import Derived.Test.YtpiiefmfiipabaaDoorDraw1
namespace Go.Proofs.YtpiiefmfiipabaaDoor
open Go.ChangeShapes Go.WideShapes Go.ChangeAt Go.RowKit Go.Deep
theorem mul_bd2 {x y a b : Int} (h0 : 0 ≤ x) (h1 : x ≤ a) (h2 : 0 ≤ y) (h3 : y ≤ b) : 0 ≤ x * y ∧ x * y ≤ a * b :=
  ⟨Int.mul_nonneg h0 h2, Int.mul_le_mul h1 h3 h2 (by omega)⟩
theorem grown_of {w w' : World} (h : Below w.heap.size w w') (row : Option Nat) : w.grownBy w' row := ⟨h.os, h.tape, h.output, h.size, fun i hi _ => h.block i hi⟩
theorem grown_store {w W : World} {row : Option Nat} (h : w.grownBy W row) {p : Addr} (hp : w.heap.size ≤ p.block) (u : Value) : w.grownBy (W.setCell p u) row := by
  refine ⟨h.os, h.tape, h.output, ?_, fun i hi hne => ?_⟩
  · have := (grown_set W p u).size; have := h.size; omega
  · rw [heap_setCell_other W p i u (by omega)]; exact h.block i hi hne
theorem Rdr.kept {w w' : World} {g k : Nat} {row : Option Nat} (h : Rdr w g k) (hb : w.grownBy w' row) (hne : ∀ b, row = some b → g < b) : Rdr w' g k := by
  have hlt := h.lt
  obtain ⟨A, c, bs, j, h1, h2, h3, h4, q⟩ := h
  refine ⟨A, c, bs, j, h1, h2, h3, h4.below (B := g) ?_, q.kept hb fun e => by have := hne g e.symm; omega⟩
  exact (Below.refl g w).grown hb (by omega) fun b hk => by have := hne b hk; omega
theorem grown_own {w W W' : World} {row row' : Option Nat} (h : w.grownBy W row) (h' : W.grownBy W' row') (hne : ∀ b, row' = some b → w.heap.size ≤ b) : w.grownBy W' row :=
  ⟨h'.os.trans h.os, h'.tape.trans h.tape, h'.output.trans h.output, Nat.le_trans h.size h'.size, fun i hi hn => (h'.block i (Nat.lt_of_lt_of_le hi h.size) (fun e => by have := hne i e.symm; omega)).trans (h.block i hi hn)⟩
theorem grown_drewS {w W : World} {row : Option Nat} (h : w.grownBy W row) : w.grownBy W.drew row := ⟨h.os, h.tape, h.output, h.size, h.block⟩
theorem grown_allocS {w W : World} {row : Option Nat} (h : w.grownBy W row) (o : Obj) : w.grownBy (W.alloc o) row := grown_own h (grown_of (show Below W.heap.size W (W.alloc o) by go_grown) none) fun b hb => by cases hb
theorem Rd.kept {w w' : World} {B : Nat} {A : Option Addr} {xs : List Value} {row : Option Nat} (h : Rd w B A xs) (hB : B ≤ w.heap.size) (hb : w.grownBy w' row) (hne : ∀ b o s, A = some ⟨b, o, s⟩ → some b ≠ row) : Rd w' B A xs := by
  rcases h with h | ⟨b, o, rfl, hlt, hc⟩
  · exact .inl h
  · refine .inr ⟨b, o, rfl, hlt, fun j hj => ?_⟩
    rw [← hc j hj]
    simp only [World.cell?, hb.block b (by omega) (hne _ _ _ rfl)]
/-- An old cell of another block than the reader's, in every later world. -/
theorem cell_kept {w w' : World} {b o g : Nat} {v : Value} (hc : w.cell? ⟨b, o, none⟩ = some v) (hb : b ≠ g) (hg : w.grownBy w' (some g)) : w'.cell? ⟨b, o, none⟩ = some v := by
  rw [← hc]
  simp only [World.cell?, hg.block b (block_lt_of_cell hc) (by simpa using hb)]
/-- One of two numbers. -/
def oneOf (a b x : Int) : Int := if x = 0 then a else b
theorem two_new (w : World) (T : TypeId) (a b x : Int) (h0 : 0 ≤ x) (h1 : x < 2) : (w.alloc (.cells #[.int .i64 a, .int .i64 b] T)).cell? ⟨w.heap.size, x.toNat, none⟩ = some (.int .i64 (oneOf a b x)) := by
  obtain rfl | rfl : x = 0 ∨ x = 1 := by omega
  · exact (Row.new w T #[.int .i64 a, .int .i64 b]).cell (j := 0) (by simp)
  · exact (Row.new w T #[.int .i64 a, .int .i64 b]).cell (j := 1) (by simp)
theorem two_old {w w' : World} {T : TypeId} {g : Nat} {a b : Int} (x : Int) (h0 : 0 ≤ x) (h1 : x < 2) (hg : w.heap.size ≠ g) (hG : (w.alloc (.cells #[.int .i64 a, .int .i64 b] T)).drew.grownBy w' (some g)) : w'.cell? ⟨w.heap.size, x.toNat, none⟩ = some (.int .i64 (oneOf a b x)) :=
  cell_kept (w := (w.alloc (.cells #[.int .i64 a, .int .i64 b] T)).drew) (two_new w T a b x h0 h1) hg hG
theorem two_cells {w : World} {g : Nat} {T : TypeId} {u v : Value} (q : Row w g T [u, v]) : w.cell? ⟨g, 0, none⟩ = some u ∧ w.cell? ⟨g, 1, none⟩ = some v ∧ w.frozen? ⟨g, 0, none⟩ = false ∧ w.frozen? ⟨g, 1, none⟩ = false :=
  ⟨q.cell (j := 0) (by simp), q.cell (j := 1) (by simp), q.frozen 0, q.frozen 1⟩
theorem two_set {w : World} {g : Nat} {T : TypeId} {u v : Value} (q : Row w g T [u, v]) (a b : Value) : Row ((w.setCell ⟨g, 0, none⟩ a).setCell ⟨g, 1, none⟩ b) g T [a, b] := by
  simpa using (q.set 0 a).set 1 b
theorem grown_two {w W : World} {row : Option Nat} (h : w.grownBy W row) {g : Nat} (hg : w.heap.size ≤ g) (a b : Value) : w.grownBy ((W.setCell ⟨g, 0, none⟩ a).setCell ⟨g, 1, none⟩ b) row := grown_store (grown_store h hg _) hg _
theorem Rdr.two {w : World} {g k r : Nat} (h : Rdr w g k) (hr : g < r) (a b : Value) : Rdr ((w.setCell ⟨r, 0, none⟩ a).setCell ⟨r, 1, none⟩ b) g k := (h.far (p := ⟨r, 0, none⟩) hr a).far (p := ⟨r, 1, none⟩) hr b
end Go.Proofs.YtpiiefmfiipabaaDoor
