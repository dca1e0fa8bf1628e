/- The laws' helpers over piles: copied, compared, marked, held, sized. No conditions but bounds on lengths. -/
import Derived.Test.YtpiiefmfiipabaaDoorPile
namespace Go.Proofs.YtpiiefmfiipabaaDoor
open Go.ChangeShapes Go.WideShapes Go.ChangeAt Go.RowKit Go.Deep

/-- A pile that reads. -/
def RdP (w : World) (B : Nat) (A A' : Option Addr) (p : PL) : Prop := Rd w B A (ic p.1) ∧ Rd w B A' (ic p.2)
theorem RdP.up {w w' : World} {A A' : Option Addr} {p : PL} (h : RdP w w.heap.size A A' p) (hb : Below w.heap.size w w') : RdP w' w'.heap.size A A' p := ⟨h.1.up hb, h.2.up hb⟩
theorem RdP.below {w w' : World} {B : Nat} {A A' : Option Addr} {p : PL} (h : RdP w B A A' p) (hb : Below B w w') : RdP w' B A A' p := ⟨h.1.below hb, h.2.below hb⟩
theorem RdP.mono {w : World} {B B' : Nat} {A A' : Option Addr} {p : PL} (h : RdP w B A A' p) (hB : B ≤ B') : RdP w B' A A' p := ⟨h.1.mono hB, h.2.mono hB⟩
theorem OwnP.rd {w : World} {B : Nat} {A A' : Option Addr} {p : PL} (h : OwnP w B A A' p) : RdP w w.heap.size A A' p := ⟨h.1.rd, h.2.1.rd⟩
theorem OwnP.below {w w' : World} {B : Nat} {A A' : Option Addr} {p : PL} (h : OwnP w B A A' p) (hb : Below w.heap.size w w') : OwnP w' B A A' p := ⟨h.1.below hb, h.2.1.below hb, h.2.2⟩
theorem bel_two (w : World) (o o' : Obj) : Below w.heap.size w ((w.alloc o).alloc o') := by go_grown
theorem bel_one (w : World) (o : Obj) : Below w.heap.size w (w.alloc o) := by go_grown
def small (p : PL) : Prop := p.1.length ≤ 1099511627776 ∧ p.2.length ≤ 1099511627776

theorem ownB_len {A : Option Addr} {xs ys : List Value} (h : xs.length = ys.length) : ownB A xs = ownB A ys := by
  cases xs with
  | nil => cases ys with
    | nil => rfl
    | cons => simp at h
  | cons => cases ys with
    | nil => simp at h
    | cons => rfl
theorem Own.keep {w w' : World} {B : Nat} {T : TypeId} {A : Option Addr} {xs : List Value} {row : Option Nat} (h : Own w B T A xs) (hb : w.grownBy w' row) (hg : ∀ g, ownB A xs = some g → row ≠ some g) : Own w' B T A xs := by
  by_cases hx : xs = []
  · exact .inl hx
  · refine h.kept hb fun g o s e => ?_
    have := hg g (by rw [ownB_cons _ hx, e]; rfl)
    exact fun e => this e.symm
theorem OwnP.keep {w w' : World} {B : Nat} {A A' : Option Addr} {p : PL} {row : Option Nat} (h : OwnP w B A A' p) (hb : w.grownBy w' row) (hg : ∀ g, B ≤ g → row ≠ some g) : OwnP w' B A A' p := by
  have key : ∀ {A : Option Addr} {z : List Int}, Own w B 3 A (ic z) → ∀ g, ownB A (ic z) = some g → row ≠ some g := by
    intro A z h g e
    obtain ⟨hx, a, rfl, ha⟩ := ownB_some e
    obtain ⟨g', e', hB, _⟩ := h.row hx
    cases e'
    cases ha
    exact hg _ hB
  exact ⟨h.1.keep hb (key h.1), h.2.1.keep hb (key h.2.1), h.2.2⟩
/-- Two rows turned, one after the other. -/
def Turned (w w' : World) (a b : Option Nat) : Prop := ∃ wm, w.grownBy wm a ∧ wm.grownBy w' b
theorem OwnP.lt {w : World} {B : Nat} {A A' : Option Addr} {p : PL} (h : OwnP w B A A' p) : ∀ g, (ownB A (ic p.1) = some g ∨ ownB A' (ic p.2) = some g) → B ≤ g ∧ g < w.heap.size := by
  have key : ∀ {A : Option Addr} {z : List Int}, Own w B 3 A (ic z) → ∀ g, ownB A (ic z) = some g → B ≤ g ∧ g < w.heap.size := by
    intro A z h g e
    obtain ⟨hx, a, rfl, ha⟩ := ownB_some e
    obtain ⟨g', e', hB, hr⟩ := h.row hx
    cases e'
    cases ha
    exact ⟨hB, hr.lt⟩
  intro g hg
  rcases hg with hg | hg
  · exact key h.1 g hg
  · exact key h.2.1 g hg
theorem Turned.below {w w' : World} {B : Nat} {A A' : Option Addr} {p : PL} (t : Turned w w' (ownB A (ic p.1)) (ownB A' (ic p.2))) (h : ∀ g, (ownB A (ic p.1) = some g ∨ ownB A' (ic p.2) = some g) → B ≤ g) (hB : B ≤ w.heap.size) : Below B w w' := by
  obtain ⟨wm, g1, g2⟩ := t
  exact ((Below.refl B w).grown g1 hB fun k hk => h k (.inl hk)).grown g2 (by have := g1.size; omega) fun k hk => h k (.inr hk)
theorem Row.turned {w w' : World} {g : Nat} {T : TypeId} {xs : List Value} {a b : Option Nat} (h : Row w g T xs) (t : Turned w w' a b) (ha : a ≠ some g) (hb : b ≠ some g) : Row w' g T xs := by
  obtain ⟨wm, g1, g2⟩ := t
  exact (h.kept g1 fun e => ha e.symm).kept g2 fun e => hb e.symm
theorem OwnP.turned {w w' : World} {B : Nat} {A A' : Option Addr} {p : PL} {a b : Option Nat} (h : OwnP w B A A' p) (t : Turned w w' a b) (ha : ∀ g, B ≤ g → a ≠ some g) (hb : ∀ g, B ≤ g → b ≠ some g) : OwnP w' B A A' p := by
  obtain ⟨wm, g1, g2⟩ := t
  exact (h.keep g1 ha).keep g2 hb
theorem Row.boxed {w : World} {g : Nat} {T : TypeId} {u v : Value} (h : Row w g T [u, v]) : w.cell? ⟨g, 0, none⟩ = some u ∧ w.cell? ⟨g, 1, none⟩ = some v := ⟨h.cell (j := 0) (by simp), h.cell (j := 1) (by simp)⟩
def markP (k : Int) (p : PL) : PL := (marks k p.1.length, marks (k + (p.1.length : Int)) p.2.length)
theorem bel_grown {w w' : World} {row : Option Nat} (h : Below w.heap.size w w') : w.grownBy w' row := ⟨h.os, h.tape, h.output, h.size, fun i hi _ => h.block i hi⟩
end Go.Proofs.YtpiiefmfiipabaaDoor
