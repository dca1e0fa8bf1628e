/- A region that draws its order and holds calls that make memory: walked once, in the class of the worlds that have grown from the one at its beginning. No conditions. -/
import Derived.Test.YtcdoopccmljaoaaDoorLib
import Derived.Deep.QuietTactic
import Derived.BigQuiet
namespace Go.Proofs.YtcdoopccmljaoaaDoor
open Go.ChangeShapes Go.WideShapes Go.ChangeAt Go.RowKit Go.Deep

/-- A world that has grown from w. -/
structure Ext (w : World) : Type where
  val : World
  below : Below w.heap.size w val

instance (w : World) : Nonempty (Ext w) := ⟨⟨w, Below.refl _ _⟩⟩

theorem wp_region_ext {P : Program} {id : Nat} {Q : Exit → Act → World → Prop} {a : Act} {w : World} {l : List Oper} (hm : P.follows .mixedOrders = true) (hB : Region.lexB .any l.toArray = true)
    (h : wpQuiet P l.toArray (fun w' => ∃ x : Ext w, w' = x.val) (fun a' => ∀ w', (∃ x : Ext w, w' = x.val) → Q .normal a' w') l a) : (Code.region id l.toArray true).wp P Q a w :=
  wp_region_quiet (C := fun w' => ∃ x : Ext w, w' = x.val) hm hB ⟨⟨w.drew, (Below.refl _ _).drew⟩, rfl⟩ (by simpa using h)

theorem ext_of {P : Program} {f : FuncId} {args : Array Value} {w : World} {x : Ext w} {v u : Value} (hv : u = v) (h : Calls P f args x.val fun e w' => e = .returned u ∧ Below x.val.heap.size x.val w') :
    Calls P f args x.val fun e w'' => e = .returned v ∧ ∃ y : Ext w, w'' = y.val :=
  h.mono fun _ w' ⟨he, hb⟩ => ⟨by rw [he, hv], ⟨w', via x.below hb x.below.size⟩, rfl⟩
theorem ext_same {P : Program} {f : FuncId} {args : Array Value} {w : World} {x : Ext w} {v u : Value} (hv : u = v) (h : Calls P f args x.val fun e w' => e = .returned u ∧ x.val = w') :
    Calls P f args x.val fun e w'' => e = .returned v ∧ ∃ y : Ext w, w'' = y.val :=
  h.mono fun _ w' ⟨he, hb⟩ => ⟨by rw [he, hv], x, hb.symm⟩
/-- An old cell, in every such world. -/
theorem Ext.cell {w : World} {p : Addr} {v : Value} (hp : p.block < w.heap.size) (h : w.cell? p = some v) : ∀ x : Ext w, x.val.cell? p = some v := fun x => (x.below.cell hp).trans h
theorem Ext.old {w : World} {b o : Nat} {v : Value} (h : w.cell? ⟨b, o, none⟩ = some v) : ∀ x : Ext w, x.val.cell? ⟨b, o, none⟩ = some v := Ext.cell (p := ⟨b, o, none⟩) (block_lt_of_cell h) h
/-! ### One class of worlds for a whole walk -/
def Ext.base (w : World) : Ext w := ⟨w, Below.refl _ _⟩
theorem ext_self (w : World) : ∃ x : Ext w, x.val = w := ⟨Ext.base w, rfl⟩
theorem ext_next {w w1 : World} {x : Ext w} (b : Below x.val.heap.size x.val w1) : ∃ y : Ext w, w1 = y.val := ⟨⟨w1, via x.below b x.below.size⟩, rfl⟩
theorem ext_to {w w1 : World} {x : Ext w} (b : Below x.val.heap.size x.val w1) : ∃ y : Ext w, y.val = w1 := ⟨⟨w1, via x.below b x.below.size⟩, rfl⟩
/-- A later class within an elder one. -/
def Ext.lift {w : World} (x : Ext w) (y : Ext x.val) : Ext w := ⟨y.val, via x.below y.below x.below.size⟩
theorem Ext.mark {w : World} {b o : Nat} {v : Bool} (hp : b < w.heap.size) (h : w.frozen? ⟨b, o, none⟩ = v) : ∀ x : Ext w, x.val.frozen? ⟨b, o, none⟩ = v := fun x => (x.below.frozen (p := ⟨b, o, none⟩) hp).trans h
theorem Ext.size {w : World} {g : Nat} (h : g < w.heap.size) : ∀ x : Ext w, g < x.val.heap.size := fun x => Nat.lt_of_lt_of_le h x.below.size
/-- A region at a later world of the class. -/
theorem wp_region_in {P : Program} {id : Nat} {Q : Exit → Act → World → Prop} {a : Act} {w : World} {x : Ext w} {l : List Oper} (hm : P.follows .mixedOrders = true) (hB : Region.lexB .any l.toArray = true)
    (h : wpQuiet P l.toArray (fun w' => ∃ y : Ext w, w' = y.val) (fun a' => ∀ w', (∃ y : Ext w, w' = y.val) → Q .normal a' w') l a) : (Code.region id l.toArray true).wp P Q a x.val :=
  wp_region_quiet (C := fun w' => ∃ y : Ext w, w' = y.val) hm hB ⟨⟨x.val.drew, via x.below (Below.refl _ _).drew x.below.size⟩, rfl⟩ (by simpa using h)
/-- Two boxes of two cells each. -/
theorem box_two (w : World) (T T' : TypeId) (a b c d : Value) (W : World) (h : (w.alloc (.cells #[a, b] T)).alloc (.cells #[c, d] T') = W) :
    Below w.heap.size w W ∧ W.cell? ⟨w.heap.size, 0, none⟩ = some a ∧ W.cell? ⟨w.heap.size, 1, none⟩ = some b ∧ W.cell? ⟨w.heap.size + 1, 0, none⟩ = some c ∧ W.cell? ⟨w.heap.size + 1, 1, none⟩ = some d ∧ W.heap.size = w.heap.size + 1 + 1 := by
  subst h
  refine ⟨by go_grown, ?_, ?_, ?_, ?_, ?_⟩ <;> simp [go_sem]
theorem box_one (w : World) (T : TypeId) (a b : Value) (W : World) (h : w.alloc (.cells #[a, b] T) = W) :
    Below w.heap.size w W ∧ W.cell? ⟨w.heap.size, 0, none⟩ = some a ∧ W.cell? ⟨w.heap.size, 1, none⟩ = some b ∧ W.heap.size = w.heap.size + 1 := by
  subst h
  refine ⟨by go_grown, ?_, ?_, ?_⟩ <;> simp [go_sem]
end Go.Proofs.YtcdoopccmljaoaaDoor
