/- A region that draws its order and holds calls that make memory: walked once, in the class of the worlds that have grown from the one at its beginning. No conditions. -/
import Derived.Test.YtgohnbhnckgcnaaLib
import Derived.Deep.QuietTactic
import Derived.BigQuiet
namespace Go.Proofs.Ytgohnbhnckgcnaa
open Go.ChangeShapes Go.WideShapes Go.ChangeAt Go.RowKit Go.Deep

/-- A world that has grown from w. -/
structure Ext (w : World) : Type where
  val : World
  below : Below w.heap.size w val

instance (w : World) : Nonempty (Ext w) := ⟨⟨w, Below.refl _ _⟩⟩

theorem wp_region_ext {P : Program} {id : Nat} {Q : Exit → Act → World → Prop} {a : Act} {w : World} {l : List Oper} (hm : P.follows .mixedOrders = true) (hB : Region.lexB .any l.toArray = true)
    (h : wpQuiet P l.toArray (fun w' => ∃ x : Ext w, w' = x.val) (fun a' => ∀ w', (∃ x : Ext w, w' = x.val) → Q .normal a' w') l a) : (Code.region id l.toArray true).wp P Q a w :=
  wp_region_quiet (C := fun w' => ∃ x : Ext w, w' = x.val) hm hB ⟨⟨w.drew, (Below.refl _ _).drew⟩, rfl⟩ (by simpa using h)

theorem ext_of {P : Program} {f : FuncId} {args : Array Value} {w : World} {x : Ext w} {v u : Value} (hv : u = v) (h : Calls P f args x.val fun e w' => e = .returned u ∧ Below x.val.heap.size x.val w') :
    Calls P f args x.val fun e w'' => e = .returned v ∧ ∃ y : Ext w, w'' = y.val :=
  h.mono fun _ w' ⟨he, hb⟩ => ⟨by rw [he, hv], ⟨w', via x.below hb x.below.size⟩, rfl⟩
theorem ext_same {P : Program} {f : FuncId} {args : Array Value} {w : World} {x : Ext w} {v u : Value} (hv : u = v) (h : Calls P f args x.val fun e w' => e = .returned u ∧ x.val = w') :
    Calls P f args x.val fun e w'' => e = .returned v ∧ ∃ y : Ext w, w'' = y.val :=
  h.mono fun _ w' ⟨he, hb⟩ => ⟨by rw [he, hv], x, hb.symm⟩
/-- An old cell, in every such world. -/
theorem Ext.cell {w : World} {p : Addr} {v : Value} (hp : p.block < w.heap.size) (h : w.cell? p = some v) : ∀ x : Ext w, x.val.cell? p = some v := fun x => (x.below.cell hp).trans h
theorem Ext.old {w : World} {b o : Nat} {v : Value} (h : w.cell? ⟨b, o, none⟩ = some v) : ∀ x : Ext w, x.val.cell? ⟨b, o, none⟩ = some v := Ext.cell (p := ⟨b, o, none⟩) (block_lt_of_cell h) h
end Go.Proofs.Ytgohnbhnckgcnaa
