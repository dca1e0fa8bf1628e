/- Boxes of two and four cells in a class of worlds. No conditions. -/
import Derived.Test.YtpiiefmfiipabaaDoorPileLaw
namespace Go.Proofs.YtpiiefmfiipabaaDoor
open Go.ChangeShapes Go.WideShapes Go.ChangeAt Go.RowKit Go.Deep
theorem Row.ext2 {w : World} {g : Nat} {T : TypeId} {u v : Value} (q : Row w g T [u, v]) :
    (∀ x : Ext w, x.val.cell? ⟨g, 0, none⟩ = some u) ∧ (∀ x : Ext w, x.val.cell? ⟨g, 1, none⟩ = some v) ∧ (∀ x : Ext w, x.val.frozen? ⟨g, 0, none⟩ = false) ∧ (∀ x : Ext w, x.val.frozen? ⟨g, 1, none⟩ = false) :=
  ⟨fun x => (q.after x.below).boxed.1, fun x => (q.after x.below).boxed.2, fun x => (q.after x.below).frozen 0, fun x => (q.after x.below).frozen 1⟩
theorem box_three (w : World) (T T' T'' : TypeId) (a b c d e f : Value) (W : World) (h : ((w.alloc (.cells #[a, b] T)).alloc (.cells #[c, d] T')).alloc (.cells #[e, f] T'') = W) :
    Below w.heap.size w W ∧ Row W w.heap.size T [a, b] ∧ Row W (w.heap.size + 1) T' [c, d] ∧ Row W (w.heap.size + 1 + 1) T'' [e, f] ∧ W.heap.size = w.heap.size + 1 + 1 + 1 := by
  subst h
  exact ⟨by go_grown, ((Row.new _ _ _).alloc _).alloc _, ((Row.new _ _ _).eq (by simp)).alloc _, (Row.new _ _ _).eq (by simp), by simp⟩
theorem box_lift (w : World) (T T' T'' : TypeId) (a b e f : Value) (c d c' d' : Value) (W : World) (h : ((w.alloc (.cells #[a, b] T)).alloc (.cells #[c, d, c', d'] T')).alloc (.cells #[e, f] T'') = W) :
    Below w.heap.size w W ∧ Row W w.heap.size T [a, b] ∧ Row W (w.heap.size + 1) T' [c, d, c', d'] ∧ Row W (w.heap.size + 1 + 1) T'' [e, f] ∧ W.heap.size = w.heap.size + 1 + 1 + 1 := by
  subst h
  exact ⟨by go_grown, ((Row.new _ _ _).alloc _).alloc _, ((Row.new _ _ _).eq (by simp)).alloc _, (Row.new _ _ _).eq (by simp), by simp⟩
theorem Row.ext4 {w : World} {g : Nat} {T : TypeId} {u v u' v' : Value} (q : Row w g T [u, v, u', v']) :
    (∀ x : Ext w, x.val.cell? ⟨g, 0, none⟩ = some u) ∧ (∀ x : Ext w, x.val.cell? ⟨g, 1, none⟩ = some v) ∧ (∀ x : Ext w, x.val.cell? ⟨g, 2, none⟩ = some u') ∧ (∀ x : Ext w, x.val.cell? ⟨g, 3, none⟩ = some v') :=
  ⟨fun x => (q.after x.below).cell (j := 0) (by simp), fun x => (q.after x.below).cell (j := 1) (by simp), fun x => (q.after x.below).cell (j := 2) (by simp), fun x => (q.after x.below).cell (j := 3) (by simp)⟩
theorem Row.four {w : World} {g : Nat} {T : TypeId} {u v u' v' : Value} (q : Row w g T [u, v, u', v']) : w.cell? ⟨g, 0, none⟩ = some u ∧ w.cell? ⟨g, 1, none⟩ = some v ∧ w.cell? ⟨g, 2, none⟩ = some u' ∧ w.cell? ⟨g, 3, none⟩ = some v' :=
  ⟨q.cell (j := 0) (by simp), q.cell (j := 1) (by simp), q.cell (j := 2) (by simp), q.cell (j := 3) (by simp)⟩
theorem Row.size {w : World} {g : Nat} {T : TypeId} {xs : List Value} (q : Row w g T xs) : ∀ x : Ext w, g < x.val.heap.size := Ext.size q.lt
end Go.Proofs.YtpiiefmfiipabaaDoor
