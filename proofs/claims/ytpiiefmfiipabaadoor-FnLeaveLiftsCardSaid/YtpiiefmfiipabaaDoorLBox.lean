/- Results laid into boxes, in a class of worlds. No conditions. -/
import Derived.Test.YtpiiefmfiipabaaDoorLawKit
namespace Go.Proofs.YtpiiefmfiipabaaDoor
open Go.ChangeShapes Go.WideShapes Go.ChangeAt Go.RowKit Go.Deep
theorem box_in {w0 : World} (y : Ext w0) (T : TypeId) (cs : Array Value) (W : World) (h : y.val.alloc (.cells cs T) = W) :
    Below w0.heap.size w0 W ∧ Below y.val.heap.size y.val W ∧ Row W y.val.heap.size T cs.toList ∧ W.heap.size = y.val.heap.size + 1 ∧ w0.heap.size ≤ y.val.heap.size := by
  subst h
  exact ⟨y.below.alloc y.below.size _, bel_one _ _, Row.new _ _ _, by simp, y.below.size⟩
/-- A spot and a value, laid into a new box and a slot, whatever came first. -/
def SpotBox (w0 : World) (t : Bool) (k : Int) (u : Value) (v o : Value) (wx : World) : Prop :=
  o = u ∧ ∃ (g : Nat) (xW : Ext w0), v = .pointer (some ⟨g, 0, none⟩) ∧ wx = xW.val ∧ w0.heap.size ≤ g ∧ Row xW.val g 31 [.bool t, .int .i64 k]
theorem spotBox_new {w0 : World} {t : Bool} {k : Int} {u : Value} {x4 : Ext w0} : SpotBox w0 t k u (.pointer (some ⟨x4.val.heap.size, 0, none⟩)) u (x4.val.alloc (.cells #[.bool t, .int .i64 k] 31)) :=
  ⟨rfl, _, ⟨_, x4.below.alloc x4.below.size _⟩, rfl, rfl, x4.below.size, Row.new _ _ _⟩
theorem spotBox_old {w0 : World} {t : Bool} {k : Int} {u a b : Value} {x4 : Ext w0} {g : Nat} (q : Row x4.val g 31 [a, b]) (hg : w0.heap.size ≤ g) :
    SpotBox w0 t k u (.pointer (some ⟨g, 0, none⟩)) u ((x4.val.setCell ⟨g, 0, none⟩ (.bool t)).setCell ⟨g, 1, none⟩ (.int .i64 k)) := by
  refine ⟨rfl, g, ⟨_, (x4.below.setCell (p := ⟨g, 0, none⟩) hg (.bool t)).setCell (p := ⟨g, 1, none⟩) hg (.int .i64 k)⟩, rfl, rfl, hg, ?_⟩
  have := (q.set 0 (.bool t)).set 1 (.int .i64 k)
  simpa using this
end Go.Proofs.YtpiiefmfiipabaaDoor
