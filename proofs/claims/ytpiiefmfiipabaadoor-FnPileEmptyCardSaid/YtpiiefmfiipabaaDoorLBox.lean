/- Results laid into boxes, in a class of worlds. No conditions. -/
import Derived.Test.YtpiiefmfiipabaaDoorLawKit
namespace Go.Proofs.YtpiiefmfiipabaaDoor
open Go.ChangeShapes Go.WideShapes Go.ChangeAt Go.RowKit Go.Deep
theorem box_in {w0 : World} (y : Ext w0) (T : TypeId) (cs : Array Value) (W : World) (h : y.val.alloc (.cells cs T) = W) :
    Below w0.heap.size w0 W ∧ Below y.val.heap.size y.val W ∧ Row W y.val.heap.size T cs.toList ∧ W.heap.size = y.val.heap.size + 1 ∧ w0.heap.size ≤ y.val.heap.size := by
  subst h
  exact ⟨y.below.alloc y.below.size _, bel_one _ _, Row.new _ _ _, by simp, y.below.size⟩
end Go.Proofs.YtpiiefmfiipabaaDoor
