/- Words for the laws whose result is a pile: it is read, marked and held. No conditions but bounds on lengths. -/
import Derived.Test.YtpiiefmfiipabaaDoorLawKit
import Derived.Test.YtpiiefmfiipabaaDoorCoilPut
namespace Go.Proofs.YtpiiefmfiipabaaDoor
open Go.ChangeShapes Go.WideShapes Go.ChangeAt Go.RowKit Go.Deep
/-- A pile of a few places. -/
def tiny (p : PL) : Prop := p.1.length ≤ 6 ∧ p.2.length ≤ 6
theorem tiny_vd {p : PL} (V : Vd p) : tiny p := ⟨V.l6, by have := V.l6; have := V.up; omega⟩
theorem tiny_none : tiny ([], []) := ⟨by simp, by simp⟩
theorem tiny.small {p : PL} (h : tiny p) : small p := ⟨by have := h.1; omega, by have := h.2; omega⟩
theorem tiny_put (p : PL) (t : Bool) (k id : Int) : tiny (coilPut p t k id).1 := by
  by_cases hv : pileValid p = true
  · exact tiny_vd (put_vd ((vd_iff p).1 hv) t k id)
  · unfold coilPut; rw [if_neg hv]; exact tiny_none
theorem tiny_take (p : PL) (t : Bool) (k : Int) : tiny (coilTake p t k).1 := by
  by_cases hv : pileValid p = true
  · exact tiny_vd (take_vd ((vd_iff p).1 hv) t k)
  · unfold coilTake; rw [if_neg hv]; exact tiny_none
theorem tiny_lift (p : PL) (l : LF) : tiny (coilLift p l).1 := by
  by_cases hv : pileValid p = true
  · exact tiny_vd (lift_vd ((vd_iff p).1 hv) l)
  · unfold coilLift; rw [if_neg hv]; exact tiny_none
theorem tiny_run (p : PL) (ls : List LF) : tiny (liftRun p ls).1 := by
  unfold liftRun
  split
  · rename_i h
    simp only [Bool.and_eq_true] at h
    exact tiny_vd (liftN_vd ((vd_iff p).1 h.1) ls)
  · exact tiny_none
theorem ext_any {w0 W w1 : World} (h : Below w0.heap.size w0 W) (b : Below W.heap.size W w1) (hz : w0.heap.size ≤ W.heap.size) : ∃ y : Ext w0, w1 = y.val := ⟨⟨w1, via h b hz⟩, rfl⟩
theorem box_lift2 (w : World) (T T' : TypeId) (a b c d c' d' : Value) (W : World) (h : (w.alloc (.cells #[a, b] T)).alloc (.cells #[c, d, c', d'] T') = W) :
    Below w.heap.size w W ∧ W.cell? ⟨w.heap.size, 0, none⟩ = some a ∧ W.cell? ⟨w.heap.size, 1, none⟩ = some b ∧ W.cell? ⟨w.heap.size + 1, 0, none⟩ = some c ∧ W.cell? ⟨w.heap.size + 1, 1, none⟩ = some d ∧ W.cell? ⟨w.heap.size + 1, 2, none⟩ = some c' ∧ W.cell? ⟨w.heap.size + 1, 3, none⟩ = some d' ∧ W.heap.size = w.heap.size + 1 + 1 := by
  subst h
  refine ⟨by go_grown, ?_, ?_, ?_, ?_, ?_, ?_, ?_⟩ <;> simp [go_sem]
/-- A result: a pile of the call's own, laid into a box of the call's own, and a value beside it. -/
def BoxOf (w0 : World) (r : PL) (u : Value) (v o : Value) (wx : World) : Prop :=
  o = u ∧ ∃ (g : Nat) (xW : Ext w0) (X : Option Addr) (c : Nat) (X' : Option Addr) (c' : Nat), v = .pointer (some ⟨g, 0, none⟩) ∧ wx = xW.val ∧ w0.heap.size ≤ g ∧ Row xW.val g 25 [.slice X r.1.length c, .slice X' r.2.length c'] ∧
    OwnP xW.val w0.heap.size X X' r ∧ ∀ b, (ownB X (ic r.1) = some b ∨ ownB X' (ic r.2) = some b) → b ≠ g
theorem boxOf_new {w0 : World} {r : PL} {u : Value} {x4 : Ext w0} {hc : Nat} {X X' : Option Addr} {c c' : Nat} (o4 : OwnP x4.val hc X X' r) (h : w0.heap.size ≤ hc) :
    BoxOf w0 r u (.pointer (some ⟨x4.val.heap.size, 0, none⟩)) u (x4.val.alloc (.cells #[.slice X r.1.length c, .slice X' r.2.length c'] 25)) := by
  refine ⟨rfl, x4.val.heap.size, ⟨_, x4.below.alloc x4.below.size _⟩, X, c, X', c', rfl, rfl, x4.below.size, Row.new _ _ _, (o4.below (bel_one _ _)).mono h, fun b hb => ?_⟩
  have := o4.lt b hb; omega
theorem boxOf_old {w0 : World} {r : PL} {u a b : Value} {x4 : Ext w0} {g hc : Nat} {X X' : Option Addr} {c c' : Nat} (q : Row x4.val g 25 [a, b]) (hg : w0.heap.size ≤ g) (hgc : g < hc) (o4 : OwnP x4.val hc X X' r) :
    BoxOf w0 r u (.pointer (some ⟨g, 0, none⟩)) u ((x4.val.setCell ⟨g, 0, none⟩ (.slice X r.1.length c)).setCell ⟨g, 1, none⟩ (.slice X' r.2.length c')) := by
  have hB : Below w0.heap.size w0 ((x4.val.setCell ⟨g, 0, none⟩ (.slice X r.1.length c)).setCell ⟨g, 1, none⟩ (.slice X' r.2.length c')) := (x4.below.setCell hg _).setCell hg _
  refine ⟨rfl, g, ⟨_, hB⟩, X, c, X', c', rfl, rfl, hg, ?_, ?_, fun b hb => ?_⟩
  · have := (q.set 0 (.slice X r.1.length c)).set 1 (.slice X' r.2.length c')
    simpa using this
  · refine OwnP.mono ((o4.keep (grown_set _ _ _) fun g' hg' => ?_).keep (grown_set _ _ _) fun g' hg' => ?_) (by omega)
    · simp only [ne_eq, Option.some.injEq]; omega
    · simp only [ne_eq, Option.some.injEq]; omega
  · have := o4.lt b hb; omega
end Go.Proofs.YtpiiefmfiipabaaDoor
