/- The laws' helpers over spots and lifts, and words for a law's walk. No conditions but bounds on lengths. -/
import Derived.Test.YtpiiefmfiipabaaDoorBoxes
import Derived.Test.YtpiiefmfiipabaaDoorPileLaw
namespace Go.Proofs.YtpiiefmfiipabaaDoor
open Go.ChangeShapes Go.WideShapes Go.ChangeAt Go.RowKit Go.Deep
theorem ext_lift {w0 w6 : World} (b : Below w0.heap.size w0 w6) {p : Addr} {v : Value} (K : ∀ x : Ext w0, x.val.cell? p = some v) : ∀ x : Ext w6, x.val.cell? p = some v := fun x => K ⟨x.val, via b x.below b.size⟩
theorem cell_in {w0 w6 : World} (b : Below w0.heap.size w0 w6) {p : Addr} {v : Value} (K : ∀ x : Ext w0, x.val.cell? p = some v) : w6.cell? p = some v := K ⟨w6, b⟩
theorem held_of {w0 : World} {p : Addr} {v : Value} (K : ∀ x : Ext w0, x.val.cell? p = some v) : ∀ W : World, Below w0.heap.size w0 W → W.cell? p = some v := fun W h => K ⟨W, h⟩
theorem bne_int (a : Int) : (a != a) = false := by simp
theorem bne_bool (a : Bool) : (a != a) = false := by simp
theorem set4 {w : World} {g : Nat} {T : TypeId} {u0 u1 u2 u3 : Value} (q : Row w g T [u0, u1, u2, u3]) (a b : Value) : Row ((w.setCell ⟨g, 0, none⟩ a).setCell ⟨g, 1, none⟩ b) g T [a, b, u2, u3] := by
  simpa using (q.set 0 a).set 1 b
theorem set4' {w : World} {g : Nat} {T : TypeId} {u0 u1 u2 u3 : Value} (q : Row w g T [u0, u1, u2, u3]) (a b : Value) : Row ((w.setCell ⟨g, 2, none⟩ a).setCell ⟨g, 3, none⟩ b) g T [u0, u1, a, b] := by
  simpa using (q.set 2 a).set 3 b
theorem ret_four {P : Program} {f : Func} {Q : Ending → World → Prop} {a : Act} {w W : World} {r : Nat} {T : TypeId} {u0 u1 u2 u3 v0 v1 v2 v3 : Value} (q : Row W r T [u0, u1, u2, u3]) (hr : w.heap.size ≤ r) (hb : Below w.heap.size w W)
    (h : ∀ W' : World, W'.cell? ⟨r, 0, none⟩ = some v0 → W'.cell? ⟨r, 1, none⟩ = some v1 → W'.cell? ⟨r, 2, none⟩ = some v2 → W'.cell? ⟨r, 3, none⟩ = some v3 → Below w.heap.size w W' → bodyPost P f Q Exit.ret a W') :
    bodyPost P f Q Exit.ret a ((((W.setCell ⟨r, 0, none⟩ v0).setCell ⟨r, 1, none⟩ v1).setCell ⟨r, 2, none⟩ v2).setCell ⟨r, 3, none⟩ v3) := by
  have q2 := set4' (set4 q v0 v1) v2 v3
  obtain ⟨k0, k1, k2, k3⟩ := q2.four
  exact h _ k0 k1 k2 k3 ((((hb.setCell hr _).setCell hr _).setCell hr _).setCell hr _)
end Go.Proofs.YtpiiefmfiipabaaDoor
