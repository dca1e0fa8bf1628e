/- A law's arguments: piles, lifts, lists of lifts. No conditions. -/
import Derived.Test.YtgohnbhnckgcnaaPileLaw
namespace Go.Proofs.Ytgohnbhnckgcnaa
open Go.ChangeShapes Go.WideShapes Go.ChangeAt Go.RowKit Go.Deep
section
variable {H : Type} {enc : TypeId × Value → H} {P : Program} {w : World} {spare : Nat → Bool} {held : Bool}
theorem op_pile {r : Reach} {b0 : Nat} {t e : TypeId} {f0 f1 : Field} {v : Value} {d : DataW H} {ps : List MemPlace} (hs : P.underlying t = some (.struct #[f0, f1])) (hone : oneCellFields P #[f0, f1] = true) (hC : P.cellsOf t = 2)
    (h0 : P.underlying f0.type = some (.slice e)) (h1 : P.underlying f1.type = some (.slice e)) (he : P.underlying e = some (.int .i64)) (hc : P.cellsOf e = 1) (hval : Value.okWide P w r b0 t v) (hd : DataW.Trod enc P w 0 spare held t v d ps) :
    ∃ (A : Option Addr) (n c : Nat) (z : List Int) (A' : Option Addr) (n' c' : Nat) (z' : List Int), v = .agg #[.slice A n c, .slice A' n' c'] ∧ z.length = n ∧ z'.length = n' ∧ n ≤ c ∧ c ≤ maxLen ∧ n' ≤ c' ∧ c' ≤ maxLen ∧ RdP w w.heap.size A A' (z, z') := by
  obtain ⟨v0, v1, y0, y1, n, rfl, _, _, t0, t1⟩ := Joins.open_agg2 hs hone hC hval hd
  obtain ⟨A, m, c, hA⟩ := Joins.slice_form h0 t0
  obtain ⟨A', m', c', hA'⟩ := Joins.slice_form h1 t1
  obtain rfl : v0 = .slice A m c := by simpa using hA
  obtain rfl : v1 = .slice A' m' c' := by simpa using hA'
  obtain ⟨z, e1, e2, e3, _, e5⟩ := open_rd1 h0 he hc t0
  obtain ⟨z', e1', e2', e3', _, e5'⟩ := open_rd1 h1 he hc t1
  exact ⟨A, m, c, z, A', m', c', z', rfl, e1, e1', e2, e3, e2', e3', e5, e5'⟩
end
end Go.Proofs.Ytgohnbhnckgcnaa
