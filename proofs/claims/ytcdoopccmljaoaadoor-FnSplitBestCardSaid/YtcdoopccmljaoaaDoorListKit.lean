/- Lists of numbers of the call's own, grown by appends within one class of worlds. No conditions but bounds on lengths. -/
import Derived.Test.YtcdoopccmljaoaaDoorConcat
import Derived.Test.YtcdoopccmljaoaaDoorExt
namespace Go.Proofs.YtcdoopccmljaoaaDoor
open Go.ChangeShapes Go.WideShapes Go.ChangeAt Go.RowKit Go.Deep
theorem bel_row {w w' : World} {row : Option Nat} (h : Below w.heap.size w w') : w.grownBy w' row := ⟨h.os, h.tape, h.output, h.size, fun i hi _ => h.block i hi⟩
theorem owns_below {w w' : World} {base n size : Nat} {e : TypeId} {v : Value} {xs : List Value} (h : w.ownsRow base e size v n xs) (hb : Below w.heap.size w w') : w'.ownsRow base e size v n xs := by
  refine h.kept (bel_row (row := none) hb) ?_
  cases v.ownBlock with
  | none => exact .inl rfl
  | some g => exact .inr (by simp)
theorem rd_one (w : World) (u : Int) (T : TypeId) : Rd (w.alloc (.cells #[.int .i64 u] T)) (w.alloc (.cells #[.int .i64 u] T)).heap.size (some ⟨w.heap.size, 0, none⟩) (ic [u]) := (Row.new w T #[.int .i64 u]).rd
/-- What an append leaves, in the class. -/
theorem ext_app {w0 W w' : World} {v v' : Value} {ys zs : List Int} (hW : Below w0.heap.size w0 W) (ho : W.ownsRow w0.heap.size 3 1 v ys.length (ic ys)) (hap : Appended W w' w0.heap.size v v' ys zs) :
    ∃ y : Ext w0, w' = y.val ∧ y.val.ownsRow w0.heap.size 3 1 v' (ys ++ zs).length (ic (ys ++ zs)) :=
  ⟨⟨w', hW.grown hap.2.1 hW.size fun k hk => (ho.lt k hk).1⟩, rfl, hap.1⟩
/-- A call that hands back a list of numbers in memory of its own. -/
def IntsOk (w : World) (z : List Int) (e : Ending) (w' : World) : Prop :=
  ∃ A c, e = .returned (.slice A z.length c) ∧ Own w' w.heap.size 3 A (ic z) ∧ Below w.heap.size w w'
theorem own_shape2 {w : World} {B T n size : Nat} {v : Value} {xs : List Value} (h : w.ownsRow B T size v n xs) : ∃ A c, v = .slice A n c ∧ Own w B T A xs := by
  have h0 := h
  obtain ⟨hl, h⟩ := h
  rcases h with ⟨rfl, rfl⟩ | ⟨g, cap, cur, rfl, _⟩
  · exact ⟨none, 0, rfl, .inl (List.eq_nil_of_length_eq_zero (by simpa using hl))⟩
  · exact ⟨_, _, rfl, Own.of_row h0⟩
theorem intsOk_of {w w' : World} {B : Nat} {v : Value} {z : List Int} (h : w'.ownsRow B 3 1 v z.length (ic z)) (hB : w.heap.size ≤ B) (hb : Below w.heap.size w w') : IntsOk w z (.returned v) w' := by
  obtain ⟨A, c, rfl, ho⟩ := own_shape2 h
  exact ⟨A, c, rfl, ho.mono hB, hb⟩
theorem intsOk_nil {w w' : World} {A : Option Addr} {c : Nat} (hb : Below w.heap.size w w') : IntsOk w [] (.returned (.slice A 0 c)) w' := ⟨A, c, rfl, .inl rfl, hb⟩
end Go.Proofs.YtcdoopccmljaoaaDoor
