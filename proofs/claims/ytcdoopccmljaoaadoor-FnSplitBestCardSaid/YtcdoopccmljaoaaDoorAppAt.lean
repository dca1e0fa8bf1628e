/- Append of a whole row, and where the result lies. No conditions but bounds on lengths. -/
import Derived.Test.YtcdoopccmljaoaaDoorApp
import Derived.Maps.AppendAt
namespace Go.Proofs.YtcdoopccmljaoaaDoor
open Go.ChangeShapes Go.WideShapes Go.ChangeAt Go.RowKit Go.Deep
/-- What an append leaves: in the block of the row, or in a fresh one. -/
def AppdAt (w w' : World) (base : Nat) (e : TypeId) (size : Nat) (v v' : Value) (n m : Nat) (xs news : List Value) : Prop :=
  Appd w w' base e size v v' n m xs news ∧ (v'.ownBlock = v.ownBlock ∨ v'.ownBlock = some w.heap.size)
section
variable {t e : TypeId} {z : Value} {size bytes : Nat}
theorem run_append_at (el : Elem t e z size bytes) (w : World) (base B : Nat) (ty : TypeId) (v : Value) (n : Nat) (xs : List Value) (hown : w.ownsRow base e size v n xs) (a : Addr) (m c : Nat) (news : List Value) (hl : news.length = m * size) (hr : Rd w B (some a) news)
    (h1 : ∀ u ∈ news, u.oneCell' = true) (hn : n ≤ 1099511627776) (hm : m ≤ 1099511627776) (hbase : base ≤ w.heap.size) :
    ∃ v' w', (Builtin.append_ #[t, t] ty #[v, .slice (some a) m c]).run Tryd.prog w = .ok v' w' ∧ AppdAt w w' base e size v v' n m xs news := by
  obtain ⟨i0, hi, hz0, hz1, hz2⟩ := info_parts el.info
  have hnews : ∀ j u, news[j]? = some u → w.cell? (a.add j) = some u := by
    intro j u hj
    have hlt : j < news.length := by
      rcases Nat.lt_or_ge j news.length with h | h
      · exact h
      · rw [List.getElem?_eq_none h] at hj; cases hj
    obtain ⟨b, o, hA, _, hc⟩ := hr.at (k := j) hlt
    cases hA
    have := hc j hlt
    rw [← List.getElem?_eq_getElem hlt, hj] at this
    rw [add_plain]; exact this.symm ▸ rfl
  have hby : (n + m) * bytes ≤ 140737488355328 := by
    have := Nat.mul_le_mul (show n + m ≤ 2199023255552 by omega) el.small
    omega
  obtain ⟨v', w', h, ho, hg, hN, hb⟩ := run_append_own_at w base t ty e i0 z size bytes el.under hi hz0 hz1 hz2 el.zero el.pos v n xs hown a m c news hl hnews h1 (by unfold maxLen; omega) hby hbase
  exact ⟨v', w', h, ⟨ho, hg, hN⟩, hb⟩
theorem wpList_append_at (el : Elem t e z size bytes) {ops : Array Oper} {rest : List Oper} {o : Oper} {a : Act} {w : World} {Q : Exit → Act → World → Prop} (hw : Region.wanted o (yielded ops a.tmps) = true) (s x : Operand) (ho : o.op = .call { callee := .builtin .append, args := #[s, x], argTypes := #[t, t] })
    (base B : Nat) (v : Value) (n : Nat) (xs : List Value) (hs : a.eval s = v) (hown : w.ownsRow base e size v n xs) (A : Addr) (m c : Nat) (hx : a.eval x = .slice (some A) m c) (news : List Value) (hl : news.length = m * size) (hr : Rd w B (some A) news)
    (h1 : ∀ u ∈ news, u.oneCell' = true) (hn : n ≤ 1099511627776) (hm : m ≤ 1099511627776) (hbase : base ≤ w.heap.size)
    (h : ∀ v' w', AppdAt w w' base e size v v' n m xs news → wpList Tryd.prog ops Q rest (a.put o.dst v') w') : wpList Tryd.prog ops Q (o :: rest) a w :=
  BigFrame.wpList_want hw fun K hK => by
    obtain ⟨v', w', hrun, hap⟩ := run_append_at el w base B o.type v n xs hown A m c news hl hr h1 hn hm hbase
    unfold Oper.wp
    simp [execOp, ho, resolve, invoke, builtin, hs, hx, hrun, Result.andThen]
    exact hK _ _ (h v' w' hap)
end
end Go.Proofs.YtcdoopccmljaoaaDoor
