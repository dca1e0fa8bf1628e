/- slices of numbers put together: append of a slice, slices.Grow of nil, slices.Concat of two, slices.Clone. No conditions but bounds on lengths. -/
import Derived.Test.YtcdoopccmljaoaaDoorHas
import Derived.OwnWalk
import Derived.Laws.AppendOwn
import Derived.Lib.AppendZerosOnto
import Derived.Lib.Walk
import Derived.Lib.SliceRun
import Derived.Deep.RegionLaw
namespace Go.Proofs.YtcdoopccmljaoaaDoor
open Go.ChangeShapes Go.WideShapes Go.ChangeAt Go.RowKit Go.Deep

theorem run_append_none (w : World) (base : Nat) (t ty e : TypeId) (i : TypeInfo) (size : Nat) (ht : Tryd.prog.underlying t = some (.slice e)) (hi : Tryd.prog.info? e = some i)
    (v : Value) (n : Nat) (xs : List Value) (hown : w.ownsRow base e size v n xs) (c : Nat) : (Builtin.append_ #[t, t] ty #[v, .slice none 0 c]).run Tryd.prog w = .ok v w := by
  rcases hown.2 with ⟨rfl, rfl⟩ | ⟨g, cap, cur, rfl, _, _, hnc, _⟩
  · simp [Builtin.append_, run_underlying ht, sizeOf, typeInfo, hi, Builtin.lenOf, Builtin.firstCells]
  · simp [Builtin.append_, run_underlying ht, sizeOf, typeInfo, hi, Builtin.lenOf, Builtin.firstCells, hnc, storeCells]

/-- What an append of a slice of numbers leaves. -/
def Appended (w w' : World) (base : Nat) (v v' : Value) (ys zs : List Int) : Prop :=
  w'.ownsRow base 3 1 v' (ys ++ zs).length (ic (ys ++ zs)) ∧ w.grownBy w' v.ownBlock ∧ (v' = .slice none 0 0 ↔ v = .slice none 0 0 ∧ zs = [])
theorem run_append_rd (w : World) (base B : Nat) (ty : TypeId) (v : Value) (ys zs : List Int) (hown : w.ownsRow base 3 1 v ys.length (ic ys)) (A : Option Addr) (n c : Nat) (hn : n = zs.length) (hr : Rd w B A (ic zs)) (hnil : A = none → zs = [])
    (hy : ys.length ≤ 1099511627776) (hz : zs.length ≤ 1099511627776) (hbase : base ≤ w.heap.size) :
    ∃ v' w', (Builtin.append_ #[45, 45] ty #[v, .slice A n c]).run Tryd.prog w = .ok v' w' ∧ Appended w w' base v v' ys zs := by
  obtain ⟨i0, hi, hz0, hz1, hz2⟩ := info_parts intInfo
  subst hn
  cases A with
  | none =>
    obtain rfl := hnil rfl
    exact ⟨v, w, run_append_none w base 45 ty 3 i0 1 Tryd.underlying45 hi v _ _ hown c, by simpa using hown, World.grownBy.refl _ _, by simp⟩
  | some a =>
    have hnews : ∀ j u, (ic zs)[j]? = some u → w.cell? (a.add j) = some u := by
      intro j u hj
      have hlt : j < (ic zs).length := by
        rcases Nat.lt_or_ge j (ic zs).length with h | h
        · exact h
        · rw [List.getElem?_eq_none h] at hj; cases hj
      obtain ⟨b, o, hA, _, hc⟩ := hr.at (k := j) hlt
      cases hA
      have := hc j hlt
      rw [← List.getElem?_eq_getElem hlt, hj] at this
      rw [add_plain]; exact this.symm ▸ rfl
    have h1 : ∀ u ∈ ic zs, u.oneCell' = true := by
      intro u hu
      simp only [ic, List.mem_map] at hu
      obtain ⟨x, _, rfl⟩ := hu; rfl
    obtain ⟨v', w', h, ho, hg, hN⟩ := run_append_own w base 45 ty 3 i0 (.int .i64 0) 1 8 Tryd.underlying45 hi hz0 hz1 hz2 rfl (by decide) v ys.length (ic ys) hown a zs.length c (ic zs) (by rw [ic_len]; omega) hnews h1 (by unfold maxLen; omega) (by omega) hbase
    refine ⟨v', w', h, by simpa [ic] using ho, hg, hN.trans ?_⟩
    simp
theorem wpList_append_rd {ops : Array Oper} {rest : List Oper} {o : Oper} {a : Act} {w : World} {Q : Exit → Act → World → Prop} (hgd : o.guard = none) (s x : Operand) (ho : o.op = .call { callee := .builtin .append, args := #[s, x], argTypes := #[45, 45] })
    (base B : Nat) (v : Value) (ys zs : List Int) (hs : a.eval s = v) (hown : w.ownsRow base 3 1 v ys.length (ic ys)) (A : Option Addr) (n c : Nat) (hx : a.eval x = .slice A n c) (hn : n = zs.length) (hr : Rd w B A (ic zs)) (hnil : A = none → zs = [])
    (hy : ys.length ≤ 1099511627776) (hz : zs.length ≤ 1099511627776) (hbase : base ≤ w.heap.size)
    (h : ∀ v' w', Appended w w' base v v' ys zs → wpList Tryd.prog ops Q rest (a.put o.dst v') w') : wpList Tryd.prog ops Q (o :: rest) a w := by
  obtain ⟨v', w', hrun, hap⟩ := run_append_rd w base B o.type v ys zs hown A n c hn hr hnil hy hz hbase
  exact Lib.wpList_append_run w hgd s x _ _ ho _ _ hs hx _ _ hrun (h v' w' hap)
theorem step_append_rd {ops : Array Oper} {o : Oper} {a : Act} {w : World} {K : Act → World → Prop} {Q : Exit → Act → World → Prop} {E : Prop} (hgd : o.guard = none) (s x : Operand) (ho : o.op = .call { callee := .builtin .append, args := #[s, x], argTypes := #[45, 45] })
    (base B : Nat) (v : Value) (ys zs : List Int) (hs : a.eval s = v) (hown : w.ownsRow base 3 1 v ys.length (ic ys)) (A : Option Addr) (n c : Nat) (hx : a.eval x = .slice A n c) (hn : n = zs.length) (hr : Rd w B A (ic zs)) (hnil : A = none → zs = [])
    (hy : ys.length ≤ 1099511627776) (hz : zs.length ≤ 1099511627776) (hbase : base ≤ w.heap.size)
    (hK : ∀ v' w', Appended w w' base v v' ys zs → K (a.put o.dst v') w') : if Region.wanted o (yielded ops a.tmps) = true then Oper.wp Tryd.prog o a w K Q else E := by
  have hw : Region.wanted o (yielded ops a.tmps) = true := by simp [Region.wanted, hgd]
  rw [if_pos hw]
  obtain ⟨v', w', hrun, hap⟩ := run_append_rd w base B o.type v ys zs hown A n c hn hr hnil hy hz hbase
  unfold Oper.wp
  simp [execOp, ho, resolve, invoke, builtin, hs, hx, hrun, Result.andThen]
  exact hK v' w' hap
theorem own_fresh (w : World) (base : Nat) (h : base ≤ w.heap.size) : (w.alloc (.cells #[] 3)).drew.ownsRow base 3 1 (.slice (some ⟨w.heap.size, 0, none⟩) 0 0) ([] : List Int).length (ic []) :=
  ⟨rfl, .inr ⟨w.heap.size, 0, #[], rfl, h, heap_alloc_new _ _, Nat.le_refl _, Nat.zero_le _, rfl, rfl⟩⟩
theorem bel_fresh (w : World) : Below w.heap.size w (w.alloc (.cells #[] 3)).drew := by go_grown
theorem Appended.below {w w' : World} {base : Nat} {v v' : Value} {ys zs : List Int} (h : Appended w w' base v v' ys zs) (ho : w.ownsRow base 3 1 v ys.length (ic ys)) (hb : base ≤ w.heap.size) : Below base w w' :=
  (Below.refl base w).grown h.2.1 hb fun k hk => (ho.lt k hk).1
theorem bel_alloc (w : World) (o : Obj) : Below w.heap.size w (w.alloc o) := by go_grown
end Go.Proofs.YtcdoopccmljaoaaDoor
