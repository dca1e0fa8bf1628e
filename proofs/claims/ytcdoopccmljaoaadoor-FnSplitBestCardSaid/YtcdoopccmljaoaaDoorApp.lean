/- Append of whole rows, whatever their elements. No conditions but bounds on lengths. -/
import Derived.Test.YtcdoopccmljaoaaDoorConcat
namespace Go.Proofs.YtcdoopccmljaoaaDoor
open Go.ChangeShapes Go.WideShapes Go.ChangeAt Go.RowKit Go.Deep

/-- What an append of m elements leaves. -/
def Appd (w w' : World) (base : Nat) (e : TypeId) (size : Nat) (v v' : Value) (n m : Nat) (xs news : List Value) : Prop :=
  w'.ownsRow base e size v' (n + m) (xs ++ news) ∧ w.grownBy w' v.ownBlock ∧ (v' = .slice none 0 0 ↔ v = .slice none 0 0 ∧ m = 0)
/-- An element type: its size in cells is known. -/
structure Elem (t e : TypeId) (z : Value) (size bytes : Nat) : Prop where
  under : Tryd.prog.underlying t = some (.slice e)
  info : (Tryd.prog.info? e).map (fun i => (i.zero, i.size, i.bytes)) = some (some z, size, bytes)
  zero : z.cells.size = size
  pos : 0 < size
  small : bytes ≤ 64
section
variable {t e : TypeId} {z : Value} {size bytes : Nat}
theorem run_append_any (el : Elem t e z size bytes) (w : World) (base B : Nat) (ty : TypeId) (v : Value) (n : Nat) (xs : List Value) (hown : w.ownsRow base e size v n xs) (A : Option Addr) (m c : Nat) (news : List Value) (hl : news.length = m * size) (hr : Rd w B A news) (hnil : A = none → m = 0)
    (h1 : ∀ u ∈ news, u.oneCell' = true) (hn : n ≤ 1099511627776) (hm : m ≤ 1099511627776) (hbase : base ≤ w.heap.size) :
    ∃ v' w', (Builtin.append_ #[t, t] ty #[v, .slice A m c]).run Tryd.prog w = .ok v' w' ∧ Appd w w' base e size v v' n m xs news := by
  obtain ⟨i0, hi, hz0, hz1, hz2⟩ := info_parts el.info
  cases A with
  | none =>
    obtain rfl := hnil rfl
    have hne : news = [] := List.eq_nil_of_length_eq_zero (by simpa using hl)
    subst hne
    exact ⟨v, w, run_append_none w base t ty e i0 size el.under hi v n xs hown c, by simpa using hown, World.grownBy.refl _ _, by simp⟩
  | some a =>
    have hnews : ∀ j u, news[j]? = some u → w.cell? (a.add j) = some u := by
      intro j u hj
      have hlt : j < news.length := by
        rcases Nat.lt_or_ge j news.length with h | h
        · exact h
        · rw [List.getElem?_eq_none h] at hj; cases hj
      obtain ⟨b, o, hA, _, hc⟩ := hr.at (k := j) hlt
      cases hA
      have := hc j hlt
      rw [← List.getElem?_eq_getElem hlt, hj] at this
      rw [add_plain]; exact this.symm ▸ rfl
    have hby : (n + m) * bytes ≤ 140737488355328 := by
      have := Nat.mul_le_mul (show n + m ≤ 2199023255552 by omega) el.small
      omega
    obtain ⟨v', w', h, ho, hg, hN⟩ := run_append_own w base t ty e i0 z size bytes el.under hi hz0 hz1 hz2 el.zero el.pos v n xs hown a m c news hl hnews h1 (by unfold maxLen; omega) hby hbase
    exact ⟨v', w', h, ho, hg, hN⟩
theorem oper_append_any (el : Elem t e z size bytes) {o : Oper} {a : Act} {w : World} {K : Act → World → Prop} {Q : Exit → Act → World → Prop} (s x : Operand) (ho : o.op = .call { callee := .builtin .append, args := #[s, x], argTypes := #[t, t] })
    (base B : Nat) (v : Value) (n : Nat) (xs : List Value) (hs : a.eval s = v) (hown : w.ownsRow base e size v n xs) (A : Option Addr) (m c : Nat) (hx : a.eval x = .slice A m c) (news : List Value) (hl : news.length = m * size) (hr : Rd w B A news) (hnil : A = none → m = 0)
    (h1 : ∀ u ∈ news, u.oneCell' = true) (hn : n ≤ 1099511627776) (hm : m ≤ 1099511627776) (hbase : base ≤ w.heap.size)
    (hK : ∀ v' w', Appd w w' base e size v v' n m xs news → K (a.put o.dst v') w') : Oper.wp Tryd.prog o a w K Q := by
  obtain ⟨v', w', hrun, hap⟩ := run_append_any el w base B o.type v n xs hown A m c news hl hr hnil h1 hn hm hbase
  unfold Oper.wp
  simp [execOp, ho, resolve, invoke, builtin, hs, hx, hrun, Result.andThen]
  exact hK v' w' hap
/-- In a plain region, guarded or not. -/
theorem wpList_append_any (el : Elem t e z size bytes) {ops : Array Oper} {rest : List Oper} {o : Oper} {a : Act} {w : World} {Q : Exit → Act → World → Prop} (hw : Region.wanted o (yielded ops a.tmps) = true) (s x : Operand) (ho : o.op = .call { callee := .builtin .append, args := #[s, x], argTypes := #[t, t] })
    (base B : Nat) (v : Value) (n : Nat) (xs : List Value) (hs : a.eval s = v) (hown : w.ownsRow base e size v n xs) (A : Option Addr) (m c : Nat) (hx : a.eval x = .slice A m c) (news : List Value) (hl : news.length = m * size) (hr : Rd w B A news) (hnil : A = none → m = 0)
    (h1 : ∀ u ∈ news, u.oneCell' = true) (hn : n ≤ 1099511627776) (hm : m ≤ 1099511627776) (hbase : base ≤ w.heap.size)
    (h : ∀ v' w', Appd w w' base e size v v' n m xs news → wpList Tryd.prog ops Q rest (a.put o.dst v') w') : wpList Tryd.prog ops Q (o :: rest) a w :=
  BigFrame.wpList_want hw fun _ hK => oper_append_any el s x ho base B v n xs hs hown A m c hx news hl hr hnil h1 hn hm hbase fun v' w' hap => hK _ _ (h v' w' hap)
/-- In a region that draws. -/
theorem step_append_any (el : Elem t e z size bytes) {ops : Array Oper} {o : Oper} {a : Act} {w : World} {K : Act → World → Prop} {Q : Exit → Act → World → Prop} {E : Prop} (hw : Region.wanted o (yielded ops a.tmps) = true) (s x : Operand) (ho : o.op = .call { callee := .builtin .append, args := #[s, x], argTypes := #[t, t] })
    (base B : Nat) (v : Value) (n : Nat) (xs : List Value) (hs : a.eval s = v) (hown : w.ownsRow base e size v n xs) (A : Option Addr) (m c : Nat) (hx : a.eval x = .slice A m c) (news : List Value) (hl : news.length = m * size) (hr : Rd w B A news) (hnil : A = none → m = 0)
    (h1 : ∀ u ∈ news, u.oneCell' = true) (hn : n ≤ 1099511627776) (hm : m ≤ 1099511627776) (hbase : base ≤ w.heap.size)
    (hK : ∀ v' w', Appd w w' base e size v v' n m xs news → K (a.put o.dst v') w') : if Region.wanted o (yielded ops a.tmps) = true then Oper.wp Tryd.prog o a w K Q else E := by
  rw [if_pos hw]
  exact oper_append_any el s x ho base B v n xs hs hown A m c hx news hl hr hnil h1 hn hm hbase hK
theorem Appd.below {w w' : World} {base n m : Nat} {v v' : Value} {xs news : List Value} (h : Appd w w' base e size v v' n m xs news) (ho : w.ownsRow base e size v n xs) (hb : base ≤ w.heap.size) : Below base w w' :=
  (Below.refl base w).grown h.2.1 hb fun k hk => (ho.lt k hk).1
/-- A fresh empty row. -/
theorem own_empty (w : World) (base : Nat) (h : base ≤ w.heap.size) : (w.alloc (.cells #[] e)).ownsRow base e size (.slice (some ⟨w.heap.size, 0, none⟩) 0 0) 0 [] :=
  ⟨by simp, .inr ⟨w.heap.size, 0, #[], rfl, h, heap_alloc_new _ _, Nat.le_refl _, Nat.zero_le _, by simp, by simp⟩⟩
/-- A row of the call's own, known whole. -/
theorem own_full (w : World) (base n : Nat) (cs : Array Value) (h : base ≤ w.heap.size) (hn : n ≤ maxLen) (hl : cs.size = n * size) : (w.alloc (.cells cs e)).ownsRow base e size (.slice (some ⟨w.heap.size, 0, none⟩) n n) n cs.toList :=
  ⟨by simpa using hl, .inr ⟨w.heap.size, n, cs, rfl, h, heap_alloc_new _ _, Nat.le_refl _, hn, hl, by rw [List.take_of_length_le]; simpa using Nat.le_of_eq hl⟩⟩
end
theorem owns_grown {w w' : World} {B : Nat} {e : TypeId} {size n : Nat} {v : Value} {xs : List Value} {row : Option Nat} (h : w.ownsRow B e size v n xs) (hg : w.grownBy w' row) (hne : ∀ b, v.ownBlock = some b → row ≠ some b) : w'.ownsRow B e size v n xs := by
  obtain ⟨hl, h⟩ := h
  refine ⟨hl, ?_⟩
  rcases h with h | ⟨g, cap, cur, rfl, h2, h3, h4⟩
  · exact .inl h
  · exact .inr ⟨g, cap, cur, rfl, h2, (hg.block g (lt_of_block h3) (fun e => hne g rfl e.symm)).trans h3, h4⟩
theorem own_room2 {w : World} {B T n size : Nat} {v : Value} {xs : List Value} (h : w.ownsRow B T size v n xs) : ∃ A c, v = .slice A n c ∧ Own w B T A xs ∧ n ≤ c ∧ c ≤ maxLen ∧ (A = none → n = 0) := by
  have h0 := h
  obtain ⟨hl, h⟩ := h
  rcases h with ⟨rfl, rfl⟩ | ⟨g, cap, cur, rfl, _, _, hn, hm, _⟩
  · exact ⟨none, 0, rfl, .inl (List.eq_nil_of_length_eq_zero (by simpa using hl)), Nat.le_refl _, Nat.zero_le _, fun _ => rfl⟩
  · exact ⟨_, _, rfl, Own.of_row h0, hn, hm, fun h => by cases h⟩
theorem Rd.sheets_drop {w : World} {B b o : Nat} {zs : List (Int × Int)} (h : Rd w B (some ⟨b, o, none⟩) (sc zs)) (k : Nat) : Rd w B (some ⟨b, o + k * 2, none⟩) (sc (zs.drop k)) := by
  by_cases hk : k < zs.length
  · have hl := sc_len zs
    have hld := sc_len (zs.drop k)
    obtain ⟨b', o', hA, hb, hc⟩ := h.at (k := k * 2) (by omega)
    cases hA
    refine .inr ⟨b, o + k * 2, rfl, hb, fun j hj => ?_⟩
    have e : sc zs = sc (zs.take k) ++ sc (zs.drop k) := by
      rw [show sc (zs.take k) ++ sc (zs.drop k) = sc (zs.take k ++ zs.drop k) by simp only [sc, List.flatMap_append], List.take_append_drop]
    have ht : (sc (zs.take k)).length = k * 2 := by rw [sc_len, List.length_take]; omega
    have := hc (k * 2 + j) (by simp at hld; omega)
    rw [Nat.add_assoc, this]
    congr 1
    simp only [e]
    rw [List.getElem_append_right (by omega)]
    simp only [ht, Nat.add_sub_cancel_left]
  · left; rw [List.drop_of_length_le (by omega)]; rfl
theorem sc_one (zs : List (Int × Int)) : ∀ u ∈ sc zs, u.oneCell' = true := by
  intro u hu
  simp only [sc, List.mem_flatMap, List.mem_cons, List.not_mem_nil, or_false] at hu
  obtain ⟨s, _, rfl | rfl⟩ := hu <;> rfl
theorem ic_one (zs : List Int) : ∀ u ∈ ic zs, u.oneCell' = true := by
  intro u hu
  simp only [ic, List.mem_map] at hu
  obtain ⟨x, _, rfl⟩ := hu; rfl
theorem sheetElem : Elem 42 24 (.agg #[.int .i64 0, .int .i64 0]) 2 16 := ⟨Tryd.underlying42, by kernel_rfl, rfl, by decide, by decide⟩
theorem intElem : Elem 45 3 (.int .i64 0) 1 8 := ⟨Tryd.underlying45, intInfo, rfl, by decide, by decide⟩
end Go.Proofs.YtcdoopccmljaoaaDoor
