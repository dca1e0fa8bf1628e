/- slices of numbers put together: append of a slice, slices.Grow of nil, slices.Concat of two, slices.Clone. No conditions but bounds on lengths. -/
import Derived.Test.YtpiiefmfiipabaaDoorHas
import Derived.OwnWalk
import Derived.Laws.AppendOwn
import Derived.Lib.AppendZerosOnto
import Derived.Lib.Walk
import Derived.Lib.SliceRun
import Derived.Deep.RegionLaw
namespace Go.Proofs.YtpiiefmfiipabaaDoor
open Go.ChangeShapes Go.WideShapes Go.ChangeAt Go.RowKit Go.Deep

theorem run_append_none (w : World) (base : Nat) (t ty e : TypeId) (i : TypeInfo) (size : Nat) (ht : Tryd.prog.underlying t = some (.slice e)) (hi : Tryd.prog.info? e = some i)
    (v : Value) (n : Nat) (xs : List Value) (hown : w.ownsRow base e size v n xs) (c : Nat) : (Builtin.append_ #[t, t] ty #[v, .slice none 0 c]).run Tryd.prog w = .ok v w := by
  rcases hown.2 with ⟨rfl, rfl⟩ | ⟨g, cap, cur, rfl, _, _, hnc, _⟩
  · simp [Builtin.append_, run_underlying ht, sizeOf, typeInfo, hi, Builtin.lenOf, Builtin.firstCells]
  · simp [Builtin.append_, run_underlying ht, sizeOf, typeInfo, hi, Builtin.lenOf, Builtin.firstCells, hnc, storeCells]

/-- What an append of a slice of numbers leaves. -/
def Appended (w w' : World) (base : Nat) (v v' : Value) (ys zs : List Int) : Prop :=
  w'.ownsRow base 3 1 v' (ys ++ zs).length (ic (ys ++ zs)) ∧ w.grownBy w' v.ownBlock ∧ (v' = .slice none 0 0 ↔ v = .slice none 0 0 ∧ zs = [])
theorem run_append_rd (w : World) (base B : Nat) (ty : TypeId) (v : Value) (ys zs : List Int) (hown : w.ownsRow base 3 1 v ys.length (ic ys)) (A : Option Addr) (n c : Nat) (hn : n = zs.length) (hr : Rd w B A (ic zs)) (hnil : A = none → zs = [])
    (hy : ys.length ≤ 1099511627776) (hz : zs.length ≤ 1099511627776) (hbase : base ≤ w.heap.size) :
    ∃ v' w', (Builtin.append_ #[23, 23] ty #[v, .slice A n c]).run Tryd.prog w = .ok v' w' ∧ Appended w w' base v v' ys zs := by
  obtain ⟨i0, hi, hz0, hz1, hz2⟩ := info_parts intInfo
  subst hn
  cases A with
  | none =>
    obtain rfl := hnil rfl
    exact ⟨v, w, run_append_none w base 23 ty 3 i0 1 Tryd.underlying23 hi v _ _ hown c, by simpa using hown, World.grownBy.refl _ _, by simp⟩
  | some a =>
    have hnews : ∀ j u, (ic zs)[j]? = some u → w.cell? (a.add j) = some u := by
      intro j u hj
      have hlt : j < (ic zs).length := by
        rcases Nat.lt_or_ge j (ic zs).length with h | h
        · exact h
        · rw [List.getElem?_eq_none h] at hj; cases hj
      obtain ⟨b, o, hA, _, hc⟩ := hr.at (k := j) hlt
      cases hA
      have := hc j hlt
      rw [← List.getElem?_eq_getElem hlt, hj] at this
      rw [add_plain]; exact this.symm ▸ rfl
    have h1 : ∀ u ∈ ic zs, u.oneCell' = true := by
      intro u hu
      simp only [ic, List.mem_map] at hu
      obtain ⟨x, _, rfl⟩ := hu; rfl
    obtain ⟨v', w', h, ho, hg, hN⟩ := run_append_own w base 23 ty 3 i0 (.int .i64 0) 1 8 Tryd.underlying23 hi hz0 hz1 hz2 rfl (by decide) v ys.length (ic ys) hown a zs.length c (ic zs) (by rw [ic_len]; omega) hnews h1 (by unfold maxLen; omega) (by omega) hbase
    refine ⟨v', w', h, by simpa [ic] using ho, hg, hN.trans ?_⟩
    simp
theorem wpList_append_rd {ops : Array Oper} {rest : List Oper} {o : Oper} {a : Act} {w : World} {Q : Exit → Act → World → Prop} (hgd : o.guard = none) (s x : Operand) (ho : o.op = .call { callee := .builtin .append, args := #[s, x], argTypes := #[23, 23] })
    (base B : Nat) (v : Value) (ys zs : List Int) (hs : a.eval s = v) (hown : w.ownsRow base 3 1 v ys.length (ic ys)) (A : Option Addr) (n c : Nat) (hx : a.eval x = .slice A n c) (hn : n = zs.length) (hr : Rd w B A (ic zs)) (hnil : A = none → zs = [])
    (hy : ys.length ≤ 1099511627776) (hz : zs.length ≤ 1099511627776) (hbase : base ≤ w.heap.size)
    (h : ∀ v' w', Appended w w' base v v' ys zs → wpList Tryd.prog ops Q rest (a.put o.dst v') w') : wpList Tryd.prog ops Q (o :: rest) a w := by
  obtain ⟨v', w', hrun, hap⟩ := run_append_rd w base B o.type v ys zs hown A n c hn hr hnil hy hz hbase
  exact Lib.wpList_append_run w hgd s x _ _ ho _ _ hs hx _ _ hrun (h v' w' hap)
theorem step_append_rd {ops : Array Oper} {o : Oper} {a : Act} {w : World} {K : Act → World → Prop} {Q : Exit → Act → World → Prop} {E : Prop} (hgd : o.guard = none) (s x : Operand) (ho : o.op = .call { callee := .builtin .append, args := #[s, x], argTypes := #[23, 23] })
    (base B : Nat) (v : Value) (ys zs : List Int) (hs : a.eval s = v) (hown : w.ownsRow base 3 1 v ys.length (ic ys)) (A : Option Addr) (n c : Nat) (hx : a.eval x = .slice A n c) (hn : n = zs.length) (hr : Rd w B A (ic zs)) (hnil : A = none → zs = [])
    (hy : ys.length ≤ 1099511627776) (hz : zs.length ≤ 1099511627776) (hbase : base ≤ w.heap.size)
    (hK : ∀ v' w', Appended w w' base v v' ys zs → K (a.put o.dst v') w') : if Region.wanted o (yielded ops a.tmps) = true then Oper.wp Tryd.prog o a w K Q else E := by
  have hw : Region.wanted o (yielded ops a.tmps) = true := by simp [Region.wanted, hgd]
  rw [if_pos hw]
  obtain ⟨v', w', hrun, hap⟩ := run_append_rd w base B o.type v ys zs hown A n c hn hr hnil hy hz hbase
  unfold Oper.wp
  simp [execOp, ho, resolve, invoke, builtin, hs, hx, hrun, Result.andThen]
  exact hK v' w' hap
theorem own_fresh (w : World) (base : Nat) (h : base ≤ w.heap.size) : (w.alloc (.cells #[] 3)).drew.ownsRow base 3 1 (.slice (some ⟨w.heap.size, 0, none⟩) 0 0) ([] : List Int).length (ic []) :=
  ⟨rfl, .inr ⟨w.heap.size, 0, #[], rfl, h, heap_alloc_new _ _, Nat.le_refl _, Nat.zero_le _, rfl, rfl⟩⟩
theorem bel_fresh (w : World) : Below w.heap.size w (w.alloc (.cells #[] 3)).drew := by go_grown
theorem Appended.below {w w' : World} {base : Nat} {v v' : Value} {ys zs : List Int} (h : Appended w w' base v v' ys zs) (ho : w.ownsRow base 3 1 v ys.length (ic ys)) (hb : base ≤ w.heap.size) : Below base w w' :=
  (Below.refl base w).grown h.2.1 hb fun k hk => (ho.lt k hk).1
theorem bel_alloc (w : World) (o : Obj) : Below w.heap.size w (w.alloc o) := by go_grown
set_option maxRecDepth 100000 in
theorem grow_nil (m : Nat) (w : World) (hm : m ≤ 1099511627776) :
    Calls Tryd.prog 91 #[.slice none 0 0, .int .i64 m] w fun e w' => ∃ v, e = .returned v ∧ w'.ownsRow w.heap.size 3 1 v 0 [] ∧ Below w.heap.size w w' := by
  obtain ⟨i0, hi, hz0, hz1, hz2⟩ := info_parts intInfo
  by_cases h0 : m = 0
  · subst h0
    go_enter Tryd.func91, Tryd.ntmps91
    go_wp2
    go_ret
    exact ⟨_, rfl, ⟨rfl, .inl ⟨rfl, rfl⟩⟩, Below.refl _ _⟩
  · have hold : (Builtin.firstCells i0.size 0 (.slice none 0 0)).run Tryd.prog w.drew = .ok ([] : List Value).toArray w.drew := run_firstCells_none w.drew i0.size 0 0 0
    have hrun := fun ty => Lib.run_append_grow_zeros (P := Tryd.prog) w 23 3 ty 3 i0 (.int .i64 0) .i64 .i64 Tryd.underlying23 Tryd.underlying3 hi hz0 none 0 0 [] hold m (by omega) (by omega) (by omega) (by omega) (by rw [hz2]; omega) (growslice_fits (by omega) (by rw [hz2]; omega))
    have hge := grownCap_ge w (0 + m) 0 3
    have hle := grownCap_le_maxLen w (0 + m) 0 3 (by unfold maxLen; omega)
    simp only [Nat.zero_add] at hrun hge hle
    generalize hG : grownCap w m 0 3 = G at *
    have hpos : (0 : Int) < (m : Int) := by omega
    have HL := hide hle
    have HG := hide hge
    clear hle hge hold hz0 hz1 hz2 hG
    go_enter Tryd.func91, Tryd.ntmps91
    go_wp2_with (at_builtin; refine Lib.wpList_append_run _ rfl _ _ _ _ rfl _ _ rfl rfl _ _ (hrun _) ?_)
    go_ret
    refine ⟨_, rfl, ⟨rfl, .inr ⟨w.heap.size, G, Builtin.zeroCells #[Value.int .i64 0] m ++ Builtin.zeroCells #[Value.int .i64 0] (G - m), rfl, Nat.le_refl _, ?_, Nat.zero_le _, HL.out, ?_, by simp⟩⟩, by go_grown⟩
    · exact heap_alloc_new _ _
    · have := HG.out; simp [Builtin.zeroCells]; omega
theorem concat_two (g c : Nat) (A A' : Option Addr) (d d' : Nat) (xs ys : List Int) (w : World) (hx : xs.length ≤ 1048576) (hy : ys.length ≤ 1048576)
    (c0 : w.cell? ⟨g, 0, none⟩ = some (.slice A xs.length d)) (c1 : w.cell? ⟨g, 1, none⟩ = some (.slice A' ys.length d')) (hr : Rd w w.heap.size A (ic xs)) (hr' : Rd w w.heap.size A' (ic ys)) (hN : A = none → xs = []) (hN' : A' = none → ys = []) :
    Calls Tryd.prog 68 #[.slice (some ⟨g, 0, none⟩) 2 c] w fun e w' => ∃ v, e = .returned v ∧ w'.ownsRow w.heap.size 3 1 v (xs ++ ys).length (ic (xs ++ ys)) ∧ Below w.heap.size w w' := by
  go_enter Tryd.func68, Tryd.ntmps68
  go_wp2_with fail
  go_loop [3, 5, 11] (fun n _ i => (i = .int .i64 0 ∧ n = .int .i64 0) ∨ (i = .int .i64 1 ∧ n = .int .i64 (xs.length : Int)) ∨ (i = .int .i64 2 ∧ n = .int .i64 ((xs.length : Int) + (ys.length : Int)))) (fun _ _ i => 2 - (intOf i).toNat)
  case atStart => exact .inl ⟨rfl, rfl⟩
  case round =>
    rcases hrel with ⟨rfl, rfl⟩ | ⟨rfl, rfl⟩ | ⟨rfl, rfl⟩
    · go_wp2_with fail
      go_round
      case rel => exact .inr (.inl ⟨rfl, by go_num⟩)
      case measure => simp [intOf]
    · go_wp2_with fail
      go_round
      case rel => exact .inr (.inr ⟨rfl, by go_num⟩)
      case measure => simp [intOf]
    · go_wp2_with fail
      have hm : (xs.length : Int) + (ys.length : Int) = ((xs.length + ys.length : Nat) : Int) := by omega
      rw [hm]
      refine (grow_nil (xs.length + ys.length) w (by omega)).mono ?_
      rintro e w1 ⟨v1, rfl, o1, b1⟩
      clear hm
      go_wp2
      go_loopw [6, 8, 27] (fun v _ i wr => Below w.heap.size w wr ∧ ((i = .int .i64 0 ∧ wr.ownsRow w.heap.size 3 1 v ([] : List Int).length (ic [])) ∨ (i = .int .i64 1 ∧ wr.ownsRow w.heap.size 3 1 v xs.length (ic xs)) ∨ (i = .int .i64 2 ∧ wr.ownsRow w.heap.size 3 1 v (xs ++ ys).length (ic (xs ++ ys))))) (fun _ _ i _ => 2 - (intOf i).toNat)
      case atStart => exact ⟨b1, .inl ⟨rfl, o1⟩⟩
      case round =>
        obtain ⟨hbel, hcase⟩ := hrel
        have hgw := block_lt_of_cell c0
        have e0 := later hbel hgw c0
        have e1 := later (p := ⟨g, 1, none⟩) hbel hgw c1
        have r0 := hr.up hbel
        have r1 := hr'.up hbel
        rcases hcase with ⟨rfl, hown⟩ | ⟨rfl, hown⟩ | ⟨rfl, hown⟩
        · go_wp2_with (at_builtin; refine wpList_append_rd rfl _ _ rfl w.heap.size wr.heap.size _ [] xs rfl hown A _ d rfl rfl r0 hN (by simp) (by omega) hbel.size ?_; intro v' w' hap; have hap' := hide hap; clear hap)
          go_roundw
          case rel =>
            obtain ⟨ho, hg, _⟩ := hap'.out
            exact ⟨hbel.grown hg hbel.size fun k hk => (hown.lt k hk).1, .inr (.inl ⟨rfl, by simpa using ho⟩)⟩
          case measure => simp [intOf]
        · go_wp2_with (at_builtin; refine wpList_append_rd rfl _ _ rfl w.heap.size wr.heap.size _ xs ys rfl hown A' _ d' rfl rfl r1 hN' (by omega) (by omega) hbel.size ?_; intro v' w' hap; have hap' := hide hap; clear hap)
          go_roundw
          case rel =>
            obtain ⟨ho, hg, _⟩ := hap'.out
            exact ⟨hbel.grown hg hbel.size fun k hk => (hown.lt k hk).1, .inr (.inr ⟨rfl, ho⟩)⟩
          case measure => simp [intOf]
        · go_wp2
          go_ret
          exact ⟨_, rfl, by rw [List.length_append] at hown; exact hown, hbel⟩
theorem own_shape' {w : World} {B T n size : Nat} {v : Value} {xs : List Value} (h : w.ownsRow B T size v n xs) : ∃ A c, v = .slice A n c ∧ Own w B T A xs ∧ (A = none → xs = []) ∧ ∀ g, ownB A xs = some g → v.ownBlock = some g := by
  have h0 := h
  obtain ⟨hl, h⟩ := h
  rcases h with ⟨rfl, rfl⟩ | ⟨g, cap, cur, rfl, _⟩
  · have : xs = [] := List.eq_nil_of_length_eq_zero (by simpa using hl)
    subst this
    exact ⟨none, 0, rfl, .inl rfl, fun _ => rfl, fun _ h => by cases h⟩
  · refine ⟨_, _, rfl, Own.of_row h0, (fun h => by cases h), fun g' h => ?_⟩
    unfold ownB at h
    split at h
    · cases h
    · simpa [Value.ownBlock] using h
set_option maxRecDepth 100000 in
theorem clone_any (A : Option Addr) (c : Nat) (xs : List Int) (w : World) (hx : xs.length ≤ 1099511627776) (hr : Rd w w.heap.size A (ic xs)) (hN : A = none → xs = []) :
    Calls Tryd.prog 94 #[.slice A xs.length c] w fun e w' => ∃ v, e = .returned v ∧ w'.ownsRow w.heap.size 3 1 v xs.length (ic xs) ∧ Below w.heap.size w w' := by
  have q22 : ∀ (w : World) (a : Option Addr) (n c n' c' : Nat), (binOp .eql 23 (.slice a n c) (.slice none n' c')).run Tryd.prog w = .ok (.bool a.isNone) w := fun w a n c n' c' => Lib.run_eql_slice_nil w _ _ a n c n' c' Tryd.underlying23
  cases A with
  | none =>
    obtain rfl := hN rfl
    go_enter Tryd.func94, Tryd.ntmps94
    go_wp2
    go_ret
    exact ⟨_, rfl, ⟨rfl, .inl ⟨rfl, rfl⟩⟩, Below.refl _ _⟩
  | some a =>
    have hb0 : Below w.heap.size w (w.alloc (.cells #[] 3)) := bel_alloc w _
    have ho : (w.alloc (.cells #[] 3)).ownsRow w.heap.size 3 1 (.slice (some ⟨w.heap.size, 0, none⟩) 0 0) ([] : List Int).length (ic []) := ⟨rfl, .inr ⟨w.heap.size, 0, #[], rfl, Nat.le_refl _, heap_alloc_new _ _, Nat.le_refl _, Nat.zero_le _, rfl, rfl⟩⟩
    have hr0 := hr.up hb0
    go_enter Tryd.func94, Tryd.ntmps94
    go_wp2_with (at_builtin; refine wpList_append_rd rfl _ _ rfl w.heap.size _ _ [] xs rfl ho (some a) _ c rfl rfl hr0 hN (by simp) (by omega) hb0.size ?_; intro v' w' hap; have hap' := hide hap; clear hap)
    go_ret
    obtain ⟨ho', hg, _⟩ := hap'.out
    exact ⟨_, rfl, by simpa using ho', hb0.grown hg hb0.size fun k hk => by have hk' : some w.heap.size = some k := hk; injection hk' with h; omega⟩
end Go.Proofs.YtpiiefmfiipabaaDoor
