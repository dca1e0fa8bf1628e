/- Copies of piles, the program's and the reference's. No conditions but bounds on lengths. -/
import Derived.Test.YtpiiefmfiipabaaDoorCoilAt
namespace Go.Proofs.YtpiiefmfiipabaaDoor
open Go.ChangeShapes Go.WideShapes Go.ChangeAt Go.RowKit Go.Deep
theorem later_mark {B : Nat} {a w1 : World} {p : Addr} {v : Bool} (h : Below B a w1) (hp : p.block < B) (hc : a.frozen? p = v) : w1.frozen? p = v := (h.frozen hp).trans hc
theorem clone_own (A : Option Addr) (c : Nat) (xs : List Int) (w : World) (hx : xs.length ≤ 1099511627776) (hr : Rd w w.heap.size A (ic xs)) (hN : A = none → xs = []) :
    Calls Tryd.prog 94 #[.slice A xs.length c] w fun e w' => ∃ I ci, e = .returned (.slice I xs.length ci) ∧ Own w' w.heap.size 3 I (ic xs) ∧ Below w.heap.size w w' :=
  (clone_any A c xs w hx hr hN).mono fun e w' ⟨v, he, ho, hb⟩ => by
    obtain ⟨I, ci, rfl, oi, _, _⟩ := own_room ho
    exact ⟨I, ci, he, oi, hb⟩
theorem ownP_two {w7 w8 : World} {B : Nat} {I I' : Option Addr} {p : PL} (o7 : Own w7 B 3 I (ic p.1)) (o8 : Own w8 w7.heap.size 3 I' (ic p.2)) (b8 : Below w7.heap.size w7 w8) (hB : B ≤ w7.heap.size) : OwnP w8 B I I' p := by
  refine ⟨o7.below b8, o8.mono hB, fun g g' e e' => ?_⟩
  obtain ⟨hx, a, rfl, ha⟩ := ownB_some e
  obtain ⟨hx', a', rfl, ha'⟩ := ownB_some e'
  obtain ⟨g1, e1, _, r1⟩ := o7.row hx
  obtain ⟨g2, e2, h2, _⟩ := o8.row hx'
  cases e1; cases e2
  have := r1.lt
  simp only at ha ha'
  omega
/-- A pile laid into a box of the call's own. -/
theorem pile_box {w W : World} {B r : Nat} {I I' : Option Addr} {ci ci' : Nat} {p : PL} {u v : Value} (q : Row W r 25 [u, v]) (hr : w.heap.size ≤ r) (o : OwnP W B I I' p) (hrB : r < B) (hb : Below w.heap.size w W) (W' : World)
    (h : (W.setCell ⟨r, 0, none⟩ (.slice I p.1.length ci)).setCell ⟨r, 1, none⟩ (.slice I' p.2.length ci') = W') :
    Row W' r 25 [.slice I p.1.length ci, .slice I' p.2.length ci'] ∧ OwnP W' B I I' p ∧ Below w.heap.size w W' ∧ W'.heap.size = W.heap.size := by
  subst h
  refine ⟨?_, ?_, (hb.setCell (by simp only; omega) _).setCell (by simp only; omega) _, by simp⟩
  · have := (q.set 0 (.slice I p.1.length ci)).set 1 (.slice I' p.2.length ci')
    simpa using this
  · refine (o.keep (grown_set _ _ _) fun g hg => ?_).keep (grown_set _ _ _) fun g hg => ?_
    · simp only [ne_eq, Option.some.injEq]; omega
    · simp only [ne_eq, Option.some.injEq]; omega
theorem OwnP.mono {w : World} {B B' : Nat} {A A' : Option Addr} {p : PL} (h : OwnP w B A A' p) (hB : B' ≤ B) : OwnP w B' A A' p := ⟨h.1.mono hB, h.2.1.mono hB, h.2.2⟩
set_option maxRecDepth 100000 in
set_option maxHeartbeats 1600000 in
theorem copyPile_any (A A' : Option Addr) (c c' : Nat) (p : PL) (w : World) (hp : small p) (rp : RdP w w.heap.size A A' p) :
    Calls Tryd.prog 80 #[.agg #[.slice A p.1.length c, .slice A' p.2.length c']] w (PileOk w p) := by
  obtain ⟨hp1, hp2⟩ := hp
  go_enter Tryd.func80, Tryd.ntmps80
  go_wp2_with fail
  obtain ⟨b0, k0, k1, k2, k3, hz⟩ := box_two w 25 25 (.slice A p.1.length c) (.slice A' p.2.length c') (.slice none 0 0) (.slice none 0 0) _ rfl
  have q1 : Row ((w.alloc (.cells #[.slice A p.1.length c, .slice A' p.2.length c'] 25)).alloc (.cells #[.slice none 0 0, .slice none 0 0] 25)) (w.heap.size + 1) 25 [.slice none 0 0, .slice none 0 0] := (Row.new _ _ _).eq (by simp)
  generalize (w.alloc (.cells #[.slice A p.1.length c, .slice A' p.2.length c'] 25)).alloc (.cells #[.slice none 0 0, .slice none 0 0] 25) = w0 at *
  have f2 := q1.frozen 0
  have f3 := q1.frozen 1
  have rp0 := rp.up b0
  have hN := rp0.1.isNone
  have hN' := rp0.2.isNone
  have K0 := Ext.old k0
  have K1 := Ext.old k1
  have K2 := Ext.old k2
  have K3 := Ext.old k3
  have F2 := Ext.mark q1.lt f2
  have F3 := Ext.mark q1.lt f3
  go_region_with ((first | (go_at_call 94; refine (clone_own A c p.1 _ hp1 ?_ hN).mono ?_; exact rp0.1.up (by first | exact Ext.below _ | go_grown); rintro e w7 ⟨I, ci, rfl, o7, b7⟩; have B7 : Below w0.heap.size w0 w7 := via (by first | exact Ext.below _ | go_grown) b7 (by first | exact (Ext.below _).size | go_size); obtain ⟨x7, rfl⟩ : ∃ y : Ext w0, w7 = y.val := ⟨⟨w7, B7⟩, rfl⟩) | (go_at_call 94; refine (clone_own A' c' p.2 _ hp2 ?_ hN').mono ?_; exact rp0.2.up (by first | exact Ext.below _ | go_grown); rintro e w8 ⟨I', ci', rfl, o8, b8⟩; have B8 : Below w0.heap.size w0 w8 := via (by first | exact Ext.below _ | go_grown) b8 (by first | exact (Ext.below _).size | go_size); obtain ⟨x8, rfl⟩ : ∃ y : Ext w0, w8 = y.val := ⟨⟨w8, B8⟩, rfl⟩)))
  all_goals
    go_wp2
    have z7 := x7.below.size
    obtain ⟨q2, op, bb, _⟩ := pile_box (ci := ci) (ci' := ci') (q1.after x8.below) (by omega) (ownP_two (B := w0.heap.size) o7 o8 b8 z7) (by omega) (via b0 x8.below b0.size) _ rfl
    generalize (x8.val.setCell ⟨w.heap.size + 1, 0, none⟩ (.slice I p.1.length ci)).setCell ⟨w.heap.size + 1, 1, none⟩ (.slice I' p.2.length ci') = wz at *
    obtain ⟨k5, k6⟩ := q2.boxed
    refine bodyPost_ret (by simp [results, Tryd.results80, go_sem, k5, k6]; try rfl) rfl ?_
    exact ⟨I, ci, I', ci', rfl, op.mono (by omega), bb⟩
/-- An append to a slice without room: a new array, or nothing. -/
theorem run_append_fresh (w : World) (B : Nat) (ty : TypeId) (b : Addr) (zs : List Int) (A : Option Addr) (n c : Nat) (hn : n = zs.length) (hr : Rd w B A (ic zs)) (hnil : A = none → zs = []) (hz : zs.length ≤ 1099511627776) :
    ∃ I ci w', (Builtin.append_ #[23, 23] ty #[.slice (some b) 0 0, .slice A n c]).run Tryd.prog w = .ok (.slice I zs.length ci) w' ∧ Own w' w.heap.size 3 I (ic zs) ∧ Below w.heap.size w w' := by
  obtain ⟨i0, hi, hz0, hz1, hz2⟩ := info_parts intInfo
  subst hn
  by_cases h0 : zs = []
  · subst h0
    refine ⟨some b, 0, w, ?_, .inl rfl, Below.refl _ _⟩
    cases A with
    | none => simp [Builtin.append_, run_underlying Tryd.underlying23, sizeOf, typeInfo, hi, Builtin.lenOf, Builtin.firstCells, storeCells]
    | some a =>
      have hf := run_firstCells_some (P := Tryd.prog) w i0.size 0 a 0 c [] (by simp) (by intro j v hj; simp at hj)
      simp [Builtin.append_, run_underlying Tryd.underlying23, sizeOf, typeInfo, hi, Builtin.lenOf, hf, storeCells]
  · have hl : 0 < zs.length := List.length_pos_iff.2 h0
    cases A with
    | none => exact absurd (hnil rfl) h0
    | some a =>
      have hnews : ∀ j u, (ic zs)[j]? = some u → w.cell? (a.add j) = some u := by
        intro j u hj
        have hlt : j < (ic zs).length := by
          rcases Nat.lt_or_ge j (ic zs).length with h | h
          · exact h
          · rw [List.getElem?_eq_none h] at hj; cases hj
        obtain ⟨b, o, hA, _, hc⟩ := hr.at (k := j) hlt
        cases hA
        have := hc j hlt
        rw [← List.getElem?_eq_getElem hlt, hj] at this
        rw [add_plain]; exact this.symm ▸ rfl
      have hrun := run_append_grow (P := Tryd.prog) w 23 ty 3 i0 (.int .i64 0) Tryd.underlying23 hi hz0 b 0 0 [] (by simp) (by intro j v hj; simp at hj) a zs.length c (ic zs) (by rw [ic_len, hz1]; omega) hnews (by omega) (by omega) (growslice_fits (by omega) (by rw [hz2]; omega))
      simp only [Nat.zero_add] at hrun
      refine ⟨_, _, _, hrun, .inr ⟨w.heap.size, _, rfl, Nat.le_refl _, heap_alloc_new _ _, fun j hj => ?_⟩, by go_grown⟩
      rw [ic_len] at hj
      simp [ic, Array.getElem?_append, hj]
theorem step_append_fresh {ops : Array Oper} {o : Oper} {a : Act} {w : World} {K : Act → World → Prop} {Q : Exit → Act → World → Prop} {E : Prop} (hgd : o.guard = none) (s x : Operand) (ho : o.op = .call { callee := .builtin .append, args := #[s, x], argTypes := #[23, 23] })
    (B : Nat) (b : Addr) (zs : List Int) (hs : a.eval s = .slice (some b) 0 0) (A : Option Addr) (n c : Nat) (hx : a.eval x = .slice A n c) (hn : n = zs.length) (hr : Rd w B A (ic zs)) (hnil : A = none → zs = []) (hz : zs.length ≤ 1099511627776)
    (hK : ∀ I ci w', Own w' w.heap.size 3 I (ic zs) → Below w.heap.size w w' → K (a.put o.dst (.slice I zs.length ci)) w') : if Region.wanted o (yielded ops a.tmps) = true then Oper.wp Tryd.prog o a w K Q else E := by
  have hw : Region.wanted o (yielded ops a.tmps) = true := by simp [Region.wanted, hgd]
  rw [if_pos hw]
  obtain ⟨I, ci, w', hrun, ho', hb⟩ := run_append_fresh w B o.type b zs A n c hn hr hnil hz
  unfold Oper.wp
  simp [execOp, ho, resolve, invoke, builtin, hs, hx, hrun, Result.andThen]
  exact hK I ci w' ho' hb
theorem ownP_two' {w7 w8 : World} {B : Nat} {I I' : Option Addr} {p : PL} (o7 : Own w7 B 3 I' (ic p.2)) (o8 : Own w8 w7.heap.size 3 I (ic p.1)) (b8 : Below w7.heap.size w7 w8) (hB : B ≤ w7.heap.size) : OwnP w8 B I I' p := by
  have h := ownP_two (p := (p.2, p.1)) o7 o8 b8 hB
  exact ⟨h.2.1, h.1, fun g g' e e' hne => h.2.2 g' g e' e hne.symm⟩
theorem Own.later {w w' : World} {B C : Nat} {T : TypeId} {A : Option Addr} {xs : List Value} (h : Own w B T A xs) (hb : Below w.heap.size w w') (hC : C ≤ B) : Own w' C T A xs := (h.below hb).mono hC
set_option maxHeartbeats 1600000 in
theorem l6Copy_any (A A' : Option Addr) (c c' : Nat) (p : PL) (w : World) (hp : small p) (rp : RdP w w.heap.size A A' p) :
    Calls Tryd.prog 81 #[.agg #[.slice A p.1.length c, .slice A' p.2.length c']] w (PileOk w p) := by
  obtain ⟨hp1, hp2⟩ := hp
  go_enter Tryd.func81, Tryd.ntmps81
  go_wp2_with fail
  obtain ⟨b0, k0, k1, k2, k3, hz⟩ := box_two w 25 25 (.slice A p.1.length c) (.slice A' p.2.length c') (.slice none 0 0) (.slice none 0 0) _ rfl
  have q1 : Row ((w.alloc (.cells #[.slice A p.1.length c, .slice A' p.2.length c'] 25)).alloc (.cells #[.slice none 0 0, .slice none 0 0] 25)) (w.heap.size + 1) 25 [.slice none 0 0, .slice none 0 0] := (Row.new _ _ _).eq (by simp)
  generalize (w.alloc (.cells #[.slice A p.1.length c, .slice A' p.2.length c'] 25)).alloc (.cells #[.slice none 0 0, .slice none 0 0] 25) = w0 at *
  have f2 := q1.frozen 0
  have f3 := q1.frozen 1
  have rp0 := rp.up b0
  have hN := rp0.1.isNone
  have hN' := rp0.2.isNone
  have K0 := Ext.old k0
  have K1 := Ext.old k1
  have K2 := Ext.old k2
  have K3 := Ext.old k3
  have F2 := Ext.mark q1.lt f2
  have F3 := Ext.mark q1.lt f3
  have Z := Ext.size q1.lt
  go_region_held3 (fun w' => w'.cell? ⟨w.heap.size, 0, none⟩ = some (.slice A p.1.length c) ∧ w'.cell? ⟨w.heap.size, 1, none⟩ = some (.slice A' p.2.length c'))
    (refine ⟨?_, ?_⟩ <;> first | exact K0 _ | exact K1 _ | (simp [go_sem, K0, K1]; done) | exact later (a := w0) (B := w0.heap.size) (by go_grown) (by go_size) (by assumption))
    (first
      | (refine step_append_fresh (by rfl) (.tmp 3) (.tmp 5) (by rfl) w0.heap.size _ p.1 (by rfl) A _ c (by rfl) rfl ((rp0.1.below (by first | exact Ext.below _ | go_grown))) hN hp1 ?_
         intro I ci w7 o7 b7
         have B7 : Below w0.heap.size w0 w7 := via (by first | exact Ext.below _ | go_grown) b7 (by first | exact (Ext.below _).size | go_size)
         have z7 := B7.size
         obtain ⟨x7, rfl⟩ : ∃ y : Ext w0, w7 = y.val := ⟨⟨w7, B7⟩, rfl⟩)
      | (refine step_append_fresh (by rfl) (.tmp 7) (.tmp 9) (by rfl) w0.heap.size _ p.2 (by rfl) A' _ c' (by rfl) rfl ((rp0.2.below (by first | exact Ext.below _ | go_grown))) hN' hp2 ?_
         intro I' ci' w8 o8 b8
         have B8 : Below w0.heap.size w0 w8 := via (by first | exact Ext.below _ | go_grown) b8 (by first | exact (Ext.below _).size | go_size)
         have z8 := B8.size
         obtain ⟨x8, rfl⟩ : ∃ y : Ext w0, w8 = y.val := ⟨⟨w8, B8⟩, rfl⟩))
  all_goals
    go_wp2
    have b78 : Below x7.val.heap.size x7.val x8.val := by first | exact b8 | exact via (bel_alloc _ _) b8 (by simp)
    have o7' : Own x7.val w0.heap.size 3 I (ic p.1) := o7.mono (by simp <;> omega)
    have o8' : Own x8.val x7.val.heap.size 3 I' (ic p.2) := o8.mono (by simp)
    obtain ⟨q2, op, bb, _⟩ := pile_box (ci := ci) (ci' := ci') (q1.after x8.below) (by omega) (ownP_two (B := w0.heap.size) o7' o8' b78 z7) (by omega) (via b0 x8.below b0.size) _ rfl
    generalize (x8.val.setCell ⟨w.heap.size + 1, 0, none⟩ (.slice I p.1.length ci)).setCell ⟨w.heap.size + 1, 1, none⟩ (.slice I' p.2.length ci') = wz at *
    obtain ⟨k5, k6⟩ := q2.boxed
    refine bodyPost_ret (by simp [results, Tryd.results81, go_sem, k5, k6]; try rfl) rfl ?_
    exact ⟨I, ci, I', ci', rfl, op.mono (by omega), bb⟩
end Go.Proofs.YtpiiefmfiipabaaDoor
