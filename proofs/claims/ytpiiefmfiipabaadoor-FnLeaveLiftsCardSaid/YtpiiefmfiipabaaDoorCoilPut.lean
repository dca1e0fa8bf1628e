/- CoilPut, the program's and the reference's. No conditions but bounds on lengths. -/
import Derived.Test.YtpiiefmfiipabaaDoorCoilCopy
import Derived.Test.YtpiiefmfiipabaaDoorBoxes
namespace Go.Proofs.YtpiiefmfiipabaaDoor
open Go.ChangeShapes Go.WideShapes Go.ChangeAt Go.RowKit Go.Deep
/-- A call that hands back a pile in memory of its own, and a value beside it. -/
def PileV (w : World) (q : PL) (v : Value) (e : Ending) (w' : World) : Prop :=
  ∃ A c A' c', e = .returned (.tuple #[.agg #[.slice A q.1.length c, .slice A' q.2.length c'], v]) ∧ OwnP w' w.heap.size A A' q ∧ Below w.heap.size w w'
/-- A pile laid into the box of the result. -/
theorem pile_ret {w W : World} {B r : Nat} {I I' : Option Addr} {n n' ci ci' : Nat} {p : PL} {u v : Value} (q : Row W r 25 [u, v]) (hn : n = p.1.length) (hn' : n' = p.2.length) (hr : w.heap.size ≤ r) (o : OwnP W B I I' p) (hrB : r < B) (hb : Below w.heap.size w W) (W' : World)
    (h : (W.setCell ⟨r, 0, none⟩ (.slice I n ci)).setCell ⟨r, 1, none⟩ (.slice I' n' ci') = W') :
    W'.cell? ⟨r, 0, none⟩ = some (.slice I n ci) ∧ W'.cell? ⟨r, 1, none⟩ = some (.slice I' n' ci') ∧ ∀ x : Value, PileV w p x (.returned (.tuple #[.agg #[.slice I n ci, .slice I' n' ci'], x])) W' := by
  subst hn hn'
  obtain ⟨a, b, c, _⟩ := pile_box q hr o hrB hb W' h
  exact ⟨a.boxed.1, a.boxed.2, fun x => ⟨I, ci, I', ci', rfl, b.mono (by omega), c⟩⟩
theorem ownP_none (w : World) (B : Nat) (A A' : Option Addr) : OwnP w B A A' ([], []) := ⟨.inl rfl, .inl rfl, fun _ _ h => by cases h⟩
theorem small_set {p : PL} {t : Bool} {k : Nat} {x : Int} (h : small p) : small (setRow p t k x) := by
  unfold small at *; cases t <;> simpa [setRow] using h
theorem ret_pile {P : Program} {f : Func} {Q : Ending → World → Prop} {a : Act} {w W : World} {B r : Nat} {I I' : Option Addr} {n n' ci ci' : Nat} {p : PL} {u v : Value} (q : Row W r 25 [u, v]) (hn : n = p.1.length) (hn' : n' = p.2.length) (hr : w.heap.size ≤ r) (o : OwnP W B I I' p) (hrB : r < B) (hb : Below w.heap.size w W)
    (h : ∀ W' : World, W'.cell? ⟨r, 0, none⟩ = some (.slice I n ci) → W'.cell? ⟨r, 1, none⟩ = some (.slice I' n' ci') → Hid (∀ x : Value, PileV w p x (.returned (.tuple #[.agg #[.slice I n ci, .slice I' n' ci'], x])) W') → bodyPost P f Q Exit.ret a W') :
    bodyPost P f Q Exit.ret a ((W.setCell ⟨r, 0, none⟩ (.slice I n ci)).setCell ⟨r, 1, none⟩ (.slice I' n' ci')) := by
  obtain ⟨k5, k6, fin⟩ := pile_ret q hn hn' hr o hrB hb _ rfl
  exact h _ k5 k6 fin
theorem OwnP.low {w : World} {B g i : Nat} {I' : Option Addr} {p : PL} {x : Int} (o : OwnP w B (some ⟨g, 0, none⟩) I' p) (hi : i < p.1.length) : OwnP (w.setCell ⟨g, i, none⟩ (.int .i64 x)) B (some ⟨g, 0, none⟩) I' (setRow p false i x) := by
  have hne : ic p.1 ≠ [] := by intro e; have := congrArg List.length e; rw [ic_len] at this; simp only [List.length_nil] at this; omega
  obtain ⟨g', e, hB, r⟩ := o.1.row hne
  cases e
  have hb : ownB (some (⟨g, 0, none⟩ : Addr)) (ic p.1) = some g := by rw [ownB_cons _ hne]; rfl
  have hs : (ic p.1).set i (.int .i64 x) = ic (p.1.set i x) := by simp [ic, List.map_set]
  refine ⟨?_, ?_, fun a b h1 h2 => ?_⟩
  · have := (r.set i (.int .i64 x)).own hB
    rw [hs] at this; exact this
  · exact o.2.1.keep (grown_set _ _ _) fun a ha e => o.2.2 g a hb ha (by simpa using e)
  · refine o.2.2 a b ?_ h2
    rw [← h1]
    exact ownB_len (by simp [setRow, ic_len])
theorem OwnP.swap {w : World} {B : Nat} {I I' : Option Addr} {p : PL} (o : OwnP w B I I' p) : OwnP w B I' I (p.2, p.1) := ⟨o.2.1, o.1, fun g g' e e' h => o.2.2 g' g e' e h.symm⟩
theorem OwnP.high {w : World} {B g i : Nat} {I : Option Addr} {p : PL} {x : Int} (o : OwnP w B I (some ⟨g, 0, none⟩) p) (hi : i < p.2.length) : OwnP (w.setCell ⟨g, i, none⟩ (.int .i64 x)) B I (some ⟨g, 0, none⟩) (setRow p true i x) :=
  (o.swap.low (i := i) (x := x) hi).swap
theorem Row.int {w : World} {g : Nat} {z : List Int} (r : Row w g 3 (ic z)) {i : Nat} (hi : i < z.length) : (∀ x : Ext w, x.val.cell? ⟨g, i, none⟩ = some (.int .i64 z[i])) ∧ ∀ x : Ext w, x.val.frozen? ⟨g, i, none⟩ = false :=
  ⟨fun x => by have := (r.after x.below).cell (j := i) (by rw [ic_len]; exact hi); rw [this]; simp [ic], fun x => (r.after x.below).frozen i⟩
theorem own_row {w : World} {B : Nat} {I : Option Addr} {z : List Int} (o : Own w B 3 I (ic z)) {i : Nat} (hi : i < z.length) : ∃ g, I = some ⟨g, 0, none⟩ ∧ B ≤ g ∧ g < w.heap.size ∧ Row w g 3 (ic z) := by
  obtain ⟨g, e, hB, r⟩ := o.row (by intro e; have := congrArg List.length e; rw [ic_len] at this; simp only [List.length_nil] at this; omega)
  exact ⟨g, e, hB, r.lt, r⟩
theorem pileValid_at (A A' : Option Addr) (n n' c c' : Nat) (p : PL) (w : World) (hn : n = p.1.length) (hn' : n' = p.2.length) (hp : small p) (rp : RdP w w.heap.size A A' p) :
    Calls Tryd.prog 18 #[.agg #[.slice A n c, .slice A' n' c']] w fun e w' => e = .returned (.bool (pileValid p)) ∧ Below w.heap.size w w' := by subst hn hn'; exact pileValid_any A A' c c' p w hp rp
theorem pileValid_at_spec (A A' : Option Addr) (n n' c c' : Nat) (p : PL) (w : World) (hn : n = p.1.length) (hn' : n' = p.2.length) (hp : small p) (rp : RdP w w.heap.size A A' p) :
    Calls Tryd.prog 19 #[.agg #[.slice A n c, .slice A' n' c']] w fun e w' => e = .returned (.bool (pileValid p)) ∧ Below w.heap.size w w' := by subst hn hn'; exact pileValid_spec A A' c c' p w hp rp
theorem setRow_len (p : PL) (t : Bool) (k : Nat) (x : Int) : p.1.length = (setRow p t k x).1.length ∧ p.2.length = (setRow p t k x).2.length := by cases t <;> simp [setRow]
set_option maxHeartbeats 1600000 in
set_option maxRecDepth 100000 in
theorem coilPut_any (A A' : Option Addr) (c c' : Nat) (p : PL) (t : Bool) (k id : Int) (w : World) (hp : small p) (rp : RdP w w.heap.size A A' p) :
    Calls Tryd.prog 36 #[.agg #[.slice A p.1.length c, .slice A' p.2.length c'], .agg #[.bool t, .int .i64 k], .int .i64 id] w (PileV w (coilPut p t k id).1 (.bool (coilPut p t k id).2)) := by
  have hE := hide hp
  go_enter Tryd.func36, Tryd.ntmps36
  go_wp2_with fail
  obtain ⟨b0, q0, q1, q2, hz⟩ := box_three w 25 31 25 (.slice A p.1.length c) (.slice A' p.2.length c') (.bool t) (.int .i64 k) (.slice none 0 0) (.slice none 0 0) _ rfl
  generalize ((w.alloc (.cells #[.slice A p.1.length c, .slice A' p.2.length c'] 25)).alloc (.cells #[.bool t, .int .i64 k] 31)).alloc (.cells #[.slice none 0 0, .slice none 0 0] 25) = w0 at *
  obtain ⟨K0, K1, _, _⟩ := q0.ext2
  obtain ⟨K2, K3, _, _⟩ := q1.ext2
  obtain ⟨K4, K5, F4, F5⟩ := q2.ext2
  have RP := hide (fun x : Ext w0 => (rp.up b0).up x.below)
  obtain ⟨x0, hx0⟩ := ext_self w0
  rw [← hx0]
  clear hx0
  cases hv : pileValid p
  · have HF := hide (show coilPut p t k id = (([], []), false) by simp [coilPut, hv])
    go_wp2_with (go_at_call 18; refine (pileValid_any A A' c c' p _ hE.out (RP.out _)).mono ?_; rintro e w' ⟨rfl, b⟩; rw [hv]; obtain ⟨x, rfl⟩ := ext_next b; clear b)
    refine ret_pile (w := w) (q2.after (Ext.below _)) (by first | rfl | exact hl.1) (by first | rfl | exact hl.2) (by omega) (ownP_none _ (w.heap.size + 1 + 1 + 1) none none) (by first | exact q2.size _ | omega) (via b0 (Ext.below _) b0.size) ?_
    intro wz k5 k6 fin
    refine bodyPost_ret (by simp [results, Tryd.results36, go_sem, k5, k6]; try rfl) rfl ?_
    rw [HF.out]
    exact fin.out _
  · by_cases h1 : id < 1 ∨ coilAt p t k ≠ 0
    · have HF := hide (show coilPut p t k id = (p, false) by unfold coilPut; rw [if_pos hv, if_pos (by simpa using h1)])
      have HV := hide hv
      clear hv
      by_cases h2 : id < 1
      · clear h1
        go_wp2_with (first | (go_at_call 18; refine (pileValid_any A A' c c' p _ hE.out (RP.out _)).mono ?_; rintro e w' ⟨rfl, b⟩; rw [HV.out]; obtain ⟨x, rfl⟩ := ext_next b; clear b) | (go_at_call 80; refine (copyPile_any A A' c c' p _ hE.out (RP.out _)).mono ?_; rintro e w' ⟨I, ci, I', ci', rfl, op, b⟩; obtain ⟨y, rfl⟩ := ext_next b))
        have zx := x.below.size
        refine ret_pile (w := w) (q2.after (Ext.below _)) (by first | rfl | exact hl.1) (by first | rfl | exact hl.2) (by omega) op (by first | exact q2.size _ | omega) (via b0 (Ext.below _) b0.size) ?_
        intro wz k5 k6 fin
        refine bodyPost_ret (by simp [results, Tryd.results36, go_sem, k5, k6]; try rfl) rfl ?_
        rw [HF.out]
        exact fin.out _
      · have h3 : (coilAt p t k != 0) = true := by simpa using h1.resolve_left h2
        clear h1
        go_wp2_with (first | (go_at_call 18; refine (pileValid_any A A' c c' p _ hE.out (RP.out _)).mono ?_; rintro e w' ⟨rfl, b⟩; rw [HV.out]; obtain ⟨x, rfl⟩ := ext_next b; clear b) | (go_at_call 22; refine (coilAt_any A A' c c' p t k _ hE.out (RP.out _)).mono ?_; rintro e w' ⟨rfl, b⟩; obtain ⟨x, rfl⟩ := ext_next b; clear b) | (go_at_call 80; refine (copyPile_any A A' c c' p _ hE.out (RP.out _)).mono ?_; rintro e w' ⟨I, ci, I', ci', rfl, op, b⟩; obtain ⟨y, rfl⟩ := ext_next b))
        refine ret_pile (w := w) (q2.after (Ext.below _)) (by first | rfl | exact hl.1) (by first | rfl | exact hl.2) (by omega) op (by first | exact q2.size _ | omega) (via b0 (Ext.below _) b0.size) ?_
        intro wz k5 k6 fin
        refine bodyPost_ret (by simp [results, Tryd.results36, go_sem, k5, k6]; try rfl) rfl ?_
        rw [HF.out]
        exact fin.out _
    · have h2 : ¬ id < 1 := fun h => h1 (.inl h)
      have h0 : coilAt p t k = 0 := Classical.byContradiction fun h => h1 (.inr h)
      have h3 : (coilAt p t k != 0) = false := by simp [h0]
      have HV := hide hv
      obtain ⟨V, hk, hin, _⟩ := coilAt_zero h0
      obtain ⟨i, rfl⟩ : ∃ i : Nat, k = (i : Int) := ⟨k.toNat, by omega⟩
      clear h1 hv
      have H0 := hide h0
      clear h0 V hk
      go_wp2_with (first | (go_at_call 18; refine (pileValid_any A A' c c' p _ hE.out (RP.out _)).mono ?_; rintro e w' ⟨rfl, b⟩; rw [HV.out]; obtain ⟨x, rfl⟩ := ext_next b; clear b) | (go_at_call 22; refine (coilAt_any A A' c c' p t _ _ hE.out (RP.out _)).mono ?_; rintro e w' ⟨rfl, b⟩; obtain ⟨x, rfl⟩ := ext_next b; clear b) | (go_at_call 80; refine (copyPile_any A A' c c' p _ hE.out (RP.out _)).mono ?_; rintro e w' ⟨I, ci, I', ci', rfl, op, b⟩; obtain ⟨y, rfl⟩ := ext_next b))
      have hxx := q2.size x
      have hxy := b.size
      have q0a := (q0.after y.below).alloc (.cells #[.slice I p.1.length ci, .slice I' p.2.length ci'] 25)
      have q1a := (q1.after y.below).alloc (.cells #[.slice I p.1.length ci, .slice I' p.2.length ci'] 25)
      have q2a := (q2.after y.below).alloc (.cells #[.slice I p.1.length ci, .slice I' p.2.length ci'] 25)
      have q3a := Row.new y.val 25 #[.slice I p.1.length ci, .slice I' p.2.length ci']
      have opa := op.below (bel_one y.val (.cells #[.slice I p.1.length ci, .slice I' p.2.length ci'] 25))
      have opl := op.lt
      have ba := via (via b0 y.below b0.size) (bel_one y.val (.cells #[.slice I p.1.length ci, .slice I' p.2.length ci'] 25)) (by have := (via b0 y.below b0.size).size; omega)
      generalize y.val.alloc (.cells #[.slice I p.1.length ci, .slice I' p.2.length ci'] 25) = w1 at *
      generalize y.val.heap.size = gA at *
      generalize x.val.heap.size = B at *
      clear K0 K1 K2 K3 K4 K5 F4 F5 RP op b
      obtain ⟨K0, K1, _, _⟩ := q0a.ext2
      obtain ⟨K2, K3, _, _⟩ := q1a.ext2
      obtain ⟨K4, K5, F4, F5⟩ := q2a.ext2
      obtain ⟨K6, K7, _, _⟩ := q3a.ext2
      obtain ⟨x1, hx1⟩ := ext_self w1
      rw [← hx1]
      clear hx1
      have i0 : (0 : Int) ≤ (i : Int) := by omega
      have hi : i < (rowOf p t).length := hin
      cases t
      · have hi' : i < p.1.length := hi
        have i1 : (i : Int) < (p.1.length : Int) := by omega
        obtain ⟨gr, rfl, hB, hlt, rr⟩ := own_row opa.1 hi'
        have hgr := (opl gr (.inl (by rw [ownB_cons _ (by intro e; have := congrArg List.length e; rw [ic_len] at this; simp only [List.length_nil] at this; omega)]; rfl))).2
        obtain ⟨C0, G0⟩ := rr.int hi'
        have n1 : ¬ w.heap.size = gr := by omega
        have n2 : ¬ w.heap.size + 1 = gr := by omega
        have n3 : ¬ gA = gr := by omega
        go_region_held3 (fun w' => (w'.cell? ⟨gA, 0, none⟩ = some (.slice (some ⟨gr, 0, none⟩) p.1.length ci) ∧ w'.cell? ⟨gA, 1, none⟩ = some (.slice I' p.2.length ci')) ∧ w'.cell? ⟨w.heap.size + 1, 0, none⟩ = some (.bool false) ∧ w'.cell? ⟨w.heap.size + 1, 1, none⟩ = some (.int .i64 (i : Int)))
          (refine ⟨⟨?_, ?_⟩, ?_, ?_⟩ <;> first | exact K6 _ | exact K7 _ | exact K2 _ | exact K3 _ | (simp [go_sem, K6, K7, K2, K3]; done))
          ((go_at_call 76; refine (row_low _ _ _ _ _ _ _ _).mono ?_; rintro e w7 ⟨rfl, b7⟩; have B7 : Below w1.heap.size w1 w7 := via (by first | exact Ext.below _ | exact (Ext.below _).drew | go_grown) b7 (by first | exact (Ext.below _).size | go_size); obtain ⟨x7, rfl⟩ : ∃ y : Ext w1, w7 = y.val := ⟨⟨w7, B7⟩, rfl⟩))
        all_goals
          go_wp2_with fail
          have op2 := (opa.below x7.below).low (x := id) hi'
          have q0b := (q0a.after x7.below).far (p := ⟨gr, i, none⟩) (by simp only; omega) (.int .i64 id)
          have q2b := (q2a.after x7.below).far (p := ⟨gr, i, none⟩) (by simp only; omega) (.int .i64 id)
          have q3b := (q3a.after x7.below).far (p := ⟨gr, i, none⟩) (by simp only; omega) (.int .i64 id)
          have bb := (via ba x7.below ba.size).setCell (p := ⟨gr, i, none⟩) (by simp only; omega) (.int .i64 id)
          have hc : coilPut p false (i : Int) id = if pileValid (setRow p false i id) = true then (setRow p false i id, true) else (p, false) := by unfold coilPut; rw [if_pos HV.out, if_neg (by simp only [Bool.or_eq_true, decide_eq_true_eq, not_or]; exact ⟨by omega, fun h => h H0.out⟩)]; rfl
          have hl := setRow_len p false i id
          have hq := small_set (t := false) (k := i) (x := id) hp
          generalize x7.val.setCell ⟨gr, i, none⟩ (.int .i64 id) = w2 at *
          generalize hqq : setRow p false i id = q at *
          have HC := hide hc
          have HQ := hide hqq
          have HL := hide hl
          clear hc hqq hl K0 K1 K2 K3 K4 K5 F4 F5 K6 K7 C0 G0
          obtain ⟨K0, K1, _, _⟩ := q0b.ext2
          obtain ⟨K4, K5, F4, F5⟩ := q2b.ext2
          obtain ⟨K6, K7, _, _⟩ := q3b.ext2
          have RP := hide (fun x : Ext w2 => (rp.up bb).up x.below)
          have RQ := hide (fun x : Ext w2 => op2.rd.up x.below)
          have hl : p.1.length = p.1.length ∧ p.2.length = p.2.length := ⟨rfl, rfl⟩
          have q2 := q2b
          clear hl
          obtain ⟨x2, hx2⟩ := ext_self w2
          rw [← hx2]
          clear hx2
          cases hv2 : pileValid q
          · have HF := hide (show coilPut p false (i : Int) id = (p, false) by rw [HC.out, if_neg (by simp [hv2])])
            go_wp2_with (first | (go_at_call 18; refine (pileValid_at _ _ _ _ _ _ q _ HL.out.1 HL.out.2 hq (RQ.out _)).mono ?_; rintro e w' ⟨rfl, b⟩; rw [hv2]; obtain ⟨x, rfl⟩ := ext_next b; clear b) | (go_at_call 80; refine (copyPile_any A A' c c' p _ hp (RP.out _)).mono ?_; rintro e w' ⟨M, cm, M', cm', rfl, op, b⟩; obtain ⟨y, rfl⟩ := ext_next b))
            refine ret_pile (w := w) (q2b.after (Ext.below _)) (by first | rfl | exact hl.1) (by first | rfl | exact hl.2) (by omega) op (by first | exact q2.size _ | omega) (via bb (Ext.below _) bb.size) ?_
            intro wz k5 k6 fin
            refine bodyPost_ret (by simp [results, Tryd.results36, go_sem, k5, k6]; try rfl) rfl ?_
            rw [HF.out]
            exact fin.out _
          · have HF := hide (show coilPut p false (i : Int) id = (q, true) by rw [HC.out, if_pos hv2])
            go_wp2_with (go_at_call 18; refine (pileValid_at _ _ _ _ _ _ q _ HL.out.1 HL.out.2 hq (RQ.out _)).mono ?_; rintro e w' ⟨rfl, b⟩; rw [hv2]; obtain ⟨x, rfl⟩ := ext_next b; clear b)
            have hl := HL.out
            refine ret_pile (w := w) (q2b.after (Ext.below _)) (by first | rfl | exact hl.1) (by first | rfl | exact hl.2) (by omega) (op2.below (Ext.below _)) (by first | exact q2.size _ | omega) (via bb (Ext.below _) bb.size) ?_
            intro wz k5 k6 fin
            refine bodyPost_ret (by simp [results, Tryd.results36, go_sem, k5, k6]; try rfl) rfl ?_
            rw [HF.out]
            exact fin.out _
      · have hi' : i < p.2.length := hi
        have i1 : (i : Int) < (p.2.length : Int) := by omega
        obtain ⟨gr, rfl, hB, hlt, rr⟩ := own_row opa.2.1 hi'
        have hgr := (opl gr (.inr (by rw [ownB_cons _ (by intro e; have := congrArg List.length e; rw [ic_len] at this; simp only [List.length_nil] at this; omega)]; rfl))).2
        obtain ⟨C0, G0⟩ := rr.int hi'
        have n1 : ¬ w.heap.size = gr := by omega
        have n2 : ¬ w.heap.size + 1 = gr := by omega
        have n3 : ¬ gA = gr := by omega
        go_region_held3 (fun w' => (w'.cell? ⟨gA, 0, none⟩ = some (.slice I p.1.length ci) ∧ w'.cell? ⟨gA, 1, none⟩ = some (.slice (some ⟨gr, 0, none⟩) p.2.length ci')) ∧ w'.cell? ⟨w.heap.size + 1, 0, none⟩ = some (.bool true) ∧ w'.cell? ⟨w.heap.size + 1, 1, none⟩ = some (.int .i64 (i : Int)))
          (refine ⟨⟨?_, ?_⟩, ?_, ?_⟩ <;> first | exact K6 _ | exact K7 _ | exact K2 _ | exact K3 _ | (simp [go_sem, K6, K7, K2, K3]; done))
          ((go_at_call 76; refine (row_high _ _ _ _ _ _ _ _).mono ?_; rintro e w7 ⟨rfl, b7⟩; have B7 : Below w1.heap.size w1 w7 := via (by first | exact Ext.below _ | exact (Ext.below _).drew | go_grown) b7 (by first | exact (Ext.below _).size | go_size); obtain ⟨x7, rfl⟩ : ∃ y : Ext w1, w7 = y.val := ⟨⟨w7, B7⟩, rfl⟩))
        all_goals
          go_wp2_with fail
          have op2 := (opa.below x7.below).high (x := id) hi'
          have q0b := (q0a.after x7.below).far (p := ⟨gr, i, none⟩) (by simp only; omega) (.int .i64 id)
          have q2b := (q2a.after x7.below).far (p := ⟨gr, i, none⟩) (by simp only; omega) (.int .i64 id)
          have q3b := (q3a.after x7.below).far (p := ⟨gr, i, none⟩) (by simp only; omega) (.int .i64 id)
          have bb := (via ba x7.below ba.size).setCell (p := ⟨gr, i, none⟩) (by simp only; omega) (.int .i64 id)
          have hc : coilPut p true (i : Int) id = if pileValid (setRow p true i id) = true then (setRow p true i id, true) else (p, false) := by unfold coilPut; rw [if_pos HV.out, if_neg (by simp only [Bool.or_eq_true, decide_eq_true_eq, not_or]; exact ⟨by omega, fun h => h H0.out⟩)]; rfl
          have hl := setRow_len p true i id
          have hq := small_set (t := true) (k := i) (x := id) hp
          generalize x7.val.setCell ⟨gr, i, none⟩ (.int .i64 id) = w2 at *
          generalize hqq : setRow p true i id = q at *
          have HC := hide hc
          have HQ := hide hqq
          have HL := hide hl
          clear hc hqq hl K0 K1 K2 K3 K4 K5 F4 F5 K6 K7 C0 G0
          obtain ⟨K0, K1, _, _⟩ := q0b.ext2
          obtain ⟨K4, K5, F4, F5⟩ := q2b.ext2
          obtain ⟨K6, K7, _, _⟩ := q3b.ext2
          have RP := hide (fun x : Ext w2 => (rp.up bb).up x.below)
          have RQ := hide (fun x : Ext w2 => op2.rd.up x.below)
          have hl : p.1.length = p.1.length ∧ p.2.length = p.2.length := ⟨rfl, rfl⟩
          have q2 := q2b
          clear hl
          obtain ⟨x2, hx2⟩ := ext_self w2
          rw [← hx2]
          clear hx2
          cases hv2 : pileValid q
          · have HF := hide (show coilPut p true (i : Int) id = (p, false) by rw [HC.out, if_neg (by simp [hv2])])
            go_wp2_with (first | (go_at_call 18; refine (pileValid_at _ _ _ _ _ _ q _ HL.out.1 HL.out.2 hq (RQ.out _)).mono ?_; rintro e w' ⟨rfl, b⟩; rw [hv2]; obtain ⟨x, rfl⟩ := ext_next b; clear b) | (go_at_call 80; refine (copyPile_any A A' c c' p _ hp (RP.out _)).mono ?_; rintro e w' ⟨M, cm, M', cm', rfl, op, b⟩; obtain ⟨y, rfl⟩ := ext_next b))
            refine ret_pile (w := w) (q2b.after (Ext.below _)) (by first | rfl | exact hl.1) (by first | rfl | exact hl.2) (by omega) op (by first | exact q2.size _ | omega) (via bb (Ext.below _) bb.size) ?_
            intro wz k5 k6 fin
            refine bodyPost_ret (by simp [results, Tryd.results36, go_sem, k5, k6]; try rfl) rfl ?_
            rw [HF.out]
            exact fin.out _
          · have HF := hide (show coilPut p true (i : Int) id = (q, true) by rw [HC.out, if_pos hv2])
            go_wp2_with (go_at_call 18; refine (pileValid_at _ _ _ _ _ _ q _ HL.out.1 HL.out.2 hq (RQ.out _)).mono ?_; rintro e w' ⟨rfl, b⟩; rw [hv2]; obtain ⟨x, rfl⟩ := ext_next b; clear b)
            have hl := HL.out
            refine ret_pile (w := w) (q2b.after (Ext.below _)) (by first | rfl | exact hl.1) (by first | rfl | exact hl.2) (by omega) (op2.below (Ext.below _)) (by first | exact q2.size _ | omega) (via bb (Ext.below _) bb.size) ?_
            intro wz k5 k6 fin
            refine bodyPost_ret (by simp [results, Tryd.results36, go_sem, k5, k6]; try rfl) rfl ?_
            rw [HF.out]
            exact fin.out _
set_option maxHeartbeats 1600000 in
set_option maxRecDepth 100000 in
theorem coilPut_spec (A A' : Option Addr) (c c' : Nat) (p : PL) (t : Bool) (k id : Int) (w : World) (hp : small p) (rp : RdP w w.heap.size A A' p) :
    Calls Tryd.prog 38 #[.agg #[.slice A p.1.length c, .slice A' p.2.length c'], .agg #[.bool t, .int .i64 k], .int .i64 id] w (PileV w (coilPut p t k id).1 (.bool (coilPut p t k id).2)) := by
  have hE := hide hp
  go_enter Tryd.func38, Tryd.ntmps38
  go_wp2_with fail
  obtain ⟨b0, q0, q1, q2, hz⟩ := box_three w 25 31 25 (.slice A p.1.length c) (.slice A' p.2.length c') (.bool t) (.int .i64 k) (.slice none 0 0) (.slice none 0 0) _ rfl
  generalize ((w.alloc (.cells #[.slice A p.1.length c, .slice A' p.2.length c'] 25)).alloc (.cells #[.bool t, .int .i64 k] 31)).alloc (.cells #[.slice none 0 0, .slice none 0 0] 25) = w0 at *
  obtain ⟨K0, K1, _, _⟩ := q0.ext2
  obtain ⟨K2, K3, _, _⟩ := q1.ext2
  obtain ⟨K4, K5, F4, F5⟩ := q2.ext2
  have RP := hide (fun x : Ext w0 => (rp.up b0).up x.below)
  obtain ⟨x0, hx0⟩ := ext_self w0
  rw [← hx0]
  clear hx0
  cases hv : pileValid p
  · have HF := hide (show coilPut p t k id = (([], []), false) by simp [coilPut, hv])
    go_wp2_with (go_at_call 19; refine (pileValid_spec A A' c c' p _ hE.out (RP.out _)).mono ?_; rintro e w' ⟨rfl, b⟩; rw [hv]; obtain ⟨x, rfl⟩ := ext_next b; clear b)
    refine ret_pile (w := w) (q2.after (Ext.below _)) (by first | rfl | exact hl.1) (by first | rfl | exact hl.2) (by omega) (ownP_none _ (w.heap.size + 1 + 1 + 1) none none) (by first | exact q2.size _ | omega) (via b0 (Ext.below _) b0.size) ?_
    intro wz k5 k6 fin
    refine bodyPost_ret (by simp [results, Tryd.results38, go_sem, k5, k6]; try rfl) rfl ?_
    rw [HF.out]
    exact fin.out _
  · have HV := hide hv
    clear hv
    go_wp2_with fail
    refine (pileValid_spec A A' c c' p _ hE.out (RP.out _)).mono ?_
    rintro e w' ⟨rfl, b⟩
    rw [HV.out]
    obtain ⟨x, rfl⟩ := ext_next b
    clear b
    go_wp2_with fail
    refine (l6Copy_any A A' c c' p _ hE.out (RP.out _)).mono ?_
    rintro e w' ⟨I, ci, I', ci', rfl, op, b⟩
    obtain ⟨y, rfl⟩ := ext_next b
    have hxx := q2.size x
    have hxy := b.size
    have q0a := (q0.after y.below).alloc (.cells #[.slice I p.1.length ci, .slice I' p.2.length ci'] 25)
    have q1a := (q1.after y.below).alloc (.cells #[.slice I p.1.length ci, .slice I' p.2.length ci'] 25)
    have q2a := (q2.after y.below).alloc (.cells #[.slice I p.1.length ci, .slice I' p.2.length ci'] 25)
    have q3a := Row.new y.val 25 #[.slice I p.1.length ci, .slice I' p.2.length ci']
    obtain ⟨j0, j1⟩ := q0a.boxed
    obtain ⟨j2, j3⟩ := q1a.boxed
    go_wp2_with fail
    clear j0 j1 j2 j3
    have opa := op.below (bel_one y.val (.cells #[.slice I p.1.length ci, .slice I' p.2.length ci'] 25))
    have opl := op.lt
    have ba := via (via b0 y.below b0.size) (bel_one y.val (.cells #[.slice I p.1.length ci, .slice I' p.2.length ci'] 25)) (by have := (via b0 y.below b0.size).size; omega)
    generalize y.val.alloc (.cells #[.slice I p.1.length ci, .slice I' p.2.length ci'] 25) = w1 at *
    generalize y.val.heap.size = gA at *
    generalize x.val.heap.size = B at *
    clear K0 K1 K2 K3 K4 K5 F4 F5 RP op b
    obtain ⟨K0, K1, _, _⟩ := q0a.ext2
    obtain ⟨K2, K3, _, _⟩ := q1a.ext2
    obtain ⟨K4, K5, F4, F5⟩ := q2a.ext2
    obtain ⟨K6, K7, _, _⟩ := q3a.ext2
    have RP := hide (fun x : Ext w1 => (rp.up ba).up x.below)
    refine (coilAt_spec A A' c c' p t k _ hp (rp.up ba)).mono ?_
    rintro e w' ⟨rfl, b⟩
    obtain ⟨x7, rfl⟩ : ∃ z : Ext w1, w' = z.val := ⟨⟨w', b⟩, rfl⟩
    clear b
    by_cases h1 : id < 1 ∨ coilAt p t k ≠ 0
    · have HF := hide (show coilPut p t k id = (p, false) by unfold coilPut; rw [if_pos HV.out, if_pos (by simpa using h1)])
      have q2 := q2a
      by_cases h2 : coilAt p t k = 0
      · have h3 : (coilAt p t k != 0) = false := by simp [h2]
        have h4 : id < 1 := h1.resolve_right (fun h => h h2)
        clear h1 h2
        go_wp2_with fail
        refine ret_pile (w := w) (q2a.after (Ext.below _)) (by first | rfl | exact hl.1) (by first | rfl | exact hl.2) (by omega) (opa.below (Ext.below _)) (by first | exact q2.size _ | omega) (via ba (Ext.below _) ba.size) ?_
        intro wz k5 k6 fin
        refine bodyPost_ret (by simp [results, Tryd.results38, go_sem, k5, k6]; try rfl) rfl ?_
        rw [HF.out]
        exact fin.out _
      · have h3 : (coilAt p t k != 0) = true := by simpa using h2
        clear h1 h2
        go_wp2_with fail
        refine ret_pile (w := w) (q2a.after (Ext.below _)) (by first | rfl | exact hl.1) (by first | rfl | exact hl.2) (by omega) (opa.below (Ext.below _)) (by first | exact q2.size _ | omega) (via ba (Ext.below _) ba.size) ?_
        intro wz k5 k6 fin
        refine bodyPost_ret (by simp [results, Tryd.results38, go_sem, k5, k6]; try rfl) rfl ?_
        rw [HF.out]
        exact fin.out _
    · have h2 : ¬ id < 1 := fun h => h1 (.inl h)
      have h0 : coilAt p t k = 0 := Classical.byContradiction fun h => h1 (.inr h)
      have h3 : (coilAt p t k != 0) = false := by simp [h0]
      obtain ⟨V, hk, hin, _⟩ := coilAt_zero h0
      obtain ⟨i, rfl⟩ : ∃ i : Nat, k = (i : Int) := ⟨k.toNat, by omega⟩
      have H0 := hide h0
      clear h1 h0 V hk
      have i0 : (0 : Int) ≤ (i : Int) := by omega
      have hi : i < (rowOf p t).length := hin
      cases t
      · have hi' : i < p.1.length := hi
        have i1 : (i : Int) < (p.1.length : Int) := by omega
        obtain ⟨gr, rfl, hB, hlt, rr⟩ := own_row opa.1 hi'
        have hgr := (opl gr (.inl (by rw [ownB_cons _ (by intro e; have := congrArg List.length e; rw [ic_len] at this; simp only [List.length_nil] at this; omega)]; rfl))).2
        obtain ⟨C0, G0⟩ := rr.int hi'
        have n1 : ¬ w.heap.size = gr := by omega
        have n2 : ¬ w.heap.size + 1 = gr := by omega
        have n3 : ¬ gA = gr := by omega
        go_wp2_with fail
        have op2 := (opa.below x7.below).low (x := id) hi'
        have q0b := (q0a.after x7.below).far (p := ⟨gr, i, none⟩) (by simp only; omega) (.int .i64 id)
        have q2b := (q2a.after x7.below).far (p := ⟨gr, i, none⟩) (by simp only; omega) (.int .i64 id)
        have q3b := (q3a.after x7.below).far (p := ⟨gr, i, none⟩) (by simp only; omega) (.int .i64 id)
        have bb := (via ba x7.below ba.size).setCell (p := ⟨gr, i, none⟩) (by simp only; omega) (.int .i64 id)
        have hc : coilPut p false (i : Int) id = if pileValid (setRow p false i id) = true then (setRow p false i id, true) else (p, false) := by unfold coilPut; rw [if_pos HV.out, if_neg (by simp only [Bool.or_eq_true, decide_eq_true_eq, not_or]; exact ⟨by omega, fun h => h H0.out⟩)]; rfl
        have hl := setRow_len p false i id
        have hq := small_set (t := false) (k := i) (x := id) hp
        generalize x7.val.setCell ⟨gr, i, none⟩ (.int .i64 id) = w2 at *
        generalize hqq : setRow p false i id = q at *
        have HC := hide hc
        have HQ := hide hqq
        have HL := hide hl
        clear hc hqq hl K0 K1 K2 K3 K4 K5 F4 F5 K6 K7 C0 G0
        obtain ⟨K0, K1, _, _⟩ := q0b.ext2
        obtain ⟨K4, K5, F4, F5⟩ := q2b.ext2
        obtain ⟨K6, K7, _, _⟩ := q3b.ext2
        have RP := hide (fun x : Ext w2 => (rp.up bb).up x.below)
        have RQ := hide (fun x : Ext w2 => op2.rd.up x.below)
        have hl : p.1.length = p.1.length ∧ p.2.length = p.2.length := ⟨rfl, rfl⟩
        have q2 := q2b
        clear hl
        obtain ⟨x2, hx2⟩ := ext_self w2
        rw [← hx2]
        clear hx2
        cases hv2 : pileValid q
        · have HF := hide (show coilPut p false (i : Int) id = (p, false) by rw [HC.out, if_neg (by simp [hv2])])
          go_wp2_with (first | (go_at_call 19; refine (pileValid_at_spec _ _ _ _ _ _ q _ HL.out.1 HL.out.2 hq (RQ.out _)).mono ?_; rintro e w' ⟨rfl, b⟩; rw [hv2]; obtain ⟨x, rfl⟩ := ext_next b; clear b) | (go_at_call 81; refine (l6Copy_any A A' c c' p _ hp (RP.out _)).mono ?_; rintro e w' ⟨M, cm, M', cm', rfl, op, b⟩; obtain ⟨y, rfl⟩ := ext_next b))
          refine ret_pile (w := w) (q2b.after (Ext.below _)) (by first | rfl | exact hl.1) (by first | rfl | exact hl.2) (by omega) op (by first | exact q2.size _ | omega) (via bb (Ext.below _) bb.size) ?_
          intro wz k5 k6 fin
          refine bodyPost_ret (by simp [results, Tryd.results38, go_sem, k5, k6]; try rfl) rfl ?_
          rw [HF.out]
          exact fin.out _
        · have HF := hide (show coilPut p false (i : Int) id = (q, true) by rw [HC.out, if_pos hv2])
          go_wp2_with (go_at_call 19; refine (pileValid_at_spec _ _ _ _ _ _ q _ HL.out.1 HL.out.2 hq (RQ.out _)).mono ?_; rintro e w' ⟨rfl, b⟩; rw [hv2]; obtain ⟨x, rfl⟩ := ext_next b; clear b)
          have hl := HL.out
          refine ret_pile (w := w) (q2b.after (Ext.below _)) (by first | rfl | exact hl.1) (by first | rfl | exact hl.2) (by omega) (op2.below (Ext.below _)) (by first | exact q2.size _ | omega) (via bb (Ext.below _) bb.size) ?_
          intro wz k5 k6 fin
          refine bodyPost_ret (by simp [results, Tryd.results38, go_sem, k5, k6]; try rfl) rfl ?_
          rw [HF.out]
          exact fin.out _
      · have hi' : i < p.2.length := hi
        have i1 : (i : Int) < (p.2.length : Int) := by omega
        obtain ⟨gr, rfl, hB, hlt, rr⟩ := own_row opa.2.1 hi'
        have hgr := (opl gr (.inr (by rw [ownB_cons _ (by intro e; have := congrArg List.length e; rw [ic_len] at this; simp only [List.length_nil] at this; omega)]; rfl))).2
        obtain ⟨C0, G0⟩ := rr.int hi'
        have n1 : ¬ w.heap.size = gr := by omega
        have n2 : ¬ w.heap.size + 1 = gr := by omega
        have n3 : ¬ gA = gr := by omega
        go_wp2_with fail
        have op2 := (opa.below x7.below).high (x := id) hi'
        have q0b := (q0a.after x7.below).far (p := ⟨gr, i, none⟩) (by simp only; omega) (.int .i64 id)
        have q2b := (q2a.after x7.below).far (p := ⟨gr, i, none⟩) (by simp only; omega) (.int .i64 id)
        have q3b := (q3a.after x7.below).far (p := ⟨gr, i, none⟩) (by simp only; omega) (.int .i64 id)
        have bb := (via ba x7.below ba.size).setCell (p := ⟨gr, i, none⟩) (by simp only; omega) (.int .i64 id)
        have hc : coilPut p true (i : Int) id = if pileValid (setRow p true i id) = true then (setRow p true i id, true) else (p, false) := by unfold coilPut; rw [if_pos HV.out, if_neg (by simp only [Bool.or_eq_true, decide_eq_true_eq, not_or]; exact ⟨by omega, fun h => h H0.out⟩)]; rfl
        have hl := setRow_len p true i id
        have hq := small_set (t := true) (k := i) (x := id) hp
        generalize x7.val.setCell ⟨gr, i, none⟩ (.int .i64 id) = w2 at *
        generalize hqq : setRow p true i id = q at *
        have HC := hide hc
        have HQ := hide hqq
        have HL := hide hl
        clear hc hqq hl K0 K1 K2 K3 K4 K5 F4 F5 K6 K7 C0 G0
        obtain ⟨K0, K1, _, _⟩ := q0b.ext2
        obtain ⟨K4, K5, F4, F5⟩ := q2b.ext2
        obtain ⟨K6, K7, _, _⟩ := q3b.ext2
        have RP := hide (fun x : Ext w2 => (rp.up bb).up x.below)
        have RQ := hide (fun x : Ext w2 => op2.rd.up x.below)
        have hl : p.1.length = p.1.length ∧ p.2.length = p.2.length := ⟨rfl, rfl⟩
        have q2 := q2b
        clear hl
        obtain ⟨x2, hx2⟩ := ext_self w2
        rw [← hx2]
        clear hx2
        cases hv2 : pileValid q
        · have HF := hide (show coilPut p true (i : Int) id = (p, false) by rw [HC.out, if_neg (by simp [hv2])])
          go_wp2_with (first | (go_at_call 19; refine (pileValid_at_spec _ _ _ _ _ _ q _ HL.out.1 HL.out.2 hq (RQ.out _)).mono ?_; rintro e w' ⟨rfl, b⟩; rw [hv2]; obtain ⟨x, rfl⟩ := ext_next b; clear b) | (go_at_call 81; refine (l6Copy_any A A' c c' p _ hp (RP.out _)).mono ?_; rintro e w' ⟨M, cm, M', cm', rfl, op, b⟩; obtain ⟨y, rfl⟩ := ext_next b))
          refine ret_pile (w := w) (q2b.after (Ext.below _)) (by first | rfl | exact hl.1) (by first | rfl | exact hl.2) (by omega) op (by first | exact q2.size _ | omega) (via bb (Ext.below _) bb.size) ?_
          intro wz k5 k6 fin
          refine bodyPost_ret (by simp [results, Tryd.results38, go_sem, k5, k6]; try rfl) rfl ?_
          rw [HF.out]
          exact fin.out _
        · have HF := hide (show coilPut p true (i : Int) id = (q, true) by rw [HC.out, if_pos hv2])
          go_wp2_with (go_at_call 19; refine (pileValid_at_spec _ _ _ _ _ _ q _ HL.out.1 HL.out.2 hq (RQ.out _)).mono ?_; rintro e w' ⟨rfl, b⟩; rw [hv2]; obtain ⟨x, rfl⟩ := ext_next b; clear b)
          have hl := HL.out
          refine ret_pile (w := w) (q2b.after (Ext.below _)) (by first | rfl | exact hl.1) (by first | rfl | exact hl.2) (by omega) (op2.below (Ext.below _)) (by first | exact q2.size _ | omega) (via bb (Ext.below _) bb.size) ?_
          intro wz k5 k6 fin
          refine bodyPost_ret (by simp [results, Tryd.results38, go_sem, k5, k6]; try rfl) rfl ?_
          rw [HF.out]
          exact fin.out _
end Go.Proofs.YtpiiefmfiipabaaDoor
