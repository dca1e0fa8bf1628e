/- LiftRun, the program's and the reference's. No conditions but bounds on lengths. -/
import Derived.Test.YtpiiefmfiipabaaDoorCoilLift
import Derived.Test.YtpiiefmfiipabaaDoorPileRes
namespace Go.Proofs.YtpiiefmfiipabaaDoor
open Go.ChangeShapes Go.WideShapes Go.ChangeAt Go.RowKit Go.Deep
/-- The cells of a row of lifts. -/
def lc (ls : List LF) : List Value := ls.flatMap fun l => [.bool l.1.1, .int .i64 l.1.2, .bool l.2.1, .int .i64 l.2.2]
theorem lc_len (ls : List LF) : (lc ls).length = ls.length * 4 := by
  induction ls with
  | nil => rfl
  | cons s r ih => simp only [lc, List.flatMap_cons, List.length_append, List.length_cons, List.length_nil] at ih ⊢; omega
theorem lc_get (ls : List LF) (k : Nat) (h : k < ls.length) : (lc ls)[k * 4]? = some (.bool ls[k].1.1) ∧ (lc ls)[k * 4 + 1]? = some (.int .i64 ls[k].1.2) ∧ (lc ls)[k * 4 + 2]? = some (.bool ls[k].2.1) ∧ (lc ls)[k * 4 + 3]? = some (.int .i64 ls[k].2.2) := by
  induction ls generalizing k with
  | nil => simp at h
  | cons s r ih =>
    cases k with
    | zero => simp [lc]
    | succ k =>
      have hk : k < r.length := by simpa using h
      have := ih k hk
      have e1 : (k + 1) * 4 = k * 4 + 1 + 1 + 1 + 1 := by omega
      simp only [lc, List.flatMap_cons] at this ⊢
      rw [e1]
      simpa using this
theorem Rd.lift {w : World} {B : Nat} {A : Option Addr} {ls : List LF} (h : Rd w B A (lc ls)) {k : Nat} (hk : k < ls.length) :
    ∃ b o, A = some ⟨b, o, none⟩ ∧ b < B ∧ w.cell? ⟨b, o + k * 4, none⟩ = some (.bool ls[k].1.1) ∧ w.cell? ⟨b, o + k * 4 + 1, none⟩ = some (.int .i64 ls[k].1.2) ∧ w.cell? ⟨b, o + k * 4 + 2, none⟩ = some (.bool ls[k].2.1) ∧ w.cell? ⟨b, o + k * 4 + 3, none⟩ = some (.int .i64 ls[k].2.2) := by
  have hl := lc_len ls
  obtain ⟨b, o, hA, hb, hc⟩ := h.at (k := k * 4) (by omega)
  obtain ⟨g1, g2, g3, g4⟩ := lc_get ls k hk
  have c1 := hc (k * 4) (by omega)
  have c2 := hc (k * 4 + 1) (by omega)
  have c3 := hc (k * 4 + 2) (by omega)
  have c4 := hc (k * 4 + 3) (by omega)
  rw [List.getElem?_eq_getElem (by omega)] at g1 g2 g3 g4
  rw [← c1] at g1
  rw [← c2] at g2
  rw [← c3] at g3
  rw [← c4] at g4
  exact ⟨b, o, hA, hb, g1, by rw [Nat.add_assoc]; exact g2, by rw [Nat.add_assoc]; exact g3, by rw [Nat.add_assoc]; exact g4⟩
theorem run_bad {p : PL} {ls : List LF} (h : pileValid p = false ∨ 40 < ls.length) : liftRun p ls = (([], []), 0) := by
  unfold liftRun
  rcases h with h | h
  · simp [h]
  · rw [if_neg]; simp; intro _; omega
theorem run_good {p : PL} {ls : List LF} (h : pileValid p = true) (h' : ls.length ≤ 40) : liftRun p ls = liftN p ls := by
  unfold liftRun; rw [if_pos]; simp [h, h']
theorem run_stop {p q : PL} {l : LF} {r : List LF} {k : Nat} {ls : List LF} (h : liftN p ls = ((liftN q (l :: r)).1, k + (liftN q (l :: r)).2)) (hf : (coilLift q l).2 = false) : liftN p ls = (q, k) := by
  rw [h, liftN, hf]; rfl
theorem run_on {p q : PL} {l : LF} {r : List LF} {k : Nat} {ls : List LF} (h : liftN p ls = ((liftN q (l :: r)).1, k + (liftN q (l :: r)).2)) (hf : (coilLift q l).2 = true) :
    liftN p ls = ((liftN (coilLift q l).1 r).1, k + 1 + (liftN (coilLift q l).1 r).2) := by
  rw [h, liftN, hf, if_pos rfl]; simp; omega
set_option maxHeartbeats 1600000 in
set_option maxRecDepth 100000 in
theorem liftRun_any (A A' L : Option Addr) (c c' d : Nat) (p : PL) (ls : List LF) (w : World) (hp : small p) (hls : ls.length ≤ 1099511627776) (rp : RdP w w.heap.size A A' p) (rl : Rd w w.heap.size L (lc ls)) :
    Calls Tryd.prog 43 #[.agg #[.slice A p.1.length c, .slice A' p.2.length c'], .slice L ls.length d] w (PileV w (liftRun p ls).1 (.int .i64 ((liftRun p ls).2 : Nat))) := by
  have hE := hide hp
  go_enter Tryd.func43, Tryd.ntmps43
  go_wp2_with fail
  have q0 := (Row.new w 25 #[.slice A p.1.length c, .slice A' p.2.length c']).alloc (.cells #[.slice none 0 0, .slice none 0 0] 25)
  have q1 : Row ((w.alloc (.cells #[.slice A p.1.length c, .slice A' p.2.length c'] 25)).alloc (.cells #[.slice none 0 0, .slice none 0 0] 25)) (w.heap.size + 1) 25 [.slice none 0 0, .slice none 0 0] := (Row.new (w.alloc (.cells #[.slice A p.1.length c, .slice A' p.2.length c'] 25)) 25 #[.slice none 0 0, .slice none 0 0]).eq (by simp)
  have b0 := bel_two w (.cells #[.slice A p.1.length c, .slice A' p.2.length c'] 25) (.cells #[.slice none 0 0, .slice none 0 0] 25)
  generalize (w.alloc (.cells #[.slice A p.1.length c, .slice A' p.2.length c'] 25)).alloc (.cells #[.slice none 0 0, .slice none 0 0] 25) = w0 at *
  obtain ⟨K0, K1, _, _⟩ := q0.ext2
  obtain ⟨K4, K5, F4, F5⟩ := q1.ext2
  have RP := hide (fun x : Ext w0 => (rp.up b0).up x.below)
  obtain ⟨x0, hx0⟩ := ext_self w0
  rw [← hx0]
  clear hx0
  cases hv : pileValid p
  · have HF := hide (run_bad (ls := ls) (.inl hv))
    go_wp2_with (go_at_call 18; refine (pileValid_any A A' c c' p _ hE.out (RP.out _)).mono ?_; rintro e w' ⟨rfl, b⟩; rw [hv]; obtain ⟨x, rfl⟩ := ext_next b; clear b)
    refine ret_pile (w := w) (q1.after (Ext.below _)) (by first | rfl | exact hl.1) (by first | rfl | exact hl.2) (by omega) (ownP_none _ (w.heap.size + 1 + 1) none none) (by omega) (via b0 (Ext.below _) b0.size) ?_
    intro wz k5 k6 fin
    refine bodyPost_ret (by simp [results, Tryd.results43, go_sem, k5, k6]; try rfl) rfl ?_
    rw [HF.out]
    exact fin.out _
  · have HV := hide hv
    clear hv
    by_cases h40 : 40 < ls.length
    · have HF := hide (run_bad (p := p) (.inr h40))
      have t0 : decide ((ls.length : Int) > 40) = true := by simp; omega
      go_wp2_with (go_at_call 18; refine (pileValid_any A A' c c' p _ hE.out (RP.out _)).mono ?_; rintro e w' ⟨rfl, b⟩; rw [HV.out]; obtain ⟨x, rfl⟩ := ext_next b; clear b)
      refine ret_pile (w := w) (q1.after (Ext.below _)) (by first | rfl | exact hl.1) (by first | rfl | exact hl.2) (by omega) (ownP_none _ (w.heap.size + 1 + 1) none none) (by omega) (via b0 (Ext.below _) b0.size) ?_
      intro wz k5 k6 fin
      refine bodyPost_ret (by simp [results, Tryd.results43, go_sem, k5, k6]; try rfl) rfl ?_
      rw [HF.out]
      exact fin.out _
    · have HG := hide (run_good HV.out (show ls.length ≤ 40 by omega))
      have t0 : decide ((ls.length : Int) > 40) = false := by simp; omega
      go_wp2_with (first
        | (go_at_call 18; refine (pileValid_any A A' c c' p _ hE.out (RP.out _)).mono ?_; rintro e w' ⟨rfl, b⟩; rw [HV.out]; obtain ⟨x, rfl⟩ := ext_next b; clear b)
        | (go_at_call 80; refine (copyPile_any A A' c c' p _ hE.out (RP.out _)).mono ?_; rintro e w' ⟨I, ci, I', ci', rfl, op, bo⟩; obtain ⟨y, rfl⟩ := ext_next bo))
      have hxx := q1.size x
      have hxy := bo.size
      have q1a := (q1.after y.below).alloc (.cells #[.slice I p.1.length ci, .slice I' p.2.length ci'] 25)
      have qO := Row.new y.val 25 #[.slice I p.1.length ci, .slice I' p.2.length ci']
      replace op := (op.below (bel_one y.val (.cells #[.slice I p.1.length ci, .slice I' p.2.length ci'] 25))).mono (B' := w.heap.size + 2) (by omega)
      have ba := via b0 (via y.below (bel_one y.val (.cells #[.slice I p.1.length ci, .slice I' p.2.length ci'] 25)) y.below.size) b0.size
      have hgO : w.heap.size + 2 ≤ y.val.heap.size := by omega
      clear K0 K1 K4 K5 F4 F5 RP t0 hxy hxx bo q0 q1
      generalize y.val.alloc (.cells #[.slice I p.1.length ci, .slice I' p.2.length ci'] 25) = w1 at *
      generalize y.val.heap.size = gO at *
      go_loopw [7, 8, 9, 10, 24] (fun _ _ _ _ i wr => ∃ (k : Nat) (q : PL) (I I' : Option Addr) (ci ci' : Nat), k ≤ ls.length ∧ i = .int .i64 k ∧ Vd q ∧ Row wr (w.heap.size + 1) 25 [.slice none 0 0, .slice none 0 0] ∧ Row wr gO 25 [.slice I q.1.length ci, .slice I' q.2.length ci'] ∧ OwnP wr (w.heap.size + 2) I I' q ∧ Below w.heap.size w wr ∧ Hid (liftN p ls = ((liftN q (ls.drop k)).1, k + (liftN q (ls.drop k)).2))) (fun _ _ _ _ i _ => ls.length - (intOf i).toNat)
      case atStart => exact ⟨0, p, I, I', ci, ci', Nat.zero_le _, rfl, (vd_iff p).1 HV.out, q1a, qO, op, ba, hide (by simp)⟩
      case round =>
        clear q1a qO op ba
        obtain ⟨k, q, I, I', ci, ci', hk, rfl, V, q1a, qO, op, ba, hN⟩ := hrel
        by_cases hlt : k < ls.length
        · obtain ⟨b, o, rfl, hb, c0, c1, c2, c3⟩ := (rl.below ba).lift hlt
          have hN := hN.out
          rw [List.drop_eq_getElem_cons hlt] at hN
          generalize ls[k] = l at *
          obtain ⟨⟨u, m⟩, ⟨s, t⟩⟩ := l
          obtain ⟨j0, j1⟩ := (qO.alloc (.cells #[.bool u, .int .i64 m, .bool s, .int .i64 t] 59)).boxed
          have HN := hide hN
          clear hN
          go_wp2_with fail
          clear j0 j1 c0 c1 c2 c3 hb
          have qOb := qO.alloc (.cells #[.bool u, .int .i64 m, .bool s, .int .i64 t] 59)
          have q1b := q1a.alloc (.cells #[.bool u, .int .i64 m, .bool s, .int .i64 t] 59)
          have opb := op.below (bel_one wr (.cells #[.bool u, .int .i64 m, .bool s, .int .i64 t] 59))
          have bb := via ba (bel_one wr (.cells #[.bool u, .int .i64 m, .bool s, .int .i64 t] 59)) ba.size
          generalize wr.alloc (.cells #[.bool u, .int .i64 m, .bool s, .int .i64 t] 59) = w2 at *
          have z2 := qOb.lt
          have z1 := q1b.lt
          have hct := coilLift_any I I' ci ci' q u m s t w2 (small_vd V) opb.rd
          have V' := lift_vd V ((u, m), (s, t))
          generalize hr : coilLift q ((u, m), (s, t)) = r at *
          obtain ⟨r, ok⟩ := r
          have HR := hide hr
          clear hr
          refine hct.mono ?_
          clear hct
          rintro e w3 ⟨J, cj, J', cj', rfl, oJ, b3⟩
          have z3 := b3.size
          have q1c := (q1b.after b3).alloc (.cells #[.slice J r.1.length cj, .slice J' r.2.length cj'] 25)
          have qOc := (qOb.after b3).alloc (.cells #[.slice J r.1.length cj, .slice J' r.2.length cj'] 25)
          have opc := (opb.below b3).below (bel_one w3 (.cells #[.slice J r.1.length cj, .slice J' r.2.length cj'] 25))
          have oJc := oJ.below (bel_one w3 (.cells #[.slice J r.1.length cj, .slice J' r.2.length cj'] 25))
          have bc := via bb (via b3 (bel_one w3 (.cells #[.slice J r.1.length cj, .slice J' r.2.length cj'] 25)) b3.size) bb.size
          obtain ⟨i0, i1⟩ := qOc.boxed
          obtain ⟨e0, e1⟩ := q1c.boxed
          have f0 := q1c.frozen 0
          have f1 := q1c.frozen 1
          have f2 := qOc.frozen 0
          have f3 := qOc.frozen 1
          cases ok
          · have HF := hide (HG.out.trans (run_stop HN.out (by rw [HR.out])))
            go_wp2_with fail
            refine ret_pile (w := w) q1c (by first | rfl | exact hl.1) (by first | rfl | exact hl.2) (by omega) opc (by omega) bc ?_
            intro wz k5 k6 fin
            refine bodyPost_ret (by simp [results, Tryd.results43, go_sem, k5, k6]; try rfl) rfl ?_
            rw [HF.out]
            exact fin.out _
          · have HM := hide (run_on HN.out (by rw [HR.out]))
            go_wp2_with fail
            obtain ⟨r1, r2, r3, _⟩ := pile_box (w := w) (W := w3.alloc (.cells #[.slice J r.1.length cj, .slice J' r.2.length cj'] 25)) (r := gO) qOc (by omega) oJc z2 bc _ rfl
            have r4 := (q1c.far (p := ⟨gO, 0, none⟩) (by simp only; omega) (.slice J r.1.length cj)).far (p := ⟨gO, 1, none⟩) (by simp only; omega) (.slice J' r.2.length cj')
            go_roundw
            case rel => exact ⟨k + 1, r, J, J', cj, cj', by omega, by go_num, V', r4, r1, r2.mono (by omega), r3, by rw [HR.out] at HM; exact HM⟩
            case measure => simp [intOf]; omega
        · obtain rfl : k = ls.length := by omega
          have HF : Hid (liftRun p ls = (q, ls.length)) := hide (HG.out.trans (by have := hN.out; rw [List.drop_length] at this; exact this))
          obtain ⟨j0, j1⟩ := qO.boxed
          obtain ⟨e0, e1⟩ := q1a.boxed
          have f0 := q1a.frozen 0
          have f1 := q1a.frozen 1
          go_wp2_with fail
          refine ret_pile (w := w) q1a (by first | rfl | exact hl.1) (by first | rfl | exact hl.2) (by omega) op (by omega) ba ?_
          intro wz k5 k6 fin
          refine bodyPost_ret (by simp [results, Tryd.results43, go_sem, k5, k6]; try rfl) rfl ?_
          rw [HF.out]
          exact fin.out _
set_option maxHeartbeats 1600000 in
set_option maxRecDepth 100000 in
theorem liftRun_spec (A A' L : Option Addr) (c c' d : Nat) (p : PL) (ls : List LF) (w : World) (hp : small p) (hls : ls.length ≤ 1099511627776) (rp : RdP w w.heap.size A A' p) (rl : Rd w w.heap.size L (lc ls)) :
    Calls Tryd.prog 52 #[.agg #[.slice A p.1.length c, .slice A' p.2.length c'], .slice L ls.length d] w (PileV w (liftRun p ls).1 (.int .i64 ((liftRun p ls).2 : Nat))) := by
  have hE := hide hp
  go_enter Tryd.func52, Tryd.ntmps52
  go_wp2_with fail
  have q0 := (Row.new w 25 #[.slice A p.1.length c, .slice A' p.2.length c']).alloc (.cells #[.slice none 0 0, .slice none 0 0] 25)
  have q1 : Row ((w.alloc (.cells #[.slice A p.1.length c, .slice A' p.2.length c'] 25)).alloc (.cells #[.slice none 0 0, .slice none 0 0] 25)) (w.heap.size + 1) 25 [.slice none 0 0, .slice none 0 0] := (Row.new (w.alloc (.cells #[.slice A p.1.length c, .slice A' p.2.length c'] 25)) 25 #[.slice none 0 0, .slice none 0 0]).eq (by simp)
  have b0 := bel_two w (.cells #[.slice A p.1.length c, .slice A' p.2.length c'] 25) (.cells #[.slice none 0 0, .slice none 0 0] 25)
  generalize (w.alloc (.cells #[.slice A p.1.length c, .slice A' p.2.length c'] 25)).alloc (.cells #[.slice none 0 0, .slice none 0 0] 25) = w0 at *
  obtain ⟨K0, K1, _, _⟩ := q0.ext2
  obtain ⟨K4, K5, F4, F5⟩ := q1.ext2
  have RP := hide (fun x : Ext w0 => (rp.up b0).up x.below)
  obtain ⟨x0, hx0⟩ := ext_self w0
  rw [← hx0]
  clear hx0
  cases hv : pileValid p
  · have HF := hide (run_bad (ls := ls) (.inl hv))
    go_wp2_with (go_at_call 19; refine (pileValid_spec A A' c c' p _ hE.out (RP.out _)).mono ?_; rintro e w' ⟨rfl, b⟩; rw [hv]; obtain ⟨x, rfl⟩ := ext_next b; clear b)
    refine ret_pile (w := w) (q1.after (Ext.below _)) (by first | rfl | exact hl.1) (by first | rfl | exact hl.2) (by omega) (ownP_none _ (w.heap.size + 1 + 1) none none) (by omega) (via b0 (Ext.below _) b0.size) ?_
    intro wz k5 k6 fin
    refine bodyPost_ret (by simp [results, Tryd.results52, go_sem, k5, k6]; try rfl) rfl ?_
    rw [HF.out]
    exact fin.out _
  · have HV := hide hv
    clear hv
    by_cases h40 : 40 < ls.length
    · have HF := hide (run_bad (p := p) (.inr h40))
      have t0 : decide ((ls.length : Int) > 40) = true := by simp; omega
      go_wp2_with (go_at_call 19; refine (pileValid_spec A A' c c' p _ hE.out (RP.out _)).mono ?_; rintro e w' ⟨rfl, b⟩; rw [HV.out]; obtain ⟨x, rfl⟩ := ext_next b; clear b)
      refine ret_pile (w := w) (q1.after (Ext.below _)) (by first | rfl | exact hl.1) (by first | rfl | exact hl.2) (by omega) (ownP_none _ (w.heap.size + 1 + 1) none none) (by omega) (via b0 (Ext.below _) b0.size) ?_
      intro wz k5 k6 fin
      refine bodyPost_ret (by simp [results, Tryd.results52, go_sem, k5, k6]; try rfl) rfl ?_
      rw [HF.out]
      exact fin.out _
    · have HG := hide (run_good HV.out (show ls.length ≤ 40 by omega))
      have t0 : decide ((ls.length : Int) > 40) = false := by simp; omega
      go_wp2_with (first
        | (go_at_call 19; refine (pileValid_spec A A' c c' p _ hE.out (RP.out _)).mono ?_; rintro e w' ⟨rfl, b⟩; rw [HV.out]; obtain ⟨x, rfl⟩ := ext_next b; clear b)
        | (go_at_call 81; refine (l6Copy_any A A' c c' p _ hE.out (RP.out _)).mono ?_; rintro e w' ⟨I, ci, I', ci', rfl, op, bo⟩; obtain ⟨y, rfl⟩ := ext_next bo))
      have hxx := q1.size x
      have hxy := bo.size
      have q1a := (q1.after y.below).alloc (.cells #[.slice I p.1.length ci, .slice I' p.2.length ci'] 25)
      have qO := Row.new y.val 25 #[.slice I p.1.length ci, .slice I' p.2.length ci']
      replace op := (op.below (bel_one y.val (.cells #[.slice I p.1.length ci, .slice I' p.2.length ci'] 25))).mono (B' := w.heap.size + 2) (by omega)
      have ba := via b0 (via y.below (bel_one y.val (.cells #[.slice I p.1.length ci, .slice I' p.2.length ci'] 25)) y.below.size) b0.size
      have hgO : w.heap.size + 2 ≤ y.val.heap.size := by omega
      clear K0 K1 K4 K5 F4 F5 RP t0 hxy hxx bo q0 q1
      generalize y.val.alloc (.cells #[.slice I p.1.length ci, .slice I' p.2.length ci'] 25) = w1 at *
      generalize y.val.heap.size = gO at *
      go_loopw [7, 8, 9] (fun i _ _ wr => ∃ (k : Nat) (q : PL) (I I' : Option Addr) (ci ci' : Nat), k ≤ ls.length ∧ i = .int .i64 k ∧ Vd q ∧ Row wr (w.heap.size + 1) 25 [.slice none 0 0, .slice none 0 0] ∧ Row wr gO 25 [.slice I q.1.length ci, .slice I' q.2.length ci'] ∧ OwnP wr (w.heap.size + 2) I I' q ∧ Below w.heap.size w wr ∧ Hid (liftN p ls = ((liftN q (ls.drop k)).1, k + (liftN q (ls.drop k)).2))) (fun i _ _ _ => ls.length - (intOf i).toNat)
      case atStart => exact ⟨0, p, I, I', ci, ci', Nat.zero_le _, rfl, (vd_iff p).1 HV.out, q1a, qO, op, ba, hide (by simp)⟩
      case round =>
        clear q1a qO op ba
        obtain ⟨k, q, I, I', ci, ci', hk, rfl, V, q1a, qO, op, ba, hN⟩ := hrel
        by_cases hlt : k < ls.length
        · obtain ⟨b, o, rfl, hb, c0, c1, c2, c3⟩ := (rl.below ba).lift hlt
          have hN := hN.out
          rw [List.drop_eq_getElem_cons hlt] at hN
          generalize ls[k] = l at *
          obtain ⟨⟨u, m⟩, ⟨s, t⟩⟩ := l
          have HN := hide hN
          clear hN
          have V' := lift_vd V ((u, m), (s, t))
          have HS := hide (fun w rq => coilLift_spec I I' ci ci' q u m s t w (small_vd V) rq)
          generalize hr : coilLift q ((u, m), (s, t)) = r at *
          obtain ⟨r, ok⟩ := r
          have HR := hide hr
          clear hr
          have z2 := qO.lt
          have z1 := q1a.lt
          obtain ⟨J0, J1, _, _⟩ := qO.ext2
          have C0 := Ext.old c0
          have C1 := Ext.old c1
          have C2 := Ext.old c2
          have C3 := Ext.old c3
          have opr := op.rd
          clear c0 c1 c2 c3
          obtain ⟨x0, hx0⟩ := ext_self wr
          rw [← hx0]
          clear hx0
          go_wp2_with fail
          go_cut [8, 9] from 21 to 40 (fun v o wx => BoxOf wr r (.bool ok) v o wx)
          case first =>
            go_region_held3 (fun w' => (w'.cell? ⟨gO, 0, none⟩ = some (.slice I q.1.length ci)) ∧ (w'.cell? ⟨gO, 1, none⟩ = some (.slice I' q.2.length ci')) ∧ (w'.cell? ⟨b, o + k * 4, none⟩ = some (.bool u)) ∧ (w'.cell? ⟨b, o + k * 4 + 1, none⟩ = some (.int .i64 m)) ∧ (w'.cell? ⟨b, o + k * 4 + 2, none⟩ = some (.bool s)) ∧ w'.cell? ⟨b, o + k * 4 + 3, none⟩ = some (.int .i64 t))
              (refine ⟨?_, ?_, ?_, ?_, ?_, ?_⟩ <;> first | (with_reducible first | exact J0 _ | exact J1 _ | exact C0 _ | exact C1 _ | exact C2 _ | exact C3 _ | exact cell_in (Ext.below _).drew J0 | exact cell_in (Ext.below _).drew J1 | exact cell_in (Ext.below _).drew C0 | exact cell_in (Ext.below _).drew C1 | exact cell_in (Ext.below _).drew C2 | exact cell_in (Ext.below _).drew C3 | exact cell_in ((Ext.below _).alloc (Ext.below _).size _) J0 | exact cell_in ((Ext.below _).alloc (Ext.below _).size _) J1 | exact cell_in ((Ext.below _).alloc (Ext.below _).size _) C0 | exact cell_in ((Ext.below _).alloc (Ext.below _).size _) C1 | exact cell_in ((Ext.below _).alloc (Ext.below _).size _) C2 | exact cell_in ((Ext.below _).alloc (Ext.below _).size _) C3 | exact cell_in ((Ext.below _).alloc (Ext.below _).size _).drew J0 | exact cell_in ((Ext.below _).alloc (Ext.below _).size _).drew J1 | exact cell_in ((Ext.below _).alloc (Ext.below _).size _).drew C0 | exact cell_in ((Ext.below _).alloc (Ext.below _).size _).drew C1 | exact cell_in ((Ext.below _).alloc (Ext.below _).size _).drew C2 | exact cell_in ((Ext.below _).alloc (Ext.below _).size _).drew C3 | exact cell_in (((Ext.below _).setCell (Ext.below _).size _).setCell (Ext.below _).size _) J0 | exact cell_in (((Ext.below _).setCell (Ext.below _).size _).setCell (Ext.below _).size _) J1 | exact cell_in (((Ext.below _).setCell (Ext.below _).size _).setCell (Ext.below _).size _) C0 | exact cell_in (((Ext.below _).setCell (Ext.below _).size _).setCell (Ext.below _).size _) C1 | exact cell_in (((Ext.below _).setCell (Ext.below _).size _).setCell (Ext.below _).size _) C2 | exact cell_in (((Ext.below _).setCell (Ext.below _).size _).setCell (Ext.below _).size _) C3) | exact cell_in (((Ext.below x4).setCell (by simp only; first | exact x0.below.size | exact (Ext.below _).size) _).setCell (by simp only; first | exact x0.below.size | exact (Ext.below _).size) _) J0 | exact cell_in (((Ext.below x4).setCell (by simp only; first | exact x0.below.size | exact (Ext.below _).size) _).setCell (by simp only; first | exact x0.below.size | exact (Ext.below _).size) _) J1 | exact cell_in (((Ext.below x4).setCell (by simp only; first | exact x0.below.size | exact (Ext.below _).size) _).setCell (by simp only; first | exact x0.below.size | exact (Ext.below _).size) _) C0 | exact cell_in (((Ext.below x4).setCell (by simp only; first | exact x0.below.size | exact (Ext.below _).size) _).setCell (by simp only; first | exact x0.below.size | exact (Ext.below _).size) _) C1 | exact cell_in (((Ext.below x4).setCell (by simp only; first | exact x0.below.size | exact (Ext.below _).size) _).setCell (by simp only; first | exact x0.below.size | exact (Ext.below _).size) _) C2 | exact cell_in (((Ext.below x4).setCell (by simp only; first | exact x0.below.size | exact (Ext.below _).size) _).setCell (by simp only; first | exact x0.below.size | exact (Ext.below _).size) _) C3 | (trace_state; fail))
              (first
                | (go_at_call 50; refine (HS.out _ ?_).mono ?_; exact opr.up (by first | exact Ext.below _ | exact (Ext.below _).drew | exact (Ext.below _).alloc (Ext.below _).size _ | exact ((Ext.below _).alloc (Ext.below _).size _).drew); rintro e w4 ⟨X, x, X', x', rfl, o4, b4⟩; obtain ⟨x4, rfl⟩ := ext_any (by first | exact Ext.below _ | exact (Ext.below _).drew | exact (Ext.below _).alloc (Ext.below _).size _ | exact ((Ext.below _).alloc (Ext.below _).size _).drew) b4 (by first | exact (Ext.below _).size | exact ((Ext.below _).alloc (Ext.below _).size _).size); (first | (have qz := (Row.new _ _ _).drew.after b4; obtain ⟨m0, m1⟩ := qz.boxed; have f0 := qz.frozen 0; have f1 := qz.frozen 1) | (have qz := (Row.new _ _ _).after b4; obtain ⟨m0, m1⟩ := qz.boxed; have f0 := qz.frozen 0; have f1 := qz.frozen 1) | (have qz := ((Row.new _ _ _).after b3).after b4; obtain ⟨m0, m1⟩ := qz.boxed; have f0 := qz.frozen 0; have f1 := qz.frozen 1) | (have qz := ((Row.new _ _ _).drew.after b3).after b4; obtain ⟨m0, m1⟩ := qz.boxed; have f0 := qz.frozen 0; have f1 := qz.frozen 1) | (have qz := (((Row.new _ _ _).drew.after b2).after b3).after b4; obtain ⟨m0, m1⟩ := qz.boxed; have f0 := qz.frozen 0; have f1 := qz.frozen 1) | skip)))
            all_goals
              go_wp2_with fail
              go_meet
              first
                | exact boxOf_new o4 (by first | exact (Ext.below _).size | exact ((Ext.below _).alloc (Ext.below _).size _).size)
                | exact boxOf_old qz x0.below.size (by first | (simp; done) | (simp at *; omega)) o4
          case rest =>
            obtain ⟨rfl, gW, xW, X, x, X', x', rfl, rfl, hgW, qW, oW, _⟩ := hcut
            have q1c := q1a.after xW.below
            have qOc := qO.after xW.below
            have opc := op.below xW.below
            have bc := via ba xW.below ba.size
            obtain ⟨m0, m1⟩ := qW.boxed
            obtain ⟨i0, i1⟩ := qOc.boxed
            obtain ⟨e0, e1⟩ := q1c.boxed
            have f0 := q1c.frozen 0
            have f1 := q1c.frozen 1
            have f2 := qOc.frozen 0
            have f3 := qOc.frozen 1
            cases ok
            · have HF := hide (HG.out.trans (run_stop HN.out (by rw [HR.out])))
              go_wp2_with fail
              refine ret_pile (w := w) q1c (by first | rfl | exact hl.1) (by first | rfl | exact hl.2) (by omega) opc (by omega) bc ?_
              intro wz k5 k6 fin
              refine bodyPost_ret (by simp [results, Tryd.results52, go_sem, k5, k6]; try rfl) rfl ?_
              rw [HF.out]
              exact fin.out _
            · have HM := hide (run_on HN.out (by rw [HR.out]))
              go_wp2_with fail
              obtain ⟨r1, r2, r3, _⟩ := pile_box (w := w) (W := xW.val) (r := gO) qOc (by omega) oW z2 bc _ rfl
              have r4 := (q1c.far (p := ⟨gO, 0, none⟩) (by simp only; omega) (.slice X r.1.length x)).far (p := ⟨gO, 1, none⟩) (by simp only; omega) (.slice X' r.2.length x')
              go_roundw
              case rel => exact ⟨k + 1, r, X, X', x, x', by omega, by go_num, V', r4, r1, r2.mono (by omega), r3, by rw [HR.out] at HM; exact HM⟩
              case measure => simp [intOf]; omega
        · obtain rfl : k = ls.length := by omega
          have HF : Hid (liftRun p ls = (q, ls.length)) := hide (HG.out.trans (by have := hN.out; rw [List.drop_length] at this; exact this))
          obtain ⟨j0, j1⟩ := qO.boxed
          obtain ⟨e0, e1⟩ := q1a.boxed
          have f0 := q1a.frozen 0
          have f1 := q1a.frozen 1
          go_wp2_with fail
          refine ret_pile (w := w) q1a (by first | rfl | exact hl.1) (by first | rfl | exact hl.2) (by omega) op (by omega) ba ?_
          intro wz k5 k6 fin
          refine bodyPost_ret (by simp [results, Tryd.results52, go_sem, k5, k6]; try rfl) rfl ?_
          rw [HF.out]
          exact fin.out _
end Go.Proofs.YtpiiefmfiipabaaDoor
