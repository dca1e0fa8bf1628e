/- CoilLift, the program's and the reference's. No conditions but bounds on lengths. -/
import Derived.Test.YtpiiefmfiipabaaDoorCoilTake
namespace Go.Proofs.YtpiiefmfiipabaaDoor
open Go.ChangeShapes Go.WideShapes Go.ChangeAt Go.RowKit Go.Deep
theorem small_vd {p : PL} (V : Vd p) : small p := ⟨by have := V.l6; omega, by have := V.l6; have := V.up; omega⟩
theorem lift_inv {p : PL} {l : LF} (hv : pileValid p = false) : coilLift p l = (([], []), false) := by simp [coilLift, hv]
theorem lift_same {p : PL} {l : LF} (hv : pileValid p = true) (h : l.1 = l.2) : coilLift p l = (p, false) := by unfold coilLift; rw [if_pos hv, if_pos h]
theorem lift_none {p q : PL} {l : LF} {id : Int} (hv : pileValid p = true) (ht : coilTake p l.1.1 l.1.2 = (q, id)) (h : id = 0) : coilLift p l = (p, false) := by
  unfold coilLift; rw [if_pos hv, ht]
  subst h
  simp
theorem lift_put {p q r : PL} {l : LF} {id : Int} {ok : Bool} (hv : pileValid p = true) (h1 : ¬ l.1 = l.2) (ht : coilTake p l.1.1 l.1.2 = (q, id)) (h : ¬ id = 0) (hp : coilPut q l.2.1 l.2.2 id = (r, ok)) : coilLift p l = if ok = true then (r, true) else (p, false) := by
  unfold coilLift; rw [if_pos hv, if_neg h1, ht, if_neg h, hp]
  cases ok <;> rfl
set_option maxHeartbeats 1600000 in
set_option maxRecDepth 100000 in
theorem coilLift_any (A A' : Option Addr) (c c' : Nat) (p : PL) (a : Bool) (b : Int) (s : Bool) (t : Int) (w : World) (hp : small p) (rp : RdP w w.heap.size A A' p) :
    Calls Tryd.prog 49 #[.agg #[.slice A p.1.length c, .slice A' p.2.length c'], .agg #[.bool a, .int .i64 b, .bool s, .int .i64 t]] w (PileV w (coilLift p ((a, b), (s, t))).1 (.bool (coilLift p ((a, b), (s, t))).2)) := by
  have hE := hide hp
  go_enter Tryd.func49, Tryd.ntmps49
  go_wp2_with fail
  obtain ⟨b0, q0, q1, q2, hz⟩ := box_lift w 25 59 25 (.slice A p.1.length c) (.slice A' p.2.length c') (.slice none 0 0) (.slice none 0 0) (.bool a) (.int .i64 b) (.bool s) (.int .i64 t) _ rfl
  generalize ((w.alloc (.cells #[.slice A p.1.length c, .slice A' p.2.length c'] 25)).alloc (.cells #[.bool a, .int .i64 b, .bool s, .int .i64 t] 59)).alloc (.cells #[.slice none 0 0, .slice none 0 0] 25) = w0 at *
  obtain ⟨K0, K1, _, _⟩ := q0.ext2
  obtain ⟨K2, K3, K8, K9⟩ := q1.ext4
  obtain ⟨K4, K5, F4, F5⟩ := q2.ext2
  have RP := hide (fun x : Ext w0 => (rp.up b0).up x.below)
  obtain ⟨x0, hx0⟩ := ext_self w0
  rw [← hx0]
  clear hx0
  cases hv : pileValid p
  · have HF := hide (lift_inv (l := ((a, b), (s, t))) hv)
    go_wp2_with (go_at_call 18; refine (pileValid_any A A' c c' p _ hE.out (RP.out _)).mono ?_; rintro e w' ⟨rfl, b⟩; rw [hv]; obtain ⟨x, rfl⟩ := ext_next b; clear b)
    refine ret_pile (w := w) (q2.after (Ext.below _)) (by first | rfl | exact hl.1) (by first | rfl | exact hl.2) (by omega) (ownP_none _ (w.heap.size + 1 + 1 + 1) none none) (by first | exact q2.size _ | omega) (via b0 (Ext.below _) b0.size) ?_
    intro wz k5 k6 fin
    refine bodyPost_ret (by simp [results, Tryd.results49, go_sem, k5, k6]; try rfl) rfl ?_
    rw [HF.out]
    exact fin.out _
  · have HV := hide hv
    clear hv
    go_wp2_with fail
    refine (pileValid_any A A' c c' p _ hE.out (RP.out _)).mono ?_
    rintro e w' ⟨rfl, bb⟩
    rw [HV.out]
    obtain ⟨x, rfl⟩ := ext_next bb
    clear bb
    by_cases ha : a = s
    · subst ha
      by_cases hb : b = t
      · subst hb
        have HF := hide (lift_same (p := p) (l := ((a, b), (a, b))) HV.out rfl)
        go_wp2_with (go_at_call 80; refine (copyPile_any A A' c c' p _ hE.out (RP.out _)).mono ?_; rintro e w' ⟨I, ci, I', ci', rfl, op, b⟩; obtain ⟨y, rfl⟩ := ext_next b)
        refine ret_pile (w := w) (q2.after (Ext.below _)) (by first | rfl | exact hl.1) (by first | rfl | exact hl.2) (by omega) op (by first | exact q2.size _ | omega) (via b0 (Ext.below _) b0.size) ?_
        intro wz k5 k6 fin
        refine bodyPost_ret (by simp [results, Tryd.results49, go_sem, k5, k6]; try rfl) rfl ?_
        rw [HF.out]
        exact fin.out _
      · have HNE := hide (show ¬ (((a, b), (a, t)) : LF).1 = (((a, b), (a, t)) : LF).2 from fun e => hb (congrArg Prod.snd e))
        have t0 : (b == t) = false := by simpa using hb
        clear hb
        go_wp2_with fail
        generalize hqt : coilTake p a b = qt at *
        obtain ⟨q, id⟩ := qt
        have HT := hide hqt
        have hq : small q := by have := small_vd (take_vd ((vd_iff p).1 HV.out) a b); rw [hqt] at this; exact this
        have hct := coilTake_any A A' c c' p a b x.val hE.out (RP.out _)
        rw [hqt] at hct
        clear hqt
        refine hct.mono ?_
        clear hct
        rintro e w' ⟨I, ci, I', ci', rfl, op, bo⟩
        obtain ⟨y, rfl⟩ := ext_next bo
        have hxx := q2.size x
        have hxy := bo.size
        have q0a := (q0.after y.below).alloc (.cells #[.slice I q.1.length ci, .slice I' q.2.length ci'] 25)
        have q1a := (q1.after y.below).alloc (.cells #[.slice I q.1.length ci, .slice I' q.2.length ci'] 25)
        have q2a := (q2.after y.below).alloc (.cells #[.slice I q.1.length ci, .slice I' q.2.length ci'] 25)
        have q3a := Row.new y.val 25 #[.slice I q.1.length ci, .slice I' q.2.length ci']
        have opa := op.below (bel_one y.val (.cells #[.slice I q.1.length ci, .slice I' q.2.length ci'] 25))
        have ba := via (via b0 y.below b0.size) (bel_one y.val (.cells #[.slice I q.1.length ci, .slice I' q.2.length ci'] 25)) (by have := (via b0 y.below b0.size).size; omega)
        obtain ⟨j0, j1⟩ := q0a.boxed
        obtain ⟨j2, j3, j4, j5⟩ := q1a.four
        by_cases h0 : id = 0
        · have HF := hide (lift_none (l := ((a, b), (a, t))) HV.out HT.out h0)
          subst h0
          go_wp2_with fail
          clear j0 j1 j2 j3 j4 j5
          generalize y.val.alloc (.cells #[.slice I q.1.length ci, .slice I' q.2.length ci'] 25) = w1 at *
          generalize y.val.heap.size = gA at *
          generalize x.val.heap.size = B at *
          clear K0 K1 K2 K3 K8 K9 K4 K5 F4 F5 RP op bo
          obtain ⟨K0, K1, _, _⟩ := q0a.ext2
          obtain ⟨K2, K3, K8, K9⟩ := q1a.ext4
          obtain ⟨K4, K5, F4, F5⟩ := q2a.ext2
          obtain ⟨K6, K7, _, _⟩ := q3a.ext2
          have RP := hide (fun x : Ext w1 => (rp.up ba).up x.below)
          have RQ := hide (fun x : Ext w1 => opa.rd.up x.below)
          have q2 := q2a
          refine (copyPile_any A A' c c' p _ hE.out (rp.up ba)).mono ?_
          rintro e w' ⟨M, cm, M', cm', rfl, op2, b2⟩
          obtain ⟨z, rfl⟩ : ∃ z : Ext w1, w' = z.val := ⟨⟨w', b2⟩, rfl⟩
          have hw1 := q2a.lt
          go_wp2
          refine ret_pile (w := w) (q2a.after (Ext.below _)) (by first | rfl | exact hl.1) (by first | rfl | exact hl.2) (by omega) op2 (by first | exact q2.size _ | omega) (via ba (Ext.below _) ba.size) ?_
          intro wz k5 k6 fin
          refine bodyPost_ret (by simp [results, Tryd.results49, go_sem, k5, k6]; try rfl) rfl ?_
          rw [HF.out]
          exact fin.out _
        · have h0' : (id == 0) = false := by simpa using h0
          go_wp2_with fail
          clear j0 j1 j2 j3 j4 j5
          generalize y.val.alloc (.cells #[.slice I q.1.length ci, .slice I' q.2.length ci'] 25) = w1 at *
          generalize y.val.heap.size = gA at *
          generalize x.val.heap.size = B at *
          clear K0 K1 K2 K3 K8 K9 K4 K5 F4 F5 RP op bo
          obtain ⟨K0, K1, _, _⟩ := q0a.ext2
          obtain ⟨K2, K3, K8, K9⟩ := q1a.ext4
          obtain ⟨K4, K5, F4, F5⟩ := q2a.ext2
          obtain ⟨K6, K7, _, _⟩ := q3a.ext2
          have RP := hide (fun x : Ext w1 => (rp.up ba).up x.below)
          have RQ := hide (fun x : Ext w1 => opa.rd.up x.below)
          generalize hpt : coilPut q a t id = pt
          obtain ⟨r, ok⟩ := pt
          have HP := hide hpt
          have hcp := coilPut_any I I' ci ci' q a t id w1 hq opa.rd
          rw [hpt] at hcp
          clear hpt
          refine hcp.mono ?_
          clear hcp
          rintro e w' ⟨M, cm, M', cm', rfl, op2, b2⟩
          obtain ⟨z, rfl⟩ : ∃ z : Ext w1, w' = z.val := ⟨⟨w', b2⟩, rfl⟩
          have HL := hide (lift_put (l := ((a, b), (a, t))) HV.out HNE.out HT.out h0 HP.out)
          have hw1 := q2a.lt
          have hwz := b2.size
          have q0b := (q0a.after z.below).alloc (.cells #[.slice M r.1.length cm, .slice M' r.2.length cm'] 25)
          have q2b := (q2a.after z.below).alloc (.cells #[.slice M r.1.length cm, .slice M' r.2.length cm'] 25)
          have q4b := Row.new z.val 25 #[.slice M r.1.length cm, .slice M' r.2.length cm']
          have op3 := op2.below (bel_one z.val (.cells #[.slice M r.1.length cm, .slice M' r.2.length cm'] 25))
          have bb := via (via ba z.below ba.size) (bel_one z.val (.cells #[.slice M r.1.length cm, .slice M' r.2.length cm'] 25)) (by have := (via ba z.below ba.size).size; omega)
          obtain ⟨j0, j1⟩ := q0b.boxed
          obtain ⟨j2, j3⟩ := q2b.boxed
          obtain ⟨j4, j5⟩ := q4b.boxed
          have f2 := q2b.frozen 0
          have f3 := q2b.frozen 1
          cases ok
          · have HF := hide (show coilLift p ((a, b), (a, t)) = (p, false) by rw [HL.out]; rfl)
            go_wp2_with fail
            clear j0 j1 j2 j3 j4 j5 f2 f3
            generalize z.val.alloc (.cells #[.slice M r.1.length cm, .slice M' r.2.length cm'] 25) = w2 at *
            clear K0 K1 K2 K3 K8 K9 K4 K5 F4 F5 K6 K7 RP RQ
            obtain ⟨K4, K5, F4, F5⟩ := q2b.ext2
            have q2 := q2b
            refine (copyPile_any A A' c c' p _ hE.out (rp.up bb)).mono ?_
            rintro e w' ⟨N, cn, N', cn', rfl, op4, b4⟩
            obtain ⟨v, rfl⟩ : ∃ z : Ext w2, w' = z.val := ⟨⟨w', b4⟩, rfl⟩
            have hw2 := q2b.lt
            go_wp2
            refine ret_pile (w := w) (q2b.after (Ext.below _)) (by first | rfl | exact hl.1) (by first | rfl | exact hl.2) (by omega) op4 (by first | exact q2.size _ | omega) (via bb (Ext.below _) bb.size) ?_
            intro wz k5 k6 fin
            refine bodyPost_ret (by simp [results, Tryd.results49, go_sem, k5, k6]; try rfl) rfl ?_
            rw [HF.out]
            exact fin.out _
          · have HF := hide (show coilLift p ((a, b), (a, t)) = (r, true) by rw [HL.out]; rfl)
            go_wp2_with fail
            refine ret_pile (w := w) q2b rfl rfl (by omega) op3 (by omega) bb ?_
            intro wz k5 k6 fin
            refine bodyPost_ret (by simp [results, Tryd.results49, go_sem, k5, k6]; try rfl) rfl ?_
            rw [HF.out]
            exact fin.out _
    · have HNE := hide (show ¬ (((a, b), (s, t)) : LF).1 = (((a, b), (s, t)) : LF).2 from fun e => ha (congrArg Prod.fst e))
      have t0 : (a == s) = false := by simpa using ha
      go_wp2_with fail
      generalize hqt : coilTake p a b = qt at *
      obtain ⟨q, id⟩ := qt
      have HT := hide hqt
      have hq : small q := by have := small_vd (take_vd ((vd_iff p).1 HV.out) a b); rw [hqt] at this; exact this
      have hct := coilTake_any A A' c c' p a b x.val hE.out (RP.out _)
      rw [hqt] at hct
      clear hqt
      refine hct.mono ?_
      clear hct
      rintro e w' ⟨I, ci, I', ci', rfl, op, bo⟩
      obtain ⟨y, rfl⟩ := ext_next bo
      have hxx := q2.size x
      have hxy := bo.size
      have q0a := (q0.after y.below).alloc (.cells #[.slice I q.1.length ci, .slice I' q.2.length ci'] 25)
      have q1a := (q1.after y.below).alloc (.cells #[.slice I q.1.length ci, .slice I' q.2.length ci'] 25)
      have q2a := (q2.after y.below).alloc (.cells #[.slice I q.1.length ci, .slice I' q.2.length ci'] 25)
      have q3a := Row.new y.val 25 #[.slice I q.1.length ci, .slice I' q.2.length ci']
      have opa := op.below (bel_one y.val (.cells #[.slice I q.1.length ci, .slice I' q.2.length ci'] 25))
      have ba := via (via b0 y.below b0.size) (bel_one y.val (.cells #[.slice I q.1.length ci, .slice I' q.2.length ci'] 25)) (by have := (via b0 y.below b0.size).size; omega)
      obtain ⟨j0, j1⟩ := q0a.boxed
      obtain ⟨j2, j3, j4, j5⟩ := q1a.four
      by_cases h0 : id = 0
      · have HF := hide (lift_none (l := ((a, b), (s, t))) HV.out HT.out h0)
        subst h0
        go_wp2_with fail
        clear j0 j1 j2 j3 j4 j5
        generalize y.val.alloc (.cells #[.slice I q.1.length ci, .slice I' q.2.length ci'] 25) = w1 at *
        generalize y.val.heap.size = gA at *
        generalize x.val.heap.size = B at *
        clear K0 K1 K2 K3 K8 K9 K4 K5 F4 F5 RP op bo
        obtain ⟨K0, K1, _, _⟩ := q0a.ext2
        obtain ⟨K2, K3, K8, K9⟩ := q1a.ext4
        obtain ⟨K4, K5, F4, F5⟩ := q2a.ext2
        obtain ⟨K6, K7, _, _⟩ := q3a.ext2
        have RP := hide (fun x : Ext w1 => (rp.up ba).up x.below)
        have RQ := hide (fun x : Ext w1 => opa.rd.up x.below)
        have q2 := q2a
        refine (copyPile_any A A' c c' p _ hE.out (rp.up ba)).mono ?_
        rintro e w' ⟨M, cm, M', cm', rfl, op2, b2⟩
        obtain ⟨z, rfl⟩ : ∃ z : Ext w1, w' = z.val := ⟨⟨w', b2⟩, rfl⟩
        have hw1 := q2a.lt
        go_wp2
        refine ret_pile (w := w) (q2a.after (Ext.below _)) (by first | rfl | exact hl.1) (by first | rfl | exact hl.2) (by omega) op2 (by first | exact q2.size _ | omega) (via ba (Ext.below _) ba.size) ?_
        intro wz k5 k6 fin
        refine bodyPost_ret (by simp [results, Tryd.results49, go_sem, k5, k6]; try rfl) rfl ?_
        rw [HF.out]
        exact fin.out _
      · have h0' : (id == 0) = false := by simpa using h0
        go_wp2_with fail
        clear j0 j1 j2 j3 j4 j5
        generalize y.val.alloc (.cells #[.slice I q.1.length ci, .slice I' q.2.length ci'] 25) = w1 at *
        generalize y.val.heap.size = gA at *
        generalize x.val.heap.size = B at *
        clear K0 K1 K2 K3 K8 K9 K4 K5 F4 F5 RP op bo
        obtain ⟨K0, K1, _, _⟩ := q0a.ext2
        obtain ⟨K2, K3, K8, K9⟩ := q1a.ext4
        obtain ⟨K4, K5, F4, F5⟩ := q2a.ext2
        obtain ⟨K6, K7, _, _⟩ := q3a.ext2
        have RP := hide (fun x : Ext w1 => (rp.up ba).up x.below)
        have RQ := hide (fun x : Ext w1 => opa.rd.up x.below)
        generalize hpt : coilPut q s t id = pt
        obtain ⟨r, ok⟩ := pt
        have HP := hide hpt
        have hcp := coilPut_any I I' ci ci' q s t id w1 hq opa.rd
        rw [hpt] at hcp
        clear hpt
        refine hcp.mono ?_
        clear hcp
        rintro e w' ⟨M, cm, M', cm', rfl, op2, b2⟩
        obtain ⟨z, rfl⟩ : ∃ z : Ext w1, w' = z.val := ⟨⟨w', b2⟩, rfl⟩
        have HL := hide (lift_put (l := ((a, b), (s, t))) HV.out HNE.out HT.out h0 HP.out)
        have hw1 := q2a.lt
        have hwz := b2.size
        have q0b := (q0a.after z.below).alloc (.cells #[.slice M r.1.length cm, .slice M' r.2.length cm'] 25)
        have q2b := (q2a.after z.below).alloc (.cells #[.slice M r.1.length cm, .slice M' r.2.length cm'] 25)
        have q4b := Row.new z.val 25 #[.slice M r.1.length cm, .slice M' r.2.length cm']
        have op3 := op2.below (bel_one z.val (.cells #[.slice M r.1.length cm, .slice M' r.2.length cm'] 25))
        have bb := via (via ba z.below ba.size) (bel_one z.val (.cells #[.slice M r.1.length cm, .slice M' r.2.length cm'] 25)) (by have := (via ba z.below ba.size).size; omega)
        obtain ⟨j0, j1⟩ := q0b.boxed
        obtain ⟨j2, j3⟩ := q2b.boxed
        obtain ⟨j4, j5⟩ := q4b.boxed
        have f2 := q2b.frozen 0
        have f3 := q2b.frozen 1
        cases ok
        · have HF := hide (show coilLift p ((a, b), (s, t)) = (p, false) by rw [HL.out]; rfl)
          go_wp2_with fail
          clear j0 j1 j2 j3 j4 j5 f2 f3
          generalize z.val.alloc (.cells #[.slice M r.1.length cm, .slice M' r.2.length cm'] 25) = w2 at *
          clear K0 K1 K2 K3 K8 K9 K4 K5 F4 F5 K6 K7 RP RQ
          obtain ⟨K4, K5, F4, F5⟩ := q2b.ext2
          have q2 := q2b
          refine (copyPile_any A A' c c' p _ hE.out (rp.up bb)).mono ?_
          rintro e w' ⟨N, cn, N', cn', rfl, op4, b4⟩
          obtain ⟨v, rfl⟩ : ∃ z : Ext w2, w' = z.val := ⟨⟨w', b4⟩, rfl⟩
          have hw2 := q2b.lt
          go_wp2
          refine ret_pile (w := w) (q2b.after (Ext.below _)) (by first | rfl | exact hl.1) (by first | rfl | exact hl.2) (by omega) op4 (by first | exact q2.size _ | omega) (via bb (Ext.below _) bb.size) ?_
          intro wz k5 k6 fin
          refine bodyPost_ret (by simp [results, Tryd.results49, go_sem, k5, k6]; try rfl) rfl ?_
          rw [HF.out]
          exact fin.out _
        · have HF := hide (show coilLift p ((a, b), (s, t)) = (r, true) by rw [HL.out]; rfl)
          go_wp2_with fail
          refine ret_pile (w := w) q2b rfl rfl (by omega) op3 (by omega) bb ?_
          intro wz k5 k6 fin
          refine bodyPost_ret (by simp [results, Tryd.results49, go_sem, k5, k6]; try rfl) rfl ?_
          rw [HF.out]
          exact fin.out _
set_option maxHeartbeats 1600000 in
set_option maxRecDepth 100000 in
theorem coilLift_spec (A A' : Option Addr) (c c' : Nat) (p : PL) (a : Bool) (b : Int) (s : Bool) (t : Int) (w : World) (hp : small p) (rp : RdP w w.heap.size A A' p) :
    Calls Tryd.prog 50 #[.agg #[.slice A p.1.length c, .slice A' p.2.length c'], .agg #[.bool a, .int .i64 b, .bool s, .int .i64 t]] w (PileV w (coilLift p ((a, b), (s, t))).1 (.bool (coilLift p ((a, b), (s, t))).2)) := by
  have hE := hide hp
  go_enter Tryd.func50, Tryd.ntmps50
  go_wp2_with fail
  obtain ⟨b0, q0, q1, q2, hz⟩ := box_lift w 25 59 25 (.slice A p.1.length c) (.slice A' p.2.length c') (.slice none 0 0) (.slice none 0 0) (.bool a) (.int .i64 b) (.bool s) (.int .i64 t) _ rfl
  generalize ((w.alloc (.cells #[.slice A p.1.length c, .slice A' p.2.length c'] 25)).alloc (.cells #[.bool a, .int .i64 b, .bool s, .int .i64 t] 59)).alloc (.cells #[.slice none 0 0, .slice none 0 0] 25) = w0 at *
  obtain ⟨K0, K1, _, _⟩ := q0.ext2
  obtain ⟨K2, K3, K8, K9⟩ := q1.ext4
  obtain ⟨K4, K5, F4, F5⟩ := q2.ext2
  have RP := hide (fun x : Ext w0 => (rp.up b0).up x.below)
  obtain ⟨x0, hx0⟩ := ext_self w0
  rw [← hx0]
  clear hx0
  cases hv : pileValid p
  · have HF := hide (lift_inv (l := ((a, b), (s, t))) hv)
    go_wp2_with (go_at_call 19; refine (pileValid_spec A A' c c' p _ hE.out (RP.out _)).mono ?_; rintro e w' ⟨rfl, b⟩; rw [hv]; obtain ⟨x, rfl⟩ := ext_next b; clear b)
    refine ret_pile (w := w) (q2.after (Ext.below _)) (by first | rfl | exact hl.1) (by first | rfl | exact hl.2) (by omega) (ownP_none _ (w.heap.size + 1 + 1 + 1) none none) (by first | exact q2.size _ | omega) (via b0 (Ext.below _) b0.size) ?_
    intro wz k5 k6 fin
    refine bodyPost_ret (by simp [results, Tryd.results50, go_sem, k5, k6]; try rfl) rfl ?_
    rw [HF.out]
    exact fin.out _
  · have HV := hide hv
    clear hv
    go_wp2_with fail
    refine (pileValid_spec A A' c c' p _ hE.out (RP.out _)).mono ?_
    rintro e w' ⟨rfl, bb⟩
    rw [HV.out]
    obtain ⟨x, rfl⟩ := ext_next bb
    clear bb
    go_wp2_with fail
    generalize hqt : coilTake p a b = qt at *
    obtain ⟨q, id⟩ := qt
    have HT := hide hqt
    have hq : small q := by have := small_vd (take_vd ((vd_iff p).1 HV.out) a b); rw [hqt] at this; exact this
    have hct := coilTake_spec A A' c c' p a b x.val hE.out (RP.out _)
    rw [hqt] at hct
    clear hqt
    refine hct.mono ?_
    clear hct
    rintro e w' ⟨I, ci, I', ci', rfl, op, bo⟩
    obtain ⟨y, rfl⟩ := ext_next bo
    have hxx := q2.size x
    have hxy := bo.size
    have q0a := (q0.after y.below).alloc (.cells #[.slice I q.1.length ci, .slice I' q.2.length ci'] 25)
    have q1a := (q1.after y.below).alloc (.cells #[.slice I q.1.length ci, .slice I' q.2.length ci'] 25)
    have q2a := (q2.after y.below).alloc (.cells #[.slice I q.1.length ci, .slice I' q.2.length ci'] 25)
    have q3a := Row.new y.val 25 #[.slice I q.1.length ci, .slice I' q.2.length ci']
    have opa := op.below (bel_one y.val (.cells #[.slice I q.1.length ci, .slice I' q.2.length ci'] 25))
    have ba := via (via b0 y.below b0.size) (bel_one y.val (.cells #[.slice I q.1.length ci, .slice I' q.2.length ci'] 25)) (by have := (via b0 y.below b0.size).size; omega)
    obtain ⟨j0, j1⟩ := q0a.boxed
    obtain ⟨j2, j3, j4, j5⟩ := q1a.four
    by_cases h0 : id = 0
    · have HF := hide (lift_none (l := ((a, b), (s, t))) HV.out HT.out h0)
      subst h0
      go_wp2_with fail
      clear j0 j1 j2 j3 j4 j5
      generalize y.val.alloc (.cells #[.slice I q.1.length ci, .slice I' q.2.length ci'] 25) = w1 at *
      generalize y.val.heap.size = gA at *
      generalize x.val.heap.size = B at *
      clear K0 K1 K2 K3 K8 K9 K4 K5 F4 F5 RP op bo
      obtain ⟨K0, K1, _, _⟩ := q0a.ext2
      obtain ⟨K2, K3, K8, K9⟩ := q1a.ext4
      obtain ⟨K4, K5, F4, F5⟩ := q2a.ext2
      obtain ⟨K6, K7, _, _⟩ := q3a.ext2
      have RP := hide (fun x : Ext w1 => (rp.up ba).up x.below)
      have RQ := hide (fun x : Ext w1 => opa.rd.up x.below)
      have q2 := q2a
      refine (l6Copy_any A A' c c' p _ hE.out (rp.up ba)).mono ?_
      rintro e w' ⟨M, cm, M', cm', rfl, op2, b2⟩
      obtain ⟨z, rfl⟩ : ∃ z : Ext w1, w' = z.val := ⟨⟨w', b2⟩, rfl⟩
      have hw1 := q2a.lt
      go_wp2
      refine ret_pile (w := w) (q2a.after (Ext.below _)) (by first | rfl | exact hl.1) (by first | rfl | exact hl.2) (by omega) op2 (by first | exact q2.size _ | omega) (via ba (Ext.below _) ba.size) ?_
      intro wz k5 k6 fin
      refine bodyPost_ret (by simp [results, Tryd.results50, go_sem, k5, k6]; try rfl) rfl ?_
      rw [HF.out]
      exact fin.out _
    · have h0' : (id == 0) = false := by simpa using h0
      by_cases ha : a = s
      · subst ha
        by_cases hb : b = t
        · subst hb
          have HF := hide (lift_same (p := p) (l := ((a, b), (a, b))) HV.out rfl)
          go_wp2_with fail
          clear j0 j1 j2 j3 j4 j5
          generalize y.val.alloc (.cells #[.slice I q.1.length ci, .slice I' q.2.length ci'] 25) = w1 at *
          generalize y.val.heap.size = gA at *
          generalize x.val.heap.size = B at *
          clear K0 K1 K2 K3 K8 K9 K4 K5 F4 F5 RP op bo
          obtain ⟨K0, K1, _, _⟩ := q0a.ext2
          obtain ⟨K2, K3, K8, K9⟩ := q1a.ext4
          obtain ⟨K4, K5, F4, F5⟩ := q2a.ext2
          obtain ⟨K6, K7, _, _⟩ := q3a.ext2
          have RP := hide (fun x : Ext w1 => (rp.up ba).up x.below)
          have RQ := hide (fun x : Ext w1 => opa.rd.up x.below)
          have q2 := q2a
          refine (l6Copy_any A A' c c' p _ hE.out (rp.up ba)).mono ?_
          rintro e w' ⟨M, cm, M', cm', rfl, op2, b2⟩
          obtain ⟨z, rfl⟩ : ∃ z : Ext w1, w' = z.val := ⟨⟨w', b2⟩, rfl⟩
          have hw1 := q2a.lt
          go_wp2
          refine ret_pile (w := w) (q2a.after (Ext.below _)) (by first | rfl | exact hl.1) (by first | rfl | exact hl.2) (by omega) op2 (by first | exact q2.size _ | omega) (via ba (Ext.below _) ba.size) ?_
          intro wz k5 k6 fin
          refine bodyPost_ret (by simp [results, Tryd.results50, go_sem, k5, k6]; try rfl) rfl ?_
          rw [HF.out]
          exact fin.out _
        · have HNE := hide (show ¬ (((a, b), (a, t)) : LF).1 = (((a, b), (a, t)) : LF).2 from fun e => hb (congrArg Prod.snd e))
          have t0 : (b == t) = false := by simpa using hb
          go_wp2_with fail
          clear j0 j1 j2 j3 j4 j5
          generalize y.val.alloc (.cells #[.slice I q.1.length ci, .slice I' q.2.length ci'] 25) = w1 at *
          generalize y.val.heap.size = gA at *
          generalize x.val.heap.size = B at *
          clear K0 K1 K2 K3 K8 K9 K4 K5 F4 F5 RP op bo
          obtain ⟨K0, K1, _, _⟩ := q0a.ext2
          obtain ⟨K2, K3, K8, K9⟩ := q1a.ext4
          obtain ⟨K4, K5, F4, F5⟩ := q2a.ext2
          obtain ⟨K6, K7, _, _⟩ := q3a.ext2
          have RP := hide (fun x : Ext w1 => (rp.up ba).up x.below)
          have RQ := hide (fun x : Ext w1 => opa.rd.up x.below)
          generalize hpt : coilPut q a t id = pt
          obtain ⟨r, ok⟩ := pt
          have HP := hide hpt
          have hcp := coilPut_spec I I' ci ci' q a t id w1 hq opa.rd
          rw [hpt] at hcp
          clear hpt
          refine hcp.mono ?_
          clear hcp
          rintro e w' ⟨M, cm, M', cm', rfl, op2, b2⟩
          obtain ⟨z, rfl⟩ : ∃ z : Ext w1, w' = z.val := ⟨⟨w', b2⟩, rfl⟩
          have HL := hide (lift_put (l := ((a, b), (a, t))) HV.out HNE.out HT.out h0 HP.out)
          have hw1 := q2a.lt
          have hwz := b2.size
          have q0b := (q0a.after z.below).alloc (.cells #[.slice M r.1.length cm, .slice M' r.2.length cm'] 25)
          have q2b := (q2a.after z.below).alloc (.cells #[.slice M r.1.length cm, .slice M' r.2.length cm'] 25)
          have q4b := Row.new z.val 25 #[.slice M r.1.length cm, .slice M' r.2.length cm']
          have op3 := op2.below (bel_one z.val (.cells #[.slice M r.1.length cm, .slice M' r.2.length cm'] 25))
          have bb := via (via ba z.below ba.size) (bel_one z.val (.cells #[.slice M r.1.length cm, .slice M' r.2.length cm'] 25)) (by have := (via ba z.below ba.size).size; omega)
          obtain ⟨j0, j1⟩ := q0b.boxed
          obtain ⟨j2, j3⟩ := q2b.boxed
          obtain ⟨j4, j5⟩ := q4b.boxed
          have f2 := q2b.frozen 0
          have f3 := q2b.frozen 1
          cases ok
          · have HF := hide (show coilLift p ((a, b), (a, t)) = (p, false) by rw [HL.out]; rfl)
            go_wp2_with fail
            clear j0 j1 j2 j3 j4 j5 f2 f3
            generalize z.val.alloc (.cells #[.slice M r.1.length cm, .slice M' r.2.length cm'] 25) = w2 at *
            clear K0 K1 K2 K3 K8 K9 K4 K5 F4 F5 K6 K7 RP RQ
            obtain ⟨K4, K5, F4, F5⟩ := q2b.ext2
            have q2 := q2b
            refine (l6Copy_any A A' c c' p _ hE.out (rp.up bb)).mono ?_
            rintro e w' ⟨N, cn, N', cn', rfl, op4, b4⟩
            obtain ⟨v, rfl⟩ : ∃ z : Ext w2, w' = z.val := ⟨⟨w', b4⟩, rfl⟩
            have hw2 := q2b.lt
            go_wp2
            refine ret_pile (w := w) (q2b.after (Ext.below _)) (by first | rfl | exact hl.1) (by first | rfl | exact hl.2) (by omega) op4 (by first | exact q2.size _ | omega) (via bb (Ext.below _) bb.size) ?_
            intro wz k5 k6 fin
            refine bodyPost_ret (by simp [results, Tryd.results50, go_sem, k5, k6]; try rfl) rfl ?_
            rw [HF.out]
            exact fin.out _
          · have HF := hide (show coilLift p ((a, b), (a, t)) = (r, true) by rw [HL.out]; rfl)
            go_wp2_with fail
            refine ret_pile (w := w) q2b rfl rfl (by omega) op3 (by omega) bb ?_
            intro wz k5 k6 fin
            refine bodyPost_ret (by simp [results, Tryd.results50, go_sem, k5, k6]; try rfl) rfl ?_
            rw [HF.out]
            exact fin.out _
      · have HNE := hide (show ¬ (((a, b), (s, t)) : LF).1 = (((a, b), (s, t)) : LF).2 from fun e => ha (congrArg Prod.fst e))
        have t0 : (a == s) = false := by simpa using ha
        go_wp2_with fail
        clear j0 j1 j2 j3 j4 j5
        generalize y.val.alloc (.cells #[.slice I q.1.length ci, .slice I' q.2.length ci'] 25) = w1 at *
        generalize y.val.heap.size = gA at *
        generalize x.val.heap.size = B at *
        clear K0 K1 K2 K3 K8 K9 K4 K5 F4 F5 RP op bo
        obtain ⟨K0, K1, _, _⟩ := q0a.ext2
        obtain ⟨K2, K3, K8, K9⟩ := q1a.ext4
        obtain ⟨K4, K5, F4, F5⟩ := q2a.ext2
        obtain ⟨K6, K7, _, _⟩ := q3a.ext2
        have RP := hide (fun x : Ext w1 => (rp.up ba).up x.below)
        have RQ := hide (fun x : Ext w1 => opa.rd.up x.below)
        generalize hpt : coilPut q s t id = pt
        obtain ⟨r, ok⟩ := pt
        have HP := hide hpt
        have hcp := coilPut_spec I I' ci ci' q s t id w1 hq opa.rd
        rw [hpt] at hcp
        clear hpt
        refine hcp.mono ?_
        clear hcp
        rintro e w' ⟨M, cm, M', cm', rfl, op2, b2⟩
        obtain ⟨z, rfl⟩ : ∃ z : Ext w1, w' = z.val := ⟨⟨w', b2⟩, rfl⟩
        have HL := hide (lift_put (l := ((a, b), (s, t))) HV.out HNE.out HT.out h0 HP.out)
        have hw1 := q2a.lt
        have hwz := b2.size
        have q0b := (q0a.after z.below).alloc (.cells #[.slice M r.1.length cm, .slice M' r.2.length cm'] 25)
        have q2b := (q2a.after z.below).alloc (.cells #[.slice M r.1.length cm, .slice M' r.2.length cm'] 25)
        have q4b := Row.new z.val 25 #[.slice M r.1.length cm, .slice M' r.2.length cm']
        have op3 := op2.below (bel_one z.val (.cells #[.slice M r.1.length cm, .slice M' r.2.length cm'] 25))
        have bb := via (via ba z.below ba.size) (bel_one z.val (.cells #[.slice M r.1.length cm, .slice M' r.2.length cm'] 25)) (by have := (via ba z.below ba.size).size; omega)
        obtain ⟨j0, j1⟩ := q0b.boxed
        obtain ⟨j2, j3⟩ := q2b.boxed
        obtain ⟨j4, j5⟩ := q4b.boxed
        have f2 := q2b.frozen 0
        have f3 := q2b.frozen 1
        cases ok
        · have HF := hide (show coilLift p ((a, b), (s, t)) = (p, false) by rw [HL.out]; rfl)
          go_wp2_with fail
          clear j0 j1 j2 j3 j4 j5 f2 f3
          generalize z.val.alloc (.cells #[.slice M r.1.length cm, .slice M' r.2.length cm'] 25) = w2 at *
          clear K0 K1 K2 K3 K8 K9 K4 K5 F4 F5 K6 K7 RP RQ
          obtain ⟨K4, K5, F4, F5⟩ := q2b.ext2
          have q2 := q2b
          refine (l6Copy_any A A' c c' p _ hE.out (rp.up bb)).mono ?_
          rintro e w' ⟨N, cn, N', cn', rfl, op4, b4⟩
          obtain ⟨v, rfl⟩ : ∃ z : Ext w2, w' = z.val := ⟨⟨w', b4⟩, rfl⟩
          have hw2 := q2b.lt
          go_wp2
          refine ret_pile (w := w) (q2b.after (Ext.below _)) (by first | rfl | exact hl.1) (by first | rfl | exact hl.2) (by omega) op4 (by first | exact q2.size _ | omega) (via bb (Ext.below _) bb.size) ?_
          intro wz k5 k6 fin
          refine bodyPost_ret (by simp [results, Tryd.results50, go_sem, k5, k6]; try rfl) rfl ?_
          rw [HF.out]
          exact fin.out _
        · have HF := hide (show coilLift p ((a, b), (s, t)) = (r, true) by rw [HL.out]; rfl)
          go_wp2_with fail
          refine ret_pile (w := w) q2b rfl rfl (by omega) op3 (by omega) bb ?_
          intro wz k5 k6 fin
          refine bodyPost_ret (by simp [results, Tryd.results50, go_sem, k5, k6]; try rfl) rfl ?_
          rw [HF.out]
          exact fin.out _
end Go.Proofs.YtpiiefmfiipabaaDoor
