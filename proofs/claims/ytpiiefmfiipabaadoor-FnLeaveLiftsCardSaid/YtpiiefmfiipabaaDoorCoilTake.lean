/- CoilTake, the program's and the reference's. No conditions but bounds on lengths. -/
import Derived.Test.YtpiiefmfiipabaaDoorCoilPut
import Derived.Test.YtpiiefmfiipabaaDoorCoilsOn
namespace Go.Proofs.YtpiiefmfiipabaaDoor
open Go.ChangeShapes Go.WideShapes Go.ChangeAt Go.RowKit Go.Deep
theorem take_inv {p : PL} {t : Bool} {k : Int} (hv : pileValid p = false) : coilTake p t k = (([], []), 0) := by simp [coilTake, hv]
theorem take_stay {p : PL} {t : Bool} {k : Int} (hv : pileValid p = true) (h : coilAt p t k < 1 ∨ coilsOn p t k ≠ []) : coilTake p t k = (p, 0) := by unfold coilTake; rw [if_pos hv, if_pos (by simpa using h)]
theorem take_go {p : PL} {t : Bool} {i : Nat} (hv : pileValid p = true) (h : ¬ (coilAt p t (i : Int) < 1 ∨ coilsOn p t (i : Int) ≠ [])) : coilTake p t (i : Int) = (setRow p t i 0, coilAt p t (i : Int)) := by unfold coilTake; rw [if_pos hv, if_neg (by simpa using h)]; rfl
set_option maxHeartbeats 1600000 in
set_option maxRecDepth 100000 in
theorem coilTake_any (A A' : Option Addr) (c c' : Nat) (p : PL) (t : Bool) (k : Int) (w : World) (hp : small p) (rp : RdP w w.heap.size A A' p) :
    Calls Tryd.prog 32 #[.agg #[.slice A p.1.length c, .slice A' p.2.length c'], .agg #[.bool t, .int .i64 k]] w (PileV w (coilTake p t k).1 (.int .i64 (coilTake p t k).2)) := by
  have hE := hide hp
  go_enter Tryd.func32, Tryd.ntmps32
  go_wp2_with fail
  obtain ⟨b0, q0, q1, q2, hz⟩ := box_three w 25 31 25 (.slice A p.1.length c) (.slice A' p.2.length c') (.bool t) (.int .i64 k) (.slice none 0 0) (.slice none 0 0) _ rfl
  generalize ((w.alloc (.cells #[.slice A p.1.length c, .slice A' p.2.length c'] 25)).alloc (.cells #[.bool t, .int .i64 k] 31)).alloc (.cells #[.slice none 0 0, .slice none 0 0] 25) = w0 at *
  obtain ⟨K0, K1, _, _⟩ := q0.ext2
  obtain ⟨K2, K3, _, _⟩ := q1.ext2
  obtain ⟨K4, K5, F4, F5⟩ := q2.ext2
  have RP := hide (fun x : Ext w0 => (rp.up b0).up x.below)
  obtain ⟨x0, hx0⟩ := ext_self w0
  rw [← hx0]
  clear hx0
  cases hv : pileValid p
  · have HF := hide (take_inv (t := t) (k := k) hv)
    go_wp2_with (go_at_call 18; refine (pileValid_any A A' c c' p _ hE.out (RP.out _)).mono ?_; rintro e w' ⟨rfl, b⟩; rw [hv]; obtain ⟨x, rfl⟩ := ext_next b; clear b)
    refine ret_pile (w := w) (q2.after (Ext.below _)) (by first | rfl | exact hl.1) (by first | rfl | exact hl.2) (by omega) (ownP_none _ (w.heap.size + 1 + 1 + 1) none none) (by first | exact q2.size _ | omega) (via b0 (Ext.below _) b0.size) ?_
    intro wz k5 k6 fin
    refine bodyPost_ret (by simp [results, Tryd.results32, go_sem, k5, k6]; try rfl) rfl ?_
    rw [HF.out]
    exact fin.out _
  · have HV := hide hv
    clear hv
    go_wp2_with fail
    refine (pileValid_any A A' c c' p _ hE.out (RP.out _)).mono ?_
    rintro e w' ⟨rfl, b⟩
    rw [HV.out]
    obtain ⟨x, rfl⟩ := ext_next b
    clear b
    go_wp2_with fail
    refine (copyPile_any A A' c c' p _ hE.out (RP.out _)).mono ?_
    rintro e w' ⟨I, ci, I', ci', rfl, op, b⟩
    obtain ⟨y, rfl⟩ := ext_next b
    have hxx := q2.size x
    have hxy := b.size
    have q0a := (q0.after y.below).alloc (.cells #[.slice I p.1.length ci, .slice I' p.2.length ci'] 25)
    have q1a := (q1.after y.below).alloc (.cells #[.slice I p.1.length ci, .slice I' p.2.length ci'] 25)
    have q2a := (q2.after y.below).alloc (.cells #[.slice I p.1.length ci, .slice I' p.2.length ci'] 25)
    have q3a := Row.new y.val 25 #[.slice I p.1.length ci, .slice I' p.2.length ci']
    obtain ⟨j0, j1⟩ := q0a.boxed
    obtain ⟨j2, j3⟩ := q1a.boxed
    go_wp2_with fail
    clear j0 j1 j2 j3
    have opa := op.below (bel_one y.val (.cells #[.slice I p.1.length ci, .slice I' p.2.length ci'] 25))
    have opl := op.lt
    have ba := via (via b0 y.below b0.size) (bel_one y.val (.cells #[.slice I p.1.length ci, .slice I' p.2.length ci'] 25)) (by have := (via b0 y.below b0.size).size; omega)
    generalize y.val.alloc (.cells #[.slice I p.1.length ci, .slice I' p.2.length ci'] 25) = w1 at *
    generalize y.val.heap.size = gA at *
    generalize x.val.heap.size = B at *
    clear K0 K1 K2 K3 K4 K5 F4 F5 RP op b
    obtain ⟨K0, K1, _, _⟩ := q0a.ext2
    obtain ⟨K2, K3, _, _⟩ := q1a.ext2
    obtain ⟨K4, K5, F4, F5⟩ := q2a.ext2
    obtain ⟨K6, K7, _, _⟩ := q3a.ext2
    have RP := hide (fun x : Ext w1 => (rp.up ba).up x.below)
    refine (coilAt_any A A' c c' p t k _ hp (rp.up ba)).mono ?_
    rintro e w' ⟨rfl, b⟩
    obtain ⟨x6, rfl⟩ : ∃ z : Ext w1, w' = z.val := ⟨⟨w', b⟩, rfl⟩
    clear b
    by_cases h1 : coilAt p t k < 1
    · have HF := hide (take_stay (t := t) (k := k) HV.out (.inl h1))
      have q2 := q2a
      go_wp2_with fail
      refine ret_pile (w := w) (q2a.after (Ext.below _)) (by first | rfl | exact hl.1) (by first | rfl | exact hl.2) (by omega) (opa.below (Ext.below _)) (by first | exact q2.size _ | omega) (via ba (Ext.below _) ba.size) ?_
      intro wz k5 k6 fin
      refine bodyPost_ret (by simp [results, Tryd.results32, go_sem, k5, k6]; try rfl) rfl ?_
      rw [HF.out]
      exact fin.out _
    · by_cases h2 : coilsOn p t k ≠ []
      · have HF := hide (take_stay (t := t) (k := k) HV.out (.inr h2))
        have hlen : 0 < (coilsOn p t k).length := List.length_pos_iff.2 h2
        have hle := coilsOn_le (p := p) (top := t) (place := k)
        have q2 := q2a
        clear h2
        go_wp2_with (go_at_call 29; refine (coilsOn_any A A' c c' p t k _ hE.out (RP.out _)).mono ?_; rintro e w' ⟨J, cJ, rfl, oJ, b⟩; obtain ⟨x7, rfl⟩ := ext_next b; clear b)
        refine ret_pile (w := w) (q2a.after (Ext.below _)) (by first | rfl | exact hl.1) (by first | rfl | exact hl.2) (by omega) (opa.below (Ext.below _)) (by first | exact q2.size _ | omega) (via ba (Ext.below _) ba.size) ?_
        intro wz k5 k6 fin
        refine bodyPost_ret (by simp [results, Tryd.results32, go_sem, k5, k6]; try rfl) rfl ?_
        rw [HF.out]
        exact fin.out _
      · have h2' : coilsOn p t k = [] := Classical.byContradiction h2
        obtain ⟨V, hk, hin, hcl⟩ := coilAt_pos (p := p) (top := t) (place := k) (by omega)
        obtain ⟨i, rfl⟩ : ∃ i : Nat, k = (i : Int) := ⟨k.toNat, by omega⟩
        have HF := hide (take_go (t := t) (i := i) HV.out (by intro h; rcases h with h | h; exact h1 h; exact h2 h))
        have HO := hide h2'
        clear h2 h2' V hk hcl
        have i0 : (0 : Int) ≤ (i : Int) := by omega
        have hi : i < (rowOf p t).length := hin
        go_wp2_with (go_at_call 29; refine (coilsOn_any A A' c c' p t _ _ hE.out (RP.out _)).mono ?_; rintro e w' ⟨J, cJ, rfl, oJ, b⟩; rw [HO.out] at oJ ⊢; obtain ⟨x7, rfl⟩ := ext_next b; clear b)
        cases t
        · have hi' : i < p.1.length := hi
          have i1 : (i : Int) < (p.1.length : Int) := by omega
          obtain ⟨gr, rfl, hB, hlt, rr⟩ := own_row opa.1 hi'
          have hgr := (opl gr (.inl (by rw [ownB_cons _ (by intro e; have := congrArg List.length e; rw [ic_len] at this; simp only [List.length_nil] at this; omega)]; rfl))).2
          obtain ⟨C0, G0⟩ := rr.int hi'
          have n1 : ¬ w.heap.size = gr := by omega
          have n2 : ¬ w.heap.size + 1 = gr := by omega
          have n3 : ¬ gA = gr := by omega
          go_region_held3 (fun w' => (w'.cell? ⟨gA, 0, none⟩ = some (.slice (some ⟨gr, 0, none⟩) p.1.length ci) ∧ w'.cell? ⟨gA, 1, none⟩ = some (.slice I' p.2.length ci')) ∧ w'.cell? ⟨w.heap.size + 1, 0, none⟩ = some (.bool false) ∧ w'.cell? ⟨w.heap.size + 1, 1, none⟩ = some (.int .i64 (i : Int)))
            (refine ⟨⟨?_, ?_⟩, ?_, ?_⟩ <;> first | exact K6 _ | exact K7 _ | exact K2 _ | exact K3 _ | (simp [go_sem, K6, K7, K2, K3]; done))
            ((go_at_call 76; refine (row_low _ _ _ _ _ _ _ _).mono ?_; rintro e w7 ⟨rfl, b7⟩; have B7 : Below w1.heap.size w1 w7 := via (by first | exact Ext.below _ | exact (Ext.below _).drew | go_grown) b7 (by first | exact (Ext.below _).size | go_size); obtain ⟨x8, rfl⟩ : ∃ y : Ext w1, w7 = y.val := ⟨⟨w7, B7⟩, rfl⟩))
          all_goals
            have op2 := (opa.below x8.below).low (x := 0) hi'
            have q2b := (q2a.after x8.below).far (p := ⟨gr, i, none⟩) (by simp only; omega) (.int .i64 0)
            have q3b := (q3a.after x8.below).far (p := ⟨gr, i, none⟩) (by simp only; omega) (.int .i64 0)
            have bb := (via ba x8.below ba.size).setCell (p := ⟨gr, i, none⟩) (by simp only; omega) (.int .i64 0)
            have hl := setRow_len p false i 0
            generalize x8.val.setCell ⟨gr, i, none⟩ (.int .i64 0) = w2 at *
            clear K0 K1 K2 K3 K4 K5 F4 F5 K6 K7 C0 G0
            obtain ⟨K4, K5⟩ := q2b.boxed
            obtain ⟨K6, K7⟩ := q3b.boxed
            have F4 := q2b.frozen 0
            have F5 := q2b.frozen 1
            have HL := hide hl
            clear hl
            go_wp2_with fail
            have hl := HL.out
            refine ret_pile (w := w) q2b (by first | rfl | exact hl.1) (by first | rfl | exact hl.2) (by omega) op2 (by first | exact q2.size _ | omega) bb ?_
            intro wz k5 k6 fin
            refine bodyPost_ret (by simp [results, Tryd.results32, go_sem, k5, k6]; try rfl) rfl ?_
            rw [HF.out]
            exact fin.out _
        · have hi' : i < p.2.length := hi
          have i1 : (i : Int) < (p.2.length : Int) := by omega
          obtain ⟨gr, rfl, hB, hlt, rr⟩ := own_row opa.2.1 hi'
          have hgr := (opl gr (.inr (by rw [ownB_cons _ (by intro e; have := congrArg List.length e; rw [ic_len] at this; simp only [List.length_nil] at this; omega)]; rfl))).2
          obtain ⟨C0, G0⟩ := rr.int hi'
          have n1 : ¬ w.heap.size = gr := by omega
          have n2 : ¬ w.heap.size + 1 = gr := by omega
          have n3 : ¬ gA = gr := by omega
          go_region_held3 (fun w' => (w'.cell? ⟨gA, 0, none⟩ = some (.slice I p.1.length ci) ∧ w'.cell? ⟨gA, 1, none⟩ = some (.slice (some ⟨gr, 0, none⟩) p.2.length ci')) ∧ w'.cell? ⟨w.heap.size + 1, 0, none⟩ = some (.bool true) ∧ w'.cell? ⟨w.heap.size + 1, 1, none⟩ = some (.int .i64 (i : Int)))
            (refine ⟨⟨?_, ?_⟩, ?_, ?_⟩ <;> first | exact K6 _ | exact K7 _ | exact K2 _ | exact K3 _ | (simp [go_sem, K6, K7, K2, K3]; done))
            ((go_at_call 76; refine (row_high _ _ _ _ _ _ _ _).mono ?_; rintro e w7 ⟨rfl, b7⟩; have B7 : Below w1.heap.size w1 w7 := via (by first | exact Ext.below _ | exact (Ext.below _).drew | go_grown) b7 (by first | exact (Ext.below _).size | go_size); obtain ⟨x8, rfl⟩ : ∃ y : Ext w1, w7 = y.val := ⟨⟨w7, B7⟩, rfl⟩))
          all_goals
            have op2 := (opa.below x8.below).high (x := 0) hi'
            have q2b := (q2a.after x8.below).far (p := ⟨gr, i, none⟩) (by simp only; omega) (.int .i64 0)
            have q3b := (q3a.after x8.below).far (p := ⟨gr, i, none⟩) (by simp only; omega) (.int .i64 0)
            have bb := (via ba x8.below ba.size).setCell (p := ⟨gr, i, none⟩) (by simp only; omega) (.int .i64 0)
            have hl := setRow_len p true i 0
            generalize x8.val.setCell ⟨gr, i, none⟩ (.int .i64 0) = w2 at *
            clear K0 K1 K2 K3 K4 K5 F4 F5 K6 K7 C0 G0
            obtain ⟨K4, K5⟩ := q2b.boxed
            obtain ⟨K6, K7⟩ := q3b.boxed
            have F4 := q2b.frozen 0
            have F5 := q2b.frozen 1
            have HL := hide hl
            clear hl
            go_wp2_with fail
            have hl := HL.out
            refine ret_pile (w := w) q2b (by first | rfl | exact hl.1) (by first | rfl | exact hl.2) (by omega) op2 (by first | exact q2.size _ | omega) bb ?_
            intro wz k5 k6 fin
            refine bodyPost_ret (by simp [results, Tryd.results32, go_sem, k5, k6]; try rfl) rfl ?_
            rw [HF.out]
            exact fin.out _
set_option maxHeartbeats 1600000 in
set_option maxRecDepth 100000 in
theorem coilTake_spec (A A' : Option Addr) (c c' : Nat) (p : PL) (t : Bool) (k : Int) (w : World) (hp : small p) (rp : RdP w w.heap.size A A' p) :
    Calls Tryd.prog 34 #[.agg #[.slice A p.1.length c, .slice A' p.2.length c'], .agg #[.bool t, .int .i64 k]] w (PileV w (coilTake p t k).1 (.int .i64 (coilTake p t k).2)) := by
  have hE := hide hp
  go_enter Tryd.func34, Tryd.ntmps34
  go_wp2_with fail
  obtain ⟨b0, q0, q1, q2, hz⟩ := box_three w 25 31 25 (.slice A p.1.length c) (.slice A' p.2.length c') (.bool t) (.int .i64 k) (.slice none 0 0) (.slice none 0 0) _ rfl
  generalize ((w.alloc (.cells #[.slice A p.1.length c, .slice A' p.2.length c'] 25)).alloc (.cells #[.bool t, .int .i64 k] 31)).alloc (.cells #[.slice none 0 0, .slice none 0 0] 25) = w0 at *
  obtain ⟨K0, K1, _, _⟩ := q0.ext2
  obtain ⟨K2, K3, _, _⟩ := q1.ext2
  obtain ⟨K4, K5, F4, F5⟩ := q2.ext2
  have RP := hide (fun x : Ext w0 => (rp.up b0).up x.below)
  obtain ⟨x0, hx0⟩ := ext_self w0
  rw [← hx0]
  clear hx0
  cases hv : pileValid p
  · have HF := hide (take_inv (t := t) (k := k) hv)
    go_wp2_with (go_at_call 19; refine (pileValid_spec A A' c c' p _ hE.out (RP.out _)).mono ?_; rintro e w' ⟨rfl, b⟩; rw [hv]; obtain ⟨x, rfl⟩ := ext_next b; clear b)
    refine ret_pile (w := w) (q2.after (Ext.below _)) (by first | rfl | exact hl.1) (by first | rfl | exact hl.2) (by omega) (ownP_none _ (w.heap.size + 1 + 1 + 1) none none) (by first | exact q2.size _ | omega) (via b0 (Ext.below _) b0.size) ?_
    intro wz k5 k6 fin
    refine bodyPost_ret (by simp [results, Tryd.results34, go_sem, k5, k6]; try rfl) rfl ?_
    rw [HF.out]
    exact fin.out _
  · have HV := hide hv
    clear hv
    go_wp2_with fail
    refine (pileValid_spec A A' c c' p _ hE.out (RP.out _)).mono ?_
    rintro e w' ⟨rfl, b⟩
    rw [HV.out]
    obtain ⟨x, rfl⟩ := ext_next b
    clear b
    go_wp2_with fail
    refine (l6Copy_any A A' c c' p _ hE.out (RP.out _)).mono ?_
    rintro e w' ⟨I, ci, I', ci', rfl, op, b⟩
    obtain ⟨y, rfl⟩ := ext_next b
    have hxx := q2.size x
    have hxy := b.size
    have q0a := (q0.after y.below).alloc (.cells #[.slice I p.1.length ci, .slice I' p.2.length ci'] 25)
    have q1a := (q1.after y.below).alloc (.cells #[.slice I p.1.length ci, .slice I' p.2.length ci'] 25)
    have q2a := (q2.after y.below).alloc (.cells #[.slice I p.1.length ci, .slice I' p.2.length ci'] 25)
    have q3a := Row.new y.val 25 #[.slice I p.1.length ci, .slice I' p.2.length ci']
    obtain ⟨j0, j1⟩ := q0a.boxed
    obtain ⟨j2, j3⟩ := q1a.boxed
    go_wp2_with fail
    clear j0 j1 j2 j3
    have opa := op.below (bel_one y.val (.cells #[.slice I p.1.length ci, .slice I' p.2.length ci'] 25))
    have opl := op.lt
    have ba := via (via b0 y.below b0.size) (bel_one y.val (.cells #[.slice I p.1.length ci, .slice I' p.2.length ci'] 25)) (by have := (via b0 y.below b0.size).size; omega)
    generalize y.val.alloc (.cells #[.slice I p.1.length ci, .slice I' p.2.length ci'] 25) = w1 at *
    generalize y.val.heap.size = gA at *
    generalize x.val.heap.size = B at *
    clear K0 K1 K2 K3 K4 K5 F4 F5 RP op b
    obtain ⟨K0, K1, _, _⟩ := q0a.ext2
    obtain ⟨K2, K3, _, _⟩ := q1a.ext2
    obtain ⟨K4, K5, F4, F5⟩ := q2a.ext2
    obtain ⟨K6, K7, _, _⟩ := q3a.ext2
    have RP := hide (fun x : Ext w1 => (rp.up ba).up x.below)
    refine (coilAt_spec A A' c c' p t k _ hp (rp.up ba)).mono ?_
    rintro e w' ⟨rfl, b⟩
    obtain ⟨x6, rfl⟩ : ∃ z : Ext w1, w' = z.val := ⟨⟨w', b⟩, rfl⟩
    clear b
    by_cases h1 : coilAt p t k < 1
    · have HF := hide (take_stay (t := t) (k := k) HV.out (.inl h1))
      have q2 := q2a
      go_wp2_with fail
      refine ret_pile (w := w) (q2a.after (Ext.below _)) (by first | rfl | exact hl.1) (by first | rfl | exact hl.2) (by omega) (opa.below (Ext.below _)) (by first | exact q2.size _ | omega) (via ba (Ext.below _) ba.size) ?_
      intro wz k5 k6 fin
      refine bodyPost_ret (by simp [results, Tryd.results34, go_sem, k5, k6]; try rfl) rfl ?_
      rw [HF.out]
      exact fin.out _
    · by_cases h2 : coilsOn p t k ≠ []
      · have HF := hide (take_stay (t := t) (k := k) HV.out (.inr h2))
        have hlen : 0 < (coilsOn p t k).length := List.length_pos_iff.2 h2
        have hle := coilsOn_le (p := p) (top := t) (place := k)
        have q2 := q2a
        clear h2
        go_wp2_with (go_at_call 31; refine (coilsOn_spec A A' c c' p t k _ hE.out (RP.out _)).mono ?_; rintro e w' ⟨J, cJ, rfl, oJ, b⟩; obtain ⟨x7, rfl⟩ := ext_next b; clear b)
        refine ret_pile (w := w) (q2a.after (Ext.below _)) (by first | rfl | exact hl.1) (by first | rfl | exact hl.2) (by omega) (opa.below (Ext.below _)) (by first | exact q2.size _ | omega) (via ba (Ext.below _) ba.size) ?_
        intro wz k5 k6 fin
        refine bodyPost_ret (by simp [results, Tryd.results34, go_sem, k5, k6]; try rfl) rfl ?_
        rw [HF.out]
        exact fin.out _
      · have h2' : coilsOn p t k = [] := Classical.byContradiction h2
        obtain ⟨V, hk, hin, hcl⟩ := coilAt_pos (p := p) (top := t) (place := k) (by omega)
        obtain ⟨i, rfl⟩ : ∃ i : Nat, k = (i : Int) := ⟨k.toNat, by omega⟩
        have HF := hide (take_go (t := t) (i := i) HV.out (by intro h; rcases h with h | h; exact h1 h; exact h2 h))
        have HO := hide h2'
        clear h2 h2' V hk hcl
        have i0 : (0 : Int) ≤ (i : Int) := by omega
        have hi : i < (rowOf p t).length := hin
        cases t
        · have hi' : i < p.1.length := hi
          have i1 : (i : Int) < (p.1.length : Int) := by omega
          obtain ⟨gr, rfl, hB, hlt, rr⟩ := own_row opa.1 hi'
          have hgr := (opl gr (.inl (by rw [ownB_cons _ (by intro e; have := congrArg List.length e; rw [ic_len] at this; simp only [List.length_nil] at this; omega)]; rfl))).2
          obtain ⟨C0, G0⟩ := rr.int hi'
          have n1 : ¬ w.heap.size = gr := by omega
          have n2 : ¬ w.heap.size + 1 = gr := by omega
          have n3 : ¬ gA = gr := by omega
          go_wp2_with (go_at_call 31; refine (coilsOn_spec _ _ c c' p false _ _ hE.out (RP.out _)).mono ?_; rintro e w' ⟨J, cJ, rfl, oJ, b⟩; rw [HO.out] at oJ ⊢; obtain ⟨x7, rfl⟩ := ext_next b; clear b)
          have op2 := (opa.below x7.below).low (x := 0) hi'
          have q0b := (q0a.after x7.below).far (p := ⟨gr, i, none⟩) (by simp only; omega) (.int .i64 0)
          have q1b := (q1a.after x7.below).far (p := ⟨gr, i, none⟩) (by simp only; omega) (.int .i64 0)
          have q2b := (q2a.after x7.below).far (p := ⟨gr, i, none⟩) (by simp only; omega) (.int .i64 0)
          have q3b := (q3a.after x7.below).far (p := ⟨gr, i, none⟩) (by simp only; omega) (.int .i64 0)
          have bb := (via ba x7.below ba.size).setCell (p := ⟨gr, i, none⟩) (by simp only; omega) (.int .i64 0)
          have HL := hide (setRow_len p false i 0)
          generalize x7.val.setCell ⟨gr, i, none⟩ (.int .i64 0) = w2 at *
          clear K0 K1 K2 K3 K4 K5 F4 F5 K6 K7 C0 G0 RP
          obtain ⟨K0, K1, _, _⟩ := q0b.ext2
          obtain ⟨K2, K3, _, _⟩ := q1b.ext2
          obtain ⟨K4, K5, F4, F5⟩ := q2b.ext2
          obtain ⟨K6, K7, _, _⟩ := q3b.ext2
          have RP := hide (fun x : Ext w2 => (rp.up bb).up x.below)
          have q2 := q2b
          obtain ⟨x2, hx2⟩ := ext_self w2
          rw [← hx2]
          clear hx2
          have n4 : ¬ gA = w.heap.size + 1 + 1 := by omega
          go_region_held3 (fun w' => ((w'.cell? ⟨gA, 0, none⟩ = some (.slice (some ⟨gr, 0, none⟩) p.1.length ci) ∧ w'.cell? ⟨gA, 1, none⟩ = some (.slice I' p.2.length ci')) ∧ (w'.cell? ⟨w.heap.size + 1, 0, none⟩ = some (.bool false) ∧ w'.cell? ⟨w.heap.size + 1, 1, none⟩ = some (.int .i64 (i : Int)))) ∧ w'.cell? ⟨w.heap.size, 0, none⟩ = some (.slice A p.1.length c) ∧ w'.cell? ⟨w.heap.size, 1, none⟩ = some (.slice A' p.2.length c'))
            (refine ⟨⟨⟨?_, ?_⟩, ?_, ?_⟩, ?_, ?_⟩ <;> first | exact K6 _ | exact K7 _ | exact K2 _ | exact K3 _ | exact K0 _ | exact K1 _ | (simp [go_sem, K6, K7, K2, K3, K0, K1]; done))
            ((go_at_call 23; refine (coilAt_spec A A' c c' p false _ _ hE.out ?_).mono ?_; exact (rp.up bb).up (by first | exact Ext.below _ | exact (Ext.below _).drew | go_grown); rintro e w7 ⟨rfl, b7⟩; have B7 : Below w2.heap.size w2 w7 := via (by first | exact Ext.below _ | exact (Ext.below _).drew | go_grown) b7 (by first | exact (Ext.below _).size | go_size); obtain ⟨x8, rfl⟩ : ∃ y : Ext w2, w7 = y.val := ⟨⟨w7, B7⟩, rfl⟩))
          all_goals
            go_wp2
            have hl := HL.out
            refine ret_pile (w := w) (q2b.after (Ext.below _)) (by first | rfl | exact hl.1) (by first | rfl | exact hl.2) (by omega) (op2.below (Ext.below _)) (by first | exact q2.size _ | omega) (via bb (Ext.below _) bb.size) ?_
            intro wz k5 k6 fin
            refine bodyPost_ret (by simp [results, Tryd.results34, go_sem, k5, k6]; try rfl) rfl ?_
            rw [HF.out]
            exact fin.out _
        · have hi' : i < p.2.length := hi
          have i1 : (i : Int) < (p.2.length : Int) := by omega
          obtain ⟨gr, rfl, hB, hlt, rr⟩ := own_row opa.2.1 hi'
          have hgr := (opl gr (.inr (by rw [ownB_cons _ (by intro e; have := congrArg List.length e; rw [ic_len] at this; simp only [List.length_nil] at this; omega)]; rfl))).2
          obtain ⟨C0, G0⟩ := rr.int hi'
          have n1 : ¬ w.heap.size = gr := by omega
          have n2 : ¬ w.heap.size + 1 = gr := by omega
          have n3 : ¬ gA = gr := by omega
          go_wp2_with (go_at_call 31; refine (coilsOn_spec _ _ c c' p true _ _ hE.out (RP.out _)).mono ?_; rintro e w' ⟨J, cJ, rfl, oJ, b⟩; rw [HO.out] at oJ ⊢; obtain ⟨x7, rfl⟩ := ext_next b; clear b)
          have op2 := (opa.below x7.below).high (x := 0) hi'
          have q0b := (q0a.after x7.below).far (p := ⟨gr, i, none⟩) (by simp only; omega) (.int .i64 0)
          have q1b := (q1a.after x7.below).far (p := ⟨gr, i, none⟩) (by simp only; omega) (.int .i64 0)
          have q2b := (q2a.after x7.below).far (p := ⟨gr, i, none⟩) (by simp only; omega) (.int .i64 0)
          have q3b := (q3a.after x7.below).far (p := ⟨gr, i, none⟩) (by simp only; omega) (.int .i64 0)
          have bb := (via ba x7.below ba.size).setCell (p := ⟨gr, i, none⟩) (by simp only; omega) (.int .i64 0)
          have HL := hide (setRow_len p true i 0)
          generalize x7.val.setCell ⟨gr, i, none⟩ (.int .i64 0) = w2 at *
          clear K0 K1 K2 K3 K4 K5 F4 F5 K6 K7 C0 G0 RP
          obtain ⟨K0, K1, _, _⟩ := q0b.ext2
          obtain ⟨K2, K3, _, _⟩ := q1b.ext2
          obtain ⟨K4, K5, F4, F5⟩ := q2b.ext2
          obtain ⟨K6, K7, _, _⟩ := q3b.ext2
          have RP := hide (fun x : Ext w2 => (rp.up bb).up x.below)
          have q2 := q2b
          obtain ⟨x2, hx2⟩ := ext_self w2
          rw [← hx2]
          clear hx2
          have n4 : ¬ gA = w.heap.size + 1 + 1 := by omega
          go_region_held3 (fun w' => ((w'.cell? ⟨gA, 0, none⟩ = some (.slice I p.1.length ci) ∧ w'.cell? ⟨gA, 1, none⟩ = some (.slice (some ⟨gr, 0, none⟩) p.2.length ci')) ∧ (w'.cell? ⟨w.heap.size + 1, 0, none⟩ = some (.bool true) ∧ w'.cell? ⟨w.heap.size + 1, 1, none⟩ = some (.int .i64 (i : Int)))) ∧ w'.cell? ⟨w.heap.size, 0, none⟩ = some (.slice A p.1.length c) ∧ w'.cell? ⟨w.heap.size, 1, none⟩ = some (.slice A' p.2.length c'))
            (refine ⟨⟨⟨?_, ?_⟩, ?_, ?_⟩, ?_, ?_⟩ <;> first | exact K6 _ | exact K7 _ | exact K2 _ | exact K3 _ | exact K0 _ | exact K1 _ | (simp [go_sem, K6, K7, K2, K3, K0, K1]; done))
            ((go_at_call 23; refine (coilAt_spec A A' c c' p true _ _ hE.out ?_).mono ?_; exact (rp.up bb).up (by first | exact Ext.below _ | exact (Ext.below _).drew | go_grown); rintro e w7 ⟨rfl, b7⟩; have B7 : Below w2.heap.size w2 w7 := via (by first | exact Ext.below _ | exact (Ext.below _).drew | go_grown) b7 (by first | exact (Ext.below _).size | go_size); obtain ⟨x8, rfl⟩ : ∃ y : Ext w2, w7 = y.val := ⟨⟨w7, B7⟩, rfl⟩))
          all_goals
            go_wp2
            have hl := HL.out
            refine ret_pile (w := w) (q2b.after (Ext.below _)) (by first | rfl | exact hl.1) (by first | rfl | exact hl.2) (by omega) (op2.below (Ext.below _)) (by first | exact q2.size _ | omega) (via bb (Ext.below _) bb.size) ?_
            intro wz k5 k6 fin
            refine bodyPost_ret (by simp [results, Tryd.results34, go_sem, k5, k6]; try rfl) rfl ?_
            rw [HF.out]
            exact fin.out _
end Go.Proofs.YtpiiefmfiipabaaDoor
