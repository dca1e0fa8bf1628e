/- Piles with lifts, drawn from a code, for the laws. No conditions. -/
import Derived.Test.YtpiiefmfiipabaaDoorDrawF
import Derived.Test.YtpiiefmfiipabaaDoorLiftTo
namespace Go.Proofs.YtpiiefmfiipabaaDoor
open Go.ChangeShapes Go.WideShapes Go.ChangeAt Go.RowKit Go.Deep
/-- A pile and lifts, drawn from a code. -/
def LiftsFrom (w : World) (e : Ending) (w' : World) : Prop :=
  ∃ (A : Option Addr) (c : Nat) (A' : Option Addr) (c' : Nat) (p : PL) (I : Option Addr) (ci : Nat) (ls : List LF), e = .returned (.tuple #[.agg #[.slice A p.1.length c, .slice A' p.2.length c'], .slice I ls.length ci]) ∧ p.1.length ≤ 6 ∧ p.2.length ≤ 6 ∧ ls.length ≤ 50 ∧ Own w' w.heap.size 3 A (ic p.1) ∧ Own w' w.heap.size 3 A' (ic p.2) ∧ Own w' w.heap.size 59 I (lc ls) ∧ Below w.heap.size w w'
set_option linter.unusedSimpArgs false in
set_option linter.unusedVariables false in
set_option maxHeartbeats 2000000 in
set_option maxRecDepth 100000 in
theorem drawLiftRun_any (A : Option Addr) (c : Nat) (bs : List Int) (w : World) (hkc : bs.length ≤ c) (hmc : c ≤ maxLen) (hbs : ∀ b ∈ bs, (Lit.int .u8 b).wf = true) (hrd : Rd w w.heap.size A (bc bs)) :
    Calls Tryd.prog 51 #[.slice A bs.length c] w (LiftsFrom w) := by
  have hB := hide hbs
  clear hbs
  have hmk : ∀ W : World, (Instr.makeSlice 50 (.int .i64 41) (.int .i64 41)).run Tryd.prog W = .ok (.slice (some ⟨W.heap.size, 0, none⟩) 41 41) (W.alloc (.cells (madeCells #[.bool false, .int .i64 0, .bool false, .int .i64 0] 164) 59)) := by
    intro W
    obtain ⟨i0, hi, hz0, hz1, hz2⟩ := info_parts liftInfo
    have hr := run_make (P := Tryd.prog) W 50 59 i0 (.agg #[.bool false, .int .i64 0, .bool false, .int .i64 0]) Tryd.underlying50 hi hz0 .i64 .i64 41 41 (by omega) (by omega) (by rw [hz2]; omega) (by omega)
    rw [hz1] at hr
    exact hr
  have hMC : (madeCells #[Value.bool false, Value.int .i64 0, Value.bool false, Value.int .i64 0] 164).toList = lc (List.replicate 41 l0) := madeLifts 41
  generalize madeCells #[Value.bool false, Value.int .i64 0, Value.bool false, Value.int .i64 0] 164 = mc at *
  have HM := hide hMC
  clear hMC
  go_enter Tryd.func51, Tryd.ntmps51
  go_wp2_with fail
  have q2 := Row.new w 25 #[.slice none 0 0, .slice none 0 0]
  have b0 := bel_one w (.cells #[.slice none 0 0, .slice none 0 0] 25)
  have hz2 := q2.lt
  generalize w.alloc (.cells #[.slice none 0 0, .slice none 0 0] 25) = w0 at *
  refine (open_any A c bs w0 hkc hmc hB.out (hrd.up b0)).mono ?_
  rintro e w1 ⟨rfl, hR, bo⟩
  have hz1 := bo.size
  have hgl1 := hR.lt
  replace q2 := q2.after bo
  have bz := via b0 bo b0.size
  clear bo b0 hkc hmc hrd hB
  go_wp2_with fail
  refine (odd_any w0.heap.size _ 30 _ (by omega) (by omega) (by omega) hR).mono ?_
  rintro e w3 ⟨b, rfl, hR', hG'⟩
  replace q2 := q2.kept hG' (by intro e; injection e with e; omega)
  replace bz := bz.trans (grown_low hG' (by omega) (by omega))
  have hz3 := hG'.size
  clear hR hG'
  cases b
  · go_wp2_with fail
    refine (lifts_any w0.heap.size _ 9 _ (by omega) (by omega) (by omega) hR').mono ?_
    rintro e w4 ⟨L, d, L', d', p, I, ci, ls, rfl, h1, h2, h3, o1, o2, o3, hR5, hG5⟩
    replace q2 := q2.kept hG5 (by intro e; injection e with e; omega)
    replace bz := bz.trans (grown_low hG5 (by omega) (by omega))
    clear hR' hR5 hG5
    have p2 := two_set q2 (.slice L p.1.length d) (.slice L' p.2.length d')
    have e1 := own_far (own_far o1 (p := ⟨w.heap.size, 0, none⟩) (by simp only; omega) (.slice L p.1.length d)) (p := ⟨w.heap.size, 1, none⟩) (by simp only; omega) (.slice L' p.2.length d')
    have e2 := own_far (own_far o2 (p := ⟨w.heap.size, 0, none⟩) (by simp only; omega) (.slice L p.1.length d)) (p := ⟨w.heap.size, 1, none⟩) (by simp only; omega) (.slice L' p.2.length d')
    have e3 := own_far (own_far o3 (p := ⟨w.heap.size, 0, none⟩) (by simp only; omega) (.slice L p.1.length d)) (p := ⟨w.heap.size, 1, none⟩) (by simp only; omega) (.slice L' p.2.length d')
    have b4 := (bz.setCell (p := ⟨w.heap.size, 0, none⟩) (Nat.le_refl _) (.slice L p.1.length d)).setCell (p := ⟨w.heap.size, 1, none⟩) (Nat.le_refl _) (.slice L' p.2.length d')
    have HP : Hid (LiftsFrom w (.returned (.tuple #[.agg #[.slice L p.1.length d, .slice L' p.2.length d'], .slice I (ls).length ci])) _) := hide ⟨L, d, L', d', p, I, ci, ls, rfl, h1, h2, h3, e1.mono (by omega), e2.mono (by omega), e3.mono (by omega), b4⟩
    obtain ⟨c0, c1, f0, f1⟩ := two_cells q2
    obtain ⟨k0, k1, _, _⟩ := two_cells p2
    clear e1 e2 e3 b4 p2
    go_wp2
    refine bodyPost_ret (by simp [results, Tryd.results51, go_sem, k0, k1]; try rfl) rfl ?_
    exact HP.out
  · go_wp2_with fail
    refine wp_region_held_drew (S := fun _ => True) (by kernel_rfl) trivial (fun hHeld => ?_)
    refine wpAnyH_take (i := 0) (oi := _) (v := ?_) rfl (by kernel_rfl) (by kernel_rfl) (by kernel_rfl) (fun _ _ _ h => h) (Or.inl ⟨by rfl, ?_⟩) (by assumption) ?_
    rotate_left
    · intro w hSw; (try dsimp only at hSw); go_simp; first | done | with_reducible rfl
    (try simp only [Act.put, List.setIfInBounds_toArray, List.set_cons_zero, List.set_cons_succ])
    refine wpAnyH_ready (rs := [1, 2]) (by kernel_rfl) (by simp) ?_
    refine AllReadyH.cons (o := _) rfl (fun K hK => ?_) (AllReadyH.cons (o := _) rfl (fun K hK => ?_) AllReadyH.nil)
    · go_simp
      go_at_call 65
      refine (pile_any w0.heap.size _ 0 w3.drew (by omega) (by omega) (by omega) hR'.drew).mono ?_
      rintro e w4 ⟨L, d, L', d', p, rfl, h1, h2, o1, o2, hR5, hG5⟩
      replace hG5 := grown_trans (show w3.grownBy w3.drew (some w0.heap.size) from grown_drewS (grown_self _ _)) hG5
      have qw := q2.kept hG5 (by intro e; injection e with e; omega)
      have hz5 := hG5.size
      have bw := bz.trans (grown_low hG5 (by omega) (by omega))
      have ow1 := o1.mono (show w.heap.size + 1 ≤ w3.drew.heap.size by simp; omega)
      have ow2 := o2.mono (show w.heap.size + 1 ≤ w3.drew.heap.size by simp; omega)
      replace q2 := qw.alloc (.cells mc 59)
      replace bz := bw.alloc (by omega) (.cells mc 59)
      replace o1 := (o1.below (bel_one w4 (.cells mc 59))).mono (show w.heap.size + 1 ≤ w3.drew.heap.size by simp; omega)
      replace o2 := (o2.below (bel_one w4 (.cells mc 59))).mono (show w.heap.size + 1 ≤ w3.drew.heap.size by simp; omega)
      have qm := Row.new w4 59 mc
      rw [HM.out] at qm
      have o3 := qm.own (show w.heap.size + 1 ≤ w4.heap.size by omega)
      have h3 : (List.replicate 41 l0).length ≤ 50 := by simp
      clear hR5 hG5 hR' qm
      go_wp2_with fail
      refine hK.out _ _ trivial (fun hHeld => ?_)
      clear hK K
      (try simp only [Act.put, List.setIfInBounds_toArray, List.set_cons_zero, List.set_cons_succ])
      have p2 := two_set q2 (.slice L p.1.length d) (.slice L' p.2.length d')
      have e1 := own_far (own_far o1 (p := ⟨w.heap.size, 0, none⟩) (by simp only; omega) (.slice L p.1.length d)) (p := ⟨w.heap.size, 1, none⟩) (by simp only; omega) (.slice L' p.2.length d')
      have e2 := own_far (own_far o2 (p := ⟨w.heap.size, 0, none⟩) (by simp only; omega) (.slice L p.1.length d)) (p := ⟨w.heap.size, 1, none⟩) (by simp only; omega) (.slice L' p.2.length d')
      have e3 := own_far (own_far o3 (p := ⟨w.heap.size, 0, none⟩) (by simp only; omega) (.slice L p.1.length d)) (p := ⟨w.heap.size, 1, none⟩) (by simp only; omega) (.slice L' p.2.length d')
      have b4 := (bz.setCell (p := ⟨w.heap.size, 0, none⟩) (Nat.le_refl _) (.slice L p.1.length d)).setCell (p := ⟨w.heap.size, 1, none⟩) (Nat.le_refl _) (.slice L' p.2.length d')
      have HP : Hid (LiftsFrom w (.returned (.tuple #[.agg #[.slice L p.1.length d, .slice L' p.2.length d'], .slice (some ⟨w4.heap.size, 0, none⟩) ((List.replicate 41 l0)).length 41])) _) := hide ⟨L, d, L', d', p, (some ⟨w4.heap.size, 0, none⟩), 41, (List.replicate 41 l0), rfl, h1, h2, h3, e1.mono (by omega), e2.mono (by omega), e3.mono (by omega), b4⟩
      obtain ⟨c0, c1, f0, f1⟩ := two_cells q2
      obtain ⟨k0, k1, _, _⟩ := two_cells p2
      clear e1 e2 e3 b4 p2
      refine wpAnyH_ready (rs := [2, 3]) (by kernel_rfl) (by simp) ?_
      refine AllReadyH.cons (o := _) rfl (fun K hK => ?_) (AllReadyH.cons (o := _) rfl (fun K hK => ?_) AllReadyH.nil)
      ·
        go_simp
        refine hK.out _ _ trivial (fun hHeld => ?_)
        clear hK K
        (try simp only [Act.put, List.setIfInBounds_toArray, List.set_cons_zero, List.set_cons_succ])
        refine wpAnyH_ready (rs := [3]) (by kernel_rfl) (by simp) ?_
        refine AllReadyH.cons (o := _) rfl (fun K hK => ?_) AllReadyH.nil
        go_simp
        refine hK.out _ _ trivial (fun hHeld => ?_)
        clear hK K
        (try simp only [Act.put, List.setIfInBounds_toArray, List.set_cons_zero, List.set_cons_succ])
        refine wpAnyH_ready (rs := [4]) (by kernel_rfl) (by simp) ?_
        refine AllReadyH.cons (o := _) rfl (fun K hK => ?_) AllReadyH.nil
        go_simp
        refine hK.out _ _ trivial (fun hHeld => ?_)
        clear hK K
        (try simp only [Act.put, List.setIfInBounds_toArray, List.set_cons_zero, List.set_cons_succ])
        refine wpAnyH_done (by kernel_rfl) ?_ _
        go_wp2
        refine bodyPost_ret (by simp [results, Tryd.results51, go_sem, k0, k1]; try rfl) rfl ?_
        rw [List.length_replicate] at HP
        exact HP.out
      ·
        clear HP k0 k1
        obtain ⟨c0, c1, f0, f1⟩ := two_cells qw
        have p2 := two_set qw (.slice L p.1.length d) (.slice L' p.2.length d')
        have e1 := own_far (own_far ow1 (p := ⟨w.heap.size, 0, none⟩) (by simp only; omega) (.slice L p.1.length d)) (p := ⟨w.heap.size, 1, none⟩) (by simp only; omega) (.slice L' p.2.length d')
        have e2 := own_far (own_far ow2 (p := ⟨w.heap.size, 0, none⟩) (by simp only; omega) (.slice L p.1.length d)) (p := ⟨w.heap.size, 1, none⟩) (by simp only; omega) (.slice L' p.2.length d')
        have b4 := (bw.setCell (p := ⟨w.heap.size, 0, none⟩) (Nat.le_refl _) (.slice L p.1.length d)).setCell (p := ⟨w.heap.size, 1, none⟩) (Nat.le_refl _) (.slice L' p.2.length d')
        have hsz : ((w4.setCell ⟨w.heap.size, 0, none⟩ (.slice L p.1.length d)).setCell ⟨w.heap.size, 1, none⟩ (.slice L' p.2.length d')).heap.size = w4.heap.size := by simp
        go_simp
        refine hK.out _ _ trivial (fun hHeld => ?_)
        clear hK K
        (try simp only [Act.put, List.setIfInBounds_toArray, List.set_cons_zero, List.set_cons_succ])
        generalize (w4.setCell ⟨w.heap.size, 0, none⟩ (.slice L p.1.length d)).setCell ⟨w.heap.size, 1, none⟩ (.slice L' p.2.length d') = wq at *
        have qm := Row.new wq 59 mc
        rw [HM.out, hsz] at qm
        have o3 := qm.own (show w.heap.size + 1 ≤ w4.heap.size by omega)
        obtain ⟨k0, k1, _, _⟩ := two_cells (p2.alloc (.cells mc 59))
        have HP : Hid (LiftsFrom w (.returned (.tuple #[.agg #[.slice L p.1.length d, .slice L' p.2.length d'], .slice (some ⟨w4.heap.size, 0, none⟩) (List.replicate 41 l0).length 41])) _) := hide ⟨L, d, L', d', p, _, 41, List.replicate 41 l0, rfl, h1, h2, h3, (e1.below (bel_one wq (.cells mc 59))).mono (by omega), (e2.below (bel_one wq (.cells mc 59))).mono (by omega), o3.mono (by omega), b4.alloc (by omega) (.cells mc 59)⟩
        refine wpAnyH_ready (rs := [2]) (by kernel_rfl) (by simp) ?_
        refine AllReadyH.cons (o := _) rfl (fun K hK => ?_) AllReadyH.nil
        go_simp
        refine hK.out _ _ trivial (fun hHeld => ?_)
        clear hK K
        (try simp only [Act.put, List.setIfInBounds_toArray, List.set_cons_zero, List.set_cons_succ])
        refine wpAnyH_ready (rs := [4]) (by kernel_rfl) (by simp) ?_
        refine AllReadyH.cons (o := _) rfl (fun K hK => ?_) AllReadyH.nil
        go_simp
        refine hK.out _ _ trivial (fun hHeld => ?_)
        clear hK K
        (try simp only [Act.put, List.setIfInBounds_toArray, List.set_cons_zero, List.set_cons_succ])
        refine wpAnyH_done (by kernel_rfl) ?_ _
        go_wp2
        refine bodyPost_ret (by simp [results, Tryd.results51, go_sem, k0, k1]; try rfl) rfl ?_
        rw [List.length_replicate] at HP
        exact HP.out
    · go_simp
      have qm := (Row.new w3 59 mc).drew
      rw [HM.out] at qm
      have hzw : w3.heap.size + 1 = (w3.alloc (.cells mc 59)).heap.size := by simp
      have hR6 := (hR'.alloc (.cells mc 59)).drew
      replace q2 := (q2.alloc (.cells mc 59)).drew
      replace bz := (bz.alloc (by omega) (.cells mc 59)).drew
      generalize hW : (w3.alloc (.cells mc 59)).drew = wm at *
      have hzm : wm.heap.size = w3.heap.size + 1 := by rw [← hW]; simp
      clear hW
      refine hK.out _ _ trivial (fun hHeld => ?_)
      clear hK K
      (try simp only [Act.put, List.setIfInBounds_toArray, List.set_cons_zero, List.set_cons_succ])
      refine wpAnyH_ready (rs := [1]) (by kernel_rfl) (by simp) ?_
      refine AllReadyH.cons (o := _) rfl (fun K hK => ?_) AllReadyH.nil
      go_simp
      go_at_call 65
      refine (pile_any w0.heap.size _ 0 wm (by omega) (by omega) (by omega) hR6).mono ?_
      rintro e w4 ⟨L, d, L', d', p, rfl, h1, h2, o1, o2, hR5, hG5⟩
      replace q2 := q2.kept hG5 (by intro e; injection e with e; omega)
      replace qm := qm.kept hG5 (by intro e; injection e with e; omega)
      have hz5 := hG5.size
      replace bz := bz.trans (grown_low hG5 (by omega) (by omega))
      replace o1 := o1.mono (show w.heap.size + 1 ≤ wm.heap.size by omega)
      replace o2 := o2.mono (show w.heap.size + 1 ≤ wm.heap.size by omega)
      have o3 := qm.own (show w.heap.size + 1 ≤ w3.heap.size by omega)
      have h3 : (List.replicate 41 l0).length ≤ 50 := by simp
      clear hR5 hG5 hR' hR6 qm
      go_wp2_with fail
      refine hK.out _ _ trivial (fun hHeld => ?_)
      clear hK K
      (try simp only [Act.put, List.setIfInBounds_toArray, List.set_cons_zero, List.set_cons_succ])
      have p2 := two_set q2 (.slice L p.1.length d) (.slice L' p.2.length d')
      have e1 := own_far (own_far o1 (p := ⟨w.heap.size, 0, none⟩) (by simp only; omega) (.slice L p.1.length d)) (p := ⟨w.heap.size, 1, none⟩) (by simp only; omega) (.slice L' p.2.length d')
      have e2 := own_far (own_far o2 (p := ⟨w.heap.size, 0, none⟩) (by simp only; omega) (.slice L p.1.length d)) (p := ⟨w.heap.size, 1, none⟩) (by simp only; omega) (.slice L' p.2.length d')
      have e3 := own_far (own_far o3 (p := ⟨w.heap.size, 0, none⟩) (by simp only; omega) (.slice L p.1.length d)) (p := ⟨w.heap.size, 1, none⟩) (by simp only; omega) (.slice L' p.2.length d')
      have b4 := (bz.setCell (p := ⟨w.heap.size, 0, none⟩) (Nat.le_refl _) (.slice L p.1.length d)).setCell (p := ⟨w.heap.size, 1, none⟩) (Nat.le_refl _) (.slice L' p.2.length d')
      have HP : Hid (LiftsFrom w (.returned (.tuple #[.agg #[.slice L p.1.length d, .slice L' p.2.length d'], .slice (some ⟨w3.heap.size, 0, none⟩) ((List.replicate 41 l0)).length 41])) _) := hide ⟨L, d, L', d', p, (some ⟨w3.heap.size, 0, none⟩), 41, (List.replicate 41 l0), rfl, h1, h2, h3, e1.mono (by omega), e2.mono (by omega), e3.mono (by omega), b4⟩
      obtain ⟨c0, c1, f0, f1⟩ := two_cells q2
      obtain ⟨k0, k1, _, _⟩ := two_cells p2
      clear e1 e2 e3 b4 p2
      refine wpAnyH_ready (rs := [3]) (by kernel_rfl) (by simp) ?_
      refine AllReadyH.cons (o := _) rfl (fun K hK => ?_) AllReadyH.nil
      go_simp
      refine hK.out _ _ trivial (fun hHeld => ?_)
      clear hK K
      (try simp only [Act.put, List.setIfInBounds_toArray, List.set_cons_zero, List.set_cons_succ])
      refine wpAnyH_ready (rs := [4]) (by kernel_rfl) (by simp) ?_
      refine AllReadyH.cons (o := _) rfl (fun K hK => ?_) AllReadyH.nil
      go_simp
      refine hK.out _ _ trivial (fun hHeld => ?_)
      clear hK K
      (try simp only [Act.put, List.setIfInBounds_toArray, List.set_cons_zero, List.set_cons_succ])
      refine wpAnyH_done (by kernel_rfl) ?_ _
      go_wp2
      refine bodyPost_ret (by simp [results, Tryd.results51, go_sem, k0, k1]; try rfl) rfl ?_
      rw [List.length_replicate] at HP
      exact HP.out
end Go.Proofs.YtpiiefmfiipabaaDoor
