/- What is drawn from a code: ids of coils; piles with an id, with a spot and an id, with a lift. No conditions but bounds on how often the reader was asked. -/
import Derived.Test.YtpiiefmfiipabaaDoorDrawT
import Derived.Test.YtpiiefmfiipabaaDoorCoilIds
namespace Go.Proofs.YtpiiefmfiipabaaDoor
open Go.ChangeShapes Go.WideShapes Go.ChangeAt Go.RowKit Go.Deep
def IdDrawn (w : World) (g k : Nat) (e : Ending) (w' : World) : Prop := ∃ x : Int, e = .returned (.int .i64 x) ∧ DrawnTo w w' g k
set_option linter.unusedSimpArgs false in
set_option linter.unusedVariables false in
set_option maxRecDepth 100000 in
theorem coil_any (g k : Nat) (A A' : Option Addr) (c c' : Nat) (p : PL) (w : World) (hp : small p) (rp : RdP w w.heap.size A A' p) (hk : k ≤ 1048000) (hR : Rdr w g k) :
    Calls Tryd.prog 83 #[.pointer (some ⟨g, 0, none⟩), .agg #[.slice A p.1.length c, .slice A' p.2.length c']] w (IdDrawn w g (k + 2)) := by
  have hgl := hR.lt
  have b0 := bel_one w (.cells #[.slice A p.1.length c, .slice A' p.2.length c'] 25)
  have hle := ids_le p
  have HI := hide (coilIds_spec A A' c c' p _ hp (rp.up b0))
  generalize coilIds p = z at *
  go_enter Tryd.func83, Tryd.ntmps83
  go_wp2_with fail
  refine HI.out.mono ?_
  rintro e w1 ⟨I, ci, rfl, oi, b1⟩
  have bb := via b0 b1 b0.size
  have HR := hide (hR.up bb)
  have HG := hide (grown_of bb (some g))
  replace oi := oi.mono b0.size
  clear HI rp b0 b1
  by_cases hz : z.length = 0
  · have t0 : decide (0 < z.length) = false := decide_eq_false (by omega)
    have hz' := hide hz
    clear hz
    go_wp2_with fail
    refine (pick_any g _ _ _ (by omega) (by omega) (by omega) HR.out).mono ?_
    rintro e w' ⟨x1, rfl, hax1, hbx1, hR', hG'⟩
    replace HR := hide hR'
    replace HG := hide (grown_trans HG.out hG')
    clear hR' hG'
    go_wp2
    go_ret
    exact ⟨_, rfl, HR.out.more (by omega), HG.out⟩
  · have t0 : decide (0 < z.length) = true := decide_eq_true (by omega)
    go_wp2_with fail
    refine (pick_any g _ _ _ (by omega) (by omega) (by omega) HR.out).mono ?_
    rintro e w' ⟨x1, rfl, hax1, hbx1, hR', hG'⟩
    replace HR := hide hR'
    replace HG := hide (grown_trans HG.out hG')
    replace oi := own_drawn oi hG' hgl
    clear hR' hG'
    by_cases h1 : 0 < x1
    · have t1 : decide (x1 > 0) = true := by simpa using h1
      go_wp2_with fail
      refine (pick_any g _ _ _ (by omega) (by omega) (by omega) HR.out).mono ?_
      rintro e w' ⟨x2, rfl, hax2, hbx2, hR', hG'⟩
      replace HR := hide hR'
      replace HG := hide (grown_trans HG.out hG')
      replace oi := own_drawn oi hG' hgl
      clear hR' hG'
      obtain ⟨m, rfl⟩ := Int.eq_ofNat_of_zero_le hax2
      obtain ⟨b, o, rfl, _, hc⟩ := oi.rd.int (k := m) (by omega)
      generalize z[m] = x at *
      go_wp2
      go_ret
      exact ⟨x, rfl, HR.out, HG.out⟩
    · have t1 : decide (x1 > 0) = false := by simpa using h1
      have h1' := hide h1
      clear h1
      go_wp2_with fail
      refine (pick_any g _ _ _ (by omega) (by omega) (by omega) HR.out).mono ?_
      rintro e w' ⟨x2, rfl, hax2, hbx2, hR', hG'⟩
      replace HR := hide hR'
      replace HG := hide (grown_trans HG.out hG')
      clear hR' hG'
      go_wp2
      go_ret
      exact ⟨_, rfl, HR.out, HG.out⟩
/-- A pile and an id, drawn from a code. -/
def CoilFrom (w : World) (e : Ending) (w' : World) : Prop :=
  ∃ (A : Option Addr) (c : Nat) (A' : Option Addr) (c' : Nat) (p : PL) (x : Int), e = .returned (.tuple #[.agg #[.slice A p.1.length c, .slice A' p.2.length c'], .int .i64 x]) ∧ p.1.length ≤ 6 ∧ p.2.length ≤ 6 ∧ Own w' w.heap.size 3 A (ic p.1) ∧ Own w' w.heap.size 3 A' (ic p.2) ∧ Below w.heap.size w w'
set_option linter.unusedSimpArgs false in
set_option linter.unusedVariables false in
set_option maxHeartbeats 4000000 in
set_option maxRecDepth 100000 in
theorem drawCoilFind_any (A : Option Addr) (c : Nat) (bs : List Int) (w : World) (hkc : bs.length ≤ c) (hmc : c ≤ maxLen) (hbs : ∀ b ∈ bs, (Lit.int .u8 b).wf = true) (hrd : Rd w w.heap.size A (bc bs)) :
    Calls Tryd.prog 62 #[.slice A bs.length c] w (CoilFrom w) := by
  have hB := hide hbs
  clear hbs
  go_enter Tryd.func62, Tryd.ntmps62
  go_wp2_with fail
  have q2 := Row.new w 25 #[.slice none 0 0, .slice none 0 0]
  have b0 := bel_one w (.cells #[.slice none 0 0, .slice none 0 0] 25)
  have hz2 := q2.lt
  generalize w.alloc (.cells #[.slice none 0 0, .slice none 0 0] 25) = w0 at *
  refine (open_any A c bs w0 hkc hmc hB.out (hrd.up b0)).mono ?_
  rintro e w1 ⟨rfl, hR, bo⟩
  have hz1 := bo.size
  have hgl1 := hR.lt
  replace q2 := q2.after bo
  go_wp2_with fail
  refine (pile_any w0.heap.size _ _ _ (by omega) (by omega) (by omega) hR).mono ?_
  rintro e w2 ⟨L, d, L', d', p, rfl, h1, h2, oL, oL', hR', hG'⟩
  have hz4 := hG'.size
  replace q2 := q2.kept hG' (by intro e; injection e with e; omega)
  have bb := via b0 (bo.trans (grown_low hG' (Nat.le_refl _) bo.size)) b0.size
  clear hG' hR bo b0 hkc hmc hrd hB
  have hgl := hR'.lt
  have hp : small p := ⟨by omega, by omega⟩
  have rp : RdP (w2.alloc (.cells #[.slice L p.1.length d, .slice L' p.2.length d'] 25)) (w2.alloc (.cells #[.slice L p.1.length d, .slice L' p.2.length d'] 25)).heap.size L L' p := RdP.up ⟨oL.rd, oL'.rd⟩ (bel_one w2 (.cells #[.slice L p.1.length d, .slice L' p.2.length d'] 25))
  have k0 := two_cells (Row.new w2 25 #[.slice L p.1.length d, .slice L' p.2.length d'])
  have HC := hide (fun (W : World) (h : (w2.alloc (.cells #[.slice L p.1.length d, .slice L' p.2.length d'] 25)).grownBy W (some w0.heap.size)) => And.intro (cell_kept k0.1 (by omega) h) (cell_kept k0.2.1 (by omega) h))
  have hG0 := grown_self (w2.alloc (.cells #[.slice L p.1.length d, .slice L' p.2.length d'] 25)) (some w0.heap.size)
  have HR := hide (hR'.alloc (.cells #[.slice L p.1.length d, .slice L' p.2.length d'] 25))
  clear k0 hR'
  go_wp2_with fail
  refine wp_region_held_drew (S := fun w' => w'.cell? ⟨w2.heap.size, 0, none⟩ = some (.slice L p.1.length d) ∧ w'.cell? ⟨w2.heap.size, 1, none⟩ = some (.slice L' p.2.length d')) (by kernel_rfl) (HC.out _ (by repeat (first | assumption | apply grown_drewS | apply grown_allocS))) (fun hHeld => ?_)
  refine wpAnyH_take (i := 0) (oi := _) (v := ?_) rfl (by kernel_rfl) (by kernel_rfl) (by kernel_rfl) (fun _ _ _ h => h) (Or.inl ⟨by rfl, ?_⟩) (by assumption) ?_
  rotate_left
  · intro w hSw; (try dsimp only at hSw); go_simp; first | done | with_reducible rfl
  (try simp only [Act.put, List.setIfInBounds_toArray, List.set_cons_zero, List.set_cons_succ])
  refine wpAnyH_take (i := 1) (oi := _) (v := ?_) rfl (by kernel_rfl) (by kernel_rfl) (by kernel_rfl) (fun _ _ _ h => h) (Or.inl ⟨by rfl, ?_⟩) (by assumption) ?_
  rotate_left
  · intro w hSw; (try dsimp only at hSw); go_simp; first | done | with_reducible rfl
  (try simp only [Act.put, List.setIfInBounds_toArray, List.set_cons_zero, List.set_cons_succ])
  refine wpAnyH_take (i := 2) (oi := _) (v := ?_) rfl (by kernel_rfl) (by kernel_rfl) (by kernel_rfl) (fun _ _ _ h => h) (Or.inl ⟨by rfl, ?_⟩) (by assumption) ?_
  rotate_left
  · intro w hSw; (try dsimp only at hSw); go_simp; first | done | with_reducible rfl
  (try simp only [Act.put, List.setIfInBounds_toArray, List.set_cons_zero, List.set_cons_succ])
  refine wpAnyH_ready (rs := [3]) (by kernel_rfl) (by simp) ?_
  refine AllReadyH.cons (o := _) rfl (fun K hK => ?_) AllReadyH.nil
  go_simp
  go_at_call 83
  refine (coil_any w0.heap.size (0 + 60) _ _ _ _ p _ hp (by first | exact rp.up (Below.refl _ _).drew | exact rp) (by omega) (by first | exact HR.out.drew | exact HR.out)).mono ?_
  rintro e w6 ⟨x, rfl, hR6, hG6⟩
  have hG1 := grown_trans (show (w2.alloc (.cells #[.slice L p.1.length d, .slice L' p.2.length d'] 25)).grownBy _ (some w0.heap.size) by repeat (first | assumption | apply grown_drewS | apply grown_allocS)) hG6
  clear hG6 hR6 rp
  go_wp2_with fail
  refine hK.out _ _ (HC.out _ hG1) (fun hHeld => ?_)
  clear hK K
  (try simp only [Act.put, List.setIfInBounds_toArray, List.set_cons_zero, List.set_cons_succ])
  replace q2 := (q2.alloc (.cells #[.slice L p.1.length d, .slice L' p.2.length d'] 25)).kept hG1 (by intro e; injection e with e; omega)
  have q5 := (Row.new w2 25 #[.slice L p.1.length d, .slice L' p.2.length d']).kept hG1 (by intro e; injection e with e; omega)
  have o1 := (own_drawn (oL.below (bel_one w2 (.cells #[.slice L p.1.length d, .slice L' p.2.length d'] 25))) hG1 (by omega)).mono (show w.heap.size + 1 ≤ _ by omega)
  have o2 := (own_drawn (oL'.below (bel_one w2 (.cells #[.slice L p.1.length d, .slice L' p.2.length d'] 25))) hG1 (by omega)).mono (show w.heap.size + 1 ≤ _ by omega)
  have bz := (bb.alloc bb.size (.cells #[.slice L p.1.length d, .slice L' p.2.length d'] 25)).trans (grown_low hG1 (by omega) (by simp; omega))
  have p2 := two_set q2 (.slice L p.1.length d) (.slice L' p.2.length d')
  have p5 := (q5.far (p := ⟨w.heap.size, 0, none⟩) (by simp only; omega) (.slice L p.1.length d)).far (p := ⟨w.heap.size, 1, none⟩) (by simp only; omega) (.slice L' p.2.length d')
  have e1 := own_far (own_far o1 (p := ⟨w.heap.size, 0, none⟩) (by simp only; omega) (.slice L p.1.length d)) (p := ⟨w.heap.size, 1, none⟩) (by simp only; omega) (.slice L' p.2.length d')
  have e2 := own_far (own_far o2 (p := ⟨w.heap.size, 0, none⟩) (by simp only; omega) (.slice L p.1.length d)) (p := ⟨w.heap.size, 1, none⟩) (by simp only; omega) (.slice L' p.2.length d')
  have b4 := (bz.setCell (p := ⟨w.heap.size, 0, none⟩) (Nat.le_refl _) (.slice L p.1.length d)).setCell (p := ⟨w.heap.size, 1, none⟩) (Nat.le_refl _) (.slice L' p.2.length d')
  obtain ⟨c0, c1, f0, f1⟩ := two_cells q2
  obtain ⟨k0, k1, _, _⟩ := two_cells p2
  refine wpAnyH_ready (rs := [4]) (by kernel_rfl) (by simp) ?_
  refine AllReadyH.cons (o := _) rfl (fun K hK => ?_) AllReadyH.nil
  go_simp
  refine hK.out _ _ ⟨(two_cells p5).1, (two_cells p5).2.1⟩ (fun hHeld => ?_)
  clear hK K
  (try simp only [Act.put, List.setIfInBounds_toArray, List.set_cons_zero, List.set_cons_succ])
  refine wpAnyH_take (i := 5) (oi := _) (v := ?_) rfl (by kernel_rfl) (by kernel_rfl) (by kernel_rfl) (fun _ _ _ h => h) (Or.inl ⟨by rfl, ?_⟩) (by assumption) ?_
  rotate_left
  · intro w hSw; (try dsimp only at hSw); go_simp; first | done | with_reducible rfl
  (try simp only [Act.put, List.setIfInBounds_toArray, List.set_cons_zero, List.set_cons_succ])
  refine wpAnyH_done (by kernel_rfl) ?_ _
  clear c0 c1 f0 f1 HC hHeld
  go_wp2
  refine bodyPost_ret (by simp [results, Tryd.results62, go_sem, k0, k1]; try rfl) rfl ?_
  exact ⟨L, d, L', d', p, x, rfl, h1, h2, e1.mono (by omega), e2.mono (by omega), b4⟩
set_option linter.unusedSimpArgs false in
set_option linter.unusedVariables false in
theorem drawDigLifts_any (A : Option Addr) (c : Nat) (bs : List Int) (w : World) (hkc : bs.length ≤ c) (hmc : c ≤ maxLen) (hbs : ∀ b ∈ bs, (Lit.int .u8 b).wf = true) (hrd : Rd w w.heap.size A (bc bs)) :
    Calls Tryd.prog 39 #[.slice A bs.length c] w (CoilFrom w) := by
  have hB := hide hbs
  clear hbs
  go_enter Tryd.func39, Tryd.ntmps39
  go_wp2_with fail
  have q2 := Row.new w 25 #[.slice none 0 0, .slice none 0 0]
  have b0 := bel_one w (.cells #[.slice none 0 0, .slice none 0 0] 25)
  have hz2 := q2.lt
  generalize w.alloc (.cells #[.slice none 0 0, .slice none 0 0] 25) = w0 at *
  refine (drawCoilFind_any A c bs w0 hkc hmc hB.out (hrd.up b0)).mono ?_
  rintro e w1 ⟨L, d, L', d', p, x, rfl, h1, h2, o1, o2, bo⟩
  replace q2 := q2.after bo
  have bz := via b0 bo b0.size
  have p2 := two_set q2 (.slice L p.1.length d) (.slice L' p.2.length d')
  have e1 := own_far (own_far o1 (p := ⟨w.heap.size, 0, none⟩) (by simp only; omega) (.slice L p.1.length d)) (p := ⟨w.heap.size, 1, none⟩) (by simp only; omega) (.slice L' p.2.length d')
  have e2 := own_far (own_far o2 (p := ⟨w.heap.size, 0, none⟩) (by simp only; omega) (.slice L p.1.length d)) (p := ⟨w.heap.size, 1, none⟩) (by simp only; omega) (.slice L' p.2.length d')
  have b4 := (bz.setCell (p := ⟨w.heap.size, 0, none⟩) (Nat.le_refl _) (.slice L p.1.length d)).setCell (p := ⟨w.heap.size, 1, none⟩) (Nat.le_refl _) (.slice L' p.2.length d')
  obtain ⟨c0, c1, f0, f1⟩ := two_cells q2
  obtain ⟨k0, k1, _, _⟩ := two_cells p2
  go_wp2
  refine bodyPost_ret (by simp [results, Tryd.results39, go_sem, k0, k1]; try rfl) rfl ?_
  exact ⟨L, d, L', d', p, x, rfl, h1, h2, e1.mono (by omega), e2.mono (by omega), b4⟩
end Go.Proofs.YtpiiefmfiipabaaDoor
