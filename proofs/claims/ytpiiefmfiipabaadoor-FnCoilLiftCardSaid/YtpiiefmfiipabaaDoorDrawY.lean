/- What is drawn from a code: piles with a lift. No conditions but bounds on how often the reader was asked. -/
import Derived.Test.YtpiiefmfiipabaaDoorDrawV
import Derived.Test.YtpiiefmfiipabaaDoorLawKit
namespace Go.Proofs.YtpiiefmfiipabaaDoor
open Go.ChangeShapes Go.WideShapes Go.ChangeAt Go.RowKit Go.Deep
/-- A pile and a lift, drawn from a code. -/
def LiftFrom (w : World) (e : Ending) (w' : World) : Prop :=
  ∃ (A : Option Addr) (c : Nat) (A' : Option Addr) (c' : Nat) (p : PL) (a : Bool) (b : Int) (s : Bool) (t : Int), e = .returned (.tuple #[.agg #[.slice A p.1.length c, .slice A' p.2.length c'], .agg #[.bool a, .int .i64 b, .bool s, .int .i64 t]]) ∧ p.1.length ≤ 6 ∧ p.2.length ≤ 6 ∧ Own w' w.heap.size 3 A (ic p.1) ∧ Own w' w.heap.size 3 A' (ic p.2) ∧ Below w.heap.size w w'
theorem lift_stored {w W : World} {L L' : Option Addr} {xs xs' : List Value} {gP : Nat} {vs : List Value} {u0 u1 x0 x1 x2 x3 : Value} (rp : Row W w.heap.size 25 [u0, u1]) (rl : Row W (w.heap.size + 1) 59 [x0, x1, x2, x3]) (bp : Row W gP 25 vs) (hg : w.heap.size + 1 < gP)
    (o1 : Own W (w.heap.size + 2) 3 L xs) (o2 : Own W (w.heap.size + 2) 3 L' xs') (low : Below w.heap.size w W) (a0 a1 v0 v1 v2 v3 : Value) (W' : World)
    (h : (((((W.setCell ⟨w.heap.size, 0, none⟩ a0).setCell ⟨w.heap.size, 1, none⟩ a1).setCell ⟨w.heap.size + 1, 0, none⟩ v0).setCell ⟨w.heap.size + 1, 1, none⟩ v1).setCell ⟨w.heap.size + 1, 2, none⟩ v2).setCell ⟨w.heap.size + 1, 3, none⟩ v3 = W') :
    Row W' w.heap.size 25 [a0, a1] ∧ Row W' (w.heap.size + 1) 59 [v0, v1, v2, v3] ∧ Row W' gP 25 vs ∧ Own W' (w.heap.size + 2) 3 L xs ∧ Own W' (w.heap.size + 2) 3 L' xs' ∧ Below w.heap.size w W' := by
  subst h
  refine ⟨?_, ?_, ?_, ?_, ?_, ?_⟩
  · exact ((((two_set rp a0 a1).far (by simp only; omega) _).far (by simp only; omega) _).far (by simp only; omega) _).far (by simp only; omega) _
  · have q := set4' (set4 ((rl.far (p := ⟨w.heap.size, 0, none⟩) (by simp only; omega) a0).far (p := ⟨w.heap.size, 1, none⟩) (by simp only; omega) a1) v0 v1) v2 v3
    exact q
  · exact (((((bp.far (by simp only; omega) _).far (by simp only; omega) _).far (by simp only; omega) _).far (by simp only; omega) _).far (by simp only; omega) _).far (by simp only; omega) _
  · exact own_far (own_far (own_far (own_far (own_far (own_far o1 (by simp only; omega) _) (by simp only; omega) _) (by simp only; omega) _) (by simp only; omega) _) (by simp only; omega) _) (by simp only; omega) _
  · exact own_far (own_far (own_far (own_far (own_far (own_far o2 (by simp only; omega) _) (by simp only; omega) _) (by simp only; omega) _) (by simp only; omega) _) (by simp only; omega) _) (by simp only; omega) _
  · exact (((((low.setCell (by simp only; omega) _).setCell (by simp only; omega) _).setCell (by simp only; omega) _).setCell (by simp only; omega) _).setCell (by simp only; omega) _).setCell (by simp only; omega) _
set_option linter.unusedSimpArgs false in
set_option linter.unusedVariables false in
set_option maxHeartbeats 4000000 in
set_option maxRecDepth 100000 in
theorem drawCoilLift_any (A : Option Addr) (c : Nat) (bs : List Int) (w : World) (hkc : bs.length ≤ c) (hmc : c ≤ maxLen) (hbs : ∀ b ∈ bs, (Lit.int .u8 b).wf = true) (hrd : Rd w w.heap.size A (bc bs)) :
    Calls Tryd.prog 48 #[.slice A bs.length c] w (LiftFrom w) := by
  have hB := hide hbs
  clear hbs
  go_enter Tryd.func48, Tryd.ntmps48
  go_wp2_with fail
  have q2 := (Row.new w 25 #[.slice none 0 0, .slice none 0 0]).alloc (.cells #[.bool false, .int .i64 0, .bool false, .int .i64 0] 59)
  have q3 : Row ((w.alloc (.cells #[.slice none 0 0, .slice none 0 0] 25)).alloc (.cells #[.bool false, .int .i64 0, .bool false, .int .i64 0] 59)) (w.heap.size + 1) 59 [.bool false, .int .i64 0, .bool false, .int .i64 0] := (Row.new (w.alloc (.cells #[.slice none 0 0, .slice none 0 0] 25)) 59 #[.bool false, .int .i64 0, .bool false, .int .i64 0]).eq (by simp)
  have b0 := bel_two w (.cells #[.slice none 0 0, .slice none 0 0] 25) (.cells #[.bool false, .int .i64 0, .bool false, .int .i64 0] 59)
  have hz2 := q3.lt
  generalize (w.alloc (.cells #[.slice none 0 0, .slice none 0 0] 25)).alloc (.cells #[.bool false, .int .i64 0, .bool false, .int .i64 0] 59) = w0 at *
  refine (open_any A c bs w0 hkc hmc hB.out (hrd.up b0)).mono ?_
  rintro e w1 ⟨rfl, hR, bo⟩
  have hz1 := bo.size
  have hgl1 := hR.lt
  replace q2 := q2.after bo
  replace q3 := q3.after bo
  go_wp2_with fail
  refine (pile_any w0.heap.size _ _ _ (by omega) (by omega) (by omega) hR).mono ?_
  rintro e w2 ⟨L, d, L', d', p, rfl, h1, h2, oL, oL', hR', hG'⟩
  have hz4 := hG'.size
  replace q2 := (q2.kept hG' (by intro e; injection e with e; omega)).alloc (.cells #[.slice L p.1.length d, .slice L' p.2.length d'] 25)
  replace q3 := (q3.kept hG' (by intro e; injection e with e; omega)).alloc (.cells #[.slice L p.1.length d, .slice L' p.2.length d'] 25)
  have q4 := Row.new w2 25 #[.slice L p.1.length d, .slice L' p.2.length d']
  have bb := (via b0 (bo.trans (grown_low hG' (Nat.le_refl _) bo.size)) b0.size).alloc (Nat.le_trans b0.size (Nat.le_trans bo.size hG'.size)) (.cells #[.slice L p.1.length d, .slice L' p.2.length d'] 25)
  have HR := hide (hR'.alloc (.cells #[.slice L p.1.length d, .slice L' p.2.length d'] 25))
  have hgl := hR'.lt
  have oA := (oL.below (bel_one w2 (.cells #[.slice L p.1.length d, .slice L' p.2.length d'] 25)))
  have oA' := (oL'.below (bel_one w2 (.cells #[.slice L p.1.length d, .slice L' p.2.length d'] 25)))
  have m4 := two_cells q4
  clear hG' hR bo b0 hkc hmc hrd hB oL oL' hR'
  go_wp2_with fail
  clear m4
  have hgw2 : w2.heap.size < (w2.alloc (.cells #[.slice L p.1.length d, .slice L' p.2.length d'] 25)).heap.size := q4.lt
  generalize w2.alloc (.cells #[.slice L p.1.length d, .slice L' p.2.length d'] 25) = wa at *
  generalize w2.heap.size = gP at *
  refine wp_region_held_drew (S := fun w' => w'.cell? ⟨gP, 0, none⟩ = some (.slice L p.1.length d) ∧ w'.cell? ⟨gP, 1, none⟩ = some (.slice L' p.2.length d')) (by kernel_rfl) ⟨(two_cells q4).1, (two_cells q4).2.1⟩ (fun hHeld => ?_)
  refine wpAnyH_take (i := 0) (oi := _) (v := ?_) rfl (by kernel_rfl) (by kernel_rfl) (by kernel_rfl) (fun _ _ _ h => h) (Or.inl ⟨by rfl, ?_⟩) (by assumption) ?_
  rotate_left
  · intro w hSw; (try dsimp only at hSw); go_simp; first | done | with_reducible rfl
  (try simp only [Act.put, List.setIfInBounds_toArray, List.set_cons_zero, List.set_cons_succ])
  refine wpAnyH_take (i := 1) (oi := _) (v := ?_) rfl (by kernel_rfl) (by kernel_rfl) (by kernel_rfl) (fun _ _ _ h => h) (Or.inl ⟨by rfl, ?_⟩) (by assumption) ?_
  rotate_left
  · intro w hSw; (try dsimp only at hSw); go_simp; first | done | with_reducible rfl
  (try simp only [Act.put, List.setIfInBounds_toArray, List.set_cons_zero, List.set_cons_succ])
  refine wpAnyH_take (i := 2) (oi := _) (v := ?_) rfl (by kernel_rfl) (by kernel_rfl) (by kernel_rfl) (fun _ _ _ h => h) (Or.inl ⟨by rfl, ?_⟩) (by assumption) ?_
  rotate_left
  · intro w hSw; (try dsimp only at hSw); go_simp; first | done | with_reducible rfl
  (try simp only [Act.put, List.setIfInBounds_toArray, List.set_cons_zero, List.set_cons_succ])
  refine wpAnyH_take (i := 4) (oi := _) (v := ?_) rfl (by kernel_rfl) (by kernel_rfl) (by kernel_rfl) (fun _ _ _ h => h) (Or.inl ⟨by rfl, ?_⟩) (by assumption) ?_
  rotate_left
  · intro w hSw; (try dsimp only at hSw); go_simp; first | done | with_reducible rfl
  (try simp only [Act.put, List.setIfInBounds_toArray, List.set_cons_zero, List.set_cons_succ])
  refine wpAnyH_take (i := 5) (oi := _) (v := ?_) rfl (by kernel_rfl) (by kernel_rfl) (by kernel_rfl) (fun _ _ _ h => h) (Or.inl ⟨by rfl, ?_⟩) (by assumption) ?_
  rotate_left
  · intro w hSw; (try dsimp only at hSw); go_simp; first | done | with_reducible rfl
  (try simp only [Act.put, List.setIfInBounds_toArray, List.set_cons_zero, List.set_cons_succ])
  refine wpAnyH_ready (rs := [3]) (by kernel_rfl) (by simp) ?_
  refine AllReadyH.cons (o := _) rfl (fun K hK => ?_) AllReadyH.nil
  go_simp
  go_at_call 74
  refine (spot_any w0.heap.size (0 + 60) _ _ _ _ _ _ _ (by omega) (by omega) HR.out.drew).mono ?_
  rintro e w6 ⟨a, b, rfl, hb, hR6, hG6⟩
  replace hG6 := grown_trans (show wa.grownBy wa.drew (some w0.heap.size) from grown_drewS (grown_self _ _)) hG6
  replace q2 := q2.kept hG6 (by intro e; injection e with e; omega)
  replace q3 := q3.kept hG6 (by intro e; injection e with e; omega)
  replace q4 := q4.kept hG6 (by intro e; injection e with e; omega)
  replace oA := own_drawn oA hG6 (by omega)
  replace oA' := own_drawn oA' hG6 (by omega)
  have hs6 := hG6.size
  replace bb := bb.trans (grown_low hG6 (by omega) (by omega))
  clear hG6 HR
  go_wp2_with fail
  refine hK.out _ _ ⟨(two_cells q4).1, (two_cells q4).2.1⟩ (fun hHeld => ?_)
  clear hK K
  (try simp only [Act.put, List.setIfInBounds_toArray, List.set_cons_zero, List.set_cons_succ])
  refine wpAnyH_ready (rs := [6]) (by kernel_rfl) (by simp) ?_
  refine AllReadyH.cons (o := _) rfl (fun K hK => ?_) AllReadyH.nil
  go_simp
  go_at_call 74
  refine (spot_any w0.heap.size (60 + 4) _ _ _ _ _ _ _ (by omega) (by omega) hR6).mono ?_
  rintro e w8 ⟨s, t, rfl, ht, hR8, hG6⟩
  replace q2 := q2.kept hG6 (by intro e; injection e with e; omega)
  replace q3 := q3.kept hG6 (by intro e; injection e with e; omega)
  replace q4 := q4.kept hG6 (by intro e; injection e with e; omega)
  replace oA := (own_drawn oA hG6 (by omega)).mono (show w.heap.size + 2 ≤ _ by omega)
  replace oA' := (own_drawn oA' hG6 (by omega)).mono (show w.heap.size + 2 ≤ _ by omega)
  replace bb := bb.trans (grown_low hG6 (by omega) (by omega))
  clear hG6 hR6 hR8
  go_wp2_with fail
  refine hK.out _ _ ⟨(two_cells q4).1, (two_cells q4).2.1⟩ (fun hHeld => ?_)
  clear hK K
  (try simp only [Act.put, List.setIfInBounds_toArray, List.set_cons_zero, List.set_cons_succ])
  refine wpAnyH_take (i := 7) (oi := _) (v := ?_) rfl (by kernel_rfl) (by kernel_rfl) (by kernel_rfl) (fun _ _ _ h => h) (Or.inl ⟨by rfl, ?_⟩) (by assumption) ?_
  rotate_left
  · intro w hSw; (try dsimp only at hSw); go_simp; first | done | with_reducible rfl
  (try simp only [Act.put, List.setIfInBounds_toArray, List.set_cons_zero, List.set_cons_succ])
  obtain ⟨c0, c1, f0, f1⟩ := two_cells q2
  obtain ⟨d0, d1, d2, d3⟩ := q3.four
  have g0 := q3.frozen 0
  have g1 := q3.frozen 1
  have g2 := q3.frozen 2
  have g3 := q3.frozen 3
  have p4 := (q4.far (p := ⟨w.heap.size, 0, none⟩) (by simp only; omega) (.slice L p.1.length d)).far (p := ⟨w.heap.size, 1, none⟩) (by simp only; omega) (.slice L' p.2.length d')
  refine wpAnyH_ready (rs := [8]) (by kernel_rfl) (by simp) ?_
  refine AllReadyH.cons (o := _) rfl (fun K hK => ?_) AllReadyH.nil
  go_simp
  refine hK.out _ _ ⟨(two_cells p4).1, (two_cells p4).2.1⟩ (fun hHeld => ?_)
  clear hK K
  (try simp only [Act.put, List.setIfInBounds_toArray, List.set_cons_zero, List.set_cons_succ])
  obtain ⟨r1, r2, r3, r4, r5, r6⟩ := lift_stored q2 q3 q4 (by omega) oA oA' bb (.slice L p.1.length d) (.slice L' p.2.length d') (.bool a) (.int .i64 b) (.bool s) (.int .i64 t) _ rfl
  refine wpAnyH_ready (rs := [9]) (by kernel_rfl) (by simp) ?_
  refine AllReadyH.cons (o := _) rfl (fun K hK => ?_) AllReadyH.nil
  go_simp
  refine hK.out _ _ ⟨(two_cells r3).1, (two_cells r3).2.1⟩ (fun hHeld => ?_)
  clear hK K
  (try simp only [Act.put, List.setIfInBounds_toArray, List.set_cons_zero, List.set_cons_succ])
  refine wpAnyH_done (by kernel_rfl) ?_ _
  obtain ⟨k0, k1, _, _⟩ := two_cells r1
  obtain ⟨k2, k3, k4, k5⟩ := r2.four
  clear c0 c1 f0 f1 d0 d1 d2 d3 g0 g1 g2 g3 hHeld
  go_wp2
  refine bodyPost_ret (by simp [results, Tryd.results48, go_sem, k0, k1, k2, k3, k4, k5]; try rfl) rfl ?_
  exact ⟨L, d, L', d', p, a, b, s, t, rfl, h1, h2, r4.mono (by omega), r5.mono (by omega), r6⟩
end Go.Proofs.YtpiiefmfiipabaaDoor
