/- A pile and a spot, drawn from a code, for the laws. No conditions. -/
import Derived.Test.YtpiiefmfiipabaaDoorDrawQ
import Derived.Test.YtpiiefmfiipabaaDoorDrawR
namespace Go.Proofs.YtpiiefmfiipabaaDoor
open Go.ChangeShapes Go.WideShapes Go.ChangeAt Go.RowKit Go.Deep
theorem own_drawn {W W' : World} {B g : Nat} {T : TypeId} {A : Option Addr} {xs : List Value} (h : Own W B T A xs) (hb : W.grownBy W' (some g)) (hg : g < B) : Own W' B T A xs := by
  rcases h with h | ⟨b, cs, rfl, hB, h1, h2⟩
  · exact .inl h
  · have hl : b < W.heap.size := by
      rcases Nat.lt_or_ge b W.heap.size with h | h
      · exact h
      · simp [h] at h1
    exact .inr ⟨b, cs, rfl, hB, by rw [hb.block b hl (by intro e; injection e with e; omega)]; exact h1, h2⟩
/-- A pile and a spot, drawn from a code. -/
def CoilAtFrom (w : World) (e : Ending) (w' : World) : Prop :=
  ∃ (A : Option Addr) (c : Nat) (A' : Option Addr) (c' : Nat) (p : PL) (b : Bool) (z : Int), e = .returned (.tuple #[.agg #[.slice A p.1.length c, .slice A' p.2.length c'], .agg #[.bool b, .int .i64 z]]) ∧ p.1.length ≤ 6 ∧ p.2.length ≤ 6 ∧ (-1 ≤ z ∧ z ≤ 1048576) ∧ Own w' w.heap.size 3 A (ic p.1) ∧ Own w' w.heap.size 3 A' (ic p.2) ∧ Below w.heap.size w w'
set_option linter.unusedSimpArgs false in
set_option linter.unusedVariables false in
set_option maxHeartbeats 4000000 in
set_option maxRecDepth 100000 in
theorem drawCoilAt_any (A : Option Addr) (c : Nat) (bs : List Int) (w : World) (hkc : bs.length ≤ c) (hmc : c ≤ maxLen) (hbs : ∀ b ∈ bs, (Lit.int .u8 b).wf = true) (hrd : Rd w w.heap.size A (bc bs)) :
    Calls Tryd.prog 21 #[.slice A bs.length c] w (CoilAtFrom w) := by
  have hB := hide hbs
  clear hbs
  go_enter Tryd.func21, Tryd.ntmps21
  go_wp2_with fail
  have q2 := (Row.new w 25 #[.slice none 0 0, .slice none 0 0]).alloc (.cells #[.bool false, .int .i64 0] 31)
  have q3 : Row ((w.alloc (.cells #[.slice none 0 0, .slice none 0 0] 25)).alloc (.cells #[.bool false, .int .i64 0] 31)) (w.heap.size + 1) 31 [.bool false, .int .i64 0] := (Row.new (w.alloc (.cells #[.slice none 0 0, .slice none 0 0] 25)) 31 #[.bool false, .int .i64 0]).eq (by simp)
  have b0 := bel_two w (.cells #[.slice none 0 0, .slice none 0 0] 25) (.cells #[.bool false, .int .i64 0] 31)
  have hz2 := q3.lt
  generalize (w.alloc (.cells #[.slice none 0 0, .slice none 0 0] 25)).alloc (.cells #[.bool false, .int .i64 0] 31) = w0 at *
  refine (open_any A c bs w0 hkc hmc hB.out (hrd.up b0)).mono ?_
  rintro e w1 ⟨rfl, hR, bo⟩
  have hz1 := bo.size
  have hgl1 := hR.lt
  replace q2 := q2.after bo
  replace q3 := q3.after bo
  go_wp2_with fail
  refine (pile_any w0.heap.size _ _ _ (by omega) (by omega) (by omega) hR).mono ?_
  rintro e w2 ⟨L, d, L', d', p, rfl, h1, h2, oL, oL', hR', hG'⟩
  have hz4 := hG'.size
  replace q2 := q2.kept hG' (by intro e; injection e with e; omega)
  replace q3 := q3.kept hG' (by intro e; injection e with e; omega)
  have bb := via b0 (bo.trans (grown_low hG' (Nat.le_refl _) bo.size)) b0.size
  clear hG' hR bo b0 hkc hmc hrd hB
  have hgl := hR'.lt
  have k0 := two_cells (Row.new w2 25 #[.slice L p.1.length d, .slice L' p.2.length d'])
  have HC := hide (fun (W : World) (h : (w2.alloc (.cells #[.slice L p.1.length d, .slice L' p.2.length d'] 25)).grownBy W (some w0.heap.size)) => And.intro (cell_kept k0.1 (by omega) h) (cell_kept k0.2.1 (by omega) h))
  have hG0 := grown_self (w2.alloc (.cells #[.slice L p.1.length d, .slice L' p.2.length d'] 25)) (some w0.heap.size)
  have HR := hide (hR'.alloc (.cells #[.slice L p.1.length d, .slice L' p.2.length d'] 25))
  clear k0 hR'
  go_wp2_with fail
  refine wp_region_held_drew (S := fun w' => w'.cell? ⟨w2.heap.size, 0, none⟩ = some (.slice L p.1.length d) ∧ w'.cell? ⟨w2.heap.size, 1, none⟩ = some (.slice L' p.2.length d')) (by kernel_rfl) (HC.out _ (by repeat (first | assumption | apply grown_drewS | apply grown_allocS))) (fun hHeld => ?_)
  refine wpAnyH_take (i := 0) (oi := _) (v := ?_) rfl (by kernel_rfl) (by kernel_rfl) (by kernel_rfl) (fun _ _ _ h => h) (Or.inl ⟨by rfl, ?_⟩) (by assumption) ?_
  rotate_left
  · intro w hSw; (try dsimp only at hSw); go_simp; first | done | with_reducible rfl
  (try simp only [Act.put, List.setIfInBounds_toArray, List.set_cons_zero, List.set_cons_succ])
  refine wpAnyH_take (i := 1) (oi := _) (v := ?_) rfl (by kernel_rfl) (by kernel_rfl) (by kernel_rfl) (fun _ _ _ h => h) (Or.inl ⟨by rfl, ?_⟩) (by assumption) ?_
  rotate_left
  · intro w hSw; (try dsimp only at hSw); go_simp; first | done | with_reducible rfl
  (try simp only [Act.put, List.setIfInBounds_toArray, List.set_cons_zero, List.set_cons_succ])
  refine wpAnyH_take (i := 2) (oi := _) (v := ?_) rfl (by kernel_rfl) (by kernel_rfl) (by kernel_rfl) (fun _ _ _ h => h) (Or.inl ⟨by rfl, ?_⟩) (by assumption) ?_
  rotate_left
  · intro w hSw; (try dsimp only at hSw); go_simp; first | done | with_reducible rfl
  (try simp only [Act.put, List.setIfInBounds_toArray, List.set_cons_zero, List.set_cons_succ])
  refine wpAnyH_ready (rs := [3]) (by kernel_rfl) (by simp) ?_
  refine AllReadyH.cons (o := _) rfl (fun K hK => ?_) AllReadyH.nil
  go_simp
  go_at_call 74
  refine (spot_any w0.heap.size (0 + 60) _ _ _ _ _ _ _ (by omega) (by omega) (by first | exact HR.out.drew | exact HR.out)).mono ?_
  rintro e w6 ⟨b, z, rfl, hz, hR6, hG6⟩
  have hG1 := grown_trans (show (w2.alloc (.cells #[.slice L p.1.length d, .slice L' p.2.length d'] 25)).grownBy _ (some w0.heap.size) by repeat (first | assumption | apply grown_drewS | apply grown_allocS)) hG6
  clear hG6 hR6
  go_wp2_with fail
  refine hK.out _ _ (HC.out _ hG1) (fun hHeld => ?_)
  clear hK K
  (try simp only [Act.put, List.setIfInBounds_toArray, List.set_cons_zero, List.set_cons_succ])
  replace q2 := (q2.alloc (.cells #[.slice L p.1.length d, .slice L' p.2.length d'] 25)).kept hG1 (by intro e; injection e with e; omega)
  replace q3 := (q3.alloc (.cells #[.slice L p.1.length d, .slice L' p.2.length d'] 25)).kept hG1 (by intro e; injection e with e; omega)
  have q5 := (Row.new w2 25 #[.slice L p.1.length d, .slice L' p.2.length d']).kept hG1 (by intro e; injection e with e; omega)
  have o1 := (own_drawn (oL.below (bel_one w2 (.cells #[.slice L p.1.length d, .slice L' p.2.length d'] 25))) hG1 (by omega)).mono (show w.heap.size + 2 ≤ _ by omega)
  have o2 := (own_drawn (oL'.below (bel_one w2 (.cells #[.slice L p.1.length d, .slice L' p.2.length d'] 25))) hG1 (by omega)).mono (show w.heap.size + 2 ≤ _ by omega)
  have bz := (bb.alloc bb.size (.cells #[.slice L p.1.length d, .slice L' p.2.length d'] 25)).trans (grown_low hG1 (by omega) (by simp; omega))
  have p2 := ((two_set q2 (.slice L p.1.length d) (.slice L' p.2.length d')).far (p := ⟨w.heap.size + 1, 0, none⟩) (by simp only; omega) (.bool b)).far (p := ⟨w.heap.size + 1, 1, none⟩) (by simp only; omega) (.int .i64 z)
  have p3 := (q3.far (p := ⟨w.heap.size, 0, none⟩) (by simp only; omega) (.slice L p.1.length d)).far (p := ⟨w.heap.size, 1, none⟩) (by simp only; omega) (.slice L' p.2.length d')
  have p5 := (q5.far (p := ⟨w.heap.size, 0, none⟩) (by simp only; omega) (.slice L p.1.length d)).far (p := ⟨w.heap.size, 1, none⟩) (by simp only; omega) (.slice L' p.2.length d')
  have r3 := two_set p3 (.bool b) (.int .i64 z)
  have r5 := (p5.far (p := ⟨w.heap.size + 1, 0, none⟩) (by simp only; omega) (.bool b)).far (p := ⟨w.heap.size + 1, 1, none⟩) (by simp only; omega) (.int .i64 z)
  have e1 := own_far (own_far (own_far (own_far o1 (p := ⟨w.heap.size, 0, none⟩) (by simp only; omega) (.slice L p.1.length d)) (p := ⟨w.heap.size, 1, none⟩) (by simp only; omega) (.slice L' p.2.length d')) (p := ⟨w.heap.size + 1, 0, none⟩) (by simp only; omega) (.bool b)) (p := ⟨w.heap.size + 1, 1, none⟩) (by simp only; omega) (.int .i64 z)
  have e2 := own_far (own_far (own_far (own_far o2 (p := ⟨w.heap.size, 0, none⟩) (by simp only; omega) (.slice L p.1.length d)) (p := ⟨w.heap.size, 1, none⟩) (by simp only; omega) (.slice L' p.2.length d')) (p := ⟨w.heap.size + 1, 0, none⟩) (by simp only; omega) (.bool b)) (p := ⟨w.heap.size + 1, 1, none⟩) (by simp only; omega) (.int .i64 z)
  have b4 := (((bz.setCell (p := ⟨w.heap.size, 0, none⟩) (Nat.le_refl _) (.slice L p.1.length d)).setCell (p := ⟨w.heap.size, 1, none⟩) (Nat.le_refl _) (.slice L' p.2.length d')).setCell (p := ⟨w.heap.size + 1, 0, none⟩) (by simp only; omega) (.bool b)).setCell (p := ⟨w.heap.size + 1, 1, none⟩) (by simp only; omega) (.int .i64 z)
  obtain ⟨c0, c1, f0, f1⟩ := two_cells q2
  obtain ⟨d0, d1, g0, g1⟩ := two_cells p3
  obtain ⟨k0, k1, _, _⟩ := two_cells p2
  obtain ⟨k2, k3, _, _⟩ := two_cells r3
  refine wpAnyH_ready (rs := [4]) (by kernel_rfl) (by simp) ?_
  refine AllReadyH.cons (o := _) rfl (fun K hK => ?_) AllReadyH.nil
  go_simp
  refine hK.out _ _ ⟨(two_cells p5).1, (two_cells p5).2.1⟩ (fun hHeld => ?_)
  clear hK K
  (try simp only [Act.put, List.setIfInBounds_toArray, List.set_cons_zero, List.set_cons_succ])
  refine wpAnyH_ready (rs := [5]) (by kernel_rfl) (by simp) ?_
  refine AllReadyH.cons (o := _) rfl (fun K hK => ?_) AllReadyH.nil
  go_simp
  refine hK.out _ _ ⟨(two_cells r5).1, (two_cells r5).2.1⟩ (fun hHeld => ?_)
  clear hK K
  (try simp only [Act.put, List.setIfInBounds_toArray, List.set_cons_zero, List.set_cons_succ])
  refine wpAnyH_done (by kernel_rfl) ?_ _
  clear c0 c1 f0 f1 d0 d1 g0 g1 HC hHeld
  go_wp2
  refine bodyPost_ret (by simp [results, Tryd.results21, go_sem, k0, k1, k2, k3]; try rfl) rfl ?_
  exact ⟨L, d, L', d', p, b, z, rfl, h1, h2, hz, e1.mono (by omega), e2.mono (by omega), b4⟩
end Go.Proofs.YtpiiefmfiipabaaDoor
