/- What is drawn from a code: piles with a spot and an id. No conditions but bounds on how often the reader was asked. -/
import Derived.Test.YtpiiefmfiipabaaDoorDrawV
namespace Go.Proofs.YtpiiefmfiipabaaDoor
open Go.ChangeShapes Go.WideShapes Go.ChangeAt Go.RowKit Go.Deep
/-- A pile, a spot and an id, drawn from a code. -/
def PutFrom (w : World) (e : Ending) (w' : World) : Prop :=
  ∃ (A : Option Addr) (c : Nat) (A' : Option Addr) (c' : Nat) (p : PL) (b : Bool) (z x : Int), e = .returned (.tuple #[.agg #[.slice A p.1.length c, .slice A' p.2.length c'], .agg #[.bool b, .int .i64 z], .int .i64 x]) ∧ p.1.length ≤ 6 ∧ p.2.length ≤ 6 ∧ (-1 ≤ z ∧ z ≤ 1048576) ∧ Own w' w.heap.size 3 A (ic p.1) ∧ Own w' w.heap.size 3 A' (ic p.2) ∧ Below w.heap.size w w'
/-- The boxes of a pile, a spot and two results while the call's answer is drawn. -/
structure StW (w wr : World) (L L' : Option Addr) (d d' : Nat) (p : PL) (b : Bool) (z : Int) (g gP gS K : Nat) : Prop where
  rp : Row wr w.heap.size 25 [.slice none 0 0, .slice none 0 0]
  rs : Row wr (w.heap.size + 1) 31 [.bool false, .int .i64 0]
  bp : Row wr gP 25 [.slice L p.1.length d, .slice L' p.2.length d']
  bs : Row wr gS 31 [.bool b, .int .i64 z]
  o1 : Own wr (w.heap.size + 2) 3 L (ic p.1)
  o2 : Own wr (w.heap.size + 2) 3 L' (ic p.2)
  low : Below w.heap.size w wr
  rdr : Rdr wr g K
section
variable {w wr w' : World} {L L' : Option Addr} {d d' : Nat} {p : PL} {b : Bool} {z : Int} {g gP gS K K' : Nat}
theorem StW.asked (h : StW w wr L L' d d' p b z g gP gS K) (h0 : w.heap.size + 2 ≤ g) (h1 : g < gP) (h2 : g < gS) (ho : ∀ a, ownB L (ic p.1) = some a ∨ ownB L' (ic p.2) = some a → a ≠ g) (hR : Rdr w' g K') (hG : wr.grownBy w' (some g)) : StW w w' L L' d d' p b z g gP gS K' :=
  ⟨h.rp.kept hG (by intro e; injection e with e; omega), h.rs.kept hG (by intro e; injection e with e; omega), h.bp.kept hG (by intro e; injection e with e; omega), h.bs.kept hG (by intro e; injection e with e; omega),
    h.o1.keep hG (fun a e e' => ho a (.inl e) (by injection e' with e'; exact e'.symm)), h.o2.keep hG (fun a e e' => ho a (.inr e) (by injection e' with e'; exact e'.symm)), h.low.trans (grown_low hG (by omega) h.low.size), hR⟩
end
set_option linter.unusedSimpArgs false in
set_option linter.unusedVariables false in
set_option maxHeartbeats 4000000 in
set_option maxRecDepth 100000 in
theorem drawCoilPut_any (A : Option Addr) (c : Nat) (bs : List Int) (w : World) (hkc : bs.length ≤ c) (hmc : c ≤ maxLen) (hbs : ∀ b ∈ bs, (Lit.int .u8 b).wf = true) (hrd : Rd w w.heap.size A (bc bs)) :
    Calls Tryd.prog 37 #[.slice A bs.length c] w (PutFrom w) := by
  have hB := hide hbs
  clear hbs
  go_enter Tryd.func37, Tryd.ntmps37
  go_wp2_with fail
  have q2 := (Row.new w 25 #[.slice none 0 0, .slice none 0 0]).alloc (.cells #[.bool false, .int .i64 0] 31)
  have q3 : Row ((w.alloc (.cells #[.slice none 0 0, .slice none 0 0] 25)).alloc (.cells #[.bool false, .int .i64 0] 31)) (w.heap.size + 1) 31 [.bool false, .int .i64 0] := (Row.new (w.alloc (.cells #[.slice none 0 0, .slice none 0 0] 25)) 31 #[.bool false, .int .i64 0]).eq (by simp)
  have b0 := bel_two w (.cells #[.slice none 0 0, .slice none 0 0] 25) (.cells #[.bool false, .int .i64 0] 31)
  have hz2 := q3.lt
  generalize (w.alloc (.cells #[.slice none 0 0, .slice none 0 0] 25)).alloc (.cells #[.bool false, .int .i64 0] 31) = w0 at *
  refine (open_any A c bs w0 hkc hmc hB.out (hrd.up b0)).mono ?_
  rintro e w1 ⟨rfl, hR, bo⟩
  have hz1 := bo.size
  have hgl1 := hR.lt
  replace q2 := q2.after bo
  replace q3 := q3.after bo
  go_wp2_with fail
  refine (pile_any w0.heap.size _ _ _ (by omega) (by omega) (by omega) hR).mono ?_
  rintro e w2 ⟨L, d, L', d', p, rfl, h1, h2, oL, oL', hR', hG'⟩
  have hz4 := hG'.size
  replace q2 := (q2.kept hG' (by intro e; injection e with e; omega)).alloc (.cells #[.slice L p.1.length d, .slice L' p.2.length d'] 25)
  replace q3 := (q3.kept hG' (by intro e; injection e with e; omega)).alloc (.cells #[.slice L p.1.length d, .slice L' p.2.length d'] 25)
  have q4 := Row.new w2 25 #[.slice L p.1.length d, .slice L' p.2.length d']
  have bb := (via b0 (bo.trans (grown_low hG' (Nat.le_refl _) bo.size)) b0.size).alloc (Nat.le_trans b0.size (Nat.le_trans bo.size hG'.size)) (.cells #[.slice L p.1.length d, .slice L' p.2.length d'] 25)
  have HR := hide (hR'.alloc (.cells #[.slice L p.1.length d, .slice L' p.2.length d'] 25))
  have hgl := hR'.lt
  have hp : small p := ⟨by omega, by omega⟩
  have oA := (oL.below (bel_one w2 (.cells #[.slice L p.1.length d, .slice L' p.2.length d'] 25)))
  have oA' := (oL'.below (bel_one w2 (.cells #[.slice L p.1.length d, .slice L' p.2.length d'] 25)))
  clear hG' hR bo b0 hkc hmc hrd hB oL oL' hR'
  have ho : ∀ a, ownB L (ic p.1) = some a ∨ ownB L' (ic p.2) = some a → w1.heap.size ≤ a := by
    intro a h
    rcases h with h | h
    · obtain ⟨hx, a', rfl, rfl⟩ := ownB_some h
      obtain ⟨g', e', hB, _⟩ := oA.row hx
      cases e'; exact hB
    · obtain ⟨hx, a', rfl, rfl⟩ := ownB_some h
      obtain ⟨g', e', hB, _⟩ := oA'.row hx
      cases e'; exact hB
  have m4 := two_cells q4
  go_wp2_with fail
  refine (spot_any w0.heap.size (0 + 60) _ _ _ _ _ _ _ (by omega) (by omega) HR.out).mono ?_
  rintro e w6 ⟨b, z, rfl, hz, hR6, hG6⟩
  clear m4
  have hz6 := hG6.size
  have hs2 : (w2.alloc (.cells #[.slice L p.1.length d, .slice L' p.2.length d'] 25)).heap.size = w2.heap.size + 1 := by simp
  have S : StW w (w6.alloc (.cells #[.bool b, .int .i64 z] 31)) L L' d d' p b z w0.heap.size w2.heap.size w6.heap.size (60 + 4) :=
    ⟨(q2.kept hG6 (by intro e; injection e with e; omega)).alloc _, (q3.kept hG6 (by intro e; injection e with e; omega)).alloc _, (q4.kept hG6 (by intro e; injection e with e; omega)).alloc _, Row.new _ _ _,
      ((own_drawn oA hG6 (by omega)).mono (by omega)).below (bel_one _ _), ((own_drawn oA' hG6 (by omega)).mono (by omega)).below (bel_one _ _), (bb.trans (grown_low hG6 (by omega) (by omega))).alloc (by omega) _, hR6.alloc _⟩
  have hgS : w0.heap.size < w6.heap.size := by omega
  clear q2 q3 q4 oA oA' bb hG6 hR6 HR
  go_wp2_with fail
  generalize w6.alloc (.cells #[.bool b, .int .i64 z] 31) = wa at *
  generalize w6.heap.size = gS at *
  generalize w2.heap.size = gP at *
  refine (pick_any w0.heap.size (60 + 4) _ _ (by omega) (by omega) (by omega) S.rdr).mono ?_
  rintro e wb ⟨x1, rfl, ha1, hb1, hR', hG'⟩
  replace S := S.asked (by omega) (by omega) (by omega) (fun a h => by have := ho a h; omega) hR' hG'
  clear hG' hR'
  by_cases hx : x1 = 0
  · subst hx
    go_wp2_with fail
    refine wp_region_held_drew (S := fun w' => w'.cell? ⟨gP, 0, none⟩ = some (.slice L p.1.length d) ∧ w'.cell? ⟨gP, 1, none⟩ = some (.slice L' p.2.length d') ∧ w'.cell? ⟨gS, 0, none⟩ = some (.bool b) ∧ w'.cell? ⟨gS, 1, none⟩ = some (.int .i64 z)) (by kernel_rfl) ⟨(two_cells S.bp).1, (two_cells S.bp).2.1, (two_cells S.bs).1, (two_cells S.bs).2.1⟩ (fun hHeld => ?_)
    refine wpAnyH_take (i := 0) (oi := _) (v := ?_) rfl (by kernel_rfl) (by kernel_rfl) (by kernel_rfl) (fun _ _ _ h => h) (Or.inl ⟨by rfl, ?_⟩) (by assumption) ?_
    rotate_left
    · intro w hSw; (try dsimp only at hSw); go_simp; first | done | with_reducible rfl
    (try simp only [Act.put, List.setIfInBounds_toArray, List.set_cons_zero, List.set_cons_succ])
    refine wpAnyH_take (i := 1) (oi := _) (v := ?_) rfl (by kernel_rfl) (by kernel_rfl) (by kernel_rfl) (fun _ _ _ h => h) (Or.inl ⟨by rfl, ?_⟩) (by assumption) ?_
    rotate_left
    · intro w hSw; (try dsimp only at hSw); go_simp; first | done | with_reducible rfl
    (try simp only [Act.put, List.setIfInBounds_toArray, List.set_cons_zero, List.set_cons_succ])
    refine wpAnyH_take (i := 2) (oi := _) (v := ?_) rfl (by kernel_rfl) (by kernel_rfl) (by kernel_rfl) (fun _ _ _ h => h) (Or.inl ⟨by rfl, ?_⟩) (by assumption) ?_
    rotate_left
    · intro w hSw; (try dsimp only at hSw); go_simp; first | done | with_reducible rfl
    (try simp only [Act.put, List.setIfInBounds_toArray, List.set_cons_zero, List.set_cons_succ])
    refine wpAnyH_take (i := 3) (oi := _) (v := ?_) rfl (by kernel_rfl) (by kernel_rfl) (by kernel_rfl) (fun _ _ _ h => h) (Or.inl ⟨by rfl, ?_⟩) (by assumption) ?_
    rotate_left
    · intro w hSw; (try dsimp only at hSw); go_simp; first | done | with_reducible rfl
    (try simp only [Act.put, List.setIfInBounds_toArray, List.set_cons_zero, List.set_cons_succ])
    refine wpAnyH_ready (rs := [4]) (by kernel_rfl) (by simp) ?_
    refine AllReadyH.cons (o := _) rfl (fun K hK => ?_) AllReadyH.nil
    go_simp
    go_at_call 83
    refine (coil_any w0.heap.size (60 + 4 + 1) _ _ _ _ p wb.drew hp ⟨S.o1.rd.up (Below.refl _ _).drew, S.o2.rd.up (Below.refl _ _).drew⟩ (by omega) S.rdr.drew).mono ?_
    rintro e w8 ⟨x, rfl, hR6, hG6⟩
    replace hG6 := grown_trans (show wb.grownBy wb.drew (some w0.heap.size) from grown_drewS (grown_self _ _)) hG6
    replace S := S.asked (by omega) (by omega) (by omega) (fun a h => by have := ho a h; omega) hR6 hG6
    clear hR6 hG6
    go_wp2_with fail
    refine hK.out _ _ ⟨(two_cells S.bp).1, (two_cells S.bp).2.1, (two_cells S.bs).1, (two_cells S.bs).2.1⟩ (fun hHeld => ?_)
    clear hK K
    (try simp only [Act.put, List.setIfInBounds_toArray, List.set_cons_zero, List.set_cons_succ])
    obtain ⟨c0, c1, f0, f1⟩ := two_cells S.rp
    obtain ⟨d0, d1, g0, g1⟩ := two_cells S.rs
    have p2 := ((two_set S.rp (.slice L p.1.length d) (.slice L' p.2.length d')).far (p := ⟨w.heap.size + 1, 0, none⟩) (by simp only; omega) (.bool b)).far (p := ⟨w.heap.size + 1, 1, none⟩) (by simp only; omega) (.int .i64 z)
    have p3 := (S.rs.far (p := ⟨w.heap.size, 0, none⟩) (by simp only; omega) (.slice L p.1.length d)).far (p := ⟨w.heap.size, 1, none⟩) (by simp only; omega) (.slice L' p.2.length d')
    have p4 := (S.bp.far (p := ⟨w.heap.size, 0, none⟩) (by simp only; omega) (.slice L p.1.length d)).far (p := ⟨w.heap.size, 1, none⟩) (by simp only; omega) (.slice L' p.2.length d')
    have p5 := (S.bs.far (p := ⟨w.heap.size, 0, none⟩) (by simp only; omega) (.slice L p.1.length d)).far (p := ⟨w.heap.size, 1, none⟩) (by simp only; omega) (.slice L' p.2.length d')
    have r3 := two_set p3 (.bool b) (.int .i64 z)
    have r4 := (p4.far (p := ⟨w.heap.size + 1, 0, none⟩) (by simp only; omega) (.bool b)).far (p := ⟨w.heap.size + 1, 1, none⟩) (by simp only; omega) (.int .i64 z)
    have r5 := (p5.far (p := ⟨w.heap.size + 1, 0, none⟩) (by simp only; omega) (.bool b)).far (p := ⟨w.heap.size + 1, 1, none⟩) (by simp only; omega) (.int .i64 z)
    have e1 := own_far (own_far (own_far (own_far S.o1 (p := ⟨w.heap.size, 0, none⟩) (by simp only; omega) (.slice L p.1.length d)) (p := ⟨w.heap.size, 1, none⟩) (by simp only; omega) (.slice L' p.2.length d')) (p := ⟨w.heap.size + 1, 0, none⟩) (by simp only; omega) (.bool b)) (p := ⟨w.heap.size + 1, 1, none⟩) (by simp only; omega) (.int .i64 z)
    have e2 := own_far (own_far (own_far (own_far S.o2 (p := ⟨w.heap.size, 0, none⟩) (by simp only; omega) (.slice L p.1.length d)) (p := ⟨w.heap.size, 1, none⟩) (by simp only; omega) (.slice L' p.2.length d')) (p := ⟨w.heap.size + 1, 0, none⟩) (by simp only; omega) (.bool b)) (p := ⟨w.heap.size + 1, 1, none⟩) (by simp only; omega) (.int .i64 z)
    have b4 := (((S.low.setCell (p := ⟨w.heap.size, 0, none⟩) (Nat.le_refl _) (.slice L p.1.length d)).setCell (p := ⟨w.heap.size, 1, none⟩) (Nat.le_refl _) (.slice L' p.2.length d')).setCell (p := ⟨w.heap.size + 1, 0, none⟩) (by simp only; omega) (.bool b)).setCell (p := ⟨w.heap.size + 1, 1, none⟩) (by simp only; omega) (.int .i64 z)
    obtain ⟨k0, k1, _, _⟩ := two_cells p2
    obtain ⟨k2, k3, _, _⟩ := two_cells r3
    refine wpAnyH_ready (rs := [5]) (by kernel_rfl) (by simp) ?_
    refine AllReadyH.cons (o := _) rfl (fun K hK => ?_) AllReadyH.nil
    go_simp
    refine hK.out _ _ ⟨(two_cells p4).1, (two_cells p4).2.1, (two_cells p5).1, (two_cells p5).2.1⟩ (fun hHeld => ?_)
    clear hK K
    (try simp only [Act.put, List.setIfInBounds_toArray, List.set_cons_zero, List.set_cons_succ])
    refine wpAnyH_ready (rs := [6]) (by kernel_rfl) (by simp) ?_
    refine AllReadyH.cons (o := _) rfl (fun K hK => ?_) AllReadyH.nil
    go_simp
    refine hK.out _ _ ⟨(two_cells r4).1, (two_cells r4).2.1, (two_cells r5).1, (two_cells r5).2.1⟩ (fun hHeld => ?_)
    clear hK K
    (try simp only [Act.put, List.setIfInBounds_toArray, List.set_cons_zero, List.set_cons_succ])
    refine wpAnyH_ready (rs := [7]) (by kernel_rfl) (by simp) ?_
    refine AllReadyH.cons (o := _) rfl (fun K hK => ?_) AllReadyH.nil
    go_simp
    refine hK.out _ _ ⟨(two_cells r4).1, (two_cells r4).2.1, (two_cells r5).1, (two_cells r5).2.1⟩ (fun hHeld => ?_)
    clear hK K
    (try simp only [Act.put, List.setIfInBounds_toArray, List.set_cons_zero, List.set_cons_succ])
    refine wpAnyH_done (by kernel_rfl) ?_ _
    clear c0 c1 f0 f1 d0 d1 g0 g1 hHeld
    go_wp2
    refine bodyPost_ret (by simp [results, Tryd.results37, go_sem, k0, k1, k2, k3]; try rfl) rfl ?_
    exact ⟨L, d, L', d', p, b, z, x, rfl, h1, h2, hz, e1.mono (by omega), e2.mono (by omega), b4⟩
  · have t1 : (x1 == 0) = false := beq_false_of_ne hx
    have hx' := hide hx
    clear hx
    go_wp2_with fail
    refine wp_region_held_drew (S := fun w' => w'.cell? ⟨gP, 0, none⟩ = some (.slice L p.1.length d) ∧ w'.cell? ⟨gP, 1, none⟩ = some (.slice L' p.2.length d') ∧ w'.cell? ⟨gS, 0, none⟩ = some (.bool b) ∧ w'.cell? ⟨gS, 1, none⟩ = some (.int .i64 z)) (by kernel_rfl) ⟨(two_cells S.bp).1, (two_cells S.bp).2.1, (two_cells S.bs).1, (two_cells S.bs).2.1⟩ (fun hHeld => ?_)
    refine wpAnyH_take (i := 0) (oi := _) (v := ?_) rfl (by kernel_rfl) (by kernel_rfl) (by kernel_rfl) (fun _ _ _ h => h) (Or.inl ⟨by rfl, ?_⟩) (by assumption) ?_
    rotate_left
    · intro w hSw; (try dsimp only at hSw); go_simp; first | done | with_reducible rfl
    (try simp only [Act.put, List.setIfInBounds_toArray, List.set_cons_zero, List.set_cons_succ])
    refine wpAnyH_take (i := 1) (oi := _) (v := ?_) rfl (by kernel_rfl) (by kernel_rfl) (by kernel_rfl) (fun _ _ _ h => h) (Or.inl ⟨by rfl, ?_⟩) (by assumption) ?_
    rotate_left
    · intro w hSw; (try dsimp only at hSw); go_simp; first | done | with_reducible rfl
    (try simp only [Act.put, List.setIfInBounds_toArray, List.set_cons_zero, List.set_cons_succ])
    refine wpAnyH_take (i := 2) (oi := _) (v := ?_) rfl (by kernel_rfl) (by kernel_rfl) (by kernel_rfl) (fun _ _ _ h => h) (Or.inl ⟨by rfl, ?_⟩) (by assumption) ?_
    rotate_left
    · intro w hSw; (try dsimp only at hSw); go_simp; first | done | with_reducible rfl
    (try simp only [Act.put, List.setIfInBounds_toArray, List.set_cons_zero, List.set_cons_succ])
    refine wpAnyH_ready (rs := [3]) (by kernel_rfl) (by simp) ?_
    refine AllReadyH.cons (o := _) rfl (fun K hK => ?_) AllReadyH.nil
    go_simp
    go_at_call 82
    refine (pick_any w0.heap.size (60 + 4 + 1) _ _ (by omega) (by omega) (by omega) S.rdr.drew).mono ?_
    rintro e w8 ⟨x, rfl, hxa, hxb, hR6, hG6⟩
    replace hG6 := grown_trans (show wb.grownBy wb.drew (some w0.heap.size) from grown_drewS (grown_self _ _)) hG6
    replace S := S.asked (by omega) (by omega) (by omega) (fun a h => by have := ho a h; omega) hR6 hG6
    clear hR6 hG6
    go_wp2_with fail
    refine hK.out _ _ ⟨(two_cells S.bp).1, (two_cells S.bp).2.1, (two_cells S.bs).1, (two_cells S.bs).2.1⟩ (fun hHeld => ?_)
    clear hK K
    (try simp only [Act.put, List.setIfInBounds_toArray, List.set_cons_zero, List.set_cons_succ])
    refine wpAnyH_take (i := 4) (oi := _) (v := ?_) rfl (by kernel_rfl) (by kernel_rfl) (by kernel_rfl) (fun _ _ _ h => h) (Or.inl ⟨by rfl, ?_⟩) (by assumption) ?_
    rotate_left
    · intro w hSw; (try dsimp only at hSw); go_simp; first | done | with_reducible rfl
    (try simp only [Act.put, List.setIfInBounds_toArray, List.set_cons_zero, List.set_cons_succ])
    obtain ⟨c0, c1, f0, f1⟩ := two_cells S.rp
    obtain ⟨d0, d1, g0, g1⟩ := two_cells S.rs
    have p2 := ((two_set S.rp (.slice L p.1.length d) (.slice L' p.2.length d')).far (p := ⟨w.heap.size + 1, 0, none⟩) (by simp only; omega) (.bool b)).far (p := ⟨w.heap.size + 1, 1, none⟩) (by simp only; omega) (.int .i64 z)
    have p3 := (S.rs.far (p := ⟨w.heap.size, 0, none⟩) (by simp only; omega) (.slice L p.1.length d)).far (p := ⟨w.heap.size, 1, none⟩) (by simp only; omega) (.slice L' p.2.length d')
    have p4 := (S.bp.far (p := ⟨w.heap.size, 0, none⟩) (by simp only; omega) (.slice L p.1.length d)).far (p := ⟨w.heap.size, 1, none⟩) (by simp only; omega) (.slice L' p.2.length d')
    have p5 := (S.bs.far (p := ⟨w.heap.size, 0, none⟩) (by simp only; omega) (.slice L p.1.length d)).far (p := ⟨w.heap.size, 1, none⟩) (by simp only; omega) (.slice L' p.2.length d')
    have r3 := two_set p3 (.bool b) (.int .i64 z)
    have r4 := (p4.far (p := ⟨w.heap.size + 1, 0, none⟩) (by simp only; omega) (.bool b)).far (p := ⟨w.heap.size + 1, 1, none⟩) (by simp only; omega) (.int .i64 z)
    have r5 := (p5.far (p := ⟨w.heap.size + 1, 0, none⟩) (by simp only; omega) (.bool b)).far (p := ⟨w.heap.size + 1, 1, none⟩) (by simp only; omega) (.int .i64 z)
    have e1 := own_far (own_far (own_far (own_far S.o1 (p := ⟨w.heap.size, 0, none⟩) (by simp only; omega) (.slice L p.1.length d)) (p := ⟨w.heap.size, 1, none⟩) (by simp only; omega) (.slice L' p.2.length d')) (p := ⟨w.heap.size + 1, 0, none⟩) (by simp only; omega) (.bool b)) (p := ⟨w.heap.size + 1, 1, none⟩) (by simp only; omega) (.int .i64 z)
    have e2 := own_far (own_far (own_far (own_far S.o2 (p := ⟨w.heap.size, 0, none⟩) (by simp only; omega) (.slice L p.1.length d)) (p := ⟨w.heap.size, 1, none⟩) (by simp only; omega) (.slice L' p.2.length d')) (p := ⟨w.heap.size + 1, 0, none⟩) (by simp only; omega) (.bool b)) (p := ⟨w.heap.size + 1, 1, none⟩) (by simp only; omega) (.int .i64 z)
    have b4 := (((S.low.setCell (p := ⟨w.heap.size, 0, none⟩) (Nat.le_refl _) (.slice L p.1.length d)).setCell (p := ⟨w.heap.size, 1, none⟩) (Nat.le_refl _) (.slice L' p.2.length d')).setCell (p := ⟨w.heap.size + 1, 0, none⟩) (by simp only; omega) (.bool b)).setCell (p := ⟨w.heap.size + 1, 1, none⟩) (by simp only; omega) (.int .i64 z)
    obtain ⟨k0, k1, _, _⟩ := two_cells p2
    obtain ⟨k2, k3, _, _⟩ := two_cells r3
    refine wpAnyH_ready (rs := [5]) (by kernel_rfl) (by simp) ?_
    refine AllReadyH.cons (o := _) rfl (fun K hK => ?_) AllReadyH.nil
    go_simp
    refine hK.out _ _ ⟨(two_cells p4).1, (two_cells p4).2.1, (two_cells p5).1, (two_cells p5).2.1⟩ (fun hHeld => ?_)
    clear hK K
    (try simp only [Act.put, List.setIfInBounds_toArray, List.set_cons_zero, List.set_cons_succ])
    refine wpAnyH_ready (rs := [6]) (by kernel_rfl) (by simp) ?_
    refine AllReadyH.cons (o := _) rfl (fun K hK => ?_) AllReadyH.nil
    go_simp
    refine hK.out _ _ ⟨(two_cells r4).1, (two_cells r4).2.1, (two_cells r5).1, (two_cells r5).2.1⟩ (fun hHeld => ?_)
    clear hK K
    (try simp only [Act.put, List.setIfInBounds_toArray, List.set_cons_zero, List.set_cons_succ])
    refine wpAnyH_ready (rs := [7]) (by kernel_rfl) (by simp) ?_
    refine AllReadyH.cons (o := _) rfl (fun K hK => ?_) AllReadyH.nil
    go_simp
    refine hK.out _ _ ⟨(two_cells r4).1, (two_cells r4).2.1, (two_cells r5).1, (two_cells r5).2.1⟩ (fun hHeld => ?_)
    clear hK K
    (try simp only [Act.put, List.setIfInBounds_toArray, List.set_cons_zero, List.set_cons_succ])
    refine wpAnyH_done (by kernel_rfl) ?_ _
    clear c0 c1 f0 f1 d0 d1 g0 g1 hHeld
    go_wp2
    refine bodyPost_ret (by simp [results, Tryd.results37, go_sem, k0, k1, k2, k3]; try rfl) rfl ?_
    exact ⟨L, d, L', d', p, b, z, _, rfl, h1, h2, hz, e1.mono (by omega), e2.mono (by omega), b4⟩
end Go.Proofs.YtpiiefmfiipabaaDoor
