/- What is drawn from a code: spots of piles. No conditions but bounds on how often the reader was asked. -/
import Derived.Test.YtpiiefmfiipabaaDoorDrawP
namespace Go.Proofs.YtpiiefmfiipabaaDoor
open Go.ChangeShapes Go.WideShapes Go.ChangeAt Go.RowKit Go.Deep
/-- A spot while it is drawn. -/
def SpotSt (w : World) (g K gP gR : Nat) (P : List Value) (v : Value) (wx : World) : Prop :=
  ∃ (g5 : Nat) (b : Bool) (z : Int), v = .pointer (some ⟨g5, 0, none⟩) ∧ Row wx g5 31 [.bool b, .int .i64 z] ∧ Row wx gP 25 P ∧ Row wx gR 31 [.bool false, .int .i64 0] ∧ Rdr wx g K ∧ w.grownBy wx (some g) ∧ gR < g5 ∧ (0 ≤ z ∧ z ≤ 1048576)
theorem spotSt_of {w W : World} {g K gP gR g5 : Nat} {P : List Value} {u v : Value} (b : Bool) (z : Int) (q5 : Row W g5 31 [u, v]) (qP : Row W gP 25 P) (qR : Row W gR 31 [.bool false, .int .i64 0]) (hR : Rdr W g K) (hG : w.grownBy W (some g)) (h1 : gR < g5) (h2 : gP < g5) (h3 : g < g5) (h4 : w.heap.size ≤ g5) (hz : 0 ≤ z ∧ z ≤ 1048576) :
    SpotSt w g K gP gR P (.pointer (some ⟨g5, 0, none⟩)) ((W.setCell ⟨g5, 0, none⟩ (.bool b)).setCell ⟨g5, 1, none⟩ (.int .i64 z)) :=
  ⟨g5, b, z, rfl, two_set q5 _ _, (qP.far (by simp only; omega) _).far (by simp only; omega) _, (qR.far (by simp only; omega) _).far (by simp only; omega) _, hR.two h3 _ _, grown_two hG h4 _ _, h1, hz⟩
theorem spotSt_new {w W : World} {g K gP gR : Nat} {P : List Value} (b : Bool) (z : Int) (qP : Row W gP 25 P) (qR : Row W gR 31 [.bool false, .int .i64 0]) (hR : Rdr W g K) (hG : w.grownBy W (some g)) (h1 : gR < W.heap.size) (hz : 0 ≤ z ∧ z ≤ 1048576) :
    SpotSt w g K gP gR P (.pointer (some ⟨W.heap.size, 0, none⟩)) (W.alloc (.cells #[.bool b, .int .i64 z] 31)) :=
  ⟨W.heap.size, b, z, rfl, Row.new W _ _, qP.alloc _, qR.alloc _, hR.alloc _, grown_allocS hG _, h1, hz⟩
/-- A spot while it is drawn, its box at g5. -/
structure StR (w wr : World) (P : List Value) (g g5 K : Nat) (vs : List Value) : Prop where
  box : Row wr g5 31 vs
  pile : Row wr w.heap.size 25 P
  res : Row wr (w.heap.size + 1) 31 [.bool false, .int .i64 0]
  rdr : Rdr wr g K
  grown : w.grownBy wr (some g)
structure LieR (w : World) (g g5 : Nat) : Prop where
  g0 : g < w.heap.size
  b1 : w.heap.size + 1 < g5
section
variable {w wr w' : World} {P : List Value} {g g5 K K' : Nat} {vs : List Value}
theorem StR.asked (h : StR w wr P g g5 K vs) (l : LieR w g g5) (hR : Rdr w' g K') (hG : wr.grownBy w' (some g)) : StR w w' P g g5 K' vs := by
  have := l.g0; have := l.b1
  exact ⟨h.box.kept hG (by intro e; injection e with e; omega), h.pile.kept hG (by intro e; injection e with e; omega), h.res.kept hG (by intro e; injection e with e; omega), hR, grown_trans h.grown hG⟩
theorem StR.alloc (h : StR w wr P g g5 K vs) (o : Obj) : StR w (wr.alloc o) P g g5 K vs :=
  ⟨h.box.alloc o, h.pile.alloc o, h.res.alloc o, h.rdr.alloc o, grown_allocS h.grown o⟩
theorem StR.drewS (h : StR w wr P g g5 K vs) : StR w wr.drew P g g5 K vs := ⟨h.box, h.pile, h.res, h.rdr.drew, grown_drewS h.grown⟩
end
def SpotDrawn (w : World) (g k : Nat) (e : Ending) (w' : World) : Prop := ∃ (b : Bool) (z : Int), e = .returned (.agg #[.bool b, .int .i64 z]) ∧ (-1 ≤ z ∧ z ≤ 1048576) ∧ DrawnTo w w' g k
set_option linter.unusedSimpArgs false in
set_option linter.unusedVariables false in
set_option maxHeartbeats 4000000 in
set_option maxRecDepth 100000 in
theorem spot_any (g k : Nat) (A A' : Option Addr) (n c n' c' : Nat) (w : World) (hn : n ≤ 1048576) (hk : k ≤ 1048000) (hR : Rdr w g k) :
    Calls Tryd.prog 74 #[.pointer (some ⟨g, 0, none⟩), .agg #[.slice A n c, .slice A' n' c']] w (SpotDrawn w g (k + 4)) := by
  have hgl := hR.lt
  obtain ⟨M, hM, hM1, hM2⟩ : ∃ M : Int, max (n : Int) 1 = M ∧ 1 ≤ M ∧ M ≤ 1048576 := ⟨_, rfl, by omega, by omega⟩
  go_enter Tryd.func74, Tryd.ntmps74
  go_wp2_with fail
  have qP := (Row.new w 25 #[.slice A n c, .slice A' n' c']).alloc (.cells #[.bool false, .int .i64 0] 31)
  have qR : Row ((w.alloc (.cells #[.slice A n c, .slice A' n' c'] 25)).alloc (.cells #[.bool false, .int .i64 0] 31)) (w.heap.size + 1) 31 [.bool false, .int .i64 0] := (Row.new (w.alloc (.cells #[.slice A n c, .slice A' n' c'] 25)) 31 #[.bool false, .int .i64 0]).eq (by simp)
  have HR := hide ((hR.alloc (.cells #[.slice A n c, .slice A' n' c'] 25)).alloc (.cells #[.bool false, .int .i64 0] 31))
  have HG := hide (grown_of (bel_two w (.cells #[.slice A n c, .slice A' n' c'] 25) (.cells #[.bool false, .int .i64 0] 31)) (some g))
  have hz2 : ((w.alloc (.cells #[.slice A n c, .slice A' n' c'] 25)).alloc (.cells #[.bool false, .int .i64 0] 31)).heap.size = w.heap.size + 2 := by simp
  clear hR
  generalize (w.alloc (.cells #[.slice A n c, .slice A' n' c'] 25)).alloc (.cells #[.bool false, .int .i64 0] 31) = w2 at *
  have HP := hide (fun (W : World) (h : w2.grownBy W (some g)) => qP.kept h (by intro e; injection e with e; omega))
  have HQ := hide (fun (W : World) (h : w2.grownBy W (some g)) => qR.kept h (by intro e; injection e with e; omega))
  have HC := hide (fun (W : World) (h : w2.grownBy W (some g)) => (two_cells (HP.out W h)).1)
  have hG0 := grown_self w2 (some g)
  go_cut [5] from 6 (fun v wx => SpotSt w g (k + 2) w.heap.size (w.heap.size + 1) [.slice A n c, .slice A' n' c'] v wx)
  case first =>
    refine wp_region_held_drew (S := fun w' => w'.cell? ⟨w.heap.size, 0, none⟩ = some (.slice A n c)) (by kernel_rfl) (HC.out _ (by repeat (first | assumption | apply grown_drewS | apply grown_allocS))) (fun hHeld => ?_)
    refine wpAnyH_take (i := 0) (oi := _) (v := ?_) rfl (by kernel_rfl) (by kernel_rfl) (by kernel_rfl) (fun _ _ _ h => h) (Or.inl ⟨by rfl, ?_⟩) (by assumption) ?_
    rotate_left
    · intro w hSw; (try dsimp only at hSw); go_simp; first | done | with_reducible rfl
    (try simp only [Act.put, List.setIfInBounds_toArray, List.set_cons_zero, List.set_cons_succ])
    refine wpAnyH_take (i := 3) (oi := _) (v := ?_) rfl (by kernel_rfl) (by kernel_rfl) (by kernel_rfl) (fun _ _ _ h => h) (Or.inl ⟨by rfl, ?_⟩) (by assumption) ?_
    rotate_left
    · intro w hSw; (try dsimp only at hSw); go_simp; first | done | with_reducible rfl
    (try simp only [Act.put, List.setIfInBounds_toArray, List.set_cons_zero, List.set_cons_succ])
    refine wpAnyH_take (i := 4) (oi := _) (v := ?_) rfl (by kernel_rfl) (by kernel_rfl) (by kernel_rfl) (fun _ _ _ h => h) (Or.inl ⟨by rfl, ?_⟩) (by assumption) ?_
    rotate_left
    · intro w hSw; (try dsimp only at hSw); go_simp; first | done | with_reducible rfl
    (try simp only [Act.put, List.setIfInBounds_toArray, List.set_cons_zero, List.set_cons_succ])
    refine wpAnyH_take (i := 5) (oi := _) (v := ?_) rfl (by kernel_rfl) (by kernel_rfl) (by kernel_rfl) (fun _ _ _ h => h) (Or.inl ⟨by rfl, ?_⟩) (by assumption) ?_
    rotate_left
    · intro w hSw; (try dsimp only at hSw); go_simp; first | done | with_reducible rfl
    (try simp only [Act.put, List.setIfInBounds_toArray, List.set_cons_zero, List.set_cons_succ])
    refine wpAnyH_take (i := 6) (oi := _) (v := ?_) rfl (by kernel_rfl) (by kernel_rfl) (by kernel_rfl) (fun _ _ _ h => h) (Or.inl ⟨by rfl, ?_⟩) (by assumption) ?_
    rotate_left
    · intro w hSw; (try dsimp only at hSw); go_simp; first | done | with_reducible rfl
    (try simp only [Act.put, List.setIfInBounds_toArray, List.set_cons_zero, List.set_cons_succ])
    refine wpAnyH_take (i := 7) (oi := _) (v := ?_) rfl (by kernel_rfl) (by kernel_rfl) (by kernel_rfl) (fun _ _ _ h => h) (Or.inl ⟨by rfl, ?_⟩) (by assumption) ?_
    rotate_left
    · intro w hSw; (try dsimp only at hSw); go_simp; first | done | with_reducible rfl
    (try simp only [Act.put, List.setIfInBounds_toArray, List.set_cons_zero, List.set_cons_succ])
    refine wpAnyH_ready (rs := [1, 10]) (by kernel_rfl) (by simp) ?_
    refine AllReadyH.cons (o := _) rfl (fun K hK => ?_) (AllReadyH.cons (o := _) rfl (fun K hK => ?_) AllReadyH.nil)
    ·
      go_simp
      go_at_call 82
      refine (pick_any g (k) _ _ (by omega) (by omega) (by omega) (by first | exact HR.out.drew | exact (HR.out.alloc _).drew | exact HR.out.alloc _ | exact HR.out)).mono ?_
      rintro e w' ⟨x1, rfl, hax1, hbx1, hR', hG'⟩
      replace HR := hide hR'
      skip
      have hG1 := grown_trans (show w2.grownBy _ (some g) by repeat (first | assumption | apply grown_drewS | apply grown_allocS)) hG'
      clear hR' hG'
      go_wp2_with fail
      refine hK.out _ _ (HC.out _ hG1) (fun hHeld => ?_)
      clear hK K
      (try simp only [Act.put, List.setIfInBounds_toArray, List.set_cons_zero, List.set_cons_succ])
      refine wpAnyH_take (i := 2) (oi := _) (v := ?_) rfl (by kernel_rfl) (by kernel_rfl) (by kernel_rfl) (fun _ _ _ h => h) (Or.inl ⟨by rfl, ?_⟩) (by assumption) ?_
      rotate_left
      · intro w hSw; (try dsimp only at hSw); go_simp; first | done | with_reducible rfl
      (try simp only [Act.put, List.setIfInBounds_toArray, List.set_cons_zero, List.set_cons_succ])
      refine wpAnyH_ready (rs := [8, 10]) (by kernel_rfl) (by simp) ?_
      refine AllReadyH.cons (o := _) rfl (fun K hK => ?_) (AllReadyH.cons (o := _) rfl (fun K hK => ?_) AllReadyH.nil)
      ·
        go_simp
        go_at_call 82
        refine (pick_any g (k + 1) _ _ (by omega) (by omega) (by omega) (by first | exact HR.out.drew | exact (HR.out.alloc _).drew | exact HR.out.alloc _ | exact HR.out)).mono ?_
        rintro e w' ⟨x2, rfl, hax2, hbx2, hR', hG'⟩
        replace HR := hide hR'
        skip
        have hG1 := grown_trans (show w2.grownBy _ (some g) by repeat (first | assumption | apply grown_drewS | apply grown_allocS)) hG'
        clear hR' hG'
        go_wp2_with fail
        refine hK.out _ _ (HC.out _ hG1) (fun hHeld => ?_)
        clear hK K
        (try simp only [Act.put, List.setIfInBounds_toArray, List.set_cons_zero, List.set_cons_succ])
        refine wpAnyH_take (i := 9) (oi := _) (v := ?_) rfl (by kernel_rfl) (by kernel_rfl) (by kernel_rfl) (fun _ _ _ h => h) (Or.inl ⟨by rfl, ?_⟩) (by assumption) ?_
        rotate_left
        · intro w hSw; (try dsimp only at hSw); go_simp; first | done | with_reducible rfl
        (try simp only [Act.put, List.setIfInBounds_toArray, List.set_cons_zero, List.set_cons_succ])
        refine wpAnyH_ready (rs := [10]) (by kernel_rfl) (by simp) ?_
        refine AllReadyH.cons (o := _) rfl (fun K hK => ?_) AllReadyH.nil
        go_simp
        refine hK.out _ _ (HC.out _ (by repeat (first | assumption | apply grown_drewS | apply grown_allocS))) (fun hHeld => ?_)
        clear hK K
        (try simp only [Act.put, List.setIfInBounds_toArray, List.set_cons_zero, List.set_cons_succ])
        refine wpAnyH_ready (rs := [11]) (by kernel_rfl) (by simp) ?_
        refine AllReadyH.cons (o := _) rfl (fun K hK => ?_) AllReadyH.nil
        go_simp
        refine hK.out _ _ (HC.out _ (by repeat (first | assumption | apply grown_drewS | apply grown_allocS))) (fun hHeld => ?_)
        clear hK K
        (try simp only [Act.put, List.setIfInBounds_toArray, List.set_cons_zero, List.set_cons_succ])
        refine wpAnyH_done (by kernel_rfl) ?_ _
        have hsz := hG1.size
        have hst := spotSt_new (x1 == 0) x2 (HP.out _ hG1) (HQ.out _ hG1) HR.out (grown_trans HG.out hG1) (by omega) (by omega)
        go_wp2_with fail
        go_meet
        exact hst
      · go_simp
        have q5 := Row.new w' 31 #[.bool false, .int .i64 0]
        have hs5 := hG1.size
        refine hK.out _ _ (HC.out _ (by repeat (first | assumption | apply grown_drewS | apply grown_allocS))) (fun hHeld => ?_)
        clear hK K
        (try simp only [Act.put, List.setIfInBounds_toArray, List.set_cons_zero, List.set_cons_succ])
        refine wpAnyH_ready (rs := [8]) (by kernel_rfl) (by simp) ?_
        refine AllReadyH.cons (o := _) rfl (fun K hK => ?_) AllReadyH.nil
        go_simp
        go_at_call 82
        refine (pick_any g (k + 1) _ _ (by omega) (by omega) (by omega) (by first | exact HR.out.drew | exact (HR.out.alloc _).drew | exact HR.out.alloc _ | exact HR.out)).mono ?_
        rintro e w' ⟨x2, rfl, hax2, hbx2, hR', hG'⟩
        replace HR := hide hR'
        replace q5 := q5.kept hG' (by intro e; injection e with e; omega)
        have hG1 := grown_trans (show w2.grownBy _ (some g) by repeat (first | assumption | apply grown_drewS | apply grown_allocS)) hG'
        clear hR' hG'
        go_wp2_with fail
        refine hK.out _ _ (HC.out _ hG1) (fun hHeld => ?_)
        clear hK K
        (try simp only [Act.put, List.setIfInBounds_toArray, List.set_cons_zero, List.set_cons_succ])
        refine wpAnyH_take (i := 9) (oi := _) (v := ?_) rfl (by kernel_rfl) (by kernel_rfl) (by kernel_rfl) (fun _ _ _ h => h) (Or.inl ⟨by rfl, ?_⟩) (by assumption) ?_
        rotate_left
        · intro w hSw; (try dsimp only at hSw); go_simp; first | done | with_reducible rfl
        (try simp only [Act.put, List.setIfInBounds_toArray, List.set_cons_zero, List.set_cons_succ])
        refine wpAnyH_ready (rs := [11]) (by kernel_rfl) (by simp) ?_
        refine AllReadyH.cons (o := _) rfl (fun K hK => ?_) AllReadyH.nil
        obtain ⟨c0, c1, f0, f1⟩ := two_cells q5
        go_simp
        clear c0 c1 f0 f1
        have hs6 := hG1.size
        have hst := spotSt_of (w := w) (x1 == 0) x2 q5 (HP.out _ hG1) (HQ.out _ hG1) HR.out (grown_trans HG.out hG1) (by omega) (by omega) (by omega) (by omega) (by omega)
        refine hK.out _ _ (HC.out _ (grown_two hG1 (by omega) _ _)) (fun hHeld => ?_)
        clear hK K
        (try simp only [Act.put, List.setIfInBounds_toArray, List.set_cons_zero, List.set_cons_succ])
        refine wpAnyH_done (by kernel_rfl) ?_ _
        go_wp2_with fail
        go_meet
        exact hst
    · go_simp
      have q5 : Row (w2.alloc (.cells #[.bool false, .int .i64 0] 31)).drew (w.heap.size + 2) 31 [.bool false, .int .i64 0] := by rw [← hz2]; exact Row.new w2 31 #[.bool false, .int .i64 0]
      refine hK.out _ _ (HC.out _ (by repeat (first | assumption | apply grown_drewS | apply grown_allocS))) (fun hHeld => ?_)
      clear hK K
      (try simp only [Act.put, List.setIfInBounds_toArray, List.set_cons_zero, List.set_cons_succ])
      refine wpAnyH_ready (rs := [1]) (by kernel_rfl) (by simp) ?_
      refine AllReadyH.cons (o := _) rfl (fun K hK => ?_) AllReadyH.nil
      go_simp
      go_at_call 82
      refine (pick_any g (k) _ _ (by omega) (by omega) (by omega) (by first | exact HR.out.drew | exact (HR.out.alloc _).drew | exact HR.out.alloc _ | exact HR.out)).mono ?_
      rintro e w' ⟨x1, rfl, hax1, hbx1, hR', hG'⟩
      replace HR := hide hR'
      replace q5 := q5.kept hG' (by intro e; injection e with e; omega)
      have hG1 := grown_trans (show w2.grownBy _ (some g) by repeat (first | assumption | apply grown_drewS | apply grown_allocS)) hG'
      clear hR' hG'
      go_wp2_with fail
      refine hK.out _ _ (HC.out _ hG1) (fun hHeld => ?_)
      clear hK K
      (try simp only [Act.put, List.setIfInBounds_toArray, List.set_cons_zero, List.set_cons_succ])
      refine wpAnyH_take (i := 2) (oi := _) (v := ?_) rfl (by kernel_rfl) (by kernel_rfl) (by kernel_rfl) (fun _ _ _ h => h) (Or.inl ⟨by rfl, ?_⟩) (by assumption) ?_
      rotate_left
      · intro w hSw; (try dsimp only at hSw); go_simp; first | done | with_reducible rfl
      (try simp only [Act.put, List.setIfInBounds_toArray, List.set_cons_zero, List.set_cons_succ])
      refine wpAnyH_ready (rs := [8]) (by kernel_rfl) (by simp) ?_
      refine AllReadyH.cons (o := _) rfl (fun K hK => ?_) AllReadyH.nil
      go_simp
      go_at_call 82
      refine (pick_any g (k + 1) _ _ (by omega) (by omega) (by omega) (by first | exact HR.out.drew | exact (HR.out.alloc _).drew | exact HR.out.alloc _ | exact HR.out)).mono ?_
      rintro e w' ⟨x2, rfl, hax2, hbx2, hR', hG'⟩
      replace HR := hide hR'
      replace q5 := q5.kept hG' (by intro e; injection e with e; omega)
      have hG1 := grown_trans (show w2.grownBy _ (some g) by repeat (first | assumption | apply grown_drewS | apply grown_allocS)) hG'
      clear hR' hG'
      go_wp2_with fail
      refine hK.out _ _ (HC.out _ hG1) (fun hHeld => ?_)
      clear hK K
      (try simp only [Act.put, List.setIfInBounds_toArray, List.set_cons_zero, List.set_cons_succ])
      refine wpAnyH_take (i := 9) (oi := _) (v := ?_) rfl (by kernel_rfl) (by kernel_rfl) (by kernel_rfl) (fun _ _ _ h => h) (Or.inl ⟨by rfl, ?_⟩) (by assumption) ?_
      rotate_left
      · intro w hSw; (try dsimp only at hSw); go_simp; first | done | with_reducible rfl
      (try simp only [Act.put, List.setIfInBounds_toArray, List.set_cons_zero, List.set_cons_succ])
      refine wpAnyH_ready (rs := [11]) (by kernel_rfl) (by simp) ?_
      refine AllReadyH.cons (o := _) rfl (fun K hK => ?_) AllReadyH.nil
      obtain ⟨c0, c1, f0, f1⟩ := two_cells q5
      go_simp
      clear c0 c1 f0 f1
      have hs6 := hG1.size
      have hst := spotSt_of (w := w) (x1 == 0) x2 q5 (HP.out _ hG1) (HQ.out _ hG1) HR.out (grown_trans HG.out hG1) (by omega) (by omega) (by omega) (by omega) (by omega)
      refine hK.out _ _ (HC.out _ (grown_two hG1 (by omega) _ _)) (fun hHeld => ?_)
      clear hK K
      (try simp only [Act.put, List.setIfInBounds_toArray, List.set_cons_zero, List.set_cons_succ])
      refine wpAnyH_done (by kernel_rfl) ?_ _
      go_wp2_with fail
      go_meet
      exact hst
  case rest =>
    obtain ⟨g5, b0, z, rfl, q5, qP1, qR1, hR1, hGw, h1, hz⟩ := hcut
    clear HR HG HP HQ HC hG0 hM hM1 hM2
    have hz3 := hGw.size
    clear qP qR hz2
    clear w2
    have S : StR w wc [.slice A n c, .slice A' n' c'] g g5 (k + 2) [.bool b0, .int .i64 z] := ⟨q5, qP1, qR1, hR1, hGw⟩
    have L : LieR w g g5 := ⟨hgl, by omega⟩
    clear q5 qP1 qR1 hR1 hGw
    go_wp2_with fail
    refine (odd_any g _ _ _ (by omega) (by omega) (by omega) S.rdr).mono ?_
    rintro e w5 ⟨b, rfl, hR', hG'⟩
    replace S := S.asked L hR' hG'
    clear hR' hG' hz3
    cases b
    ·
      obtain ⟨m0, m1, _, _⟩ := two_cells S.box
      obtain ⟨e0, e1, f0, f1⟩ := two_cells S.res
      obtain ⟨r0, r1, _, _⟩ := two_cells (two_set S.res (.bool b0) (.int .i64 z))
      go_wp2
      refine bodyPost_ret (by simp [results, Tryd.results74, go_sem, r0, r1]; try rfl) rfl ?_
      exact ⟨b0, z, rfl, ⟨by omega, by omega⟩, DrawnTo.more ⟨S.rdr.two (by have := L.g0; omega) _ _, grown_two S.grown (by omega) _ _⟩ (by omega)⟩
    · have k0 := (two_cells S.pile).1
      have hw6 := S.res.lt
      have HC := hide (fun (W : World) (h : w5.grownBy W (some g)) => cell_kept k0 (by have := L.g0; omega) h)
      have hG0 := grown_self w5 (some g)
      go_wp2_with fail
      refine wp_region_held_drew (S := fun w' => w'.cell? ⟨w.heap.size, 0, none⟩ = some (.slice A n c)) (by kernel_rfl) (HC.out _ (by repeat (first | assumption | apply grown_drewS | apply grown_allocS))) (fun hHeld => ?_)
      refine wpAnyH_take (i := 0) (oi := _) (v := ?_) rfl (by kernel_rfl) (by kernel_rfl) (by kernel_rfl) (fun _ _ _ h => h) (Or.inl ⟨by rfl, ?_⟩) (by assumption) ?_
      rotate_left
      · intro w hSw; (try dsimp only at hSw); go_simp; first | done | with_reducible rfl
      (try simp only [Act.put, List.setIfInBounds_toArray, List.set_cons_zero, List.set_cons_succ])
      refine wpAnyH_take (i := 1) (oi := _) (v := ?_) rfl (by kernel_rfl) (by kernel_rfl) (by kernel_rfl) (fun _ _ _ h => h) (Or.inl ⟨by rfl, ?_⟩) (by assumption) ?_
      rotate_left
      · intro w hSw; (try dsimp only at hSw); go_simp; first | done | with_reducible rfl
      (try simp only [Act.put, List.setIfInBounds_toArray, List.set_cons_zero, List.set_cons_succ])
      refine wpAnyH_take (i := 2) (oi := _) (v := ?_) rfl (by kernel_rfl) (by kernel_rfl) (by kernel_rfl) (fun _ _ _ h => h) (Or.inl ⟨by rfl, ?_⟩) (by assumption) ?_
      rotate_left
      · intro w hSw; (try dsimp only at hSw); go_simp; first | done | with_reducible rfl
      (try simp only [Act.put, List.setIfInBounds_toArray, List.set_cons_zero, List.set_cons_succ])
      refine wpAnyH_take (i := 4) (oi := _) (v := ?_) rfl (by kernel_rfl) (by kernel_rfl) (by kernel_rfl) (fun _ _ _ h => h) (Or.inl ⟨by rfl, ?_⟩) (by assumption) ?_
      rotate_left
      · intro w hSw; (try dsimp only at hSw); go_simp; first | done | with_reducible rfl
      (try simp only [Act.put, List.setIfInBounds_toArray, List.set_cons_zero, List.set_cons_succ])
      refine wpAnyH_ready (rs := [3, 5]) (by kernel_rfl) (by simp) ?_
      refine AllReadyH.cons (o := _) rfl (fun K hK => ?_) (AllReadyH.cons (o := _) rfl (fun K hK => ?_) AllReadyH.nil)
      · go_simp
        refine hK.out _ _ (HC.out _ (by repeat (first | assumption | apply grown_drewS | apply grown_allocS))) (fun hHeld => ?_)
        clear hK K
        (try simp only [Act.put, List.setIfInBounds_toArray, List.set_cons_zero, List.set_cons_succ])
        refine wpAnyH_ready (rs := [5]) (by kernel_rfl) (by simp) ?_
        refine AllReadyH.cons (o := _) rfl (fun K hK => ?_) AllReadyH.nil
        (go_simp; go_at_call 82; refine (pick_any g (k + 2 + 1) 2 _ (by omega) (by omega) (by omega) (by first | exact S.rdr | exact S.rdr.drew | exact (S.rdr.alloc _).drew)).mono ?_; rintro e w' ⟨x, rfl, hx0, hx1, hR', hG'⟩; have hcx := two_old x hx0 hx1 (by have := L.g0; omega) hG'; have HR6 := hide hR'; clear hR'; have hG1 := grown_trans (show w5.grownBy _ (some g) by repeat (first | assumption | apply grown_drewS | apply grown_allocS)) hG'; go_wp2_with fail)
        refine hK.out _ _ (HC.out _ hG1) (fun hHeld => ?_)
        clear hK K
        (try simp only [Act.put, List.setIfInBounds_toArray, List.set_cons_zero, List.set_cons_succ])
        refine wpAnyH_take (i := 6) (oi := _) (v := ?_) rfl (by kernel_rfl) (by kernel_rfl) (by kernel_rfl) (fun _ _ _ h => h) (Or.inl ⟨by rfl, ?_⟩) (by assumption) ?_
        rotate_left
        · intro w hSw; (try dsimp only at hSw); go_simp; first | done | with_reducible rfl
        (try simp only [Act.put, List.setIfInBounds_toArray, List.set_cons_zero, List.set_cons_succ])
        refine wpAnyH_ready (rs := [7]) (by kernel_rfl) (by simp) ?_
        refine AllReadyH.cons (o := _) rfl (fun K hK => ?_) AllReadyH.nil
        go_simp
        refine hK.out _ _ (HC.out _ hG1) (fun hHeld => ?_)
        clear hK K
        (try simp only [Act.put, List.setIfInBounds_toArray, List.set_cons_zero, List.set_cons_succ])
        refine wpAnyH_take (i := 8) (oi := _) (v := ?_) rfl (by kernel_rfl) (by kernel_rfl) (by kernel_rfl) (fun _ _ _ h => h) (Or.inl ⟨by rfl, ?_⟩) (by assumption) ?_
        rotate_left
        · intro w hSw; (try dsimp only at hSw); go_simp; first | done | with_reducible rfl
        (try simp only [Act.put, List.setIfInBounds_toArray, List.set_cons_zero, List.set_cons_succ])
        have SA := ((S.alloc (.cells #[.int .i64 (-1), .int .i64 n] 3)).drewS).asked L HR6.out hG'
        obtain ⟨c0, c1, f0, f1⟩ := two_cells SA.box
        have qz := SA.box.set 1 (.int .i64 (oneOf (-1) n x))
        simp only [List.set_cons_succ, List.set_cons_zero] at qz
        have hL1 := L.b1
        have hL0 := L.g0
        have SB : StR w _ [.slice A n c, .slice A' n' c'] g g5 _ [.bool b0, .int .i64 (oneOf (-1) n x)] := ⟨qz, SA.pile.far (by simp only; omega) _, SA.res.far (by simp only; omega) _, SA.rdr.far (by simp only; omega) _, grown_store SA.grown (by simp only; omega) _⟩
        have hone : -1 ≤ oneOf (-1) n x ∧ oneOf (-1) n x ≤ 1048576 := by unfold oneOf; split <;> omega
        refine wpAnyH_ready (rs := [9]) (by kernel_rfl) (by simp) ?_
        refine AllReadyH.cons (o := _) rfl (fun K hK => ?_) AllReadyH.nil
        go_simp
        refine hK.out _ _ (two_cells SB.pile).1 (fun hHeld => ?_)
        clear hK K
        (try simp only [Act.put, List.setIfInBounds_toArray, List.set_cons_zero, List.set_cons_succ])
        refine wpAnyH_done (by kernel_rfl) ?_ _
        clear c0 c1 f0 f1 qz HC hHeld
        obtain ⟨m0, m1, _, _⟩ := two_cells SB.box
        obtain ⟨e0, e1, f0, f1⟩ := two_cells SB.res
        obtain ⟨r0, r1, _, _⟩ := two_cells (two_set SB.res (.bool b0) (.int .i64 (oneOf (-1) n x)))
        go_wp2
        refine bodyPost_ret (by simp [results, Tryd.results74, go_sem, r0, r1]; try rfl) rfl ?_
        exact ⟨b0, (oneOf (-1) n x), rfl, ⟨by omega, by omega⟩, DrawnTo.more ⟨SB.rdr.two (by have := L.g0; omega) _ _, grown_two SB.grown (by omega) _ _⟩ (by omega)⟩
      · (go_simp; go_at_call 82; refine (pick_any g (k + 2 + 1) 2 _ (by omega) (by omega) (by omega) (by first | exact S.rdr | exact S.rdr.drew | exact (S.rdr.alloc _).drew)).mono ?_; rintro e w' ⟨x, rfl, hx0, hx1, hR', hG'⟩; have hcn := fun W : World => two_new W 3 (-1) (n : Int) x hx0 hx1; have HR6 := hide hR'; clear hR'; have hG1 := grown_trans (show w5.grownBy _ (some g) by repeat (first | assumption | apply grown_drewS | apply grown_allocS)) hG'; go_wp2_with fail)
        refine hK.out _ _ (HC.out _ hG1) (fun hHeld => ?_)
        clear hK K
        (try simp only [Act.put, List.setIfInBounds_toArray, List.set_cons_zero, List.set_cons_succ])
        refine wpAnyH_ready (rs := [3]) (by kernel_rfl) (by simp) ?_
        refine AllReadyH.cons (o := _) rfl (fun K hK => ?_) AllReadyH.nil
        go_simp
        refine hK.out _ _ (HC.out _ (by repeat (first | assumption | apply grown_drewS | apply grown_allocS))) (fun hHeld => ?_)
        clear hK K
        (try simp only [Act.put, List.setIfInBounds_toArray, List.set_cons_zero, List.set_cons_succ])
        refine wpAnyH_take (i := 6) (oi := _) (v := ?_) rfl (by kernel_rfl) (by kernel_rfl) (by kernel_rfl) (fun _ _ _ h => h) (Or.inl ⟨by rfl, ?_⟩) (by assumption) ?_
        rotate_left
        · intro w hSw; (try dsimp only at hSw); go_simp; first | done | with_reducible rfl
        (try simp only [Act.put, List.setIfInBounds_toArray, List.set_cons_zero, List.set_cons_succ])
        refine wpAnyH_ready (rs := [7]) (by kernel_rfl) (by simp) ?_
        refine AllReadyH.cons (o := _) rfl (fun K hK => ?_) AllReadyH.nil
        go_simp
        refine hK.out _ _ (HC.out _ (by repeat (first | assumption | apply grown_drewS | apply grown_allocS))) (fun hHeld => ?_)
        clear hK K
        (try simp only [Act.put, List.setIfInBounds_toArray, List.set_cons_zero, List.set_cons_succ])
        refine wpAnyH_take (i := 8) (oi := _) (v := ?_) rfl (by kernel_rfl) (by kernel_rfl) (by kernel_rfl) (fun _ _ _ h => h) (Or.inl ⟨by rfl, ?_⟩) (by assumption) ?_
        rotate_left
        · intro w hSw; (try dsimp only at hSw); go_simp; first | done | with_reducible rfl
        (try simp only [Act.put, List.setIfInBounds_toArray, List.set_cons_zero, List.set_cons_succ])
        have SA := (S.drewS.asked L HR6.out hG').alloc (.cells #[.int .i64 (-1), .int .i64 n] 3)
        obtain ⟨c0, c1, f0, f1⟩ := two_cells SA.box
        have qz := SA.box.set 1 (.int .i64 (oneOf (-1) n x))
        simp only [List.set_cons_succ, List.set_cons_zero] at qz
        have hL1 := L.b1
        have hL0 := L.g0
        have SB : StR w _ [.slice A n c, .slice A' n' c'] g g5 _ [.bool b0, .int .i64 (oneOf (-1) n x)] := ⟨qz, SA.pile.far (by simp only; omega) _, SA.res.far (by simp only; omega) _, SA.rdr.far (by simp only; omega) _, grown_store SA.grown (by simp only; omega) _⟩
        have hone : -1 ≤ oneOf (-1) n x ∧ oneOf (-1) n x ≤ 1048576 := by unfold oneOf; split <;> omega
        refine wpAnyH_ready (rs := [9]) (by kernel_rfl) (by simp) ?_
        refine AllReadyH.cons (o := _) rfl (fun K hK => ?_) AllReadyH.nil
        go_simp
        refine hK.out _ _ (two_cells SB.pile).1 (fun hHeld => ?_)
        clear hK K
        (try simp only [Act.put, List.setIfInBounds_toArray, List.set_cons_zero, List.set_cons_succ])
        refine wpAnyH_done (by kernel_rfl) ?_ _
        clear c0 c1 f0 f1 qz HC hHeld
        obtain ⟨m0, m1, _, _⟩ := two_cells SB.box
        obtain ⟨e0, e1, f0, f1⟩ := two_cells SB.res
        obtain ⟨r0, r1, _, _⟩ := two_cells (two_set SB.res (.bool b0) (.int .i64 (oneOf (-1) n x)))
        go_wp2
        refine bodyPost_ret (by simp [results, Tryd.results74, go_sem, r0, r1]; try rfl) rfl ?_
        exact ⟨b0, (oneOf (-1) n x), rfl, ⟨by omega, by omega⟩, DrawnTo.more ⟨SB.rdr.two (by have := L.g0; omega) _ _, grown_two SB.grown (by omega) _ _⟩ (by omega)⟩
end Go.Proofs.YtpiiefmfiipabaaDoor
