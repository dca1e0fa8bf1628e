/- Two sheets and a jump, drawn from a code. No conditions. -/
import Derived.Test.YtcdoopccmljaoaaDoorDraw2
import Derived.Deep.CutRange
namespace Go.Proofs.YtcdoopccmljaoaaDoor
open Go.ChangeShapes Go.WideShapes Go.ChangeAt Go.RowKit Go.Deep
theorem Row.at {w : World} {g g' : Nat} {T : TypeId} {xs : List Value} (h : Row w g T xs) (e : g = g') : Row w g' T xs := e ▸ h
def JumpFrom (w : World) (e : Ending) (w' : World) : Prop :=
  ∃ a b c d j k : Int, e = .returned (.tuple #[.agg #[.int .i64 a, .int .i64 b], .agg #[.int .i64 c, .int .i64 d], .agg #[.int .i64 j, .int .i64 k]]) ∧ Below w.heap.size w w'
/-- The boxes while the sheets are drawn. -/
structure StJ (w wr : World) (g gA K : Nat) (a b : Int) : Prop where
  r2 : Row wr w.heap.size 24 [.int .i64 0, .int .i64 0]
  r3 : Row wr (w.heap.size + 1) 24 [.int .i64 0, .int .i64 0]
  r4 : Row wr (w.heap.size + 1 + 1) 32 [.int .i64 0, .int .i64 0]
  ba : Row wr gA 24 [.int .i64 a, .int .i64 b]
  rdr : Rdr wr g K
  low : Below w.heap.size w wr
  lg : w.heap.size + 2 < g
  lA : g < gA
section
variable {w wr w' : World} {g gA K K' : Nat} {a b : Int}
theorem StJ.asked (h : StJ w wr g gA K a b) (hR : Rdr w' g K') (hG : wr.grownBy w' (some g)) : StJ w w' g gA K' a b := by
  have h1 := h.lg; have h2 := h.lA
  exact ⟨h.r2.kept hG (by intro e; injection e with e; omega), h.r3.kept hG (by intro e; injection e with e; omega), h.r4.kept hG (by intro e; injection e with e; omega), h.ba.kept hG (by intro e; injection e with e; omega), hR, h.low.trans (grown_low hG (by omega) h.low.size), h1, h2⟩
theorem StJ.alloc (h : StJ w wr g gA K a b) (o : Obj) : StJ w (wr.alloc o) g gA K a b := ⟨h.r2.alloc o, h.r3.alloc o, h.r4.alloc o, h.ba.alloc o, h.rdr.alloc o, h.low.alloc h.low.size o, h.lg, h.lA⟩
theorem StJ.drewS (h : StJ w wr g gA K a b) : StJ w wr.drew g gA K a b := ⟨h.r2, h.r3, h.r4, h.ba, h.rdr.drew, h.low.drew, h.lg, h.lA⟩
theorem StJ.setB (h : StJ w wr g gA K a b) {g7 : Nat} (hg : gA < g7) (u v : Value) : StJ w ((wr.setCell ⟨g7, 0, none⟩ u).setCell ⟨g7, 1, none⟩ v) g gA K a b := by
  have h1 := h.lg; have h2 := h.lA
  exact ⟨(h.r2.far (by simp only; omega) _).far (by simp only; omega) _, (h.r3.far (by simp only; omega) _).far (by simp only; omega) _, (h.r4.far (by simp only; omega) _).far (by simp only; omega) _, (h.ba.far (by simp only; omega) _).far (by simp only; omega) _, h.rdr.two (by omega) _ _, (h.low.setCell (by simp only; omega) _).setCell (by simp only; omega) _, h1, h2⟩
end
def SheetSt (w : World) (g gA K : Nat) (a b : Int) (u : Value) (wx : World) : Prop :=
  ∃ (g7 : Nat) (c d : Int), u = .pointer (some ⟨g7, 0, none⟩) ∧ gA < g7 ∧ Row wx g7 24 [.int .i64 c, .int .i64 d] ∧ StJ w wx g gA K a b
set_option linter.unusedSimpArgs false in
set_option linter.unusedVariables false in
set_option maxHeartbeats 3000000 in
set_option maxRecDepth 100000 in
theorem drawJumpMay_any (A : Option Addr) (c : Nat) (bs : List Int) (w : World) (hkc : bs.length ≤ c) (hmc : c ≤ maxLen) (hbs : ∀ b ∈ bs, (Lit.int .u8 b).wf = true) (hrd : Rd w w.heap.size A (bc bs)) :
    Calls Tryd.prog 35 #[.slice A bs.length c] w (JumpFrom w) := by
  have hB := hide hbs
  clear hbs
  go_enter Tryd.func35, Tryd.ntmps35
  go_wp2_with fail
  have r2 := ((Row.new w 24 #[.int .i64 0, .int .i64 0]).alloc (.cells #[.int .i64 0, .int .i64 0] 24)).alloc (.cells #[.int .i64 0, .int .i64 0] 32)
  have r3 : Row (((w.alloc (.cells #[.int .i64 0, .int .i64 0] 24)).alloc (.cells #[.int .i64 0, .int .i64 0] 24)).alloc (.cells #[.int .i64 0, .int .i64 0] 32)) (w.heap.size + 1) 24 [.int .i64 0, .int .i64 0] := ((Row.new (w.alloc (.cells #[.int .i64 0, .int .i64 0] 24)) 24 #[.int .i64 0, .int .i64 0]).at (by simp)).alloc (.cells #[.int .i64 0, .int .i64 0] 32)
  have r4 : Row (((w.alloc (.cells #[.int .i64 0, .int .i64 0] 24)).alloc (.cells #[.int .i64 0, .int .i64 0] 24)).alloc (.cells #[.int .i64 0, .int .i64 0] 32)) (w.heap.size + 1 + 1) 32 [.int .i64 0, .int .i64 0] := (Row.new ((w.alloc (.cells #[.int .i64 0, .int .i64 0] 24)).alloc (.cells #[.int .i64 0, .int .i64 0] 24)) 32 #[.int .i64 0, .int .i64 0]).at (by simp)
  have b0 : Below w.heap.size w (((w.alloc (.cells #[.int .i64 0, .int .i64 0] 24)).alloc (.cells #[.int .i64 0, .int .i64 0] 24)).alloc (.cells #[.int .i64 0, .int .i64 0] 32)) := by go_grown
  have hz0 := r4.lt
  generalize ((w.alloc (.cells #[.int .i64 0, .int .i64 0] 24)).alloc (.cells #[.int .i64 0, .int .i64 0] 24)).alloc (.cells #[.int .i64 0, .int .i64 0] 32) = w0 at *
  refine (open_any A c bs w0 hkc hmc hB.out (hrd.up b0)).mono ?_
  rintro e w1 ⟨rfl, hR, bo⟩
  replace r2 := r2.after bo
  replace r3 := r3.after bo
  replace r4 := r4.after bo
  have bb := via b0 bo b0.size
  have hgl := hR.lt
  clear bo b0 hkc hmc hrd hB
  generalize w0.heap.size = w1g at *
  go_wp2_with fail
  refine (pick_any w1g _ 12 _ (by omega) (by omega) (by omega) hR).mono ?_
  rintro e w2 ⟨x1, rfl, ha1, hb1, hR1, hG1⟩
  replace r2 := r2.kept hG1 (by intro e; injection e with e; omega)
  replace r3 := r3.kept hG1 (by intro e; injection e with e; omega)
  replace r4 := r4.kept hG1 (by intro e; injection e with e; omega)
  have hz2 := hG1.size
  replace bb := bb.trans (grown_low hG1 (by omega) (by omega))
  clear hR hG1
  go_wp2_with fail
  refine (pick_any w1g _ 12 _ (by omega) (by omega) (by omega) hR1).mono ?_
  rintro e w3 ⟨x2, rfl, ha2, hb2, hR2, hG2⟩
  replace r2 := r2.kept hG2 (by intro e; injection e with e; omega)
  replace r3 := r3.kept hG2 (by intro e; injection e with e; omega)
  replace r4 := r4.kept hG2 (by intro e; injection e with e; omega)
  have hz3 := hG2.size
  replace bb := bb.trans (grown_low hG2 (by omega) (by omega))
  clear hR1 hG2
  go_wp2_with fail
  have S : StJ w (w3.alloc (.cells #[.int .i64 (20 + x1 * 5), .int .i64 (5 + x2)] 24)) w1g w3.heap.size 2 (20 + x1 * 5) (5 + x2) :=
    ⟨r2.alloc _, r3.alloc _, r4.alloc _, Row.new _ _ _, hR2.alloc _, bb.alloc (by omega) _, by omega, by omega⟩
  generalize w3.alloc (.cells #[.int .i64 (20 + x1 * 5), .int .i64 (5 + x2)] 24) = wA at *
  generalize w3.heap.size = gA at *
  clear r2 r3 r4 bb hR2
  go_cut [7] from 18 to 33 (fun u wx => SheetSt w w1g gA 5 (20 + x1 * 5) (5 + x2) u wx)
  case first =>
    refine wp_region_held_drew (S := fun w' => w'.cell? ⟨gA, 0, none⟩ = some (.int .i64 (20 + x1 * 5))) (by kernel_rfl) ((two_cells S.ba).1) (fun hHeld => ?_)
    have Sr := S
    replace S := S.drewS
    have hlg := S.lg
    have hlA := S.lA
    refine wpAnyH_take (i := 0) (oi := _) (v := ?_) rfl (by kernel_rfl) (by kernel_rfl) (by kernel_rfl) (fun _ _ _ h => h) (Or.inl ⟨by rfl, ?_⟩) (by assumption) ?_
    rotate_left
    · intro w hSw; (try dsimp only at hSw); go_simp; first | done | with_reducible rfl
    (try simp only [Act.put, List.setIfInBounds_toArray, List.set_cons_zero, List.set_cons_succ])
    refine wpAnyH_take (i := 1) (oi := _) (v := ?_) rfl (by kernel_rfl) (by kernel_rfl) (by kernel_rfl) (fun _ _ _ h => h) (Or.inl ⟨by rfl, ?_⟩) (by assumption) ?_
    rotate_left
    · intro w hSw; (try dsimp only at hSw); go_simp; first | done | with_reducible rfl
    (try simp only [Act.put, List.setIfInBounds_toArray, List.set_cons_zero, List.set_cons_succ])
    refine wpAnyH_take (i := 2) (oi := _) (v := ?_) rfl (by kernel_rfl) (by kernel_rfl) (by kernel_rfl) (fun _ _ _ h => h) (Or.inl ⟨by rfl, ?_⟩) (by assumption) ?_
    rotate_left
    · intro w hSw; (try dsimp only at hSw); go_simp; first | done | with_reducible rfl
    (try simp only [Act.put, List.setIfInBounds_toArray, List.set_cons_zero, List.set_cons_succ])
    refine wpAnyH_take (i := 6) (oi := _) (v := ?_) rfl (by kernel_rfl) (by kernel_rfl) (by kernel_rfl) (fun _ _ _ h => h) (Or.inl ⟨by rfl, ?_⟩) (by assumption) ?_
    rotate_left
    · intro w hSw; (try dsimp only at hSw); go_simp; first | done | with_reducible rfl
    (try simp only [Act.put, List.setIfInBounds_toArray, List.set_cons_zero, List.set_cons_succ])
    refine wpAnyH_take (i := 12) (oi := _) (v := ?_) rfl (by kernel_rfl) (by kernel_rfl) (by kernel_rfl) (fun _ _ _ h => h) (Or.inl ⟨by rfl, ?_⟩) (by assumption) ?_
    rotate_left
    · intro w hSw; (try dsimp only at hSw); go_simp; first | done | with_reducible rfl
    (try simp only [Act.put, List.setIfInBounds_toArray, List.set_cons_zero, List.set_cons_succ])
    refine wpAnyH_ready (rs := [3, 16]) (by kernel_rfl) (by simp) ?_
    refine AllReadyH.cons (o := _) rfl (fun K hK => ?_) (AllReadyH.cons (o := _) rfl (fun K hK => ?_) AllReadyH.nil)
    ·
      go_simp
      go_at_call 74
      refine (pick_any w1g (2) 8 _ (by omega) (by omega) (by omega) S.rdr).mono ?_
      rintro e w' ⟨x3, rfl, hax3, hbx3, hR1, hG1⟩
      (try replace ql := ql.kept hG1 (by intro e; injection e with e; omega))
      replace S := S.asked hR1 hG1
      clear hR1 hG1
      go_wp2_with fail
      refine hK.out _ _ ((two_cells S.ba).1) (fun hHeld => ?_)
      clear hK K
      (try simp only [Act.put, List.setIfInBounds_toArray, List.set_cons_zero, List.set_cons_succ])
      refine wpAnyH_take (i := 4) (oi := _) (v := ?_) rfl (by kernel_rfl) (by kernel_rfl) (by kernel_rfl) (fun _ _ _ h => h) (Or.inl ⟨by rfl, ?_⟩) (by assumption) ?_
      rotate_left
      · intro w hSw; (try dsimp only at hSw); go_simp; first | done | with_reducible rfl
      (try simp only [Act.put, List.setIfInBounds_toArray, List.set_cons_zero, List.set_cons_succ])
      refine wpAnyH_take (i := 5) (oi := _) (v := ?_) rfl (by kernel_rfl) (by kernel_rfl) (by kernel_rfl) (fun _ _ _ h => h) (Or.inl ⟨by rfl, ?_⟩) (by assumption) ?_
      rotate_left
      · intro w hSw; (try dsimp only at hSw); go_simp; first | done | with_reducible rfl
      (try simp only [Act.put, List.setIfInBounds_toArray, List.set_cons_zero, List.set_cons_succ])
      refine wpAnyH_ready (rs := [7, 16]) (by kernel_rfl) (by simp) ?_
      refine AllReadyH.cons (o := _) rfl (fun K hK => ?_) (AllReadyH.cons (o := _) rfl (fun K hK => ?_) AllReadyH.nil)
      ·
        go_simp
        go_at_call 74
        refine (pick_any w1g (3) 6 _ (by omega) (by omega) (by omega) S.rdr).mono ?_
        rintro e w' ⟨x4, rfl, hax4, hbx4, hR1, hG1⟩
        (try replace ql := ql.kept hG1 (by intro e; injection e with e; omega))
        replace S := S.asked hR1 hG1
        clear hR1 hG1
        go_wp2_with fail
        refine hK.out _ _ ((two_cells S.ba).1) (fun hHeld => ?_)
        clear hK K
        (try simp only [Act.put, List.setIfInBounds_toArray, List.set_cons_zero, List.set_cons_succ])
        refine wpAnyH_take (i := 8) (oi := _) (v := ?_) rfl (by kernel_rfl) (by kernel_rfl) (by kernel_rfl) (fun _ _ _ h => h) (Or.inl ⟨by rfl, ?_⟩) (by assumption) ?_
        rotate_left
        · intro w hSw; (try dsimp only at hSw); go_simp; first | done | with_reducible rfl
        (try simp only [Act.put, List.setIfInBounds_toArray, List.set_cons_zero, List.set_cons_succ])
        refine wpAnyH_take (i := 9) (oi := _) (v := ?_) rfl (by kernel_rfl) (by kernel_rfl) (by kernel_rfl) (fun _ _ _ h => h) (Or.inl ⟨by rfl, ?_⟩) (by assumption) ?_
        rotate_left
        · intro w hSw; (try dsimp only at hSw); go_simp; first | done | with_reducible rfl
        (try simp only [Act.put, List.setIfInBounds_toArray, List.set_cons_zero, List.set_cons_succ])
        refine wpAnyH_take (i := 10) (oi := _) (v := ?_) rfl (by kernel_rfl) (by kernel_rfl) (by kernel_rfl) (fun _ _ _ h => h) (Or.inl ⟨by rfl, ?_⟩) (by assumption) ?_
        rotate_left
        · intro w hSw; (try dsimp only at hSw); go_simp; first | done | with_reducible rfl
        (try simp only [Act.put, List.setIfInBounds_toArray, List.set_cons_zero, List.set_cons_succ])
        generalize IntKind.i64.wrap (IntKind.i64.wrap (20 + x1 * 5 - IntKind.i64.wrap (x3 * 5)) + IntKind.i64.wrap (IntKind.i64.wrap (x4.tdiv 5) * 10)) = E at *
        by_cases hE : E < 0
        all_goals
          refine wpAnyH_take (i := 11) (oi := _) (v := ?_) rfl (by kernel_rfl) (by kernel_rfl) (by kernel_rfl) (fun _ _ _ h => h) (Or.inl ⟨by rfl, ?_⟩) (by assumption) ?_
          rotate_left
          · intro w hSw; (try dsimp only at hSw); go_simp; first | done | with_reducible rfl
          (try simp only [Act.put, List.setIfInBounds_toArray, List.set_cons_zero, List.set_cons_succ])
          refine wpAnyH_ready (rs := [13, 16]) (by kernel_rfl) (by simp) ?_
          refine AllReadyH.cons (o := _) rfl (fun K hK => ?_) (AllReadyH.cons (o := _) rfl (fun K hK => ?_) AllReadyH.nil)
          ·
            go_simp
            go_at_call 74
            refine (pick_any w1g (4) 12 _ (by omega) (by omega) (by omega) S.rdr).mono ?_
            rintro e w' ⟨x5, rfl, hax5, hbx5, hR1, hG1⟩
            (try replace ql := ql.kept hG1 (by intro e; injection e with e; omega))
            replace S := S.asked hR1 hG1
            clear hR1 hG1
            go_wp2_with fail
            refine hK.out _ _ ((two_cells S.ba).1) (fun hHeld => ?_)
            clear hK K
            (try simp only [Act.put, List.setIfInBounds_toArray, List.set_cons_zero, List.set_cons_succ])
            refine wpAnyH_take (i := 14) (oi := _) (v := ?_) rfl (by kernel_rfl) (by kernel_rfl) (by kernel_rfl) (fun _ _ _ h => h) (Or.inl ⟨by rfl, ?_⟩) (by assumption) ?_
            rotate_left
            · intro w hSw; (try dsimp only at hSw); go_simp; first | done | with_reducible rfl
            (try simp only [Act.put, List.setIfInBounds_toArray, List.set_cons_zero, List.set_cons_succ])
            refine wpAnyH_take (i := 15) (oi := _) (v := ?_) rfl (by kernel_rfl) (by kernel_rfl) (by kernel_rfl) (fun _ _ _ h => h) (Or.inl ⟨by rfl, ?_⟩) (by assumption) ?_
            rotate_left
            · intro w hSw; (try dsimp only at hSw); go_simp; first | done | with_reducible rfl
            (try simp only [Act.put, List.setIfInBounds_toArray, List.set_cons_zero, List.set_cons_succ])
            have hgl1 := S.ba.lt
            have S0 := S.alloc (.cells #[.int .i64 0, .int .i64 0] 24)
            refine wpAnyH_ready (rs := [16]) (by kernel_rfl) (by simp) ?_
            refine AllReadyH.cons (o := _) rfl (fun K hK => ?_) AllReadyH.nil
            go_simp
            refine hK.out _ _ ((two_cells S0.ba).1) (fun hHeld => ?_)
            clear hK K
            (try simp only [Act.put, List.setIfInBounds_toArray, List.set_cons_zero, List.set_cons_succ])
            refine wpAnyH_ready (rs := [17]) (by kernel_rfl) (by simp) ?_
            refine AllReadyH.cons (o := _) rfl (fun K hK => ?_) AllReadyH.nil
            go_simp
            refine hK.out _ _ ((two_cells (S.alloc _).ba).1) (fun hHeld => ?_)
            clear hK K
            (try simp only [Act.put, List.setIfInBounds_toArray, List.set_cons_zero, List.set_cons_succ])
            refine wpAnyH_done (by kernel_rfl) ?_ _
            go_wp2_with fail
            go_meet
            exact ⟨_, _, _, rfl, hgl1, Row.new _ _ _, S.alloc _⟩
          ·
            go_simp
            have hgl1 := S.ba.lt
            have ql := Row.new w' 24 #[.int .i64 0, .int .i64 0]
            replace S := S.alloc (.cells #[.int .i64 0, .int .i64 0] 24)
            refine hK.out _ _ ((two_cells S.ba).1) (fun hHeld => ?_)
            clear hK K
            (try simp only [Act.put, List.setIfInBounds_toArray, List.set_cons_zero, List.set_cons_succ])
            generalize hg7 : w'.heap.size = g7 at *
            refine wpAnyH_ready (rs := [13]) (by kernel_rfl) (by simp) ?_
            refine AllReadyH.cons (o := _) rfl (fun K hK => ?_) AllReadyH.nil
            go_simp
            go_at_call 74
            refine (pick_any w1g (4) 12 _ (by omega) (by omega) (by omega) S.rdr).mono ?_
            rintro e w' ⟨x5, rfl, hax5, hbx5, hR1, hG1⟩
            (try replace ql := ql.kept hG1 (by intro e; injection e with e; omega))
            replace S := S.asked hR1 hG1
            clear hR1 hG1
            go_wp2_with fail
            refine hK.out _ _ ((two_cells S.ba).1) (fun hHeld => ?_)
            clear hK K
            (try simp only [Act.put, List.setIfInBounds_toArray, List.set_cons_zero, List.set_cons_succ])
            refine wpAnyH_take (i := 14) (oi := _) (v := ?_) rfl (by kernel_rfl) (by kernel_rfl) (by kernel_rfl) (fun _ _ _ h => h) (Or.inl ⟨by rfl, ?_⟩) (by assumption) ?_
            rotate_left
            · intro w hSw; (try dsimp only at hSw); go_simp; first | done | with_reducible rfl
            (try simp only [Act.put, List.setIfInBounds_toArray, List.set_cons_zero, List.set_cons_succ])
            refine wpAnyH_take (i := 15) (oi := _) (v := ?_) rfl (by kernel_rfl) (by kernel_rfl) (by kernel_rfl) (fun _ _ _ h => h) (Or.inl ⟨by rfl, ?_⟩) (by assumption) ?_
            rotate_left
            · intro w hSw; (try dsimp only at hSw); go_simp; first | done | with_reducible rfl
            (try simp only [Act.put, List.setIfInBounds_toArray, List.set_cons_zero, List.set_cons_succ])
            obtain ⟨e0, e1, f0, f1⟩ := two_cells ql
            refine wpAnyH_ready (rs := [17]) (by kernel_rfl) (by simp) ?_
            refine AllReadyH.cons (o := _) rfl (fun K hK => ?_) AllReadyH.nil
            go_simp
            have S7 := S.setB hgl1
            refine hK.out _ _ (two_cells (S7 _ _).ba).1 (fun hHeld => ?_)
            clear hK K
            (try simp only [Act.put, List.setIfInBounds_toArray, List.set_cons_zero, List.set_cons_succ])
            refine wpAnyH_done (by kernel_rfl) ?_ _
            have q7 := two_set ql
            clear e0 e1 f0 f1
            go_wp2_with fail
            go_meet
            exact ⟨_, _, _, rfl, hgl1, q7 _ _, (S7 _ _)⟩
      ·
        go_simp
        have hgl1 := S.ba.lt
        have ql := Row.new w' 24 #[.int .i64 0, .int .i64 0]
        replace S := S.alloc (.cells #[.int .i64 0, .int .i64 0] 24)
        refine hK.out _ _ ((two_cells S.ba).1) (fun hHeld => ?_)
        clear hK K
        (try simp only [Act.put, List.setIfInBounds_toArray, List.set_cons_zero, List.set_cons_succ])
        generalize hg7 : w'.heap.size = g7 at *
        refine wpAnyH_ready (rs := [7]) (by kernel_rfl) (by simp) ?_
        refine AllReadyH.cons (o := _) rfl (fun K hK => ?_) AllReadyH.nil
        go_simp
        go_at_call 74
        refine (pick_any w1g (3) 6 _ (by omega) (by omega) (by omega) S.rdr).mono ?_
        rintro e w' ⟨x4, rfl, hax4, hbx4, hR1, hG1⟩
        (try replace ql := ql.kept hG1 (by intro e; injection e with e; omega))
        replace S := S.asked hR1 hG1
        clear hR1 hG1
        go_wp2_with fail
        refine hK.out _ _ ((two_cells S.ba).1) (fun hHeld => ?_)
        clear hK K
        (try simp only [Act.put, List.setIfInBounds_toArray, List.set_cons_zero, List.set_cons_succ])
        refine wpAnyH_take (i := 8) (oi := _) (v := ?_) rfl (by kernel_rfl) (by kernel_rfl) (by kernel_rfl) (fun _ _ _ h => h) (Or.inl ⟨by rfl, ?_⟩) (by assumption) ?_
        rotate_left
        · intro w hSw; (try dsimp only at hSw); go_simp; first | done | with_reducible rfl
        (try simp only [Act.put, List.setIfInBounds_toArray, List.set_cons_zero, List.set_cons_succ])
        refine wpAnyH_take (i := 9) (oi := _) (v := ?_) rfl (by kernel_rfl) (by kernel_rfl) (by kernel_rfl) (fun _ _ _ h => h) (Or.inl ⟨by rfl, ?_⟩) (by assumption) ?_
        rotate_left
        · intro w hSw; (try dsimp only at hSw); go_simp; first | done | with_reducible rfl
        (try simp only [Act.put, List.setIfInBounds_toArray, List.set_cons_zero, List.set_cons_succ])
        refine wpAnyH_take (i := 10) (oi := _) (v := ?_) rfl (by kernel_rfl) (by kernel_rfl) (by kernel_rfl) (fun _ _ _ h => h) (Or.inl ⟨by rfl, ?_⟩) (by assumption) ?_
        rotate_left
        · intro w hSw; (try dsimp only at hSw); go_simp; first | done | with_reducible rfl
        (try simp only [Act.put, List.setIfInBounds_toArray, List.set_cons_zero, List.set_cons_succ])
        generalize IntKind.i64.wrap (IntKind.i64.wrap (20 + x1 * 5 - IntKind.i64.wrap (x3 * 5)) + IntKind.i64.wrap (IntKind.i64.wrap (x4.tdiv 5) * 10)) = E at *
        by_cases hE : E < 0
        all_goals
          refine wpAnyH_take (i := 11) (oi := _) (v := ?_) rfl (by kernel_rfl) (by kernel_rfl) (by kernel_rfl) (fun _ _ _ h => h) (Or.inl ⟨by rfl, ?_⟩) (by assumption) ?_
          rotate_left
          · intro w hSw; (try dsimp only at hSw); go_simp; first | done | with_reducible rfl
          (try simp only [Act.put, List.setIfInBounds_toArray, List.set_cons_zero, List.set_cons_succ])
          refine wpAnyH_ready (rs := [13]) (by kernel_rfl) (by simp) ?_
          refine AllReadyH.cons (o := _) rfl (fun K hK => ?_) AllReadyH.nil
          go_simp
          go_at_call 74
          refine (pick_any w1g (4) 12 _ (by omega) (by omega) (by omega) S.rdr).mono ?_
          rintro e w' ⟨x5, rfl, hax5, hbx5, hR1, hG1⟩
          (try replace ql := ql.kept hG1 (by intro e; injection e with e; omega))
          replace S := S.asked hR1 hG1
          clear hR1 hG1
          go_wp2_with fail
          refine hK.out _ _ ((two_cells S.ba).1) (fun hHeld => ?_)
          clear hK K
          (try simp only [Act.put, List.setIfInBounds_toArray, List.set_cons_zero, List.set_cons_succ])
          refine wpAnyH_take (i := 14) (oi := _) (v := ?_) rfl (by kernel_rfl) (by kernel_rfl) (by kernel_rfl) (fun _ _ _ h => h) (Or.inl ⟨by rfl, ?_⟩) (by assumption) ?_
          rotate_left
          · intro w hSw; (try dsimp only at hSw); go_simp; first | done | with_reducible rfl
          (try simp only [Act.put, List.setIfInBounds_toArray, List.set_cons_zero, List.set_cons_succ])
          refine wpAnyH_take (i := 15) (oi := _) (v := ?_) rfl (by kernel_rfl) (by kernel_rfl) (by kernel_rfl) (fun _ _ _ h => h) (Or.inl ⟨by rfl, ?_⟩) (by assumption) ?_
          rotate_left
          · intro w hSw; (try dsimp only at hSw); go_simp; first | done | with_reducible rfl
          (try simp only [Act.put, List.setIfInBounds_toArray, List.set_cons_zero, List.set_cons_succ])
          obtain ⟨e0, e1, f0, f1⟩ := two_cells ql
          refine wpAnyH_ready (rs := [17]) (by kernel_rfl) (by simp) ?_
          refine AllReadyH.cons (o := _) rfl (fun K hK => ?_) AllReadyH.nil
          go_simp
          have S7 := S.setB hgl1
          refine hK.out _ _ (two_cells (S7 _ _).ba).1 (fun hHeld => ?_)
          clear hK K
          (try simp only [Act.put, List.setIfInBounds_toArray, List.set_cons_zero, List.set_cons_succ])
          refine wpAnyH_done (by kernel_rfl) ?_ _
          have q7 := two_set ql
          clear e0 e1 f0 f1
          go_wp2_with fail
          go_meet
          exact ⟨_, _, _, rfl, hgl1, q7 _ _, (S7 _ _)⟩
    ·
      go_simp
      have hgl1 := Sr.ba.lt
      have ql := (Row.new wA 24 #[.int .i64 0, .int .i64 0]).drew
      replace S := (Sr.alloc (.cells #[.int .i64 0, .int .i64 0] 24)).drewS
      refine hK.out _ _ ((two_cells S.ba).1) (fun hHeld => ?_)
      clear hK K
      (try simp only [Act.put, List.setIfInBounds_toArray, List.set_cons_zero, List.set_cons_succ])
      generalize hg7 : wA.heap.size = g7 at *
      refine wpAnyH_ready (rs := [3]) (by kernel_rfl) (by simp) ?_
      refine AllReadyH.cons (o := _) rfl (fun K hK => ?_) AllReadyH.nil
      go_simp
      go_at_call 74
      refine (pick_any w1g (2) 8 _ (by omega) (by omega) (by omega) S.rdr).mono ?_
      rintro e w' ⟨x3, rfl, hax3, hbx3, hR1, hG1⟩
      (try replace ql := ql.kept hG1 (by intro e; injection e with e; omega))
      replace S := S.asked hR1 hG1
      clear hR1 hG1
      go_wp2_with fail
      refine hK.out _ _ ((two_cells S.ba).1) (fun hHeld => ?_)
      clear hK K
      (try simp only [Act.put, List.setIfInBounds_toArray, List.set_cons_zero, List.set_cons_succ])
      refine wpAnyH_take (i := 4) (oi := _) (v := ?_) rfl (by kernel_rfl) (by kernel_rfl) (by kernel_rfl) (fun _ _ _ h => h) (Or.inl ⟨by rfl, ?_⟩) (by assumption) ?_
      rotate_left
      · intro w hSw; (try dsimp only at hSw); go_simp; first | done | with_reducible rfl
      (try simp only [Act.put, List.setIfInBounds_toArray, List.set_cons_zero, List.set_cons_succ])
      refine wpAnyH_take (i := 5) (oi := _) (v := ?_) rfl (by kernel_rfl) (by kernel_rfl) (by kernel_rfl) (fun _ _ _ h => h) (Or.inl ⟨by rfl, ?_⟩) (by assumption) ?_
      rotate_left
      · intro w hSw; (try dsimp only at hSw); go_simp; first | done | with_reducible rfl
      (try simp only [Act.put, List.setIfInBounds_toArray, List.set_cons_zero, List.set_cons_succ])
      refine wpAnyH_ready (rs := [7]) (by kernel_rfl) (by simp) ?_
      refine AllReadyH.cons (o := _) rfl (fun K hK => ?_) AllReadyH.nil
      go_simp
      go_at_call 74
      refine (pick_any w1g (3) 6 _ (by omega) (by omega) (by omega) S.rdr).mono ?_
      rintro e w' ⟨x4, rfl, hax4, hbx4, hR1, hG1⟩
      (try replace ql := ql.kept hG1 (by intro e; injection e with e; omega))
      replace S := S.asked hR1 hG1
      clear hR1 hG1
      go_wp2_with fail
      refine hK.out _ _ ((two_cells S.ba).1) (fun hHeld => ?_)
      clear hK K
      (try simp only [Act.put, List.setIfInBounds_toArray, List.set_cons_zero, List.set_cons_succ])
      refine wpAnyH_take (i := 8) (oi := _) (v := ?_) rfl (by kernel_rfl) (by kernel_rfl) (by kernel_rfl) (fun _ _ _ h => h) (Or.inl ⟨by rfl, ?_⟩) (by assumption) ?_
      rotate_left
      · intro w hSw; (try dsimp only at hSw); go_simp; first | done | with_reducible rfl
      (try simp only [Act.put, List.setIfInBounds_toArray, List.set_cons_zero, List.set_cons_succ])
      refine wpAnyH_take (i := 9) (oi := _) (v := ?_) rfl (by kernel_rfl) (by kernel_rfl) (by kernel_rfl) (fun _ _ _ h => h) (Or.inl ⟨by rfl, ?_⟩) (by assumption) ?_
      rotate_left
      · intro w hSw; (try dsimp only at hSw); go_simp; first | done | with_reducible rfl
      (try simp only [Act.put, List.setIfInBounds_toArray, List.set_cons_zero, List.set_cons_succ])
      refine wpAnyH_take (i := 10) (oi := _) (v := ?_) rfl (by kernel_rfl) (by kernel_rfl) (by kernel_rfl) (fun _ _ _ h => h) (Or.inl ⟨by rfl, ?_⟩) (by assumption) ?_
      rotate_left
      · intro w hSw; (try dsimp only at hSw); go_simp; first | done | with_reducible rfl
      (try simp only [Act.put, List.setIfInBounds_toArray, List.set_cons_zero, List.set_cons_succ])
      generalize IntKind.i64.wrap (IntKind.i64.wrap (20 + x1 * 5 - IntKind.i64.wrap (x3 * 5)) + IntKind.i64.wrap (IntKind.i64.wrap (x4.tdiv 5) * 10)) = E at *
      by_cases hE : E < 0
      all_goals
        refine wpAnyH_take (i := 11) (oi := _) (v := ?_) rfl (by kernel_rfl) (by kernel_rfl) (by kernel_rfl) (fun _ _ _ h => h) (Or.inl ⟨by rfl, ?_⟩) (by assumption) ?_
        rotate_left
        · intro w hSw; (try dsimp only at hSw); go_simp; first | done | with_reducible rfl
        (try simp only [Act.put, List.setIfInBounds_toArray, List.set_cons_zero, List.set_cons_succ])
        refine wpAnyH_ready (rs := [13]) (by kernel_rfl) (by simp) ?_
        refine AllReadyH.cons (o := _) rfl (fun K hK => ?_) AllReadyH.nil
        go_simp
        go_at_call 74
        refine (pick_any w1g (4) 12 _ (by omega) (by omega) (by omega) S.rdr).mono ?_
        rintro e w' ⟨x5, rfl, hax5, hbx5, hR1, hG1⟩
        (try replace ql := ql.kept hG1 (by intro e; injection e with e; omega))
        replace S := S.asked hR1 hG1
        clear hR1 hG1
        go_wp2_with fail
        refine hK.out _ _ ((two_cells S.ba).1) (fun hHeld => ?_)
        clear hK K
        (try simp only [Act.put, List.setIfInBounds_toArray, List.set_cons_zero, List.set_cons_succ])
        refine wpAnyH_take (i := 14) (oi := _) (v := ?_) rfl (by kernel_rfl) (by kernel_rfl) (by kernel_rfl) (fun _ _ _ h => h) (Or.inl ⟨by rfl, ?_⟩) (by assumption) ?_
        rotate_left
        · intro w hSw; (try dsimp only at hSw); go_simp; first | done | with_reducible rfl
        (try simp only [Act.put, List.setIfInBounds_toArray, List.set_cons_zero, List.set_cons_succ])
        refine wpAnyH_take (i := 15) (oi := _) (v := ?_) rfl (by kernel_rfl) (by kernel_rfl) (by kernel_rfl) (fun _ _ _ h => h) (Or.inl ⟨by rfl, ?_⟩) (by assumption) ?_
        rotate_left
        · intro w hSw; (try dsimp only at hSw); go_simp; first | done | with_reducible rfl
        (try simp only [Act.put, List.setIfInBounds_toArray, List.set_cons_zero, List.set_cons_succ])
        obtain ⟨e0, e1, f0, f1⟩ := two_cells ql
        refine wpAnyH_ready (rs := [17]) (by kernel_rfl) (by simp) ?_
        refine AllReadyH.cons (o := _) rfl (fun K hK => ?_) AllReadyH.nil
        go_simp
        have S7 := S.setB hgl1
        refine hK.out _ _ (two_cells (S7 _ _).ba).1 (fun hHeld => ?_)
        clear hK K
        (try simp only [Act.put, List.setIfInBounds_toArray, List.set_cons_zero, List.set_cons_succ])
        refine wpAnyH_done (by kernel_rfl) ?_ _
        have q7 := two_set ql
        clear e0 e1 f0 f1
        go_wp2_with fail
        go_meet
        exact ⟨_, _, _, rfl, hgl1, q7 _ _, (S7 _ _)⟩
  case rest =>
    obtain ⟨g7, c7, d7, rfl, hg7, q7, S⟩ := hcut
    have hlg := S.lg
    have hlA := S.lA
    (try go_wp2_with fail)
    refine wp_region_held_drew (S := fun w' => w'.cell? ⟨gA, 0, none⟩ = some (.int .i64 (20 + x1 * 5)) ∧ w'.cell? ⟨gA, 1, none⟩ = some (.int .i64 (5 + x2)) ∧ w'.cell? ⟨g7, 0, none⟩ = some (.int .i64 c7) ∧ w'.cell? ⟨g7, 1, none⟩ = some (.int .i64 d7)) (by kernel_rfl) ⟨(two_cells S.ba).1, (two_cells S.ba).2.1, (two_cells q7).1, (two_cells q7).2.1⟩ (fun hHeld => ?_)
    refine wpAnyH_take (i := 0) (oi := _) (v := ?_) rfl (by kernel_rfl) (by kernel_rfl) (by kernel_rfl) (fun _ _ _ h => h) (Or.inl ⟨by rfl, ?_⟩) (by assumption) ?_
    rotate_left
    · intro w hSw; (try dsimp only at hSw); go_simp; first | done | with_reducible rfl
    (try simp only [Act.put, List.setIfInBounds_toArray, List.set_cons_zero, List.set_cons_succ])
    refine wpAnyH_take (i := 1) (oi := _) (v := ?_) rfl (by kernel_rfl) (by kernel_rfl) (by kernel_rfl) (fun _ _ _ h => h) (Or.inl ⟨by rfl, ?_⟩) (by assumption) ?_
    rotate_left
    · intro w hSw; (try dsimp only at hSw); go_simp; first | done | with_reducible rfl
    (try simp only [Act.put, List.setIfInBounds_toArray, List.set_cons_zero, List.set_cons_succ])
    refine wpAnyH_take (i := 2) (oi := _) (v := ?_) rfl (by kernel_rfl) (by kernel_rfl) (by kernel_rfl) (fun _ _ _ h => h) (Or.inl ⟨by rfl, ?_⟩) (by assumption) ?_
    rotate_left
    · intro w hSw; (try dsimp only at hSw); go_simp; first | done | with_reducible rfl
    (try simp only [Act.put, List.setIfInBounds_toArray, List.set_cons_zero, List.set_cons_succ])
    refine wpAnyH_ready (rs := [3]) (by kernel_rfl) (by simp) ?_
    refine AllReadyH.cons (o := _) rfl (fun K hK => ?_) AllReadyH.nil
    go_simp
    go_at_call 80
    refine (jump_any w1g 5 14 wc.drew (by omega) (by omega) (by omega) S.drewS.rdr).mono ?_
    rintro e w8 ⟨j, k, rfl, hj, hk, hR8, hG8⟩
    replace hG8 := grown_trans (show wc.grownBy wc.drew (some w1g) from grown_drewS (grown_self _ _)) hG8
    replace q7 := q7.kept hG8 (by intro e; injection e with e; omega)
    replace S := S.asked hR8 hG8
    clear hR8 hG8
    go_wp2_with fail
    refine hK.out _ _ ⟨(two_cells S.ba).1, (two_cells S.ba).2.1, (two_cells q7).1, (two_cells q7).2.1⟩ (fun hHeld => ?_)
    clear hK K
    (try simp only [Act.put, List.setIfInBounds_toArray, List.set_cons_zero, List.set_cons_succ])
    have a1 := ((S.ba.far (p := ⟨w.heap.size, 0, none⟩) (by simp only; omega) (.int .i64 (20 + x1 * 5))).far (p := ⟨w.heap.size, 1, none⟩) (by simp only; omega) (.int .i64 (5 + x2)))
    have s1 := ((q7.far (p := ⟨w.heap.size, 0, none⟩) (by simp only; omega) (.int .i64 (20 + x1 * 5))).far (p := ⟨w.heap.size, 1, none⟩) (by simp only; omega) (.int .i64 (5 + x2)))
    have p3 := ((S.r3.far (p := ⟨w.heap.size, 0, none⟩) (by simp only; omega) (.int .i64 (20 + x1 * 5))).far (p := ⟨w.heap.size, 1, none⟩) (by simp only; omega) (.int .i64 (5 + x2)))
    have p4 := (((((S.r4.far (p := ⟨w.heap.size, 0, none⟩) (by simp only; omega) (.int .i64 (20 + x1 * 5))).far (p := ⟨w.heap.size, 1, none⟩) (by simp only; omega) (.int .i64 (5 + x2)))).far (p := ⟨w.heap.size + 1, 0, none⟩) (by simp only; omega) (.int .i64 c7)).far (p := ⟨w.heap.size + 1, 1, none⟩) (by simp only; omega) (.int .i64 d7))
    have r2 := two_set S.r2 (.int .i64 (20 + x1 * 5)) (.int .i64 (5 + x2))
    obtain ⟨e0, e1, f0, f1⟩ := two_cells S.r2
    refine wpAnyH_ready (rs := [4]) (by kernel_rfl) (by simp) ?_
    refine AllReadyH.cons (o := _) rfl (fun K hK => ?_) AllReadyH.nil
    go_simp
    refine hK.out _ _ ⟨(two_cells a1).1, (two_cells a1).2.1, (two_cells s1).1, (two_cells s1).2.1⟩ (fun hHeld => ?_)
    clear hK K
    (try simp only [Act.put, List.setIfInBounds_toArray, List.set_cons_zero, List.set_cons_succ])
    obtain ⟨d0, d1, g0, g1⟩ := two_cells p3
    have a2 := ((a1.far (p := ⟨w.heap.size + 1, 0, none⟩) (by simp only; omega) (.int .i64 c7)).far (p := ⟨w.heap.size + 1, 1, none⟩) (by simp only; omega) (.int .i64 d7))
    have s2 := ((s1.far (p := ⟨w.heap.size + 1, 0, none⟩) (by simp only; omega) (.int .i64 c7)).far (p := ⟨w.heap.size + 1, 1, none⟩) (by simp only; omega) (.int .i64 d7))
    refine wpAnyH_ready (rs := [5]) (by kernel_rfl) (by simp) ?_
    refine AllReadyH.cons (o := _) rfl (fun K hK => ?_) AllReadyH.nil
    go_simp
    refine hK.out _ _ ⟨(two_cells a2).1, (two_cells a2).2.1, (two_cells s2).1, (two_cells s2).2.1⟩ (fun hHeld => ?_)
    clear hK K
    (try simp only [Act.put, List.setIfInBounds_toArray, List.set_cons_zero, List.set_cons_succ])
    obtain ⟨h0, h1, i0, i1⟩ := two_cells p4
    have a3 := ((a2.far (p := ⟨w.heap.size + 1 + 1, 0, none⟩) (by simp only; omega) (.int .i64 j)).far (p := ⟨w.heap.size + 1 + 1, 1, none⟩) (by simp only; omega) (.int .i64 k))
    have s3 := ((s2.far (p := ⟨w.heap.size + 1 + 1, 0, none⟩) (by simp only; omega) (.int .i64 j)).far (p := ⟨w.heap.size + 1 + 1, 1, none⟩) (by simp only; omega) (.int .i64 k))
    refine wpAnyH_ready (rs := [6]) (by kernel_rfl) (by simp) ?_
    refine AllReadyH.cons (o := _) rfl (fun K hK => ?_) AllReadyH.nil
    go_simp
    refine hK.out _ _ ⟨(two_cells a3).1, (two_cells a3).2.1, (two_cells s3).1, (two_cells s3).2.1⟩ (fun hHeld => ?_)
    clear hK K
    (try simp only [Act.put, List.setIfInBounds_toArray, List.set_cons_zero, List.set_cons_succ])
    refine wpAnyH_done (by kernel_rfl) ?_ _
    have t2 := ((((r2.far (p := ⟨w.heap.size + 1, 0, none⟩) (by simp only; omega) (.int .i64 c7)).far (p := ⟨w.heap.size + 1, 1, none⟩) (by simp only; omega) (.int .i64 d7)).far (p := ⟨w.heap.size + 1 + 1, 0, none⟩) (by simp only; omega) (.int .i64 j)).far (p := ⟨w.heap.size + 1 + 1, 1, none⟩) (by simp only; omega) (.int .i64 k))
    have t3 := (((two_set p3 (.int .i64 c7) (.int .i64 d7)).far (p := ⟨w.heap.size + 1 + 1, 0, none⟩) (by simp only; omega) (.int .i64 j)).far (p := ⟨w.heap.size + 1 + 1, 1, none⟩) (by simp only; omega) (.int .i64 k))
    have t4 := two_set p4 (.int .i64 j) (.int .i64 k)
    obtain ⟨k0, k1, _, _⟩ := two_cells t2
    obtain ⟨k2, k3, _, _⟩ := two_cells t3
    obtain ⟨k4, k5, _, _⟩ := two_cells t4
    have hb := (((((S.low.setCell (p := ⟨w.heap.size, 0, none⟩) (by simp only; omega) (.int .i64 (20 + x1 * 5))).setCell (p := ⟨w.heap.size, 1, none⟩) (by simp only; omega) (.int .i64 (5 + x2))).setCell (p := ⟨w.heap.size + 1, 0, none⟩) (by simp only; omega) (.int .i64 c7)).setCell (p := ⟨w.heap.size + 1, 1, none⟩) (by simp only; omega) (.int .i64 d7)).setCell (p := ⟨w.heap.size + 1 + 1, 0, none⟩) (by simp only; omega) (.int .i64 j)).setCell (p := ⟨w.heap.size + 1 + 1, 1, none⟩) (by simp only; omega) (.int .i64 k)
    clear e0 e1 f0 f1 d0 d1 g0 g1 h0 h1 i0 i1 hHeld
    go_wp2
    refine bodyPost_ret (by simp [results, Tryd.results35, go_sem, k0, k1, k2, k3, k4, k5]; try rfl) rfl ?_
    exact ⟨_, _, _, _, _, _, rfl, hb⟩
end Go.Proofs.YtcdoopccmljaoaaDoor
