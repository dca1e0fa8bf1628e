/- What is drawn from a code: rows of slabs. No conditions but bounds on how often the reader was asked. -/
import Derived.Test.YtcdoopccmljaoaaDoorDraw2
import Derived.Test.YtcdoopccmljaoaaDoorSplitBest
namespace Go.Proofs.YtcdoopccmljaoaaDoor
open Go.ChangeShapes Go.WideShapes Go.ChangeAt Go.RowKit Go.Deep
/-- A row of slabs of the call's own, drawn. -/
def ChargesOk (w : World) (g k : Nat) (e : Ending) (w' : World) : Prop :=
  ∃ (A : Option Addr) (c : Nat) (zs : List (Int × Int)), e = .returned (.slice A zs.length c) ∧ zs.length ≤ 11 ∧ Own w' w.heap.size 89 A (sc zs) ∧ DrawnTo w w' g k
theorem chargesOk_of {w w' : World} {g k : Nat} {v : Value} {zs : List (Int × Int)} (h : w'.ownsRow w.heap.size 89 2 v zs.length (sc zs)) (hl : zs.length ≤ 11) (hd : DrawnTo w w' g k) : ChargesOk w g k (.returned v) w' := by
  obtain ⟨A, c, rfl, ho, _⟩ := own_room2 h
  exact ⟨A, c, zs, rfl, hl, ho, hd⟩
set_option linter.unusedSimpArgs false in
set_option linter.unusedVariables false in
set_option maxHeartbeats 4000000 in
set_option maxRecDepth 100000 in
theorem charges_any (g k : Nat) (n : Int) (w : World) (hn : 0 ≤ n) (hn1 : n ≤ 1048576) (hk : k ≤ 1048000) (hR : Rdr w g k) :
    Calls Tryd.prog 92 #[.pointer (some ⟨g, 0, none⟩), .int .i64 6, .int .i64 n] w (ChargesOk w g (k + 40)) := by
  have hgl := hR.lt
  go_enter Tryd.func92, Tryd.ntmps92
  go_wp2_with fail
  have o0 := own_empty (e := 89) (size := 2) w w.heap.size (Nat.le_refl _)
  have HR := hide (hR.alloc (.cells #[] 89))
  have HG := hide (grown_of (show Below w.heap.size w (w.alloc (.cells #[] 89)) by go_grown) (some g))
  clear hR
  generalize hv0 : (Value.slice (some ⟨w.heap.size, 0, none⟩) 0 0) = v0 at *
  generalize w.alloc (.cells #[] 89) = w0 at *
  refine (pick_any _ _ _ _ (by omega) (by omega) (by omega) HR.out).mono ?_
  rintro e w1 ⟨x, rfl, hax, hbx, hR', hG'⟩
  have o1 := owns_grown o0 hG' (fun b hb e => by injection e with e; have := (o0.lt b hb).1; omega)
  replace HR := hide hR'
  replace HG := hide (grown_trans HG.out hG')
  clear hR' hG' o0 hv0
  go_wp2_with fail
  go_loopw [7, 8, 9] (fun v t i wr => ∃ (m : Nat) (zs : List (Int × Int)) (at' : Int), i = .int .i64 m ∧ t = .int .i64 at' ∧ 0 ≤ at' ∧ at' ≤ 11 * (zs.length : Int) ∧ zs.length + m ≤ 6 ∧ wr.ownsRow w.heap.size 89 2 v zs.length (sc zs) ∧ Rdr wr g (k + 1 + 3 * zs.length) ∧ w.grownBy wr (some g)) (fun _ _ i _ => (intOf i).toNat)
  case atStart => exact ⟨x.toNat, [], 0, by rw [Int.toNat_of_nonneg hax], rfl, by omega, by simp, by simp; omega, o1, HR.out, HG.out⟩
  case round =>
    clear HR HG o1
    obtain ⟨m, zs, t, rfl, rfl, ht0, ht1, hzm, hown, hR, hG⟩ := hrel
    have HR := hide hR
    have HG := hide hG
    clear hR hG
    by_cases hm : 0 < m
    · go_wp2_with fail
      refine (pick_any _ _ _ _ (by omega) (by omega) (by omega) HR.out).mono ?_
      rintro e w2 ⟨x1, rfl, ha1, hb1, hR', hG'⟩
      replace hown := owns_grown hown hG' (fun b hb e => by injection e with e; have := (hown.lt b hb).1; omega)
      replace HR := hide hR'
      replace HG := hide (grown_trans HG.out hG')
      clear hR' hG'
      go_wp2_with fail
      refine (pick_any _ _ _ _ (by omega) (by omega) (by omega) HR.out).mono ?_
      rintro e w3 ⟨x2, rfl, ha2, hb2, hR', hG'⟩
      replace hown := owns_grown hown hG' (fun b hb e => by injection e with e; have := (hown.lt b hb).1; omega)
      replace HR := hide hR'
      replace HG := hide (grown_trans HG.out hG')
      clear hR' hG'
      obtain ⟨mx, hmx⟩ : ∃ mx, max (t + x1 - x2) 0 = mx := ⟨_, rfl⟩
      go_wp2_with fail
      refine (pick_any _ _ _ _ (by omega) (by omega) (by omega) HR.out).mono ?_
      rintro e w5 ⟨x3, rfl, ha3, hb3, hR', hG'⟩
      replace hown := owns_grown hown hG' (fun b hb e => by injection e with e; have := (hown.lt b hb).1; omega)
      replace HR := hide hR'
      replace HG := hide (grown_trans HG.out hG')
      clear hR' hG'
      have hz3 := HG.out.size
      go_wp2_with (at_builtin; refine wpList_append_any chargeElem rfl _ _ rfl w.heap.size (w5.heap.size + 1) _ zs.length (sc zs) rfl (hown.alloc _) (some ⟨w5.heap.size, 0, none⟩) 1 1 rfl (sc [(mx, 1 + x3)]) rfl (((Row.new w5 89 #[.int .i64 mx, .int .i64 (1 + x3)]).rd).mono (by simp)) (fun h => by cases h) (sc_one _) (by omega) (by omega) (by simp; omega) ?_; intro v' w4 hap; have HA := hide hap; clear hap)
      go_roundw
      case rel =>
        obtain ⟨ho, hg, _⟩ := HA.out
        have hg0 := grown_trans HG.out (grown_of (show Below w5.heap.size w5 (w5.alloc (.cells #[.int .i64 mx, .int .i64 (1 + x3)] 89)) by go_grown) (some g))
        refine ⟨m - 1, zs ++ [(mx, 1 + x3)], t + x1, by go_num, by go_num, by omega, by simp; omega, by simp; omega, by simpa [sc] using ho, ?_, ?_⟩
        · exact (((HR.out.alloc _).kept hg fun b hb => by have := (hown.lt b hb).1; omega)).more (by simp; omega)
        · exact grown_own hg0 hg fun b hb => (hown.lt b hb).1
      case measure => simp [intOf]; omega
    · obtain ⟨L, d, rfl, _, hld, hdm, hLn⟩ := own_room2 hown
      go_wp2_with fail
      refine (odd_any g _ n _ hn hn1 (by omega) HR.out).mono ?_
      rintro e w2 ⟨b, rfl, hR', hG'⟩
      replace hown := owns_grown hown hG' (fun b hb e => by injection e with e; have := (hown.lt b hb).1; omega)
      replace HR := hide hR'
      replace HG := hide (grown_trans HG.out hG')
      clear hR' hG'
      cases b
      · go_wp2
        go_ret
        exact chargesOk_of hown (by omega) ⟨HR.out.more (by omega), HG.out⟩
      · go_wp2_with fail
        refine (pick_any _ _ _ _ (by omega) (by omega) (by omega) HR.out).mono ?_
        rintro e w3 ⟨x1, rfl, ha1, hb1, hR', hG'⟩
        replace hown := owns_grown hown hG' (fun b hb e => by injection e with e; have := (hown.lt b hb).1; omega)
        replace HR := hide hR'
        replace HG := hide (grown_trans HG.out hG')
        clear hR' hG'
        have hz3 := HG.out.size
        obtain rfl | rfl | rfl : x1 = 0 ∨ x1 = 1 ∨ x1 = 2 := by omega
        · have hmk : ∀ W : World, (Instr.makeSlice 63 (.int .i64 9) (.int .i64 9)).run Tryd.prog W = .ok (.slice (some ⟨W.heap.size, 0, none⟩) 9 9) (W.alloc (.cells (madeCells #[.int .i64 0, .int .i64 0] 18) 89)) := by
            intro W
            obtain ⟨i0, hi, hz0, hz1, hz2⟩ := info_parts chargeInfo
            have hr := run_make (P := Tryd.prog) W 63 89 i0 (.agg #[.int .i64 0, .int .i64 0]) Tryd.underlying63 hi hz0 .i64 .i64 9 9 (by omega) (by omega) (by rw [hz2]; omega) (by omega)
            rw [hz1] at hr
            exact hr
          go_wp2
          go_ret
          have oM := own_full (e := 89) (size := 2) w3 w.heap.size 9 (madeCells #[.int .i64 0, .int .i64 0] 18) hz3 (by simp [maxLen]) (by simp [madeCells])
          rw [show (18 : Nat) = 9 * 2 from rfl, madePairs 9] at oM
          exact chargesOk_of (zs := List.replicate 9 (0, 0)) oM (by simp) ⟨(HR.out.alloc _).more (by omega), grown_trans HG.out (grown_of (show Below w3.heap.size w3 (w3.alloc _) by go_grown) (some g))⟩
        ·
          have HT := hide (fun (W : World) (h : w3.grownBy W (some g)) => (Own.of_row hown).rd.kept (Nat.le_refl _) h fun b o s e => by subst e; intro e; injection e with e; have := (hown.lt b rfl).1; omega)
          have HR5 := hide (HR.out.more (show _ ≤ k + 28 by omega))
          have hG0 := grown_self w3 (some g)
          by_cases hz : zs.length = 0
          · obtain rfl := List.eq_nil_of_length_eq_zero hz
            have hmin : min (1 : Int) 0 = 0 := rfl
            clear HT
            cases L
            ·
              go_wp2
              refine wp_region_held_drew (S := fun _ => True) (by kernel_rfl) trivial (fun _ => ?_)
              refine wpAnyH_take (i := 1) (oi := _) (v := ?_) rfl (by kernel_rfl) (by kernel_rfl) (by kernel_rfl) (fun _ _ _ h => h) (Or.inl ⟨by rfl, ?_⟩) trivial ?_
              rotate_left
              · intro w hSw; clear hSw; go_simp; first | done | with_reducible rfl
              (try simp only [Act.put, List.setIfInBounds_toArray, List.set_cons_zero, List.set_cons_succ])
              refine wpAnyH_take (i := 7) (oi := _) (v := ?_) rfl (by kernel_rfl) (by kernel_rfl) (by kernel_rfl) (fun _ _ _ h => h) (Or.inl ⟨by rfl, ?_⟩) trivial ?_
              rotate_left
              · intro w hSw; clear hSw; go_simp; first | done | with_reducible rfl
              (try simp only [Act.put, List.setIfInBounds_toArray, List.set_cons_zero, List.set_cons_succ])
              refine wpAnyH_take (i := 8) (oi := _) (v := ?_) rfl (by kernel_rfl) (by kernel_rfl) (by kernel_rfl) (fun _ _ _ h => h) (Or.inl ⟨by rfl, ?_⟩) trivial ?_
              rotate_left
              · intro w hSw; clear hSw; go_simp; first | done | with_reducible rfl
              (try simp only [Act.put, List.setIfInBounds_toArray, List.set_cons_zero, List.set_cons_succ])
              refine wpAnyH_take (i := 9) (oi := _) (v := ?_) rfl (by kernel_rfl) (by kernel_rfl) (by kernel_rfl) (fun _ _ _ h => h) (Or.inl ⟨by rfl, ?_⟩) trivial ?_
              rotate_left
              · intro w hSw; clear hSw; go_simp; first | done | with_reducible rfl
              (try simp only [Act.put, List.setIfInBounds_toArray, List.set_cons_zero, List.set_cons_succ])
              refine wpAnyH_take (i := 10) (oi := _) (v := ?_) rfl (by kernel_rfl) (by kernel_rfl) (by kernel_rfl) (fun _ _ _ h => h) (Or.inl ⟨by rfl, ?_⟩) trivial ?_
              rotate_left
              · intro w hSw; clear hSw; go_simp; first | done | with_reducible rfl
              (try simp only [Act.put, List.setIfInBounds_toArray, List.set_cons_zero, List.set_cons_succ])
              refine wpAnyH_take (i := 11) (oi := _) (v := ?_) rfl (by kernel_rfl) (by kernel_rfl) (by kernel_rfl) (fun _ _ _ h => h) (Or.inl ⟨by rfl, ?_⟩) trivial ?_
              rotate_left
              · intro w hSw; clear hSw; go_simp; first | done | with_reducible rfl
              (try simp only [Act.put, List.setIfInBounds_toArray, List.set_cons_zero, List.set_cons_succ])
              refine wpAnyH_ready (rs := [0, 2]) (by kernel_rfl) (by simp) ?_
              refine AllReadyH.cons (o := _) rfl (fun K hK => ?_) (AllReadyH.cons (o := _) rfl (fun K hK => ?_) AllReadyH.nil)
              · go_simp
                refine hK.out _ _ trivial (fun _ => ?_)
                clear hK K
                (try simp only [Act.put, List.setIfInBounds_toArray, List.set_cons_zero, List.set_cons_succ])
                refine wpAnyH_ready (rs := [2]) (by kernel_rfl) (by simp) ?_
                refine AllReadyH.cons (o := _) rfl (fun K hK => ?_) AllReadyH.nil
                go_simp
                go_at_call 74
                refine (pick_any g (k + 28) 2 _ (by omega) (by omega) (by omega) (by first | exact HR5.out | exact HR5.out.drew | exact (HR5.out.alloc _).drew | exact HR5.out.alloc _ | exact HR5.out.drew.alloc _)).mono ?_
                rintro e w' ⟨x, rfl, hx0, hx1, hR', hG'⟩
                (first | (have hcx := two_old x hx0 hx1 (by omega) hG') | (have hcn := fun W : World => two_new W 3 (-1) 1000 x hx0 hx1))
                have HR6 := hide hR'
                clear hR'
                replace hG' := grown_trans (show w3.grownBy _ (some g) by repeat (first | assumption | apply grown_drewS | apply grown_allocS)) hG'
                go_wp2_with fail
                refine hK.out _ _ trivial (fun _ => ?_)
                clear hK K
                (try simp only [Act.put, List.setIfInBounds_toArray, List.set_cons_zero, List.set_cons_succ])
                refine wpAnyH_take (i := 3) (oi := _) (v := ?_) rfl (by kernel_rfl) (by kernel_rfl) (by kernel_rfl) (fun _ _ _ h => h) (Or.inl ⟨by rfl, ?_⟩) trivial ?_
                rotate_left
                · intro w hSw; clear hSw; go_simp; first | done | with_reducible rfl
                (try simp only [Act.put, List.setIfInBounds_toArray, List.set_cons_zero, List.set_cons_succ])
                refine wpAnyH_ready (rs := [4]) (by kernel_rfl) (by simp) ?_
                refine AllReadyH.cons (o := _) rfl (fun K hK => ?_) AllReadyH.nil
                go_simp
                refine hK.out _ _ trivial (fun _ => ?_)
                clear hK K
                (try simp only [Act.put, List.setIfInBounds_toArray, List.set_cons_zero, List.set_cons_succ])
                refine wpAnyH_take (i := 5) (oi := _) (v := ?_) rfl (by kernel_rfl) (by kernel_rfl) (by kernel_rfl) (fun _ _ _ h => h) (Or.inl ⟨by rfl, ?_⟩) trivial ?_
                rotate_left
                · intro w hSw; clear hSw; go_simp; first | done | with_reducible rfl
                (try simp only [Act.put, List.setIfInBounds_toArray, List.set_cons_zero, List.set_cons_succ])
                refine wpAnyH_ready (rs := [6]) (by kernel_rfl) (by simp) ?_
                refine AllReadyH.cons (o := _) rfl (fun K hK => ?_) AllReadyH.nil
                go_simp
                refine hK.out _ _ trivial (fun _ => ?_)
                clear hK K
                (try simp only [Act.put, List.setIfInBounds_toArray, List.set_cons_zero, List.set_cons_succ])
                have hO := own_full (e := 89) (size := 2) (w') w.heap.size 1 #[.int .i64 (oneOf (-1) 1000 x), .int .i64 (1)] (by have := hG'.size; simp; omega) (by simp [maxLen]) rfl
                try rw [World.size_alloc] at hO
                refine wpAnyH_ready (rs := [12]) (by kernel_rfl) (by simp) ?_
                refine AllReadyH.cons (o := _) rfl (fun K hK => ?_) AllReadyH.nil
                refine step_append_any chargeElem rfl _ _ rfl w.heap.size 0 _ 1 (sc [(oneOf (-1) 1000 x, 1)]) rfl hO _ 0 _ rfl [] rfl (.inl rfl) (fun _ => rfl) (fun _ h => by cases h) (by omega) (by omega) (by have := hG'.size; simp; omega) ?_
                intro v' w4 hap
                have HA := hide hap
                clear hap
                refine hK.out _ _ trivial (fun _ => ?_)
                clear hK K
                (try simp only [Act.put, List.setIfInBounds_toArray, List.set_cons_zero, List.set_cons_succ])
                refine wpAnyH_ready (rs := [13]) (by kernel_rfl) (by simp) ?_
                refine AllReadyH.cons (o := _) rfl (fun K hK => ?_) AllReadyH.nil
                go_simp
                refine hK.out _ _ trivial (fun _ => ?_)
                clear hK K
                (try simp only [Act.put, List.setIfInBounds_toArray, List.set_cons_zero, List.set_cons_succ])
                refine wpAnyH_done (by kernel_rfl) ?_ _
                go_wp2
                go_ret
                obtain ⟨ho, hg, _⟩ := HA.out
                exact chargesOk_of (zs := (oneOf (-1) 1000 x, 1) :: []) (by first | exact ho | (rw [show ((oneOf (-1) 1000 x, 1) :: []).length = 1 + 0 by simp; omega]; exact ho)) (by simp; try omega) ⟨((HR6.out.alloc _).kept hg fun b hb => by have := (hO.lt b hb).1; omega).more (by omega), grown_own (grown_trans HG.out (show w3.grownBy _ (some g) by repeat (first | assumption | apply grown_drewS | apply grown_allocS))) hg fun b hb => by have := (hO.lt b hb).1; omega⟩
              ·
                go_simp
                go_at_call 74
                refine (pick_any g (k + 28) 2 _ (by omega) (by omega) (by omega) (by first | exact HR5.out | exact HR5.out.drew | exact (HR5.out.alloc _).drew | exact HR5.out.alloc _ | exact HR5.out.drew.alloc _)).mono ?_
                rintro e w' ⟨x, rfl, hx0, hx1, hR', hG'⟩
                (first | (have hcx := two_old x hx0 hx1 (by omega) hG') | (have hcn := fun W : World => two_new W 3 (-1) 1000 x hx0 hx1))
                have HR6 := hide hR'
                clear hR'
                replace hG' := grown_trans (show w3.grownBy _ (some g) by repeat (first | assumption | apply grown_drewS | apply grown_allocS)) hG'
                go_wp2_with fail
                refine hK.out _ _ trivial (fun _ => ?_)
                clear hK K
                (try simp only [Act.put, List.setIfInBounds_toArray, List.set_cons_zero, List.set_cons_succ])
                refine wpAnyH_ready (rs := [0]) (by kernel_rfl) (by simp) ?_
                refine AllReadyH.cons (o := _) rfl (fun K hK => ?_) AllReadyH.nil
                go_simp
                refine hK.out _ _ trivial (fun _ => ?_)
                clear hK K
                (try simp only [Act.put, List.setIfInBounds_toArray, List.set_cons_zero, List.set_cons_succ])
                refine wpAnyH_take (i := 3) (oi := _) (v := ?_) rfl (by kernel_rfl) (by kernel_rfl) (by kernel_rfl) (fun _ _ _ h => h) (Or.inl ⟨by rfl, ?_⟩) trivial ?_
                rotate_left
                · intro w hSw; clear hSw; go_simp; first | done | with_reducible rfl
                (try simp only [Act.put, List.setIfInBounds_toArray, List.set_cons_zero, List.set_cons_succ])
                refine wpAnyH_ready (rs := [4]) (by kernel_rfl) (by simp) ?_
                refine AllReadyH.cons (o := _) rfl (fun K hK => ?_) AllReadyH.nil
                go_simp
                refine hK.out _ _ trivial (fun _ => ?_)
                clear hK K
                (try simp only [Act.put, List.setIfInBounds_toArray, List.set_cons_zero, List.set_cons_succ])
                refine wpAnyH_take (i := 5) (oi := _) (v := ?_) rfl (by kernel_rfl) (by kernel_rfl) (by kernel_rfl) (fun _ _ _ h => h) (Or.inl ⟨by rfl, ?_⟩) trivial ?_
                rotate_left
                · intro w hSw; clear hSw; go_simp; first | done | with_reducible rfl
                (try simp only [Act.put, List.setIfInBounds_toArray, List.set_cons_zero, List.set_cons_succ])
                refine wpAnyH_ready (rs := [6]) (by kernel_rfl) (by simp) ?_
                refine AllReadyH.cons (o := _) rfl (fun K hK => ?_) AllReadyH.nil
                go_simp
                refine hK.out _ _ trivial (fun _ => ?_)
                clear hK K
                (try simp only [Act.put, List.setIfInBounds_toArray, List.set_cons_zero, List.set_cons_succ])
                have hO := own_full (e := 89) (size := 2) (w'.alloc (.cells #[.int .i64 (-1), .int .i64 1000] 3)) w.heap.size 1 #[.int .i64 (oneOf (-1) 1000 x), .int .i64 (1)] (by have := hG'.size; simp; omega) (by simp [maxLen]) rfl
                try rw [World.size_alloc] at hO
                refine wpAnyH_ready (rs := [12]) (by kernel_rfl) (by simp) ?_
                refine AllReadyH.cons (o := _) rfl (fun K hK => ?_) AllReadyH.nil
                refine step_append_any chargeElem rfl _ _ rfl w.heap.size 0 _ 1 (sc [(oneOf (-1) 1000 x, 1)]) rfl hO _ 0 _ rfl [] rfl (.inl rfl) (fun _ => rfl) (fun _ h => by cases h) (by omega) (by omega) (by have := hG'.size; simp; omega) ?_
                intro v' w4 hap
                have HA := hide hap
                clear hap
                refine hK.out _ _ trivial (fun _ => ?_)
                clear hK K
                (try simp only [Act.put, List.setIfInBounds_toArray, List.set_cons_zero, List.set_cons_succ])
                refine wpAnyH_ready (rs := [13]) (by kernel_rfl) (by simp) ?_
                refine AllReadyH.cons (o := _) rfl (fun K hK => ?_) AllReadyH.nil
                go_simp
                refine hK.out _ _ trivial (fun _ => ?_)
                clear hK K
                (try simp only [Act.put, List.setIfInBounds_toArray, List.set_cons_zero, List.set_cons_succ])
                refine wpAnyH_done (by kernel_rfl) ?_ _
                go_wp2
                go_ret
                obtain ⟨ho, hg, _⟩ := HA.out
                exact chargesOk_of (zs := (oneOf (-1) 1000 x, 1) :: []) (by first | exact ho | (rw [show ((oneOf (-1) 1000 x, 1) :: []).length = 1 + 0 by simp; omega]; exact ho)) (by simp; try omega) ⟨(((HR6.out.alloc _).alloc _).kept hg fun b hb => by have := (hO.lt b hb).1; omega).more (by omega), grown_own (grown_trans HG.out (show w3.grownBy _ (some g) by repeat (first | assumption | apply grown_drewS | apply grown_allocS))) hg fun b hb => by have := (hO.lt b hb).1; omega⟩
            ·
              go_wp2
              refine wp_region_held_drew (S := fun _ => True) (by kernel_rfl) trivial (fun _ => ?_)
              refine wpAnyH_take (i := 1) (oi := _) (v := ?_) rfl (by kernel_rfl) (by kernel_rfl) (by kernel_rfl) (fun _ _ _ h => h) (Or.inl ⟨by rfl, ?_⟩) trivial ?_
              rotate_left
              · intro w hSw; clear hSw; go_simp; first | done | with_reducible rfl
              (try simp only [Act.put, List.setIfInBounds_toArray, List.set_cons_zero, List.set_cons_succ])
              refine wpAnyH_take (i := 7) (oi := _) (v := ?_) rfl (by kernel_rfl) (by kernel_rfl) (by kernel_rfl) (fun _ _ _ h => h) (Or.inl ⟨by rfl, ?_⟩) trivial ?_
              rotate_left
              · intro w hSw; clear hSw; go_simp; first | done | with_reducible rfl
              (try simp only [Act.put, List.setIfInBounds_toArray, List.set_cons_zero, List.set_cons_succ])
              refine wpAnyH_take (i := 8) (oi := _) (v := ?_) rfl (by kernel_rfl) (by kernel_rfl) (by kernel_rfl) (fun _ _ _ h => h) (Or.inl ⟨by rfl, ?_⟩) trivial ?_
              rotate_left
              · intro w hSw; clear hSw; go_simp; first | done | with_reducible rfl
              (try simp only [Act.put, List.setIfInBounds_toArray, List.set_cons_zero, List.set_cons_succ])
              refine wpAnyH_take (i := 9) (oi := _) (v := ?_) rfl (by kernel_rfl) (by kernel_rfl) (by kernel_rfl) (fun _ _ _ h => h) (Or.inl ⟨by rfl, ?_⟩) trivial ?_
              rotate_left
              · intro w hSw; clear hSw; go_simp; first | done | with_reducible rfl
              (try simp only [Act.put, List.setIfInBounds_toArray, List.set_cons_zero, List.set_cons_succ])
              refine wpAnyH_take (i := 10) (oi := _) (v := ?_) rfl (by kernel_rfl) (by kernel_rfl) (by kernel_rfl) (fun _ _ _ h => h) (Or.inl ⟨by rfl, ?_⟩) trivial ?_
              rotate_left
              · intro w hSw; clear hSw; go_simp; first | done | with_reducible rfl
              (try simp only [Act.put, List.setIfInBounds_toArray, List.set_cons_zero, List.set_cons_succ])
              refine wpAnyH_take (i := 11) (oi := _) (v := ?_) rfl (by kernel_rfl) (by kernel_rfl) (by kernel_rfl) (fun _ _ _ h => h) (Or.inl ⟨by rfl, ?_⟩) trivial ?_
              rotate_left
              · intro w hSw; clear hSw; go_simp; first | done | with_reducible rfl
              (try simp only [Act.put, List.setIfInBounds_toArray, List.set_cons_zero, List.set_cons_succ])
              refine wpAnyH_ready (rs := [0, 2]) (by kernel_rfl) (by simp) ?_
              refine AllReadyH.cons (o := _) rfl (fun K hK => ?_) (AllReadyH.cons (o := _) rfl (fun K hK => ?_) AllReadyH.nil)
              · go_simp
                refine hK.out _ _ trivial (fun _ => ?_)
                clear hK K
                (try simp only [Act.put, List.setIfInBounds_toArray, List.set_cons_zero, List.set_cons_succ])
                refine wpAnyH_ready (rs := [2]) (by kernel_rfl) (by simp) ?_
                refine AllReadyH.cons (o := _) rfl (fun K hK => ?_) AllReadyH.nil
                go_simp
                go_at_call 74
                refine (pick_any g (k + 28) 2 _ (by omega) (by omega) (by omega) (by first | exact HR5.out | exact HR5.out.drew | exact (HR5.out.alloc _).drew | exact HR5.out.alloc _ | exact HR5.out.drew.alloc _)).mono ?_
                rintro e w' ⟨x, rfl, hx0, hx1, hR', hG'⟩
                (first | (have hcx := two_old x hx0 hx1 (by omega) hG') | (have hcn := fun W : World => two_new W 3 (-1) 1000 x hx0 hx1))
                have HR6 := hide hR'
                clear hR'
                replace hG' := grown_trans (show w3.grownBy _ (some g) by repeat (first | assumption | apply grown_drewS | apply grown_allocS)) hG'
                go_wp2_with fail
                refine hK.out _ _ trivial (fun _ => ?_)
                clear hK K
                (try simp only [Act.put, List.setIfInBounds_toArray, List.set_cons_zero, List.set_cons_succ])
                refine wpAnyH_take (i := 3) (oi := _) (v := ?_) rfl (by kernel_rfl) (by kernel_rfl) (by kernel_rfl) (fun _ _ _ h => h) (Or.inl ⟨by rfl, ?_⟩) trivial ?_
                rotate_left
                · intro w hSw; clear hSw; go_simp; first | done | with_reducible rfl
                (try simp only [Act.put, List.setIfInBounds_toArray, List.set_cons_zero, List.set_cons_succ])
                refine wpAnyH_ready (rs := [4]) (by kernel_rfl) (by simp) ?_
                refine AllReadyH.cons (o := _) rfl (fun K hK => ?_) AllReadyH.nil
                go_simp
                refine hK.out _ _ trivial (fun _ => ?_)
                clear hK K
                (try simp only [Act.put, List.setIfInBounds_toArray, List.set_cons_zero, List.set_cons_succ])
                refine wpAnyH_take (i := 5) (oi := _) (v := ?_) rfl (by kernel_rfl) (by kernel_rfl) (by kernel_rfl) (fun _ _ _ h => h) (Or.inl ⟨by rfl, ?_⟩) trivial ?_
                rotate_left
                · intro w hSw; clear hSw; go_simp; first | done | with_reducible rfl
                (try simp only [Act.put, List.setIfInBounds_toArray, List.set_cons_zero, List.set_cons_succ])
                refine wpAnyH_ready (rs := [6]) (by kernel_rfl) (by simp) ?_
                refine AllReadyH.cons (o := _) rfl (fun K hK => ?_) AllReadyH.nil
                go_simp
                refine hK.out _ _ trivial (fun _ => ?_)
                clear hK K
                (try simp only [Act.put, List.setIfInBounds_toArray, List.set_cons_zero, List.set_cons_succ])
                have hO := own_full (e := 89) (size := 2) (w') w.heap.size 1 #[.int .i64 (oneOf (-1) 1000 x), .int .i64 (1)] (by have := hG'.size; simp; omega) (by simp [maxLen]) rfl
                try rw [World.size_alloc] at hO
                refine wpAnyH_ready (rs := [12]) (by kernel_rfl) (by simp) ?_
                refine AllReadyH.cons (o := _) rfl (fun K hK => ?_) AllReadyH.nil
                refine step_append_any chargeElem rfl _ _ rfl w.heap.size 0 _ 1 (sc [(oneOf (-1) 1000 x, 1)]) rfl hO _ 0 _ rfl [] rfl (.inl rfl) (fun _ => rfl) (fun _ h => by cases h) (by omega) (by omega) (by have := hG'.size; simp; omega) ?_
                intro v' w4 hap
                have HA := hide hap
                clear hap
                refine hK.out _ _ trivial (fun _ => ?_)
                clear hK K
                (try simp only [Act.put, List.setIfInBounds_toArray, List.set_cons_zero, List.set_cons_succ])
                refine wpAnyH_ready (rs := [13]) (by kernel_rfl) (by simp) ?_
                refine AllReadyH.cons (o := _) rfl (fun K hK => ?_) AllReadyH.nil
                go_simp
                refine hK.out _ _ trivial (fun _ => ?_)
                clear hK K
                (try simp only [Act.put, List.setIfInBounds_toArray, List.set_cons_zero, List.set_cons_succ])
                refine wpAnyH_done (by kernel_rfl) ?_ _
                go_wp2
                go_ret
                obtain ⟨ho, hg, _⟩ := HA.out
                exact chargesOk_of (zs := (oneOf (-1) 1000 x, 1) :: []) (by first | exact ho | (rw [show ((oneOf (-1) 1000 x, 1) :: []).length = 1 + 0 by simp; omega]; exact ho)) (by simp; try omega) ⟨((HR6.out.alloc _).kept hg fun b hb => by have := (hO.lt b hb).1; omega).more (by omega), grown_own (grown_trans HG.out (show w3.grownBy _ (some g) by repeat (first | assumption | apply grown_drewS | apply grown_allocS))) hg fun b hb => by have := (hO.lt b hb).1; omega⟩
              ·
                go_simp
                go_at_call 74
                refine (pick_any g (k + 28) 2 _ (by omega) (by omega) (by omega) (by first | exact HR5.out | exact HR5.out.drew | exact (HR5.out.alloc _).drew | exact HR5.out.alloc _ | exact HR5.out.drew.alloc _)).mono ?_
                rintro e w' ⟨x, rfl, hx0, hx1, hR', hG'⟩
                (first | (have hcx := two_old x hx0 hx1 (by omega) hG') | (have hcn := fun W : World => two_new W 3 (-1) 1000 x hx0 hx1))
                have HR6 := hide hR'
                clear hR'
                replace hG' := grown_trans (show w3.grownBy _ (some g) by repeat (first | assumption | apply grown_drewS | apply grown_allocS)) hG'
                go_wp2_with fail
                refine hK.out _ _ trivial (fun _ => ?_)
                clear hK K
                (try simp only [Act.put, List.setIfInBounds_toArray, List.set_cons_zero, List.set_cons_succ])
                refine wpAnyH_ready (rs := [0]) (by kernel_rfl) (by simp) ?_
                refine AllReadyH.cons (o := _) rfl (fun K hK => ?_) AllReadyH.nil
                go_simp
                refine hK.out _ _ trivial (fun _ => ?_)
                clear hK K
                (try simp only [Act.put, List.setIfInBounds_toArray, List.set_cons_zero, List.set_cons_succ])
                refine wpAnyH_take (i := 3) (oi := _) (v := ?_) rfl (by kernel_rfl) (by kernel_rfl) (by kernel_rfl) (fun _ _ _ h => h) (Or.inl ⟨by rfl, ?_⟩) trivial ?_
                rotate_left
                · intro w hSw; clear hSw; go_simp; first | done | with_reducible rfl
                (try simp only [Act.put, List.setIfInBounds_toArray, List.set_cons_zero, List.set_cons_succ])
                refine wpAnyH_ready (rs := [4]) (by kernel_rfl) (by simp) ?_
                refine AllReadyH.cons (o := _) rfl (fun K hK => ?_) AllReadyH.nil
                go_simp
                refine hK.out _ _ trivial (fun _ => ?_)
                clear hK K
                (try simp only [Act.put, List.setIfInBounds_toArray, List.set_cons_zero, List.set_cons_succ])
                refine wpAnyH_take (i := 5) (oi := _) (v := ?_) rfl (by kernel_rfl) (by kernel_rfl) (by kernel_rfl) (fun _ _ _ h => h) (Or.inl ⟨by rfl, ?_⟩) trivial ?_
                rotate_left
                · intro w hSw; clear hSw; go_simp; first | done | with_reducible rfl
                (try simp only [Act.put, List.setIfInBounds_toArray, List.set_cons_zero, List.set_cons_succ])
                refine wpAnyH_ready (rs := [6]) (by kernel_rfl) (by simp) ?_
                refine AllReadyH.cons (o := _) rfl (fun K hK => ?_) AllReadyH.nil
                go_simp
                refine hK.out _ _ trivial (fun _ => ?_)
                clear hK K
                (try simp only [Act.put, List.setIfInBounds_toArray, List.set_cons_zero, List.set_cons_succ])
                have hO := own_full (e := 89) (size := 2) (w'.alloc (.cells #[.int .i64 (-1), .int .i64 1000] 3)) w.heap.size 1 #[.int .i64 (oneOf (-1) 1000 x), .int .i64 (1)] (by have := hG'.size; simp; omega) (by simp [maxLen]) rfl
                try rw [World.size_alloc] at hO
                refine wpAnyH_ready (rs := [12]) (by kernel_rfl) (by simp) ?_
                refine AllReadyH.cons (o := _) rfl (fun K hK => ?_) AllReadyH.nil
                refine step_append_any chargeElem rfl _ _ rfl w.heap.size 0 _ 1 (sc [(oneOf (-1) 1000 x, 1)]) rfl hO _ 0 _ rfl [] rfl (.inl rfl) (fun _ => rfl) (fun _ h => by cases h) (by omega) (by omega) (by have := hG'.size; simp; omega) ?_
                intro v' w4 hap
                have HA := hide hap
                clear hap
                refine hK.out _ _ trivial (fun _ => ?_)
                clear hK K
                (try simp only [Act.put, List.setIfInBounds_toArray, List.set_cons_zero, List.set_cons_succ])
                refine wpAnyH_ready (rs := [13]) (by kernel_rfl) (by simp) ?_
                refine AllReadyH.cons (o := _) rfl (fun K hK => ?_) AllReadyH.nil
                go_simp
                refine hK.out _ _ trivial (fun _ => ?_)
                clear hK K
                (try simp only [Act.put, List.setIfInBounds_toArray, List.set_cons_zero, List.set_cons_succ])
                refine wpAnyH_done (by kernel_rfl) ?_ _
                go_wp2
                go_ret
                obtain ⟨ho, hg, _⟩ := HA.out
                exact chargesOk_of (zs := (oneOf (-1) 1000 x, 1) :: []) (by first | exact ho | (rw [show ((oneOf (-1) 1000 x, 1) :: []).length = 1 + 0 by simp; omega]; exact ho)) (by simp; try omega) ⟨(((HR6.out.alloc _).alloc _).kept hg fun b hb => by have := (hO.lt b hb).1; omega).more (by omega), grown_own (grown_trans HG.out (show w3.grownBy _ (some g) by repeat (first | assumption | apply grown_drewS | apply grown_allocS))) hg fun b hb => by have := (hO.lt b hb).1; omega⟩
          · obtain ⟨gL, hL, _, _⟩ := (Own.of_row hown).row (by intro e; have := sc_len zs; rw [e] at this; simp at this; omega)
            subst hL
            have HT1 := hide (fun (W : World) (h : w3.grownBy W (some g)) => (HT.out W h).sheets_drop 1)
            clear HT
            match zs, hz, hzm, hld, HT1 with
            | [s], _, _, hld, _ =>
              have hmin : min (1 : Int) 1 = 1 := rfl
              have hd1 : d = 1 ∨ 2 ≤ d := by simp at hld; omega
              simp only [List.length_cons, List.length_nil, Nat.zero_add] at *
              rcases hd1 with rfl | hd2
              ·
                go_wp2
                refine wp_region_held_drew (S := fun _ => True) (by kernel_rfl) trivial (fun _ => ?_)
                refine wpAnyH_take (i := 1) (oi := _) (v := ?_) rfl (by kernel_rfl) (by kernel_rfl) (by kernel_rfl) (fun _ _ _ h => h) (Or.inl ⟨by rfl, ?_⟩) trivial ?_
                rotate_left
                · intro w hSw; clear hSw; go_simp; first | done | with_reducible rfl
                (try simp only [Act.put, List.setIfInBounds_toArray, List.set_cons_zero, List.set_cons_succ])
                refine wpAnyH_take (i := 7) (oi := _) (v := ?_) rfl (by kernel_rfl) (by kernel_rfl) (by kernel_rfl) (fun _ _ _ h => h) (Or.inl ⟨by rfl, ?_⟩) trivial ?_
                rotate_left
                · intro w hSw; clear hSw; go_simp; first | done | with_reducible rfl
                (try simp only [Act.put, List.setIfInBounds_toArray, List.set_cons_zero, List.set_cons_succ])
                refine wpAnyH_take (i := 8) (oi := _) (v := ?_) rfl (by kernel_rfl) (by kernel_rfl) (by kernel_rfl) (fun _ _ _ h => h) (Or.inl ⟨by rfl, ?_⟩) trivial ?_
                rotate_left
                · intro w hSw; clear hSw; go_simp; first | done | with_reducible rfl
                (try simp only [Act.put, List.setIfInBounds_toArray, List.set_cons_zero, List.set_cons_succ])
                refine wpAnyH_take (i := 9) (oi := _) (v := ?_) rfl (by kernel_rfl) (by kernel_rfl) (by kernel_rfl) (fun _ _ _ h => h) (Or.inl ⟨by rfl, ?_⟩) trivial ?_
                rotate_left
                · intro w hSw; clear hSw; go_simp; first | done | with_reducible rfl
                (try simp only [Act.put, List.setIfInBounds_toArray, List.set_cons_zero, List.set_cons_succ])
                refine wpAnyH_take (i := 10) (oi := _) (v := ?_) rfl (by kernel_rfl) (by kernel_rfl) (by kernel_rfl) (fun _ _ _ h => h) (Or.inl ⟨by rfl, ?_⟩) trivial ?_
                rotate_left
                · intro w hSw; clear hSw; go_simp; first | done | with_reducible rfl
                (try simp only [Act.put, List.setIfInBounds_toArray, List.set_cons_zero, List.set_cons_succ])
                refine wpAnyH_take (i := 11) (oi := _) (v := ?_) rfl (by kernel_rfl) (by kernel_rfl) (by kernel_rfl) (fun _ _ _ h => h) (Or.inl ⟨by rfl, ?_⟩) trivial ?_
                rotate_left
                · intro w hSw; clear hSw; go_simp; first | done | with_reducible rfl
                (try simp only [Act.put, List.setIfInBounds_toArray, List.set_cons_zero, List.set_cons_succ])
                refine wpAnyH_ready (rs := [0, 2]) (by kernel_rfl) (by simp) ?_
                refine AllReadyH.cons (o := _) rfl (fun K hK => ?_) (AllReadyH.cons (o := _) rfl (fun K hK => ?_) AllReadyH.nil)
                · go_simp
                  refine hK.out _ _ trivial (fun _ => ?_)
                  clear hK K
                  (try simp only [Act.put, List.setIfInBounds_toArray, List.set_cons_zero, List.set_cons_succ])
                  refine wpAnyH_ready (rs := [2]) (by kernel_rfl) (by simp) ?_
                  refine AllReadyH.cons (o := _) rfl (fun K hK => ?_) AllReadyH.nil
                  go_simp
                  go_at_call 74
                  refine (pick_any g (k + 28) 2 _ (by omega) (by omega) (by omega) (by first | exact HR5.out | exact HR5.out.drew | exact (HR5.out.alloc _).drew | exact HR5.out.alloc _ | exact HR5.out.drew.alloc _)).mono ?_
                  rintro e w' ⟨x, rfl, hx0, hx1, hR', hG'⟩
                  (first | (have hcx := two_old x hx0 hx1 (by omega) hG') | (have hcn := fun W : World => two_new W 3 (-1) 1000 x hx0 hx1))
                  have HR6 := hide hR'
                  clear hR'
                  replace hG' := grown_trans (show w3.grownBy _ (some g) by repeat (first | assumption | apply grown_drewS | apply grown_allocS)) hG'
                  go_wp2_with fail
                  refine hK.out _ _ trivial (fun _ => ?_)
                  clear hK K
                  (try simp only [Act.put, List.setIfInBounds_toArray, List.set_cons_zero, List.set_cons_succ])
                  refine wpAnyH_take (i := 3) (oi := _) (v := ?_) rfl (by kernel_rfl) (by kernel_rfl) (by kernel_rfl) (fun _ _ _ h => h) (Or.inl ⟨by rfl, ?_⟩) trivial ?_
                  rotate_left
                  · intro w hSw; clear hSw; go_simp; first | done | with_reducible rfl
                  (try simp only [Act.put, List.setIfInBounds_toArray, List.set_cons_zero, List.set_cons_succ])
                  refine wpAnyH_ready (rs := [4]) (by kernel_rfl) (by simp) ?_
                  refine AllReadyH.cons (o := _) rfl (fun K hK => ?_) AllReadyH.nil
                  go_simp
                  refine hK.out _ _ trivial (fun _ => ?_)
                  clear hK K
                  (try simp only [Act.put, List.setIfInBounds_toArray, List.set_cons_zero, List.set_cons_succ])
                  refine wpAnyH_take (i := 5) (oi := _) (v := ?_) rfl (by kernel_rfl) (by kernel_rfl) (by kernel_rfl) (fun _ _ _ h => h) (Or.inl ⟨by rfl, ?_⟩) trivial ?_
                  rotate_left
                  · intro w hSw; clear hSw; go_simp; first | done | with_reducible rfl
                  (try simp only [Act.put, List.setIfInBounds_toArray, List.set_cons_zero, List.set_cons_succ])
                  refine wpAnyH_ready (rs := [6]) (by kernel_rfl) (by simp) ?_
                  refine AllReadyH.cons (o := _) rfl (fun K hK => ?_) AllReadyH.nil
                  go_simp
                  refine hK.out _ _ trivial (fun _ => ?_)
                  clear hK K
                  (try simp only [Act.put, List.setIfInBounds_toArray, List.set_cons_zero, List.set_cons_succ])
                  have hO := own_full (e := 89) (size := 2) (w') w.heap.size 1 #[.int .i64 (oneOf (-1) 1000 x), .int .i64 (1)] (by have := hG'.size; simp; omega) (by simp [maxLen]) rfl
                  try rw [World.size_alloc] at hO
                  refine wpAnyH_ready (rs := [12]) (by kernel_rfl) (by simp) ?_
                  refine AllReadyH.cons (o := _) rfl (fun K hK => ?_) AllReadyH.nil
                  refine step_append_any chargeElem rfl _ _ rfl w.heap.size 0 _ 1 (sc [(oneOf (-1) 1000 x, 1)]) rfl hO _ 0 _ rfl [] rfl (.inl rfl) (fun _ => rfl) (fun _ h => by cases h) (by omega) (by omega) (by have := hG'.size; simp; omega) ?_
                  intro v' w4 hap
                  have HA := hide hap
                  clear hap
                  refine hK.out _ _ trivial (fun _ => ?_)
                  clear hK K
                  (try simp only [Act.put, List.setIfInBounds_toArray, List.set_cons_zero, List.set_cons_succ])
                  refine wpAnyH_ready (rs := [13]) (by kernel_rfl) (by simp) ?_
                  refine AllReadyH.cons (o := _) rfl (fun K hK => ?_) AllReadyH.nil
                  go_simp
                  refine hK.out _ _ trivial (fun _ => ?_)
                  clear hK K
                  (try simp only [Act.put, List.setIfInBounds_toArray, List.set_cons_zero, List.set_cons_succ])
                  refine wpAnyH_done (by kernel_rfl) ?_ _
                  go_wp2
                  go_ret
                  obtain ⟨ho, hg, _⟩ := HA.out
                  exact chargesOk_of (zs := (oneOf (-1) 1000 x, 1) :: []) (by first | exact ho | (rw [show ((oneOf (-1) 1000 x, 1) :: []).length = 1 + 0 by simp; omega]; exact ho)) (by simp; try omega) ⟨((HR6.out.alloc _).kept hg fun b hb => by have := (hO.lt b hb).1; omega).more (by omega), grown_own (grown_trans HG.out (show w3.grownBy _ (some g) by repeat (first | assumption | apply grown_drewS | apply grown_allocS))) hg fun b hb => by have := (hO.lt b hb).1; omega⟩
                ·
                  go_simp
                  go_at_call 74
                  refine (pick_any g (k + 28) 2 _ (by omega) (by omega) (by omega) (by first | exact HR5.out | exact HR5.out.drew | exact (HR5.out.alloc _).drew | exact HR5.out.alloc _ | exact HR5.out.drew.alloc _)).mono ?_
                  rintro e w' ⟨x, rfl, hx0, hx1, hR', hG'⟩
                  (first | (have hcx := two_old x hx0 hx1 (by omega) hG') | (have hcn := fun W : World => two_new W 3 (-1) 1000 x hx0 hx1))
                  have HR6 := hide hR'
                  clear hR'
                  replace hG' := grown_trans (show w3.grownBy _ (some g) by repeat (first | assumption | apply grown_drewS | apply grown_allocS)) hG'
                  go_wp2_with fail
                  refine hK.out _ _ trivial (fun _ => ?_)
                  clear hK K
                  (try simp only [Act.put, List.setIfInBounds_toArray, List.set_cons_zero, List.set_cons_succ])
                  refine wpAnyH_ready (rs := [0]) (by kernel_rfl) (by simp) ?_
                  refine AllReadyH.cons (o := _) rfl (fun K hK => ?_) AllReadyH.nil
                  go_simp
                  refine hK.out _ _ trivial (fun _ => ?_)
                  clear hK K
                  (try simp only [Act.put, List.setIfInBounds_toArray, List.set_cons_zero, List.set_cons_succ])
                  refine wpAnyH_take (i := 3) (oi := _) (v := ?_) rfl (by kernel_rfl) (by kernel_rfl) (by kernel_rfl) (fun _ _ _ h => h) (Or.inl ⟨by rfl, ?_⟩) trivial ?_
                  rotate_left
                  · intro w hSw; clear hSw; go_simp; first | done | with_reducible rfl
                  (try simp only [Act.put, List.setIfInBounds_toArray, List.set_cons_zero, List.set_cons_succ])
                  refine wpAnyH_ready (rs := [4]) (by kernel_rfl) (by simp) ?_
                  refine AllReadyH.cons (o := _) rfl (fun K hK => ?_) AllReadyH.nil
                  go_simp
                  refine hK.out _ _ trivial (fun _ => ?_)
                  clear hK K
                  (try simp only [Act.put, List.setIfInBounds_toArray, List.set_cons_zero, List.set_cons_succ])
                  refine wpAnyH_take (i := 5) (oi := _) (v := ?_) rfl (by kernel_rfl) (by kernel_rfl) (by kernel_rfl) (fun _ _ _ h => h) (Or.inl ⟨by rfl, ?_⟩) trivial ?_
                  rotate_left
                  · intro w hSw; clear hSw; go_simp; first | done | with_reducible rfl
                  (try simp only [Act.put, List.setIfInBounds_toArray, List.set_cons_zero, List.set_cons_succ])
                  refine wpAnyH_ready (rs := [6]) (by kernel_rfl) (by simp) ?_
                  refine AllReadyH.cons (o := _) rfl (fun K hK => ?_) AllReadyH.nil
                  go_simp
                  refine hK.out _ _ trivial (fun _ => ?_)
                  clear hK K
                  (try simp only [Act.put, List.setIfInBounds_toArray, List.set_cons_zero, List.set_cons_succ])
                  have hO := own_full (e := 89) (size := 2) (w'.alloc (.cells #[.int .i64 (-1), .int .i64 1000] 3)) w.heap.size 1 #[.int .i64 (oneOf (-1) 1000 x), .int .i64 (1)] (by have := hG'.size; simp; omega) (by simp [maxLen]) rfl
                  try rw [World.size_alloc] at hO
                  refine wpAnyH_ready (rs := [12]) (by kernel_rfl) (by simp) ?_
                  refine AllReadyH.cons (o := _) rfl (fun K hK => ?_) AllReadyH.nil
                  refine step_append_any chargeElem rfl _ _ rfl w.heap.size 0 _ 1 (sc [(oneOf (-1) 1000 x, 1)]) rfl hO _ 0 _ rfl [] rfl (.inl rfl) (fun _ => rfl) (fun _ h => by cases h) (by omega) (by omega) (by have := hG'.size; simp; omega) ?_
                  intro v' w4 hap
                  have HA := hide hap
                  clear hap
                  refine hK.out _ _ trivial (fun _ => ?_)
                  clear hK K
                  (try simp only [Act.put, List.setIfInBounds_toArray, List.set_cons_zero, List.set_cons_succ])
                  refine wpAnyH_ready (rs := [13]) (by kernel_rfl) (by simp) ?_
                  refine AllReadyH.cons (o := _) rfl (fun K hK => ?_) AllReadyH.nil
                  go_simp
                  refine hK.out _ _ trivial (fun _ => ?_)
                  clear hK K
                  (try simp only [Act.put, List.setIfInBounds_toArray, List.set_cons_zero, List.set_cons_succ])
                  refine wpAnyH_done (by kernel_rfl) ?_ _
                  go_wp2
                  go_ret
                  obtain ⟨ho, hg, _⟩ := HA.out
                  exact chargesOk_of (zs := (oneOf (-1) 1000 x, 1) :: []) (by first | exact ho | (rw [show ((oneOf (-1) 1000 x, 1) :: []).length = 1 + 0 by simp; omega]; exact ho)) (by simp; try omega) ⟨(((HR6.out.alloc _).alloc _).kept hg fun b hb => by have := (hO.lt b hb).1; omega).more (by omega), grown_own (grown_trans HG.out (show w3.grownBy _ (some g) by repeat (first | assumption | apply grown_drewS | apply grown_allocS))) hg fun b hb => by have := (hO.lt b hb).1; omega⟩
              ·
                go_wp2
                refine wp_region_held_drew (S := fun _ => True) (by kernel_rfl) trivial (fun _ => ?_)
                refine wpAnyH_take (i := 1) (oi := _) (v := ?_) rfl (by kernel_rfl) (by kernel_rfl) (by kernel_rfl) (fun _ _ _ h => h) (Or.inl ⟨by rfl, ?_⟩) trivial ?_
                rotate_left
                · intro w hSw; clear hSw; go_simp; first | done | with_reducible rfl
                (try simp only [Act.put, List.setIfInBounds_toArray, List.set_cons_zero, List.set_cons_succ])
                refine wpAnyH_take (i := 7) (oi := _) (v := ?_) rfl (by kernel_rfl) (by kernel_rfl) (by kernel_rfl) (fun _ _ _ h => h) (Or.inl ⟨by rfl, ?_⟩) trivial ?_
                rotate_left
                · intro w hSw; clear hSw; go_simp; first | done | with_reducible rfl
                (try simp only [Act.put, List.setIfInBounds_toArray, List.set_cons_zero, List.set_cons_succ])
                refine wpAnyH_take (i := 8) (oi := _) (v := ?_) rfl (by kernel_rfl) (by kernel_rfl) (by kernel_rfl) (fun _ _ _ h => h) (Or.inl ⟨by rfl, ?_⟩) trivial ?_
                rotate_left
                · intro w hSw; clear hSw; go_simp; first | done | with_reducible rfl
                (try simp only [Act.put, List.setIfInBounds_toArray, List.set_cons_zero, List.set_cons_succ])
                refine wpAnyH_take (i := 9) (oi := _) (v := ?_) rfl (by kernel_rfl) (by kernel_rfl) (by kernel_rfl) (fun _ _ _ h => h) (Or.inl ⟨by rfl, ?_⟩) trivial ?_
                rotate_left
                · intro w hSw; clear hSw; go_simp; first | done | with_reducible rfl
                (try simp only [Act.put, List.setIfInBounds_toArray, List.set_cons_zero, List.set_cons_succ])
                refine wpAnyH_take (i := 10) (oi := _) (v := ?_) rfl (by kernel_rfl) (by kernel_rfl) (by kernel_rfl) (fun _ _ _ h => h) (Or.inl ⟨by rfl, ?_⟩) trivial ?_
                rotate_left
                · intro w hSw; clear hSw; go_simp; first | done | with_reducible rfl
                (try simp only [Act.put, List.setIfInBounds_toArray, List.set_cons_zero, List.set_cons_succ])
                refine wpAnyH_take (i := 11) (oi := _) (v := ?_) rfl (by kernel_rfl) (by kernel_rfl) (by kernel_rfl) (fun _ _ _ h => h) (Or.inl ⟨by rfl, ?_⟩) trivial ?_
                rotate_left
                · intro w hSw; clear hSw; go_simp; first | done | with_reducible rfl
                (try simp only [Act.put, List.setIfInBounds_toArray, List.set_cons_zero, List.set_cons_succ])
                refine wpAnyH_ready (rs := [0, 2]) (by kernel_rfl) (by simp) ?_
                refine AllReadyH.cons (o := _) rfl (fun K hK => ?_) (AllReadyH.cons (o := _) rfl (fun K hK => ?_) AllReadyH.nil)
                · go_simp
                  refine hK.out _ _ trivial (fun _ => ?_)
                  clear hK K
                  (try simp only [Act.put, List.setIfInBounds_toArray, List.set_cons_zero, List.set_cons_succ])
                  refine wpAnyH_ready (rs := [2]) (by kernel_rfl) (by simp) ?_
                  refine AllReadyH.cons (o := _) rfl (fun K hK => ?_) AllReadyH.nil
                  go_simp
                  go_at_call 74
                  refine (pick_any g (k + 28) 2 _ (by omega) (by omega) (by omega) (by first | exact HR5.out | exact HR5.out.drew | exact (HR5.out.alloc _).drew | exact HR5.out.alloc _ | exact HR5.out.drew.alloc _)).mono ?_
                  rintro e w' ⟨x, rfl, hx0, hx1, hR', hG'⟩
                  (first | (have hcx := two_old x hx0 hx1 (by omega) hG') | (have hcn := fun W : World => two_new W 3 (-1) 1000 x hx0 hx1))
                  have HR6 := hide hR'
                  clear hR'
                  replace hG' := grown_trans (show w3.grownBy _ (some g) by repeat (first | assumption | apply grown_drewS | apply grown_allocS)) hG'
                  go_wp2_with fail
                  refine hK.out _ _ trivial (fun _ => ?_)
                  clear hK K
                  (try simp only [Act.put, List.setIfInBounds_toArray, List.set_cons_zero, List.set_cons_succ])
                  refine wpAnyH_take (i := 3) (oi := _) (v := ?_) rfl (by kernel_rfl) (by kernel_rfl) (by kernel_rfl) (fun _ _ _ h => h) (Or.inl ⟨by rfl, ?_⟩) trivial ?_
                  rotate_left
                  · intro w hSw; clear hSw; go_simp; first | done | with_reducible rfl
                  (try simp only [Act.put, List.setIfInBounds_toArray, List.set_cons_zero, List.set_cons_succ])
                  refine wpAnyH_ready (rs := [4]) (by kernel_rfl) (by simp) ?_
                  refine AllReadyH.cons (o := _) rfl (fun K hK => ?_) AllReadyH.nil
                  go_simp
                  refine hK.out _ _ trivial (fun _ => ?_)
                  clear hK K
                  (try simp only [Act.put, List.setIfInBounds_toArray, List.set_cons_zero, List.set_cons_succ])
                  refine wpAnyH_take (i := 5) (oi := _) (v := ?_) rfl (by kernel_rfl) (by kernel_rfl) (by kernel_rfl) (fun _ _ _ h => h) (Or.inl ⟨by rfl, ?_⟩) trivial ?_
                  rotate_left
                  · intro w hSw; clear hSw; go_simp; first | done | with_reducible rfl
                  (try simp only [Act.put, List.setIfInBounds_toArray, List.set_cons_zero, List.set_cons_succ])
                  refine wpAnyH_ready (rs := [6]) (by kernel_rfl) (by simp) ?_
                  refine AllReadyH.cons (o := _) rfl (fun K hK => ?_) AllReadyH.nil
                  go_simp
                  refine hK.out _ _ trivial (fun _ => ?_)
                  clear hK K
                  (try simp only [Act.put, List.setIfInBounds_toArray, List.set_cons_zero, List.set_cons_succ])
                  have hO := own_full (e := 89) (size := 2) (w') w.heap.size 1 #[.int .i64 (oneOf (-1) 1000 x), .int .i64 (1)] (by have := hG'.size; simp; omega) (by simp [maxLen]) rfl
                  try rw [World.size_alloc] at hO
                  refine wpAnyH_ready (rs := [12]) (by kernel_rfl) (by simp) ?_
                  refine AllReadyH.cons (o := _) rfl (fun K hK => ?_) AllReadyH.nil
                  refine step_append_any chargeElem rfl _ _ rfl w.heap.size 0 _ 1 (sc [(oneOf (-1) 1000 x, 1)]) rfl hO _ 0 _ rfl [] rfl (.inl rfl) (fun _ => rfl) (fun _ h => by cases h) (by omega) (by omega) (by have := hG'.size; simp; omega) ?_
                  intro v' w4 hap
                  have HA := hide hap
                  clear hap
                  refine hK.out _ _ trivial (fun _ => ?_)
                  clear hK K
                  (try simp only [Act.put, List.setIfInBounds_toArray, List.set_cons_zero, List.set_cons_succ])
                  refine wpAnyH_ready (rs := [13]) (by kernel_rfl) (by simp) ?_
                  refine AllReadyH.cons (o := _) rfl (fun K hK => ?_) AllReadyH.nil
                  go_simp
                  refine hK.out _ _ trivial (fun _ => ?_)
                  clear hK K
                  (try simp only [Act.put, List.setIfInBounds_toArray, List.set_cons_zero, List.set_cons_succ])
                  refine wpAnyH_done (by kernel_rfl) ?_ _
                  go_wp2
                  go_ret
                  obtain ⟨ho, hg, _⟩ := HA.out
                  exact chargesOk_of (zs := (oneOf (-1) 1000 x, 1) :: []) (by first | exact ho | (rw [show ((oneOf (-1) 1000 x, 1) :: []).length = 1 + 0 by simp; omega]; exact ho)) (by simp; try omega) ⟨((HR6.out.alloc _).kept hg fun b hb => by have := (hO.lt b hb).1; omega).more (by omega), grown_own (grown_trans HG.out (show w3.grownBy _ (some g) by repeat (first | assumption | apply grown_drewS | apply grown_allocS))) hg fun b hb => by have := (hO.lt b hb).1; omega⟩
                ·
                  go_simp
                  go_at_call 74
                  refine (pick_any g (k + 28) 2 _ (by omega) (by omega) (by omega) (by first | exact HR5.out | exact HR5.out.drew | exact (HR5.out.alloc _).drew | exact HR5.out.alloc _ | exact HR5.out.drew.alloc _)).mono ?_
                  rintro e w' ⟨x, rfl, hx0, hx1, hR', hG'⟩
                  (first | (have hcx := two_old x hx0 hx1 (by omega) hG') | (have hcn := fun W : World => two_new W 3 (-1) 1000 x hx0 hx1))
                  have HR6 := hide hR'
                  clear hR'
                  replace hG' := grown_trans (show w3.grownBy _ (some g) by repeat (first | assumption | apply grown_drewS | apply grown_allocS)) hG'
                  go_wp2_with fail
                  refine hK.out _ _ trivial (fun _ => ?_)
                  clear hK K
                  (try simp only [Act.put, List.setIfInBounds_toArray, List.set_cons_zero, List.set_cons_succ])
                  refine wpAnyH_ready (rs := [0]) (by kernel_rfl) (by simp) ?_
                  refine AllReadyH.cons (o := _) rfl (fun K hK => ?_) AllReadyH.nil
                  go_simp
                  refine hK.out _ _ trivial (fun _ => ?_)
                  clear hK K
                  (try simp only [Act.put, List.setIfInBounds_toArray, List.set_cons_zero, List.set_cons_succ])
                  refine wpAnyH_take (i := 3) (oi := _) (v := ?_) rfl (by kernel_rfl) (by kernel_rfl) (by kernel_rfl) (fun _ _ _ h => h) (Or.inl ⟨by rfl, ?_⟩) trivial ?_
                  rotate_left
                  · intro w hSw; clear hSw; go_simp; first | done | with_reducible rfl
                  (try simp only [Act.put, List.setIfInBounds_toArray, List.set_cons_zero, List.set_cons_succ])
                  refine wpAnyH_ready (rs := [4]) (by kernel_rfl) (by simp) ?_
                  refine AllReadyH.cons (o := _) rfl (fun K hK => ?_) AllReadyH.nil
                  go_simp
                  refine hK.out _ _ trivial (fun _ => ?_)
                  clear hK K
                  (try simp only [Act.put, List.setIfInBounds_toArray, List.set_cons_zero, List.set_cons_succ])
                  refine wpAnyH_take (i := 5) (oi := _) (v := ?_) rfl (by kernel_rfl) (by kernel_rfl) (by kernel_rfl) (fun _ _ _ h => h) (Or.inl ⟨by rfl, ?_⟩) trivial ?_
                  rotate_left
                  · intro w hSw; clear hSw; go_simp; first | done | with_reducible rfl
                  (try simp only [Act.put, List.setIfInBounds_toArray, List.set_cons_zero, List.set_cons_succ])
                  refine wpAnyH_ready (rs := [6]) (by kernel_rfl) (by simp) ?_
                  refine AllReadyH.cons (o := _) rfl (fun K hK => ?_) AllReadyH.nil
                  go_simp
                  refine hK.out _ _ trivial (fun _ => ?_)
                  clear hK K
                  (try simp only [Act.put, List.setIfInBounds_toArray, List.set_cons_zero, List.set_cons_succ])
                  have hO := own_full (e := 89) (size := 2) (w'.alloc (.cells #[.int .i64 (-1), .int .i64 1000] 3)) w.heap.size 1 #[.int .i64 (oneOf (-1) 1000 x), .int .i64 (1)] (by have := hG'.size; simp; omega) (by simp [maxLen]) rfl
                  try rw [World.size_alloc] at hO
                  refine wpAnyH_ready (rs := [12]) (by kernel_rfl) (by simp) ?_
                  refine AllReadyH.cons (o := _) rfl (fun K hK => ?_) AllReadyH.nil
                  refine step_append_any chargeElem rfl _ _ rfl w.heap.size 0 _ 1 (sc [(oneOf (-1) 1000 x, 1)]) rfl hO _ 0 _ rfl [] rfl (.inl rfl) (fun _ => rfl) (fun _ h => by cases h) (by omega) (by omega) (by have := hG'.size; simp; omega) ?_
                  intro v' w4 hap
                  have HA := hide hap
                  clear hap
                  refine hK.out _ _ trivial (fun _ => ?_)
                  clear hK K
                  (try simp only [Act.put, List.setIfInBounds_toArray, List.set_cons_zero, List.set_cons_succ])
                  refine wpAnyH_ready (rs := [13]) (by kernel_rfl) (by simp) ?_
                  refine AllReadyH.cons (o := _) rfl (fun K hK => ?_) AllReadyH.nil
                  go_simp
                  refine hK.out _ _ trivial (fun _ => ?_)
                  clear hK K
                  (try simp only [Act.put, List.setIfInBounds_toArray, List.set_cons_zero, List.set_cons_succ])
                  refine wpAnyH_done (by kernel_rfl) ?_ _
                  go_wp2
                  go_ret
                  obtain ⟨ho, hg, _⟩ := HA.out
                  exact chargesOk_of (zs := (oneOf (-1) 1000 x, 1) :: []) (by first | exact ho | (rw [show ((oneOf (-1) 1000 x, 1) :: []).length = 1 + 0 by simp; omega]; exact ho)) (by simp; try omega) ⟨(((HR6.out.alloc _).alloc _).kept hg fun b hb => by have := (hO.lt b hb).1; omega).more (by omega), grown_own (grown_trans HG.out (show w3.grownBy _ (some g) by repeat (first | assumption | apply grown_drewS | apply grown_allocS))) hg fun b hb => by have := (hO.lt b hb).1; omega⟩
            | s :: t :: r, _, hzm, hld, HT1 =>
              simp only [List.length_cons, List.drop_succ_cons, List.drop_zero] at *
              have hmin : min (1 : Int) ((r.length + 1 + 1 : Nat) : Int) = 1 := by omega
              have hs1 : (1 : Int) ≤ (r.length : Int) + 1 + 1 := by omega
              have hd1 : ¬ d = 1 := by omega
              have hmin' : min (1 : Int) ((r.length : Int) + 1 + 1) = 1 := by omega
              go_wp2
              refine wp_region_held_drew (S := fun _ => True) (by kernel_rfl) trivial (fun _ => ?_)
              refine wpAnyH_take (i := 1) (oi := _) (v := ?_) rfl (by kernel_rfl) (by kernel_rfl) (by kernel_rfl) (fun _ _ _ h => h) (Or.inl ⟨by rfl, ?_⟩) trivial ?_
              rotate_left
              · intro w hSw; clear hSw; go_simp; first | done | with_reducible rfl
              (try simp only [Act.put, List.setIfInBounds_toArray, List.set_cons_zero, List.set_cons_succ])
              refine wpAnyH_take (i := 7) (oi := _) (v := ?_) rfl (by kernel_rfl) (by kernel_rfl) (by kernel_rfl) (fun _ _ _ h => h) (Or.inl ⟨by rfl, ?_⟩) trivial ?_
              rotate_left
              · intro w hSw; clear hSw; go_simp; first | done | with_reducible rfl
              (try simp only [Act.put, List.setIfInBounds_toArray, List.set_cons_zero, List.set_cons_succ])
              refine wpAnyH_take (i := 8) (oi := _) (v := ?_) rfl (by kernel_rfl) (by kernel_rfl) (by kernel_rfl) (fun _ _ _ h => h) (Or.inl ⟨by rfl, ?_⟩) trivial ?_
              rotate_left
              · intro w hSw; clear hSw; go_simp; first | done | with_reducible rfl
              (try simp only [Act.put, List.setIfInBounds_toArray, List.set_cons_zero, List.set_cons_succ])
              refine wpAnyH_take (i := 9) (oi := _) (v := ?_) rfl (by kernel_rfl) (by kernel_rfl) (by kernel_rfl) (fun _ _ _ h => h) (Or.inl ⟨by rfl, ?_⟩) trivial ?_
              rotate_left
              · intro w hSw; clear hSw; go_simp; first | done | with_reducible rfl
              (try simp only [Act.put, List.setIfInBounds_toArray, List.set_cons_zero, List.set_cons_succ])
              refine wpAnyH_take (i := 10) (oi := _) (v := ?_) rfl (by kernel_rfl) (by kernel_rfl) (by kernel_rfl) (fun _ _ _ h => h) (Or.inl ⟨by rfl, ?_⟩) trivial ?_
              rotate_left
              · intro w hSw; clear hSw; go_simp; first | done | with_reducible rfl
              (try simp only [Act.put, List.setIfInBounds_toArray, List.set_cons_zero, List.set_cons_succ])
              refine wpAnyH_take (i := 11) (oi := _) (v := ?_) rfl (by kernel_rfl) (by kernel_rfl) (by kernel_rfl) (fun _ _ _ h => h) (Or.inl ⟨by rfl, ?_⟩) trivial ?_
              rotate_left
              · intro w hSw; clear hSw; go_simp; first | done | with_reducible rfl
              (try simp only [Act.put, List.setIfInBounds_toArray, List.set_cons_zero, List.set_cons_succ])
              refine wpAnyH_ready (rs := [0, 2]) (by kernel_rfl) (by simp) ?_
              refine AllReadyH.cons (o := _) rfl (fun K hK => ?_) (AllReadyH.cons (o := _) rfl (fun K hK => ?_) AllReadyH.nil)
              · go_simp
                refine hK.out _ _ trivial (fun _ => ?_)
                clear hK K
                (try simp only [Act.put, List.setIfInBounds_toArray, List.set_cons_zero, List.set_cons_succ])
                refine wpAnyH_ready (rs := [2]) (by kernel_rfl) (by simp) ?_
                refine AllReadyH.cons (o := _) rfl (fun K hK => ?_) AllReadyH.nil
                go_simp
                go_at_call 74
                refine (pick_any g (k + 28) 2 _ (by omega) (by omega) (by omega) (by first | exact HR5.out | exact HR5.out.drew | exact (HR5.out.alloc _).drew | exact HR5.out.alloc _ | exact HR5.out.drew.alloc _)).mono ?_
                rintro e w' ⟨x, rfl, hx0, hx1, hR', hG'⟩
                (first | (have hcx := two_old x hx0 hx1 (by omega) hG') | (have hcn := fun W : World => two_new W 3 (-1) 1000 x hx0 hx1))
                have HR6 := hide hR'
                clear hR'
                replace hG' := grown_trans (show w3.grownBy _ (some g) by repeat (first | assumption | apply grown_drewS | apply grown_allocS)) hG'
                go_wp2_with fail
                refine hK.out _ _ trivial (fun _ => ?_)
                clear hK K
                (try simp only [Act.put, List.setIfInBounds_toArray, List.set_cons_zero, List.set_cons_succ])
                refine wpAnyH_take (i := 3) (oi := _) (v := ?_) rfl (by kernel_rfl) (by kernel_rfl) (by kernel_rfl) (fun _ _ _ h => h) (Or.inl ⟨by rfl, ?_⟩) trivial ?_
                rotate_left
                · intro w hSw; clear hSw; go_simp; first | done | with_reducible rfl
                (try simp only [Act.put, List.setIfInBounds_toArray, List.set_cons_zero, List.set_cons_succ])
                refine wpAnyH_ready (rs := [4]) (by kernel_rfl) (by simp) ?_
                refine AllReadyH.cons (o := _) rfl (fun K hK => ?_) AllReadyH.nil
                go_simp
                refine hK.out _ _ trivial (fun _ => ?_)
                clear hK K
                (try simp only [Act.put, List.setIfInBounds_toArray, List.set_cons_zero, List.set_cons_succ])
                refine wpAnyH_take (i := 5) (oi := _) (v := ?_) rfl (by kernel_rfl) (by kernel_rfl) (by kernel_rfl) (fun _ _ _ h => h) (Or.inl ⟨by rfl, ?_⟩) trivial ?_
                rotate_left
                · intro w hSw; clear hSw; go_simp; first | done | with_reducible rfl
                (try simp only [Act.put, List.setIfInBounds_toArray, List.set_cons_zero, List.set_cons_succ])
                refine wpAnyH_ready (rs := [6]) (by kernel_rfl) (by simp) ?_
                refine AllReadyH.cons (o := _) rfl (fun K hK => ?_) AllReadyH.nil
                go_simp
                refine hK.out _ _ trivial (fun _ => ?_)
                clear hK K
                (try simp only [Act.put, List.setIfInBounds_toArray, List.set_cons_zero, List.set_cons_succ])
                have hO := own_full (e := 89) (size := 2) (w') w.heap.size 1 #[.int .i64 (oneOf (-1) 1000 x), .int .i64 (1)] (by have := hG'.size; simp; omega) (by simp [maxLen]) rfl
                try rw [World.size_alloc] at hO
                refine wpAnyH_ready (rs := [12]) (by kernel_rfl) (by simp) ?_
                refine AllReadyH.cons (o := _) rfl (fun K hK => ?_) AllReadyH.nil
                refine step_append_any chargeElem rfl _ _ rfl w.heap.size _ _ 1 (sc [(oneOf (-1) 1000 x, 1)]) rfl hO _ (r.length + 1) _ rfl (sc (t :: r)) (by rw [sc_len]; simp) (HT1.out _ (by repeat (first | assumption | apply grown_drewS | apply grown_allocS))) (fun h => by cases h) (sc_one _) (by omega) (by omega) (by have := hG'.size; simp; omega) ?_
                intro v' w4 hap
                have HA := hide hap
                clear hap
                refine hK.out _ _ trivial (fun _ => ?_)
                clear hK K
                (try simp only [Act.put, List.setIfInBounds_toArray, List.set_cons_zero, List.set_cons_succ])
                refine wpAnyH_ready (rs := [13]) (by kernel_rfl) (by simp) ?_
                refine AllReadyH.cons (o := _) rfl (fun K hK => ?_) AllReadyH.nil
                go_simp
                refine hK.out _ _ trivial (fun _ => ?_)
                clear hK K
                (try simp only [Act.put, List.setIfInBounds_toArray, List.set_cons_zero, List.set_cons_succ])
                refine wpAnyH_done (by kernel_rfl) ?_ _
                go_wp2
                go_ret
                obtain ⟨ho, hg, _⟩ := HA.out
                exact chargesOk_of (zs := (oneOf (-1) 1000 x, 1) :: (t :: r)) (by first | exact ho | (rw [show ((oneOf (-1) 1000 x, 1) :: (t :: r)).length = 1 + (r.length + 1) by simp; omega]; exact ho)) (by simp; try omega) ⟨((HR6.out.alloc _).kept hg fun b hb => by have := (hO.lt b hb).1; omega).more (by omega), grown_own (grown_trans HG.out (show w3.grownBy _ (some g) by repeat (first | assumption | apply grown_drewS | apply grown_allocS))) hg fun b hb => by have := (hO.lt b hb).1; omega⟩
              ·
                go_simp
                go_at_call 74
                refine (pick_any g (k + 28) 2 _ (by omega) (by omega) (by omega) (by first | exact HR5.out | exact HR5.out.drew | exact (HR5.out.alloc _).drew | exact HR5.out.alloc _ | exact HR5.out.drew.alloc _)).mono ?_
                rintro e w' ⟨x, rfl, hx0, hx1, hR', hG'⟩
                (first | (have hcx := two_old x hx0 hx1 (by omega) hG') | (have hcn := fun W : World => two_new W 3 (-1) 1000 x hx0 hx1))
                have HR6 := hide hR'
                clear hR'
                replace hG' := grown_trans (show w3.grownBy _ (some g) by repeat (first | assumption | apply grown_drewS | apply grown_allocS)) hG'
                go_wp2_with fail
                refine hK.out _ _ trivial (fun _ => ?_)
                clear hK K
                (try simp only [Act.put, List.setIfInBounds_toArray, List.set_cons_zero, List.set_cons_succ])
                refine wpAnyH_ready (rs := [0]) (by kernel_rfl) (by simp) ?_
                refine AllReadyH.cons (o := _) rfl (fun K hK => ?_) AllReadyH.nil
                go_simp
                refine hK.out _ _ trivial (fun _ => ?_)
                clear hK K
                (try simp only [Act.put, List.setIfInBounds_toArray, List.set_cons_zero, List.set_cons_succ])
                refine wpAnyH_take (i := 3) (oi := _) (v := ?_) rfl (by kernel_rfl) (by kernel_rfl) (by kernel_rfl) (fun _ _ _ h => h) (Or.inl ⟨by rfl, ?_⟩) trivial ?_
                rotate_left
                · intro w hSw; clear hSw; go_simp; first | done | with_reducible rfl
                (try simp only [Act.put, List.setIfInBounds_toArray, List.set_cons_zero, List.set_cons_succ])
                refine wpAnyH_ready (rs := [4]) (by kernel_rfl) (by simp) ?_
                refine AllReadyH.cons (o := _) rfl (fun K hK => ?_) AllReadyH.nil
                go_simp
                refine hK.out _ _ trivial (fun _ => ?_)
                clear hK K
                (try simp only [Act.put, List.setIfInBounds_toArray, List.set_cons_zero, List.set_cons_succ])
                refine wpAnyH_take (i := 5) (oi := _) (v := ?_) rfl (by kernel_rfl) (by kernel_rfl) (by kernel_rfl) (fun _ _ _ h => h) (Or.inl ⟨by rfl, ?_⟩) trivial ?_
                rotate_left
                · intro w hSw; clear hSw; go_simp; first | done | with_reducible rfl
                (try simp only [Act.put, List.setIfInBounds_toArray, List.set_cons_zero, List.set_cons_succ])
                refine wpAnyH_ready (rs := [6]) (by kernel_rfl) (by simp) ?_
                refine AllReadyH.cons (o := _) rfl (fun K hK => ?_) AllReadyH.nil
                go_simp
                refine hK.out _ _ trivial (fun _ => ?_)
                clear hK K
                (try simp only [Act.put, List.setIfInBounds_toArray, List.set_cons_zero, List.set_cons_succ])
                have hO := own_full (e := 89) (size := 2) (w'.alloc (.cells #[.int .i64 (-1), .int .i64 1000] 3)) w.heap.size 1 #[.int .i64 (oneOf (-1) 1000 x), .int .i64 (1)] (by have := hG'.size; simp; omega) (by simp [maxLen]) rfl
                try rw [World.size_alloc] at hO
                refine wpAnyH_ready (rs := [12]) (by kernel_rfl) (by simp) ?_
                refine AllReadyH.cons (o := _) rfl (fun K hK => ?_) AllReadyH.nil
                refine step_append_any chargeElem rfl _ _ rfl w.heap.size _ _ 1 (sc [(oneOf (-1) 1000 x, 1)]) rfl hO _ (r.length + 1) _ rfl (sc (t :: r)) (by rw [sc_len]; simp) (HT1.out _ (by repeat (first | assumption | apply grown_drewS | apply grown_allocS))) (fun h => by cases h) (sc_one _) (by omega) (by omega) (by have := hG'.size; simp; omega) ?_
                intro v' w4 hap
                have HA := hide hap
                clear hap
                refine hK.out _ _ trivial (fun _ => ?_)
                clear hK K
                (try simp only [Act.put, List.setIfInBounds_toArray, List.set_cons_zero, List.set_cons_succ])
                refine wpAnyH_ready (rs := [13]) (by kernel_rfl) (by simp) ?_
                refine AllReadyH.cons (o := _) rfl (fun K hK => ?_) AllReadyH.nil
                go_simp
                refine hK.out _ _ trivial (fun _ => ?_)
                clear hK K
                (try simp only [Act.put, List.setIfInBounds_toArray, List.set_cons_zero, List.set_cons_succ])
                refine wpAnyH_done (by kernel_rfl) ?_ _
                go_wp2
                go_ret
                obtain ⟨ho, hg, _⟩ := HA.out
                exact chargesOk_of (zs := (oneOf (-1) 1000 x, 1) :: (t :: r)) (by first | exact ho | (rw [show ((oneOf (-1) 1000 x, 1) :: (t :: r)).length = 1 + (r.length + 1) by simp; omega]; exact ho)) (by simp; try omega) ⟨(((HR6.out.alloc _).alloc _).kept hg fun b hb => by have := (hO.lt b hb).1; omega).more (by omega), grown_own (grown_trans HG.out (show w3.grownBy _ (some g) by repeat (first | assumption | apply grown_drewS | apply grown_allocS))) hg fun b hb => by have := (hO.lt b hb).1; omega⟩
        ·
          have HT := hide (fun (W : World) (h : w3.grownBy W (some g)) => (Own.of_row hown).rd.kept (Nat.le_refl _) h fun b o s e => by subst e; intro e; injection e with e; have := (hown.lt b rfl).1; omega)
          have HR5 := hide (HR.out.more (show _ ≤ k + 28 by omega))
          have hG0 := grown_self w3 (some g)
          by_cases hz : zs.length = 0
          · obtain rfl := List.eq_nil_of_length_eq_zero hz
            have hmin : min (1 : Int) 0 = 0 := rfl
            clear HT
            cases L
            ·
              go_wp2
              refine wp_region_held_drew (S := fun _ => True) (by kernel_rfl) trivial (fun _ => ?_)
              refine wpAnyH_take (i := 1) (oi := _) (v := ?_) rfl (by kernel_rfl) (by kernel_rfl) (by kernel_rfl) (fun _ _ _ h => h) (Or.inl ⟨by rfl, ?_⟩) trivial ?_
              rotate_left
              · intro w hSw; clear hSw; go_simp; first | done | with_reducible rfl
              (try simp only [Act.put, List.setIfInBounds_toArray, List.set_cons_zero, List.set_cons_succ])
              refine wpAnyH_take (i := 7) (oi := _) (v := ?_) rfl (by kernel_rfl) (by kernel_rfl) (by kernel_rfl) (fun _ _ _ h => h) (Or.inl ⟨by rfl, ?_⟩) trivial ?_
              rotate_left
              · intro w hSw; clear hSw; go_simp; first | done | with_reducible rfl
              (try simp only [Act.put, List.setIfInBounds_toArray, List.set_cons_zero, List.set_cons_succ])
              refine wpAnyH_take (i := 8) (oi := _) (v := ?_) rfl (by kernel_rfl) (by kernel_rfl) (by kernel_rfl) (fun _ _ _ h => h) (Or.inl ⟨by rfl, ?_⟩) trivial ?_
              rotate_left
              · intro w hSw; clear hSw; go_simp; first | done | with_reducible rfl
              (try simp only [Act.put, List.setIfInBounds_toArray, List.set_cons_zero, List.set_cons_succ])
              refine wpAnyH_take (i := 9) (oi := _) (v := ?_) rfl (by kernel_rfl) (by kernel_rfl) (by kernel_rfl) (fun _ _ _ h => h) (Or.inl ⟨by rfl, ?_⟩) trivial ?_
              rotate_left
              · intro w hSw; clear hSw; go_simp; first | done | with_reducible rfl
              (try simp only [Act.put, List.setIfInBounds_toArray, List.set_cons_zero, List.set_cons_succ])
              refine wpAnyH_take (i := 10) (oi := _) (v := ?_) rfl (by kernel_rfl) (by kernel_rfl) (by kernel_rfl) (fun _ _ _ h => h) (Or.inl ⟨by rfl, ?_⟩) trivial ?_
              rotate_left
              · intro w hSw; clear hSw; go_simp; first | done | with_reducible rfl
              (try simp only [Act.put, List.setIfInBounds_toArray, List.set_cons_zero, List.set_cons_succ])
              refine wpAnyH_take (i := 11) (oi := _) (v := ?_) rfl (by kernel_rfl) (by kernel_rfl) (by kernel_rfl) (fun _ _ _ h => h) (Or.inl ⟨by rfl, ?_⟩) trivial ?_
              rotate_left
              · intro w hSw; clear hSw; go_simp; first | done | with_reducible rfl
              (try simp only [Act.put, List.setIfInBounds_toArray, List.set_cons_zero, List.set_cons_succ])
              refine wpAnyH_ready (rs := [0, 2]) (by kernel_rfl) (by simp) ?_
              refine AllReadyH.cons (o := _) rfl (fun K hK => ?_) (AllReadyH.cons (o := _) rfl (fun K hK => ?_) AllReadyH.nil)
              · go_simp
                refine hK.out _ _ trivial (fun _ => ?_)
                clear hK K
                (try simp only [Act.put, List.setIfInBounds_toArray, List.set_cons_zero, List.set_cons_succ])
                refine wpAnyH_ready (rs := [2]) (by kernel_rfl) (by simp) ?_
                refine AllReadyH.cons (o := _) rfl (fun K hK => ?_) AllReadyH.nil
                go_simp
                go_at_call 74
                refine (pick_any g (k + 28) 2 _ (by omega) (by omega) (by omega) (by first | exact HR5.out | exact HR5.out.drew | exact (HR5.out.alloc _).drew | exact HR5.out.alloc _ | exact HR5.out.drew.alloc _)).mono ?_
                rintro e w' ⟨x, rfl, hx0, hx1, hR', hG'⟩
                (first | (have hcx := two_old x hx0 hx1 (by omega) hG') | (have hcn := fun W : World => two_new W 3 (0) 100 x hx0 hx1))
                have HR6 := hide hR'
                clear hR'
                replace hG' := grown_trans (show w3.grownBy _ (some g) by repeat (first | assumption | apply grown_drewS | apply grown_allocS)) hG'
                go_wp2_with fail
                refine hK.out _ _ trivial (fun _ => ?_)
                clear hK K
                (try simp only [Act.put, List.setIfInBounds_toArray, List.set_cons_zero, List.set_cons_succ])
                refine wpAnyH_take (i := 3) (oi := _) (v := ?_) rfl (by kernel_rfl) (by kernel_rfl) (by kernel_rfl) (fun _ _ _ h => h) (Or.inl ⟨by rfl, ?_⟩) trivial ?_
                rotate_left
                · intro w hSw; clear hSw; go_simp; first | done | with_reducible rfl
                (try simp only [Act.put, List.setIfInBounds_toArray, List.set_cons_zero, List.set_cons_succ])
                refine wpAnyH_ready (rs := [4]) (by kernel_rfl) (by simp) ?_
                refine AllReadyH.cons (o := _) rfl (fun K hK => ?_) AllReadyH.nil
                go_simp
                refine hK.out _ _ trivial (fun _ => ?_)
                clear hK K
                (try simp only [Act.put, List.setIfInBounds_toArray, List.set_cons_zero, List.set_cons_succ])
                refine wpAnyH_take (i := 5) (oi := _) (v := ?_) rfl (by kernel_rfl) (by kernel_rfl) (by kernel_rfl) (fun _ _ _ h => h) (Or.inl ⟨by rfl, ?_⟩) trivial ?_
                rotate_left
                · intro w hSw; clear hSw; go_simp; first | done | with_reducible rfl
                (try simp only [Act.put, List.setIfInBounds_toArray, List.set_cons_zero, List.set_cons_succ])
                refine wpAnyH_ready (rs := [6]) (by kernel_rfl) (by simp) ?_
                refine AllReadyH.cons (o := _) rfl (fun K hK => ?_) AllReadyH.nil
                go_simp
                refine hK.out _ _ trivial (fun _ => ?_)
                clear hK K
                (try simp only [Act.put, List.setIfInBounds_toArray, List.set_cons_zero, List.set_cons_succ])
                have hO := own_full (e := 89) (size := 2) (w') w.heap.size 1 #[.int .i64 (0), .int .i64 (oneOf 0 100 x)] (by have := hG'.size; simp; omega) (by simp [maxLen]) rfl
                try rw [World.size_alloc] at hO
                refine wpAnyH_ready (rs := [12]) (by kernel_rfl) (by simp) ?_
                refine AllReadyH.cons (o := _) rfl (fun K hK => ?_) AllReadyH.nil
                refine step_append_any chargeElem rfl _ _ rfl w.heap.size 0 _ 1 (sc [(0, oneOf 0 100 x)]) rfl hO _ 0 _ rfl [] rfl (.inl rfl) (fun _ => rfl) (fun _ h => by cases h) (by omega) (by omega) (by have := hG'.size; simp; omega) ?_
                intro v' w4 hap
                have HA := hide hap
                clear hap
                refine hK.out _ _ trivial (fun _ => ?_)
                clear hK K
                (try simp only [Act.put, List.setIfInBounds_toArray, List.set_cons_zero, List.set_cons_succ])
                refine wpAnyH_ready (rs := [13]) (by kernel_rfl) (by simp) ?_
                refine AllReadyH.cons (o := _) rfl (fun K hK => ?_) AllReadyH.nil
                go_simp
                refine hK.out _ _ trivial (fun _ => ?_)
                clear hK K
                (try simp only [Act.put, List.setIfInBounds_toArray, List.set_cons_zero, List.set_cons_succ])
                refine wpAnyH_done (by kernel_rfl) ?_ _
                go_wp2
                go_ret
                obtain ⟨ho, hg, _⟩ := HA.out
                exact chargesOk_of (zs := (0, oneOf 0 100 x) :: []) (by first | exact ho | (rw [show ((0, oneOf 0 100 x) :: []).length = 1 + 0 by simp; omega]; exact ho)) (by simp; try omega) ⟨((HR6.out.alloc _).kept hg fun b hb => by have := (hO.lt b hb).1; omega).more (by omega), grown_own (grown_trans HG.out (show w3.grownBy _ (some g) by repeat (first | assumption | apply grown_drewS | apply grown_allocS))) hg fun b hb => by have := (hO.lt b hb).1; omega⟩
              ·
                go_simp
                go_at_call 74
                refine (pick_any g (k + 28) 2 _ (by omega) (by omega) (by omega) (by first | exact HR5.out | exact HR5.out.drew | exact (HR5.out.alloc _).drew | exact HR5.out.alloc _ | exact HR5.out.drew.alloc _)).mono ?_
                rintro e w' ⟨x, rfl, hx0, hx1, hR', hG'⟩
                (first | (have hcx := two_old x hx0 hx1 (by omega) hG') | (have hcn := fun W : World => two_new W 3 (0) 100 x hx0 hx1))
                have HR6 := hide hR'
                clear hR'
                replace hG' := grown_trans (show w3.grownBy _ (some g) by repeat (first | assumption | apply grown_drewS | apply grown_allocS)) hG'
                go_wp2_with fail
                refine hK.out _ _ trivial (fun _ => ?_)
                clear hK K
                (try simp only [Act.put, List.setIfInBounds_toArray, List.set_cons_zero, List.set_cons_succ])
                refine wpAnyH_ready (rs := [0]) (by kernel_rfl) (by simp) ?_
                refine AllReadyH.cons (o := _) rfl (fun K hK => ?_) AllReadyH.nil
                go_simp
                refine hK.out _ _ trivial (fun _ => ?_)
                clear hK K
                (try simp only [Act.put, List.setIfInBounds_toArray, List.set_cons_zero, List.set_cons_succ])
                refine wpAnyH_take (i := 3) (oi := _) (v := ?_) rfl (by kernel_rfl) (by kernel_rfl) (by kernel_rfl) (fun _ _ _ h => h) (Or.inl ⟨by rfl, ?_⟩) trivial ?_
                rotate_left
                · intro w hSw; clear hSw; go_simp; first | done | with_reducible rfl
                (try simp only [Act.put, List.setIfInBounds_toArray, List.set_cons_zero, List.set_cons_succ])
                refine wpAnyH_ready (rs := [4]) (by kernel_rfl) (by simp) ?_
                refine AllReadyH.cons (o := _) rfl (fun K hK => ?_) AllReadyH.nil
                go_simp
                refine hK.out _ _ trivial (fun _ => ?_)
                clear hK K
                (try simp only [Act.put, List.setIfInBounds_toArray, List.set_cons_zero, List.set_cons_succ])
                refine wpAnyH_take (i := 5) (oi := _) (v := ?_) rfl (by kernel_rfl) (by kernel_rfl) (by kernel_rfl) (fun _ _ _ h => h) (Or.inl ⟨by rfl, ?_⟩) trivial ?_
                rotate_left
                · intro w hSw; clear hSw; go_simp; first | done | with_reducible rfl
                (try simp only [Act.put, List.setIfInBounds_toArray, List.set_cons_zero, List.set_cons_succ])
                refine wpAnyH_ready (rs := [6]) (by kernel_rfl) (by simp) ?_
                refine AllReadyH.cons (o := _) rfl (fun K hK => ?_) AllReadyH.nil
                go_simp
                refine hK.out _ _ trivial (fun _ => ?_)
                clear hK K
                (try simp only [Act.put, List.setIfInBounds_toArray, List.set_cons_zero, List.set_cons_succ])
                have hO := own_full (e := 89) (size := 2) (w'.alloc (.cells #[.int .i64 (0), .int .i64 100] 3)) w.heap.size 1 #[.int .i64 (0), .int .i64 (oneOf 0 100 x)] (by have := hG'.size; simp; omega) (by simp [maxLen]) rfl
                try rw [World.size_alloc] at hO
                refine wpAnyH_ready (rs := [12]) (by kernel_rfl) (by simp) ?_
                refine AllReadyH.cons (o := _) rfl (fun K hK => ?_) AllReadyH.nil
                refine step_append_any chargeElem rfl _ _ rfl w.heap.size 0 _ 1 (sc [(0, oneOf 0 100 x)]) rfl hO _ 0 _ rfl [] rfl (.inl rfl) (fun _ => rfl) (fun _ h => by cases h) (by omega) (by omega) (by have := hG'.size; simp; omega) ?_
                intro v' w4 hap
                have HA := hide hap
                clear hap
                refine hK.out _ _ trivial (fun _ => ?_)
                clear hK K
                (try simp only [Act.put, List.setIfInBounds_toArray, List.set_cons_zero, List.set_cons_succ])
                refine wpAnyH_ready (rs := [13]) (by kernel_rfl) (by simp) ?_
                refine AllReadyH.cons (o := _) rfl (fun K hK => ?_) AllReadyH.nil
                go_simp
                refine hK.out _ _ trivial (fun _ => ?_)
                clear hK K
                (try simp only [Act.put, List.setIfInBounds_toArray, List.set_cons_zero, List.set_cons_succ])
                refine wpAnyH_done (by kernel_rfl) ?_ _
                go_wp2
                go_ret
                obtain ⟨ho, hg, _⟩ := HA.out
                exact chargesOk_of (zs := (0, oneOf 0 100 x) :: []) (by first | exact ho | (rw [show ((0, oneOf 0 100 x) :: []).length = 1 + 0 by simp; omega]; exact ho)) (by simp; try omega) ⟨(((HR6.out.alloc _).alloc _).kept hg fun b hb => by have := (hO.lt b hb).1; omega).more (by omega), grown_own (grown_trans HG.out (show w3.grownBy _ (some g) by repeat (first | assumption | apply grown_drewS | apply grown_allocS))) hg fun b hb => by have := (hO.lt b hb).1; omega⟩
            ·
              go_wp2
              refine wp_region_held_drew (S := fun _ => True) (by kernel_rfl) trivial (fun _ => ?_)
              refine wpAnyH_take (i := 1) (oi := _) (v := ?_) rfl (by kernel_rfl) (by kernel_rfl) (by kernel_rfl) (fun _ _ _ h => h) (Or.inl ⟨by rfl, ?_⟩) trivial ?_
              rotate_left
              · intro w hSw; clear hSw; go_simp; first | done | with_reducible rfl
              (try simp only [Act.put, List.setIfInBounds_toArray, List.set_cons_zero, List.set_cons_succ])
              refine wpAnyH_take (i := 7) (oi := _) (v := ?_) rfl (by kernel_rfl) (by kernel_rfl) (by kernel_rfl) (fun _ _ _ h => h) (Or.inl ⟨by rfl, ?_⟩) trivial ?_
              rotate_left
              · intro w hSw; clear hSw; go_simp; first | done | with_reducible rfl
              (try simp only [Act.put, List.setIfInBounds_toArray, List.set_cons_zero, List.set_cons_succ])
              refine wpAnyH_take (i := 8) (oi := _) (v := ?_) rfl (by kernel_rfl) (by kernel_rfl) (by kernel_rfl) (fun _ _ _ h => h) (Or.inl ⟨by rfl, ?_⟩) trivial ?_
              rotate_left
              · intro w hSw; clear hSw; go_simp; first | done | with_reducible rfl
              (try simp only [Act.put, List.setIfInBounds_toArray, List.set_cons_zero, List.set_cons_succ])
              refine wpAnyH_take (i := 9) (oi := _) (v := ?_) rfl (by kernel_rfl) (by kernel_rfl) (by kernel_rfl) (fun _ _ _ h => h) (Or.inl ⟨by rfl, ?_⟩) trivial ?_
              rotate_left
              · intro w hSw; clear hSw; go_simp; first | done | with_reducible rfl
              (try simp only [Act.put, List.setIfInBounds_toArray, List.set_cons_zero, List.set_cons_succ])
              refine wpAnyH_take (i := 10) (oi := _) (v := ?_) rfl (by kernel_rfl) (by kernel_rfl) (by kernel_rfl) (fun _ _ _ h => h) (Or.inl ⟨by rfl, ?_⟩) trivial ?_
              rotate_left
              · intro w hSw; clear hSw; go_simp; first | done | with_reducible rfl
              (try simp only [Act.put, List.setIfInBounds_toArray, List.set_cons_zero, List.set_cons_succ])
              refine wpAnyH_take (i := 11) (oi := _) (v := ?_) rfl (by kernel_rfl) (by kernel_rfl) (by kernel_rfl) (fun _ _ _ h => h) (Or.inl ⟨by rfl, ?_⟩) trivial ?_
              rotate_left
              · intro w hSw; clear hSw; go_simp; first | done | with_reducible rfl
              (try simp only [Act.put, List.setIfInBounds_toArray, List.set_cons_zero, List.set_cons_succ])
              refine wpAnyH_ready (rs := [0, 2]) (by kernel_rfl) (by simp) ?_
              refine AllReadyH.cons (o := _) rfl (fun K hK => ?_) (AllReadyH.cons (o := _) rfl (fun K hK => ?_) AllReadyH.nil)
              · go_simp
                refine hK.out _ _ trivial (fun _ => ?_)
                clear hK K
                (try simp only [Act.put, List.setIfInBounds_toArray, List.set_cons_zero, List.set_cons_succ])
                refine wpAnyH_ready (rs := [2]) (by kernel_rfl) (by simp) ?_
                refine AllReadyH.cons (o := _) rfl (fun K hK => ?_) AllReadyH.nil
                go_simp
                go_at_call 74
                refine (pick_any g (k + 28) 2 _ (by omega) (by omega) (by omega) (by first | exact HR5.out | exact HR5.out.drew | exact (HR5.out.alloc _).drew | exact HR5.out.alloc _ | exact HR5.out.drew.alloc _)).mono ?_
                rintro e w' ⟨x, rfl, hx0, hx1, hR', hG'⟩
                (first | (have hcx := two_old x hx0 hx1 (by omega) hG') | (have hcn := fun W : World => two_new W 3 (0) 100 x hx0 hx1))
                have HR6 := hide hR'
                clear hR'
                replace hG' := grown_trans (show w3.grownBy _ (some g) by repeat (first | assumption | apply grown_drewS | apply grown_allocS)) hG'
                go_wp2_with fail
                refine hK.out _ _ trivial (fun _ => ?_)
                clear hK K
                (try simp only [Act.put, List.setIfInBounds_toArray, List.set_cons_zero, List.set_cons_succ])
                refine wpAnyH_take (i := 3) (oi := _) (v := ?_) rfl (by kernel_rfl) (by kernel_rfl) (by kernel_rfl) (fun _ _ _ h => h) (Or.inl ⟨by rfl, ?_⟩) trivial ?_
                rotate_left
                · intro w hSw; clear hSw; go_simp; first | done | with_reducible rfl
                (try simp only [Act.put, List.setIfInBounds_toArray, List.set_cons_zero, List.set_cons_succ])
                refine wpAnyH_ready (rs := [4]) (by kernel_rfl) (by simp) ?_
                refine AllReadyH.cons (o := _) rfl (fun K hK => ?_) AllReadyH.nil
                go_simp
                refine hK.out _ _ trivial (fun _ => ?_)
                clear hK K
                (try simp only [Act.put, List.setIfInBounds_toArray, List.set_cons_zero, List.set_cons_succ])
                refine wpAnyH_take (i := 5) (oi := _) (v := ?_) rfl (by kernel_rfl) (by kernel_rfl) (by kernel_rfl) (fun _ _ _ h => h) (Or.inl ⟨by rfl, ?_⟩) trivial ?_
                rotate_left
                · intro w hSw; clear hSw; go_simp; first | done | with_reducible rfl
                (try simp only [Act.put, List.setIfInBounds_toArray, List.set_cons_zero, List.set_cons_succ])
                refine wpAnyH_ready (rs := [6]) (by kernel_rfl) (by simp) ?_
                refine AllReadyH.cons (o := _) rfl (fun K hK => ?_) AllReadyH.nil
                go_simp
                refine hK.out _ _ trivial (fun _ => ?_)
                clear hK K
                (try simp only [Act.put, List.setIfInBounds_toArray, List.set_cons_zero, List.set_cons_succ])
                have hO := own_full (e := 89) (size := 2) (w') w.heap.size 1 #[.int .i64 (0), .int .i64 (oneOf 0 100 x)] (by have := hG'.size; simp; omega) (by simp [maxLen]) rfl
                try rw [World.size_alloc] at hO
                refine wpAnyH_ready (rs := [12]) (by kernel_rfl) (by simp) ?_
                refine AllReadyH.cons (o := _) rfl (fun K hK => ?_) AllReadyH.nil
                refine step_append_any chargeElem rfl _ _ rfl w.heap.size 0 _ 1 (sc [(0, oneOf 0 100 x)]) rfl hO _ 0 _ rfl [] rfl (.inl rfl) (fun _ => rfl) (fun _ h => by cases h) (by omega) (by omega) (by have := hG'.size; simp; omega) ?_
                intro v' w4 hap
                have HA := hide hap
                clear hap
                refine hK.out _ _ trivial (fun _ => ?_)
                clear hK K
                (try simp only [Act.put, List.setIfInBounds_toArray, List.set_cons_zero, List.set_cons_succ])
                refine wpAnyH_ready (rs := [13]) (by kernel_rfl) (by simp) ?_
                refine AllReadyH.cons (o := _) rfl (fun K hK => ?_) AllReadyH.nil
                go_simp
                refine hK.out _ _ trivial (fun _ => ?_)
                clear hK K
                (try simp only [Act.put, List.setIfInBounds_toArray, List.set_cons_zero, List.set_cons_succ])
                refine wpAnyH_done (by kernel_rfl) ?_ _
                go_wp2
                go_ret
                obtain ⟨ho, hg, _⟩ := HA.out
                exact chargesOk_of (zs := (0, oneOf 0 100 x) :: []) (by first | exact ho | (rw [show ((0, oneOf 0 100 x) :: []).length = 1 + 0 by simp; omega]; exact ho)) (by simp; try omega) ⟨((HR6.out.alloc _).kept hg fun b hb => by have := (hO.lt b hb).1; omega).more (by omega), grown_own (grown_trans HG.out (show w3.grownBy _ (some g) by repeat (first | assumption | apply grown_drewS | apply grown_allocS))) hg fun b hb => by have := (hO.lt b hb).1; omega⟩
              ·
                go_simp
                go_at_call 74
                refine (pick_any g (k + 28) 2 _ (by omega) (by omega) (by omega) (by first | exact HR5.out | exact HR5.out.drew | exact (HR5.out.alloc _).drew | exact HR5.out.alloc _ | exact HR5.out.drew.alloc _)).mono ?_
                rintro e w' ⟨x, rfl, hx0, hx1, hR', hG'⟩
                (first | (have hcx := two_old x hx0 hx1 (by omega) hG') | (have hcn := fun W : World => two_new W 3 (0) 100 x hx0 hx1))
                have HR6 := hide hR'
                clear hR'
                replace hG' := grown_trans (show w3.grownBy _ (some g) by repeat (first | assumption | apply grown_drewS | apply grown_allocS)) hG'
                go_wp2_with fail
                refine hK.out _ _ trivial (fun _ => ?_)
                clear hK K
                (try simp only [Act.put, List.setIfInBounds_toArray, List.set_cons_zero, List.set_cons_succ])
                refine wpAnyH_ready (rs := [0]) (by kernel_rfl) (by simp) ?_
                refine AllReadyH.cons (o := _) rfl (fun K hK => ?_) AllReadyH.nil
                go_simp
                refine hK.out _ _ trivial (fun _ => ?_)
                clear hK K
                (try simp only [Act.put, List.setIfInBounds_toArray, List.set_cons_zero, List.set_cons_succ])
                refine wpAnyH_take (i := 3) (oi := _) (v := ?_) rfl (by kernel_rfl) (by kernel_rfl) (by kernel_rfl) (fun _ _ _ h => h) (Or.inl ⟨by rfl, ?_⟩) trivial ?_
                rotate_left
                · intro w hSw; clear hSw; go_simp; first | done | with_reducible rfl
                (try simp only [Act.put, List.setIfInBounds_toArray, List.set_cons_zero, List.set_cons_succ])
                refine wpAnyH_ready (rs := [4]) (by kernel_rfl) (by simp) ?_
                refine AllReadyH.cons (o := _) rfl (fun K hK => ?_) AllReadyH.nil
                go_simp
                refine hK.out _ _ trivial (fun _ => ?_)
                clear hK K
                (try simp only [Act.put, List.setIfInBounds_toArray, List.set_cons_zero, List.set_cons_succ])
                refine wpAnyH_take (i := 5) (oi := _) (v := ?_) rfl (by kernel_rfl) (by kernel_rfl) (by kernel_rfl) (fun _ _ _ h => h) (Or.inl ⟨by rfl, ?_⟩) trivial ?_
                rotate_left
                · intro w hSw; clear hSw; go_simp; first | done | with_reducible rfl
                (try simp only [Act.put, List.setIfInBounds_toArray, List.set_cons_zero, List.set_cons_succ])
                refine wpAnyH_ready (rs := [6]) (by kernel_rfl) (by simp) ?_
                refine AllReadyH.cons (o := _) rfl (fun K hK => ?_) AllReadyH.nil
                go_simp
                refine hK.out _ _ trivial (fun _ => ?_)
                clear hK K
                (try simp only [Act.put, List.setIfInBounds_toArray, List.set_cons_zero, List.set_cons_succ])
                have hO := own_full (e := 89) (size := 2) (w'.alloc (.cells #[.int .i64 (0), .int .i64 100] 3)) w.heap.size 1 #[.int .i64 (0), .int .i64 (oneOf 0 100 x)] (by have := hG'.size; simp; omega) (by simp [maxLen]) rfl
                try rw [World.size_alloc] at hO
                refine wpAnyH_ready (rs := [12]) (by kernel_rfl) (by simp) ?_
                refine AllReadyH.cons (o := _) rfl (fun K hK => ?_) AllReadyH.nil
                refine step_append_any chargeElem rfl _ _ rfl w.heap.size 0 _ 1 (sc [(0, oneOf 0 100 x)]) rfl hO _ 0 _ rfl [] rfl (.inl rfl) (fun _ => rfl) (fun _ h => by cases h) (by omega) (by omega) (by have := hG'.size; simp; omega) ?_
                intro v' w4 hap
                have HA := hide hap
                clear hap
                refine hK.out _ _ trivial (fun _ => ?_)
                clear hK K
                (try simp only [Act.put, List.setIfInBounds_toArray, List.set_cons_zero, List.set_cons_succ])
                refine wpAnyH_ready (rs := [13]) (by kernel_rfl) (by simp) ?_
                refine AllReadyH.cons (o := _) rfl (fun K hK => ?_) AllReadyH.nil
                go_simp
                refine hK.out _ _ trivial (fun _ => ?_)
                clear hK K
                (try simp only [Act.put, List.setIfInBounds_toArray, List.set_cons_zero, List.set_cons_succ])
                refine wpAnyH_done (by kernel_rfl) ?_ _
                go_wp2
                go_ret
                obtain ⟨ho, hg, _⟩ := HA.out
                exact chargesOk_of (zs := (0, oneOf 0 100 x) :: []) (by first | exact ho | (rw [show ((0, oneOf 0 100 x) :: []).length = 1 + 0 by simp; omega]; exact ho)) (by simp; try omega) ⟨(((HR6.out.alloc _).alloc _).kept hg fun b hb => by have := (hO.lt b hb).1; omega).more (by omega), grown_own (grown_trans HG.out (show w3.grownBy _ (some g) by repeat (first | assumption | apply grown_drewS | apply grown_allocS))) hg fun b hb => by have := (hO.lt b hb).1; omega⟩
          · obtain ⟨gL, hL, _, _⟩ := (Own.of_row hown).row (by intro e; have := sc_len zs; rw [e] at this; simp at this; omega)
            subst hL
            have HT1 := hide (fun (W : World) (h : w3.grownBy W (some g)) => (HT.out W h).sheets_drop 1)
            clear HT
            match zs, hz, hzm, hld, HT1 with
            | [s], _, _, hld, _ =>
              have hmin : min (1 : Int) 1 = 1 := rfl
              have hd1 : d = 1 ∨ 2 ≤ d := by simp at hld; omega
              simp only [List.length_cons, List.length_nil, Nat.zero_add] at *
              rcases hd1 with rfl | hd2
              ·
                go_wp2
                refine wp_region_held_drew (S := fun _ => True) (by kernel_rfl) trivial (fun _ => ?_)
                refine wpAnyH_take (i := 1) (oi := _) (v := ?_) rfl (by kernel_rfl) (by kernel_rfl) (by kernel_rfl) (fun _ _ _ h => h) (Or.inl ⟨by rfl, ?_⟩) trivial ?_
                rotate_left
                · intro w hSw; clear hSw; go_simp; first | done | with_reducible rfl
                (try simp only [Act.put, List.setIfInBounds_toArray, List.set_cons_zero, List.set_cons_succ])
                refine wpAnyH_take (i := 7) (oi := _) (v := ?_) rfl (by kernel_rfl) (by kernel_rfl) (by kernel_rfl) (fun _ _ _ h => h) (Or.inl ⟨by rfl, ?_⟩) trivial ?_
                rotate_left
                · intro w hSw; clear hSw; go_simp; first | done | with_reducible rfl
                (try simp only [Act.put, List.setIfInBounds_toArray, List.set_cons_zero, List.set_cons_succ])
                refine wpAnyH_take (i := 8) (oi := _) (v := ?_) rfl (by kernel_rfl) (by kernel_rfl) (by kernel_rfl) (fun _ _ _ h => h) (Or.inl ⟨by rfl, ?_⟩) trivial ?_
                rotate_left
                · intro w hSw; clear hSw; go_simp; first | done | with_reducible rfl
                (try simp only [Act.put, List.setIfInBounds_toArray, List.set_cons_zero, List.set_cons_succ])
                refine wpAnyH_take (i := 9) (oi := _) (v := ?_) rfl (by kernel_rfl) (by kernel_rfl) (by kernel_rfl) (fun _ _ _ h => h) (Or.inl ⟨by rfl, ?_⟩) trivial ?_
                rotate_left
                · intro w hSw; clear hSw; go_simp; first | done | with_reducible rfl
                (try simp only [Act.put, List.setIfInBounds_toArray, List.set_cons_zero, List.set_cons_succ])
                refine wpAnyH_take (i := 10) (oi := _) (v := ?_) rfl (by kernel_rfl) (by kernel_rfl) (by kernel_rfl) (fun _ _ _ h => h) (Or.inl ⟨by rfl, ?_⟩) trivial ?_
                rotate_left
                · intro w hSw; clear hSw; go_simp; first | done | with_reducible rfl
                (try simp only [Act.put, List.setIfInBounds_toArray, List.set_cons_zero, List.set_cons_succ])
                refine wpAnyH_take (i := 11) (oi := _) (v := ?_) rfl (by kernel_rfl) (by kernel_rfl) (by kernel_rfl) (fun _ _ _ h => h) (Or.inl ⟨by rfl, ?_⟩) trivial ?_
                rotate_left
                · intro w hSw; clear hSw; go_simp; first | done | with_reducible rfl
                (try simp only [Act.put, List.setIfInBounds_toArray, List.set_cons_zero, List.set_cons_succ])
                refine wpAnyH_ready (rs := [0, 2]) (by kernel_rfl) (by simp) ?_
                refine AllReadyH.cons (o := _) rfl (fun K hK => ?_) (AllReadyH.cons (o := _) rfl (fun K hK => ?_) AllReadyH.nil)
                · go_simp
                  refine hK.out _ _ trivial (fun _ => ?_)
                  clear hK K
                  (try simp only [Act.put, List.setIfInBounds_toArray, List.set_cons_zero, List.set_cons_succ])
                  refine wpAnyH_ready (rs := [2]) (by kernel_rfl) (by simp) ?_
                  refine AllReadyH.cons (o := _) rfl (fun K hK => ?_) AllReadyH.nil
                  go_simp
                  go_at_call 74
                  refine (pick_any g (k + 28) 2 _ (by omega) (by omega) (by omega) (by first | exact HR5.out | exact HR5.out.drew | exact (HR5.out.alloc _).drew | exact HR5.out.alloc _ | exact HR5.out.drew.alloc _)).mono ?_
                  rintro e w' ⟨x, rfl, hx0, hx1, hR', hG'⟩
                  (first | (have hcx := two_old x hx0 hx1 (by omega) hG') | (have hcn := fun W : World => two_new W 3 (0) 100 x hx0 hx1))
                  have HR6 := hide hR'
                  clear hR'
                  replace hG' := grown_trans (show w3.grownBy _ (some g) by repeat (first | assumption | apply grown_drewS | apply grown_allocS)) hG'
                  go_wp2_with fail
                  refine hK.out _ _ trivial (fun _ => ?_)
                  clear hK K
                  (try simp only [Act.put, List.setIfInBounds_toArray, List.set_cons_zero, List.set_cons_succ])
                  refine wpAnyH_take (i := 3) (oi := _) (v := ?_) rfl (by kernel_rfl) (by kernel_rfl) (by kernel_rfl) (fun _ _ _ h => h) (Or.inl ⟨by rfl, ?_⟩) trivial ?_
                  rotate_left
                  · intro w hSw; clear hSw; go_simp; first | done | with_reducible rfl
                  (try simp only [Act.put, List.setIfInBounds_toArray, List.set_cons_zero, List.set_cons_succ])
                  refine wpAnyH_ready (rs := [4]) (by kernel_rfl) (by simp) ?_
                  refine AllReadyH.cons (o := _) rfl (fun K hK => ?_) AllReadyH.nil
                  go_simp
                  refine hK.out _ _ trivial (fun _ => ?_)
                  clear hK K
                  (try simp only [Act.put, List.setIfInBounds_toArray, List.set_cons_zero, List.set_cons_succ])
                  refine wpAnyH_take (i := 5) (oi := _) (v := ?_) rfl (by kernel_rfl) (by kernel_rfl) (by kernel_rfl) (fun _ _ _ h => h) (Or.inl ⟨by rfl, ?_⟩) trivial ?_
                  rotate_left
                  · intro w hSw; clear hSw; go_simp; first | done | with_reducible rfl
                  (try simp only [Act.put, List.setIfInBounds_toArray, List.set_cons_zero, List.set_cons_succ])
                  refine wpAnyH_ready (rs := [6]) (by kernel_rfl) (by simp) ?_
                  refine AllReadyH.cons (o := _) rfl (fun K hK => ?_) AllReadyH.nil
                  go_simp
                  refine hK.out _ _ trivial (fun _ => ?_)
                  clear hK K
                  (try simp only [Act.put, List.setIfInBounds_toArray, List.set_cons_zero, List.set_cons_succ])
                  have hO := own_full (e := 89) (size := 2) (w') w.heap.size 1 #[.int .i64 (0), .int .i64 (oneOf 0 100 x)] (by have := hG'.size; simp; omega) (by simp [maxLen]) rfl
                  try rw [World.size_alloc] at hO
                  refine wpAnyH_ready (rs := [12]) (by kernel_rfl) (by simp) ?_
                  refine AllReadyH.cons (o := _) rfl (fun K hK => ?_) AllReadyH.nil
                  refine step_append_any chargeElem rfl _ _ rfl w.heap.size 0 _ 1 (sc [(0, oneOf 0 100 x)]) rfl hO _ 0 _ rfl [] rfl (.inl rfl) (fun _ => rfl) (fun _ h => by cases h) (by omega) (by omega) (by have := hG'.size; simp; omega) ?_
                  intro v' w4 hap
                  have HA := hide hap
                  clear hap
                  refine hK.out _ _ trivial (fun _ => ?_)
                  clear hK K
                  (try simp only [Act.put, List.setIfInBounds_toArray, List.set_cons_zero, List.set_cons_succ])
                  refine wpAnyH_ready (rs := [13]) (by kernel_rfl) (by simp) ?_
                  refine AllReadyH.cons (o := _) rfl (fun K hK => ?_) AllReadyH.nil
                  go_simp
                  refine hK.out _ _ trivial (fun _ => ?_)
                  clear hK K
                  (try simp only [Act.put, List.setIfInBounds_toArray, List.set_cons_zero, List.set_cons_succ])
                  refine wpAnyH_done (by kernel_rfl) ?_ _
                  go_wp2
                  go_ret
                  obtain ⟨ho, hg, _⟩ := HA.out
                  exact chargesOk_of (zs := (0, oneOf 0 100 x) :: []) (by first | exact ho | (rw [show ((0, oneOf 0 100 x) :: []).length = 1 + 0 by simp; omega]; exact ho)) (by simp; try omega) ⟨((HR6.out.alloc _).kept hg fun b hb => by have := (hO.lt b hb).1; omega).more (by omega), grown_own (grown_trans HG.out (show w3.grownBy _ (some g) by repeat (first | assumption | apply grown_drewS | apply grown_allocS))) hg fun b hb => by have := (hO.lt b hb).1; omega⟩
                ·
                  go_simp
                  go_at_call 74
                  refine (pick_any g (k + 28) 2 _ (by omega) (by omega) (by omega) (by first | exact HR5.out | exact HR5.out.drew | exact (HR5.out.alloc _).drew | exact HR5.out.alloc _ | exact HR5.out.drew.alloc _)).mono ?_
                  rintro e w' ⟨x, rfl, hx0, hx1, hR', hG'⟩
                  (first | (have hcx := two_old x hx0 hx1 (by omega) hG') | (have hcn := fun W : World => two_new W 3 (0) 100 x hx0 hx1))
                  have HR6 := hide hR'
                  clear hR'
                  replace hG' := grown_trans (show w3.grownBy _ (some g) by repeat (first | assumption | apply grown_drewS | apply grown_allocS)) hG'
                  go_wp2_with fail
                  refine hK.out _ _ trivial (fun _ => ?_)
                  clear hK K
                  (try simp only [Act.put, List.setIfInBounds_toArray, List.set_cons_zero, List.set_cons_succ])
                  refine wpAnyH_ready (rs := [0]) (by kernel_rfl) (by simp) ?_
                  refine AllReadyH.cons (o := _) rfl (fun K hK => ?_) AllReadyH.nil
                  go_simp
                  refine hK.out _ _ trivial (fun _ => ?_)
                  clear hK K
                  (try simp only [Act.put, List.setIfInBounds_toArray, List.set_cons_zero, List.set_cons_succ])
                  refine wpAnyH_take (i := 3) (oi := _) (v := ?_) rfl (by kernel_rfl) (by kernel_rfl) (by kernel_rfl) (fun _ _ _ h => h) (Or.inl ⟨by rfl, ?_⟩) trivial ?_
                  rotate_left
                  · intro w hSw; clear hSw; go_simp; first | done | with_reducible rfl
                  (try simp only [Act.put, List.setIfInBounds_toArray, List.set_cons_zero, List.set_cons_succ])
                  refine wpAnyH_ready (rs := [4]) (by kernel_rfl) (by simp) ?_
                  refine AllReadyH.cons (o := _) rfl (fun K hK => ?_) AllReadyH.nil
                  go_simp
                  refine hK.out _ _ trivial (fun _ => ?_)
                  clear hK K
                  (try simp only [Act.put, List.setIfInBounds_toArray, List.set_cons_zero, List.set_cons_succ])
                  refine wpAnyH_take (i := 5) (oi := _) (v := ?_) rfl (by kernel_rfl) (by kernel_rfl) (by kernel_rfl) (fun _ _ _ h => h) (Or.inl ⟨by rfl, ?_⟩) trivial ?_
                  rotate_left
                  · intro w hSw; clear hSw; go_simp; first | done | with_reducible rfl
                  (try simp only [Act.put, List.setIfInBounds_toArray, List.set_cons_zero, List.set_cons_succ])
                  refine wpAnyH_ready (rs := [6]) (by kernel_rfl) (by simp) ?_
                  refine AllReadyH.cons (o := _) rfl (fun K hK => ?_) AllReadyH.nil
                  go_simp
                  refine hK.out _ _ trivial (fun _ => ?_)
                  clear hK K
                  (try simp only [Act.put, List.setIfInBounds_toArray, List.set_cons_zero, List.set_cons_succ])
                  have hO := own_full (e := 89) (size := 2) (w'.alloc (.cells #[.int .i64 (0), .int .i64 100] 3)) w.heap.size 1 #[.int .i64 (0), .int .i64 (oneOf 0 100 x)] (by have := hG'.size; simp; omega) (by simp [maxLen]) rfl
                  try rw [World.size_alloc] at hO
                  refine wpAnyH_ready (rs := [12]) (by kernel_rfl) (by simp) ?_
                  refine AllReadyH.cons (o := _) rfl (fun K hK => ?_) AllReadyH.nil
                  refine step_append_any chargeElem rfl _ _ rfl w.heap.size 0 _ 1 (sc [(0, oneOf 0 100 x)]) rfl hO _ 0 _ rfl [] rfl (.inl rfl) (fun _ => rfl) (fun _ h => by cases h) (by omega) (by omega) (by have := hG'.size; simp; omega) ?_
                  intro v' w4 hap
                  have HA := hide hap
                  clear hap
                  refine hK.out _ _ trivial (fun _ => ?_)
                  clear hK K
                  (try simp only [Act.put, List.setIfInBounds_toArray, List.set_cons_zero, List.set_cons_succ])
                  refine wpAnyH_ready (rs := [13]) (by kernel_rfl) (by simp) ?_
                  refine AllReadyH.cons (o := _) rfl (fun K hK => ?_) AllReadyH.nil
                  go_simp
                  refine hK.out _ _ trivial (fun _ => ?_)
                  clear hK K
                  (try simp only [Act.put, List.setIfInBounds_toArray, List.set_cons_zero, List.set_cons_succ])
                  refine wpAnyH_done (by kernel_rfl) ?_ _
                  go_wp2
                  go_ret
                  obtain ⟨ho, hg, _⟩ := HA.out
                  exact chargesOk_of (zs := (0, oneOf 0 100 x) :: []) (by first | exact ho | (rw [show ((0, oneOf 0 100 x) :: []).length = 1 + 0 by simp; omega]; exact ho)) (by simp; try omega) ⟨(((HR6.out.alloc _).alloc _).kept hg fun b hb => by have := (hO.lt b hb).1; omega).more (by omega), grown_own (grown_trans HG.out (show w3.grownBy _ (some g) by repeat (first | assumption | apply grown_drewS | apply grown_allocS))) hg fun b hb => by have := (hO.lt b hb).1; omega⟩
              ·
                go_wp2
                refine wp_region_held_drew (S := fun _ => True) (by kernel_rfl) trivial (fun _ => ?_)
                refine wpAnyH_take (i := 1) (oi := _) (v := ?_) rfl (by kernel_rfl) (by kernel_rfl) (by kernel_rfl) (fun _ _ _ h => h) (Or.inl ⟨by rfl, ?_⟩) trivial ?_
                rotate_left
                · intro w hSw; clear hSw; go_simp; first | done | with_reducible rfl
                (try simp only [Act.put, List.setIfInBounds_toArray, List.set_cons_zero, List.set_cons_succ])
                refine wpAnyH_take (i := 7) (oi := _) (v := ?_) rfl (by kernel_rfl) (by kernel_rfl) (by kernel_rfl) (fun _ _ _ h => h) (Or.inl ⟨by rfl, ?_⟩) trivial ?_
                rotate_left
                · intro w hSw; clear hSw; go_simp; first | done | with_reducible rfl
                (try simp only [Act.put, List.setIfInBounds_toArray, List.set_cons_zero, List.set_cons_succ])
                refine wpAnyH_take (i := 8) (oi := _) (v := ?_) rfl (by kernel_rfl) (by kernel_rfl) (by kernel_rfl) (fun _ _ _ h => h) (Or.inl ⟨by rfl, ?_⟩) trivial ?_
                rotate_left
                · intro w hSw; clear hSw; go_simp; first | done | with_reducible rfl
                (try simp only [Act.put, List.setIfInBounds_toArray, List.set_cons_zero, List.set_cons_succ])
                refine wpAnyH_take (i := 9) (oi := _) (v := ?_) rfl (by kernel_rfl) (by kernel_rfl) (by kernel_rfl) (fun _ _ _ h => h) (Or.inl ⟨by rfl, ?_⟩) trivial ?_
                rotate_left
                · intro w hSw; clear hSw; go_simp; first | done | with_reducible rfl
                (try simp only [Act.put, List.setIfInBounds_toArray, List.set_cons_zero, List.set_cons_succ])
                refine wpAnyH_take (i := 10) (oi := _) (v := ?_) rfl (by kernel_rfl) (by kernel_rfl) (by kernel_rfl) (fun _ _ _ h => h) (Or.inl ⟨by rfl, ?_⟩) trivial ?_
                rotate_left
                · intro w hSw; clear hSw; go_simp; first | done | with_reducible rfl
                (try simp only [Act.put, List.setIfInBounds_toArray, List.set_cons_zero, List.set_cons_succ])
                refine wpAnyH_take (i := 11) (oi := _) (v := ?_) rfl (by kernel_rfl) (by kernel_rfl) (by kernel_rfl) (fun _ _ _ h => h) (Or.inl ⟨by rfl, ?_⟩) trivial ?_
                rotate_left
                · intro w hSw; clear hSw; go_simp; first | done | with_reducible rfl
                (try simp only [Act.put, List.setIfInBounds_toArray, List.set_cons_zero, List.set_cons_succ])
                refine wpAnyH_ready (rs := [0, 2]) (by kernel_rfl) (by simp) ?_
                refine AllReadyH.cons (o := _) rfl (fun K hK => ?_) (AllReadyH.cons (o := _) rfl (fun K hK => ?_) AllReadyH.nil)
                · go_simp
                  refine hK.out _ _ trivial (fun _ => ?_)
                  clear hK K
                  (try simp only [Act.put, List.setIfInBounds_toArray, List.set_cons_zero, List.set_cons_succ])
                  refine wpAnyH_ready (rs := [2]) (by kernel_rfl) (by simp) ?_
                  refine AllReadyH.cons (o := _) rfl (fun K hK => ?_) AllReadyH.nil
                  go_simp
                  go_at_call 74
                  refine (pick_any g (k + 28) 2 _ (by omega) (by omega) (by omega) (by first | exact HR5.out | exact HR5.out.drew | exact (HR5.out.alloc _).drew | exact HR5.out.alloc _ | exact HR5.out.drew.alloc _)).mono ?_
                  rintro e w' ⟨x, rfl, hx0, hx1, hR', hG'⟩
                  (first | (have hcx := two_old x hx0 hx1 (by omega) hG') | (have hcn := fun W : World => two_new W 3 (0) 100 x hx0 hx1))
                  have HR6 := hide hR'
                  clear hR'
                  replace hG' := grown_trans (show w3.grownBy _ (some g) by repeat (first | assumption | apply grown_drewS | apply grown_allocS)) hG'
                  go_wp2_with fail
                  refine hK.out _ _ trivial (fun _ => ?_)
                  clear hK K
                  (try simp only [Act.put, List.setIfInBounds_toArray, List.set_cons_zero, List.set_cons_succ])
                  refine wpAnyH_take (i := 3) (oi := _) (v := ?_) rfl (by kernel_rfl) (by kernel_rfl) (by kernel_rfl) (fun _ _ _ h => h) (Or.inl ⟨by rfl, ?_⟩) trivial ?_
                  rotate_left
                  · intro w hSw; clear hSw; go_simp; first | done | with_reducible rfl
                  (try simp only [Act.put, List.setIfInBounds_toArray, List.set_cons_zero, List.set_cons_succ])
                  refine wpAnyH_ready (rs := [4]) (by kernel_rfl) (by simp) ?_
                  refine AllReadyH.cons (o := _) rfl (fun K hK => ?_) AllReadyH.nil
                  go_simp
                  refine hK.out _ _ trivial (fun _ => ?_)
                  clear hK K
                  (try simp only [Act.put, List.setIfInBounds_toArray, List.set_cons_zero, List.set_cons_succ])
                  refine wpAnyH_take (i := 5) (oi := _) (v := ?_) rfl (by kernel_rfl) (by kernel_rfl) (by kernel_rfl) (fun _ _ _ h => h) (Or.inl ⟨by rfl, ?_⟩) trivial ?_
                  rotate_left
                  · intro w hSw; clear hSw; go_simp; first | done | with_reducible rfl
                  (try simp only [Act.put, List.setIfInBounds_toArray, List.set_cons_zero, List.set_cons_succ])
                  refine wpAnyH_ready (rs := [6]) (by kernel_rfl) (by simp) ?_
                  refine AllReadyH.cons (o := _) rfl (fun K hK => ?_) AllReadyH.nil
                  go_simp
                  refine hK.out _ _ trivial (fun _ => ?_)
                  clear hK K
                  (try simp only [Act.put, List.setIfInBounds_toArray, List.set_cons_zero, List.set_cons_succ])
                  have hO := own_full (e := 89) (size := 2) (w') w.heap.size 1 #[.int .i64 (0), .int .i64 (oneOf 0 100 x)] (by have := hG'.size; simp; omega) (by simp [maxLen]) rfl
                  try rw [World.size_alloc] at hO
                  refine wpAnyH_ready (rs := [12]) (by kernel_rfl) (by simp) ?_
                  refine AllReadyH.cons (o := _) rfl (fun K hK => ?_) AllReadyH.nil
                  refine step_append_any chargeElem rfl _ _ rfl w.heap.size 0 _ 1 (sc [(0, oneOf 0 100 x)]) rfl hO _ 0 _ rfl [] rfl (.inl rfl) (fun _ => rfl) (fun _ h => by cases h) (by omega) (by omega) (by have := hG'.size; simp; omega) ?_
                  intro v' w4 hap
                  have HA := hide hap
                  clear hap
                  refine hK.out _ _ trivial (fun _ => ?_)
                  clear hK K
                  (try simp only [Act.put, List.setIfInBounds_toArray, List.set_cons_zero, List.set_cons_succ])
                  refine wpAnyH_ready (rs := [13]) (by kernel_rfl) (by simp) ?_
                  refine AllReadyH.cons (o := _) rfl (fun K hK => ?_) AllReadyH.nil
                  go_simp
                  refine hK.out _ _ trivial (fun _ => ?_)
                  clear hK K
                  (try simp only [Act.put, List.setIfInBounds_toArray, List.set_cons_zero, List.set_cons_succ])
                  refine wpAnyH_done (by kernel_rfl) ?_ _
                  go_wp2
                  go_ret
                  obtain ⟨ho, hg, _⟩ := HA.out
                  exact chargesOk_of (zs := (0, oneOf 0 100 x) :: []) (by first | exact ho | (rw [show ((0, oneOf 0 100 x) :: []).length = 1 + 0 by simp; omega]; exact ho)) (by simp; try omega) ⟨((HR6.out.alloc _).kept hg fun b hb => by have := (hO.lt b hb).1; omega).more (by omega), grown_own (grown_trans HG.out (show w3.grownBy _ (some g) by repeat (first | assumption | apply grown_drewS | apply grown_allocS))) hg fun b hb => by have := (hO.lt b hb).1; omega⟩
                ·
                  go_simp
                  go_at_call 74
                  refine (pick_any g (k + 28) 2 _ (by omega) (by omega) (by omega) (by first | exact HR5.out | exact HR5.out.drew | exact (HR5.out.alloc _).drew | exact HR5.out.alloc _ | exact HR5.out.drew.alloc _)).mono ?_
                  rintro e w' ⟨x, rfl, hx0, hx1, hR', hG'⟩
                  (first | (have hcx := two_old x hx0 hx1 (by omega) hG') | (have hcn := fun W : World => two_new W 3 (0) 100 x hx0 hx1))
                  have HR6 := hide hR'
                  clear hR'
                  replace hG' := grown_trans (show w3.grownBy _ (some g) by repeat (first | assumption | apply grown_drewS | apply grown_allocS)) hG'
                  go_wp2_with fail
                  refine hK.out _ _ trivial (fun _ => ?_)
                  clear hK K
                  (try simp only [Act.put, List.setIfInBounds_toArray, List.set_cons_zero, List.set_cons_succ])
                  refine wpAnyH_ready (rs := [0]) (by kernel_rfl) (by simp) ?_
                  refine AllReadyH.cons (o := _) rfl (fun K hK => ?_) AllReadyH.nil
                  go_simp
                  refine hK.out _ _ trivial (fun _ => ?_)
                  clear hK K
                  (try simp only [Act.put, List.setIfInBounds_toArray, List.set_cons_zero, List.set_cons_succ])
                  refine wpAnyH_take (i := 3) (oi := _) (v := ?_) rfl (by kernel_rfl) (by kernel_rfl) (by kernel_rfl) (fun _ _ _ h => h) (Or.inl ⟨by rfl, ?_⟩) trivial ?_
                  rotate_left
                  · intro w hSw; clear hSw; go_simp; first | done | with_reducible rfl
                  (try simp only [Act.put, List.setIfInBounds_toArray, List.set_cons_zero, List.set_cons_succ])
                  refine wpAnyH_ready (rs := [4]) (by kernel_rfl) (by simp) ?_
                  refine AllReadyH.cons (o := _) rfl (fun K hK => ?_) AllReadyH.nil
                  go_simp
                  refine hK.out _ _ trivial (fun _ => ?_)
                  clear hK K
                  (try simp only [Act.put, List.setIfInBounds_toArray, List.set_cons_zero, List.set_cons_succ])
                  refine wpAnyH_take (i := 5) (oi := _) (v := ?_) rfl (by kernel_rfl) (by kernel_rfl) (by kernel_rfl) (fun _ _ _ h => h) (Or.inl ⟨by rfl, ?_⟩) trivial ?_
                  rotate_left
                  · intro w hSw; clear hSw; go_simp; first | done | with_reducible rfl
                  (try simp only [Act.put, List.setIfInBounds_toArray, List.set_cons_zero, List.set_cons_succ])
                  refine wpAnyH_ready (rs := [6]) (by kernel_rfl) (by simp) ?_
                  refine AllReadyH.cons (o := _) rfl (fun K hK => ?_) AllReadyH.nil
                  go_simp
                  refine hK.out _ _ trivial (fun _ => ?_)
                  clear hK K
                  (try simp only [Act.put, List.setIfInBounds_toArray, List.set_cons_zero, List.set_cons_succ])
                  have hO := own_full (e := 89) (size := 2) (w'.alloc (.cells #[.int .i64 (0), .int .i64 100] 3)) w.heap.size 1 #[.int .i64 (0), .int .i64 (oneOf 0 100 x)] (by have := hG'.size; simp; omega) (by simp [maxLen]) rfl
                  try rw [World.size_alloc] at hO
                  refine wpAnyH_ready (rs := [12]) (by kernel_rfl) (by simp) ?_
                  refine AllReadyH.cons (o := _) rfl (fun K hK => ?_) AllReadyH.nil
                  refine step_append_any chargeElem rfl _ _ rfl w.heap.size 0 _ 1 (sc [(0, oneOf 0 100 x)]) rfl hO _ 0 _ rfl [] rfl (.inl rfl) (fun _ => rfl) (fun _ h => by cases h) (by omega) (by omega) (by have := hG'.size; simp; omega) ?_
                  intro v' w4 hap
                  have HA := hide hap
                  clear hap
                  refine hK.out _ _ trivial (fun _ => ?_)
                  clear hK K
                  (try simp only [Act.put, List.setIfInBounds_toArray, List.set_cons_zero, List.set_cons_succ])
                  refine wpAnyH_ready (rs := [13]) (by kernel_rfl) (by simp) ?_
                  refine AllReadyH.cons (o := _) rfl (fun K hK => ?_) AllReadyH.nil
                  go_simp
                  refine hK.out _ _ trivial (fun _ => ?_)
                  clear hK K
                  (try simp only [Act.put, List.setIfInBounds_toArray, List.set_cons_zero, List.set_cons_succ])
                  refine wpAnyH_done (by kernel_rfl) ?_ _
                  go_wp2
                  go_ret
                  obtain ⟨ho, hg, _⟩ := HA.out
                  exact chargesOk_of (zs := (0, oneOf 0 100 x) :: []) (by first | exact ho | (rw [show ((0, oneOf 0 100 x) :: []).length = 1 + 0 by simp; omega]; exact ho)) (by simp; try omega) ⟨(((HR6.out.alloc _).alloc _).kept hg fun b hb => by have := (hO.lt b hb).1; omega).more (by omega), grown_own (grown_trans HG.out (show w3.grownBy _ (some g) by repeat (first | assumption | apply grown_drewS | apply grown_allocS))) hg fun b hb => by have := (hO.lt b hb).1; omega⟩
            | s :: t :: r, _, hzm, hld, HT1 =>
              simp only [List.length_cons, List.drop_succ_cons, List.drop_zero] at *
              have hmin : min (1 : Int) ((r.length + 1 + 1 : Nat) : Int) = 1 := by omega
              have hs1 : (1 : Int) ≤ (r.length : Int) + 1 + 1 := by omega
              have hd1 : ¬ d = 1 := by omega
              have hmin' : min (1 : Int) ((r.length : Int) + 1 + 1) = 1 := by omega
              go_wp2
              refine wp_region_held_drew (S := fun _ => True) (by kernel_rfl) trivial (fun _ => ?_)
              refine wpAnyH_take (i := 1) (oi := _) (v := ?_) rfl (by kernel_rfl) (by kernel_rfl) (by kernel_rfl) (fun _ _ _ h => h) (Or.inl ⟨by rfl, ?_⟩) trivial ?_
              rotate_left
              · intro w hSw; clear hSw; go_simp; first | done | with_reducible rfl
              (try simp only [Act.put, List.setIfInBounds_toArray, List.set_cons_zero, List.set_cons_succ])
              refine wpAnyH_take (i := 7) (oi := _) (v := ?_) rfl (by kernel_rfl) (by kernel_rfl) (by kernel_rfl) (fun _ _ _ h => h) (Or.inl ⟨by rfl, ?_⟩) trivial ?_
              rotate_left
              · intro w hSw; clear hSw; go_simp; first | done | with_reducible rfl
              (try simp only [Act.put, List.setIfInBounds_toArray, List.set_cons_zero, List.set_cons_succ])
              refine wpAnyH_take (i := 8) (oi := _) (v := ?_) rfl (by kernel_rfl) (by kernel_rfl) (by kernel_rfl) (fun _ _ _ h => h) (Or.inl ⟨by rfl, ?_⟩) trivial ?_
              rotate_left
              · intro w hSw; clear hSw; go_simp; first | done | with_reducible rfl
              (try simp only [Act.put, List.setIfInBounds_toArray, List.set_cons_zero, List.set_cons_succ])
              refine wpAnyH_take (i := 9) (oi := _) (v := ?_) rfl (by kernel_rfl) (by kernel_rfl) (by kernel_rfl) (fun _ _ _ h => h) (Or.inl ⟨by rfl, ?_⟩) trivial ?_
              rotate_left
              · intro w hSw; clear hSw; go_simp; first | done | with_reducible rfl
              (try simp only [Act.put, List.setIfInBounds_toArray, List.set_cons_zero, List.set_cons_succ])
              refine wpAnyH_take (i := 10) (oi := _) (v := ?_) rfl (by kernel_rfl) (by kernel_rfl) (by kernel_rfl) (fun _ _ _ h => h) (Or.inl ⟨by rfl, ?_⟩) trivial ?_
              rotate_left
              · intro w hSw; clear hSw; go_simp; first | done | with_reducible rfl
              (try simp only [Act.put, List.setIfInBounds_toArray, List.set_cons_zero, List.set_cons_succ])
              refine wpAnyH_take (i := 11) (oi := _) (v := ?_) rfl (by kernel_rfl) (by kernel_rfl) (by kernel_rfl) (fun _ _ _ h => h) (Or.inl ⟨by rfl, ?_⟩) trivial ?_
              rotate_left
              · intro w hSw; clear hSw; go_simp; first | done | with_reducible rfl
              (try simp only [Act.put, List.setIfInBounds_toArray, List.set_cons_zero, List.set_cons_succ])
              refine wpAnyH_ready (rs := [0, 2]) (by kernel_rfl) (by simp) ?_
              refine AllReadyH.cons (o := _) rfl (fun K hK => ?_) (AllReadyH.cons (o := _) rfl (fun K hK => ?_) AllReadyH.nil)
              · go_simp
                refine hK.out _ _ trivial (fun _ => ?_)
                clear hK K
                (try simp only [Act.put, List.setIfInBounds_toArray, List.set_cons_zero, List.set_cons_succ])
                refine wpAnyH_ready (rs := [2]) (by kernel_rfl) (by simp) ?_
                refine AllReadyH.cons (o := _) rfl (fun K hK => ?_) AllReadyH.nil
                go_simp
                go_at_call 74
                refine (pick_any g (k + 28) 2 _ (by omega) (by omega) (by omega) (by first | exact HR5.out | exact HR5.out.drew | exact (HR5.out.alloc _).drew | exact HR5.out.alloc _ | exact HR5.out.drew.alloc _)).mono ?_
                rintro e w' ⟨x, rfl, hx0, hx1, hR', hG'⟩
                (first | (have hcx := two_old x hx0 hx1 (by omega) hG') | (have hcn := fun W : World => two_new W 3 (0) 100 x hx0 hx1))
                have HR6 := hide hR'
                clear hR'
                replace hG' := grown_trans (show w3.grownBy _ (some g) by repeat (first | assumption | apply grown_drewS | apply grown_allocS)) hG'
                go_wp2_with fail
                refine hK.out _ _ trivial (fun _ => ?_)
                clear hK K
                (try simp only [Act.put, List.setIfInBounds_toArray, List.set_cons_zero, List.set_cons_succ])
                refine wpAnyH_take (i := 3) (oi := _) (v := ?_) rfl (by kernel_rfl) (by kernel_rfl) (by kernel_rfl) (fun _ _ _ h => h) (Or.inl ⟨by rfl, ?_⟩) trivial ?_
                rotate_left
                · intro w hSw; clear hSw; go_simp; first | done | with_reducible rfl
                (try simp only [Act.put, List.setIfInBounds_toArray, List.set_cons_zero, List.set_cons_succ])
                refine wpAnyH_ready (rs := [4]) (by kernel_rfl) (by simp) ?_
                refine AllReadyH.cons (o := _) rfl (fun K hK => ?_) AllReadyH.nil
                go_simp
                refine hK.out _ _ trivial (fun _ => ?_)
                clear hK K
                (try simp only [Act.put, List.setIfInBounds_toArray, List.set_cons_zero, List.set_cons_succ])
                refine wpAnyH_take (i := 5) (oi := _) (v := ?_) rfl (by kernel_rfl) (by kernel_rfl) (by kernel_rfl) (fun _ _ _ h => h) (Or.inl ⟨by rfl, ?_⟩) trivial ?_
                rotate_left
                · intro w hSw; clear hSw; go_simp; first | done | with_reducible rfl
                (try simp only [Act.put, List.setIfInBounds_toArray, List.set_cons_zero, List.set_cons_succ])
                refine wpAnyH_ready (rs := [6]) (by kernel_rfl) (by simp) ?_
                refine AllReadyH.cons (o := _) rfl (fun K hK => ?_) AllReadyH.nil
                go_simp
                refine hK.out _ _ trivial (fun _ => ?_)
                clear hK K
                (try simp only [Act.put, List.setIfInBounds_toArray, List.set_cons_zero, List.set_cons_succ])
                have hO := own_full (e := 89) (size := 2) (w') w.heap.size 1 #[.int .i64 (0), .int .i64 (oneOf 0 100 x)] (by have := hG'.size; simp; omega) (by simp [maxLen]) rfl
                try rw [World.size_alloc] at hO
                refine wpAnyH_ready (rs := [12]) (by kernel_rfl) (by simp) ?_
                refine AllReadyH.cons (o := _) rfl (fun K hK => ?_) AllReadyH.nil
                refine step_append_any chargeElem rfl _ _ rfl w.heap.size _ _ 1 (sc [(0, oneOf 0 100 x)]) rfl hO _ (r.length + 1) _ rfl (sc (t :: r)) (by rw [sc_len]; simp) (HT1.out _ (by repeat (first | assumption | apply grown_drewS | apply grown_allocS))) (fun h => by cases h) (sc_one _) (by omega) (by omega) (by have := hG'.size; simp; omega) ?_
                intro v' w4 hap
                have HA := hide hap
                clear hap
                refine hK.out _ _ trivial (fun _ => ?_)
                clear hK K
                (try simp only [Act.put, List.setIfInBounds_toArray, List.set_cons_zero, List.set_cons_succ])
                refine wpAnyH_ready (rs := [13]) (by kernel_rfl) (by simp) ?_
                refine AllReadyH.cons (o := _) rfl (fun K hK => ?_) AllReadyH.nil
                go_simp
                refine hK.out _ _ trivial (fun _ => ?_)
                clear hK K
                (try simp only [Act.put, List.setIfInBounds_toArray, List.set_cons_zero, List.set_cons_succ])
                refine wpAnyH_done (by kernel_rfl) ?_ _
                go_wp2
                go_ret
                obtain ⟨ho, hg, _⟩ := HA.out
                exact chargesOk_of (zs := (0, oneOf 0 100 x) :: (t :: r)) (by first | exact ho | (rw [show ((0, oneOf 0 100 x) :: (t :: r)).length = 1 + (r.length + 1) by simp; omega]; exact ho)) (by simp; try omega) ⟨((HR6.out.alloc _).kept hg fun b hb => by have := (hO.lt b hb).1; omega).more (by omega), grown_own (grown_trans HG.out (show w3.grownBy _ (some g) by repeat (first | assumption | apply grown_drewS | apply grown_allocS))) hg fun b hb => by have := (hO.lt b hb).1; omega⟩
              ·
                go_simp
                go_at_call 74
                refine (pick_any g (k + 28) 2 _ (by omega) (by omega) (by omega) (by first | exact HR5.out | exact HR5.out.drew | exact (HR5.out.alloc _).drew | exact HR5.out.alloc _ | exact HR5.out.drew.alloc _)).mono ?_
                rintro e w' ⟨x, rfl, hx0, hx1, hR', hG'⟩
                (first | (have hcx := two_old x hx0 hx1 (by omega) hG') | (have hcn := fun W : World => two_new W 3 (0) 100 x hx0 hx1))
                have HR6 := hide hR'
                clear hR'
                replace hG' := grown_trans (show w3.grownBy _ (some g) by repeat (first | assumption | apply grown_drewS | apply grown_allocS)) hG'
                go_wp2_with fail
                refine hK.out _ _ trivial (fun _ => ?_)
                clear hK K
                (try simp only [Act.put, List.setIfInBounds_toArray, List.set_cons_zero, List.set_cons_succ])
                refine wpAnyH_ready (rs := [0]) (by kernel_rfl) (by simp) ?_
                refine AllReadyH.cons (o := _) rfl (fun K hK => ?_) AllReadyH.nil
                go_simp
                refine hK.out _ _ trivial (fun _ => ?_)
                clear hK K
                (try simp only [Act.put, List.setIfInBounds_toArray, List.set_cons_zero, List.set_cons_succ])
                refine wpAnyH_take (i := 3) (oi := _) (v := ?_) rfl (by kernel_rfl) (by kernel_rfl) (by kernel_rfl) (fun _ _ _ h => h) (Or.inl ⟨by rfl, ?_⟩) trivial ?_
                rotate_left
                · intro w hSw; clear hSw; go_simp; first | done | with_reducible rfl
                (try simp only [Act.put, List.setIfInBounds_toArray, List.set_cons_zero, List.set_cons_succ])
                refine wpAnyH_ready (rs := [4]) (by kernel_rfl) (by simp) ?_
                refine AllReadyH.cons (o := _) rfl (fun K hK => ?_) AllReadyH.nil
                go_simp
                refine hK.out _ _ trivial (fun _ => ?_)
                clear hK K
                (try simp only [Act.put, List.setIfInBounds_toArray, List.set_cons_zero, List.set_cons_succ])
                refine wpAnyH_take (i := 5) (oi := _) (v := ?_) rfl (by kernel_rfl) (by kernel_rfl) (by kernel_rfl) (fun _ _ _ h => h) (Or.inl ⟨by rfl, ?_⟩) trivial ?_
                rotate_left
                · intro w hSw; clear hSw; go_simp; first | done | with_reducible rfl
                (try simp only [Act.put, List.setIfInBounds_toArray, List.set_cons_zero, List.set_cons_succ])
                refine wpAnyH_ready (rs := [6]) (by kernel_rfl) (by simp) ?_
                refine AllReadyH.cons (o := _) rfl (fun K hK => ?_) AllReadyH.nil
                go_simp
                refine hK.out _ _ trivial (fun _ => ?_)
                clear hK K
                (try simp only [Act.put, List.setIfInBounds_toArray, List.set_cons_zero, List.set_cons_succ])
                have hO := own_full (e := 89) (size := 2) (w'.alloc (.cells #[.int .i64 (0), .int .i64 100] 3)) w.heap.size 1 #[.int .i64 (0), .int .i64 (oneOf 0 100 x)] (by have := hG'.size; simp; omega) (by simp [maxLen]) rfl
                try rw [World.size_alloc] at hO
                refine wpAnyH_ready (rs := [12]) (by kernel_rfl) (by simp) ?_
                refine AllReadyH.cons (o := _) rfl (fun K hK => ?_) AllReadyH.nil
                refine step_append_any chargeElem rfl _ _ rfl w.heap.size _ _ 1 (sc [(0, oneOf 0 100 x)]) rfl hO _ (r.length + 1) _ rfl (sc (t :: r)) (by rw [sc_len]; simp) (HT1.out _ (by repeat (first | assumption | apply grown_drewS | apply grown_allocS))) (fun h => by cases h) (sc_one _) (by omega) (by omega) (by have := hG'.size; simp; omega) ?_
                intro v' w4 hap
                have HA := hide hap
                clear hap
                refine hK.out _ _ trivial (fun _ => ?_)
                clear hK K
                (try simp only [Act.put, List.setIfInBounds_toArray, List.set_cons_zero, List.set_cons_succ])
                refine wpAnyH_ready (rs := [13]) (by kernel_rfl) (by simp) ?_
                refine AllReadyH.cons (o := _) rfl (fun K hK => ?_) AllReadyH.nil
                go_simp
                refine hK.out _ _ trivial (fun _ => ?_)
                clear hK K
                (try simp only [Act.put, List.setIfInBounds_toArray, List.set_cons_zero, List.set_cons_succ])
                refine wpAnyH_done (by kernel_rfl) ?_ _
                go_wp2
                go_ret
                obtain ⟨ho, hg, _⟩ := HA.out
                exact chargesOk_of (zs := (0, oneOf 0 100 x) :: (t :: r)) (by first | exact ho | (rw [show ((0, oneOf 0 100 x) :: (t :: r)).length = 1 + (r.length + 1) by simp; omega]; exact ho)) (by simp; try omega) ⟨(((HR6.out.alloc _).alloc _).kept hg fun b hb => by have := (hO.lt b hb).1; omega).more (by omega), grown_own (grown_trans HG.out (show w3.grownBy _ (some g) by repeat (first | assumption | apply grown_drewS | apply grown_allocS))) hg fun b hb => by have := (hO.lt b hb).1; omega⟩
end Go.Proofs.YtcdoopccmljaoaaDoor
