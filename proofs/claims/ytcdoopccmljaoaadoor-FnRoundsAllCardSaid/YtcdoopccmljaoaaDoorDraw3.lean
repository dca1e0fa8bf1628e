/- What is drawn from a code: rows of sheets. No conditions but bounds on how often the reader was asked. -/
import Derived.Test.YtcdoopccmljaoaaDoorDraw2
import Derived.Test.YtcdoopccmljaoaaDoorApp
import Derived.Test.YtcdoopccmljaoaaDoorSheets
namespace Go.Proofs.YtcdoopccmljaoaaDoor
open Go.ChangeShapes Go.WideShapes Go.ChangeAt Go.RowKit Go.Deep
theorem oneOf_bd (x : Int) : -1 ≤ oneOf 0 201 x ∧ oneOf 0 201 x ≤ 1000 := by unfold oneOf; split <;> omega
def Bnd (zs : List (Int × Int)) : Prop := ∀ s ∈ zs, (-1 ≤ s.1 ∧ s.1 ≤ 1000) ∧ (-1 ≤ s.2 ∧ s.2 ≤ 1000)
theorem Bnd.snoc {zs : List (Int × Int)} (h : Bnd zs) {a b : Int} (ha : -1 ≤ a ∧ a ≤ 1000) (hb : -1 ≤ b ∧ b ≤ 1000) : Bnd (zs ++ [(a, b)]) := by
  intro s hs
  rcases List.mem_append.1 hs with hs | hs
  · exact h s hs
  · simp at hs; subst hs; exact ⟨ha, hb⟩
theorem Bnd.cons {zs : List (Int × Int)} (h : Bnd zs) {a b : Int} (ha : -1 ≤ a ∧ a ≤ 1000) (hb : -1 ≤ b ∧ b ≤ 1000) (k : Nat) : Bnd ((a, b) :: zs.drop k) := by
  intro s hs
  rcases List.mem_cons.1 hs with rfl | hs
  · exact ⟨ha, hb⟩
  · exact h s (List.mem_of_mem_drop hs)
/-- A row of sheets of the call's own, drawn. -/
def SheetsOk (w : World) (g k : Nat) (e : Ending) (w' : World) : Prop :=
  ∃ (A : Option Addr) (c : Nat) (zs : List (Int × Int)), e = .returned (.slice A zs.length c) ∧ zs.length ≤ 11 ∧ zs.length ≤ c ∧ c ≤ maxLen ∧ Bnd zs ∧ Own w' w.heap.size 24 A (sc zs) ∧ (A = none → zs = []) ∧ DrawnTo w w' g k
theorem sheetsOk_of {w w' : World} {g k : Nat} {v : Value} {zs : List (Int × Int)} (h : w'.ownsRow w.heap.size 24 2 v zs.length (sc zs)) (hl : zs.length ≤ 11) (hb : Bnd zs) (hd : DrawnTo w w' g k) : SheetsOk w g k (.returned v) w' := by
  have h0 := h
  obtain ⟨hz, h⟩ := h
  rcases h with ⟨rfl, hn⟩ | ⟨b, cap, cur, rfl, h1, h2, h3, h4, h5⟩
  · have : zs = [] := List.eq_nil_of_length_eq_zero hn
    subst this
    exact ⟨none, 0, [], rfl, hl, Nat.le_refl _, by simp [maxLen], hb, .inl rfl, fun _ => rfl, hd⟩
  · exact ⟨_, cap, zs, rfl, hl, h3, h4, hb, Own.of_row h0, (fun h => by cases h), hd⟩
theorem sc_snoc (zs : List (Int × Int)) (a b : Int) : sc zs ++ [.int .i64 a, .int .i64 b] = sc (zs ++ [(a, b)]) := by simp [sc]
set_option linter.unusedSimpArgs false in
set_option maxHeartbeats 1600000 in
set_option maxRecDepth 100000 in
theorem sheets_any (g k : Nat) (n : Int) (w : World) (hn : 0 ≤ n) (hn1 : n ≤ 1048576) (hk : k ≤ 1048000) (hR : Rdr w g k) :
    Calls Tryd.prog 81 #[.pointer (some ⟨g, 0, none⟩), .int .i64 n] w (SheetsOk w g (k + 30)) := by
  have hgl := hR.lt
  go_enter Tryd.func81, Tryd.ntmps81
  go_wp2_with fail
  have o0 := own_empty (e := 24) (size := 2) w w.heap.size (Nat.le_refl _)
  have HR := hide (hR.alloc (.cells #[] 24))
  have HG := hide (grown_of (show Below w.heap.size w (w.alloc (.cells #[] 24)) by go_grown) (some g))
  clear hR
  generalize hv0 : (Value.slice (some ⟨w.heap.size, 0, none⟩) 0 0) = v0 at *
  generalize w.alloc (.cells #[] 24) = w0 at *
  refine (pick_any _ _ _ _ (by omega) (by omega) (by omega) HR.out).mono ?_
  rintro e w1 ⟨x, rfl, hax, hbx, hR', hG'⟩
  have o1 := owns_grown o0 hG' (fun b hb e => by injection e with e; have := (o0.lt b hb).1; omega)
  replace HR := hide hR'
  replace HG := hide (grown_trans HG.out hG')
  clear hR' hG' o0 hv0
  go_wp2_with fail
  go_loopw [5, 6] (fun v i wr => ∃ (m : Nat) (zs : List (Int × Int)), i = .int .i64 m ∧ zs.length + m ≤ 8 ∧ Bnd zs ∧ wr.ownsRow w.heap.size 24 2 v zs.length (sc zs) ∧ Rdr wr g (k + 1 + 2 * zs.length) ∧ w.grownBy wr (some g)) (fun _ i _ => (intOf i).toNat)
  case atStart => exact ⟨x.toNat, [], by rw [Int.toNat_of_nonneg hax], by simp; omega, (fun s hs => by cases hs), o1, HR.out, HG.out⟩
  case round =>
    clear HR HG o1
    obtain ⟨m, zs, rfl, hzm, hbz, hown, hR, hG⟩ := hrel
    have HR := hide hR
    have HG := hide hG
    clear hR hG
    by_cases hm : 0 < m
    · go_wp2_with fail
      refine (pick_any _ _ _ _ (by omega) (by omega) (by omega) HR.out).mono ?_
      rintro e w2 ⟨x1, rfl, ha1, hb1, hR', hG'⟩
      replace hown := owns_grown hown hG' (fun b hb e => by injection e with e; have := (hown.lt b hb).1; omega)
      replace HR := hide hR'
      replace HG := hide (grown_trans HG.out hG')
      clear hR' hG'
      go_wp2_with fail
      refine (pick_any _ _ _ _ (by omega) (by omega) (by omega) HR.out).mono ?_
      rintro e w3 ⟨x2, rfl, ha2, hb2, hR', hG'⟩
      replace hown := owns_grown hown hG' (fun b hb e => by injection e with e; have := (hown.lt b hb).1; omega)
      replace HR := hide hR'
      replace HG := hide (grown_trans HG.out hG')
      clear hR' hG'
      have hz3 := HG.out.size
      go_wp2_with (at_builtin; refine wpList_append_any sheetElem rfl _ _ rfl w.heap.size (w3.heap.size + 1) _ zs.length (sc zs) rfl (hown.alloc _) (some ⟨w3.heap.size, 0, none⟩) 1 1 rfl (sc [(20 + x1 * 5, 5 + x2)]) rfl (((Row.new w3 24 #[.int .i64 (20 + x1 * 5), .int .i64 (5 + x2)]).rd).mono (by simp)) (fun h => by cases h) (sc_one _) (by omega) (by omega) (by simp; omega) ?_; intro v' w4 hap; have HA := hide hap; clear hap)
      go_roundw
      case rel =>
        obtain ⟨ho, hg, _⟩ := HA.out
        have hg0 := grown_trans HG.out (grown_of (show Below w3.heap.size w3 (w3.alloc (.cells #[.int .i64 (20 + x1 * 5), .int .i64 (5 + x2)] 24)) by go_grown) (some g))
        refine ⟨m - 1, zs ++ [(20 + x1 * 5, 5 + x2)], by go_num, by simp; omega, hbz.snoc (by omega) (by omega), by simpa [sc] using ho, ?_, ?_⟩
        · exact (((HR.out.alloc _).kept hg fun b hb => by have := (hown.lt b hb).1; omega)).more (by simp; omega)
        · exact grown_own hg0 hg fun b hb => (hown.lt b hb).1
      case measure => simp [intOf]; omega
    · obtain ⟨L, d, rfl, _, hld, hdm, hLn⟩ := own_room2 hown
      go_wp2_with fail
      refine (odd_any g _ n _ hn hn1 (by omega) HR.out).mono ?_
      rintro e w2 ⟨b, rfl, hR', hG'⟩
      replace hown := owns_grown hown hG' (fun b hb e => by injection e with e; have := (hown.lt b hb).1; omega)
      replace HR := hide hR'
      replace HG := hide (grown_trans HG.out hG')
      clear hR' hG'
      cases b
      · go_wp2
        go_ret
        exact sheetsOk_of hown (by omega) hbz ⟨HR.out.more (by omega), HG.out⟩
      · go_wp2_with fail
        refine (pick_any _ _ _ _ (by omega) (by omega) (by omega) HR.out).mono ?_
        rintro e w3 ⟨x1, rfl, ha1, hb1, hR', hG'⟩
        replace hown := owns_grown hown hG' (fun b hb e => by injection e with e; have := (hown.lt b hb).1; omega)
        replace HR := hide hR'
        replace HG := hide (grown_trans HG.out hG')
        clear hR' hG'
        have hz3 := HG.out.size
        obtain rfl | rfl | rfl : x1 = 0 ∨ x1 = 1 ∨ x1 = 2 := by omega
        · have hmk : ∀ W : World, (Instr.makeSlice 42 (.int .i64 10) (.int .i64 10)).run Tryd.prog W = .ok (.slice (some ⟨W.heap.size, 0, none⟩) 10 10) (W.alloc (.cells (madeCells #[.int .i64 0, .int .i64 0] 20) 24)) := by
            intro W
            obtain ⟨i0, hi, hz0, hz1, hz2⟩ := info_parts sheetInfo
            have hr := run_make (P := Tryd.prog) W 42 24 i0 (.agg #[.int .i64 0, .int .i64 0]) Tryd.underlying42 hi hz0 .i64 .i64 10 10 (by omega) (by omega) (by rw [hz2]; omega) (by omega)
            rw [hz1] at hr
            exact hr
          go_wp2
          go_ret
          have oM := own_full (e := 24) (size := 2) w3 w.heap.size 10 (madeCells #[.int .i64 0, .int .i64 0] 20) hz3 (by simp [maxLen]) (by simp [madeCells])
          rw [show (20 : Nat) = 10 * 2 from rfl, madePairs 10] at oM
          exact sheetsOk_of (zs := List.replicate 10 (0, 0)) oM (by simp) (fun s hs => by rw [List.eq_of_mem_replicate hs]; exact ⟨by omega, by omega⟩) ⟨(HR.out.alloc _).more (by omega), grown_trans HG.out (grown_of (show Below w3.heap.size w3 (w3.alloc _) by go_grown) (some g))⟩
        · have HT := hide (fun (W : World) (h : w3.grownBy W (some g)) => (Own.of_row hown).rd.kept (Nat.le_refl _) h fun b o s e => by subst e; intro e; injection e with e; have := (hown.lt b rfl).1; omega)
          have HR5 := hide (HR.out.more (show _ ≤ k + 28 by omega))
          have hG0 := grown_self w3 (some g)
          by_cases hz : zs.length = 0
          · obtain rfl := List.eq_nil_of_length_eq_zero hz
            have hmin : min (1 : Int) 0 = 0 := rfl
            have hbt : Bnd [] := fun _ h => by cases h
            clear HT
            cases L
            ·
              go_wp2
              refine wp_region_held_drew (S := fun _ => True) (by kernel_rfl) trivial (fun _ => ?_)
              refine wpAnyH_take (i := 1) (oi := _) (v := ?_) rfl (by kernel_rfl) (by kernel_rfl) (by kernel_rfl) (fun _ _ _ h => h) (Or.inl ⟨by rfl, ?_⟩) trivial ?_
              rotate_left
              · intro w hSw; clear hSw; go_simp; first | done | with_reducible rfl
              (try simp only [Act.put, List.setIfInBounds_toArray, List.set_cons_zero, List.set_cons_succ])
              refine wpAnyH_take (i := 7) (oi := _) (v := ?_) rfl (by kernel_rfl) (by kernel_rfl) (by kernel_rfl) (fun _ _ _ h => h) (Or.inl ⟨by rfl, ?_⟩) trivial ?_
              rotate_left
              · intro w hSw; clear hSw; go_simp; first | done | with_reducible rfl
              (try simp only [Act.put, List.setIfInBounds_toArray, List.set_cons_zero, List.set_cons_succ])
              refine wpAnyH_take (i := 8) (oi := _) (v := ?_) rfl (by kernel_rfl) (by kernel_rfl) (by kernel_rfl) (fun _ _ _ h => h) (Or.inl ⟨by rfl, ?_⟩) trivial ?_
              rotate_left
              · intro w hSw; clear hSw; go_simp; first | done | with_reducible rfl
              (try simp only [Act.put, List.setIfInBounds_toArray, List.set_cons_zero, List.set_cons_succ])
              refine wpAnyH_take (i := 9) (oi := _) (v := ?_) rfl (by kernel_rfl) (by kernel_rfl) (by kernel_rfl) (fun _ _ _ h => h) (Or.inl ⟨by rfl, ?_⟩) trivial ?_
              rotate_left
              · intro w hSw; clear hSw; go_simp; first | done | with_reducible rfl
              (try simp only [Act.put, List.setIfInBounds_toArray, List.set_cons_zero, List.set_cons_succ])
              refine wpAnyH_take (i := 10) (oi := _) (v := ?_) rfl (by kernel_rfl) (by kernel_rfl) (by kernel_rfl) (fun _ _ _ h => h) (Or.inl ⟨by rfl, ?_⟩) trivial ?_
              rotate_left
              · intro w hSw; clear hSw; go_simp; first | done | with_reducible rfl
              (try simp only [Act.put, List.setIfInBounds_toArray, List.set_cons_zero, List.set_cons_succ])
              refine wpAnyH_take (i := 11) (oi := _) (v := ?_) rfl (by kernel_rfl) (by kernel_rfl) (by kernel_rfl) (fun _ _ _ h => h) (Or.inl ⟨by rfl, ?_⟩) trivial ?_
              rotate_left
              · intro w hSw; clear hSw; go_simp; first | done | with_reducible rfl
              (try simp only [Act.put, List.setIfInBounds_toArray, List.set_cons_zero, List.set_cons_succ])
              refine wpAnyH_ready (rs := [0, 2]) (by kernel_rfl) (by simp) ?_
              refine AllReadyH.cons (o := _) rfl (fun K hK => ?_) (AllReadyH.cons (o := _) rfl (fun K hK => ?_) AllReadyH.nil)
              · go_simp
                refine hK.out _ _ trivial (fun _ => ?_)
                clear hK K
                (try simp only [Act.put, List.setIfInBounds_toArray, List.set_cons_zero, List.set_cons_succ])
                refine wpAnyH_ready (rs := [2]) (by kernel_rfl) (by simp) ?_
                refine AllReadyH.cons (o := _) rfl (fun K hK => ?_) AllReadyH.nil
                (go_simp; go_at_call 74; refine (pick_any g (k + 28) 2 _ (by omega) (by omega) (by omega) (by first | exact HR5.out | exact HR5.out.drew | exact (HR5.out.alloc _).drew | exact HR5.out.alloc _ | exact HR5.out.drew.alloc _)).mono ?_; rintro e w' ⟨x, rfl, hx0, hx1, hR', hG'⟩; (first | (have hcx := two_old x hx0 hx1 (by omega) hG') | (have hcn := fun W : World => two_new W 3 0 201 x hx0 hx1)); have HR6 := hide hR'; clear hR'; replace hG' := grown_trans (show w3.grownBy _ (some g) by repeat (first | assumption | apply grown_drewS | apply grown_allocS)) hG'; go_wp2_with fail)
                refine hK.out _ _ trivial (fun _ => ?_)
                clear hK K
                (try simp only [Act.put, List.setIfInBounds_toArray, List.set_cons_zero, List.set_cons_succ])
                refine wpAnyH_take (i := 3) (oi := _) (v := ?_) rfl (by kernel_rfl) (by kernel_rfl) (by kernel_rfl) (fun _ _ _ h => h) (Or.inl ⟨by rfl, ?_⟩) trivial ?_
                rotate_left
                · intro w hSw; clear hSw; go_simp; first | done | with_reducible rfl
                (try simp only [Act.put, List.setIfInBounds_toArray, List.set_cons_zero, List.set_cons_succ])
                refine wpAnyH_ready (rs := [4]) (by kernel_rfl) (by simp) ?_
                refine AllReadyH.cons (o := _) rfl (fun K hK => ?_) AllReadyH.nil
                go_simp
                refine hK.out _ _ trivial (fun _ => ?_)
                clear hK K
                (try simp only [Act.put, List.setIfInBounds_toArray, List.set_cons_zero, List.set_cons_succ])
                refine wpAnyH_take (i := 5) (oi := _) (v := ?_) rfl (by kernel_rfl) (by kernel_rfl) (by kernel_rfl) (fun _ _ _ h => h) (Or.inl ⟨by rfl, ?_⟩) trivial ?_
                rotate_left
                · intro w hSw; clear hSw; go_simp; first | done | with_reducible rfl
                (try simp only [Act.put, List.setIfInBounds_toArray, List.set_cons_zero, List.set_cons_succ])
                refine wpAnyH_ready (rs := [6]) (by kernel_rfl) (by simp) ?_
                refine AllReadyH.cons (o := _) rfl (fun K hK => ?_) AllReadyH.nil
                go_simp
                refine hK.out _ _ trivial (fun _ => ?_)
                clear hK K
                (try simp only [Act.put, List.setIfInBounds_toArray, List.set_cons_zero, List.set_cons_succ])
                have hO := own_full (e := 24) (size := 2) (w') w.heap.size 1 #[.int .i64 (oneOf 0 201 x), .int .i64 5] (by have := hG'.size; simp; omega) (by simp [maxLen]) rfl
                try rw [World.size_alloc] at hO
                refine wpAnyH_ready (rs := [12]) (by kernel_rfl) (by simp) ?_
                refine AllReadyH.cons (o := _) rfl (fun K hK => ?_) AllReadyH.nil
                refine step_append_any sheetElem rfl _ _ rfl w.heap.size 0 _ 1 (sc [(oneOf 0 201 x, 5)]) rfl hO _ 0 _ rfl [] rfl (.inl rfl) (fun _ => rfl) (fun _ h => by cases h) (by omega) (by omega) (by have := hG'.size; simp; omega) ?_
                intro v' w4 hap
                have HA := hide hap
                clear hap
                refine hK.out _ _ trivial (fun _ => ?_)
                clear hK K
                (try simp only [Act.put, List.setIfInBounds_toArray, List.set_cons_zero, List.set_cons_succ])
                refine wpAnyH_ready (rs := [13]) (by kernel_rfl) (by simp) ?_
                refine AllReadyH.cons (o := _) rfl (fun K hK => ?_) AllReadyH.nil
                go_simp
                refine hK.out _ _ trivial (fun _ => ?_)
                clear hK K
                (try simp only [Act.put, List.setIfInBounds_toArray, List.set_cons_zero, List.set_cons_succ])
                refine wpAnyH_done (by kernel_rfl) ?_ _
                go_wp2
                go_ret
                obtain ⟨ho, hg, _⟩ := HA.out
                exact sheetsOk_of (zs := (oneOf 0 201 x, 5) :: []) (by first | exact ho | (rw [show ((oneOf 0 201 x, 5) :: []).length = 1 + 0 by simp; omega]; exact ho)) (by simp; try omega) (Bnd.cons (zs := []) hbt (oneOf_bd x) (by omega) 0) ⟨((HR6.out.alloc _).kept hg fun b hb => by have := (hO.lt b hb).1; omega).more (by omega), grown_own (grown_trans HG.out (show w3.grownBy _ (some g) by repeat (first | assumption | apply grown_drewS | apply grown_allocS))) hg fun b hb => by have := (hO.lt b hb).1; omega⟩
              · (go_simp; go_at_call 74; refine (pick_any g (k + 28) 2 _ (by omega) (by omega) (by omega) (by first | exact HR5.out | exact HR5.out.drew | exact (HR5.out.alloc _).drew | exact HR5.out.alloc _ | exact HR5.out.drew.alloc _)).mono ?_; rintro e w' ⟨x, rfl, hx0, hx1, hR', hG'⟩; (first | (have hcx := two_old x hx0 hx1 (by omega) hG') | (have hcn := fun W : World => two_new W 3 0 201 x hx0 hx1)); have HR6 := hide hR'; clear hR'; replace hG' := grown_trans (show w3.grownBy _ (some g) by repeat (first | assumption | apply grown_drewS | apply grown_allocS)) hG'; go_wp2_with fail)
                refine hK.out _ _ trivial (fun _ => ?_)
                clear hK K
                (try simp only [Act.put, List.setIfInBounds_toArray, List.set_cons_zero, List.set_cons_succ])
                refine wpAnyH_ready (rs := [0]) (by kernel_rfl) (by simp) ?_
                refine AllReadyH.cons (o := _) rfl (fun K hK => ?_) AllReadyH.nil
                go_simp
                refine hK.out _ _ trivial (fun _ => ?_)
                clear hK K
                (try simp only [Act.put, List.setIfInBounds_toArray, List.set_cons_zero, List.set_cons_succ])
                refine wpAnyH_take (i := 3) (oi := _) (v := ?_) rfl (by kernel_rfl) (by kernel_rfl) (by kernel_rfl) (fun _ _ _ h => h) (Or.inl ⟨by rfl, ?_⟩) trivial ?_
                rotate_left
                · intro w hSw; clear hSw; go_simp; first | done | with_reducible rfl
                (try simp only [Act.put, List.setIfInBounds_toArray, List.set_cons_zero, List.set_cons_succ])
                refine wpAnyH_ready (rs := [4]) (by kernel_rfl) (by simp) ?_
                refine AllReadyH.cons (o := _) rfl (fun K hK => ?_) AllReadyH.nil
                go_simp
                refine hK.out _ _ trivial (fun _ => ?_)
                clear hK K
                (try simp only [Act.put, List.setIfInBounds_toArray, List.set_cons_zero, List.set_cons_succ])
                refine wpAnyH_take (i := 5) (oi := _) (v := ?_) rfl (by kernel_rfl) (by kernel_rfl) (by kernel_rfl) (fun _ _ _ h => h) (Or.inl ⟨by rfl, ?_⟩) trivial ?_
                rotate_left
                · intro w hSw; clear hSw; go_simp; first | done | with_reducible rfl
                (try simp only [Act.put, List.setIfInBounds_toArray, List.set_cons_zero, List.set_cons_succ])
                refine wpAnyH_ready (rs := [6]) (by kernel_rfl) (by simp) ?_
                refine AllReadyH.cons (o := _) rfl (fun K hK => ?_) AllReadyH.nil
                go_simp
                refine hK.out _ _ trivial (fun _ => ?_)
                clear hK K
                (try simp only [Act.put, List.setIfInBounds_toArray, List.set_cons_zero, List.set_cons_succ])
                have hO := own_full (e := 24) (size := 2) (w'.alloc (.cells #[.int .i64 0, .int .i64 201] 3)) w.heap.size 1 #[.int .i64 (oneOf 0 201 x), .int .i64 5] (by have := hG'.size; simp; omega) (by simp [maxLen]) rfl
                try rw [World.size_alloc] at hO
                refine wpAnyH_ready (rs := [12]) (by kernel_rfl) (by simp) ?_
                refine AllReadyH.cons (o := _) rfl (fun K hK => ?_) AllReadyH.nil
                refine step_append_any sheetElem rfl _ _ rfl w.heap.size 0 _ 1 (sc [(oneOf 0 201 x, 5)]) rfl hO _ 0 _ rfl [] rfl (.inl rfl) (fun _ => rfl) (fun _ h => by cases h) (by omega) (by omega) (by have := hG'.size; simp; omega) ?_
                intro v' w4 hap
                have HA := hide hap
                clear hap
                refine hK.out _ _ trivial (fun _ => ?_)
                clear hK K
                (try simp only [Act.put, List.setIfInBounds_toArray, List.set_cons_zero, List.set_cons_succ])
                refine wpAnyH_ready (rs := [13]) (by kernel_rfl) (by simp) ?_
                refine AllReadyH.cons (o := _) rfl (fun K hK => ?_) AllReadyH.nil
                go_simp
                refine hK.out _ _ trivial (fun _ => ?_)
                clear hK K
                (try simp only [Act.put, List.setIfInBounds_toArray, List.set_cons_zero, List.set_cons_succ])
                refine wpAnyH_done (by kernel_rfl) ?_ _
                go_wp2
                go_ret
                obtain ⟨ho, hg, _⟩ := HA.out
                exact sheetsOk_of (zs := (oneOf 0 201 x, 5) :: []) (by first | exact ho | (rw [show ((oneOf 0 201 x, 5) :: []).length = 1 + 0 by simp; omega]; exact ho)) (by simp; try omega) (Bnd.cons (zs := []) hbt (oneOf_bd x) (by omega) 0) ⟨(((HR6.out.alloc _).alloc _).kept hg fun b hb => by have := (hO.lt b hb).1; omega).more (by omega), grown_own (grown_trans HG.out (show w3.grownBy _ (some g) by repeat (first | assumption | apply grown_drewS | apply grown_allocS))) hg fun b hb => by have := (hO.lt b hb).1; omega⟩
            ·
              go_wp2
              refine wp_region_held_drew (S := fun _ => True) (by kernel_rfl) trivial (fun _ => ?_)
              refine wpAnyH_take (i := 1) (oi := _) (v := ?_) rfl (by kernel_rfl) (by kernel_rfl) (by kernel_rfl) (fun _ _ _ h => h) (Or.inl ⟨by rfl, ?_⟩) trivial ?_
              rotate_left
              · intro w hSw; clear hSw; go_simp; first | done | with_reducible rfl
              (try simp only [Act.put, List.setIfInBounds_toArray, List.set_cons_zero, List.set_cons_succ])
              refine wpAnyH_take (i := 7) (oi := _) (v := ?_) rfl (by kernel_rfl) (by kernel_rfl) (by kernel_rfl) (fun _ _ _ h => h) (Or.inl ⟨by rfl, ?_⟩) trivial ?_
              rotate_left
              · intro w hSw; clear hSw; go_simp; first | done | with_reducible rfl
              (try simp only [Act.put, List.setIfInBounds_toArray, List.set_cons_zero, List.set_cons_succ])
              refine wpAnyH_take (i := 8) (oi := _) (v := ?_) rfl (by kernel_rfl) (by kernel_rfl) (by kernel_rfl) (fun _ _ _ h => h) (Or.inl ⟨by rfl, ?_⟩) trivial ?_
              rotate_left
              · intro w hSw; clear hSw; go_simp; first | done | with_reducible rfl
              (try simp only [Act.put, List.setIfInBounds_toArray, List.set_cons_zero, List.set_cons_succ])
              refine wpAnyH_take (i := 9) (oi := _) (v := ?_) rfl (by kernel_rfl) (by kernel_rfl) (by kernel_rfl) (fun _ _ _ h => h) (Or.inl ⟨by rfl, ?_⟩) trivial ?_
              rotate_left
              · intro w hSw; clear hSw; go_simp; first | done | with_reducible rfl
              (try simp only [Act.put, List.setIfInBounds_toArray, List.set_cons_zero, List.set_cons_succ])
              refine wpAnyH_take (i := 10) (oi := _) (v := ?_) rfl (by kernel_rfl) (by kernel_rfl) (by kernel_rfl) (fun _ _ _ h => h) (Or.inl ⟨by rfl, ?_⟩) trivial ?_
              rotate_left
              · intro w hSw; clear hSw; go_simp; first | done | with_reducible rfl
              (try simp only [Act.put, List.setIfInBounds_toArray, List.set_cons_zero, List.set_cons_succ])
              refine wpAnyH_take (i := 11) (oi := _) (v := ?_) rfl (by kernel_rfl) (by kernel_rfl) (by kernel_rfl) (fun _ _ _ h => h) (Or.inl ⟨by rfl, ?_⟩) trivial ?_
              rotate_left
              · intro w hSw; clear hSw; go_simp; first | done | with_reducible rfl
              (try simp only [Act.put, List.setIfInBounds_toArray, List.set_cons_zero, List.set_cons_succ])
              refine wpAnyH_ready (rs := [0, 2]) (by kernel_rfl) (by simp) ?_
              refine AllReadyH.cons (o := _) rfl (fun K hK => ?_) (AllReadyH.cons (o := _) rfl (fun K hK => ?_) AllReadyH.nil)
              · go_simp
                refine hK.out _ _ trivial (fun _ => ?_)
                clear hK K
                (try simp only [Act.put, List.setIfInBounds_toArray, List.set_cons_zero, List.set_cons_succ])
                refine wpAnyH_ready (rs := [2]) (by kernel_rfl) (by simp) ?_
                refine AllReadyH.cons (o := _) rfl (fun K hK => ?_) AllReadyH.nil
                (go_simp; go_at_call 74; refine (pick_any g (k + 28) 2 _ (by omega) (by omega) (by omega) (by first | exact HR5.out | exact HR5.out.drew | exact (HR5.out.alloc _).drew | exact HR5.out.alloc _ | exact HR5.out.drew.alloc _)).mono ?_; rintro e w' ⟨x, rfl, hx0, hx1, hR', hG'⟩; (first | (have hcx := two_old x hx0 hx1 (by omega) hG') | (have hcn := fun W : World => two_new W 3 0 201 x hx0 hx1)); have HR6 := hide hR'; clear hR'; replace hG' := grown_trans (show w3.grownBy _ (some g) by repeat (first | assumption | apply grown_drewS | apply grown_allocS)) hG'; go_wp2_with fail)
                refine hK.out _ _ trivial (fun _ => ?_)
                clear hK K
                (try simp only [Act.put, List.setIfInBounds_toArray, List.set_cons_zero, List.set_cons_succ])
                refine wpAnyH_take (i := 3) (oi := _) (v := ?_) rfl (by kernel_rfl) (by kernel_rfl) (by kernel_rfl) (fun _ _ _ h => h) (Or.inl ⟨by rfl, ?_⟩) trivial ?_
                rotate_left
                · intro w hSw; clear hSw; go_simp; first | done | with_reducible rfl
                (try simp only [Act.put, List.setIfInBounds_toArray, List.set_cons_zero, List.set_cons_succ])
                refine wpAnyH_ready (rs := [4]) (by kernel_rfl) (by simp) ?_
                refine AllReadyH.cons (o := _) rfl (fun K hK => ?_) AllReadyH.nil
                go_simp
                refine hK.out _ _ trivial (fun _ => ?_)
                clear hK K
                (try simp only [Act.put, List.setIfInBounds_toArray, List.set_cons_zero, List.set_cons_succ])
                refine wpAnyH_take (i := 5) (oi := _) (v := ?_) rfl (by kernel_rfl) (by kernel_rfl) (by kernel_rfl) (fun _ _ _ h => h) (Or.inl ⟨by rfl, ?_⟩) trivial ?_
                rotate_left
                · intro w hSw; clear hSw; go_simp; first | done | with_reducible rfl
                (try simp only [Act.put, List.setIfInBounds_toArray, List.set_cons_zero, List.set_cons_succ])
                refine wpAnyH_ready (rs := [6]) (by kernel_rfl) (by simp) ?_
                refine AllReadyH.cons (o := _) rfl (fun K hK => ?_) AllReadyH.nil
                go_simp
                refine hK.out _ _ trivial (fun _ => ?_)
                clear hK K
                (try simp only [Act.put, List.setIfInBounds_toArray, List.set_cons_zero, List.set_cons_succ])
                have hO := own_full (e := 24) (size := 2) (w') w.heap.size 1 #[.int .i64 (oneOf 0 201 x), .int .i64 5] (by have := hG'.size; simp; omega) (by simp [maxLen]) rfl
                try rw [World.size_alloc] at hO
                refine wpAnyH_ready (rs := [12]) (by kernel_rfl) (by simp) ?_
                refine AllReadyH.cons (o := _) rfl (fun K hK => ?_) AllReadyH.nil
                refine step_append_any sheetElem rfl _ _ rfl w.heap.size 0 _ 1 (sc [(oneOf 0 201 x, 5)]) rfl hO _ 0 _ rfl [] rfl (.inl rfl) (fun _ => rfl) (fun _ h => by cases h) (by omega) (by omega) (by have := hG'.size; simp; omega) ?_
                intro v' w4 hap
                have HA := hide hap
                clear hap
                refine hK.out _ _ trivial (fun _ => ?_)
                clear hK K
                (try simp only [Act.put, List.setIfInBounds_toArray, List.set_cons_zero, List.set_cons_succ])
                refine wpAnyH_ready (rs := [13]) (by kernel_rfl) (by simp) ?_
                refine AllReadyH.cons (o := _) rfl (fun K hK => ?_) AllReadyH.nil
                go_simp
                refine hK.out _ _ trivial (fun _ => ?_)
                clear hK K
                (try simp only [Act.put, List.setIfInBounds_toArray, List.set_cons_zero, List.set_cons_succ])
                refine wpAnyH_done (by kernel_rfl) ?_ _
                go_wp2
                go_ret
                obtain ⟨ho, hg, _⟩ := HA.out
                exact sheetsOk_of (zs := (oneOf 0 201 x, 5) :: []) (by first | exact ho | (rw [show ((oneOf 0 201 x, 5) :: []).length = 1 + 0 by simp; omega]; exact ho)) (by simp; try omega) (Bnd.cons (zs := []) hbt (oneOf_bd x) (by omega) 0) ⟨((HR6.out.alloc _).kept hg fun b hb => by have := (hO.lt b hb).1; omega).more (by omega), grown_own (grown_trans HG.out (show w3.grownBy _ (some g) by repeat (first | assumption | apply grown_drewS | apply grown_allocS))) hg fun b hb => by have := (hO.lt b hb).1; omega⟩
              · (go_simp; go_at_call 74; refine (pick_any g (k + 28) 2 _ (by omega) (by omega) (by omega) (by first | exact HR5.out | exact HR5.out.drew | exact (HR5.out.alloc _).drew | exact HR5.out.alloc _ | exact HR5.out.drew.alloc _)).mono ?_; rintro e w' ⟨x, rfl, hx0, hx1, hR', hG'⟩; (first | (have hcx := two_old x hx0 hx1 (by omega) hG') | (have hcn := fun W : World => two_new W 3 0 201 x hx0 hx1)); have HR6 := hide hR'; clear hR'; replace hG' := grown_trans (show w3.grownBy _ (some g) by repeat (first | assumption | apply grown_drewS | apply grown_allocS)) hG'; go_wp2_with fail)
                refine hK.out _ _ trivial (fun _ => ?_)
                clear hK K
                (try simp only [Act.put, List.setIfInBounds_toArray, List.set_cons_zero, List.set_cons_succ])
                refine wpAnyH_ready (rs := [0]) (by kernel_rfl) (by simp) ?_
                refine AllReadyH.cons (o := _) rfl (fun K hK => ?_) AllReadyH.nil
                go_simp
                refine hK.out _ _ trivial (fun _ => ?_)
                clear hK K
                (try simp only [Act.put, List.setIfInBounds_toArray, List.set_cons_zero, List.set_cons_succ])
                refine wpAnyH_take (i := 3) (oi := _) (v := ?_) rfl (by kernel_rfl) (by kernel_rfl) (by kernel_rfl) (fun _ _ _ h => h) (Or.inl ⟨by rfl, ?_⟩) trivial ?_
                rotate_left
                · intro w hSw; clear hSw; go_simp; first | done | with_reducible rfl
                (try simp only [Act.put, List.setIfInBounds_toArray, List.set_cons_zero, List.set_cons_succ])
                refine wpAnyH_ready (rs := [4]) (by kernel_rfl) (by simp) ?_
                refine AllReadyH.cons (o := _) rfl (fun K hK => ?_) AllReadyH.nil
                go_simp
                refine hK.out _ _ trivial (fun _ => ?_)
                clear hK K
                (try simp only [Act.put, List.setIfInBounds_toArray, List.set_cons_zero, List.set_cons_succ])
                refine wpAnyH_take (i := 5) (oi := _) (v := ?_) rfl (by kernel_rfl) (by kernel_rfl) (by kernel_rfl) (fun _ _ _ h => h) (Or.inl ⟨by rfl, ?_⟩) trivial ?_
                rotate_left
                · intro w hSw; clear hSw; go_simp; first | done | with_reducible rfl
                (try simp only [Act.put, List.setIfInBounds_toArray, List.set_cons_zero, List.set_cons_succ])
                refine wpAnyH_ready (rs := [6]) (by kernel_rfl) (by simp) ?_
                refine AllReadyH.cons (o := _) rfl (fun K hK => ?_) AllReadyH.nil
                go_simp
                refine hK.out _ _ trivial (fun _ => ?_)
                clear hK K
                (try simp only [Act.put, List.setIfInBounds_toArray, List.set_cons_zero, List.set_cons_succ])
                have hO := own_full (e := 24) (size := 2) (w'.alloc (.cells #[.int .i64 0, .int .i64 201] 3)) w.heap.size 1 #[.int .i64 (oneOf 0 201 x), .int .i64 5] (by have := hG'.size; simp; omega) (by simp [maxLen]) rfl
                try rw [World.size_alloc] at hO
                refine wpAnyH_ready (rs := [12]) (by kernel_rfl) (by simp) ?_
                refine AllReadyH.cons (o := _) rfl (fun K hK => ?_) AllReadyH.nil
                refine step_append_any sheetElem rfl _ _ rfl w.heap.size 0 _ 1 (sc [(oneOf 0 201 x, 5)]) rfl hO _ 0 _ rfl [] rfl (.inl rfl) (fun _ => rfl) (fun _ h => by cases h) (by omega) (by omega) (by have := hG'.size; simp; omega) ?_
                intro v' w4 hap
                have HA := hide hap
                clear hap
                refine hK.out _ _ trivial (fun _ => ?_)
                clear hK K
                (try simp only [Act.put, List.setIfInBounds_toArray, List.set_cons_zero, List.set_cons_succ])
                refine wpAnyH_ready (rs := [13]) (by kernel_rfl) (by simp) ?_
                refine AllReadyH.cons (o := _) rfl (fun K hK => ?_) AllReadyH.nil
                go_simp
                refine hK.out _ _ trivial (fun _ => ?_)
                clear hK K
                (try simp only [Act.put, List.setIfInBounds_toArray, List.set_cons_zero, List.set_cons_succ])
                refine wpAnyH_done (by kernel_rfl) ?_ _
                go_wp2
                go_ret
                obtain ⟨ho, hg, _⟩ := HA.out
                exact sheetsOk_of (zs := (oneOf 0 201 x, 5) :: []) (by first | exact ho | (rw [show ((oneOf 0 201 x, 5) :: []).length = 1 + 0 by simp; omega]; exact ho)) (by simp; try omega) (Bnd.cons (zs := []) hbt (oneOf_bd x) (by omega) 0) ⟨(((HR6.out.alloc _).alloc _).kept hg fun b hb => by have := (hO.lt b hb).1; omega).more (by omega), grown_own (grown_trans HG.out (show w3.grownBy _ (some g) by repeat (first | assumption | apply grown_drewS | apply grown_allocS))) hg fun b hb => by have := (hO.lt b hb).1; omega⟩
          · obtain ⟨gL, hL, _, _⟩ := (Own.of_row hown).row (by intro e; have := sc_len zs; rw [e] at this; simp at this; omega)
            subst hL
            have HT1 := hide (fun (W : World) (h : w3.grownBy W (some g)) => (HT.out W h).sheets_drop 1)
            clear HT
            match zs, hz, hzm, hbz, hld, HT1 with
            | [s], _, _, _, hld, _ =>
              have hmin : min (1 : Int) 1 = 1 := rfl
              have hd1 : d = 1 ∨ 2 ≤ d := by simp at hld; omega
              have hbt : Bnd [] := fun _ h => by cases h
              simp only [List.length_cons, List.length_nil, Nat.zero_add] at *
              rcases hd1 with rfl | hd2
              ·
                go_wp2
                refine wp_region_held_drew (S := fun _ => True) (by kernel_rfl) trivial (fun _ => ?_)
                refine wpAnyH_take (i := 1) (oi := _) (v := ?_) rfl (by kernel_rfl) (by kernel_rfl) (by kernel_rfl) (fun _ _ _ h => h) (Or.inl ⟨by rfl, ?_⟩) trivial ?_
                rotate_left
                · intro w hSw; clear hSw; go_simp; first | done | with_reducible rfl
                (try simp only [Act.put, List.setIfInBounds_toArray, List.set_cons_zero, List.set_cons_succ])
                refine wpAnyH_take (i := 7) (oi := _) (v := ?_) rfl (by kernel_rfl) (by kernel_rfl) (by kernel_rfl) (fun _ _ _ h => h) (Or.inl ⟨by rfl, ?_⟩) trivial ?_
                rotate_left
                · intro w hSw; clear hSw; go_simp; first | done | with_reducible rfl
                (try simp only [Act.put, List.setIfInBounds_toArray, List.set_cons_zero, List.set_cons_succ])
                refine wpAnyH_take (i := 8) (oi := _) (v := ?_) rfl (by kernel_rfl) (by kernel_rfl) (by kernel_rfl) (fun _ _ _ h => h) (Or.inl ⟨by rfl, ?_⟩) trivial ?_
                rotate_left
                · intro w hSw; clear hSw; go_simp; first | done | with_reducible rfl
                (try simp only [Act.put, List.setIfInBounds_toArray, List.set_cons_zero, List.set_cons_succ])
                refine wpAnyH_take (i := 9) (oi := _) (v := ?_) rfl (by kernel_rfl) (by kernel_rfl) (by kernel_rfl) (fun _ _ _ h => h) (Or.inl ⟨by rfl, ?_⟩) trivial ?_
                rotate_left
                · intro w hSw; clear hSw; go_simp; first | done | with_reducible rfl
                (try simp only [Act.put, List.setIfInBounds_toArray, List.set_cons_zero, List.set_cons_succ])
                refine wpAnyH_take (i := 10) (oi := _) (v := ?_) rfl (by kernel_rfl) (by kernel_rfl) (by kernel_rfl) (fun _ _ _ h => h) (Or.inl ⟨by rfl, ?_⟩) trivial ?_
                rotate_left
                · intro w hSw; clear hSw; go_simp; first | done | with_reducible rfl
                (try simp only [Act.put, List.setIfInBounds_toArray, List.set_cons_zero, List.set_cons_succ])
                refine wpAnyH_take (i := 11) (oi := _) (v := ?_) rfl (by kernel_rfl) (by kernel_rfl) (by kernel_rfl) (fun _ _ _ h => h) (Or.inl ⟨by rfl, ?_⟩) trivial ?_
                rotate_left
                · intro w hSw; clear hSw; go_simp; first | done | with_reducible rfl
                (try simp only [Act.put, List.setIfInBounds_toArray, List.set_cons_zero, List.set_cons_succ])
                refine wpAnyH_ready (rs := [0, 2]) (by kernel_rfl) (by simp) ?_
                refine AllReadyH.cons (o := _) rfl (fun K hK => ?_) (AllReadyH.cons (o := _) rfl (fun K hK => ?_) AllReadyH.nil)
                · go_simp
                  refine hK.out _ _ trivial (fun _ => ?_)
                  clear hK K
                  (try simp only [Act.put, List.setIfInBounds_toArray, List.set_cons_zero, List.set_cons_succ])
                  refine wpAnyH_ready (rs := [2]) (by kernel_rfl) (by simp) ?_
                  refine AllReadyH.cons (o := _) rfl (fun K hK => ?_) AllReadyH.nil
                  (go_simp; go_at_call 74; refine (pick_any g (k + 28) 2 _ (by omega) (by omega) (by omega) (by first | exact HR5.out | exact HR5.out.drew | exact (HR5.out.alloc _).drew | exact HR5.out.alloc _ | exact HR5.out.drew.alloc _)).mono ?_; rintro e w' ⟨x, rfl, hx0, hx1, hR', hG'⟩; (first | (have hcx := two_old x hx0 hx1 (by omega) hG') | (have hcn := fun W : World => two_new W 3 0 201 x hx0 hx1)); have HR6 := hide hR'; clear hR'; replace hG' := grown_trans (show w3.grownBy _ (some g) by repeat (first | assumption | apply grown_drewS | apply grown_allocS)) hG'; go_wp2_with fail)
                  refine hK.out _ _ trivial (fun _ => ?_)
                  clear hK K
                  (try simp only [Act.put, List.setIfInBounds_toArray, List.set_cons_zero, List.set_cons_succ])
                  refine wpAnyH_take (i := 3) (oi := _) (v := ?_) rfl (by kernel_rfl) (by kernel_rfl) (by kernel_rfl) (fun _ _ _ h => h) (Or.inl ⟨by rfl, ?_⟩) trivial ?_
                  rotate_left
                  · intro w hSw; clear hSw; go_simp; first | done | with_reducible rfl
                  (try simp only [Act.put, List.setIfInBounds_toArray, List.set_cons_zero, List.set_cons_succ])
                  refine wpAnyH_ready (rs := [4]) (by kernel_rfl) (by simp) ?_
                  refine AllReadyH.cons (o := _) rfl (fun K hK => ?_) AllReadyH.nil
                  go_simp
                  refine hK.out _ _ trivial (fun _ => ?_)
                  clear hK K
                  (try simp only [Act.put, List.setIfInBounds_toArray, List.set_cons_zero, List.set_cons_succ])
                  refine wpAnyH_take (i := 5) (oi := _) (v := ?_) rfl (by kernel_rfl) (by kernel_rfl) (by kernel_rfl) (fun _ _ _ h => h) (Or.inl ⟨by rfl, ?_⟩) trivial ?_
                  rotate_left
                  · intro w hSw; clear hSw; go_simp; first | done | with_reducible rfl
                  (try simp only [Act.put, List.setIfInBounds_toArray, List.set_cons_zero, List.set_cons_succ])
                  refine wpAnyH_ready (rs := [6]) (by kernel_rfl) (by simp) ?_
                  refine AllReadyH.cons (o := _) rfl (fun K hK => ?_) AllReadyH.nil
                  go_simp
                  refine hK.out _ _ trivial (fun _ => ?_)
                  clear hK K
                  (try simp only [Act.put, List.setIfInBounds_toArray, List.set_cons_zero, List.set_cons_succ])
                  have hO := own_full (e := 24) (size := 2) (w') w.heap.size 1 #[.int .i64 (oneOf 0 201 x), .int .i64 5] (by have := hG'.size; simp; omega) (by simp [maxLen]) rfl
                  try rw [World.size_alloc] at hO
                  refine wpAnyH_ready (rs := [12]) (by kernel_rfl) (by simp) ?_
                  refine AllReadyH.cons (o := _) rfl (fun K hK => ?_) AllReadyH.nil
                  refine step_append_any sheetElem rfl _ _ rfl w.heap.size 0 _ 1 (sc [(oneOf 0 201 x, 5)]) rfl hO _ 0 _ rfl [] rfl (.inl rfl) (fun _ => rfl) (fun _ h => by cases h) (by omega) (by omega) (by have := hG'.size; simp; omega) ?_
                  intro v' w4 hap
                  have HA := hide hap
                  clear hap
                  refine hK.out _ _ trivial (fun _ => ?_)
                  clear hK K
                  (try simp only [Act.put, List.setIfInBounds_toArray, List.set_cons_zero, List.set_cons_succ])
                  refine wpAnyH_ready (rs := [13]) (by kernel_rfl) (by simp) ?_
                  refine AllReadyH.cons (o := _) rfl (fun K hK => ?_) AllReadyH.nil
                  go_simp
                  refine hK.out _ _ trivial (fun _ => ?_)
                  clear hK K
                  (try simp only [Act.put, List.setIfInBounds_toArray, List.set_cons_zero, List.set_cons_succ])
                  refine wpAnyH_done (by kernel_rfl) ?_ _
                  go_wp2
                  go_ret
                  obtain ⟨ho, hg, _⟩ := HA.out
                  exact sheetsOk_of (zs := (oneOf 0 201 x, 5) :: []) (by first | exact ho | (rw [show ((oneOf 0 201 x, 5) :: []).length = 1 + 0 by simp; omega]; exact ho)) (by simp; try omega) (Bnd.cons (zs := []) hbt (oneOf_bd x) (by omega) 0) ⟨((HR6.out.alloc _).kept hg fun b hb => by have := (hO.lt b hb).1; omega).more (by omega), grown_own (grown_trans HG.out (show w3.grownBy _ (some g) by repeat (first | assumption | apply grown_drewS | apply grown_allocS))) hg fun b hb => by have := (hO.lt b hb).1; omega⟩
                · (go_simp; go_at_call 74; refine (pick_any g (k + 28) 2 _ (by omega) (by omega) (by omega) (by first | exact HR5.out | exact HR5.out.drew | exact (HR5.out.alloc _).drew | exact HR5.out.alloc _ | exact HR5.out.drew.alloc _)).mono ?_; rintro e w' ⟨x, rfl, hx0, hx1, hR', hG'⟩; (first | (have hcx := two_old x hx0 hx1 (by omega) hG') | (have hcn := fun W : World => two_new W 3 0 201 x hx0 hx1)); have HR6 := hide hR'; clear hR'; replace hG' := grown_trans (show w3.grownBy _ (some g) by repeat (first | assumption | apply grown_drewS | apply grown_allocS)) hG'; go_wp2_with fail)
                  refine hK.out _ _ trivial (fun _ => ?_)
                  clear hK K
                  (try simp only [Act.put, List.setIfInBounds_toArray, List.set_cons_zero, List.set_cons_succ])
                  refine wpAnyH_ready (rs := [0]) (by kernel_rfl) (by simp) ?_
                  refine AllReadyH.cons (o := _) rfl (fun K hK => ?_) AllReadyH.nil
                  go_simp
                  refine hK.out _ _ trivial (fun _ => ?_)
                  clear hK K
                  (try simp only [Act.put, List.setIfInBounds_toArray, List.set_cons_zero, List.set_cons_succ])
                  refine wpAnyH_take (i := 3) (oi := _) (v := ?_) rfl (by kernel_rfl) (by kernel_rfl) (by kernel_rfl) (fun _ _ _ h => h) (Or.inl ⟨by rfl, ?_⟩) trivial ?_
                  rotate_left
                  · intro w hSw; clear hSw; go_simp; first | done | with_reducible rfl
                  (try simp only [Act.put, List.setIfInBounds_toArray, List.set_cons_zero, List.set_cons_succ])
                  refine wpAnyH_ready (rs := [4]) (by kernel_rfl) (by simp) ?_
                  refine AllReadyH.cons (o := _) rfl (fun K hK => ?_) AllReadyH.nil
                  go_simp
                  refine hK.out _ _ trivial (fun _ => ?_)
                  clear hK K
                  (try simp only [Act.put, List.setIfInBounds_toArray, List.set_cons_zero, List.set_cons_succ])
                  refine wpAnyH_take (i := 5) (oi := _) (v := ?_) rfl (by kernel_rfl) (by kernel_rfl) (by kernel_rfl) (fun _ _ _ h => h) (Or.inl ⟨by rfl, ?_⟩) trivial ?_
                  rotate_left
                  · intro w hSw; clear hSw; go_simp; first | done | with_reducible rfl
                  (try simp only [Act.put, List.setIfInBounds_toArray, List.set_cons_zero, List.set_cons_succ])
                  refine wpAnyH_ready (rs := [6]) (by kernel_rfl) (by simp) ?_
                  refine AllReadyH.cons (o := _) rfl (fun K hK => ?_) AllReadyH.nil
                  go_simp
                  refine hK.out _ _ trivial (fun _ => ?_)
                  clear hK K
                  (try simp only [Act.put, List.setIfInBounds_toArray, List.set_cons_zero, List.set_cons_succ])
                  have hO := own_full (e := 24) (size := 2) (w'.alloc (.cells #[.int .i64 0, .int .i64 201] 3)) w.heap.size 1 #[.int .i64 (oneOf 0 201 x), .int .i64 5] (by have := hG'.size; simp; omega) (by simp [maxLen]) rfl
                  try rw [World.size_alloc] at hO
                  refine wpAnyH_ready (rs := [12]) (by kernel_rfl) (by simp) ?_
                  refine AllReadyH.cons (o := _) rfl (fun K hK => ?_) AllReadyH.nil
                  refine step_append_any sheetElem rfl _ _ rfl w.heap.size 0 _ 1 (sc [(oneOf 0 201 x, 5)]) rfl hO _ 0 _ rfl [] rfl (.inl rfl) (fun _ => rfl) (fun _ h => by cases h) (by omega) (by omega) (by have := hG'.size; simp; omega) ?_
                  intro v' w4 hap
                  have HA := hide hap
                  clear hap
                  refine hK.out _ _ trivial (fun _ => ?_)
                  clear hK K
                  (try simp only [Act.put, List.setIfInBounds_toArray, List.set_cons_zero, List.set_cons_succ])
                  refine wpAnyH_ready (rs := [13]) (by kernel_rfl) (by simp) ?_
                  refine AllReadyH.cons (o := _) rfl (fun K hK => ?_) AllReadyH.nil
                  go_simp
                  refine hK.out _ _ trivial (fun _ => ?_)
                  clear hK K
                  (try simp only [Act.put, List.setIfInBounds_toArray, List.set_cons_zero, List.set_cons_succ])
                  refine wpAnyH_done (by kernel_rfl) ?_ _
                  go_wp2
                  go_ret
                  obtain ⟨ho, hg, _⟩ := HA.out
                  exact sheetsOk_of (zs := (oneOf 0 201 x, 5) :: []) (by first | exact ho | (rw [show ((oneOf 0 201 x, 5) :: []).length = 1 + 0 by simp; omega]; exact ho)) (by simp; try omega) (Bnd.cons (zs := []) hbt (oneOf_bd x) (by omega) 0) ⟨(((HR6.out.alloc _).alloc _).kept hg fun b hb => by have := (hO.lt b hb).1; omega).more (by omega), grown_own (grown_trans HG.out (show w3.grownBy _ (some g) by repeat (first | assumption | apply grown_drewS | apply grown_allocS))) hg fun b hb => by have := (hO.lt b hb).1; omega⟩
              ·
                go_wp2
                refine wp_region_held_drew (S := fun _ => True) (by kernel_rfl) trivial (fun _ => ?_)
                refine wpAnyH_take (i := 1) (oi := _) (v := ?_) rfl (by kernel_rfl) (by kernel_rfl) (by kernel_rfl) (fun _ _ _ h => h) (Or.inl ⟨by rfl, ?_⟩) trivial ?_
                rotate_left
                · intro w hSw; clear hSw; go_simp; first | done | with_reducible rfl
                (try simp only [Act.put, List.setIfInBounds_toArray, List.set_cons_zero, List.set_cons_succ])
                refine wpAnyH_take (i := 7) (oi := _) (v := ?_) rfl (by kernel_rfl) (by kernel_rfl) (by kernel_rfl) (fun _ _ _ h => h) (Or.inl ⟨by rfl, ?_⟩) trivial ?_
                rotate_left
                · intro w hSw; clear hSw; go_simp; first | done | with_reducible rfl
                (try simp only [Act.put, List.setIfInBounds_toArray, List.set_cons_zero, List.set_cons_succ])
                refine wpAnyH_take (i := 8) (oi := _) (v := ?_) rfl (by kernel_rfl) (by kernel_rfl) (by kernel_rfl) (fun _ _ _ h => h) (Or.inl ⟨by rfl, ?_⟩) trivial ?_
                rotate_left
                · intro w hSw; clear hSw; go_simp; first | done | with_reducible rfl
                (try simp only [Act.put, List.setIfInBounds_toArray, List.set_cons_zero, List.set_cons_succ])
                refine wpAnyH_take (i := 9) (oi := _) (v := ?_) rfl (by kernel_rfl) (by kernel_rfl) (by kernel_rfl) (fun _ _ _ h => h) (Or.inl ⟨by rfl, ?_⟩) trivial ?_
                rotate_left
                · intro w hSw; clear hSw; go_simp; first | done | with_reducible rfl
                (try simp only [Act.put, List.setIfInBounds_toArray, List.set_cons_zero, List.set_cons_succ])
                refine wpAnyH_take (i := 10) (oi := _) (v := ?_) rfl (by kernel_rfl) (by kernel_rfl) (by kernel_rfl) (fun _ _ _ h => h) (Or.inl ⟨by rfl, ?_⟩) trivial ?_
                rotate_left
                · intro w hSw; clear hSw; go_simp; first | done | with_reducible rfl
                (try simp only [Act.put, List.setIfInBounds_toArray, List.set_cons_zero, List.set_cons_succ])
                refine wpAnyH_take (i := 11) (oi := _) (v := ?_) rfl (by kernel_rfl) (by kernel_rfl) (by kernel_rfl) (fun _ _ _ h => h) (Or.inl ⟨by rfl, ?_⟩) trivial ?_
                rotate_left
                · intro w hSw; clear hSw; go_simp; first | done | with_reducible rfl
                (try simp only [Act.put, List.setIfInBounds_toArray, List.set_cons_zero, List.set_cons_succ])
                refine wpAnyH_ready (rs := [0, 2]) (by kernel_rfl) (by simp) ?_
                refine AllReadyH.cons (o := _) rfl (fun K hK => ?_) (AllReadyH.cons (o := _) rfl (fun K hK => ?_) AllReadyH.nil)
                · go_simp
                  refine hK.out _ _ trivial (fun _ => ?_)
                  clear hK K
                  (try simp only [Act.put, List.setIfInBounds_toArray, List.set_cons_zero, List.set_cons_succ])
                  refine wpAnyH_ready (rs := [2]) (by kernel_rfl) (by simp) ?_
                  refine AllReadyH.cons (o := _) rfl (fun K hK => ?_) AllReadyH.nil
                  (go_simp; go_at_call 74; refine (pick_any g (k + 28) 2 _ (by omega) (by omega) (by omega) (by first | exact HR5.out | exact HR5.out.drew | exact (HR5.out.alloc _).drew | exact HR5.out.alloc _ | exact HR5.out.drew.alloc _)).mono ?_; rintro e w' ⟨x, rfl, hx0, hx1, hR', hG'⟩; (first | (have hcx := two_old x hx0 hx1 (by omega) hG') | (have hcn := fun W : World => two_new W 3 0 201 x hx0 hx1)); have HR6 := hide hR'; clear hR'; replace hG' := grown_trans (show w3.grownBy _ (some g) by repeat (first | assumption | apply grown_drewS | apply grown_allocS)) hG'; go_wp2_with fail)
                  refine hK.out _ _ trivial (fun _ => ?_)
                  clear hK K
                  (try simp only [Act.put, List.setIfInBounds_toArray, List.set_cons_zero, List.set_cons_succ])
                  refine wpAnyH_take (i := 3) (oi := _) (v := ?_) rfl (by kernel_rfl) (by kernel_rfl) (by kernel_rfl) (fun _ _ _ h => h) (Or.inl ⟨by rfl, ?_⟩) trivial ?_
                  rotate_left
                  · intro w hSw; clear hSw; go_simp; first | done | with_reducible rfl
                  (try simp only [Act.put, List.setIfInBounds_toArray, List.set_cons_zero, List.set_cons_succ])
                  refine wpAnyH_ready (rs := [4]) (by kernel_rfl) (by simp) ?_
                  refine AllReadyH.cons (o := _) rfl (fun K hK => ?_) AllReadyH.nil
                  go_simp
                  refine hK.out _ _ trivial (fun _ => ?_)
                  clear hK K
                  (try simp only [Act.put, List.setIfInBounds_toArray, List.set_cons_zero, List.set_cons_succ])
                  refine wpAnyH_take (i := 5) (oi := _) (v := ?_) rfl (by kernel_rfl) (by kernel_rfl) (by kernel_rfl) (fun _ _ _ h => h) (Or.inl ⟨by rfl, ?_⟩) trivial ?_
                  rotate_left
                  · intro w hSw; clear hSw; go_simp; first | done | with_reducible rfl
                  (try simp only [Act.put, List.setIfInBounds_toArray, List.set_cons_zero, List.set_cons_succ])
                  refine wpAnyH_ready (rs := [6]) (by kernel_rfl) (by simp) ?_
                  refine AllReadyH.cons (o := _) rfl (fun K hK => ?_) AllReadyH.nil
                  go_simp
                  refine hK.out _ _ trivial (fun _ => ?_)
                  clear hK K
                  (try simp only [Act.put, List.setIfInBounds_toArray, List.set_cons_zero, List.set_cons_succ])
                  have hO := own_full (e := 24) (size := 2) (w') w.heap.size 1 #[.int .i64 (oneOf 0 201 x), .int .i64 5] (by have := hG'.size; simp; omega) (by simp [maxLen]) rfl
                  try rw [World.size_alloc] at hO
                  refine wpAnyH_ready (rs := [12]) (by kernel_rfl) (by simp) ?_
                  refine AllReadyH.cons (o := _) rfl (fun K hK => ?_) AllReadyH.nil
                  refine step_append_any sheetElem rfl _ _ rfl w.heap.size 0 _ 1 (sc [(oneOf 0 201 x, 5)]) rfl hO _ 0 _ rfl [] rfl (.inl rfl) (fun _ => rfl) (fun _ h => by cases h) (by omega) (by omega) (by have := hG'.size; simp; omega) ?_
                  intro v' w4 hap
                  have HA := hide hap
                  clear hap
                  refine hK.out _ _ trivial (fun _ => ?_)
                  clear hK K
                  (try simp only [Act.put, List.setIfInBounds_toArray, List.set_cons_zero, List.set_cons_succ])
                  refine wpAnyH_ready (rs := [13]) (by kernel_rfl) (by simp) ?_
                  refine AllReadyH.cons (o := _) rfl (fun K hK => ?_) AllReadyH.nil
                  go_simp
                  refine hK.out _ _ trivial (fun _ => ?_)
                  clear hK K
                  (try simp only [Act.put, List.setIfInBounds_toArray, List.set_cons_zero, List.set_cons_succ])
                  refine wpAnyH_done (by kernel_rfl) ?_ _
                  go_wp2
                  go_ret
                  obtain ⟨ho, hg, _⟩ := HA.out
                  exact sheetsOk_of (zs := (oneOf 0 201 x, 5) :: []) (by first | exact ho | (rw [show ((oneOf 0 201 x, 5) :: []).length = 1 + 0 by simp; omega]; exact ho)) (by simp; try omega) (Bnd.cons (zs := []) hbt (oneOf_bd x) (by omega) 0) ⟨((HR6.out.alloc _).kept hg fun b hb => by have := (hO.lt b hb).1; omega).more (by omega), grown_own (grown_trans HG.out (show w3.grownBy _ (some g) by repeat (first | assumption | apply grown_drewS | apply grown_allocS))) hg fun b hb => by have := (hO.lt b hb).1; omega⟩
                · (go_simp; go_at_call 74; refine (pick_any g (k + 28) 2 _ (by omega) (by omega) (by omega) (by first | exact HR5.out | exact HR5.out.drew | exact (HR5.out.alloc _).drew | exact HR5.out.alloc _ | exact HR5.out.drew.alloc _)).mono ?_; rintro e w' ⟨x, rfl, hx0, hx1, hR', hG'⟩; (first | (have hcx := two_old x hx0 hx1 (by omega) hG') | (have hcn := fun W : World => two_new W 3 0 201 x hx0 hx1)); have HR6 := hide hR'; clear hR'; replace hG' := grown_trans (show w3.grownBy _ (some g) by repeat (first | assumption | apply grown_drewS | apply grown_allocS)) hG'; go_wp2_with fail)
                  refine hK.out _ _ trivial (fun _ => ?_)
                  clear hK K
                  (try simp only [Act.put, List.setIfInBounds_toArray, List.set_cons_zero, List.set_cons_succ])
                  refine wpAnyH_ready (rs := [0]) (by kernel_rfl) (by simp) ?_
                  refine AllReadyH.cons (o := _) rfl (fun K hK => ?_) AllReadyH.nil
                  go_simp
                  refine hK.out _ _ trivial (fun _ => ?_)
                  clear hK K
                  (try simp only [Act.put, List.setIfInBounds_toArray, List.set_cons_zero, List.set_cons_succ])
                  refine wpAnyH_take (i := 3) (oi := _) (v := ?_) rfl (by kernel_rfl) (by kernel_rfl) (by kernel_rfl) (fun _ _ _ h => h) (Or.inl ⟨by rfl, ?_⟩) trivial ?_
                  rotate_left
                  · intro w hSw; clear hSw; go_simp; first | done | with_reducible rfl
                  (try simp only [Act.put, List.setIfInBounds_toArray, List.set_cons_zero, List.set_cons_succ])
                  refine wpAnyH_ready (rs := [4]) (by kernel_rfl) (by simp) ?_
                  refine AllReadyH.cons (o := _) rfl (fun K hK => ?_) AllReadyH.nil
                  go_simp
                  refine hK.out _ _ trivial (fun _ => ?_)
                  clear hK K
                  (try simp only [Act.put, List.setIfInBounds_toArray, List.set_cons_zero, List.set_cons_succ])
                  refine wpAnyH_take (i := 5) (oi := _) (v := ?_) rfl (by kernel_rfl) (by kernel_rfl) (by kernel_rfl) (fun _ _ _ h => h) (Or.inl ⟨by rfl, ?_⟩) trivial ?_
                  rotate_left
                  · intro w hSw; clear hSw; go_simp; first | done | with_reducible rfl
                  (try simp only [Act.put, List.setIfInBounds_toArray, List.set_cons_zero, List.set_cons_succ])
                  refine wpAnyH_ready (rs := [6]) (by kernel_rfl) (by simp) ?_
                  refine AllReadyH.cons (o := _) rfl (fun K hK => ?_) AllReadyH.nil
                  go_simp
                  refine hK.out _ _ trivial (fun _ => ?_)
                  clear hK K
                  (try simp only [Act.put, List.setIfInBounds_toArray, List.set_cons_zero, List.set_cons_succ])
                  have hO := own_full (e := 24) (size := 2) (w'.alloc (.cells #[.int .i64 0, .int .i64 201] 3)) w.heap.size 1 #[.int .i64 (oneOf 0 201 x), .int .i64 5] (by have := hG'.size; simp; omega) (by simp [maxLen]) rfl
                  try rw [World.size_alloc] at hO
                  refine wpAnyH_ready (rs := [12]) (by kernel_rfl) (by simp) ?_
                  refine AllReadyH.cons (o := _) rfl (fun K hK => ?_) AllReadyH.nil
                  refine step_append_any sheetElem rfl _ _ rfl w.heap.size 0 _ 1 (sc [(oneOf 0 201 x, 5)]) rfl hO _ 0 _ rfl [] rfl (.inl rfl) (fun _ => rfl) (fun _ h => by cases h) (by omega) (by omega) (by have := hG'.size; simp; omega) ?_
                  intro v' w4 hap
                  have HA := hide hap
                  clear hap
                  refine hK.out _ _ trivial (fun _ => ?_)
                  clear hK K
                  (try simp only [Act.put, List.setIfInBounds_toArray, List.set_cons_zero, List.set_cons_succ])
                  refine wpAnyH_ready (rs := [13]) (by kernel_rfl) (by simp) ?_
                  refine AllReadyH.cons (o := _) rfl (fun K hK => ?_) AllReadyH.nil
                  go_simp
                  refine hK.out _ _ trivial (fun _ => ?_)
                  clear hK K
                  (try simp only [Act.put, List.setIfInBounds_toArray, List.set_cons_zero, List.set_cons_succ])
                  refine wpAnyH_done (by kernel_rfl) ?_ _
                  go_wp2
                  go_ret
                  obtain ⟨ho, hg, _⟩ := HA.out
                  exact sheetsOk_of (zs := (oneOf 0 201 x, 5) :: []) (by first | exact ho | (rw [show ((oneOf 0 201 x, 5) :: []).length = 1 + 0 by simp; omega]; exact ho)) (by simp; try omega) (Bnd.cons (zs := []) hbt (oneOf_bd x) (by omega) 0) ⟨(((HR6.out.alloc _).alloc _).kept hg fun b hb => by have := (hO.lt b hb).1; omega).more (by omega), grown_own (grown_trans HG.out (show w3.grownBy _ (some g) by repeat (first | assumption | apply grown_drewS | apply grown_allocS))) hg fun b hb => by have := (hO.lt b hb).1; omega⟩
            | s :: t :: r, _, hzm, hbz, hld, HT1 =>
              have hbt : Bnd (t :: r) := fun x hx => hbz x (List.mem_cons_of_mem _ hx)
              simp only [List.length_cons, List.drop_succ_cons, List.drop_zero] at *
              have hmin : min (1 : Int) ((r.length + 1 + 1 : Nat) : Int) = 1 := by omega
              have hs1 : (1 : Int) ≤ (r.length : Int) + 1 + 1 := by omega
              have hd1 : ¬ d = 1 := by omega
              have hmin' : min (1 : Int) ((r.length : Int) + 1 + 1) = 1 := by omega
              go_wp2
              refine wp_region_held_drew (S := fun _ => True) (by kernel_rfl) trivial (fun _ => ?_)
              refine wpAnyH_take (i := 1) (oi := _) (v := ?_) rfl (by kernel_rfl) (by kernel_rfl) (by kernel_rfl) (fun _ _ _ h => h) (Or.inl ⟨by rfl, ?_⟩) trivial ?_
              rotate_left
              · intro w hSw; clear hSw; go_simp; first | done | with_reducible rfl
              (try simp only [Act.put, List.setIfInBounds_toArray, List.set_cons_zero, List.set_cons_succ])
              refine wpAnyH_take (i := 7) (oi := _) (v := ?_) rfl (by kernel_rfl) (by kernel_rfl) (by kernel_rfl) (fun _ _ _ h => h) (Or.inl ⟨by rfl, ?_⟩) trivial ?_
              rotate_left
              · intro w hSw; clear hSw; go_simp; first | done | with_reducible rfl
              (try simp only [Act.put, List.setIfInBounds_toArray, List.set_cons_zero, List.set_cons_succ])
              refine wpAnyH_take (i := 8) (oi := _) (v := ?_) rfl (by kernel_rfl) (by kernel_rfl) (by kernel_rfl) (fun _ _ _ h => h) (Or.inl ⟨by rfl, ?_⟩) trivial ?_
              rotate_left
              · intro w hSw; clear hSw; go_simp; first | done | with_reducible rfl
              (try simp only [Act.put, List.setIfInBounds_toArray, List.set_cons_zero, List.set_cons_succ])
              refine wpAnyH_take (i := 9) (oi := _) (v := ?_) rfl (by kernel_rfl) (by kernel_rfl) (by kernel_rfl) (fun _ _ _ h => h) (Or.inl ⟨by rfl, ?_⟩) trivial ?_
              rotate_left
              · intro w hSw; clear hSw; go_simp; first | done | with_reducible rfl
              (try simp only [Act.put, List.setIfInBounds_toArray, List.set_cons_zero, List.set_cons_succ])
              refine wpAnyH_take (i := 10) (oi := _) (v := ?_) rfl (by kernel_rfl) (by kernel_rfl) (by kernel_rfl) (fun _ _ _ h => h) (Or.inl ⟨by rfl, ?_⟩) trivial ?_
              rotate_left
              · intro w hSw; clear hSw; go_simp; first | done | with_reducible rfl
              (try simp only [Act.put, List.setIfInBounds_toArray, List.set_cons_zero, List.set_cons_succ])
              refine wpAnyH_take (i := 11) (oi := _) (v := ?_) rfl (by kernel_rfl) (by kernel_rfl) (by kernel_rfl) (fun _ _ _ h => h) (Or.inl ⟨by rfl, ?_⟩) trivial ?_
              rotate_left
              · intro w hSw; clear hSw; go_simp; first | done | with_reducible rfl
              (try simp only [Act.put, List.setIfInBounds_toArray, List.set_cons_zero, List.set_cons_succ])
              refine wpAnyH_ready (rs := [0, 2]) (by kernel_rfl) (by simp) ?_
              refine AllReadyH.cons (o := _) rfl (fun K hK => ?_) (AllReadyH.cons (o := _) rfl (fun K hK => ?_) AllReadyH.nil)
              · go_simp
                refine hK.out _ _ trivial (fun _ => ?_)
                clear hK K
                (try simp only [Act.put, List.setIfInBounds_toArray, List.set_cons_zero, List.set_cons_succ])
                refine wpAnyH_ready (rs := [2]) (by kernel_rfl) (by simp) ?_
                refine AllReadyH.cons (o := _) rfl (fun K hK => ?_) AllReadyH.nil
                (go_simp; go_at_call 74; refine (pick_any g (k + 28) 2 _ (by omega) (by omega) (by omega) (by first | exact HR5.out | exact HR5.out.drew | exact (HR5.out.alloc _).drew | exact HR5.out.alloc _ | exact HR5.out.drew.alloc _)).mono ?_; rintro e w' ⟨x, rfl, hx0, hx1, hR', hG'⟩; (first | (have hcx := two_old x hx0 hx1 (by omega) hG') | (have hcn := fun W : World => two_new W 3 0 201 x hx0 hx1)); have HR6 := hide hR'; clear hR'; replace hG' := grown_trans (show w3.grownBy _ (some g) by repeat (first | assumption | apply grown_drewS | apply grown_allocS)) hG'; go_wp2_with fail)
                refine hK.out _ _ trivial (fun _ => ?_)
                clear hK K
                (try simp only [Act.put, List.setIfInBounds_toArray, List.set_cons_zero, List.set_cons_succ])
                refine wpAnyH_take (i := 3) (oi := _) (v := ?_) rfl (by kernel_rfl) (by kernel_rfl) (by kernel_rfl) (fun _ _ _ h => h) (Or.inl ⟨by rfl, ?_⟩) trivial ?_
                rotate_left
                · intro w hSw; clear hSw; go_simp; first | done | with_reducible rfl
                (try simp only [Act.put, List.setIfInBounds_toArray, List.set_cons_zero, List.set_cons_succ])
                refine wpAnyH_ready (rs := [4]) (by kernel_rfl) (by simp) ?_
                refine AllReadyH.cons (o := _) rfl (fun K hK => ?_) AllReadyH.nil
                go_simp
                refine hK.out _ _ trivial (fun _ => ?_)
                clear hK K
                (try simp only [Act.put, List.setIfInBounds_toArray, List.set_cons_zero, List.set_cons_succ])
                refine wpAnyH_take (i := 5) (oi := _) (v := ?_) rfl (by kernel_rfl) (by kernel_rfl) (by kernel_rfl) (fun _ _ _ h => h) (Or.inl ⟨by rfl, ?_⟩) trivial ?_
                rotate_left
                · intro w hSw; clear hSw; go_simp; first | done | with_reducible rfl
                (try simp only [Act.put, List.setIfInBounds_toArray, List.set_cons_zero, List.set_cons_succ])
                refine wpAnyH_ready (rs := [6]) (by kernel_rfl) (by simp) ?_
                refine AllReadyH.cons (o := _) rfl (fun K hK => ?_) AllReadyH.nil
                go_simp
                refine hK.out _ _ trivial (fun _ => ?_)
                clear hK K
                (try simp only [Act.put, List.setIfInBounds_toArray, List.set_cons_zero, List.set_cons_succ])
                have hO := own_full (e := 24) (size := 2) (w') w.heap.size 1 #[.int .i64 (oneOf 0 201 x), .int .i64 5] (by have := hG'.size; simp; omega) (by simp [maxLen]) rfl
                try rw [World.size_alloc] at hO
                refine wpAnyH_ready (rs := [12]) (by kernel_rfl) (by simp) ?_
                refine AllReadyH.cons (o := _) rfl (fun K hK => ?_) AllReadyH.nil
                refine step_append_any sheetElem rfl _ _ rfl w.heap.size _ _ 1 (sc [(oneOf 0 201 x, 5)]) rfl hO _ (r.length + 1) _ rfl (sc (t :: r)) (by rw [sc_len]; simp) (HT1.out _ (by repeat (first | assumption | apply grown_drewS | apply grown_allocS))) (fun h => by cases h) (sc_one _) (by omega) (by omega) (by have := hG'.size; simp; omega) ?_
                intro v' w4 hap
                have HA := hide hap
                clear hap
                refine hK.out _ _ trivial (fun _ => ?_)
                clear hK K
                (try simp only [Act.put, List.setIfInBounds_toArray, List.set_cons_zero, List.set_cons_succ])
                refine wpAnyH_ready (rs := [13]) (by kernel_rfl) (by simp) ?_
                refine AllReadyH.cons (o := _) rfl (fun K hK => ?_) AllReadyH.nil
                go_simp
                refine hK.out _ _ trivial (fun _ => ?_)
                clear hK K
                (try simp only [Act.put, List.setIfInBounds_toArray, List.set_cons_zero, List.set_cons_succ])
                refine wpAnyH_done (by kernel_rfl) ?_ _
                go_wp2
                go_ret
                obtain ⟨ho, hg, _⟩ := HA.out
                exact sheetsOk_of (zs := (oneOf 0 201 x, 5) :: (t :: r)) (by first | exact ho | (rw [show ((oneOf 0 201 x, 5) :: (t :: r)).length = 1 + (r.length + 1) by simp; omega]; exact ho)) (by simp; try omega) (Bnd.cons (zs := (t :: r)) hbt (oneOf_bd x) (by omega) 0) ⟨((HR6.out.alloc _).kept hg fun b hb => by have := (hO.lt b hb).1; omega).more (by omega), grown_own (grown_trans HG.out (show w3.grownBy _ (some g) by repeat (first | assumption | apply grown_drewS | apply grown_allocS))) hg fun b hb => by have := (hO.lt b hb).1; omega⟩
              · (go_simp; go_at_call 74; refine (pick_any g (k + 28) 2 _ (by omega) (by omega) (by omega) (by first | exact HR5.out | exact HR5.out.drew | exact (HR5.out.alloc _).drew | exact HR5.out.alloc _ | exact HR5.out.drew.alloc _)).mono ?_; rintro e w' ⟨x, rfl, hx0, hx1, hR', hG'⟩; (first | (have hcx := two_old x hx0 hx1 (by omega) hG') | (have hcn := fun W : World => two_new W 3 0 201 x hx0 hx1)); have HR6 := hide hR'; clear hR'; replace hG' := grown_trans (show w3.grownBy _ (some g) by repeat (first | assumption | apply grown_drewS | apply grown_allocS)) hG'; go_wp2_with fail)
                refine hK.out _ _ trivial (fun _ => ?_)
                clear hK K
                (try simp only [Act.put, List.setIfInBounds_toArray, List.set_cons_zero, List.set_cons_succ])
                refine wpAnyH_ready (rs := [0]) (by kernel_rfl) (by simp) ?_
                refine AllReadyH.cons (o := _) rfl (fun K hK => ?_) AllReadyH.nil
                go_simp
                refine hK.out _ _ trivial (fun _ => ?_)
                clear hK K
                (try simp only [Act.put, List.setIfInBounds_toArray, List.set_cons_zero, List.set_cons_succ])
                refine wpAnyH_take (i := 3) (oi := _) (v := ?_) rfl (by kernel_rfl) (by kernel_rfl) (by kernel_rfl) (fun _ _ _ h => h) (Or.inl ⟨by rfl, ?_⟩) trivial ?_
                rotate_left
                · intro w hSw; clear hSw; go_simp; first | done | with_reducible rfl
                (try simp only [Act.put, List.setIfInBounds_toArray, List.set_cons_zero, List.set_cons_succ])
                refine wpAnyH_ready (rs := [4]) (by kernel_rfl) (by simp) ?_
                refine AllReadyH.cons (o := _) rfl (fun K hK => ?_) AllReadyH.nil
                go_simp
                refine hK.out _ _ trivial (fun _ => ?_)
                clear hK K
                (try simp only [Act.put, List.setIfInBounds_toArray, List.set_cons_zero, List.set_cons_succ])
                refine wpAnyH_take (i := 5) (oi := _) (v := ?_) rfl (by kernel_rfl) (by kernel_rfl) (by kernel_rfl) (fun _ _ _ h => h) (Or.inl ⟨by rfl, ?_⟩) trivial ?_
                rotate_left
                · intro w hSw; clear hSw; go_simp; first | done | with_reducible rfl
                (try simp only [Act.put, List.setIfInBounds_toArray, List.set_cons_zero, List.set_cons_succ])
                refine wpAnyH_ready (rs := [6]) (by kernel_rfl) (by simp) ?_
                refine AllReadyH.cons (o := _) rfl (fun K hK => ?_) AllReadyH.nil
                go_simp
                refine hK.out _ _ trivial (fun _ => ?_)
                clear hK K
                (try simp only [Act.put, List.setIfInBounds_toArray, List.set_cons_zero, List.set_cons_succ])
                have hO := own_full (e := 24) (size := 2) (w'.alloc (.cells #[.int .i64 0, .int .i64 201] 3)) w.heap.size 1 #[.int .i64 (oneOf 0 201 x), .int .i64 5] (by have := hG'.size; simp; omega) (by simp [maxLen]) rfl
                try rw [World.size_alloc] at hO
                refine wpAnyH_ready (rs := [12]) (by kernel_rfl) (by simp) ?_
                refine AllReadyH.cons (o := _) rfl (fun K hK => ?_) AllReadyH.nil
                refine step_append_any sheetElem rfl _ _ rfl w.heap.size _ _ 1 (sc [(oneOf 0 201 x, 5)]) rfl hO _ (r.length + 1) _ rfl (sc (t :: r)) (by rw [sc_len]; simp) (HT1.out _ (by repeat (first | assumption | apply grown_drewS | apply grown_allocS))) (fun h => by cases h) (sc_one _) (by omega) (by omega) (by have := hG'.size; simp; omega) ?_
                intro v' w4 hap
                have HA := hide hap
                clear hap
                refine hK.out _ _ trivial (fun _ => ?_)
                clear hK K
                (try simp only [Act.put, List.setIfInBounds_toArray, List.set_cons_zero, List.set_cons_succ])
                refine wpAnyH_ready (rs := [13]) (by kernel_rfl) (by simp) ?_
                refine AllReadyH.cons (o := _) rfl (fun K hK => ?_) AllReadyH.nil
                go_simp
                refine hK.out _ _ trivial (fun _ => ?_)
                clear hK K
                (try simp only [Act.put, List.setIfInBounds_toArray, List.set_cons_zero, List.set_cons_succ])
                refine wpAnyH_done (by kernel_rfl) ?_ _
                go_wp2
                go_ret
                obtain ⟨ho, hg, _⟩ := HA.out
                exact sheetsOk_of (zs := (oneOf 0 201 x, 5) :: (t :: r)) (by first | exact ho | (rw [show ((oneOf 0 201 x, 5) :: (t :: r)).length = 1 + (r.length + 1) by simp; omega]; exact ho)) (by simp; try omega) (Bnd.cons (zs := (t :: r)) hbt (oneOf_bd x) (by omega) 0) ⟨(((HR6.out.alloc _).alloc _).kept hg fun b hb => by have := (hO.lt b hb).1; omega).more (by omega), grown_own (grown_trans HG.out (show w3.grownBy _ (some g) by repeat (first | assumption | apply grown_drewS | apply grown_allocS))) hg fun b hb => by have := (hO.lt b hb).1; omega⟩
        · have oF := own_full (e := 24) (size := 2) w3 w.heap.size 1 #[.int .i64 5, .int .i64 0] hz3 (by simp [maxLen]) rfl
          have rL := (Own.of_row hown).rd.up (show Below w3.heap.size w3 (w3.alloc (.cells #[.int .i64 5, .int .i64 0] 24)) by go_grown)
          have HR4 := hide (HR.out.alloc (.cells #[.int .i64 5, .int .i64 0] 24))
          have HG4 := hide (grown_trans HG.out (grown_of (show Below w3.heap.size w3 (w3.alloc (.cells #[.int .i64 5, .int .i64 0] 24)) by go_grown) (some g)))
          by_cases hz : zs.length = 0
          · obtain rfl := List.eq_nil_of_length_eq_zero hz
            have hmin : min (1 : Int) 0 = 0 := rfl
            cases L
            all_goals
              go_wp2_with (at_builtin; refine wpList_append_any sheetElem rfl _ _ rfl w.heap.size 0 _ 1 (sc [(5, 0)]) rfl oF _ 0 _ rfl [] rfl (.inl rfl) (fun _ => rfl) (fun _ h => by cases h) (by omega) (by omega) (by simp; omega) ?_; intro v' w4 hap; have HA := hide hap; clear hap)
              go_ret
              obtain ⟨ho, hg, _⟩ := HA.out
              exact sheetsOk_of (zs := [(5, 0)]) ho (by simp) (Bnd.cons (zs := []) (fun _ h => by cases h) (by omega) (by omega) 0) ⟨((HR4.out.kept hg fun b hb => by have := (oF.lt b hb).1; omega)).more (by omega), grown_own HG4.out hg fun b hb => (oF.lt b hb).1⟩
          · obtain ⟨gL, hL, _, _⟩ := (Own.of_row hown).row (by intro e; have := sc_len zs; rw [e] at this; simp at this; omega)
            subst hL
            have rT := rL.sheets_drop 1
            match zs, hz, hzm, hbz, hld, rT with
            | [s], _, _, _, hld, _ =>
              have hmin : min (1 : Int) 1 = 1 := rfl
              have hd1 : d = 1 ∨ 2 ≤ d := by simp at hld; omega
              simp only [List.length_cons, List.length_nil, Nat.zero_add] at *
              rcases hd1 with rfl | hd2
              all_goals
                go_wp2_with (at_builtin; refine wpList_append_any sheetElem rfl _ _ rfl w.heap.size 0 _ 1 (sc [(5, 0)]) rfl oF _ 0 _ rfl [] rfl (.inl rfl) (fun _ => rfl) (fun _ h => by cases h) (by omega) (by omega) (by simp; omega) ?_; intro v' w4 hap; have HA := hide hap; clear hap)
                go_ret
                obtain ⟨ho, hg, _⟩ := HA.out
                exact sheetsOk_of (zs := [(5, 0)]) ho (by simp) (Bnd.cons (zs := []) (fun _ h => by cases h) (by omega) (by omega) 0) ⟨((HR4.out.kept hg fun b hb => by have := (oF.lt b hb).1; omega)).more (by omega), grown_own HG4.out hg fun b hb => (oF.lt b hb).1⟩
            | s :: t :: r, _, hzm, hbz, hld, rT =>
              have hbt : Bnd (t :: r) := fun x hx => hbz x (List.mem_cons_of_mem _ hx)
              simp only [List.length_cons, List.drop_succ_cons, List.drop_zero] at *
              have hmin : min (1 : Int) ((r.length + 1 + 1 : Nat) : Int) = 1 := by omega
              have hmin' : min (1 : Int) ((r.length : Int) + 1 + 1) = 1 := by omega
              go_wp2_with (at_builtin; refine wpList_append_any sheetElem rfl _ _ rfl w.heap.size _ _ 1 (sc [(5, 0)]) rfl oF _ (r.length + 1) _ rfl (sc (t :: r)) (by rw [sc_len]; simp) rT (fun h => by cases h) (sc_one _) (by omega) (by omega) (by simp; omega) ?_; intro v' w4 hap; have HA := hide hap; clear hap)
              go_ret
              obtain ⟨ho, hg, _⟩ := HA.out
              refine sheetsOk_of (zs := (5, 0) :: t :: r) ?_ (by simp; omega) (Bnd.cons (zs := t :: r) hbt (by omega) (by omega) 0) ⟨((HR4.out.kept hg fun b hb => by have := (oF.lt b hb).1; omega)).more (by omega), grown_own HG4.out hg fun b hb => (oF.lt b hb).1⟩
              rw [show ((5, 0) :: t :: r).length = 1 + (r.length + 1) by simp; omega]
              exact ho
end Go.Proofs.YtcdoopccmljaoaaDoor
