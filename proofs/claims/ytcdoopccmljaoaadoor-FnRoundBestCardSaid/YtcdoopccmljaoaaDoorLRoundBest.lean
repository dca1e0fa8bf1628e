/- The longest round is one: FnRoundBest returns true for every input. No conditions. -/
import Derived.Test.YtcdoopccmljaoaaDoorSeatC
import Derived.Test.YtcdoopccmljaoaaDoorDrawB
import Derived.Test.YtcdoopccmljaoaaDoorAlive
import Derived.Test.YtcdoopccmljaoaaDoorRoundMost
namespace Go.Proofs.YtcdoopccmljaoaaDoor
open Go.ChangeShapes Go.WideShapes Go.ChangeAt Go.RowKit Go.Deep
theorem roundOk_at (A A' : Option Addr) (c c' n : Nat) (zs : List (Int × Int)) (j k : Int) (r : List Int) (w : World) (hn : zs.length ≤ 1099511627776) (hl : r.length = n) (hn' : n ≤ 1099511627776) (hr : Rd w w.heap.size A (sc zs)) (hr' : Rd w w.heap.size A' (ic r)) (hc' : n ≤ c') :
    Calls Tryd.prog 60 #[.slice A zs.length c, .agg #[.int .i64 j, .int .i64 k], .slice A' n c'] w fun e w' => e = .returned (.bool (roundOk zs j k r)) ∧ Below w.heap.size w w' := by
  subst hl; exact roundOk_any A A' c c' zs j k r w hn hn' hr hr' hc'
theorem ext_anyB {w0 W w1 : World} (h : Below w0.heap.size w0 W) (b : Below W.heap.size W w1) (hz : w0.heap.size ≤ W.heap.size) : ∃ y : Ext w0, w1 = y.val := ⟨⟨w1, via h b hz⟩, rfl⟩
theorem cell_inB {w0 w6 : World} (b : Below w0.heap.size w0 w6) {p : Addr} {v : Value} (K : ∀ x : Ext w0, x.val.cell? p = some v) : w6.cell? p = some v := K ⟨w6, b⟩
theorem room_own {w' : World} {n : Nat} {v : Value} {xs : List Int} {B : Nat} (h : w'.ownsRow B 3 1 v n (ic xs)) : ∃ A c, v = .slice A n c ∧ Rd w' w'.heap.size A (ic xs) ∧ n ≤ c := by
  obtain ⟨A, c, h1, h2, h3, _, _⟩ := own_room2 h
  exact ⟨A, c, h1, h2.rd, h3⟩
set_option linter.unusedSimpArgs false in
set_option linter.unusedVariables false in
set_option maxHeartbeats 8000000 in
set_option maxRecDepth 100000 in
theorem w_FnRoundBest (w : World) (A : Option Addr) (c : Nat) (bs : List Int) (hkc : bs.length ≤ c) (hmc : c ≤ maxLen) (hbs : ∀ b ∈ bs, (Lit.int .u8 b).wf = true) (hrd : Rd w w.heap.size A (bc bs)) :
    Calls Tryd.prog 15 #[.slice A bs.length c] w fun e w' => e = .returned (.bool true) ∧ Below w.heap.size w w' := by
  have hB := hide hbs
  clear hbs
  by_cases hl : 1048576 < bs.length
  · go_enter Tryd.func15, Tryd.ntmps15
    go_wp2
    go_ret
    exact ⟨rfl, Below.refl _ _⟩
  · go_enter Tryd.func15, Tryd.ntmps15
    go_wp2_with fail
    refine (drawRoundBest_any A c bs w hkc hmc hB.out hrd).mono ?_
    rintro e w1 ⟨L, d, zs, j, k, rfl, h1, h2, h3, hj, hk, oL, hn, b1⟩
    clear hl hkc hmc hrd
    have q0 := Row.new w1 32 #[.int .i64 j, .int .i64 k]
    have b0 : Below w1.heap.size w1 (w1.alloc (.cells #[.int .i64 j, .int .i64 k] 32)) := by go_grown
    have rL := oL.rd.up b0
    have bb := via b1 b0 b1.size
    go_wp2_with fail
    generalize w1.alloc (.cells #[.int .i64 j, .int .i64 k] 32) = w00 at *
    have k0 := (two_cells q0).1
    have k1 := (two_cells q0).2.1
    have hgB : w1.heap.size < w00.heap.size := q0.lt
    clear q0 b0 b1 oL
    generalize w1.heap.size = gB at *
    have HI := hide (fun w rp => roundBest_any L d zs j k w (by omega) rp)
    have HS := hide (fun w rp => roundBest_spec L d zs j k w (by omega) rp)
    have hbs := best_short zs j k
    have HNV := hide (fun h => best_no (zs := zs) (j := j) (k := k) h)
    have HYV := hide (fun h1 h2 => And.intro (best_yes (zs := zs) (j := j) (k := k) h1 h2) (best_ok (zs := zs) (j := j) (k := k) h1 h2))
    have HLong := hide (fun r h => roundOk_longer (zs := zs) (j := j) (k := k) (r := r) h)
    have HNil := hide (best_nil zs j k)
    generalize roundBest zs j k = rd at *
    refine (HI.out _ rL).mono ?_
    rintro e w2 ⟨I, ci, rfl, oI, b2, hroom⟩
    replace rL := rL.up b2
    replace bb := via bb b2 bb.size
    have K0 := Ext.old (later b2 (p := ⟨gB, 0, none⟩) hgB k0)
    have K1 := Ext.old (later b2 (p := ⟨gB, 1, none⟩) hgB k1)
    have ro := oI.rd
    have hnI0 : I = none → rd.length = 0 := by
      intro e
      rcases oI with h | ⟨g, cs, h, _⟩
      · have := congrArg List.length h
        rw [ic_len] at this
        simpa using this
      · rw [e] at h; cases h
    clear HI k0 k1 b2 hgB oI
    generalize w2 = w0 at *
    obtain ⟨x0, hx0⟩ := ext_self w0
    rw [← hx0]
    clear hx0
    go_wp2_with fail
    refine (HS.out _ (rL.up (Ext.below _))).mono ?_
    rintro e w' ⟨J, cj, rfl, oJ, b, _⟩
    obtain ⟨y1, rfl⟩ := ext_next b
    clear b HS
    go_wp2_with fail
    refine (sameInts_any I J ci cj rd rd y1.val (by omega) (ro.up (Ext.below _)) oJ.rd).mono ?_
    rintro e w' ⟨rfl, dr⟩
    rw [decide_eq_true (rfl : rd = rd)]
    obtain ⟨y2, rfl⟩ := ext_next (dr.below _)
    clear oJ dr
    go_wp2_with fail
    refine (sheetsValid_spec L d zs _ (by omega) (rL.up (Ext.below _))).mono ?_
    cases hv : sheetsValid zs
    · obtain rfl := HNV.out (.inl hv)
      clear hv HNV HYV HLong HNil
      rintro e w' ⟨rfl, b⟩
      obtain ⟨y3, rfl⟩ := ext_next b
      clear b
      go_wp2_with (go_at_call 22; refine (alive_any _).mono ?_; rintro e w' ⟨rfl, b2⟩)
      go_ret
      have bx := via bb (Ext.below y3) bb.size
      exact ⟨rfl, via bx b2 bx.size⟩
    · skip
      rintro e w' ⟨rfl, b⟩
      obtain ⟨y3, rfl⟩ := ext_next b
      clear b
      cases hjv : jumpValid j k
      · obtain rfl := HNV.out (.inr hjv)
        clear hv HNV HYV HLong HNil
        go_wp2_with fail
        refine (jumpValid_spec j k _).mono ?_
        rw [hjv]
        rintro e w' ⟨rfl, hw2⟩
        obtain ⟨y4, rfl⟩ : ∃ y : Ext w0, w' = y.val := ⟨⟨w', by rw [← hw2]; exact y3.below.alloc y3.below.size _⟩, rfl⟩
        clear hw2 hjv
        go_wp2_with (go_at_call 22; refine (alive_any _).mono ?_; rintro e w' ⟨rfl, b2⟩)
        go_ret
        have bx := via bb (Ext.below y4) bb.size
        exact ⟨rfl, via bx b2 bx.size⟩
      · obtain ⟨hrd, hok⟩ := HYV.out hv hjv
        have hbl : (bestIx zs j k).length = rd.length := by rw [hrd, List.length_map]
        have hok : roundOk zs j k rd = true := by rw [hrd]; exact hok
        have hnil : rd.length = 0 ↔ zs.length = 0 := by
          rw [← hbl, List.length_eq_zero_iff, HNil.out, List.length_eq_zero_iff]
        have HN1 := hide (fun q : Nat => HLong.out ((q : Int) :: rd) (by rw [List.length_cons]; omega))
        have HN2' := hide (fun q : Nat => HLong.out (rd ++ [(q : Int)]) (by rw [List.length_append, List.length_singleton]; omega))
        have hok := hide hok
        have hnil := hide hnil
        clear hv hrd hbl HNV HYV HLong HNil
        go_wp2_with fail
        refine (jumpValid_spec j k _).mono ?_
        rw [hjv]
        rintro e w' ⟨rfl, hw2⟩
        obtain ⟨y4, rfl⟩ : ∃ y : Ext w0, w' = y.val := ⟨⟨w', by rw [← hw2]; exact y3.below.alloc y3.below.size _⟩, rfl⟩
        have hnil := hnil.out
        obtain ⟨m, hrl⟩ : ∃ m, rd.length = m := ⟨_, rfl⟩
        have hci : m ≤ 11 := by omega
        have hroom : m ≤ ci := by omega
        have hnI : I = none → m = 0 := fun h => hrl ▸ hnI0 h
        clear hw2 hjv
        rw [hrl] at hnil
        rw [hrl]
        have hrl := hide hrl
        have hnil := hide hnil
        have hnI := hide hnI
        clear hnI0
        go_wp2_with fail
        go_loopw [6] (fun i wr => ∃ (q : Nat) (y : Ext w0), q ≤ zs.length ∧ i = .int .i64 q ∧ wr = y.val) (fun i _ => zs.length - (intOf i).toNat)
        case atStart => exact ⟨0, y4, Nat.zero_le _, rfl, rfl⟩
        case round =>
          obtain ⟨q, y, hq, rfl, rfl⟩ := hrel
          by_cases hlt : q < zs.length
          · have HN1 := hide (HN1.out q)
            have HN2 := hide (HN2'.out q)
            have hzy := y.below.size
            go_wp2_with fail
            refine wp_region_held_drew (S := fun w' => w'.cell? ⟨gB, 0, none⟩ = some (.int .i64 j) ∧ w'.cell? ⟨gB, 1, none⟩ = some (.int .i64 k)) (by kernel_rfl) ⟨K0 y, K1 y⟩ (fun hHeld => ?_)
            refine wpAnyH_take (i := 0) (oi := _) (v := ?_) rfl (by kernel_rfl) (by kernel_rfl) (by kernel_rfl) (fun _ _ _ h => h) (Or.inl ⟨by rfl, ?_⟩) (by assumption) ?_
            rotate_left
            · intro w hSw; (try dsimp only at hSw); go_simp; first | done | with_reducible rfl
            (try simp only [Act.put, List.setIfInBounds_toArray, List.set_cons_zero, List.set_cons_succ])
            refine wpAnyH_take (i := 1) (oi := _) (v := ?_) rfl (by kernel_rfl) (by kernel_rfl) (by kernel_rfl) (fun _ _ _ h => h) (Or.inl ⟨by rfl, ?_⟩) (by assumption) ?_
            rotate_left
            · intro w hSw; (try dsimp only at hSw); go_simp; first | done | with_reducible rfl
            (try simp only [Act.put, List.setIfInBounds_toArray, List.set_cons_zero, List.set_cons_succ])
            refine wpAnyH_take (i := 2) (oi := _) (v := ?_) rfl (by kernel_rfl) (by kernel_rfl) (by kernel_rfl) (fun _ _ _ h => h) (Or.inl ⟨by rfl, ?_⟩) (by assumption) ?_
            rotate_left
            · intro w hSw; (try dsimp only at hSw); go_simp; first | done | with_reducible rfl
            (try simp only [Act.put, List.setIfInBounds_toArray, List.set_cons_zero, List.set_cons_succ])
            refine wpAnyH_take (i := 4) (oi := _) (v := ?_) rfl (by kernel_rfl) (by kernel_rfl) (by kernel_rfl) (fun _ _ _ h => h) (Or.inl ⟨by rfl, ?_⟩) (by assumption) ?_
            rotate_left
            · intro w hSw; (try dsimp only at hSw); go_simp; first | done | with_reducible rfl
            (try simp only [Act.put, List.setIfInBounds_toArray, List.set_cons_zero, List.set_cons_succ])
            refine wpAnyH_ready (rs := [3]) (by kernel_rfl) (by simp) ?_
            refine AllReadyH.cons (o := _) rfl (fun K hK => ?_) AllReadyH.nil
            go_simp
            have bA := (y.below.alloc y.below.size (.cells #[.int .i64 (q : Int)] 3)).drew
            refine hK.out _ _ ⟨cell_inB bA K0, cell_inB bA K1⟩ (fun hHeld => ?_)
            clear hK K
            (try simp only [Act.put, List.setIfInBounds_toArray, List.set_cons_zero, List.set_cons_succ])
            have oQ := owns_below (own_full (e := 3) (size := 1) y.val y.val.heap.size 1 #[.int .i64 (q : Int)] (Nat.le_refl _) (by unfold maxLen; omega) rfl) (Below.refl _ _).drew
            refine wpAnyH_ready (rs := [5]) (by kernel_rfl) (by simp) ?_
            refine AllReadyH.cons (o := _) rfl (fun K hK => ?_) AllReadyH.nil
            refine step_append_any intElem rfl _ _ rfl y.val.heap.size _ _ 1 [.int .i64 (q : Int)] rfl oQ I m ci rfl (ic rd) (by rw [ic_len, hrl.out]; omega) (ro.up bA) hnI.out (ic_one _) (by omega) (by omega) (by simp) ?_
            intro v1 w5 hap
            have b5 : Below w0.heap.size w0 w5 := bA.trans ((hap.below oQ (by simp)).mono hzy)
            have o1 := hap.1
            have e1 : [Value.int .i64 (q : Int)] ++ ic rd = ic ((q : Int) :: rd) := rfl
            rw [e1] at o1
            obtain ⟨A1, c1, rfl, oz1, hn1⟩ := room_own o1
            clear hap o1 e1 oQ
            refine hK.out _ _ ⟨cell_inB b5 K0, cell_inB b5 K1⟩ (fun hHeld => ?_)
            clear hK K
            (try simp only [Act.put, List.setIfInBounds_toArray, List.set_cons_zero, List.set_cons_succ])
            refine wpAnyH_ready (rs := [6]) (by kernel_rfl) (by simp) ?_
            refine AllReadyH.cons (o := _) rfl (fun K hK => ?_) AllReadyH.nil
            go_simp
            go_at_call 60
            refine (roundOk_at L A1 d c1 (1 + m) zs j k ((q : Int) :: rd) w5 (by omega) (by rw [List.length_cons, hrl.out]; omega) (by omega) (rL.up b5) oz1 hn1).mono ?_
            rw [HN1.out]
            rintro e w' ⟨rfl, bl⟩
            obtain ⟨y3, rfl⟩ := ext_anyB b5 bl b5.size
            clear bl oz1 hn1 b5 bA
            go_wp2_with fail
            refine hK.out _ _ ⟨cell_inB y3.below K0, cell_inB y3.below K1⟩ (fun hHeld => ?_)
            clear hK K
            (try simp only [Act.put, List.setIfInBounds_toArray, List.set_cons_zero, List.set_cons_succ])
            refine wpAnyH_take (i := 7) (oi := _) (v := ?_) rfl (by kernel_rfl) (by kernel_rfl) (by kernel_rfl) (fun _ _ _ h => h) (Or.inl ⟨by rfl, ?_⟩) (by assumption) ?_
            rotate_left
            · intro w hSw; (try dsimp only at hSw); go_simp; first | done | with_reducible rfl
            (try simp only [Act.put, List.setIfInBounds_toArray, List.set_cons_zero, List.set_cons_succ])
            refine wpAnyH_take (i := 8) (oi := _) (v := ?_) rfl (by kernel_rfl) (by kernel_rfl) (by kernel_rfl) (fun _ _ _ h => h) (Or.inl ⟨by rfl, ?_⟩) (by assumption) ?_
            rotate_left
            · intro w hSw; (try dsimp only at hSw); go_simp; first | done | with_reducible rfl
            (try simp only [Act.put, List.setIfInBounds_toArray, List.set_cons_zero, List.set_cons_succ])
            refine wpAnyH_take (i := 9) (oi := _) (v := ?_) rfl (by kernel_rfl) (by kernel_rfl) (by kernel_rfl) (fun _ _ _ h => h) (Or.inl ⟨by rfl, ?_⟩) (by assumption) ?_
            rotate_left
            · intro w hSw; (try dsimp only at hSw); go_simp; first | done | with_reducible rfl
            (try simp only [Act.put, List.setIfInBounds_toArray, List.set_cons_zero, List.set_cons_succ])
            refine wpAnyH_take (i := 11) (oi := _) (v := ?_) rfl (by kernel_rfl) (by kernel_rfl) (by kernel_rfl) (fun _ _ _ h => h) (Or.inl ⟨by rfl, ?_⟩) (by assumption) ?_
            rotate_left
            · intro w hSw; (try dsimp only at hSw); go_simp; first | done | with_reducible rfl
            (try simp only [Act.put, List.setIfInBounds_toArray, List.set_cons_zero, List.set_cons_succ])
            refine wpAnyH_take (i := 13) (oi := _) (v := ?_) rfl (by kernel_rfl) (by kernel_rfl) (by kernel_rfl) (fun _ _ _ h => h) (Or.inl ⟨by rfl, ?_⟩) (by assumption) ?_
            rotate_left
            · intro w hSw; (try dsimp only at hSw); go_simp; first | done | with_reducible rfl
            (try simp only [Act.put, List.setIfInBounds_toArray, List.set_cons_zero, List.set_cons_succ])
            refine wpAnyH_ready (rs := [10, 14]) (by kernel_rfl) (by simp) ?_
            refine AllReadyH.cons (o := _) rfl (fun K hK => ?_) (AllReadyH.cons (o := _) rfl (fun K hK => ?_) AllReadyH.nil)
            · go_simp
              have bA := y3.below.alloc y3.below.size (.cells #[] 3)
              refine hK.out _ _ ⟨cell_inB bA K0, cell_inB bA K1⟩ (fun hHeld => ?_)
              clear hK K
              (try simp only [Act.put, List.setIfInBounds_toArray, List.set_cons_zero, List.set_cons_succ])
              refine wpAnyH_ready (rs := [12, 14]) (by kernel_rfl) (by simp) ?_
              refine AllReadyH.cons (o := _) rfl (fun K hK => ?_) (AllReadyH.cons (o := _) rfl (fun K hK => ?_) AllReadyH.nil)
              ·
                refine step_append_any intElem rfl _ _ rfl y3.val.heap.size (y3.val.alloc (.cells #[] 3)).heap.size _ 0 [] rfl (own_empty y3.val y3.val.heap.size (Nat.le_refl _)) I m ci rfl (ic rd) (by rw [ic_len, hrl.out]; omega) (ro.up bA) hnI.out (ic_one _) (by omega) (by omega) (by simp) ?_
                intro v1 w2 hap
                have bl := hap.below (own_empty y3.val y3.val.heap.size (Nat.le_refl _)) (by simp)
                have b2 : Below w0.heap.size w0 w2 := bA.trans (bl.mono y3.below.size)
                have hz2 : y3.val.heap.size ≤ w2.heap.size := by have := hap.2.1.size; simp at this; omega
                have o1 := hap.1
                simp only [Nat.zero_add, List.nil_append] at o1
                clear hap bl
                refine hK.out _ _ ⟨cell_inB b2 K0, cell_inB b2 K1⟩ (fun hHeld => ?_)
                clear hK K
                (try simp only [Act.put, List.setIfInBounds_toArray, List.set_cons_zero, List.set_cons_succ])
                refine wpAnyH_ready (rs := [14]) (by kernel_rfl) (by simp) ?_
                refine AllReadyH.cons (o := _) rfl (fun K hK => ?_) AllReadyH.nil
                go_simp
                have b3 := b2.alloc b2.size (.cells #[.int .i64 (q : Int)] 3)
                have r1 := ((Row.new w2 3 #[.int .i64 (q : Int)]).rd)
                have hy3 : y3.val.heap.size ≤ (w2.alloc (.cells #[.int .i64 (q : Int)] 3)).heap.size := by simp; omega
                replace o1 := o1.alloc (.cells #[.int .i64 (q : Int)] 3)
                generalize w2.alloc (.cells #[.int .i64 (q : Int)] 3) = w3 at *
                refine hK.out _ _ ⟨cell_inB b3 K0, cell_inB b3 K1⟩ (fun hHeld => ?_)
                clear hK K
                (try simp only [Act.put, List.setIfInBounds_toArray, List.set_cons_zero, List.set_cons_succ])
                refine wpAnyH_ready (rs := [15]) (by kernel_rfl) (by simp) ?_
                refine AllReadyH.cons (o := _) rfl (fun K hK => ?_) AllReadyH.nil
                refine step_append_any intElem rfl _ _ rfl y3.val.heap.size w3.heap.size v1 m (ic rd) rfl o1 (some ⟨w2.heap.size, 0, none⟩) 1 1 rfl (ic [(q : Int)]) rfl r1 (fun h => by cases h) (ic_one _) (by omega) (by omega) hy3 ?_
                intro v2 w5 hap2
                have b5 : Below w0.heap.size w0 w5 := b3.grown hap2.2.1 b3.size (fun k e => by have := (o1.lt k e).1; have := y3.below.size; omega)
                have h2 := hap2.1
                have e2 : ic rd ++ ic [(q : Int)] = ic (rd ++ [(q : Int)]) := by simp [ic]
                rw [e2] at h2
                obtain ⟨A2, c2, rfl, oz2, hn2⟩ := room_own h2
                clear hap2 h2 e2 o1 r1
                refine hK.out _ _ ⟨cell_inB b5 K0, cell_inB b5 K1⟩ (fun hHeld => ?_)
                clear hK K
                (try simp only [Act.put, List.setIfInBounds_toArray, List.set_cons_zero, List.set_cons_succ])
                refine wpAnyH_ready (rs := [16]) (by kernel_rfl) (by simp) ?_
                refine AllReadyH.cons (o := _) rfl (fun K hK => ?_) AllReadyH.nil
                go_simp
                go_at_call 60
                refine (roundOk_at L A2 d c2 (m + 1) zs j k (rd ++ [(q : Int)]) w5 (by omega) (by rw [List.length_append, hrl.out]; rfl) (by omega) (rL.up b5) oz2 hn2).mono ?_
                rw [HN2.out]
                rintro e w' ⟨rfl, bl⟩
                have b6 := via b5 bl b5.size
                go_wp2_with fail
                refine hK.out _ _ ⟨cell_inB b6 K0, cell_inB b6 K1⟩ (fun hHeld => ?_)
                clear hK K
                (try simp only [Act.put, List.setIfInBounds_toArray, List.set_cons_zero, List.set_cons_succ])
                refine wpAnyH_take (i := 17) (oi := _) (v := ?_) rfl (by kernel_rfl) (by kernel_rfl) (by kernel_rfl) (fun _ _ _ h => h) (Or.inl ⟨by rfl, ?_⟩) (by assumption) ?_
                rotate_left
                · intro w hSw; (try dsimp only at hSw); go_simp; first | done | with_reducible rfl
                (try simp only [Act.put, List.setIfInBounds_toArray, List.set_cons_zero, List.set_cons_succ])
                refine wpAnyH_done (by kernel_rfl) ?_ _
                go_wp2_with fail
                go_roundw
                case rel => exact ⟨q + 1, ⟨_, b6⟩, by omega, by go_num, rfl⟩
                case measure => first | (simp [intOf]; done) | (simp [intOf]; omega)
              ·
                go_simp
                have bB := bA.alloc bA.size (.cells #[.int .i64 (q : Int)] 3)
                refine hK.out _ _ ⟨cell_inB bB K0, cell_inB bB K1⟩ (fun hHeld => ?_)
                clear hK K
                (try simp only [Act.put, List.setIfInBounds_toArray, List.set_cons_zero, List.set_cons_succ])
                have r0 : Row ((y3.val.alloc (.cells #[] 3)).alloc (.cells #[.int .i64 (q : Int)] 3)) (y3.val.heap.size + 1) 3 [.int .i64 (q : Int)] := (Row.new (y3.val.alloc (.cells #[] 3)) 3 #[.int .i64 (q : Int)]).eqB (by simp)
                have oE := (own_empty (e := 3) (size := 1) y3.val y3.val.heap.size (Nat.le_refl _)).alloc (.cells #[.int .i64 (q : Int)] 3)
                refine wpAnyH_ready (rs := [12]) (by kernel_rfl) (by simp) ?_
                refine AllReadyH.cons (o := _) rfl (fun K hK => ?_) AllReadyH.nil
                refine step_append_any intElem rfl _ _ rfl y3.val.heap.size _ _ 0 [] rfl oE I m ci rfl (ic rd) (by rw [ic_len, hrl.out]; omega) (ro.up bB) hnI.out (ic_one _) (by omega) (by omega) (by simp; omega) ?_
                intro v1 w3 hap
                have b3 : Below w0.heap.size w0 w3 := bB.trans ((hap.below oE (by simp; omega)).mono y3.below.size)
                have r1 := (r0.kept hap.2.1 (fun e => by have : y3.val.heap.size + 1 = y3.val.heap.size := Option.some.inj e; omega)).rd
                have hy3 : y3.val.heap.size ≤ w3.heap.size := by have := hap.2.1.size; simp at this; omega
                have o1 := hap.1
                simp only [Nat.zero_add, List.nil_append] at o1
                clear hap oE r0
                refine hK.out _ _ ⟨cell_inB b3 K0, cell_inB b3 K1⟩ (fun hHeld => ?_)
                clear hK K
                (try simp only [Act.put, List.setIfInBounds_toArray, List.set_cons_zero, List.set_cons_succ])
                refine wpAnyH_ready (rs := [15]) (by kernel_rfl) (by simp) ?_
                refine AllReadyH.cons (o := _) rfl (fun K hK => ?_) AllReadyH.nil
                refine step_append_any intElem rfl _ _ rfl y3.val.heap.size w3.heap.size v1 m (ic rd) rfl o1 (some ⟨(y3.val.heap.size + 1), 0, none⟩) 1 1 rfl (ic [(q : Int)]) rfl r1 (fun h => by cases h) (ic_one _) (by omega) (by omega) hy3 ?_
                intro v2 w5 hap2
                have b5 : Below w0.heap.size w0 w5 := b3.grown hap2.2.1 b3.size (fun k e => by have := (o1.lt k e).1; have := y3.below.size; omega)
                have h2 := hap2.1
                have e2 : ic rd ++ ic [(q : Int)] = ic (rd ++ [(q : Int)]) := by simp [ic]
                rw [e2] at h2
                obtain ⟨A2, c2, rfl, oz2, hn2⟩ := room_own h2
                clear hap2 h2 e2 o1 r1
                refine hK.out _ _ ⟨cell_inB b5 K0, cell_inB b5 K1⟩ (fun hHeld => ?_)
                clear hK K
                (try simp only [Act.put, List.setIfInBounds_toArray, List.set_cons_zero, List.set_cons_succ])
                refine wpAnyH_ready (rs := [16]) (by kernel_rfl) (by simp) ?_
                refine AllReadyH.cons (o := _) rfl (fun K hK => ?_) AllReadyH.nil
                go_simp
                go_at_call 60
                refine (roundOk_at L A2 d c2 (m + 1) zs j k (rd ++ [(q : Int)]) w5 (by omega) (by rw [List.length_append, hrl.out]; rfl) (by omega) (rL.up b5) oz2 hn2).mono ?_
                rw [HN2.out]
                rintro e w' ⟨rfl, bl⟩
                have b6 := via b5 bl b5.size
                go_wp2_with fail
                refine hK.out _ _ ⟨cell_inB b6 K0, cell_inB b6 K1⟩ (fun hHeld => ?_)
                clear hK K
                (try simp only [Act.put, List.setIfInBounds_toArray, List.set_cons_zero, List.set_cons_succ])
                refine wpAnyH_take (i := 17) (oi := _) (v := ?_) rfl (by kernel_rfl) (by kernel_rfl) (by kernel_rfl) (fun _ _ _ h => h) (Or.inl ⟨by rfl, ?_⟩) (by assumption) ?_
                rotate_left
                · intro w hSw; (try dsimp only at hSw); go_simp; first | done | with_reducible rfl
                (try simp only [Act.put, List.setIfInBounds_toArray, List.set_cons_zero, List.set_cons_succ])
                refine wpAnyH_done (by kernel_rfl) ?_ _
                go_wp2_with fail
                go_roundw
                case rel => exact ⟨q + 1, ⟨_, b6⟩, by omega, by go_num, rfl⟩
                case measure => first | (simp [intOf]; done) | (simp [intOf]; omega)
            ·
              go_simp
              have bA := y3.below.alloc y3.below.size (.cells #[.int .i64 (q : Int)] 3)
              refine hK.out _ _ ⟨cell_inB bA K0, cell_inB bA K1⟩ (fun hHeld => ?_)
              clear hK K
              (try simp only [Act.put, List.setIfInBounds_toArray, List.set_cons_zero, List.set_cons_succ])
              refine wpAnyH_ready (rs := [10]) (by kernel_rfl) (by simp) ?_
              refine AllReadyH.cons (o := _) rfl (fun K hK => ?_) AllReadyH.nil
              go_simp
              have bB := bA.alloc bA.size (.cells #[] 3)
              refine hK.out _ _ ⟨cell_inB bB K0, cell_inB bB K1⟩ (fun hHeld => ?_)
              clear hK K
              (try simp only [Act.put, List.setIfInBounds_toArray, List.set_cons_zero, List.set_cons_succ])
              have r0 := (Row.new y3.val 3 #[.int .i64 (q : Int)]).alloc (.cells #[] 3)
              have oE : ((y3.val.alloc (.cells #[.int .i64 (q : Int)] 3)).alloc (.cells #[] 3)).ownsRow y3.val.heap.size 3 1 (.slice (some ⟨y3.val.heap.size + 1, 0, none⟩) 0 0) 0 [] := by
                have := own_empty (e := 3) (size := 1) (y3.val.alloc (.cells #[.int .i64 (q : Int)] 3)) y3.val.heap.size (by simp)
                rw [World.size_alloc] at this
                exact this
              refine wpAnyH_ready (rs := [12]) (by kernel_rfl) (by simp) ?_
              refine AllReadyH.cons (o := _) rfl (fun K hK => ?_) AllReadyH.nil
              refine step_append_any intElem rfl _ _ rfl y3.val.heap.size _ _ 0 [] rfl oE I m ci rfl (ic rd) (by rw [ic_len, hrl.out]; omega) (ro.up bB) hnI.out (ic_one _) (by omega) (by omega) (by simp; omega) ?_
              intro v1 w3 hap
              have b3 : Below w0.heap.size w0 w3 := bB.trans ((hap.below oE (by simp; omega)).mono y3.below.size)
              have r1 := (r0.kept hap.2.1 (fun e => by have : y3.val.heap.size = y3.val.heap.size + 1 := Option.some.inj e; omega)).rd
              have hy3 : y3.val.heap.size ≤ w3.heap.size := by have := hap.2.1.size; simp at this; omega
              have o1 := hap.1
              simp only [Nat.zero_add, List.nil_append] at o1
              clear hap oE r0
              refine hK.out _ _ ⟨cell_inB b3 K0, cell_inB b3 K1⟩ (fun hHeld => ?_)
              clear hK K
              (try simp only [Act.put, List.setIfInBounds_toArray, List.set_cons_zero, List.set_cons_succ])
              refine wpAnyH_ready (rs := [15]) (by kernel_rfl) (by simp) ?_
              refine AllReadyH.cons (o := _) rfl (fun K hK => ?_) AllReadyH.nil
              refine step_append_any intElem rfl _ _ rfl y3.val.heap.size w3.heap.size v1 m (ic rd) rfl o1 (some ⟨y3.val.heap.size, 0, none⟩) 1 1 rfl (ic [(q : Int)]) rfl r1 (fun h => by cases h) (ic_one _) (by omega) (by omega) hy3 ?_
              intro v2 w5 hap2
              have b5 : Below w0.heap.size w0 w5 := b3.grown hap2.2.1 b3.size (fun k e => by have := (o1.lt k e).1; have := y3.below.size; omega)
              have h2 := hap2.1
              have e2 : ic rd ++ ic [(q : Int)] = ic (rd ++ [(q : Int)]) := by simp [ic]
              rw [e2] at h2
              obtain ⟨A2, c2, rfl, oz2, hn2⟩ := room_own h2
              clear hap2 h2 e2 o1 r1
              refine hK.out _ _ ⟨cell_inB b5 K0, cell_inB b5 K1⟩ (fun hHeld => ?_)
              clear hK K
              (try simp only [Act.put, List.setIfInBounds_toArray, List.set_cons_zero, List.set_cons_succ])
              refine wpAnyH_ready (rs := [16]) (by kernel_rfl) (by simp) ?_
              refine AllReadyH.cons (o := _) rfl (fun K hK => ?_) AllReadyH.nil
              go_simp
              go_at_call 60
              refine (roundOk_at L A2 d c2 (m + 1) zs j k (rd ++ [(q : Int)]) w5 (by omega) (by rw [List.length_append, hrl.out]; rfl) (by omega) (rL.up b5) oz2 hn2).mono ?_
              rw [HN2.out]
              rintro e w' ⟨rfl, bl⟩
              have b6 := via b5 bl b5.size
              go_wp2_with fail
              refine hK.out _ _ ⟨cell_inB b6 K0, cell_inB b6 K1⟩ (fun hHeld => ?_)
              clear hK K
              (try simp only [Act.put, List.setIfInBounds_toArray, List.set_cons_zero, List.set_cons_succ])
              refine wpAnyH_take (i := 17) (oi := _) (v := ?_) rfl (by kernel_rfl) (by kernel_rfl) (by kernel_rfl) (fun _ _ _ h => h) (Or.inl ⟨by rfl, ?_⟩) (by assumption) ?_
              rotate_left
              · intro w hSw; (try dsimp only at hSw); go_simp; first | done | with_reducible rfl
              (try simp only [Act.put, List.setIfInBounds_toArray, List.set_cons_zero, List.set_cons_succ])
              refine wpAnyH_done (by kernel_rfl) ?_ _
              go_wp2_with fail
              go_roundw
              case rel => exact ⟨q + 1, ⟨_, b6⟩, by omega, by go_num, rfl⟩
              case measure => first | (simp [intOf]; done) | (simp [intOf]; omega)
          · obtain rfl : q = zs.length := by omega
            go_wp2_with fail
            refine (roundOk_at L I d ci m zs j k rd _ (by omega) hrl.out (by omega) (rL.up (Ext.below _)) (ro.up (Ext.below _)) (by omega)).mono ?_
            rw [hok.out]
            rintro e w' ⟨rfl, b⟩
            obtain ⟨y5, rfl⟩ := ext_next b
            clear b
            have bx := via bb (Ext.below y5) bb.size
            by_cases hm0 : m = 0
            · have hz0 : zs.length = 0 := hnil.out.1 hm0
              have t1 : ((zs.length : Int) == 0) = true := by rw [hz0]; rfl
              have t2 : (zs.length == 0) = true := by rw [hz0]; rfl
              have t3 : ((m : Int) == 0) = true := by rw [hm0]; rfl
              have t4 : (m == 0) = true := by rw [hm0]; rfl
              clear hz0 hm0 hnil
              go_wp2
              go_ret
              exact ⟨rfl, bx⟩
            · have hz0 : zs.length ≠ 0 := fun h => hm0 (hnil.out.2 h)
              have t1 : ((zs.length : Int) == 0) = false := beq_false_of_ne (by omega)
              have t2 : ((m : Int) == 0) = false := beq_false_of_ne (by omega)
              have t3 : (zs.length == 0) = false := beq_false_of_ne hz0
              have t4 : (m == 0) = false := beq_false_of_ne hm0
              clear hz0 hm0 hnil
              go_wp2
              go_ret
              exact ⟨rfl, bx⟩
namespace FnRoundBest
set_option maxRecDepth 100000 in
theorem lifted (os : Os) (started : os.Started) (H : Type) (enc : TypeId × Value → H) :
    ReturnsInHanded {} Tryd.checked os 15 .any (fun w args => (Rows.fnRoundBestSpec.pre enc Tryd.prog Tryd.f15 [] false w args ∧ laidMetH Tryd.prog Rows.fnRoundBestRow.laid w) ∧ sizedMet enc Tryd.prog Tryd.f15 (OpenSpec.ofChange Rows.fnRoundBestSpec) false w args) (Rows.fnRoundBestSpec.post enc Tryd.prog Tryd.f15 false true false false) := by
  refine returnsInHanded_of_change_and (C := Tryd.checked) (X := fun w _ => laidMetH Tryd.prog Rows.fnRoundBestRow.laid w) (fun _ _ _ hh h => h.of_heap hh) own started (by kernel_rfl) Tryd.func15
    (ChangeSpec.witness_shaped (enc := enc) (C := Tryd.checked) (os := os) (X := fun w _ => laidMetH Tryd.prog Rows.fnRoundBestRow.laid w) false (World.laidAll Tryd.prog os Rows.fnRoundBestRow.laid) #[.slice none 0 0] 8 (World.laidAll_os _ _ _)
      (World.shaped_of_ZipB (by kernel_rfl) (by kernel_rfl)) (by kernel_rfl) (by kernel_rfl) (by kernel_rfl)
      (by rw [MakeChecks.laidMetH_plain _ _ _ (by kernel_rfl)]; exact laidMet_laidAll _ (by kernel_rfl) (by kernel_rfl))) ?_
  intro W base args ds gs before hval0 hW _ _ _ _
  have hval : ∀ (j : Nat) t v, Tryd.f15.params[j]? = some t → args[j]? = some v → Value.okWide Tryd.prog W .any base t v := hval0
  have hW' := hW
  obtain ⟨p, q, hA0, hV, rfl, hfz, hnd⟩ := hW
  have hA : DataW.TrodAll enc Tryd.prog W 0 (fun _ => true) true Tryd.f15.params.toList args.toList ds p := hA0
  rw [Tryd.params15] at hA hval
  obtain ⟨v0, vs0, d0, ds0, p0, q0, hargs, rfl, rfl, h0, r0⟩ := trodAll_cons hA
  obtain ⟨rfl, rfl, rfl⟩ := trodAll_nil r0
  obtain rfl : args = #[v0] := by cases args; simp_all
  obtain ⟨rfl, rfl⟩ := trodVars_none hV
  have lt0 : ∀ x ∈ p0, x.block < W.heap.size := by obtain ⟨m, hm⟩ := h0; exact DataW.trod_lt m _ _ _ hm
  obtain ⟨A0, n0, c0, z0, rfl, rfl, k0, m0, wf0, rd0⟩ := op_ints Tryd.underlying22 Tryd.underlying5 (by kernel_rfl) (hval 0 22 v0 rfl rfl) h0
  clear hA0 hval0
  refine (w_FnRoundBest W A0 c0 z0 k0 m0 wf0 rd0).mono fun e W' ⟨he, bel⟩ => ?_
  subst he
  exact ⟨_, rfl, _, _, _, [], _, [], hW', trodAll_mk1 (shut_bool Tryd.underlying4 _), (trodAll_cons_mk (Below.trod laidOut (by kernel_rfl) (of_decide_eq_true (by kernel_rfl)) h0 bel lt0) trodAll_mk0), rfl, bel.frame _, fun h => by cases h⟩
theorem closed : joinedFacts Tryd.prog 15 Tryd.f15 Rows.fnRoundBestSpec Rows.fnRoundBestRow = true := by
  unfold joinedFacts
  rw [mayEnter, liftsFinal, progMake]
  kernel_rfl
theorem over : Rows.fnRoundBestRow.holds Tryd.pinned (OpenSpec.ofChange Rows.fnRoundBestSpec) :=
  OpenClaim.holds_of_wide 15 Tryd.f15 rfl rfl rfl rfl rfl rfl rfl ⟨rfl, rfl, rfl, rfl, rfl⟩ rfl rfl rfl rfl rfl (by kernel_rfl) Tryd.func15 closed
    (of_decide_eq_true (by kernel_rfl)) (by unfold Func.isWrapper; first | (rw [if_pos (by decide +kernel)]; kernel_rfl) | (rw [if_neg (by decide +kernel)]; exact ⟨rfl, rfl⟩))
    (fun os started H enc _ => lifted os started H enc)
set_option maxRecDepth 100000 in
theorem carded : Rows.FnRoundBestCardSaid :=
  Claim7.holds_tied_plain_at .later [] _ true Rows.fnRoundBestCard.stood.harness false over (fun _ h => by cases h) (by kernel_rfl) (fun _ h => by cases h) fnRoundBest_row_tie rfl ⟨rfl, rfl⟩ mainIs rfl
    (fun f fn hf hfn => by
      obtain rfl : f = 15 := Option.some.inj ((show Tryd.prog.funcNamed Rows.fnRoundBestRow.func = some 15 by kernel_rfl).symm.trans hf) |>.symm
      obtain rfl : fn = Tryd.f15 := (Option.some.inj (Tryd.func15.symm.trans hfn)).symm
      exact ⟨noLooks, fun j t ht => by
        rw [Tryd.params15] at ht
        have hm : t ∈ [22] := by simpa using Array.mem_of_getElem? ht
        have hall : ([22].all fun u => !Tryd.prog.wantsStandIn u) = true := by kernel_rfl
        exact (show Tryd.prog.wantsStandIn t = false by simpa using List.all_eq_true.1 hall t hm)⟩)
    (by kernel_rfl)
theorem proved : Rows.FnRoundBestCardSaid := carded
end FnRoundBest
end Go.Proofs.YtcdoopccmljaoaaDoor
