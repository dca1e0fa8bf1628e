/- The reference's DigLifts. No conditions but bounds on lengths. -/
import Derived.Test.YtpiiefmfiipabaaDoorDigImpl
import Derived.Test.YtpiiefmfiipabaaDoorFree
import Derived.Test.YtpiiefmfiipabaaDoorCoilTake
namespace Go.Proofs.YtpiiefmfiipabaaDoor
open Go.ChangeShapes Go.WideShapes Go.ChangeAt Go.RowKit Go.Deep
theorem dig_round {q : PL} {b j : Nat} {u : Int} (o : On q b j) (hj : cl q (true, j) = u) : ∃ q1, coilTake q true (j : Int) = (q1, u) ∧ freeTo q1 (b : Int) = awayTo q (true, (j : Int)) (b : Int) ∧
    (∀ t, awayTo q (true, (j : Int)) (b : Int) = some t → coilPut q1 t.1 (t.2 : Int) u = ((coilLift q ((true, (j : Int)), (t.1, (t.2 : Int)))).1, true)) ∧ Vd q1 := by
  have hs := cl_pos_in o.hi
  have ht := take_yes o.vd o.hi o.bare
  refine ⟨st q (true, j) 0, by rw [← hj]; exact ht, (away_free o).symm, fun t ha => ?_, vd_take o.vd hs o.bare⟩
  obtain ⟨_, m, _, _, e⟩ := away_some o ha
  rw [e, ← hj]
  exact put_yes (vd_take o.vd hs o.bare) m
set_option linter.unusedSimpArgs false in
set_option linter.unusedVariables false in
set_option maxHeartbeats 4000000 in
set_option maxRecDepth 100000 in
theorem digLifts_spec (A A' : Option Addr) (c c' : Nat) (p : PL) (id : Int) (w : World) (hp : small p) (rp : RdP w w.heap.size A A' p) :
    Calls Tryd.prog 41 #[.agg #[.slice A p.1.length c, .slice A' p.2.length c'], .int .i64 id] w (DigOk w p id) := by
  go_enter Tryd.func41, Tryd.ntmps41
  have q0 := (Row.new w 25 #[.slice A p.1.length c, .slice A' p.2.length c']).alloc (.cells #[] 59)
  have oE : ((w.alloc (.cells #[.slice A p.1.length c, .slice A' p.2.length c'] 25)).alloc (.cells #[] 59)).ownsRow w.heap.size 59 4 (.slice (some ⟨w.heap.size + 1, 0, none⟩) 0 0) 0 [] := by
    have := own_empty (e := 59) (size := 4) (w.alloc (.cells #[.slice A p.1.length c, .slice A' p.2.length c'] 25)) w.heap.size (by simp)
    rw [World.size_alloc] at this
    exact this
  have b0 := bel_two w (.cells #[.slice A p.1.length c, .slice A' p.2.length c'] 25) (.cells #[] 59)
  have mm := q0.boxed
  have rp0 := rp.up b0
  go_wp2_with fail
  generalize (w.alloc (.cells #[.slice A p.1.length c, .slice A' p.2.length c'] 25)).alloc (.cells #[] 59) = w0 at *
  clear mm
  refine (coilFind_spec A A' c c' p id w0 hp rp0).mono ?_
  unfold SpotOk
  cases hf : coilFind p id with
  | none =>
    have hno := hide (dig_no hf)
    rintro e w1 ⟨rfl, b1⟩
    have bb := via b0 b1 b0.size
    clear hf
    go_wp2
    go_returns
    exact digOk_no hno.out (by first | exact bb | (exact bb.alloc bb.size _))
  | some s =>
    obtain ⟨st, b⟩ := s
    have hfv : findV p id = (st, (b : Int)) := by unfold findV; rw [hf]; rfl
    rw [hfv]
    rintro e w1 ⟨rfl, b1⟩
    have hO := ons_of hf
    have V := hO.vd
    have hb6 : b < 100 := by
      obtain ⟨_, _, hin, _⟩ := find_iff.1 hf
      unfold inP rowOf at hin
      have := V.l6
      have := V.up
      split at hin <;> simp only at hin <;> omega
    have bb := (via b0 b1 b0.size).alloc (by have := b0.size; have := b1.size; omega) (.cells #[.bool st, .int .i64 (b : Int)] 31)
    have q1 := (q0.after b1).alloc (.cells #[.bool st, .int .i64 (b : Int)] 31)
    have oE1 := owns_below (owns_below oE b1) (bel_one w1 (.cells #[.bool st, .int .i64 (b : Int)] 31))
    have qS := Row.new w1 31 #[.bool st, .int .i64 (b : Int)]
    have rp1 := (rp0.up b1).up (bel_one w1 (.cells #[.bool st, .int .i64 (b : Int)] 31))
    have hle := coilsOn_le (p := p) (top := st) (place := (b : Int))
    have HC := hide (fun w rp => coilsOn_spec A A' c c' p st (b : Int) w hp rp)
    have hfs := hide hf
    have hos := hide hO
    obtain ⟨m0, m1⟩ := q1.boxed
    obtain ⟨n0, n1⟩ := qS.boxed
    clear hfv hf hO oE
    simp only
    go_wp2_with fail
    refine (HC.out _ rp1).mono ?_
    rintro e w2 ⟨U, cu, rfl, oU, b2⟩
    clear m0 m1 n0 n1
    have S : DgS w w2 w.heap.size w1.heap.size p A A' c c' st (b : Int) (coilsOn p st (b : Int)) U (.slice (some ⟨w.heap.size + 1, 0, none⟩) 0 0) [] :=
      ⟨q1.after b2, qS.after b2, .inl (rp.1.below (via bb b2 bb.size)), .inl (rp.2.below (via bb b2 bb.size)), oU.mono bb.size, owns_below oE1 b2, via bb b2 bb.size, Nat.le_refl _⟩
    have hN0 : digN (b : Int) p (coilsOn p st (b : Int)) = (digN (b : Int) p (coilsOn p st (b : Int))).map fun x => (x.1, [] ++ x.2) := by simp
    have HN0 := hide hN0
    clear hN0 q1 qS rp1 b2 bb oU HC oE1
    generalize hus : coilsOn p st (b : Int) = us at *
    have HUS := hide hus
    clear hus
    go_wp2_with fail
    go_loopw [6, 10] (fun v i wr => ∃ (k : Nat) (q : PL) (X X' : Option Addr) (x x' : Nat) (ls : List LF), k ≤ us.length ∧ i = .int .i64 k ∧ ls.length ≤ k ∧ Hid (Ons q b (us.drop k)) ∧ DgS w wr w.heap.size w1.heap.size q X X' x x' st (b : Int) us U v ls ∧ Hid (digN (b : Int) p us = (digN (b : Int) q (us.drop k)).map fun x => (x.1, ls ++ x.2))) (fun _ i _ => us.length - (intOf i).toNat)
    case atStart => exact ⟨0, p, A, A', c, c', [], Nat.zero_le _, rfl, Nat.le_refl _, hos, S, HN0⟩
    case round =>
      clear S HN0 hos
      obtain ⟨k, q, X, X', x, x', ls, hk, rfl, hlk, hO, S, HN⟩ := hrel
      by_cases hlt : k < us.length
      · have hO := hO.out
        have hN := HN.out
        rw [List.drop_eq_getElem_cons hlt] at hO hN
        obtain ⟨bu, ou, rfl, _, hcu⟩ := (S.u1.rd).int hlt
        obtain ⟨j, oj, hj, hfj⟩ := hO.one
        have hz1 := S.low.size
        have HF := hide (fun w rq => coilFind_spec X X' x x' q us[k] w (small_vd hO.vd) rq)
        have HD := hide (fun ha => dig_fail hN ha)
        have HE := hide (fun t ha => dig_step (t := t) hN ha)
        have HX := hide (fun t ha => (hO.next oj hj (t := t) ha).1)
        have HY := hide (fun t ha => (away_some oj (t := t) ha).2.2.2.2)
        obtain ⟨q1, hT1, hF1, hP1, V1⟩ := dig_round oj hj
        have HT := hide (fun w rq => coilTake_spec X X' x x' q true (j : Int) w (small_vd hO.vd) rq)
        rw [hT1] at HT
        simp only at HT
        unfold SpotOk at HF
        rw [hfj] at HF HD HE
        have his : (coilFind q us[k]).isSome = true := by
          rw [find_isSome]
          have := (hO.vd.rng (true, j)).1
          exact ⟨hO.vd, by have := oj.hi; omega, (true, j), hj⟩
        rw [his] at HF
        generalize hu : us[k] = u at *
        have HU := hide hu
        clear hu
        simp only at HF
        have HP1 := hide hP1
        have HF1 := hide hF1
        obtain ⟨K0, K1, _, _⟩ := S.bp.ext2
        have C0 := Ext.old hcu
        have rq := S.rd
        have i0 : (0 : Int) ≤ (k : Int) := by omega
        have i1 : (k : Int) < (us.length : Int) := by omega
        have hV1 := hide V1
        clear hN hj hfj his hT1 hP1 hF1 hcu V1
        obtain ⟨x0, hx0⟩ := ext_self wr
        rw [← hx0]
        clear hx0
        go_wp2_with fail
        go_cut [11, 12] from 32 to 80 (fun v o wx => SpotBox wr true (j : Int) (.bool true) v o wx)
        case first =>
          go_region_held3 (fun w' => (w'.cell? ⟨w.heap.size, 0, none⟩ = some (.slice X q.1.length x)) ∧ (w'.cell? ⟨w.heap.size, 1, none⟩ = some (.slice X' q.2.length x')) ∧ w'.cell? ⟨bu, ou + k, none⟩ = some (.int .i64 u))
            (refine ⟨?_, ?_, ?_⟩ <;> with_reducible first | exact K0 _ | exact K1 _ | exact C0 _ | exact cell_in (Ext.below _).drew K0 | exact cell_in (Ext.below _).drew K1 | exact cell_in (Ext.below _).drew C0 | exact cell_in ((Ext.below _).alloc (Ext.below _).size _) K0 | exact cell_in ((Ext.below _).alloc (Ext.below _).size _) K1 | exact cell_in ((Ext.below _).alloc (Ext.below _).size _) C0 | exact cell_in ((Ext.below _).alloc (Ext.below _).size _).drew K0 | exact cell_in ((Ext.below _).alloc (Ext.below _).size _).drew K1 | exact cell_in ((Ext.below _).alloc (Ext.below _).size _).drew C0 | exact cell_in (((Ext.below _).setCell (Ext.below _).size _).setCell (Ext.below _).size _) K0 | exact cell_in (((Ext.below _).setCell (Ext.below _).size _).setCell (Ext.below _).size _) K1 | exact cell_in (((Ext.below _).setCell (Ext.below _).size _).setCell (Ext.below _).size _) C0)
            (first
              | (go_at_call 63; refine (HF.out _ (rq.up (by first | exact Ext.below _ | exact (Ext.below _).drew | exact (Ext.below _).alloc (Ext.below _).size _ | exact ((Ext.below _).alloc (Ext.below _).size _).drew))).mono ?_; rintro e w4 ⟨rfl, b4⟩; obtain ⟨x4, rfl⟩ := ext_any (by first | exact Ext.below _ | exact (Ext.below _).drew | exact (Ext.below _).alloc (Ext.below _).size _ | exact ((Ext.below _).alloc (Ext.below _).size _).drew) b4 (by first | exact (Ext.below _).size | exact ((Ext.below _).alloc (Ext.below _).size _).size); (first | (have qz := (Row.new _ _ _).drew.after b4; obtain ⟨m0, m1⟩ := qz.boxed; have f0 := qz.frozen 0; have f1 := qz.frozen 1) | (have qz := (Row.new _ _ _).after b4; obtain ⟨m0, m1⟩ := qz.boxed; have f0 := qz.frozen 0; have f1 := qz.frozen 1) | skip)))
          all_goals
            go_wp2_with fail
            go_meet
            first
              | exact spotBox_new
              | exact spotBox_old qz x0.below.size
        case rest =>
          obtain ⟨rfl, gW, xW, rfl, rfl, hgW, qW⟩ := hcut
          replace S := S.up xW.below
          clear K0 K1 C0 rq x0
          have hsW := xW.below.size
          generalize xW.val = w3 at *
          obtain ⟨m0, m1⟩ := S.bp.boxed
          obtain ⟨n0, n1⟩ := qW.boxed
          go_wp2_with fail
          clear m0 m1 n0 n1
          refine (HT.out w3 S.rd).mono ?_
          rintro e w5 ⟨Y, y, Y', y', rfl, oy, b5⟩
          have hsz3 := S.low.size
          have hsz5 := b5.size
          replace S := (S.up b5).up (bel_one w5 (.cells #[.slice Y q1.1.length y, .slice Y' q1.2.length y'] 25))
          replace qW := (qW.after b5).alloc (.cells #[.slice Y q1.1.length y, .slice Y' q1.2.length y'] 25)
          have qY := Row.new w5 25 #[.slice Y q1.1.length y, .slice Y' q1.2.length y']
          have oy1 := (oy.below (bel_one w5 (.cells #[.slice Y q1.1.length y, .slice Y' q1.2.length y'] 25))).below (bel_one _ (.cells #[.int .i64 (b : Int)] 3))
          have rb : Rd ((w5.alloc (.cells #[.slice Y q1.1.length y, .slice Y' q1.2.length y'] 25)).alloc (.cells #[.int .i64 (b : Int)] 3)) ((w5.alloc (.cells #[.slice Y q1.1.length y, .slice Y' q1.2.length y'] 25)).alloc (.cells #[.int .i64 (b : Int)] 3)).heap.size (some ⟨w5.heap.size + 1, 0, none⟩) (ic [(b : Int)]) := ((Row.new (w5.alloc (.cells #[.slice Y q1.1.length y, .slice Y' q1.2.length y'] 25)) 3 #[.int .i64 (b : Int)]).eq (by simp)).rd
          have V1 := hV1.out
          have HL := l6Free_any Y Y' (some ⟨w5.heap.size + 1, 0, none⟩) y y' 1 q1 (b : Int) _ V1.l6 V1.up oy1.rd rb
          obtain ⟨m0, m1⟩ := S.bs.boxed
          obtain ⟨n0, n1⟩ := qY.boxed
          clear HT oy b5 V
          cases ha : awayTo q (true, (j : Int)) (b : Int) with
          | none =>
            have e1 : freeTo q1 (b : Int) = none := by rw [HF1.out, ha]
            have e2 : freeV q1 (b : Int) = (false, 0) := by unfold freeV; rw [e1]; rfl
            rw [e1, e2] at HL
            have HL' := hide HL
            have hno := hide (dig_lost hfs.out (by rw [HUS.out]; exact HD.out ha))
            clear HL e1 e2 ha HD HE HX HY HP1 HF1 rb
            simp only at HL'
            go_wp2_with fail
            refine HL'.out.mono ?_
            rintro e w6 ⟨rfl, b6⟩
            have bb := ((S.up (bel_one _ (.cells #[.int .i64 (b : Int)] 3))).up b6).low
            go_wp2
            (try simp only [Exit.inBlock, Exit.then])
            refine bodyPost_ret (results_tmp2 rfl _ _ _) rfl ?_
            exact digOk_no hno.out (via bb (bel_two _ _ _) bb.size)
          | some t =>
            have e1 : freeTo q1 (b : Int) = some t := by rw [HF1.out, ha]
            have e2 : freeV q1 (b : Int) = (t.1, (t.2 : Int)) := by unfold freeV; rw [e1]; rfl
            rw [e1, e2] at HL
            have HL' := hide HL
            have hOn : Ons (coilLift q ((true, (j : Int)), (t.1, (t.2 : Int)))).1 b (us.drop (k + 1)) := by rw [HY.out t ha]; exact HX.out t ha
            have HOn := hide hOn
            have HNn := hide (HE.out t ha)
            have hpr := HP1.out t ha
            have HPut := hide (fun w rq => coilPut_spec Y Y' y y' q1 t.1 (t.2 : Int) u w (small_vd V1) rq)
            rw [hpr] at HPut
            clear HL e1 e2 ha HD HE HX HY HP1 HF1 hOn hpr rb
            simp only at *
            generalize (coilLift q ((true, (j : Int)), (t.1, (t.2 : Int)))).1 = r at *
            obtain ⟨tt, tk⟩ := t
            simp only at *
            go_wp2_with fail
            refine HL'.out.mono ?_
            rintro e w6 ⟨rfl, b6⟩
            have hsz6 := b6.size
            replace S := ((S.up (bel_one _ (.cells #[.int .i64 (b : Int)] 3))).up b6).up (bel_one w6 (.cells #[.bool tt, .int .i64 (tk : Int)] 31))
            replace qW := (((qW.alloc (.cells #[.int .i64 (b : Int)] 3)).after b6)).alloc (.cells #[.bool tt, .int .i64 (tk : Int)] 31)
            replace qY := (((qY.alloc (.cells #[.int .i64 (b : Int)] 3)).after b6)).alloc (.cells #[.bool tt, .int .i64 (tk : Int)] 31)
            have qT := Row.new w6 31 #[.bool tt, .int .i64 (tk : Int)]
            have rqy := (oy1.rd.up b6).up (bel_one w6 (.cells #[.bool tt, .int .i64 (tk : Int)] 31))
            clear HL' b6 oy1 m0 m1 n0 n1
            go_wp2_with fail
            have hsz7 := S.low.size
            generalize w6.alloc (.cells #[.bool tt, .int .i64 (tk : Int)] 31) = w7 at *
            generalize w6.heap.size = gT at *
            generalize w5.heap.size = gY at *
            obtain ⟨bu', ou', hA, _, hcu⟩ := (S.u1.rd).int hlt
            cases hA
            rw [HU.out] at hcu
            have C0 := Ext.old hcu
            obtain ⟨K0, K1, _, _⟩ := qY.ext2
            obtain ⟨K2, K3, _, _⟩ := qT.ext2
            obtain ⟨x0, hx0⟩ := ext_self w7
            rw [← hx0]
            clear hx0 hcu
            go_cut [17, 18] from 32 to 80 (fun v o wx => BoxOf w7 r (.bool true) v o wx)
            case first =>
              go_region_held3 (fun w' => (w'.cell? ⟨gY, 0, none⟩ = some (.slice Y q1.1.length y)) ∧ (w'.cell? ⟨gY, 1, none⟩ = some (.slice Y' q1.2.length y')) ∧ (w'.cell? ⟨bu, ou + k, none⟩ = some (.int .i64 u)) ∧ (w'.cell? ⟨gT, 0, none⟩ = some (.bool tt)) ∧ w'.cell? ⟨gT, 1, none⟩ = some (.int .i64 (tk : Int)))
                (refine ⟨?_, ?_, ?_, ?_, ?_⟩ <;> with_reducible first | exact K0 _ | exact K1 _ | exact C0 _ | exact cell_in (Ext.below _).drew K0 | exact cell_in (Ext.below _).drew K1 | exact cell_in (Ext.below _).drew C0 | exact cell_in ((Ext.below _).alloc (Ext.below _).size _) K0 | exact cell_in ((Ext.below _).alloc (Ext.below _).size _) K1 | exact cell_in ((Ext.below _).alloc (Ext.below _).size _) C0 | exact cell_in ((Ext.below _).alloc (Ext.below _).size _).drew K0 | exact cell_in ((Ext.below _).alloc (Ext.below _).size _).drew K1 | exact cell_in ((Ext.below _).alloc (Ext.below _).size _).drew C0 | exact cell_in (((Ext.below _).setCell (Ext.below _).size _).setCell (Ext.below _).size _) K0 | exact cell_in (((Ext.below _).setCell (Ext.below _).size _).setCell (Ext.below _).size _) K1 | exact cell_in (((Ext.below _).setCell (Ext.below _).size _).setCell (Ext.below _).size _) C0 | exact K2 _ | exact K3 _ | exact cell_in (Ext.below _).drew K2 | exact cell_in (Ext.below _).drew K3 | exact cell_in ((Ext.below _).alloc (Ext.below _).size _) K2 | exact cell_in ((Ext.below _).alloc (Ext.below _).size _) K3 | exact cell_in ((Ext.below _).alloc (Ext.below _).size _).drew K2 | exact cell_in ((Ext.below _).alloc (Ext.below _).size _).drew K3 | exact cell_in (((Ext.below _).setCell (Ext.below _).size _).setCell (Ext.below _).size _) K2 | exact cell_in (((Ext.below _).setCell (Ext.below _).size _).setCell (Ext.below _).size _) K3)
                (first
                  | (go_at_call 38; refine (HPut.out _ (rqy.up (by first | exact Ext.below _ | exact (Ext.below _).drew | exact (Ext.below _).alloc (Ext.below _).size _ | exact ((Ext.below _).alloc (Ext.below _).size _).drew))).mono ?_; rintro e w4 ⟨Z, z, Z', z', rfl, o4, b4⟩; obtain ⟨x4, rfl⟩ := ext_any (by first | exact Ext.below _ | exact (Ext.below _).drew | exact (Ext.below _).alloc (Ext.below _).size _ | exact ((Ext.below _).alloc (Ext.below _).size _).drew) b4 (by first | exact (Ext.below _).size | exact ((Ext.below _).alloc (Ext.below _).size _).size); (first | (have qz := (Row.new _ _ _).drew.after b4; obtain ⟨m0, m1⟩ := qz.boxed; have f0 := qz.frozen 0; have f1 := qz.frozen 1) | (have qz := (Row.new _ _ _).after b4; obtain ⟨m0, m1⟩ := qz.boxed; have f0 := qz.frozen 0; have f1 := qz.frozen 1) | skip)))
              all_goals
                go_wp2_with fail
                go_meet
                first
                  | exact boxOf_new o4 (by first | exact (Ext.below _).size | exact ((Ext.below _).alloc (Ext.below _).size _).size)
                  | exact boxOf_old qz x0.below.size (by first | (simp; done) | (simp at *; omega)) o4
            case rest =>
              obtain ⟨rfl, gZ, xZ, Z, z, Z', z', rfl, rfl, hgZ, qZ, oZ, _⟩ := hcut
              have S8 := S.up xZ.below
              have qW8 := qW.after xZ.below
              have qT8 := qT.after xZ.below
              have hsz8 := xZ.below.size
              clear S qW qT K0 K1 K2 K3 C0 x0
              generalize xZ.val = w8 at *
              have oz1 := oZ.1.mono hsz7
              have oz2 := oZ.2.1.mono hsz7
              have S5 := S8.setP (z := z) (z' := z') oz1 oz2
              have hneW : gW ≠ w.heap.size := isT_ne qW8.isT S8.bp.isT (by decide)
              have hneT : gT ≠ w.heap.size := isT_ne qT8.isT S8.bp.isT (by decide)
              have qW9 := (qW8.far (p := ⟨w.heap.size, 0, none⟩) hneW (.slice Z r.1.length z)).far (p := ⟨w.heap.size, 1, none⟩) hneW (.slice Z' r.2.length z')
              have qT9 := (qT8.far (p := ⟨w.heap.size, 0, none⟩) hneT (.slice Z r.1.length z)).far (p := ⟨w.heap.size, 1, none⟩) hneT (.slice Z' r.2.length z')
              have f0 := S8.bp.frozen 0
              have f1 := S8.bp.frozen 1
              obtain ⟨m0, m1⟩ := S8.bp.boxed
              obtain ⟨m2, m3⟩ := qZ.boxed
              obtain ⟨l0, l1⟩ := qW9.boxed
              obtain ⟨l2, l3⟩ := qT9.boxed
              have hsz : ((w8.setCell ⟨w.heap.size, 0, none⟩ (.slice Z r.1.length z)).setCell ⟨w.heap.size, 1, none⟩ (.slice Z' r.2.length z')).heap.size = w8.heap.size := by simp
              have S6 := S5.up (bel_one _ (.cells #[.bool true, .int .i64 (j : Int), .bool tt, .int .i64 (tk : Int)] 59))
              have rdn := (Row.new ((w8.setCell ⟨w.heap.size, 0, none⟩ (.slice Z r.1.length z)).setCell ⟨w.heap.size, 1, none⟩ (.slice Z' r.2.length z')) 59 #[.bool true, .int .i64 (j : Int), .bool tt, .int .i64 (tk : Int)])
              rw [hsz] at rdn
              have rdn' := rdn.rd
              clear S8 S5 oz1 oz2 rdn qW8 qT8 qW9 qT9 oZ qZ
              go_wp2_with (at_builtin; refine wpList_append_any liftElemT rfl _ _ rfl w.heap.size _ _ ls.length (lc ls) rfl S6.out (some ⟨w8.heap.size, 0, none⟩) 1 1 rfl (lc [((true, (j : Int)), (tt, (tk : Int)))]) rfl rdn' (fun h => by cases h) (lc_oneT _) (by omega) (by omega) S6.low.size ?_; intro v9 w9 hap; have S9 := S6.app ((true, (j : Int)), (tt, (tk : Int))) hap; clear hap)
              go_roundw
              case rel => exact ⟨k + 1, r, Z, Z', z, z', ls ++ [((true, (j : Int)), (tt, (tk : Int)))], by omega, by go_num, by simp; omega, HOn, S9, HNn⟩
              case measure => first | (simp [intOf]; done) | (simp [intOf]; omega)
      · obtain rfl : k = us.length := by omega
        have hN := HN.out
        rw [List.drop_length] at hN
        have hfin := hide (dig_lifts hfs.out (by rw [HUS.out]; exact dig_done hN))
        obtain ⟨I9, c9, hv9, oO, _⟩ := own_room2 S.out
        have hlow := S.low
        subst hv9
        clear hN HN S
        go_wp2
        (try simp only [Exit.inBlock, Exit.then])
        refine bodyPost_ret (results_tmp2 rfl _ _ _) rfl ?_
        unfold DigOk
        rw [hfin.out]
        exact ⟨I9, c9, rfl, oO, hlow⟩
end Go.Proofs.YtpiiefmfiipabaaDoor
