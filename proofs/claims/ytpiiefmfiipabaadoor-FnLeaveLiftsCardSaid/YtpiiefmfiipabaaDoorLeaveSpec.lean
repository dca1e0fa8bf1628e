/- The reference's LeaveAll. No conditions but bounds on lengths. -/
import Derived.Test.YtpiiefmfiipabaaDoorLeaveImpl
import Derived.Test.YtpiiefmfiipabaaDoorDigSpec
import Derived.Test.YtpiiefmfiipabaaDoorLBox
namespace Go.Proofs.YtpiiefmfiipabaaDoor
open Go.ChangeShapes Go.WideShapes Go.ChangeAt Go.RowKit Go.Deep
/-- A row of lifts of the call's own, and a value beside it. -/
def LiftsAt (w0 : World) (ls : List LF) (u : Value) (v o : Value) (wx : World) : Prop :=
  o = u ∧ ∃ (I : Option Addr) (ci : Nat) (xW : Ext w0), v = .slice I ls.length ci ∧ wx = xW.val ∧ Own xW.val w0.heap.size 59 I (lc ls)
theorem liftsAt_new {w0 : World} {ls : List LF} {u : Value} {x4 : Ext w0} {hc : Nat} {I : Option Addr} {ci : Nat} (o : Own x4.val hc 59 I (lc ls)) (h : w0.heap.size ≤ hc) : LiftsAt w0 ls u (.slice I ls.length ci) u x4.val :=
  ⟨rfl, I, ci, x4, rfl, rfl, o.mono h⟩
set_option linter.unusedSimpArgs false in
set_option linter.unusedVariables false in
set_option maxHeartbeats 4000000 in
set_option maxRecDepth 100000 in
theorem leaveAll_spec (A A' B : Option Addr) (c c' d : Nat) (p : PL) (z : List Int) (w : World) (hp : small p) (hz : z.length ≤ 1099511627776) (hd : z.length ≤ d) (rp : RdP w w.heap.size A A' p) (rz : Rd w w.heap.size B (ic z)) :
    Calls Tryd.prog 58 #[.agg #[.slice A p.1.length c, .slice A' p.2.length c'], .slice B z.length d] w fun e w' => e = .returned (.tuple #[.int .i64 (leaveAll p z).1, .bool (leaveAll p z).2]) ∧ Below w.heap.size w w' := by
  go_enter Tryd.func58, Tryd.ntmps58
  go_wp2_with fail
  have q0 := Row.new w 25 #[.slice A p.1.length c, .slice A' p.2.length c']
  have b0 := bel_one w (.cells #[.slice A p.1.length c, .slice A' p.2.length c'] 25)
  have rp0 := rp.up b0
  have rz0 := rz.up b0
  have x10 : RdE w (w.alloc (.cells #[.slice A p.1.length c, .slice A' p.2.length c'] 25)) A (ic p.1) := .inl (rp.1.below b0)
  have x20 : RdE w (w.alloc (.cells #[.slice A p.1.length c, .slice A' p.2.length c'] 25)) A' (ic p.2) := .inl (rp.2.below b0)
  have mm := q0.boxed
  generalize w.alloc (.cells #[.slice A p.1.length c, .slice A' p.2.length c'] 25) = w0 at *
  refine (leaveOk_spec A A' B c c' d p z w0 hp hz hd rp0 rz0).mono ?_
  rintro e w1 ⟨rfl, b1⟩
  cases hok : leaveOk p z
  · have hno := hide (leave_no hok)
    have bb := via b0 b1 b0.size
    clear hok
    go_wp2
    go_returns
    rw [hno.out]
    exact ⟨rfl, bb⟩
  · have S : LvS w w1 w.heap.size p A A' c c' := (LvS.mk q0 x10 x20 b0 (Nat.le_refl _)).up b1
    have hlen := leaveOk_len hok
    have V := (leaveOk_all.1 hok).1
    have HK := hide hok
    have HN : Hid (leaveN p z = (leaveN p (z.drop 0)).map (· + 0)) := hide (by simp)
    clear hok q0 x10 x20 b0 b1 rp0 rz0 mm
    go_wp2_with fail
    go_loopw [6, 7] (fun n0 i wr => ∃ (k n : Nat) (q : PL) (X X' : Option Addr) (x x' : Nat), k ≤ z.length ∧ i = .int .i64 k ∧ n0 = .int .i64 (n : Nat) ∧ n ≤ 2 * k ∧ Vd q ∧ LvS w wr w.heap.size q X X' x x' ∧ Hid (leaveN p z = (leaveN q (z.drop k)).map (· + n))) (fun _ i _ => z.length - (intOf i).toNat)
    case atStart => exact ⟨0, 0, p, A, A', c, c', Nat.zero_le _, rfl, rfl, Nat.le_refl _, V, S, HN⟩
    case round =>
      clear S HN V
      obtain ⟨k, n, q, X, X', x, x', hk, rfl, rfl, hnk, V, S, HN⟩ := hrel
      by_cases hlt : k < z.length
      · have hN := HN.out
        rw [List.drop_eq_getElem_cons hlt] at hN
        obtain ⟨bz, oz, rfl, hbz, hcz⟩ := (rz.below S.low).int hlt
        have HZ := hide (fun (W : World) (h : Below w.heap.size w W) => (rz.below h).int hlt)
        generalize hu : z[k] = u at *
        have HD := hide (fun w rq => digLifts_spec X X' x x' q u w (small_vd V) rq)
        unfold DigOk at HD
        have HF := hide (fun h => leave_fail HK.out hN h)
        have HO := hide (fun h => leave_step hN h)
        have HQ := hide (fun h => dig_out (p := q) (id := u) h)
        generalize digLifts q u = rv at *
        obtain ⟨ls, ok⟩ := rv
        simp only at *
        obtain ⟨K0, K1, _, _⟩ := S.bp.ext2
        have C0 := Ext.old hcz
        have rq := S.rd
        have hz1 := S.low.size
        have i0 : (0 : Int) ≤ (k : Int) := by omega
        have i1 : (k : Int) < (z.length : Int) := by omega
        clear hN HN hcz hu
        obtain ⟨x0, hx0⟩ := ext_self wr
        rw [← hx0]
        clear hx0
        go_wp2_with fail
        go_cut [8, 9] from 20 to 62 (fun v o wx => LiftsAt wr ls (.bool ok) v o wx)
        case first =>
          go_region_held3 (fun w' => (w'.cell? ⟨w.heap.size, 0, none⟩ = some (.slice X q.1.length x)) ∧ (w'.cell? ⟨w.heap.size, 1, none⟩ = some (.slice X' q.2.length x')) ∧ w'.cell? ⟨bz, oz + k, none⟩ = some (.int .i64 u))
            (refine ⟨?_, ?_, ?_⟩ <;> with_reducible first | exact K0 _ | exact K1 _ | exact C0 _ | exact cell_in (Ext.below _).drew K0 | exact cell_in (Ext.below _).drew K1 | exact cell_in (Ext.below _).drew C0 | exact cell_in ((Ext.below _).alloc (Ext.below _).size _) K0 | exact cell_in ((Ext.below _).alloc (Ext.below _).size _) K1 | exact cell_in ((Ext.below _).alloc (Ext.below _).size _) C0 | exact cell_in ((Ext.below _).alloc (Ext.below _).size _).drew K0 | exact cell_in ((Ext.below _).alloc (Ext.below _).size _).drew K1 | exact cell_in ((Ext.below _).alloc (Ext.below _).size _).drew C0 | exact cell_in (((Ext.below _).setCell (Ext.below _).size _).setCell (Ext.below _).size _) K0 | exact cell_in (((Ext.below _).setCell (Ext.below _).size _).setCell (Ext.below _).size _) K1 | exact cell_in (((Ext.below _).setCell (Ext.below _).size _).setCell (Ext.below _).size _) C0)
            (first
              | (go_at_call 41; refine (HD.out _ (rq.up (by first | exact Ext.below _ | exact (Ext.below _).drew | exact (Ext.below _).alloc (Ext.below _).size _ | exact ((Ext.below _).alloc (Ext.below _).size _).drew))).mono ?_; rintro e w4 ⟨I, ci, rfl, oI, b4⟩; obtain ⟨x4, rfl⟩ := ext_any (by first | exact Ext.below _ | exact (Ext.below _).drew | exact (Ext.below _).alloc (Ext.below _).size _ | exact ((Ext.below _).alloc (Ext.below _).size _).drew) b4 (by first | exact (Ext.below _).size | exact ((Ext.below _).alloc (Ext.below _).size _).size)))
          all_goals
            go_wp2_with fail
            go_meet
            exact liftsAt_new oI (by first | exact (Ext.below _).size | exact ((Ext.below _).alloc (Ext.below _).size _).size)
        case rest =>
          obtain ⟨rfl, I, ci, xW, rfl, rfl, oI⟩ := hcut
          replace S := S.up xW.below
          replace oI := oI.mono hz1
          clear K0 K1 C0 rq x0 HD
          generalize xW.val = w3 at *
          cases ok
          · have hno := hide (HF.out rfl)
            have bb := S.low
            clear HF HO HQ
            go_wp2
            (try simp only [Exit.inBlock, Exit.then])
            refine bodyPost_ret (results_tmp2 rfl _ _ _) rfl ?_
            rw [hno.out]
            exact ⟨rfl, bb⟩
          · obtain ⟨s0, V1, V2, hn, hl2, hfs, _, hid, hu1, ht⟩ := HQ.out rfl
            have HNn := HO.out rfl
            have hrun := run_good ((vd_iff q).2 V) (show ls.length ≤ 40 by omega)
            have HR := hide (fun w rq rl => liftRun_spec X X' I x x' ci q ls w (small_vd V) (by omega) rq rl)
            rw [hrun] at HR
            have hfi : (coilFind (liftN q ls).1 u).isSome = true := by rw [hfs]; rfl
            have hVN : Vd (coilTake (liftN q ls).1 (findV (liftN q ls).1 u).1 (findV (liftN q ls).1 u).2).1 := take_vd V2 _ _
            generalize liftN q ls = rl at *
            obtain ⟨r, nl⟩ := rl
            simp only at *
            have HCF := hide (fun J J' cj cj' w rq => coilFind_spec J J' cj cj' r u w (small_vd V2) rq)
            unfold SpotOk at HCF
            rw [hfi] at HCF
            generalize findV r u = sv at *
            obtain ⟨st, sk⟩ := sv
            simp only at *
            have HCT := hide (fun J J' cj cj' w rq => coilTake_spec J J' cj cj' r st sk w (small_vd V2) rq)
            generalize coilTake r st sk = tv at *
            obtain ⟨r', un⟩ := tv
            simp only at *
            have HNn := hide HNn
            have HVN := hide hVN
            clear HF HO HQ hn hfs hid ht hfi hrun hVN
            obtain ⟨m0, m1⟩ := S.bp.boxed
            go_wp2_with fail
            clear m0 m1
            refine (HR.out w3 S.rd oI.rd).mono ?_
            rintro e w4 ⟨J, cj, J', cj', rfl, oJ, b4⟩
            have hz3 := S.low.size
            replace S := (S.up b4).up (bel_one w4 (.cells #[.slice J r.1.length cj, .slice J' r.2.length cj'] 25))
            have qJ := Row.new w4 25 #[.slice J r.1.length cj, .slice J' r.2.length cj']
            have rj := (oJ.below (bel_one w4 (.cells #[.slice J r.1.length cj, .slice J' r.2.length cj'] 25))).rd
            have hz4 := b4.size
            clear HR oI oJ b4
            have bb4 := S.low
            obtain ⟨bz', oz', hA, _, hcz⟩ := HZ.out _ bb4
            cases hA
            obtain ⟨m0, m1⟩ := qJ.boxed
            go_wp2_with fail
            clear m0 m1
            generalize w4.alloc (.cells #[.slice J r.1.length cj, .slice J' r.2.length cj'] 25) = w5 at *
            generalize w4.heap.size = gJ at *
            obtain ⟨K0, K1, _, _⟩ := qJ.ext2
            have C0 := Ext.old hcz
            clear hcz
            obtain ⟨x0, hx0⟩ := ext_self w5
            rw [← hx0]
            clear hx0
            go_cut [12, 13] from 20 to 62 (fun v o wx => SpotBox w5 st sk (.bool true) v o wx)
            case first =>
              go_region_held3 (fun w' => (w'.cell? ⟨gJ, 0, none⟩ = some (.slice J r.1.length cj)) ∧ (w'.cell? ⟨gJ, 1, none⟩ = some (.slice J' r.2.length cj')) ∧ w'.cell? ⟨bz, oz + k, none⟩ = some (.int .i64 u))
                (refine ⟨?_, ?_, ?_⟩ <;> with_reducible first | exact K0 _ | exact K1 _ | exact C0 _ | exact cell_in (Ext.below _).drew K0 | exact cell_in (Ext.below _).drew K1 | exact cell_in (Ext.below _).drew C0 | exact cell_in ((Ext.below _).alloc (Ext.below _).size _) K0 | exact cell_in ((Ext.below _).alloc (Ext.below _).size _) K1 | exact cell_in ((Ext.below _).alloc (Ext.below _).size _) C0 | exact cell_in ((Ext.below _).alloc (Ext.below _).size _).drew K0 | exact cell_in ((Ext.below _).alloc (Ext.below _).size _).drew K1 | exact cell_in ((Ext.below _).alloc (Ext.below _).size _).drew C0 | exact cell_in (((Ext.below _).setCell (Ext.below _).size _).setCell (Ext.below _).size _) K0 | exact cell_in (((Ext.below _).setCell (Ext.below _).size _).setCell (Ext.below _).size _) K1 | exact cell_in (((Ext.below _).setCell (Ext.below _).size _).setCell (Ext.below _).size _) C0)
                (first
                  | (go_at_call 63; refine (HCF.out _ _ _ _ _ (rj.up (by first | exact Ext.below _ | exact (Ext.below _).drew | exact (Ext.below _).alloc (Ext.below _).size _ | exact ((Ext.below _).alloc (Ext.below _).size _).drew))).mono ?_; rintro e w4 ⟨rfl, b4⟩; obtain ⟨x4, rfl⟩ := ext_any (by first | exact Ext.below _ | exact (Ext.below _).drew | exact (Ext.below _).alloc (Ext.below _).size _ | exact ((Ext.below _).alloc (Ext.below _).size _).drew) b4 (by first | exact (Ext.below _).size | exact ((Ext.below _).alloc (Ext.below _).size _).size); (first | (have qz := (Row.new _ _ _).drew.after b4; obtain ⟨m0, m1⟩ := qz.boxed; have f0 := qz.frozen 0; have f1 := qz.frozen 1) | (have qz := (Row.new _ _ _).after b4; obtain ⟨m0, m1⟩ := qz.boxed; have f0 := qz.frozen 0; have f1 := qz.frozen 1) | skip)))
              all_goals
                go_wp2_with fail
                go_meet
                first
                  | exact spotBox_new
                  | exact spotBox_old qz x0.below.size
            case rest =>
              obtain ⟨rfl, gW, xW, rfl, rfl, hgW, qW⟩ := hcut
              replace S := S.up xW.below
              replace qJ := qJ.after xW.below
              replace rj := rj.up xW.below
              clear K0 K1 C0 x0 HCF
              generalize xW.val = w6 at *
              obtain ⟨m0, m1⟩ := qJ.boxed
              obtain ⟨n0, n1⟩ := qW.boxed
              have hz6 := S.low.size
              go_wp2_with fail
              clear m0 m1 n0 n1
              refine (HCT.out _ _ _ _ w6 rj).mono ?_
              rintro e w7 ⟨Y, y, Y', y', rfl, oY, b7⟩
              replace S := (S.up b7).up (bel_one w7 (.cells #[.slice Y r'.1.length y, .slice Y' r'.2.length y'] 25))
              have qY := Row.new w7 25 #[.slice Y r'.1.length y, .slice Y' r'.2.length y']
              have oY1 := (oY.1.below (bel_one w7 (.cells #[.slice Y r'.1.length y, .slice Y' r'.2.length y'] 25))).mono hz6
              have oY2 := (oY.2.1.below (bel_one w7 (.cells #[.slice Y r'.1.length y, .slice Y' r'.2.length y'] 25))).mono hz6
              obtain ⟨m0, m1⟩ := S.bp.boxed
              obtain ⟨m2, m3⟩ := qY.boxed
              have f0 := S.bp.frozen 0
              have f1 := S.bp.frozen 1
              have S2 := S.set (z := y) (z' := y') oY1 oY2
              clear HCT oY b7 oY1 oY2
              go_wp2_with fail
              go_roundw
              case rel => exact ⟨k + 1, n + ls.length, r', Y, Y', y, y', by omega, by go_num, by go_num, by omega, HVN.out, S2, HNn⟩
              case measure => first | (simp [intOf]; done) | (simp [intOf]; omega)
      · obtain rfl : k = z.length := by omega
        have hN := HN.out
        rw [List.drop_length] at hN
        have hfin := hide (leave_done HK.out hN)
        have hlow := S.low
        clear hN HN S
        go_wp2
        (try simp only [Exit.inBlock, Exit.then])
        refine bodyPost_ret (results_tmp2 rfl _ _ _) rfl ?_
        rw [hfin.out]
        exact ⟨rfl, hlow⟩
end Go.Proofs.YtpiiefmfiipabaaDoor
