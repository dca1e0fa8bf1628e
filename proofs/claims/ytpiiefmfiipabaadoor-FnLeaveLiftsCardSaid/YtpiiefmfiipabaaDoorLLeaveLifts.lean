/- What lies on an earlier one has to be lifted: FnLeaveLifts returns true for every input. No conditions. -/
import Derived.Test.YtpiiefmfiipabaaDoorSeatC
import Derived.Test.YtpiiefmfiipabaaDoorDrawZ
import Derived.Test.YtpiiefmfiipabaaDoorDrawG
import Derived.Test.YtpiiefmfiipabaaDoorAlive
import Derived.Test.YtpiiefmfiipabaaDoorLBox
import Derived.Test.YtpiiefmfiipabaaDoorLeaveSpec
import Derived.Test.YtpiiefmfiipabaaDoorLeaveLifts
namespace Go.Proofs.YtpiiefmfiipabaaDoor
open Go.ChangeShapes Go.WideShapes Go.ChangeAt Go.RowKit Go.Deep
/-- Behind n lifts, k coils of the order have left the pile that is q now; p was the first one. -/
structure LL (p : PL) (z : List Int) (q : PL) (k : Nat) (n : Nat) : Prop where
  vd : Vd q
  pot : needN p z p.2.length ≤ pot p z q + n
  gone : ∀ y ∈ z.take k, ∀ u, cl q u ≠ y
theorem ll_start {p : PL} {z : List Int} (h : leaveOk p z = true) : LL p z p 0 0 :=
  ⟨(leaveOk_all.1 h).1, by rw [pot_start]; exact Nat.le_refl _, by simp⟩
theorem ll_lift {p q : PL} {z : List Int} {n : Nat} (h : LL p z q 0 n) {l : LF} (hl : (coilLift q l).2 = true) : LL p z (coilLift q l).1 0 (n + 1) :=
  ⟨lift_vd h.vd l, by have := pot_lift (p := p) (z := z) l hl; have := h.pot; omega, by simp⟩
theorem ll_dig {p q : PL} {z : List Int} {k n : Nat} (ho : leaveOk p z = true) (h : LL p z q k n) (hk : k < z.length) (hd : (digLifts q z[k]).2 = true) :
    LL p z (coilTake (liftN q (digLifts q z[k]).1).1 (findV (liftN q (digLifts q z[k]).1).1 z[k]).1 (findV (liftN q (digLifts q z[k]).1).1 z[k]).2).1 (k + 1) (n + (digLifts q z[k]).1.length) := by
  obtain ⟨_, hn, hz⟩ := leaveOk_all.1 ho
  have e : z = z.take k ++ z[k] :: z.drop (k + 1) := by
    conv => lhs; rw [← List.take_append_drop k z, List.drop_eq_getElem_cons hk]
  obtain ⟨s1, s2, s3⟩ := pot_step (p := p) (b := z.drop (k + 1)) (a := z.take k) (x := z[k]) (q := q) (by rw [← e]; exact hn) (fun y hy => (hz y (List.mem_of_mem_take hy)).1) hd h.gone
  rw [← e] at s1
  refine ⟨s3, ?_, ?_⟩
  · have := h.pot
    unfold outOf at s1
    omega
  · rw [← List.take_append_getElem hk]
    exact s2
theorem ll_end {p q : PL} {z : List Int} {n : Nat} (ho : leaveOk p z = true) (h : LL p z q z.length n) : leaveLifts p z ≤ (n : Int) := by
  have := h.pot
  rw [pot_end (by have := h.gone; rwa [List.take_length] at this)] at this
  rw [leaveLifts, if_pos ho]; omega
theorem lifts_neg {p : PL} {z : List Int} (h : leaveOk p z = false) : leaveLifts p z = -1 := by rw [leaveLifts, h]; rfl
theorem lifts_pos {p : PL} {z : List Int} (h : leaveOk p z = true) : 0 ≤ leaveLifts p z := by rw [leaveLifts, if_pos h]; omega
set_option linter.unusedSimpArgs false in
set_option linter.unusedVariables false in
set_option maxHeartbeats 8000000 in
set_option maxRecDepth 100000 in
theorem w_FnLeaveLifts (w : World) (A : Option Addr) (c : Nat) (bs : List Int) (hkc : bs.length ≤ c) (hmc : c ≤ maxLen) (hbs : ∀ b ∈ bs, (Lit.int .u8 b).wf = true) (hrd : Rd w w.heap.size A (bc bs))
    (A2 : Option Addr) (c2 : Nat) (ms : List Int) (hkc2 : ms.length ≤ c2) (hmc2 : c2 ≤ maxLen) (hms : ∀ b ∈ ms, (Lit.int .u8 b).wf = true) (hrd2 : Rd w w.heap.size A2 (bc ms)) :
    Calls Tryd.prog 13 #[.slice A bs.length c, .slice A2 ms.length c2] w fun e w' => e = .returned (.bool true) ∧ Below w.heap.size w w' := by
  have hB := hide hbs
  have hM := hide hms
  clear hbs hms
  by_cases hl : 1048576 < bs.length
  · go_enter Tryd.func13, Tryd.ntmps13
    go_wp2
    go_ret
    exact ⟨rfl, Below.refl _ _⟩
  by_cases hl2 : 1048576 < ms.length
  · go_enter Tryd.func13, Tryd.ntmps13
    go_wp2
    go_ret
    exact ⟨rfl, Below.refl _ _⟩
  · go_enter Tryd.func13, Tryd.ntmps13
    go_wp2_with fail
    refine (drawLeaveLifts_any A c bs w hkc hmc hB.out hrd).mono ?_
    rintro e w1 ⟨L, d, L', d', p, I, ci, z, rfl, h1, h2, h3, h4, h5, h6, oL, oL', oz, b1⟩
    clear hl hl2 hkc hmc hrd
    have rp : RdP w1 w1.heap.size L L' p := ⟨oL.rd, oL'.rd⟩
    have ro := oz.rd
    have hp := hide (show small p from ⟨by omega, by omega⟩)
    go_wp2_with fail
    obtain ⟨b0, k0, k1, hz0⟩ := box_one w1 25 (.slice L p.1.length d) (.slice L' p.2.length d') _ rfl
    replace rp := rp.up b0
    replace ro := ro.up b0
    have rx := (hrd2.up b1).up b0
    have bb := via b1 b0 b1.size
    clear oL oL' oz b1 hrd2
    generalize w1.alloc (.cells #[.slice L p.1.length d, .slice L' p.2.length d'] 25) = w0 at *
    have K0 := Ext.old k0
    have K1 := Ext.old k1
    clear hz0 k0 k1 b0 h6
    generalize w1.heap.size = gB at *
    have HI := hide (fun c c' w rp ro => leaveLifts_any L L' I c c' ci p z w hp.out (by omega) h4 rp ro)
    have HS := hide (fun c c' w rp ro => leaveLifts_spec L L' I c c' ci p z w hp.out (by omega) h4 rp ro)
    cases hok : leaveOk p z
    · rw [lifts_neg hok] at HI HS
      clear hok
      obtain ⟨x0, hx0⟩ := ext_self w0
      rw [← hx0]
      clear hx0
      refine (HI.out _ _ _ (rp.up (Ext.below _)) (ro.up (Ext.below _))).mono ?_
      rintro e w' ⟨rfl, b⟩
      obtain ⟨y, rfl⟩ := ext_next b
      clear b
      go_wp2_with fail
      refine (HS.out _ _ _ (rp.up (Ext.below _)) (ro.up (Ext.below _))).mono ?_
      rintro e w' ⟨rfl, b⟩
      obtain ⟨y2, rfl⟩ := ext_next b
      clear b
      go_wp2_with (go_at_call 20; refine (alive_any _).mono ?_; rintro e w' ⟨rfl, b2⟩)
      go_ret
      have bx := via bb (Ext.below y2) bb.size
      exact ⟨rfl, via bx b2 bx.size⟩
    · have hx0 := lifts_pos hok
      have HK := hide hok
      have V := (leaveOk_all.1 hok).1
      have hzl := leaveOk_len hok
      have HL0 := hide (ll_start hok)
      generalize hlx : leaveLifts p z = lx at *
      have hlx := hide hlx
      have t0 : decide (lx < 0) = false := decide_eq_false (by omega)
      have t1 := bne_int lx
      have hx0 := hide hx0
      clear hok
      obtain ⟨x0, hx0⟩ := ext_self w0
      rw [← hx0]
      clear hx0
      refine (HI.out _ _ _ (rp.up (Ext.below _)) (ro.up (Ext.below _))).mono ?_
      rintro e w' ⟨rfl, b⟩
      obtain ⟨y, rfl⟩ := ext_next b
      clear b
      go_wp2_with fail
      refine (HS.out _ _ _ (rp.up (Ext.below _)) (ro.up (Ext.below _))).mono ?_
      rintro e w' ⟨rfl, b⟩
      obtain ⟨y2, rfl⟩ := ext_next b
      clear b
      go_wp2_with fail
      refine (drawLiftRun_any A2 c2 ms _ hkc2 hmc2 hM.out (rx.up (Ext.below _))).mono ?_
      rintro e w' ⟨D, e1, D', e1', dp, I2, ci2, ls, rfl, _, _, h50, _, _, orl, b⟩
      obtain ⟨y3, rfl⟩ := ext_next b
      clear b
      clear HI HS rx hkc2 hmc2 hM t1
      have hq := y3.below.alloc y3.below.size (.cells #[.slice D dp.1.length e1, .slice D' dp.2.length e1'] 25)
      have k0 := cell_in hq K0
      have k1 := cell_in hq K1
      go_wp2_with fail
      replace rp := rp.up hq
      replace ro := ro.up hq
      have rl := orl.rd.up (bel_one y3.val (.cells #[.slice D dp.1.length e1, .slice D' dp.2.length e1'] 25))
      replace bb := via bb hq bb.size
      have hsz : (y3.val.alloc (.cells #[.slice D dp.1.length e1, .slice D' dp.2.length e1'] 25)).heap.size = y3.val.heap.size + 1 := by simp
      clear K0 K1 hq orl
      generalize y3.val.alloc (.cells #[.slice D dp.1.length e1, .slice D' dp.2.length e1'] 25) = wB at *
      rw [← hsz]
      clear hsz
      have S : LvS wB (wB.alloc (.cells #[.slice L p.1.length d, .slice L' p.2.length d'] 25)) wB.heap.size p L L' d d' := ⟨Row.new _ _ _, .inl (rp.1.below (bel_one _ _)), .inl (rp.2.below (bel_one _ _)), bel_one _ _, Nat.le_refl _⟩
      clear k0 k1
      go_loopw [11, 12] (fun n0 i wr => ∃ (k n : Nat) (q : PL) (X X' : Option Addr) (x x' : Nat), k ≤ ls.length ∧ k ≤ 6 ∧ i = .int .i64 k ∧ n0 = .int .i64 (n : Nat) ∧ n ≤ k ∧ Hid (LL p z q 0 n) ∧ LvS wB wr wB.heap.size q X X' x x') (fun _ i _ => ls.length - (intOf i).toNat)
      case atStart => exact ⟨0, 0, p, L, L', d, d', Nat.zero_le _, Nat.zero_le _, rfl, rfl, Nat.le_refl _, HL0, S⟩
      case round =>
        clear S HL0 V
        obtain ⟨k, n, q, X, X', x, x', hkl, hk6, rfl, rfl, hn6, HL, S⟩ := hrel
        by_cases hlt : k < ls.length
        · by_cases hlt6 : k < 6
          · obtain ⟨b, o, rfl, hb, c0, c1, c2, c3⟩ := (rl.below S.low).lift hlt
            have V := HL.out.vd
            have HN := hide (fun h => ll_lift (l := ls[k]'hlt) HL.out h)
            generalize ls[k] = l at *
            obtain ⟨⟨u, m⟩, ⟨s, t⟩⟩ := l
            have HS := hide (fun w rq => coilLift_any X X' x x' q u m s t w (small_vd V) rq)
            generalize coilLift q ((u, m), (s, t)) = rr at *
            obtain ⟨r, ok⟩ := rr
            simp only at *
            obtain ⟨K0, K1, _, _⟩ := S.bp.ext2
            have C0 := Ext.old c0
            have C1 := Ext.old c1
            have C2 := Ext.old c2
            have C3 := Ext.old c3
            have rq := S.rd
            have hz1 := S.low.size
            have i0 : (0 : Int) ≤ (k : Int) := by omega
            have i1 : (k : Int) < (ls.length : Int) := by omega
            clear c0 c1 c2 c3
            obtain ⟨x0, hx0⟩ := ext_self wr
            rw [← hx0]
            clear hx0
            go_wp2_with fail
            go_cut [13, 14] from 58 to 80 (fun v o wx => BoxOf wr r (.bool ok) v o wx)
            case first =>
              go_region_held3 (fun w' => (w'.cell? ⟨wB.heap.size, 0, none⟩ = some (.slice X q.1.length x)) ∧ (w'.cell? ⟨wB.heap.size, 1, none⟩ = some (.slice X' q.2.length x')) ∧ (w'.cell? ⟨b, o + k * 4, none⟩ = some (.bool u)) ∧ (w'.cell? ⟨b, o + k * 4 + 1, none⟩ = some (.int .i64 m)) ∧ (w'.cell? ⟨b, o + k * 4 + 2, none⟩ = some (.bool s)) ∧ w'.cell? ⟨b, o + k * 4 + 3, none⟩ = some (.int .i64 t))
                (refine ⟨?_, ?_, ?_, ?_, ?_, ?_⟩ <;> with_reducible first | exact K0 _ | exact K1 _ | exact C0 _ | exact C1 _ | exact C2 _ | exact C3 _ | exact cell_in (Ext.below _).drew K0 | exact cell_in (Ext.below _).drew K1 | exact cell_in (Ext.below _).drew C0 | exact cell_in (Ext.below _).drew C1 | exact cell_in (Ext.below _).drew C2 | exact cell_in (Ext.below _).drew C3 | exact cell_in ((Ext.below _).alloc (Ext.below _).size _) K0 | exact cell_in ((Ext.below _).alloc (Ext.below _).size _) K1 | exact cell_in ((Ext.below _).alloc (Ext.below _).size _) C0 | exact cell_in ((Ext.below _).alloc (Ext.below _).size _) C1 | exact cell_in ((Ext.below _).alloc (Ext.below _).size _) C2 | exact cell_in ((Ext.below _).alloc (Ext.below _).size _) C3 | exact cell_in ((Ext.below _).alloc (Ext.below _).size _).drew K0 | exact cell_in ((Ext.below _).alloc (Ext.below _).size _).drew K1 | exact cell_in ((Ext.below _).alloc (Ext.below _).size _).drew C0 | exact cell_in ((Ext.below _).alloc (Ext.below _).size _).drew C1 | exact cell_in ((Ext.below _).alloc (Ext.below _).size _).drew C2 | exact cell_in ((Ext.below _).alloc (Ext.below _).size _).drew C3 | exact cell_in (((Ext.below _).setCell (Ext.below _).size _).setCell (Ext.below _).size _) K0 | exact cell_in (((Ext.below _).setCell (Ext.below _).size _).setCell (Ext.below _).size _) K1 | exact cell_in (((Ext.below _).setCell (Ext.below _).size _).setCell (Ext.below _).size _) C0 | exact cell_in (((Ext.below _).setCell (Ext.below _).size _).setCell (Ext.below _).size _) C1 | exact cell_in (((Ext.below _).setCell (Ext.below _).size _).setCell (Ext.below _).size _) C2 | exact cell_in (((Ext.below _).setCell (Ext.below _).size _).setCell (Ext.below _).size _) C3)
                (first
                  | (go_at_call 49; refine (HS.out _ (rq.up (by first | exact Ext.below _ | exact (Ext.below _).drew | exact (Ext.below _).alloc (Ext.below _).size _ | exact ((Ext.below _).alloc (Ext.below _).size _).drew))).mono ?_; rintro e w4 ⟨Z, z1, Z', z1', rfl, o4, b4⟩; obtain ⟨x4, rfl⟩ := ext_any (by first | exact Ext.below _ | exact (Ext.below _).drew | exact (Ext.below _).alloc (Ext.below _).size _ | exact ((Ext.below _).alloc (Ext.below _).size _).drew) b4 (by first | exact (Ext.below _).size | exact ((Ext.below _).alloc (Ext.below _).size _).size); (first | (have qz := (Row.new _ _ _).drew.after b4; obtain ⟨m0, m1⟩ := qz.boxed; have f0 := qz.frozen 0; have f1 := qz.frozen 1) | (have qz := (Row.new _ _ _).after b4; obtain ⟨m0, m1⟩ := qz.boxed; have f0 := qz.frozen 0; have f1 := qz.frozen 1) | skip)))
              all_goals
                go_wp2_with fail
                go_meet
                first
                  | exact boxOf_new o4 (by first | exact (Ext.below _).size | exact ((Ext.below _).alloc (Ext.below _).size _).size)
                  | exact boxOf_old qz x0.below.size (by first | (simp; done) | (simp at *; omega)) o4
            case rest =>
              obtain ⟨rfl, gW, xW, Y, y, Y', y', rfl, rfl, hgW, qW, oW, _⟩ := hcut
              replace S := S.up xW.below
              have oW1 := oW.1.mono hz1
              have oW2 := oW.2.1.mono hz1
              clear K0 K1 C0 C1 C2 C3 rq x0 HS oW
              generalize xW.val = w6 at *
              cases ok
              · clear HN oW1 oW2 qW
                go_wp2_with fail
                go_roundw
                case rel => exact ⟨k + 1, n, q, X, X', x, x', by omega, by omega, by go_num, rfl, by omega, HL, S⟩
                case measure => first | (simp [intOf]; done) | (simp [intOf]; omega)
              · have HNn := hide (HN.out rfl)
                obtain ⟨m0, m1⟩ := S.bp.boxed
                obtain ⟨m2, m3⟩ := qW.boxed
                have f0 := S.bp.frozen 0
                have f1 := S.bp.frozen 1
                have S2 := S.set (z := y) (z' := y') oW1 oW2
                clear HN oW1 oW2 qW
                go_wp2_with fail
                go_roundw
                case rel => exact ⟨k + 1, n + 1, r, Y, Y', y, y', by omega, by omega, by go_num, by go_num, by omega, HNn, S2⟩
                case measure => first | (simp [intOf]; done) | (simp [intOf]; omega)
          · skip
            go_wp2_with fail
            go_loopw [11, 15] (fun n0 i wr => ∃ (k n : Nat) (q : PL) (X X' : Option Addr) (x x' : Nat), k ≤ z.length ∧ i = .int .i64 k ∧ n0 = .int .i64 (n : Nat) ∧ n ≤ 6 + 2 * k ∧ Hid (LL p z q k n) ∧ LvS wB wr wB.heap.size q X X' x x') (fun _ i _ => z.length - (intOf i).toNat)
            case atStart => exact ⟨0, n, q, X, X', x, x', Nat.zero_le _, rfl, rfl, by omega, HL, S⟩
            case round =>
              clear S HL hn6 hk6 hkl
              obtain ⟨k, n, q, X, X', x, x', hk, rfl, rfl, hnk, HL, S⟩ := hrel
              by_cases hlt : k < z.length
              · obtain ⟨bz, oz, rfl, hbz, hcz⟩ := (ro.below S.low).int hlt
                have HZ := hide (fun (W : World) (h : Below wB.heap.size wB W) => (ro.below h).int hlt)
                have V := HL.out.vd
                have HD := hide (fun w rq => digLifts_any X X' x x' q z[k] w (small_vd V) rq)
                unfold DigOk at HD
                have HO := hide (fun h => ll_dig HK.out HL.out hlt h)
                have HQ := hide (fun h => dig_out (p := q) (id := z[k]'hlt) h)
                generalize z[k] = u at *
                generalize digLifts q u = rv at *
                obtain ⟨gs, ok⟩ := rv
                simp only at *
                obtain ⟨K0, K1, _, _⟩ := S.bp.ext2
                have C0 := Ext.old hcz
                have rq := S.rd
                have hz1 := S.low.size
                have i0 : (0 : Int) ≤ (k : Int) := by omega
                have i1 : (k : Int) < (z.length : Int) := by omega
                clear hcz
                obtain ⟨x0, hx0⟩ := ext_self wr
                rw [← hx0]
                clear hx0
                go_wp2_with fail
                go_cut [16, 17] from 81 to 134 (fun v o wx => LiftsAt wr gs (.bool ok) v o wx)
                case first =>
                  go_region_held3 (fun w' => (w'.cell? ⟨wB.heap.size, 0, none⟩ = some (.slice X q.1.length x)) ∧ (w'.cell? ⟨wB.heap.size, 1, none⟩ = some (.slice X' q.2.length x')) ∧ w'.cell? ⟨bz, oz + k, none⟩ = some (.int .i64 u))
                    (refine ⟨?_, ?_, ?_⟩ <;> with_reducible first | exact K0 _ | exact K1 _ | exact C0 _ | exact cell_in (Ext.below _).drew K0 | exact cell_in (Ext.below _).drew K1 | exact cell_in (Ext.below _).drew C0 | exact cell_in ((Ext.below _).alloc (Ext.below _).size _) K0 | exact cell_in ((Ext.below _).alloc (Ext.below _).size _) K1 | exact cell_in ((Ext.below _).alloc (Ext.below _).size _) C0 | exact cell_in ((Ext.below _).alloc (Ext.below _).size _).drew K0 | exact cell_in ((Ext.below _).alloc (Ext.below _).size _).drew K1 | exact cell_in ((Ext.below _).alloc (Ext.below _).size _).drew C0 | exact cell_in (((Ext.below _).setCell (Ext.below _).size _).setCell (Ext.below _).size _) K0 | exact cell_in (((Ext.below _).setCell (Ext.below _).size _).setCell (Ext.below _).size _) K1 | exact cell_in (((Ext.below _).setCell (Ext.below _).size _).setCell (Ext.below _).size _) C0)
                    (first
                      | (go_at_call 40; refine (HD.out _ (rq.up (by first | exact Ext.below _ | exact (Ext.below _).drew | exact (Ext.below _).alloc (Ext.below _).size _ | exact ((Ext.below _).alloc (Ext.below _).size _).drew))).mono ?_; rintro e w4 ⟨I9, ci9, rfl, oI, b4⟩; obtain ⟨x4, rfl⟩ := ext_any (by first | exact Ext.below _ | exact (Ext.below _).drew | exact (Ext.below _).alloc (Ext.below _).size _ | exact ((Ext.below _).alloc (Ext.below _).size _).drew) b4 (by first | exact (Ext.below _).size | exact ((Ext.below _).alloc (Ext.below _).size _).size)))
                  all_goals
                    go_wp2_with fail
                    go_meet
                    exact liftsAt_new oI (by first | exact (Ext.below _).size | exact ((Ext.below _).alloc (Ext.below _).size _).size)
                case rest =>
                  obtain ⟨rfl, I9, ci9, xW, rfl, rfl, oI⟩ := hcut
                  replace S := S.up xW.below
                  replace oI := oI.mono hz1
                  clear K0 K1 C0 rq x0 HD
                  generalize xW.val = w3 at *
                  cases ok
                  · have bb2 := via bb S.low bb.size
                    clear HO HQ
                    go_wp2
                    go_ret
                    exact ⟨rfl, bb2⟩
                  · obtain ⟨s0, V1, V2, hn, hl2, hfs, _, hid, hu1, ht⟩ := HQ.out rfl
                    have HNn := HO.out rfl
                    have hrun := run_good ((vd_iff q).2 V) (show gs.length ≤ 40 by omega)
                    have HR := hide (fun w rq rl => liftRun_any X X' I9 x x' ci9 q gs w (small_vd V) (by omega) rq rl)
                    rw [hrun] at HR
                    have hfi : (coilFind (liftN q gs).1 u).isSome = true := by rw [hfs]; rfl
                    have hun : (coilTake (liftN q gs).1 (findV (liftN q gs).1 u).1 (findV (liftN q gs).1 u).2).2 = u := by rw [ht]
                    generalize liftN q gs = rl9 at *
                    obtain ⟨r, nl⟩ := rl9
                    simp only at *
                    subst hn
                    have HCF := hide (fun J J' cj cj' w rq => coilFind_any J J' cj cj' r u w (small_vd V2) rq)
                    unfold SpotOk at HCF
                    rw [hfi] at HCF
                    clear ht hfs
                    generalize findV r u = sv at *
                    obtain ⟨st, sk⟩ := sv
                    simp only at *
                    have HCT := hide (fun J J' cj cj' w rq => coilTake_any J J' cj cj' r st sk w (small_vd V2) rq)
                    generalize coilTake r st sk = tv at *
                    obtain ⟨r', un⟩ := tv
                    simp only at *
                    subst hun
                    have HNn := hide HNn
                    clear HO HQ hid hfi hrun
                    obtain ⟨m0, m1⟩ := S.bp.boxed
                    go_wp2_with fail
                    clear m0 m1
                    refine (HR.out w3 S.rd oI.rd).mono ?_
                    rintro e w4 ⟨J, cj, J', cj', rfl, oJ, b4⟩
                    have hz3 := S.low.size
                    replace S := (S.up b4).up (bel_one w4 (.cells #[.slice J r.1.length cj, .slice J' r.2.length cj'] 25))
                    have qJ := Row.new w4 25 #[.slice J r.1.length cj, .slice J' r.2.length cj']
                    have rj := (oJ.below (bel_one w4 (.cells #[.slice J r.1.length cj, .slice J' r.2.length cj'] 25))).rd
                    have hz4 := b4.size
                    clear HR oI oJ b4
                    have bb4 := S.low
                    obtain ⟨bz', oz', hA, _, hcz⟩ := HZ.out _ bb4
                    cases hA
                    obtain ⟨m0, m1⟩ := qJ.boxed
                    go_wp2_with fail
                    clear m0 m1
                    generalize w4.alloc (.cells #[.slice J r.1.length cj, .slice J' r.2.length cj'] 25) = w5 at *
                    generalize w4.heap.size = gJ at *
                    obtain ⟨K0, K1, _, _⟩ := qJ.ext2
                    have C0 := Ext.old hcz
                    clear hcz
                    obtain ⟨x0, hx0⟩ := ext_self w5
                    rw [← hx0]
                    clear hx0
                    go_cut [20, 21] from 81 to 134 (fun v o wx => SpotBox w5 st sk (.bool true) v o wx)
                    case first =>
                      go_region_held3 (fun w' => (w'.cell? ⟨gJ, 0, none⟩ = some (.slice J r.1.length cj)) ∧ (w'.cell? ⟨gJ, 1, none⟩ = some (.slice J' r.2.length cj')) ∧ w'.cell? ⟨bz, oz + k, none⟩ = some (.int .i64 un))
                        (refine ⟨?_, ?_, ?_⟩ <;> with_reducible first | exact K0 _ | exact K1 _ | exact C0 _ | exact cell_in (Ext.below _).drew K0 | exact cell_in (Ext.below _).drew K1 | exact cell_in (Ext.below _).drew C0 | exact cell_in ((Ext.below _).alloc (Ext.below _).size _) K0 | exact cell_in ((Ext.below _).alloc (Ext.below _).size _) K1 | exact cell_in ((Ext.below _).alloc (Ext.below _).size _) C0 | exact cell_in ((Ext.below _).alloc (Ext.below _).size _).drew K0 | exact cell_in ((Ext.below _).alloc (Ext.below _).size _).drew K1 | exact cell_in ((Ext.below _).alloc (Ext.below _).size _).drew C0 | exact cell_in (((Ext.below _).setCell (Ext.below _).size _).setCell (Ext.below _).size _) K0 | exact cell_in (((Ext.below _).setCell (Ext.below _).size _).setCell (Ext.below _).size _) K1 | exact cell_in (((Ext.below _).setCell (Ext.below _).size _).setCell (Ext.below _).size _) C0)
                        (first
                          | (go_at_call 24; refine (HCF.out _ _ _ _ _ (rj.up (by first | exact Ext.below _ | exact (Ext.below _).drew | exact (Ext.below _).alloc (Ext.below _).size _ | exact ((Ext.below _).alloc (Ext.below _).size _).drew))).mono ?_; rintro e w4 ⟨rfl, b4⟩; obtain ⟨x4, rfl⟩ := ext_any (by first | exact Ext.below _ | exact (Ext.below _).drew | exact (Ext.below _).alloc (Ext.below _).size _ | exact ((Ext.below _).alloc (Ext.below _).size _).drew) b4 (by first | exact (Ext.below _).size | exact ((Ext.below _).alloc (Ext.below _).size _).size); (first | (have qz := (Row.new _ _ _).drew.after b4; obtain ⟨m0, m1⟩ := qz.boxed; have f0 := qz.frozen 0; have f1 := qz.frozen 1) | (have qz := (Row.new _ _ _).after b4; obtain ⟨m0, m1⟩ := qz.boxed; have f0 := qz.frozen 0; have f1 := qz.frozen 1) | skip)))
                      all_goals
                        go_wp2_with fail
                        go_meet
                        first
                          | exact spotBox_new
                          | exact spotBox_old qz x0.below.size
                    case rest =>
                      obtain ⟨rfl, gW, xW, rfl, rfl, hgW, qW⟩ := hcut
                      replace S := S.up xW.below
                      replace qJ := qJ.after xW.below
                      replace rj := rj.up xW.below
                      clear K0 K1 C0 x0 HCF
                      generalize xW.val = w6 at *
                      obtain ⟨m0, m1⟩ := qJ.boxed
                      obtain ⟨n0, n1⟩ := qW.boxed
                      have hz6 := S.low.size
                      go_wp2_with fail
                      clear m0 m1 n0 n1
                      refine (HCT.out _ _ _ _ w6 rj).mono ?_
                      rintro e w7 ⟨Y, y, Y', y', rfl, oY, b7⟩
                      replace S := (S.up b7).up (bel_one w7 (.cells #[.slice Y r'.1.length y, .slice Y' r'.2.length y'] 25))
                      have qY := Row.new w7 25 #[.slice Y r'.1.length y, .slice Y' r'.2.length y']
                      have oY1 := (oY.1.below (bel_one w7 (.cells #[.slice Y r'.1.length y, .slice Y' r'.2.length y'] 25))).mono hz6
                      have oY2 := (oY.2.1.below (bel_one w7 (.cells #[.slice Y r'.1.length y, .slice Y' r'.2.length y'] 25))).mono hz6
                      obtain ⟨m0, m1⟩ := S.bp.boxed
                      obtain ⟨m2, m3⟩ := qY.boxed
                      have f0 := S.bp.frozen 0
                      have f1 := S.bp.frozen 1
                      have S2 := S.set (z := y) (z' := y') oY1 oY2
                      have bb7 := S.low
                      obtain ⟨bz', oz', hA, _, hcz⟩ := HZ.out _ bb7
                      cases hA
                      have e1 : (un != un) = false := bne_int un
                      have e2 : ((gs.length : Int) != (gs.length : Int)) = false := bne_int _
                      clear HCT oY b7 oY1 oY2
                      go_wp2_with fail
                      go_roundw
                      case rel => exact ⟨k + 1, n + gs.length, r', Y, Y', y, y', by omega, by go_num, by go_num, by omega, HNn, S2⟩
                      case measure => first | (simp [intOf]; done) | (simp [intOf]; omega)
              · obtain rfl : k = z.length := by omega
                have hfin := ll_end HK.out HL.out
                have t9 : decide ((n : Int) ≥ lx) = true := by rw [hlx.out] at hfin; exact decide_eq_true hfin
                have t9' : decide (lx ≤ (n : Int)) = true := t9
                have bb2 := via bb S.low bb.size
                clear S HL hfin
                go_wp2
                go_ret
                exact ⟨rfl, bb2⟩
        · skip
          go_wp2_with fail
          go_loopw [11, 15] (fun n0 i wr => ∃ (k n : Nat) (q : PL) (X X' : Option Addr) (x x' : Nat), k ≤ z.length ∧ i = .int .i64 k ∧ n0 = .int .i64 (n : Nat) ∧ n ≤ 6 + 2 * k ∧ Hid (LL p z q k n) ∧ LvS wB wr wB.heap.size q X X' x x') (fun _ i _ => z.length - (intOf i).toNat)
          case atStart => exact ⟨0, n, q, X, X', x, x', Nat.zero_le _, rfl, rfl, by omega, HL, S⟩
          case round =>
            clear S HL hn6 hk6 hkl
            obtain ⟨k, n, q, X, X', x, x', hk, rfl, rfl, hnk, HL, S⟩ := hrel
            by_cases hlt : k < z.length
            · obtain ⟨bz, oz, rfl, hbz, hcz⟩ := (ro.below S.low).int hlt
              have HZ := hide (fun (W : World) (h : Below wB.heap.size wB W) => (ro.below h).int hlt)
              have V := HL.out.vd
              have HD := hide (fun w rq => digLifts_any X X' x x' q z[k] w (small_vd V) rq)
              unfold DigOk at HD
              have HO := hide (fun h => ll_dig HK.out HL.out hlt h)
              have HQ := hide (fun h => dig_out (p := q) (id := z[k]'hlt) h)
              generalize z[k] = u at *
              generalize digLifts q u = rv at *
              obtain ⟨gs, ok⟩ := rv
              simp only at *
              obtain ⟨K0, K1, _, _⟩ := S.bp.ext2
              have C0 := Ext.old hcz
              have rq := S.rd
              have hz1 := S.low.size
              have i0 : (0 : Int) ≤ (k : Int) := by omega
              have i1 : (k : Int) < (z.length : Int) := by omega
              clear hcz
              obtain ⟨x0, hx0⟩ := ext_self wr
              rw [← hx0]
              clear hx0
              go_wp2_with fail
              go_cut [16, 17] from 81 to 134 (fun v o wx => LiftsAt wr gs (.bool ok) v o wx)
              case first =>
                go_region_held3 (fun w' => (w'.cell? ⟨wB.heap.size, 0, none⟩ = some (.slice X q.1.length x)) ∧ (w'.cell? ⟨wB.heap.size, 1, none⟩ = some (.slice X' q.2.length x')) ∧ w'.cell? ⟨bz, oz + k, none⟩ = some (.int .i64 u))
                  (refine ⟨?_, ?_, ?_⟩ <;> with_reducible first | exact K0 _ | exact K1 _ | exact C0 _ | exact cell_in (Ext.below _).drew K0 | exact cell_in (Ext.below _).drew K1 | exact cell_in (Ext.below _).drew C0 | exact cell_in ((Ext.below _).alloc (Ext.below _).size _) K0 | exact cell_in ((Ext.below _).alloc (Ext.below _).size _) K1 | exact cell_in ((Ext.below _).alloc (Ext.below _).size _) C0 | exact cell_in ((Ext.below _).alloc (Ext.below _).size _).drew K0 | exact cell_in ((Ext.below _).alloc (Ext.below _).size _).drew K1 | exact cell_in ((Ext.below _).alloc (Ext.below _).size _).drew C0 | exact cell_in (((Ext.below _).setCell (Ext.below _).size _).setCell (Ext.below _).size _) K0 | exact cell_in (((Ext.below _).setCell (Ext.below _).size _).setCell (Ext.below _).size _) K1 | exact cell_in (((Ext.below _).setCell (Ext.below _).size _).setCell (Ext.below _).size _) C0)
                  (first
                    | (go_at_call 40; refine (HD.out _ (rq.up (by first | exact Ext.below _ | exact (Ext.below _).drew | exact (Ext.below _).alloc (Ext.below _).size _ | exact ((Ext.below _).alloc (Ext.below _).size _).drew))).mono ?_; rintro e w4 ⟨I9, ci9, rfl, oI, b4⟩; obtain ⟨x4, rfl⟩ := ext_any (by first | exact Ext.below _ | exact (Ext.below _).drew | exact (Ext.below _).alloc (Ext.below _).size _ | exact ((Ext.below _).alloc (Ext.below _).size _).drew) b4 (by first | exact (Ext.below _).size | exact ((Ext.below _).alloc (Ext.below _).size _).size)))
                all_goals
                  go_wp2_with fail
                  go_meet
                  exact liftsAt_new oI (by first | exact (Ext.below _).size | exact ((Ext.below _).alloc (Ext.below _).size _).size)
              case rest =>
                obtain ⟨rfl, I9, ci9, xW, rfl, rfl, oI⟩ := hcut
                replace S := S.up xW.below
                replace oI := oI.mono hz1
                clear K0 K1 C0 rq x0 HD
                generalize xW.val = w3 at *
                cases ok
                · have bb2 := via bb S.low bb.size
                  clear HO HQ
                  go_wp2
                  go_ret
                  exact ⟨rfl, bb2⟩
                · obtain ⟨s0, V1, V2, hn, hl2, hfs, _, hid, hu1, ht⟩ := HQ.out rfl
                  have HNn := HO.out rfl
                  have hrun := run_good ((vd_iff q).2 V) (show gs.length ≤ 40 by omega)
                  have HR := hide (fun w rq rl => liftRun_any X X' I9 x x' ci9 q gs w (small_vd V) (by omega) rq rl)
                  rw [hrun] at HR
                  have hfi : (coilFind (liftN q gs).1 u).isSome = true := by rw [hfs]; rfl
                  have hun : (coilTake (liftN q gs).1 (findV (liftN q gs).1 u).1 (findV (liftN q gs).1 u).2).2 = u := by rw [ht]
                  generalize liftN q gs = rl9 at *
                  obtain ⟨r, nl⟩ := rl9
                  simp only at *
                  subst hn
                  have HCF := hide (fun J J' cj cj' w rq => coilFind_any J J' cj cj' r u w (small_vd V2) rq)
                  unfold SpotOk at HCF
                  rw [hfi] at HCF
                  clear ht hfs
                  generalize findV r u = sv at *
                  obtain ⟨st, sk⟩ := sv
                  simp only at *
                  have HCT := hide (fun J J' cj cj' w rq => coilTake_any J J' cj cj' r st sk w (small_vd V2) rq)
                  generalize coilTake r st sk = tv at *
                  obtain ⟨r', un⟩ := tv
                  simp only at *
                  subst hun
                  have HNn := hide HNn
                  clear HO HQ hid hfi hrun
                  obtain ⟨m0, m1⟩ := S.bp.boxed
                  go_wp2_with fail
                  clear m0 m1
                  refine (HR.out w3 S.rd oI.rd).mono ?_
                  rintro e w4 ⟨J, cj, J', cj', rfl, oJ, b4⟩
                  have hz3 := S.low.size
                  replace S := (S.up b4).up (bel_one w4 (.cells #[.slice J r.1.length cj, .slice J' r.2.length cj'] 25))
                  have qJ := Row.new w4 25 #[.slice J r.1.length cj, .slice J' r.2.length cj']
                  have rj := (oJ.below (bel_one w4 (.cells #[.slice J r.1.length cj, .slice J' r.2.length cj'] 25))).rd
                  have hz4 := b4.size
                  clear HR oI oJ b4
                  have bb4 := S.low
                  obtain ⟨bz', oz', hA, _, hcz⟩ := HZ.out _ bb4
                  cases hA
                  obtain ⟨m0, m1⟩ := qJ.boxed
                  go_wp2_with fail
                  clear m0 m1
                  generalize w4.alloc (.cells #[.slice J r.1.length cj, .slice J' r.2.length cj'] 25) = w5 at *
                  generalize w4.heap.size = gJ at *
                  obtain ⟨K0, K1, _, _⟩ := qJ.ext2
                  have C0 := Ext.old hcz
                  clear hcz
                  obtain ⟨x0, hx0⟩ := ext_self w5
                  rw [← hx0]
                  clear hx0
                  go_cut [20, 21] from 81 to 134 (fun v o wx => SpotBox w5 st sk (.bool true) v o wx)
                  case first =>
                    go_region_held3 (fun w' => (w'.cell? ⟨gJ, 0, none⟩ = some (.slice J r.1.length cj)) ∧ (w'.cell? ⟨gJ, 1, none⟩ = some (.slice J' r.2.length cj')) ∧ w'.cell? ⟨bz, oz + k, none⟩ = some (.int .i64 un))
                      (refine ⟨?_, ?_, ?_⟩ <;> with_reducible first | exact K0 _ | exact K1 _ | exact C0 _ | exact cell_in (Ext.below _).drew K0 | exact cell_in (Ext.below _).drew K1 | exact cell_in (Ext.below _).drew C0 | exact cell_in ((Ext.below _).alloc (Ext.below _).size _) K0 | exact cell_in ((Ext.below _).alloc (Ext.below _).size _) K1 | exact cell_in ((Ext.below _).alloc (Ext.below _).size _) C0 | exact cell_in ((Ext.below _).alloc (Ext.below _).size _).drew K0 | exact cell_in ((Ext.below _).alloc (Ext.below _).size _).drew K1 | exact cell_in ((Ext.below _).alloc (Ext.below _).size _).drew C0 | exact cell_in (((Ext.below _).setCell (Ext.below _).size _).setCell (Ext.below _).size _) K0 | exact cell_in (((Ext.below _).setCell (Ext.below _).size _).setCell (Ext.below _).size _) K1 | exact cell_in (((Ext.below _).setCell (Ext.below _).size _).setCell (Ext.below _).size _) C0)
                      (first
                        | (go_at_call 24; refine (HCF.out _ _ _ _ _ (rj.up (by first | exact Ext.below _ | exact (Ext.below _).drew | exact (Ext.below _).alloc (Ext.below _).size _ | exact ((Ext.below _).alloc (Ext.below _).size _).drew))).mono ?_; rintro e w4 ⟨rfl, b4⟩; obtain ⟨x4, rfl⟩ := ext_any (by first | exact Ext.below _ | exact (Ext.below _).drew | exact (Ext.below _).alloc (Ext.below _).size _ | exact ((Ext.below _).alloc (Ext.below _).size _).drew) b4 (by first | exact (Ext.below _).size | exact ((Ext.below _).alloc (Ext.below _).size _).size); (first | (have qz := (Row.new _ _ _).drew.after b4; obtain ⟨m0, m1⟩ := qz.boxed; have f0 := qz.frozen 0; have f1 := qz.frozen 1) | (have qz := (Row.new _ _ _).after b4; obtain ⟨m0, m1⟩ := qz.boxed; have f0 := qz.frozen 0; have f1 := qz.frozen 1) | skip)))
                    all_goals
                      go_wp2_with fail
                      go_meet
                      first
                        | exact spotBox_new
                        | exact spotBox_old qz x0.below.size
                  case rest =>
                    obtain ⟨rfl, gW, xW, rfl, rfl, hgW, qW⟩ := hcut
                    replace S := S.up xW.below
                    replace qJ := qJ.after xW.below
                    replace rj := rj.up xW.below
                    clear K0 K1 C0 x0 HCF
                    generalize xW.val = w6 at *
                    obtain ⟨m0, m1⟩ := qJ.boxed
                    obtain ⟨n0, n1⟩ := qW.boxed
                    have hz6 := S.low.size
                    go_wp2_with fail
                    clear m0 m1 n0 n1
                    refine (HCT.out _ _ _ _ w6 rj).mono ?_
                    rintro e w7 ⟨Y, y, Y', y', rfl, oY, b7⟩
                    replace S := (S.up b7).up (bel_one w7 (.cells #[.slice Y r'.1.length y, .slice Y' r'.2.length y'] 25))
                    have qY := Row.new w7 25 #[.slice Y r'.1.length y, .slice Y' r'.2.length y']
                    have oY1 := (oY.1.below (bel_one w7 (.cells #[.slice Y r'.1.length y, .slice Y' r'.2.length y'] 25))).mono hz6
                    have oY2 := (oY.2.1.below (bel_one w7 (.cells #[.slice Y r'.1.length y, .slice Y' r'.2.length y'] 25))).mono hz6
                    obtain ⟨m0, m1⟩ := S.bp.boxed
                    obtain ⟨m2, m3⟩ := qY.boxed
                    have f0 := S.bp.frozen 0
                    have f1 := S.bp.frozen 1
                    have S2 := S.set (z := y) (z' := y') oY1 oY2
                    have bb7 := S.low
                    obtain ⟨bz', oz', hA, _, hcz⟩ := HZ.out _ bb7
                    cases hA
                    have e1 : (un != un) = false := bne_int un
                    have e2 : ((gs.length : Int) != (gs.length : Int)) = false := bne_int _
                    clear HCT oY b7 oY1 oY2
                    go_wp2_with fail
                    go_roundw
                    case rel => exact ⟨k + 1, n + gs.length, r', Y, Y', y, y', by omega, by go_num, by go_num, by omega, HNn, S2⟩
                    case measure => first | (simp [intOf]; done) | (simp [intOf]; omega)
            · obtain rfl : k = z.length := by omega
              have hfin := ll_end HK.out HL.out
              have t9 : decide ((n : Int) ≥ lx) = true := by rw [hlx.out] at hfin; exact decide_eq_true hfin
              have t9' : decide (lx ≤ (n : Int)) = true := t9
              have bb2 := via bb S.low bb.size
              clear S HL hfin
              go_wp2
              go_ret
              exact ⟨rfl, bb2⟩
namespace FnLeaveLifts
set_option maxRecDepth 100000 in
theorem lifted (os : Os) (started : os.Started) (H : Type) (enc : TypeId × Value → H) :
    ReturnsInHanded {} Tryd.checked os 13 .any (fun w args => (Rows.fnLeaveLiftsSpec.pre enc Tryd.prog Tryd.f13 [] false w args ∧ laidMetH Tryd.prog Rows.fnLeaveLiftsRow.laid w) ∧ sizedMet enc Tryd.prog Tryd.f13 (OpenSpec.ofChange Rows.fnLeaveLiftsSpec) false w args) (Rows.fnLeaveLiftsSpec.post enc Tryd.prog Tryd.f13 false true false false) := by
  refine returnsInHanded_of_change_and (C := Tryd.checked) (X := fun w _ => laidMetH Tryd.prog Rows.fnLeaveLiftsRow.laid w) (fun _ _ _ hh h => h.of_heap hh) own started (by kernel_rfl) Tryd.func13
    (ChangeSpec.witness_shaped (enc := enc) (C := Tryd.checked) (os := os) (X := fun w _ => laidMetH Tryd.prog Rows.fnLeaveLiftsRow.laid w) false (World.laidAll Tryd.prog os Rows.fnLeaveLiftsRow.laid) #[.slice none 0 0, .slice none 0 0] 8 (World.laidAll_os _ _ _)
      (World.shaped_of_ZipB (by kernel_rfl) (by kernel_rfl)) (by kernel_rfl) (by kernel_rfl) (by kernel_rfl)
      (by rw [MakeChecks.laidMetH_plain _ _ _ (by kernel_rfl)]; exact laidMet_laidAll _ (by kernel_rfl) (by kernel_rfl))) ?_
  intro W base args ds gs before hval0 hW _ _ _ _
  have hval : ∀ (j : Nat) t v, Tryd.f13.params[j]? = some t → args[j]? = some v → Value.okWide Tryd.prog W .any base t v := hval0
  have hW' := hW
  obtain ⟨p, q, hA0, hV, rfl, hfz, hnd⟩ := hW
  have hA : DataW.TrodAll enc Tryd.prog W 0 (fun _ => true) true Tryd.f13.params.toList args.toList ds p := hA0
  rw [Tryd.params13] at hA hval
  obtain ⟨v0, vs0, d0, ds0, p0, q0, hargs, rfl, rfl, h0, r0⟩ := trodAll_cons hA
  obtain ⟨v1, vs1, d1, ds1, p1, q1, rfl, rfl, rfl, h1, r1⟩ := trodAll_cons r0
  obtain ⟨rfl, rfl, rfl⟩ := trodAll_nil r1
  obtain rfl : args = #[v0, v1] := by cases args; simp_all
  obtain ⟨rfl, rfl⟩ := trodVars_none hV
  have lt0 : ∀ x ∈ p0, x.block < W.heap.size := by obtain ⟨m, hm⟩ := h0; exact DataW.trod_lt m _ _ _ hm
  have lt1 : ∀ x ∈ p1, x.block < W.heap.size := by obtain ⟨m, hm⟩ := h1; exact DataW.trod_lt m _ _ _ hm
  obtain ⟨A0, n0, c0, z0, rfl, rfl, k0, m0, wf0, rd0⟩ := op_ints Tryd.underlying22 Tryd.underlying5 (by kernel_rfl) (hval 0 22 v0 rfl rfl) h0
  obtain ⟨A1, n1, c1, z1, rfl, rfl, k1, m1, wf1, rd1⟩ := op_ints Tryd.underlying22 Tryd.underlying5 (by kernel_rfl) (hval 1 22 v1 rfl rfl) h1
  clear hA0 hval0
  refine (w_FnLeaveLifts W A0 c0 z0 k0 m0 wf0 rd0 A1 c1 z1 k1 m1 wf1 rd1).mono fun e W' ⟨he, bel⟩ => ?_
  subst he
  exact ⟨_, rfl, _, _, _, [], _, [], hW', trodAll_mk1 (shut_bool Tryd.underlying4 _), (trodAll_cons_mk (Below.trod laidOut (by kernel_rfl) (of_decide_eq_true (by kernel_rfl)) h0 bel lt0) (trodAll_cons_mk (Below.trod laidOut (by kernel_rfl) (of_decide_eq_true (by kernel_rfl)) h1 bel lt1) trodAll_mk0)), rfl, bel.frame _, fun h => by cases h⟩
theorem closed : joinedFacts Tryd.prog 13 Tryd.f13 Rows.fnLeaveLiftsSpec Rows.fnLeaveLiftsRow = true := by
  unfold joinedFacts
  rw [mayEnter, liftsFinal, progMake]
  kernel_rfl
theorem over : Rows.fnLeaveLiftsRow.holds Tryd.pinned (OpenSpec.ofChange Rows.fnLeaveLiftsSpec) :=
  OpenClaim.holds_of_wide 13 Tryd.f13 rfl rfl rfl rfl rfl rfl rfl ⟨rfl, rfl, rfl, rfl, rfl⟩ rfl rfl rfl rfl rfl (by kernel_rfl) Tryd.func13 closed
    (of_decide_eq_true (by kernel_rfl)) (by unfold Func.isWrapper; first | (rw [if_pos (by decide +kernel)]; kernel_rfl) | (rw [if_neg (by decide +kernel)]; exact ⟨rfl, rfl⟩))
    (fun os started H enc _ => lifted os started H enc)
set_option maxRecDepth 100000 in
theorem carded : Rows.FnLeaveLiftsCardSaid :=
  Claim7.holds_tied_plain_at .later [] _ true Rows.fnLeaveLiftsCard.stood.harness false over (fun _ h => by cases h) (by kernel_rfl) (fun _ h => by cases h) fnLeaveLifts_row_tie rfl ⟨rfl, rfl⟩ mainIs rfl
    (fun f fn hf hfn => by
      obtain rfl : f = 13 := Option.some.inj ((show Tryd.prog.funcNamed Rows.fnLeaveLiftsRow.func = some 13 by kernel_rfl).symm.trans hf) |>.symm
      obtain rfl : fn = Tryd.f13 := (Option.some.inj (Tryd.func13.symm.trans hfn)).symm
      exact ⟨noLooks, fun j t ht => by
        rw [Tryd.params13] at ht
        have hm : t ∈ [22, 22] := by simpa using Array.mem_of_getElem? ht
        have hall : ([22, 22].all fun u => !Tryd.prog.wantsStandIn u) = true := by kernel_rfl
        exact (show Tryd.prog.wantsStandIn t = false by simpa using List.all_eq_true.1 hall t hm)⟩)
    (by kernel_rfl)
theorem proved : Rows.FnLeaveLiftsCardSaid := carded
end FnLeaveLifts
end Go.Proofs.YtpiiefmfiipabaaDoor
