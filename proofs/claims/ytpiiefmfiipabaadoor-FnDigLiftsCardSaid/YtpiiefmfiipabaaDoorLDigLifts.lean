/- Coils are laid bare: FnDigLifts returns true for every input. No conditions. -/
import Derived.Test.YtpiiefmfiipabaaDoorSeatC
import Derived.Test.YtpiiefmfiipabaaDoorDrawV
import Derived.Test.YtpiiefmfiipabaaDoorAlive
import Derived.Test.YtpiiefmfiipabaaDoorLBox
import Derived.Test.YtpiiefmfiipabaaDoorDigSpec
import Derived.Test.YtpiiefmfiipabaaDoorSameL
import Derived.Test.YtpiiefmfiipabaaDoorLiftRun
import Derived.Test.YtpiiefmfiipabaaDoorCoilLaws
namespace Go.Proofs.YtpiiefmfiipabaaDoor
open Go.ChangeShapes Go.WideShapes Go.ChangeAt Go.RowKit Go.Deep
theorem dig_law0 {p : PL} {id : Int} (h : (digLifts p id).2 = false) : (digLifts p id).1 = [] := by
  unfold digLifts at h ⊢
  cases hf : coilFind p id with
  | none => rfl
  | some s =>
    rw [hf] at h
    simp only at h ⊢
    cases hd : digN (s.2 : Int) p (coilsOn p s.1 (s.2 : Int)) with
    | none => rfl
    | some x => rw [hd] at h; cases h
theorem dig_law1 {p : PL} {id : Int} (h : (digLifts p id).2 = true) : ∃ (s : Bool × Nat) (r : PL), coilFind p id = some s ∧ liftRun p (digLifts p id).1 = (r, (digLifts p id).1.length) ∧ coilFind r id = some s ∧ coilsOn r s.1 (s.2 : Int) = [] ∧ (digLifts p id).1.length = (coilsOn p s.1 (s.2 : Int)).length ∧ small r := by
  obtain ⟨s, hf, V, h1, h2, h3, h4, _⟩ := dig_bare h
  have hle := coilsOn_le (p := p) (top := s.1) (place := (s.2 : Int))
  refine ⟨s, (liftN p (digLifts p id).1).1, hf, ?_, h3, h4, h2, small_vd (liftN_vd V _)⟩
  rw [run_good ((vd_iff p).2 V) (by omega)]
  exact Prod.ext rfl h1
set_option linter.unusedSimpArgs false in
set_option linter.unusedVariables false in
set_option maxHeartbeats 4000000 in
set_option maxRecDepth 100000 in
theorem w_FnDigLifts (w : World) (A : Option Addr) (c : Nat) (bs : List Int) (hkc : bs.length ≤ c) (hmc : c ≤ maxLen) (hbs : ∀ b ∈ bs, (Lit.int .u8 b).wf = true) (hrd : Rd w w.heap.size A (bc bs)) :
    Calls Tryd.prog 9 #[.slice A bs.length c] w fun e w' => e = .returned (.bool true) ∧ Below w.heap.size w w' := by
  have hB := hide hbs
  clear hbs
  by_cases hl : 1048576 < bs.length
  · go_enter Tryd.func9, Tryd.ntmps9
    go_wp2
    go_ret
    exact ⟨rfl, Below.refl _ _⟩
  · go_enter Tryd.func9, Tryd.ntmps9
    go_wp2_with fail
    refine (drawDigLifts_any A c bs w hkc hmc hB.out hrd).mono ?_
    rintro e w1 ⟨L, d, L', d', p, id, rfl, h1, h2, oL, oL', b1⟩
    clear hl hkc hmc hrd
    have rp : RdP w1 w1.heap.size L L' p := ⟨oL.rd, oL'.rd⟩
    have hp := hide (show small p from ⟨by omega, by omega⟩)
    go_wp2_with fail
    obtain ⟨b0, k0, k1, hz0⟩ := box_one w1 25 (.slice L p.1.length d) (.slice L' p.2.length d') _ rfl
    replace rp := rp.up b0
    have bb := via b1 b0 b1.size
    clear oL oL' b1
    generalize w1.alloc (.cells #[.slice L p.1.length d, .slice L' p.2.length d'] 25) = w0 at *
    have K0 := Ext.old k0
    have K1 := Ext.old k1
    clear hz0 k0 k1 b0
    generalize w1.heap.size = gB at *
    have HI := hide (fun c c' w rp => digLifts_any L L' c c' p id w hp.out rp)
    have HS := hide (fun c c' w rp => digLifts_spec L L' c c' p id w hp.out rp)
    have H0 := hide (dig_law0 (p := p) (id := id))
    have H1 := hide (dig_law1 (p := p) (id := id))
    unfold DigOk at HI HS
    generalize digLifts p id = rv at *
    obtain ⟨ls, ok⟩ := rv
    have hlen : ls.length ≤ 1099511627776 := by
      cases ok
      · rw [show ls = [] from H0.out rfl]; simp
      · obtain ⟨s, r, _, _, _, _, h6, _⟩ := H1.out rfl
        have := coilsOn_le (p := p) (top := s.1) (place := (s.2 : Int))
        simp only at h6; omega
    obtain ⟨x0, hx0⟩ := ext_self w0
    rw [← hx0]
    clear hx0
    refine (HI.out _ _ _ (rp.up (Ext.below _))).mono ?_
    rintro e w' ⟨I, ci, rfl, orl, b⟩
    obtain ⟨y, rfl⟩ := ext_next b
    clear b
    have bq := y.below
    have rl := orl.rd
    (try replace K0 := ext_lift bq K0); (try replace K1 := ext_lift bq K1); (try replace K2 := ext_lift bq K2); (try replace K3 := ext_lift bq K3); (try replace K4 := ext_lift bq K4); (try replace K5 := ext_lift bq K5); (try replace K6 := ext_lift bq K6); (try replace K7 := ext_lift bq K7); (try replace K8 := ext_lift bq K8); (try replace K9 := ext_lift bq K9); (try replace K10 := ext_lift bq K10); (try replace K11 := ext_lift bq K11); (try replace K12 := ext_lift bq K12); (try replace K13 := ext_lift bq K13); (try replace K14 := ext_lift bq K14); (try replace K15 := ext_lift bq K15)
    (try replace rp := rp.up bq); (try replace rx := rx.up bq); (try replace ry := ry.up bq); (try replace rz := rz.up bq); (try replace rl := rl.up bq); (try replace ro := ro.up bq)
    replace bb := via bb bq bb.size
    clear bq orl
    generalize y.val = wl at *
    obtain ⟨x0, hx0⟩ := ext_self wl
    rw [← hx0]
    clear hx0
    go_wp2_with fail
    refine (HS.out _ _ _ (rp.up (Ext.below _))).mono ?_
    rintro e w' ⟨J, cj, rfl, oj, b⟩
    obtain ⟨y1, rfl⟩ := ext_next b
    clear b
    go_wp2_with fail
    refine (sameLifts_same I J ci cj ls _ hlen (rl.up (Ext.below _)) oj.rd).mono ?_
    rintro e w' ⟨rfl, b⟩
    obtain ⟨y2, rfl⟩ := ext_next b
    clear b
    clear HI HS oj
    cases ok
    · obtain rfl : ls = [] := H0.out (by first | rfl | trivial)
      clear H0 H1
      go_wp2_with (go_at_call 20; refine (alive_any _).mono ?_; rintro e w' ⟨rfl, b2⟩)
      go_ret
      have bx := via bb (Ext.below y2) bb.size
      exact ⟨rfl, via bx b2 bx.size⟩
    · obtain ⟨s, r, hf, hr, hf2, ho, hll, hsm⟩ := H1.out (by first | rfl | trivial)
      obtain ⟨t, k⟩ := s
      simp only at *
      have HF := hide (fun c c' w rp => coilFind_any L L' c c' p id w hp.out rp)
      have HR := hide (fun c c' e w rp rl => liftRun_any L L' I c c' e p ls w hp.out hlen rp rl)
      have HG := hide (fun X X' c c' w rp => coilFind_any X X' c c' r id w hsm rp)
      have HO := hide (fun X X' c c' w rp => coilsOn_any X X' c c' r t (k : Int) w hsm rp)
      have HP := hide (fun c c' w rp => coilsOn_any L L' c c' p t (k : Int) w hp.out rp)
      unfold SpotOk findV at HF HG
      rw [hf] at HF
      rw [hf2] at HG
      rw [hr] at HR
      rw [ho] at HO
      generalize coilsOn p t (k : Int) = zs at *
      clear H0 H1 hf hr hf2 ho
      have t1 : ((ls.length : Int) == (ls.length : Int)) = true := by simp
      have t2 : ((ls.length : Int) == (zs.length : Int)) = true := by rw [hll]; simp
      have hll' := hide hll
      clear hll
      go_wp2_with fail
      refine (HF.out _ _ _ (rp.up (Ext.below _))).mono ?_
      rintro e w' ⟨rfl, b⟩
      obtain ⟨y3, rfl⟩ := ext_next b
      clear b
      have hq := y3.below.alloc y3.below.size (.cells #[.bool t, .int .i64 (k : Int)] 31)
      (try have j0 := cell_in hq K0); (try have j1 := cell_in hq K1); (try have j2 := cell_in hq K2); (try have j3 := cell_in hq K3); (try have j4 := cell_in hq K4); (try have j5 := cell_in hq K5); (try have j6 := cell_in hq K6); (try have j7 := cell_in hq K7); (try have j8 := cell_in hq K8); (try have j9 := cell_in hq K9); (try have j10 := cell_in hq K10); (try have j11 := cell_in hq K11); (try have j12 := cell_in hq K12); (try have j13 := cell_in hq K13); (try have j14 := cell_in hq K14); (try have j15 := cell_in hq K15)
      go_wp2_with fail
      (try clear j0); (try clear j1); (try clear j2); (try clear j3); (try clear j4); (try clear j5); (try clear j6); (try clear j7); (try clear j8); (try clear j9); (try clear j10); (try clear j11); (try clear j12); (try clear j13); (try clear j14); (try clear j15)
      obtain ⟨bq, bp, qq, hzq, hlq⟩ := box_in y3 31 #[.bool t, .int .i64 (k : Int)] _ rfl
      clear hq
      (try replace K0 := ext_lift bq K0); (try replace K1 := ext_lift bq K1); (try replace K2 := ext_lift bq K2); (try replace K3 := ext_lift bq K3); (try replace K4 := ext_lift bq K4); (try replace K5 := ext_lift bq K5); (try replace K6 := ext_lift bq K6); (try replace K7 := ext_lift bq K7); (try replace K8 := ext_lift bq K8); (try replace K9 := ext_lift bq K9); (try replace K10 := ext_lift bq K10); (try replace K11 := ext_lift bq K11); (try replace K12 := ext_lift bq K12); (try replace K13 := ext_lift bq K13); (try replace K14 := ext_lift bq K14); (try replace K15 := ext_lift bq K15)
      (try replace rp := rp.up bq); (try replace rx := rx.up bq); (try replace ry := ry.up bq); (try replace rz := rz.up bq); (try replace rl := rl.up bq); (try replace ro := ro.up bq)
      (try have rs := ors.rd.up bp)
      (try clear ors)
      generalize y3.val.alloc (.cells #[.bool t, .int .i64 (k : Int)] 31) = ws at *
      generalize y3.val.heap.size = gws at *
      replace bb := via bb bq bb.size
      obtain ⟨K2, K3, fK2, fK3⟩ := qq.ext2
      clear bq bp qq hzq hlq
      obtain ⟨x0, hx0⟩ := ext_self ws
      rw [← hx0]
      clear hx0
      refine (HR.out _ _ _ _ (rp.up (Ext.below _)) (rl.up (Ext.below _))).mono ?_
      rintro e w' ⟨X, cx, X', cx', rfl, orx, b⟩
      obtain ⟨y4, rfl⟩ := ext_next b
      clear b
      have hq := y4.below.alloc y4.below.size (.cells #[.slice X r.1.length cx, .slice X' r.2.length cx'] 25)
      (try have j0 := cell_in hq K0); (try have j1 := cell_in hq K1); (try have j2 := cell_in hq K2); (try have j3 := cell_in hq K3); (try have j4 := cell_in hq K4); (try have j5 := cell_in hq K5); (try have j6 := cell_in hq K6); (try have j7 := cell_in hq K7); (try have j8 := cell_in hq K8); (try have j9 := cell_in hq K9); (try have j10 := cell_in hq K10); (try have j11 := cell_in hq K11); (try have j12 := cell_in hq K12); (try have j13 := cell_in hq K13); (try have j14 := cell_in hq K14); (try have j15 := cell_in hq K15)
      go_wp2_with fail
      (try clear j0); (try clear j1); (try clear j2); (try clear j3); (try clear j4); (try clear j5); (try clear j6); (try clear j7); (try clear j8); (try clear j9); (try clear j10); (try clear j11); (try clear j12); (try clear j13); (try clear j14); (try clear j15)
      obtain ⟨bq, bp, qq, hzq, hlq⟩ := box_in y4 25 #[.slice X r.1.length cx, .slice X' r.2.length cx'] _ rfl
      clear hq
      (try replace K0 := ext_lift bq K0); (try replace K1 := ext_lift bq K1); (try replace K2 := ext_lift bq K2); (try replace K3 := ext_lift bq K3); (try replace K4 := ext_lift bq K4); (try replace K5 := ext_lift bq K5); (try replace K6 := ext_lift bq K6); (try replace K7 := ext_lift bq K7); (try replace K8 := ext_lift bq K8); (try replace K9 := ext_lift bq K9); (try replace K10 := ext_lift bq K10); (try replace K11 := ext_lift bq K11); (try replace K12 := ext_lift bq K12); (try replace K13 := ext_lift bq K13); (try replace K14 := ext_lift bq K14); (try replace K15 := ext_lift bq K15)
      (try replace rp := rp.up bq); (try replace rx := rx.up bq); (try replace ry := ry.up bq); (try replace rz := rz.up bq); (try replace rl := rl.up bq); (try replace ro := ro.up bq)
      (try have rx := orx.rd.up bp)
      (try clear orx)
      generalize y4.val.alloc (.cells #[.slice X r.1.length cx, .slice X' r.2.length cx'] 25) = wx at *
      generalize y4.val.heap.size = gwx at *
      replace bb := via bb bq bb.size
      obtain ⟨K4, K5, fK4, fK5⟩ := qq.ext2
      clear bq bp qq hzq hlq
      obtain ⟨x0, hx0⟩ := ext_self wx
      rw [← hx0]
      clear hx0
      refine (HG.out X X' _ _ _ (rx.up (Ext.below _))).mono ?_
      rintro e w' ⟨rfl, b⟩
      obtain ⟨y5, rfl⟩ := ext_next b
      clear b
      have hq := y5.below.alloc y5.below.size (.cells #[.bool t, .int .i64 (k : Int)] 31)
      (try have j0 := cell_in hq K0); (try have j1 := cell_in hq K1); (try have j2 := cell_in hq K2); (try have j3 := cell_in hq K3); (try have j4 := cell_in hq K4); (try have j5 := cell_in hq K5); (try have j6 := cell_in hq K6); (try have j7 := cell_in hq K7); (try have j8 := cell_in hq K8); (try have j9 := cell_in hq K9); (try have j10 := cell_in hq K10); (try have j11 := cell_in hq K11); (try have j12 := cell_in hq K12); (try have j13 := cell_in hq K13); (try have j14 := cell_in hq K14); (try have j15 := cell_in hq K15)
      go_wp2_with fail
      (try clear j0); (try clear j1); (try clear j2); (try clear j3); (try clear j4); (try clear j5); (try clear j6); (try clear j7); (try clear j8); (try clear j9); (try clear j10); (try clear j11); (try clear j12); (try clear j13); (try clear j14); (try clear j15)
      obtain ⟨bq, bp, qq, hzq, hlq⟩ := box_in y5 31 #[.bool t, .int .i64 (k : Int)] _ rfl
      clear hq
      (try replace K0 := ext_lift bq K0); (try replace K1 := ext_lift bq K1); (try replace K2 := ext_lift bq K2); (try replace K3 := ext_lift bq K3); (try replace K4 := ext_lift bq K4); (try replace K5 := ext_lift bq K5); (try replace K6 := ext_lift bq K6); (try replace K7 := ext_lift bq K7); (try replace K8 := ext_lift bq K8); (try replace K9 := ext_lift bq K9); (try replace K10 := ext_lift bq K10); (try replace K11 := ext_lift bq K11); (try replace K12 := ext_lift bq K12); (try replace K13 := ext_lift bq K13); (try replace K14 := ext_lift bq K14); (try replace K15 := ext_lift bq K15)
      (try replace rp := rp.up bq); (try replace rx := rx.up bq); (try replace ry := ry.up bq); (try replace rz := rz.up bq); (try replace rl := rl.up bq); (try replace ro := ro.up bq)
      (try have rt := ort.rd.up bp)
      (try clear ort)
      generalize y5.val.alloc (.cells #[.bool t, .int .i64 (k : Int)] 31) = wt at *
      generalize y5.val.heap.size = gwt at *
      replace bb := via bb bq bb.size
      obtain ⟨K6, K7, fK6, fK7⟩ := qq.ext2
      clear bq bp qq hzq hlq
      obtain ⟨x0, hx0⟩ := ext_self wt
      rw [← hx0]
      clear hx0
      refine (HO.out X X' _ _ _ (rx.up (Ext.below _))).mono ?_
      rintro e w' ⟨I1, c1, rfl, _, b⟩
      obtain ⟨y6, rfl⟩ := ext_next b
      clear b
      go_wp2_with fail
      refine (HP.out _ _ _ (rp.up (Ext.below _))).mono ?_
      rintro e w' ⟨I2, c2, rfl, _, b⟩
      obtain ⟨y7, rfl⟩ := ext_next b
      clear b
      go_wp2
      go_ret
      exact ⟨rfl, via bb (Ext.below y7) bb.size⟩
namespace FnDigLifts
set_option maxRecDepth 100000 in
theorem lifted (os : Os) (started : os.Started) (H : Type) (enc : TypeId × Value → H) :
    ReturnsInHanded {} Tryd.checked os 9 .any (fun w args => (Rows.fnDigLiftsSpec.pre enc Tryd.prog Tryd.f9 [] false w args ∧ laidMetH Tryd.prog Rows.fnDigLiftsRow.laid w) ∧ sizedMet enc Tryd.prog Tryd.f9 (OpenSpec.ofChange Rows.fnDigLiftsSpec) false w args) (Rows.fnDigLiftsSpec.post enc Tryd.prog Tryd.f9 false true false false) := by
  refine returnsInHanded_of_change_and (C := Tryd.checked) (X := fun w _ => laidMetH Tryd.prog Rows.fnDigLiftsRow.laid w) (fun _ _ _ hh h => h.of_heap hh) own started (by kernel_rfl) Tryd.func9
    (ChangeSpec.witness_shaped (enc := enc) (C := Tryd.checked) (os := os) (X := fun w _ => laidMetH Tryd.prog Rows.fnDigLiftsRow.laid w) false (World.laidAll Tryd.prog os Rows.fnDigLiftsRow.laid) #[.slice none 0 0] 8 (World.laidAll_os _ _ _)
      (World.shaped_of_ZipB (by kernel_rfl) (by kernel_rfl)) (by kernel_rfl) (by kernel_rfl) (by kernel_rfl)
      (by rw [MakeChecks.laidMetH_plain _ _ _ (by kernel_rfl)]; exact laidMet_laidAll _ (by kernel_rfl) (by kernel_rfl))) ?_
  intro W base args ds gs before hval0 hW _ _ _ _
  have hval : ∀ (j : Nat) t v, Tryd.f9.params[j]? = some t → args[j]? = some v → Value.okWide Tryd.prog W .any base t v := hval0
  have hW' := hW
  obtain ⟨p, q, hA0, hV, rfl, hfz, hnd⟩ := hW
  have hA : DataW.TrodAll enc Tryd.prog W 0 (fun _ => true) true Tryd.f9.params.toList args.toList ds p := hA0
  rw [Tryd.params9] at hA hval
  obtain ⟨v0, vs0, d0, ds0, p0, q0, hargs, rfl, rfl, h0, r0⟩ := trodAll_cons hA
  obtain ⟨rfl, rfl, rfl⟩ := trodAll_nil r0
  obtain rfl : args = #[v0] := by cases args; simp_all
  obtain ⟨rfl, rfl⟩ := trodVars_none hV
  have lt0 : ∀ x ∈ p0, x.block < W.heap.size := by obtain ⟨m, hm⟩ := h0; exact DataW.trod_lt m _ _ _ hm
  obtain ⟨A0, n0, c0, z0, rfl, rfl, k0, m0, wf0, rd0⟩ := op_ints Tryd.underlying22 Tryd.underlying5 (by kernel_rfl) (hval 0 22 v0 rfl rfl) h0
  clear hA0 hval0
  refine (w_FnDigLifts W A0 c0 z0 k0 m0 wf0 rd0).mono fun e W' ⟨he, bel⟩ => ?_
  subst he
  exact ⟨_, rfl, _, _, _, [], _, [], hW', trodAll_mk1 (shut_bool Tryd.underlying4 _), (trodAll_cons_mk (Below.trod laidOut (by kernel_rfl) (of_decide_eq_true (by kernel_rfl)) h0 bel lt0) trodAll_mk0), rfl, bel.frame _, fun h => by cases h⟩
theorem closed : joinedFacts Tryd.prog 9 Tryd.f9 Rows.fnDigLiftsSpec Rows.fnDigLiftsRow = true := by
  unfold joinedFacts
  rw [mayEnter, liftsFinal, progMake]
  kernel_rfl
theorem over : Rows.fnDigLiftsRow.holds Tryd.pinned (OpenSpec.ofChange Rows.fnDigLiftsSpec) :=
  OpenClaim.holds_of_wide 9 Tryd.f9 rfl rfl rfl rfl rfl rfl rfl ⟨rfl, rfl, rfl, rfl, rfl⟩ rfl rfl rfl rfl rfl (by kernel_rfl) Tryd.func9 closed
    (of_decide_eq_true (by kernel_rfl)) (by unfold Func.isWrapper; first | (rw [if_pos (by decide +kernel)]; kernel_rfl) | (rw [if_neg (by decide +kernel)]; exact ⟨rfl, rfl⟩))
    (fun os started H enc _ => lifted os started H enc)
set_option maxRecDepth 100000 in
theorem carded : Rows.FnDigLiftsCardSaid :=
  Claim7.holds_tied_plain_at .later [] _ true Rows.fnDigLiftsCard.stood.harness false over (fun _ h => by cases h) (by kernel_rfl) (fun _ h => by cases h) fnDigLifts_row_tie rfl ⟨rfl, rfl⟩ mainIs rfl
    (fun f fn hf hfn => by
      obtain rfl : f = 9 := Option.some.inj ((show Tryd.prog.funcNamed Rows.fnDigLiftsRow.func = some 9 by kernel_rfl).symm.trans hf) |>.symm
      obtain rfl : fn = Tryd.f9 := (Option.some.inj (Tryd.func9.symm.trans hfn)).symm
      exact ⟨noLooks, fun j t ht => by
        rw [Tryd.params9] at ht
        have hm : t ∈ [22] := by simpa using Array.mem_of_getElem? ht
        have hall : ([22].all fun u => !Tryd.prog.wantsStandIn u) = true := by kernel_rfl
        exact (show Tryd.prog.wantsStandIn t = false by simpa using List.all_eq_true.1 hall t hm)⟩)
    (by kernel_rfl)
theorem proved : Rows.FnDigLiftsCardSaid := carded
end FnDigLifts
end Go.Proofs.YtpiiefmfiipabaaDoor
