/- Found coils are there: FnCoilFind returns true for every input. No conditions. -/
import Derived.Test.YtpiiefmfiipabaaDoorSeatC
import Derived.Test.YtpiiefmfiipabaaDoorDrawV
import Derived.Test.YtpiiefmfiipabaaDoorAlive
import Derived.Test.YtpiiefmfiipabaaDoorLBox
import Derived.Test.YtpiiefmfiipabaaDoorCoilAt
import Derived.Test.YtpiiefmfiipabaaDoorCoilLaws
namespace Go.Proofs.YtpiiefmfiipabaaDoor
open Go.ChangeShapes Go.WideShapes Go.ChangeAt Go.RowKit Go.Deep
theorem find_mem (p : PL) (id : Int) : decide (id ∈ coilIds p) = (coilFind p id).isSome := by
  rw [Bool.eq_iff_iff, decide_eq_true_eq, ids_mem, find_isSome]
theorem find_at {p : PL} {id : Int} (h : (coilFind p id).isSome = true) : coilAt p (findV p id).1 (findV p id).2 = id := by
  obtain ⟨s, hs⟩ := Option.isSome_iff_exists.1 h
  obtain ⟨V, h1, hin, hc⟩ := find_iff.1 hs
  unfold findV
  rw [hs]
  exact (coilAt_nat V hin).trans hc
set_option linter.unusedSimpArgs false in
set_option linter.unusedVariables false in
set_option maxHeartbeats 8000000 in
set_option maxRecDepth 100000 in
theorem w_FnCoilFind (w : World) (A : Option Addr) (c : Nat) (bs : List Int) (hkc : bs.length ≤ c) (hmc : c ≤ maxLen) (hbs : ∀ b ∈ bs, (Lit.int .u8 b).wf = true) (hrd : Rd w w.heap.size A (bc bs)) :
    Calls Tryd.prog 16 #[.slice A bs.length c] w fun e w' => e = .returned (.bool true) ∧ Below w.heap.size w w' := by
  have hB := hide hbs
  clear hbs
  by_cases hl : 1048576 < bs.length
  · go_enter Tryd.func16, Tryd.ntmps16
    go_wp2
    go_ret
    exact ⟨rfl, Below.refl _ _⟩
  · go_enter Tryd.func16, Tryd.ntmps16
    go_wp2_with fail
    refine (drawCoilFind_any A c bs w hkc hmc hB.out hrd).mono ?_
    rintro e w1 ⟨L, d, L', d', p, id, rfl, h1, h2, oL, oL', b1⟩
    clear hl hkc hmc hrd
    have rp : RdP w1 w1.heap.size L L' p := ⟨oL.rd, oL'.rd⟩
    have hp := hide (show small p from ⟨by omega, by omega⟩)
    go_wp2_with fail
    obtain ⟨b0, k0, k1, hz0⟩ := box_one w1 25 (.slice L p.1.length d) (.slice L' p.2.length d') _ rfl
    replace rp := rp.up b0
    have bb := via b1 b0 b1.size
    clear oL oL' b1
    generalize w1.alloc (.cells #[.slice L p.1.length d, .slice L' p.2.length d'] 25) = w0 at *
    have K0 := Ext.old k0
    have K1 := Ext.old k1
    clear hz0 k0 k1 b0
    generalize w1.heap.size = gB at *
    have HI := hide (fun c c' w rp => coilFind_any L L' c c' p id w hp.out rp)
    have HS := hide (fun c c' w rp => coilFind_spec L L' c c' p id w hp.out rp)
    have HM := hide (find_mem p id)
    have HA := hide (find_at (p := p) (id := id))
    have hle := ids_le p
    have HC := hide (fun c c' w rp => coilIds_any L L' c c' p w hp.out rp)
    generalize hz : coilIds p = z at *
    clear hz
    unfold SpotOk at HI HS
    generalize (findV p id).1 = t at *
    generalize (findV p id).2 = k at *
    generalize (coilFind p id).isSome = ok at *
    obtain ⟨x0, hx0⟩ := ext_self w0
    rw [← hx0]
    clear hx0
    refine (HI.out _ _ _ (rp.up (Ext.below _))).mono ?_
    rintro e w' ⟨rfl, b⟩
    obtain ⟨y, rfl⟩ := ext_next b
    clear b
    have hq := y.below.alloc y.below.size (.cells #[.bool t, .int .i64 k] 31)
    (try have j0 := cell_in hq K0); (try have j1 := cell_in hq K1); (try have j2 := cell_in hq K2); (try have j3 := cell_in hq K3); (try have j4 := cell_in hq K4); (try have j5 := cell_in hq K5); (try have j6 := cell_in hq K6); (try have j7 := cell_in hq K7); (try have j8 := cell_in hq K8); (try have j9 := cell_in hq K9); (try have j10 := cell_in hq K10); (try have j11 := cell_in hq K11); (try have j12 := cell_in hq K12); (try have j13 := cell_in hq K13); (try have j14 := cell_in hq K14); (try have j15 := cell_in hq K15)
    go_wp2_with fail
    (try clear j0); (try clear j1); (try clear j2); (try clear j3); (try clear j4); (try clear j5); (try clear j6); (try clear j7); (try clear j8); (try clear j9); (try clear j10); (try clear j11); (try clear j12); (try clear j13); (try clear j14); (try clear j15)
    obtain ⟨bq, bp, qq, hzq, hlq⟩ := box_in y 31 #[.bool t, .int .i64 k] _ rfl
    clear hq
    (try replace K0 := ext_lift bq K0); (try replace K1 := ext_lift bq K1); (try replace K2 := ext_lift bq K2); (try replace K3 := ext_lift bq K3); (try replace K4 := ext_lift bq K4); (try replace K5 := ext_lift bq K5); (try replace K6 := ext_lift bq K6); (try replace K7 := ext_lift bq K7); (try replace K8 := ext_lift bq K8); (try replace K9 := ext_lift bq K9); (try replace K10 := ext_lift bq K10); (try replace K11 := ext_lift bq K11); (try replace K12 := ext_lift bq K12); (try replace K13 := ext_lift bq K13); (try replace K14 := ext_lift bq K14); (try replace K15 := ext_lift bq K15)
    (try replace rp := rp.up bq); (try replace rx := rx.up bq); (try replace ry := ry.up bq); (try replace rz := rz.up bq); (try replace rl := rl.up bq); (try replace ro := ro.up bq)
    (try have rx := orx.rd.up bp)
    (try clear orx)
    generalize y.val.alloc (.cells #[.bool t, .int .i64 k] 31) = wx at *
    generalize y.val.heap.size = gwx at *
    replace bb := via bb bq bb.size
    obtain ⟨K2, K3, fK2, fK3⟩ := qq.ext2
    clear bq bp qq hzq hlq
    obtain ⟨x0, hx0⟩ := ext_self wx
    rw [← hx0]
    clear hx0
    refine (HS.out _ _ _ (rp.up (Ext.below _))).mono ?_
    rintro e w' ⟨rfl, b⟩
    obtain ⟨y2, rfl⟩ := ext_next b
    clear b
    clear HI HS
    cases ok
    ·
      have hq := y2.below.alloc y2.below.size (.cells #[.bool t, .int .i64 k] 31)
      (try have j0 := cell_in hq K0); (try have j1 := cell_in hq K1); (try have j2 := cell_in hq K2); (try have j3 := cell_in hq K3); (try have j4 := cell_in hq K4); (try have j5 := cell_in hq K5); (try have j6 := cell_in hq K6); (try have j7 := cell_in hq K7); (try have j8 := cell_in hq K8); (try have j9 := cell_in hq K9); (try have j10 := cell_in hq K10); (try have j11 := cell_in hq K11); (try have j12 := cell_in hq K12); (try have j13 := cell_in hq K13); (try have j14 := cell_in hq K14); (try have j15 := cell_in hq K15)
      go_wp2_with fail
      (try clear j0); (try clear j1); (try clear j2); (try clear j3); (try clear j4); (try clear j5); (try clear j6); (try clear j7); (try clear j8); (try clear j9); (try clear j10); (try clear j11); (try clear j12); (try clear j13); (try clear j14); (try clear j15)
      obtain ⟨bq, bp, qq, hzq, hlq⟩ := box_in y2 31 #[.bool t, .int .i64 k] _ rfl
      clear hq
      (try replace K0 := ext_lift bq K0); (try replace K1 := ext_lift bq K1); (try replace K2 := ext_lift bq K2); (try replace K3 := ext_lift bq K3); (try replace K4 := ext_lift bq K4); (try replace K5 := ext_lift bq K5); (try replace K6 := ext_lift bq K6); (try replace K7 := ext_lift bq K7); (try replace K8 := ext_lift bq K8); (try replace K9 := ext_lift bq K9); (try replace K10 := ext_lift bq K10); (try replace K11 := ext_lift bq K11); (try replace K12 := ext_lift bq K12); (try replace K13 := ext_lift bq K13); (try replace K14 := ext_lift bq K14); (try replace K15 := ext_lift bq K15)
      (try replace rp := rp.up bq); (try replace rx := rx.up bq); (try replace ry := ry.up bq); (try replace rz := rz.up bq); (try replace rl := rl.up bq); (try replace ro := ro.up bq)
      (try have ry := ory.rd.up bp)
      (try clear ory)
      generalize y2.val.alloc (.cells #[.bool t, .int .i64 k] 31) = wy at *
      generalize y2.val.heap.size = gwy at *
      replace bb := via bb bq bb.size
      obtain ⟨K4, K5, fK4, fK5⟩ := qq.ext2
      clear bq bp qq hzq hlq
      obtain ⟨x0, hx0⟩ := ext_self wy
      rw [← hx0]
      clear hx0
      clear HA
      refine (HC.out _ _ _ (rp.up (Ext.below _))).mono ?_
      rintro e w' ⟨I, ci, rfl, oi, b⟩
      obtain ⟨y6, rfl⟩ := ext_next b
      clear b
      go_wp2_with fail
      refine (hasInt_any I ci z id _ (by omega) oi.rd).mono ?_
      rw [HM.out]
      rintro e w' ⟨rfl, rfl⟩
      go_wp2_with (go_at_call 20; refine (alive_any _).mono ?_; rintro e w' ⟨rfl, b2⟩)
      go_ret
      have bx := via bb (Ext.below y6) bb.size
      exact ⟨rfl, via bx b2 bx.size⟩
    ·
      have hq := y2.below.alloc y2.below.size (.cells #[.bool t, .int .i64 k] 31)
      (try have j0 := cell_in hq K0); (try have j1 := cell_in hq K1); (try have j2 := cell_in hq K2); (try have j3 := cell_in hq K3); (try have j4 := cell_in hq K4); (try have j5 := cell_in hq K5); (try have j6 := cell_in hq K6); (try have j7 := cell_in hq K7); (try have j8 := cell_in hq K8); (try have j9 := cell_in hq K9); (try have j10 := cell_in hq K10); (try have j11 := cell_in hq K11); (try have j12 := cell_in hq K12); (try have j13 := cell_in hq K13); (try have j14 := cell_in hq K14); (try have j15 := cell_in hq K15)
      go_wp2_with fail
      (try clear j0); (try clear j1); (try clear j2); (try clear j3); (try clear j4); (try clear j5); (try clear j6); (try clear j7); (try clear j8); (try clear j9); (try clear j10); (try clear j11); (try clear j12); (try clear j13); (try clear j14); (try clear j15)
      obtain ⟨bq, bp, qq, hzq, hlq⟩ := box_in y2 31 #[.bool t, .int .i64 k] _ rfl
      clear hq
      (try replace K0 := ext_lift bq K0); (try replace K1 := ext_lift bq K1); (try replace K2 := ext_lift bq K2); (try replace K3 := ext_lift bq K3); (try replace K4 := ext_lift bq K4); (try replace K5 := ext_lift bq K5); (try replace K6 := ext_lift bq K6); (try replace K7 := ext_lift bq K7); (try replace K8 := ext_lift bq K8); (try replace K9 := ext_lift bq K9); (try replace K10 := ext_lift bq K10); (try replace K11 := ext_lift bq K11); (try replace K12 := ext_lift bq K12); (try replace K13 := ext_lift bq K13); (try replace K14 := ext_lift bq K14); (try replace K15 := ext_lift bq K15)
      (try replace rp := rp.up bq); (try replace rx := rx.up bq); (try replace ry := ry.up bq); (try replace rz := rz.up bq); (try replace rl := rl.up bq); (try replace ro := ro.up bq)
      (try have ry := ory.rd.up bp)
      (try clear ory)
      generalize y2.val.alloc (.cells #[.bool t, .int .i64 k] 31) = wy at *
      generalize y2.val.heap.size = gwy at *
      replace bb := via bb bq bb.size
      obtain ⟨K4, K5, fK4, fK5⟩ := qq.ext2
      clear bq bp qq hzq hlq
      obtain ⟨x0, hx0⟩ := ext_self wy
      rw [← hx0]
      clear hx0
      refine (coilAt_any L L' _ _ p t k _ hp.out (rp.up (Ext.below _))).mono ?_
      rw [HA.out (by first | rfl | trivial)]
      rintro e w' ⟨rfl, b⟩
      obtain ⟨y3, rfl⟩ := ext_next b
      clear b
      clear HA
      go_wp2_with fail
      refine (HC.out _ _ _ (rp.up (Ext.below _))).mono ?_
      rintro e w' ⟨I, ci, rfl, oi, b⟩
      obtain ⟨y6, rfl⟩ := ext_next b
      clear b
      go_wp2_with fail
      refine (hasInt_any I ci z id _ (by omega) oi.rd).mono ?_
      rw [HM.out]
      rintro e w' ⟨rfl, rfl⟩
      go_wp2_with (go_at_call 20; refine (alive_any _).mono ?_; rintro e w' ⟨rfl, b2⟩)
      go_ret
      have bx := via bb (Ext.below y6) bb.size
      exact ⟨rfl, via bx b2 bx.size⟩
namespace FnCoilFind
set_option maxRecDepth 100000 in
theorem lifted (os : Os) (started : os.Started) (H : Type) (enc : TypeId × Value → H) :
    ReturnsInHanded {} Tryd.checked os 16 .any (fun w args => (Rows.fnCoilFindSpec.pre enc Tryd.prog Tryd.f16 [] false w args ∧ laidMetH Tryd.prog Rows.fnCoilFindRow.laid w) ∧ sizedMet enc Tryd.prog Tryd.f16 (OpenSpec.ofChange Rows.fnCoilFindSpec) false w args) (Rows.fnCoilFindSpec.post enc Tryd.prog Tryd.f16 false true false false) := by
  refine returnsInHanded_of_change_and (C := Tryd.checked) (X := fun w _ => laidMetH Tryd.prog Rows.fnCoilFindRow.laid w) (fun _ _ _ hh h => h.of_heap hh) own started (by kernel_rfl) Tryd.func16
    (ChangeSpec.witness_shaped (enc := enc) (C := Tryd.checked) (os := os) (X := fun w _ => laidMetH Tryd.prog Rows.fnCoilFindRow.laid w) false (World.laidAll Tryd.prog os Rows.fnCoilFindRow.laid) #[.slice none 0 0] 8 (World.laidAll_os _ _ _)
      (World.shaped_of_ZipB (by kernel_rfl) (by kernel_rfl)) (by kernel_rfl) (by kernel_rfl) (by kernel_rfl)
      (by rw [MakeChecks.laidMetH_plain _ _ _ (by kernel_rfl)]; exact laidMet_laidAll _ (by kernel_rfl) (by kernel_rfl))) ?_
  intro W base args ds gs before hval0 hW _ _ _ _
  have hval : ∀ (j : Nat) t v, Tryd.f16.params[j]? = some t → args[j]? = some v → Value.okWide Tryd.prog W .any base t v := hval0
  have hW' := hW
  obtain ⟨p, q, hA0, hV, rfl, hfz, hnd⟩ := hW
  have hA : DataW.TrodAll enc Tryd.prog W 0 (fun _ => true) true Tryd.f16.params.toList args.toList ds p := hA0
  rw [Tryd.params16] at hA hval
  obtain ⟨v0, vs0, d0, ds0, p0, q0, hargs, rfl, rfl, h0, r0⟩ := trodAll_cons hA
  obtain ⟨rfl, rfl, rfl⟩ := trodAll_nil r0
  obtain rfl : args = #[v0] := by cases args; simp_all
  obtain ⟨rfl, rfl⟩ := trodVars_none hV
  have lt0 : ∀ x ∈ p0, x.block < W.heap.size := by obtain ⟨m, hm⟩ := h0; exact DataW.trod_lt m _ _ _ hm
  obtain ⟨A0, n0, c0, z0, rfl, rfl, k0, m0, wf0, rd0⟩ := op_ints Tryd.underlying22 Tryd.underlying5 (by kernel_rfl) (hval 0 22 v0 rfl rfl) h0
  clear hA0 hval0
  refine (w_FnCoilFind W A0 c0 z0 k0 m0 wf0 rd0).mono fun e W' ⟨he, bel⟩ => ?_
  subst he
  exact ⟨_, rfl, _, _, _, [], _, [], hW', trodAll_mk1 (shut_bool Tryd.underlying4 _), (trodAll_cons_mk (Below.trod laidOut (by kernel_rfl) (of_decide_eq_true (by kernel_rfl)) h0 bel lt0) trodAll_mk0), rfl, bel.frame _, fun h => by cases h⟩
theorem closed : joinedFacts Tryd.prog 16 Tryd.f16 Rows.fnCoilFindSpec Rows.fnCoilFindRow = true := by
  unfold joinedFacts
  rw [mayEnter, liftsFinal, progMake]
  kernel_rfl
theorem over : Rows.fnCoilFindRow.holds Tryd.pinned (OpenSpec.ofChange Rows.fnCoilFindSpec) :=
  OpenClaim.holds_of_wide 16 Tryd.f16 rfl rfl rfl rfl rfl rfl rfl ⟨rfl, rfl, rfl, rfl, rfl⟩ rfl rfl rfl rfl rfl (by kernel_rfl) Tryd.func16 closed
    (of_decide_eq_true (by kernel_rfl)) (by unfold Func.isWrapper; first | (rw [if_pos (by decide +kernel)]; kernel_rfl) | (rw [if_neg (by decide +kernel)]; exact ⟨rfl, rfl⟩))
    (fun os started H enc _ => lifted os started H enc)
set_option maxRecDepth 100000 in
theorem carded : Rows.FnCoilFindCardSaid :=
  Claim7.holds_tied_plain_at .later [] _ true Rows.fnCoilFindCard.stood.harness false over (fun _ h => by cases h) (by kernel_rfl) (fun _ h => by cases h) fnCoilFind_row_tie rfl ⟨rfl, rfl⟩ mainIs rfl
    (fun f fn hf hfn => by
      obtain rfl : f = 16 := Option.some.inj ((show Tryd.prog.funcNamed Rows.fnCoilFindRow.func = some 16 by kernel_rfl).symm.trans hf) |>.symm
      obtain rfl : fn = Tryd.f16 := (Option.some.inj (Tryd.func16.symm.trans hfn)).symm
      exact ⟨noLooks, fun j t ht => by
        rw [Tryd.params16] at ht
        have hm : t ∈ [22] := by simpa using Array.mem_of_getElem? ht
        have hall : ([22].all fun u => !Tryd.prog.wantsStandIn u) = true := by kernel_rfl
        exact (show Tryd.prog.wantsStandIn t = false by simpa using List.all_eq_true.1 hall t hm)⟩)
    (by kernel_rfl)
theorem proved : Rows.FnCoilFindCardSaid := carded
end FnCoilFind
end Go.Proofs.YtpiiefmfiipabaaDoor
