/- On an upper coil nothing lies: FnCoilsOn returns true for every input. No conditions. -/
import Derived.Test.YtpiiefmfiipabaaDoorSeatC
import Derived.Test.YtpiiefmfiipabaaDoorDrawU
import Derived.Test.YtpiiefmfiipabaaDoorAlive
import Derived.Test.YtpiiefmfiipabaaDoorLBox
import Derived.Test.YtpiiefmfiipabaaDoorCoil
import Derived.Test.YtpiiefmfiipabaaDoorCoilTake
import Derived.Test.YtpiiefmfiipabaaDoorCoilLaws
namespace Go.Proofs.YtpiiefmfiipabaaDoor
open Go.ChangeShapes Go.WideShapes Go.ChangeAt Go.RowKit Go.Deep
set_option linter.unusedSimpArgs false in
set_option linter.unusedVariables false in
set_option maxHeartbeats 8000000 in
set_option maxRecDepth 100000 in
theorem w_FnCoilsOn (w : World) (A : Option Addr) (c : Nat) (bs : List Int) (hkc : bs.length ≤ c) (hmc : c ≤ maxLen) (hbs : ∀ b ∈ bs, (Lit.int .u8 b).wf = true) (hrd : Rd w w.heap.size A (bc bs)) :
    Calls Tryd.prog 6 #[.slice A bs.length c] w fun e w' => e = .returned (.bool true) ∧ Below w.heap.size w w' := by
  have hB := hide hbs
  clear hbs
  by_cases hl : 1048576 < bs.length
  · go_enter Tryd.func6, Tryd.ntmps6
    go_wp2
    go_ret
    exact ⟨rfl, Below.refl _ _⟩
  · go_enter Tryd.func6, Tryd.ntmps6
    go_wp2_with fail
    refine (drawCoilsOn_any A c bs w hkc hmc hB.out hrd).mono ?_
    rintro e w1 ⟨L, d, L', d', p, t, z, rfl, h1, h2, hz, oL, oL', b1⟩
    clear hl hkc hmc hrd
    have rp : RdP w1 w1.heap.size L L' p := ⟨oL.rd, oL'.rd⟩
    have hp := hide (show small p from ⟨by omega, by omega⟩)
    go_wp2_with fail
    obtain ⟨b0, k0, k1, k2, k3, hz0⟩ := box_two w1 25 31 (.slice L p.1.length d) (.slice L' p.2.length d') (.bool t) (.int .i64 z) _ rfl
    replace rp := rp.up b0
    have bb := via b1 b0 b1.size
    clear oL oL' b1
    generalize (w1.alloc (.cells #[.slice L p.1.length d, .slice L' p.2.length d'] 25)).alloc (.cells #[.bool t, .int .i64 z] 31) = w0 at *
    have K0 := Ext.old k0
    have K1 := Ext.old k1
    have K2 := Ext.old k2
    have K3 := Ext.old k3
    clear hz0 k0 k1 k2 k3 b0
    generalize w1.heap.size = gB at *
    have HI := hide (fun c c' w rp => coilsOn_any L L' c c' p t z w hp.out rp)
    have HS := hide (fun c c' w rp => coilsOn_spec L L' c c' p t z w hp.out rp)
    have HN := hide (on_none (p := p) (t := t) (z := z))
    have HE := hide (fun x => on_each (p := p) (t := t) (z := z) (x := x))
    have HT := hide (on_take (p := p) (t := t) (z := z))
    have hle := coilsOn_le (p := p) (top := t) (place := z)
    generalize coilsOn p t z = zs at *
    obtain ⟨x0, hx0⟩ := ext_self w0
    rw [← hx0]
    clear hx0
    refine (HI.out _ _ _ (rp.up (Ext.below _))).mono ?_
    rintro e w' ⟨I, ci, rfl, orl, b⟩
    obtain ⟨y, rfl⟩ := ext_next b
    clear b
    have bq := y.below
    have rl := orl.rd
    (try replace K0 := ext_lift bq K0); (try replace K1 := ext_lift bq K1); (try replace K2 := ext_lift bq K2); (try replace K3 := ext_lift bq K3); (try replace K4 := ext_lift bq K4); (try replace K5 := ext_lift bq K5); (try replace K6 := ext_lift bq K6); (try replace K7 := ext_lift bq K7); (try replace K8 := ext_lift bq K8); (try replace K9 := ext_lift bq K9); (try replace K10 := ext_lift bq K10); (try replace K11 := ext_lift bq K11); (try replace K12 := ext_lift bq K12); (try replace K13 := ext_lift bq K13); (try replace K14 := ext_lift bq K14); (try replace K15 := ext_lift bq K15)
    (try replace rp := rp.up bq); (try replace rx := rx.up bq); (try replace ry := ry.up bq); (try replace rz := rz.up bq); (try replace rl := rl.up bq); (try replace ro := ro.up bq)
    replace bb := via bb bq bb.size
    clear bq orl
    generalize y.val = wl at *
    obtain ⟨x0, hx0⟩ := ext_self wl
    rw [← hx0]
    clear hx0
    go_wp2_with fail
    refine (HS.out _ _ _ (rp.up (Ext.below _))).mono ?_
    rintro e w' ⟨Y, cy, rfl, oy, b⟩
    obtain ⟨y1, rfl⟩ := ext_next b
    clear b
    go_wp2_with fail
    refine (sameInts_any I Y ci cy zs zs y1.val (by omega) (rl.up (Ext.below _)) oy.rd).mono ?_
    rintro e w' ⟨rfl, dr⟩
    rw [decide_eq_true (rfl : zs = zs)]
    obtain ⟨y2, rfl⟩ := ext_next (dr.below _)
    clear oy dr HI HS
    go_wp2_with fail
    refine (coilAt_any L L' _ _ p t z _ hp.out (rp.up (Ext.below _))).mono ?_
    rintro e w' ⟨rfl, b⟩
    obtain ⟨y3, rfl⟩ := ext_next b
    clear b
    by_cases hv : coilAt p t z < 1
    · obtain rfl := HN.out hv
      have rl' : True := trivial
      go_wp2_with (go_at_call 20; refine (alive_any _).mono ?_; rintro e w' ⟨rfl, b2⟩)
      go_ret
      have bx := via bb (Ext.below y3) bb.size
      exact ⟨rfl, via bx b2 bx.size⟩
    · have hT := hide (HT.out (by omega))
      have hv' : decide (coilAt p t z < 1) = false := decide_eq_false hv
      generalize coilAt p t z = at0 at *
      clear HN HT hv
      go_wp2_with fail
      go_loopw [6, 7, 8] (fun i _ _ wr => ∃ (k : Nat) (y : Ext wl), k ≤ zs.length ∧ i = .int .i64 k ∧ wr = y.val) (fun i _ _ _ => zs.length - (intOf i).toNat)
      case atStart => exact ⟨0, y3, Nat.zero_le _, rfl, rfl⟩
      case round =>
        obtain ⟨k, xr, hk, rfl, rfl⟩ := hrel
        by_cases hlt : k < zs.length
        · obtain ⟨b, o, rfl, _, hc⟩ := rl.int hlt
          have C0 := Ext.old hc
          obtain ⟨e1, e2, e3, e4⟩ := HE.out _ (List.getElem_mem hlt)
          subst e3
          have HF := hide (fun c c' w rp => coilFind_any L L' c c' p zs[k] w hp.out rp)
          unfold SpotOk at HF
          rw [e1, e2] at HF
          generalize zs[k] = x at *
          generalize (findV p x).2 = m at *
          clear e1 e2 hc
          go_wp2_with fail
          go_cut [7, 8] from 38 to 78 (fun v o wx => SpotBox wl true m (.bool true) v o wx)
          case first =>
            go_region_held3 (fun w' => (w'.cell? ⟨gB, 0, none⟩ = some (.slice L p.1.length d)) ∧ (w'.cell? ⟨gB, 1, none⟩ = some (.slice L' p.2.length d')) ∧ w'.cell? ⟨b, o + k, none⟩ = some (.int .i64 x))
              (refine ⟨?_, ?_, ?_⟩ <;> with_reducible first | exact K0 _ | exact K1 _ | exact C0 _ | exact cell_in (Ext.below _).drew K0 | exact cell_in (Ext.below _).drew K1 | exact cell_in (Ext.below _).drew C0 | exact cell_in ((Ext.below _).alloc (Ext.below _).size _) K0 | exact cell_in ((Ext.below _).alloc (Ext.below _).size _) K1 | exact cell_in ((Ext.below _).alloc (Ext.below _).size _) C0 | exact cell_in ((Ext.below _).alloc (Ext.below _).size _).drew K0 | exact cell_in ((Ext.below _).alloc (Ext.below _).size _).drew K1 | exact cell_in ((Ext.below _).alloc (Ext.below _).size _).drew C0 | exact cell_in (((Ext.below _).setCell (Ext.below _).size _).setCell (Ext.below _).size _) K0 | exact cell_in (((Ext.below _).setCell (Ext.below _).size _).setCell (Ext.below _).size _) K1 | exact cell_in (((Ext.below _).setCell (Ext.below _).size _).setCell (Ext.below _).size _) C0)
              (first
                | (go_at_call 24; refine (HF.out _ _ _ (rp.up (by first | exact Ext.below _ | exact (Ext.below _).drew | exact (Ext.below _).alloc (Ext.below _).size _ | exact ((Ext.below _).alloc (Ext.below _).size _).drew))).mono ?_; rintro e w4 ⟨rfl, b4⟩; obtain ⟨x4, rfl⟩ := ext_any (by first | exact Ext.below _ | exact (Ext.below _).drew | exact (Ext.below _).alloc (Ext.below _).size _ | exact ((Ext.below _).alloc (Ext.below _).size _).drew) b4 (by first | exact (Ext.below _).size | exact ((Ext.below _).alloc (Ext.below _).size _).size); (first | (have qz := (Row.new _ _ _).drew.after b4; obtain ⟨m0, m1⟩ := qz.boxed; have f0 := qz.frozen 0; have f1 := qz.frozen 1) | (have qz := (Row.new _ _ _).after b4; obtain ⟨m0, m1⟩ := qz.boxed; have f0 := qz.frozen 0; have f1 := qz.frozen 1) | skip)))
            all_goals
              go_wp2_with fail
              go_meet
              first
                | exact spotBox_new
                | exact spotBox_old qz xr.below.size
          case rest =>
            obtain ⟨rfl, gW, xW, rfl, rfl, hgW, qW⟩ := hcut
            obtain ⟨m0, m1⟩ := qW.boxed
            have t1 := bne_int z
            have t2 := bne_int (z - 1)
            have t3 : (z - 1 != z) = true := by rw [bne_iff_ne]; omega
            rcases e4 with rfl | rfl
            · go_wp2_with fail
              go_roundw
              case rel => exact ⟨k + 1, xW, by omega, by go_num, rfl⟩
              case measure => simp [intOf]; omega
            · go_wp2_with fail
              go_roundw
              case rel => exact ⟨k + 1, xW, by omega, by go_num, rfl⟩
              case measure => simp [intOf]; omega
        · obtain rfl : k = zs.length := by omega
          have HI := hide (fun c c' w rp => coilTake_any L L' c c' p t z w hp.out rp)
          generalize coilTake p t z = rv at *
          obtain ⟨r, id⟩ := rv
          clear HE
          go_wp2_with fail
          refine (HI.out _ _ _ (rp.up (Ext.below _))).mono ?_
          rintro e w' ⟨X, cx, X', cx', rfl, orx, b⟩
          obtain ⟨y5, rfl⟩ := ext_next b
          clear b
          by_cases h0 : zs.length = 0
          · have t1 : decide (0 < id) = true := decide_eq_true (hT.out.2 h0)
            have t2 : ((zs.length : Int) == 0) = true := by simp [h0]
            have t3 : decide ((zs.length : Int) ≤ 2) = true := decide_eq_true (by omega)
            clear hT h0 hv'
            go_wp2_with fail
            go_ret
            exact ⟨rfl, via bb ((Ext.below y5).alloc (Ext.below y5).size _) bb.size⟩
          · have t1 : decide (0 < id) = false := decide_eq_false (fun h => h0 (hT.out.1 h))
            have t2 : ((zs.length : Int) == 0) = false := beq_false_of_ne (by omega)
            have t3 : decide ((zs.length : Int) ≤ 2) = true := decide_eq_true (by omega)
            clear hT h0 hv'
            go_wp2_with fail
            go_ret
            exact ⟨rfl, via bb ((Ext.below y5).alloc (Ext.below y5).size _) bb.size⟩
namespace FnCoilsOn
set_option maxRecDepth 100000 in
theorem lifted (os : Os) (started : os.Started) (H : Type) (enc : TypeId × Value → H) :
    ReturnsInHanded {} Tryd.checked os 6 .any (fun w args => (Rows.fnCoilsOnSpec.pre enc Tryd.prog Tryd.f6 [] false w args ∧ laidMetH Tryd.prog Rows.fnCoilsOnRow.laid w) ∧ sizedMet enc Tryd.prog Tryd.f6 (OpenSpec.ofChange Rows.fnCoilsOnSpec) false w args) (Rows.fnCoilsOnSpec.post enc Tryd.prog Tryd.f6 false true false false) := by
  refine returnsInHanded_of_change_and (C := Tryd.checked) (X := fun w _ => laidMetH Tryd.prog Rows.fnCoilsOnRow.laid w) (fun _ _ _ hh h => h.of_heap hh) own started (by kernel_rfl) Tryd.func6
    (ChangeSpec.witness_shaped (enc := enc) (C := Tryd.checked) (os := os) (X := fun w _ => laidMetH Tryd.prog Rows.fnCoilsOnRow.laid w) false (World.laidAll Tryd.prog os Rows.fnCoilsOnRow.laid) #[.slice none 0 0] 8 (World.laidAll_os _ _ _)
      (World.shaped_of_ZipB (by kernel_rfl) (by kernel_rfl)) (by kernel_rfl) (by kernel_rfl) (by kernel_rfl)
      (by rw [MakeChecks.laidMetH_plain _ _ _ (by kernel_rfl)]; exact laidMet_laidAll _ (by kernel_rfl) (by kernel_rfl))) ?_
  intro W base args ds gs before hval0 hW _ _ _ _
  have hval : ∀ (j : Nat) t v, Tryd.f6.params[j]? = some t → args[j]? = some v → Value.okWide Tryd.prog W .any base t v := hval0
  have hW' := hW
  obtain ⟨p, q, hA0, hV, rfl, hfz, hnd⟩ := hW
  have hA : DataW.TrodAll enc Tryd.prog W 0 (fun _ => true) true Tryd.f6.params.toList args.toList ds p := hA0
  rw [Tryd.params6] at hA hval
  obtain ⟨v0, vs0, d0, ds0, p0, q0, hargs, rfl, rfl, h0, r0⟩ := trodAll_cons hA
  obtain ⟨rfl, rfl, rfl⟩ := trodAll_nil r0
  obtain rfl : args = #[v0] := by cases args; simp_all
  obtain ⟨rfl, rfl⟩ := trodVars_none hV
  have lt0 : ∀ x ∈ p0, x.block < W.heap.size := by obtain ⟨m, hm⟩ := h0; exact DataW.trod_lt m _ _ _ hm
  obtain ⟨A0, n0, c0, z0, rfl, rfl, k0, m0, wf0, rd0⟩ := op_ints Tryd.underlying22 Tryd.underlying5 (by kernel_rfl) (hval 0 22 v0 rfl rfl) h0
  clear hA0 hval0
  refine (w_FnCoilsOn W A0 c0 z0 k0 m0 wf0 rd0).mono fun e W' ⟨he, bel⟩ => ?_
  subst he
  exact ⟨_, rfl, _, _, _, [], _, [], hW', trodAll_mk1 (shut_bool Tryd.underlying4 _), (trodAll_cons_mk (Below.trod laidOut (by kernel_rfl) (of_decide_eq_true (by kernel_rfl)) h0 bel lt0) trodAll_mk0), rfl, bel.frame _, fun h => by cases h⟩
theorem closed : joinedFacts Tryd.prog 6 Tryd.f6 Rows.fnCoilsOnSpec Rows.fnCoilsOnRow = true := by
  unfold joinedFacts
  rw [mayEnter, liftsFinal, progMake]
  kernel_rfl
theorem over : Rows.fnCoilsOnRow.holds Tryd.pinned (OpenSpec.ofChange Rows.fnCoilsOnSpec) :=
  OpenClaim.holds_of_wide 6 Tryd.f6 rfl rfl rfl rfl rfl rfl rfl ⟨rfl, rfl, rfl, rfl, rfl⟩ rfl rfl rfl rfl rfl (by kernel_rfl) Tryd.func6 closed
    (of_decide_eq_true (by kernel_rfl)) (by unfold Func.isWrapper; first | (rw [if_pos (by decide +kernel)]; kernel_rfl) | (rw [if_neg (by decide +kernel)]; exact ⟨rfl, rfl⟩))
    (fun os started H enc _ => lifted os started H enc)
set_option maxRecDepth 100000 in
theorem carded : Rows.FnCoilsOnCardSaid :=
  Claim7.holds_tied_plain_at .later [] _ true Rows.fnCoilsOnCard.stood.harness false over (fun _ h => by cases h) (by kernel_rfl) (fun _ h => by cases h) fnCoilsOn_row_tie rfl ⟨rfl, rfl⟩ mainIs rfl
    (fun f fn hf hfn => by
      obtain rfl : f = 6 := Option.some.inj ((show Tryd.prog.funcNamed Rows.fnCoilsOnRow.func = some 6 by kernel_rfl).symm.trans hf) |>.symm
      obtain rfl : fn = Tryd.f6 := (Option.some.inj (Tryd.func6.symm.trans hfn)).symm
      exact ⟨noLooks, fun j t ht => by
        rw [Tryd.params6] at ht
        have hm : t ∈ [22] := by simpa using Array.mem_of_getElem? ht
        have hall : ([22].all fun u => !Tryd.prog.wantsStandIn u) = true := by kernel_rfl
        exact (show Tryd.prog.wantsStandIn t = false by simpa using List.all_eq_true.1 hall t hm)⟩)
    (by kernel_rfl)
theorem proved : Rows.FnCoilsOnCardSaid := carded
end FnCoilsOn
end Go.Proofs.YtpiiefmfiipabaaDoor
