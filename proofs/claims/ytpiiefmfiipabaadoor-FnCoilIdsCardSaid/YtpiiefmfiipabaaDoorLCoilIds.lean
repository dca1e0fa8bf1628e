/- All coils are told: FnCoilIds returns true for every input. No conditions. -/
import Derived.Test.YtpiiefmfiipabaaDoorSeatC
import Derived.Test.YtpiiefmfiipabaaDoorDrawQ
import Derived.Test.YtpiiefmfiipabaaDoorAlive
import Derived.Test.YtpiiefmfiipabaaDoorLBox
import Derived.Test.YtpiiefmfiipabaaDoorLawsP
import Derived.Test.YtpiiefmfiipabaaDoorCoilIds
namespace Go.Proofs.YtpiiefmfiipabaaDoor
open Go.ChangeShapes Go.WideShapes Go.ChangeAt Go.RowKit Go.Deep
/-- The places up to k that are not free. -/
def nF (p : PL) (k : Nat) : Nat := (some0 (p.1.take k)).length + (some0 (p.2.take k)).length
theorem some0_len {z : List Int} {k : Nat} (h : k < z.length) (h0 : 0 ≤ z[k]) : (some0 (z.take (k + 1))).length = (some0 (z.take k)).length + if 0 < z[k] then 1 else 0 := by
  rw [some0_snoc h, List.length_append]
  by_cases h1 : z[k] = 0
  · rw [if_pos h1, if_neg (by omega)]; rfl
  · rw [if_neg h1, if_pos (by omega)]; rfl
theorem some0_out {z : List Int} {k : Nat} (h : z.length ≤ k) : (some0 (z.take (k + 1))).length = (some0 (z.take k)).length := by
  rw [List.take_of_length_le h, List.take_of_length_le (by omega)]
theorem cl_getL {p : PL} (V : Vd p) {k : Nat} (h : k < p.1.length) : 0 ≤ p.1[k] := by
  have := (V.rng (false, k)).1
  rw [cl_low, List.getD_eq_getElem?_getD, List.getElem?_eq_getElem h] at this
  exact this
theorem cl_getH {p : PL} (V : Vd p) {k : Nat} (h : k < p.2.length) : 0 ≤ p.2[k] := by
  have := (V.rng (true, k)).1
  rw [cl_high, List.getD_eq_getElem?_getD, List.getElem?_eq_getElem h] at this
  exact this
theorem nF_le (p : PL) (k : Nat) : nF p k ≤ k + k := by
  have := some0_le p.1 k
  have := some0_le p.2 k
  unfold nF; omega
theorem nF_in {p : PL} (V : Vd p) {k : Nat} (h : k < p.1.length) (h2 : k < p.2.length) : nF p (k + 1) = nF p k + (if 0 < p.1[k] then 1 else 0) + if 0 < p.2[k] then 1 else 0 := by
  unfold nF
  rw [some0_len h (cl_getL V h), some0_len h2 (cl_getH V h2)]
  omega
theorem nF_out {p : PL} (V : Vd p) {k : Nat} (h : k < p.1.length) (h2 : ¬ k < p.2.length) : nF p (k + 1) = nF p k + if 0 < p.1[k] then 1 else 0 := by
  unfold nF
  rw [some0_len h (cl_getL V h), some0_out (by omega)]
  omega
theorem nF_all {p : PL} (V : Vd p) : nF p p.1.length = (coilIds p).length := by
  rw [ids_len V]
  unfold nF
  rw [List.take_length, List.take_of_length_le (by have := V.up; omega)]
set_option linter.unusedSimpArgs false in
set_option linter.unusedVariables false in
set_option maxHeartbeats 8000000 in
set_option maxRecDepth 100000 in
theorem w_FnCoilIds (w : World) (A : Option Addr) (c : Nat) (bs : List Int) (hkc : bs.length ≤ c) (hmc : c ≤ maxLen) (hbs : ∀ b ∈ bs, (Lit.int .u8 b).wf = true) (hrd : Rd w w.heap.size A (bc bs)) :
    Calls Tryd.prog 15 #[.slice A bs.length c] w fun e w' => e = .returned (.bool true) ∧ Below w.heap.size w w' := by
  have hB := hide hbs
  clear hbs
  by_cases hl : 1048576 < bs.length
  · go_enter Tryd.func15, Tryd.ntmps15
    go_wp2
    go_ret
    exact ⟨rfl, Below.refl _ _⟩
  · go_enter Tryd.func15, Tryd.ntmps15
    go_wp2_with fail
    refine (drawCoilIds_any A c bs w hkc hmc hB.out hrd).mono ?_
    rintro e w1 ⟨L, d, L', d', p, rfl, h1, h2, oL, oL', b1⟩
    clear hl hkc hmc hrd
    have rp : RdP w1 w1.heap.size L L' p := ⟨oL.rd, oL'.rd⟩
    have hp := hide (show small p from ⟨by omega, by omega⟩)
    go_wp2_with fail
    obtain ⟨b0, k0, k1, hz0⟩ := box_one w1 25 (.slice L p.1.length d) (.slice L' p.2.length d') _ rfl
    replace rp := rp.up b0
    have bb := via b1 b0 b1.size
    clear oL oL' b1
    generalize w1.alloc (.cells #[.slice L p.1.length d, .slice L' p.2.length d'] 25) = w0 at *
    have K0 := Ext.old k0
    have K1 := Ext.old k1
    clear hz0 k0 k1 b0
    generalize w1.heap.size = gB at *
    have HI := hide (fun c c' w rp => coilIds_any L L' c c' p w hp.out rp)
    have HS := hide (fun c c' w rp => coilIds_spec L L' c c' p w hp.out rp)
    have HW := hide (ids_pw p)
    have hle := ids_le p
    have HN := hide (fun hv : pileValid p = false => ids_no (p := p) (fun V => by rw [(vd_iff p).2 V] at hv; cases hv))
    have HF := hide (fun hv : pileValid p = true => nF_all ((vd_iff p).1 hv))
    generalize coilIds p = zs at *
    obtain ⟨x0, hx0⟩ := ext_self w0
    rw [← hx0]
    clear hx0
    refine (HI.out _ _ _ (rp.up (Ext.below _))).mono ?_
    rintro e w' ⟨I, ci, rfl, orl, b⟩
    obtain ⟨y, rfl⟩ := ext_next b
    clear b
    have bq := y.below
    have rl := orl.rd
    (try replace K0 := ext_lift bq K0); (try replace K1 := ext_lift bq K1); (try replace K2 := ext_lift bq K2); (try replace K3 := ext_lift bq K3); (try replace K4 := ext_lift bq K4); (try replace K5 := ext_lift bq K5); (try replace K6 := ext_lift bq K6); (try replace K7 := ext_lift bq K7); (try replace K8 := ext_lift bq K8); (try replace K9 := ext_lift bq K9); (try replace K10 := ext_lift bq K10); (try replace K11 := ext_lift bq K11); (try replace K12 := ext_lift bq K12); (try replace K13 := ext_lift bq K13); (try replace K14 := ext_lift bq K14); (try replace K15 := ext_lift bq K15)
    (try replace rp := rp.up bq); (try replace rx := rx.up bq); (try replace ry := ry.up bq); (try replace rz := rz.up bq); (try replace rl := rl.up bq); (try replace ro := ro.up bq)
    replace bb := via bb bq bb.size
    clear bq orl
    generalize y.val = wl at *
    obtain ⟨x0, hx0⟩ := ext_self wl
    rw [← hx0]
    clear hx0
    go_wp2_with fail
    refine (HS.out _ _ _ (rp.up (Ext.below _))).mono ?_
    rintro e w' ⟨Y, cy, rfl, oy, b⟩
    obtain ⟨y1, rfl⟩ := ext_next b
    clear b
    go_wp2_with fail
    refine (sameInts_any I Y ci cy zs zs y1.val (by omega) (rl.up (Ext.below _)) oy.rd).mono ?_
    rintro e w' ⟨rfl, dr⟩
    rw [decide_eq_true (rfl : zs = zs)]
    obtain ⟨y2, rfl⟩ := ext_next (dr.below _)
    clear oy dr HI HS
    go_wp2_with fail
    refine (pileValid_spec L L' _ _ p _ hp.out (rp.up (Ext.below _))).mono ?_
    cases hv : pileValid p
    · rintro e w' ⟨rfl, b⟩
      obtain ⟨y3, rfl⟩ := ext_next b
      clear b
      obtain rfl := HN.out hv
      clear hv HF HN
      go_wp2_with (go_at_call 20; refine (alive_any _).mono ?_; rintro e w' ⟨rfl, b2⟩)
      go_ret
      have bx := via bb (Ext.below y3) bb.size
      exact ⟨rfl, via bx b2 bx.size⟩
    · rintro e w' ⟨rfl, b⟩
      obtain ⟨y3, rfl⟩ := ext_next b
      clear b
      have V := (vd_iff p).1 hv
      have hnf := HF.out hv
      clear hv HN HF
      go_wp2_with fail
      go_loopw [5, 6] (fun n i wr => ∃ (k : Nat) (y : Ext wl), k ≤ p.1.length ∧ n = .int .i64 (nF p k : Nat) ∧ i = .int .i64 k ∧ wr = y.val) (fun _ i _ => p.1.length - (intOf i).toNat)
      case atStart => exact ⟨0, y3, Nat.zero_le _, rfl, rfl, rfl⟩
      case round =>
        obtain ⟨k, xr, hk, rfl, rfl, rfl⟩ := hrel
        have hm := nF_le p k
        by_cases hlt : k < p.1.length
        · obtain ⟨b, o, rfl, _, hc⟩ := rp.1.int hlt
          have C0 := Ext.old hc
          by_cases hlt2 : k < p.2.length
          · obtain ⟨b', o', rfl, _, hc'⟩ := rp.2.int hlt2
            have C1 := Ext.old hc'
            have hst := hide (nF_in V hlt hlt2)
            generalize p.1[k] = u at *
            generalize p.2[k] = v at *
            generalize nF p k = m at *
            clear hc hc'
            by_cases hu : 0 < u
            · rw [if_pos hu] at hst
              have t1 : decide (u > 0) = true := by simpa using hu
              by_cases hv : 0 < v
              · rw [if_pos hv] at hst
                have t2 : decide (v > 0) = true := by simpa using hv
                go_wp2_with fail
                go_roundw
                case rel => exact ⟨k + 1, xr, by omega, by rw [hst.out]; go_num, by go_num, rfl⟩
                case measure => simp [intOf]; omega
              · rw [if_neg hv] at hst
                have t2 : decide (v > 0) = false := by simpa using hv
                have hv' := hide hv
                clear hv
                go_wp2_with fail
                go_roundw
                case rel => exact ⟨k + 1, xr, by omega, by rw [hst.out]; go_num, by go_num, rfl⟩
                case measure => simp [intOf]; omega
            · rw [if_neg hu] at hst
              have t1 : decide (u > 0) = false := by simpa using hu
              have hu' := hide hu
              clear hu
              by_cases hv : 0 < v
              · rw [if_pos hv] at hst
                have t2 : decide (v > 0) = true := by simpa using hv
                go_wp2_with fail
                go_roundw
                case rel => exact ⟨k + 1, xr, by omega, by rw [hst.out]; go_num, by go_num, rfl⟩
                case measure => simp [intOf]; omega
              · rw [if_neg hv] at hst
                have t2 : decide (v > 0) = false := by simpa using hv
                have hv' := hide hv
                clear hv
                go_wp2_with fail
                go_roundw
                case rel => exact ⟨k + 1, xr, by omega, by rw [hst.out]; go_num, by go_num, rfl⟩
                case measure => simp [intOf]; omega
          · have hst := hide (nF_out V hlt hlt2)
            generalize p.1[k] = u at *
            generalize nF p k = m at *
            clear hc
            by_cases hu : 0 < u
            · rw [if_pos hu] at hst
              have t1 : decide (u > 0) = true := by simpa using hu
              go_wp2_with fail
              go_roundw
              case rel => exact ⟨k + 1, xr, by omega, by rw [hst.out]; go_num, by go_num, rfl⟩
              case measure => simp [intOf]; omega
            · rw [if_neg hu] at hst
              have t1 : decide (u > 0) = false := by simpa using hu
              have hu' := hide hu
              clear hu
              go_wp2_with fail
              go_roundw
              case rel => exact ⟨k + 1, xr, by omega, by rw [hst.out]; go_num, by go_num, rfl⟩
              case measure => simp [intOf]; omega
        · obtain rfl : k = p.1.length := by omega
          rw [hnf]
          have t1 : ((zs.length : Int) == (zs.length : Int)) = true := by simp
          go_wp2_with fail
          refine (ascend_any I ci zs _ (by omega) HW.out (rl.up (Ext.below _))).mono ?_
          rintro e w' ⟨rfl, b⟩
          obtain ⟨y5, rfl⟩ := ext_next b
          clear b
          go_wp2
          go_ret
          exact ⟨rfl, via bb (Ext.below y5) bb.size⟩
namespace FnCoilIds
set_option maxRecDepth 100000 in
theorem lifted (os : Os) (started : os.Started) (H : Type) (enc : TypeId × Value → H) :
    ReturnsInHanded {} Tryd.checked os 15 .any (fun w args => (Rows.fnCoilIdsSpec.pre enc Tryd.prog Tryd.f15 [] false w args ∧ laidMetH Tryd.prog Rows.fnCoilIdsRow.laid w) ∧ sizedMet enc Tryd.prog Tryd.f15 (OpenSpec.ofChange Rows.fnCoilIdsSpec) false w args) (Rows.fnCoilIdsSpec.post enc Tryd.prog Tryd.f15 false true false false) := by
  refine returnsInHanded_of_change_and (C := Tryd.checked) (X := fun w _ => laidMetH Tryd.prog Rows.fnCoilIdsRow.laid w) (fun _ _ _ hh h => h.of_heap hh) own started (by kernel_rfl) Tryd.func15
    (ChangeSpec.witness_shaped (enc := enc) (C := Tryd.checked) (os := os) (X := fun w _ => laidMetH Tryd.prog Rows.fnCoilIdsRow.laid w) false (World.laidAll Tryd.prog os Rows.fnCoilIdsRow.laid) #[.slice none 0 0] 8 (World.laidAll_os _ _ _)
      (World.shaped_of_ZipB (by kernel_rfl) (by kernel_rfl)) (by kernel_rfl) (by kernel_rfl) (by kernel_rfl)
      (by rw [MakeChecks.laidMetH_plain _ _ _ (by kernel_rfl)]; exact laidMet_laidAll _ (by kernel_rfl) (by kernel_rfl))) ?_
  intro W base args ds gs before hval0 hW _ _ _ _
  have hval : ∀ (j : Nat) t v, Tryd.f15.params[j]? = some t → args[j]? = some v → Value.okWide Tryd.prog W .any base t v := hval0
  have hW' := hW
  obtain ⟨p, q, hA0, hV, rfl, hfz, hnd⟩ := hW
  have hA : DataW.TrodAll enc Tryd.prog W 0 (fun _ => true) true Tryd.f15.params.toList args.toList ds p := hA0
  rw [Tryd.params15] at hA hval
  obtain ⟨v0, vs0, d0, ds0, p0, q0, hargs, rfl, rfl, h0, r0⟩ := trodAll_cons hA
  obtain ⟨rfl, rfl, rfl⟩ := trodAll_nil r0
  obtain rfl : args = #[v0] := by cases args; simp_all
  obtain ⟨rfl, rfl⟩ := trodVars_none hV
  have lt0 : ∀ x ∈ p0, x.block < W.heap.size := by obtain ⟨m, hm⟩ := h0; exact DataW.trod_lt m _ _ _ hm
  obtain ⟨A0, n0, c0, z0, rfl, rfl, k0, m0, wf0, rd0⟩ := op_ints Tryd.underlying22 Tryd.underlying5 (by kernel_rfl) (hval 0 22 v0 rfl rfl) h0
  clear hA0 hval0
  refine (w_FnCoilIds W A0 c0 z0 k0 m0 wf0 rd0).mono fun e W' ⟨he, bel⟩ => ?_
  subst he
  exact ⟨_, rfl, _, _, _, [], _, [], hW', trodAll_mk1 (shut_bool Tryd.underlying4 _), (trodAll_cons_mk (Below.trod laidOut (by kernel_rfl) (of_decide_eq_true (by kernel_rfl)) h0 bel lt0) trodAll_mk0), rfl, bel.frame _, fun h => by cases h⟩
theorem closed : joinedFacts Tryd.prog 15 Tryd.f15 Rows.fnCoilIdsSpec Rows.fnCoilIdsRow = true := by
  unfold joinedFacts
  rw [mayEnter, liftsFinal, progMake]
  kernel_rfl
theorem over : Rows.fnCoilIdsRow.holds Tryd.pinned (OpenSpec.ofChange Rows.fnCoilIdsSpec) :=
  OpenClaim.holds_of_wide 15 Tryd.f15 rfl rfl rfl rfl rfl rfl rfl ⟨rfl, rfl, rfl, rfl, rfl⟩ rfl rfl rfl rfl rfl (by kernel_rfl) Tryd.func15 closed
    (of_decide_eq_true (by kernel_rfl)) (by unfold Func.isWrapper; first | (rw [if_pos (by decide +kernel)]; kernel_rfl) | (rw [if_neg (by decide +kernel)]; exact ⟨rfl, rfl⟩))
    (fun os started H enc _ => lifted os started H enc)
set_option maxRecDepth 100000 in
theorem carded : Rows.FnCoilIdsCardSaid :=
  Claim7.holds_tied_plain_at .later [] _ true Rows.fnCoilIdsCard.stood.harness false over (fun _ h => by cases h) (by kernel_rfl) (fun _ h => by cases h) fnCoilIds_row_tie rfl ⟨rfl, rfl⟩ mainIs rfl
    (fun f fn hf hfn => by
      obtain rfl : f = 15 := Option.some.inj ((show Tryd.prog.funcNamed Rows.fnCoilIdsRow.func = some 15 by kernel_rfl).symm.trans hf) |>.symm
      obtain rfl : fn = Tryd.f15 := (Option.some.inj (Tryd.func15.symm.trans hfn)).symm
      exact ⟨noLooks, fun j t ht => by
        rw [Tryd.params15] at ht
        have hm : t ∈ [22] := by simpa using Array.mem_of_getElem? ht
        have hall : ([22].all fun u => !Tryd.prog.wantsStandIn u) = true := by kernel_rfl
        exact (show Tryd.prog.wantsStandIn t = false by simpa using List.all_eq_true.1 hall t hm)⟩)
    (by kernel_rfl)
theorem proved : Rows.FnCoilIdsCardSaid := carded
end FnCoilIds
end Go.Proofs.YtpiiefmfiipabaaDoor
