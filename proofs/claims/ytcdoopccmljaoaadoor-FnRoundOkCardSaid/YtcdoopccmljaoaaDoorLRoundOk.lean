/- No round is longer: FnRoundOk returns true for every input. No conditions. -/
import Derived.Test.YtcdoopccmljaoaaDoorSeatC
import Derived.Test.YtcdoopccmljaoaaDoorDrawK
import Derived.Test.YtcdoopccmljaoaaDoorAlive
namespace Go.Proofs.YtcdoopccmljaoaaDoor
open Go.ChangeShapes Go.WideShapes Go.ChangeAt Go.RowKit Go.Deep
theorem roundOk_at (A A' : Option Addr) (c c' n : Nat) (zs : List (Int × Int)) (j k : Int) (r : List Int) (w : World) (hn : zs.length ≤ 1099511627776) (hl : r.length = n) (hn' : n ≤ 1099511627776) (hr : Rd w w.heap.size A (sc zs)) (hr' : Rd w w.heap.size A' (ic r)) (hc' : n ≤ c') :
    Calls Tryd.prog 60 #[.slice A zs.length c, .agg #[.int .i64 j, .int .i64 k], .slice A' n c'] w fun e w' => e = .returned (.bool (roundOk zs j k r)) ∧ Below w.heap.size w w' := by
  subst hl; exact roundOk_any A A' c c' zs j k r w hn hn' hr hr' hc'
theorem round_valid {zs : List (Int × Int)} {j k : Int} {r : List Int} (h : roundOk zs j k r = true) : sheetsValid zs = true ∧ jumpValid j k = true := ⟨(roundOk_iff.1 h).1, (roundOk_iff.1 h).2.1⟩
theorem most_at {zs : List (Int × Int)} {j k : Int} {r : List Int} (h : roundOk zs j k r = true) : roundMost zs j k = ((bestIx zs j k).length : Int) := by
  obtain ⟨h1, h2⟩ := round_valid h
  unfold roundMost; rw [h1, h2]; rfl
theorem hasInt_at (A : Option Addr) (c n : Nat) (zs : List Int) (x : Int) (w : World) (hl : zs.length = n) (hn : n ≤ 1099511627776) (hr : Rd w w.heap.size A (ic zs)) :
    Calls Tryd.prog 63 #[.slice A n c, .int .i64 x] w fun e w' => e = .returned (.bool (decide (x ∈ zs))) ∧ w = w' := by
  subst hl; exact hasInt_any A c zs x w hn hr
set_option linter.unusedSimpArgs false in
set_option linter.unusedVariables false in
set_option maxHeartbeats 8000000 in
set_option maxRecDepth 100000 in
theorem w_FnRoundOk (w : World) (A : Option Addr) (c : Nat) (bs : List Int) (hkc : bs.length ≤ c) (hmc : c ≤ maxLen) (hbs : ∀ b ∈ bs, (Lit.int .u8 b).wf = true) (hrd : Rd w w.heap.size A (bc bs)) :
    Calls Tryd.prog 16 #[.slice A bs.length c] w fun e w' => e = .returned (.bool true) ∧ Below w.heap.size w w' := by
  have hB := hide hbs
  clear hbs
  by_cases hl : 1048576 < bs.length
  · go_enter Tryd.func16, Tryd.ntmps16
    go_wp2
    go_ret
    exact ⟨rfl, Below.refl _ _⟩
  · go_enter Tryd.func16, Tryd.ntmps16
    go_wp2_with fail
    refine (drawRoundOk_any A c bs w hkc hmc hB.out hrd).mono ?_
    rintro e w1 ⟨L, d, zs, j, k, I, ci, r, rfl, h1, h2, h3, h4, hroom, hnI, oL, oR, b1⟩
    clear hl hkc hmc hrd
    have q0 := Row.new w1 32 #[.int .i64 j, .int .i64 k]
    have b0 : Below w1.heap.size w1 (w1.alloc (.cells #[.int .i64 j, .int .i64 k] 32)) := by go_grown
    have rL := oL.rd.up b0
    have rR := oR.rd.up b0
    have bb := via b1 b0 b1.size
    go_wp2_with fail
    generalize w1.alloc (.cells #[.int .i64 j, .int .i64 k] 32) = w0 at *
    have K0 := Ext.old (two_cells q0).1
    have K1 := Ext.old (two_cells q0).2.1
    clear q0 b0 b1 oL oR
    generalize w1.heap.size = gB at *
    obtain ⟨x0, hx0⟩ := ext_self w0
    rw [← hx0]
    clear hx0
    refine (roundOk_any L I d ci zs j k r _ (by omega) (by omega) (rL.up (Ext.below _)) (rR.up (Ext.below _)) hroom).mono ?_
    rintro e w' ⟨rfl, b⟩
    obtain ⟨y1, rfl⟩ := ext_next b
    clear b
    go_wp2_with fail
    refine (roundOk_spec L I d ci zs j k r _ (by omega) (by omega) (rL.up (Ext.below _)) (rR.up (Ext.below _)) hroom).mono ?_
    rintro e w' ⟨rfl, b⟩
    obtain ⟨y2, rfl⟩ := ext_next b
    clear b
    have tt : (roundOk zs j k r != roundOk zs j k r) = false := bne_self_eq_false _
    cases hok : roundOk zs j k r
    · rw [hok] at tt
      clear hok
      go_wp2_with (go_at_call 22; refine (alive_any _).mono ?_; rintro e w' ⟨rfl, b2⟩)
      go_ret
      have bx := via bb (Ext.below y2) bb.size
      exact ⟨rfl, via bx b2 bx.size⟩
    · rw [hok] at tt
      have HM := hide (most_at hok)
      have hle := roundOk_le hok
      have hbl := best_le zs j k
      have HT := hide (fun i => roundOk_take hok i)
      have HIn := hide (fun i hi => roundOk_in hok (i := i) hi)
      have HAp := hide (fun i hi => roundOk_apart hok (i := i) hi)
      have HWd := hide (fun i hi => roundOk_wide hok (i := i) hi)
      clear hok
      go_wp2_with fail
      go_loopw [7] (fun i wr => ∃ (q : Nat) (y : Ext w0), q ≤ r.length ∧ i = .int .i64 q ∧ wr = y.val) (fun i _ => r.length - (intOf i).toNat)
      case atStart => exact ⟨0, y2, Nat.zero_le _, rfl, rfl⟩
      case round =>
        obtain ⟨q, y, hq, rfl, rfl⟩ := hrel
        by_cases hlt : q < r.length
        · obtain ⟨b0, o0, hA, _, hc⟩ := rR.int hlt
          subst hA
          obtain ⟨hin1, hin2⟩ := HIn.out q hlt
          have hap := HAp.out q hlt
          have HH := hide (fun (x : Ext w0) => hasInt_at (some ⟨b0, o0, none⟩) ci q (r.take q) r[q] x.val (by rw [List.length_take]; omega) (by omega) ((rR.up x.below).take q))
          rw [decide_eq_false hap] at HH
          have C0 := Ext.old hc
          have i0 : (0 : Int) ≤ (q : Int) := by omega
          have i1 : (q : Int) < (r.length : Int) := by omega
          have i2 : (q : Int) ≤ (ci : Int) := by omega
          clear hc hap
          by_cases hq0 : q = 0
          · subst hq0
            generalize r[0] = u at *
            rw [Nat.add_zero] at C0
            have t2 : decide ((0 : Int) > 0) = false := rfl
            go_wp2_with fail
            refine wp_region_in (by kernel_rfl) (by kernel_rfl) ?_
            repeat (go_big_quiet_step ((go_at_call 63; with_reducible exact ext_same rfl (HH.out _))))
            refine wpQuiet_nil ?_
            intro _ hw'
            obtain ⟨y5, rfl⟩ := hw'
            go_wp2_with fail
            go_roundw
            case rel => exact ⟨1, y5, by omega, by go_num, rfl⟩
            case measure => first | (simp [intOf]; done) | (simp [intOf]; omega)
          · obtain ⟨p, rfl⟩ : ∃ p, q = p + 1 := ⟨q - 1, by omega⟩
            have hlp : p < r.length := by omega
            obtain ⟨b1, o1, hA1, _, hc1⟩ := rR.int hlp
            cases hA1
            obtain ⟨hin3, hin4⟩ := HIn.out p hlp
            have hwd := HWd.out p hlt
            have C1 := Ext.old hc1
            obtain ⟨a, ha⟩ : ∃ a : Nat, r[p] = (a : Int) := ⟨r[p].toNat, by omega⟩
            obtain ⟨f, hf⟩ : ∃ f : Nat, r[p + 1] = (f : Int) := ⟨r[p + 1].toNat, by omega⟩
            rw [ha] at hin4 hwd C1
            rw [hf] at hin2 hwd C0 HH
            rw [Int.toNat_natCast] at hin4 hin2
            rw [Int.toNat_natCast, Int.toNat_natCast] at hwd
            obtain ⟨bL, oL, hAL, _, ⟨s1, _⟩, s3, _⟩ := rL.sheets hin4 hin2
            subst hAL
            have S1 := Ext.old s1
            have S3 := Ext.old s3
            have j0 : (0 : Int) ≤ (a : Int) := by omega
            have j1 : (a : Int) < (zs.length : Int) := by omega
            have j2 : (0 : Int) ≤ (f : Int) := by omega
            have j3 : (f : Int) < (zs.length : Int) := by omega
            have j4 : (p : Int) < (r.length : Int) := by omega
            have j5 : (0 : Int) ≤ (p : Int) := by omega
            have j6 : IntKind.i64.wrap (p : Int) = (p : Int) := by rw [IntKind.wrap_i64]; omega
            have t2 : decide (((p + 1 : Nat) : Int) > 0) = true := decide_eq_true (by omega)
            have t3 : decide ((p : Int) + 1 > 0) = true := decide_eq_true (by omega)
            have t5 : decide (0 < (p : Int) + 1) = true := decide_eq_true (by omega)
            have t4 : decide ((sh zs a).1 < (sh zs f).1) = false := decide_eq_false (by omega)
            clear hc1 s1 s3 hwd ha hf hin1 hin3
            generalize (sh zs a).1 = sa at *
            generalize (sh zs f).1 = sf at *
            go_wp2_with fail
            refine wp_region_in (by kernel_rfl) (by kernel_rfl) ?_
            repeat (go_big_quiet_step ((go_at_call 63; with_reducible exact ext_same rfl (HH.out _))))
            refine wpQuiet_nil ?_
            intro _ hw'
            obtain ⟨y5, rfl⟩ := hw'
            go_wp2_with fail
            go_roundw
            case rel => exact ⟨p + 1 + 1, y5, by omega, by go_num, rfl⟩
            case measure => first | (simp [intOf]; done) | (simp [intOf]; omega)
        · obtain rfl : q = r.length := by omega
          have HMx := hide (fun (x : Ext w0) => roundMost_any L d zs j k x.val (by omega) (rL.up x.below))
          rw [HM.out] at HMx
          generalize (bestIx zs j k).length = n at *
          have t1 : decide ((r.length : Int) ≤ (n : Int)) = true := decide_eq_true (by omega)
          have t2 : decide (r.length ≤ n) = true := decide_eq_true hle
          by_cases hr0 : r.length = 0
          · have t3 : ((r.length : Int) == 0) = true := by rw [hr0]; rfl
            have t4 : (r.length == 0) = true := by rw [hr0]; rfl
            have hr0 := hide hr0
            go_wp2_with fail
            refine wp_region_in (by kernel_rfl) (by kernel_rfl) ?_
            repeat (go_big_quiet_step ((go_at_call 55; with_reducible exact ext_of rfl (HMx.out _))))
            refine wpQuiet_nil ?_
            intro _ hw'
            obtain ⟨y5, rfl⟩ := hw'
            go_wp2
            go_ret
            exact ⟨rfl, via bb (Ext.below y5) bb.size⟩
          · obtain ⟨m, hm⟩ : ∃ m, r.length = m + 1 := ⟨r.length - 1, by omega⟩
            have HTx := hide (fun (x : Ext w0) => roundOk_at L I d ci m zs j k (r.take m) x.val (by omega) (by rw [List.length_take]; omega) (by omega) (rL.up x.below) ((rR.up x.below).take m) (by omega))
            rw [HT.out m] at HTx
            have t3 : ((r.length : Int) == 0) = false := beq_false_of_ne (by omega)
            have t4 : ((m : Int) + 1 == 0) = false := beq_false_of_ne (by omega)
            have i2 : (r.length : Int) - 1 = (m : Int) := by omega
            have i3 : (m : Int) ≤ (ci : Int) := by omega
            have i4 : IntKind.i64.wrap (m : Int) = (m : Int) := by rw [IntKind.wrap_i64]; omega
            have i5 : (0 : Int) < (r.length : Int) := by omega
            have i6 : (0 : Int) ≤ (m : Int) := by omega
            have t5 : decide ((m : Int) + 1 ≤ (n : Int)) = true := decide_eq_true (by omega)
            go_wp2_with fail
            refine wp_region_in (by kernel_rfl) (by kernel_rfl) ?_
            repeat (go_big_quiet_step (first | (go_at_call 55; with_reducible exact ext_of rfl (HMx.out _)) | (go_at_call 60; with_reducible exact ext_of rfl (HTx.out _))))
            refine wpQuiet_nil ?_
            intro _ hw'
            obtain ⟨y5, rfl⟩ := hw'
            go_wp2
            go_ret
            exact ⟨rfl, via bb (Ext.below y5) bb.size⟩
namespace FnRoundOk
set_option maxRecDepth 100000 in
theorem lifted (os : Os) (started : os.Started) (H : Type) (enc : TypeId × Value → H) :
    ReturnsInHanded {} Tryd.checked os 16 .any (fun w args => (Rows.fnRoundOkSpec.pre enc Tryd.prog Tryd.f16 [] false w args ∧ laidMetH Tryd.prog Rows.fnRoundOkRow.laid w) ∧ sizedMet enc Tryd.prog Tryd.f16 (OpenSpec.ofChange Rows.fnRoundOkSpec) false w args) (Rows.fnRoundOkSpec.post enc Tryd.prog Tryd.f16 false true false false) := by
  refine returnsInHanded_of_change_and (C := Tryd.checked) (X := fun w _ => laidMetH Tryd.prog Rows.fnRoundOkRow.laid w) (fun _ _ _ hh h => h.of_heap hh) own started (by kernel_rfl) Tryd.func16
    (ChangeSpec.witness_shaped (enc := enc) (C := Tryd.checked) (os := os) (X := fun w _ => laidMetH Tryd.prog Rows.fnRoundOkRow.laid w) false (World.laidAll Tryd.prog os Rows.fnRoundOkRow.laid) #[.slice none 0 0] 8 (World.laidAll_os _ _ _)
      (World.shaped_of_ZipB (by kernel_rfl) (by kernel_rfl)) (by kernel_rfl) (by kernel_rfl) (by kernel_rfl)
      (by rw [MakeChecks.laidMetH_plain _ _ _ (by kernel_rfl)]; exact laidMet_laidAll _ (by kernel_rfl) (by kernel_rfl))) ?_
  intro W base args ds gs before hval0 hW _ _ _ _
  have hval : ∀ (j : Nat) t v, Tryd.f16.params[j]? = some t → args[j]? = some v → Value.okWide Tryd.prog W .any base t v := hval0
  have hW' := hW
  obtain ⟨p, q, hA0, hV, rfl, hfz, hnd⟩ := hW
  have hA : DataW.TrodAll enc Tryd.prog W 0 (fun _ => true) true Tryd.f16.params.toList args.toList ds p := hA0
  rw [Tryd.params16] at hA hval
  obtain ⟨v0, vs0, d0, ds0, p0, q0, hargs, rfl, rfl, h0, r0⟩ := trodAll_cons hA
  obtain ⟨rfl, rfl, rfl⟩ := trodAll_nil r0
  obtain rfl : args = #[v0] := by cases args; simp_all
  obtain ⟨rfl, rfl⟩ := trodVars_none hV
  have lt0 : ∀ x ∈ p0, x.block < W.heap.size := by obtain ⟨m, hm⟩ := h0; exact DataW.trod_lt m _ _ _ hm
  obtain ⟨A0, n0, c0, z0, rfl, rfl, k0, m0, wf0, rd0⟩ := op_ints Tryd.underlying22 Tryd.underlying5 (by kernel_rfl) (hval 0 22 v0 rfl rfl) h0
  clear hA0 hval0
  refine (w_FnRoundOk W A0 c0 z0 k0 m0 wf0 rd0).mono fun e W' ⟨he, bel⟩ => ?_
  subst he
  exact ⟨_, rfl, _, _, _, [], _, [], hW', trodAll_mk1 (shut_bool Tryd.underlying4 _), (trodAll_cons_mk (Below.trod laidOut (by kernel_rfl) (of_decide_eq_true (by kernel_rfl)) h0 bel lt0) trodAll_mk0), rfl, bel.frame _, fun h => by cases h⟩
theorem closed : joinedFacts Tryd.prog 16 Tryd.f16 Rows.fnRoundOkSpec Rows.fnRoundOkRow = true := by
  unfold joinedFacts
  rw [mayEnter, liftsFinal, progMake]
  kernel_rfl
theorem over : Rows.fnRoundOkRow.holds Tryd.pinned (OpenSpec.ofChange Rows.fnRoundOkSpec) :=
  OpenClaim.holds_of_wide 16 Tryd.f16 rfl rfl rfl rfl rfl rfl rfl ⟨rfl, rfl, rfl, rfl, rfl⟩ rfl rfl rfl rfl rfl (by kernel_rfl) Tryd.func16 closed
    (of_decide_eq_true (by kernel_rfl)) (by unfold Func.isWrapper; first | (rw [if_pos (by decide +kernel)]; kernel_rfl) | (rw [if_neg (by decide +kernel)]; exact ⟨rfl, rfl⟩))
    (fun os started H enc _ => lifted os started H enc)
set_option maxRecDepth 100000 in
theorem carded : Rows.FnRoundOkCardSaid :=
  Claim7.holds_tied_plain_at .later [] _ true Rows.fnRoundOkCard.stood.harness false over (fun _ h => by cases h) (by kernel_rfl) (fun _ h => by cases h) fnRoundOk_row_tie rfl ⟨rfl, rfl⟩ mainIs rfl
    (fun f fn hf hfn => by
      obtain rfl : f = 16 := Option.some.inj ((show Tryd.prog.funcNamed Rows.fnRoundOkRow.func = some 16 by kernel_rfl).symm.trans hf) |>.symm
      obtain rfl : fn = Tryd.f16 := (Option.some.inj (Tryd.func16.symm.trans hfn)).symm
      exact ⟨noLooks, fun j t ht => by
        rw [Tryd.params16] at ht
        have hm : t ∈ [22] := by simpa using Array.mem_of_getElem? ht
        have hall : ([22].all fun u => !Tryd.prog.wantsStandIn u) = true := by kernel_rfl
        exact (show Tryd.prog.wantsStandIn t = false by simpa using List.all_eq_true.1 hall t hm)⟩)
    (by kernel_rfl)
theorem proved : Rows.FnRoundOkCardSaid := carded
end FnRoundOk
end Go.Proofs.YtcdoopccmljaoaaDoor
