/- Wider jumps make longer rounds: FnRoundMost returns true for every input. No conditions. -/
import Derived.Test.YtcdoopccmljaoaaDoorSeatC
import Derived.Test.YtcdoopccmljaoaaDoorDrawB
import Derived.Test.YtcdoopccmljaoaaDoorAlive
import Derived.Test.YtcdoopccmljaoaaDoorRoundMost
namespace Go.Proofs.YtcdoopccmljaoaaDoor
open Go.ChangeShapes Go.WideShapes Go.ChangeAt Go.RowKit Go.Deep
theorem sc_take (zs : List (Int × Int)) (m : Nat) : sc (zs.take m) = (sc zs).take (m * 2) := by
  have e : sc zs = sc (zs.take m) ++ sc (zs.drop m) := by
    rw [show sc (zs.take m) ++ sc (zs.drop m) = sc (zs.take m ++ zs.drop m) by simp only [sc, List.flatMap_append], List.take_append_drop]
  by_cases h : m ≤ zs.length
  · have hl : (sc (zs.take m)).length = m * 2 := by rw [sc_len, List.length_take]; omega
    rw [e, ← hl, List.take_left]
  · rw [List.take_of_length_le (by omega), List.take_of_length_le (by rw [sc_len]; omega)]
theorem Rd.sheets_take {w : World} {B : Nat} {A : Option Addr} {zs : List (Int × Int)} (h : Rd w B A (sc zs)) (m : Nat) : Rd w B A (sc (zs.take m)) := by
  rw [sc_take]
  by_cases h0 : (sc zs).take (m * 2) = []
  · exact .inl h0
  · have hp : 0 < (sc zs).length := by
      rcases Nat.eq_zero_or_pos (sc zs).length with h1 | h1
      · exact absurd (by rw [List.eq_nil_of_length_eq_zero h1, List.take_nil]) h0
      · exact h1
    obtain ⟨b, o, hA, hb, hc⟩ := h.at (k := 0) hp
    refine .inr ⟨b, o, hA, hb, fun j hj => ?_⟩
    rw [List.length_take] at hj
    rw [hc j (by omega), List.getElem_take]
theorem valid_take {zs : List (Int × Int)} (h : sheetsValid zs = true) (m : Nat) : sheetsValid (zs.take m) = true := by
  unfold sheetsValid at h ⊢
  simp only [Bool.and_eq_true, decide_eq_true_eq, List.all_eq_true] at h ⊢
  refine ⟨by rw [List.length_take]; omega, fun x hx => h.2 x (List.mem_of_mem_take hx)⟩
theorem most_ix {zs : List (Int × Int)} {j k : Int} (h1 : sheetsValid zs = true) (h2 : jumpValid j k = true) : roundMost zs j k = ((bestIx zs j k).length : Int) := by
  unfold roundMost; rw [h1, h2]; rfl
theorem roundMost_at (A : Option Addr) (c n : Nat) (zs : List (Int × Int)) (j k : Int) (w : World) (hl : zs.length = n) (hz : n ≤ 1099511627776) (hr : Rd w w.heap.size A (sc zs)) :
    Calls Tryd.prog 55 #[.slice A n c, .agg #[.int .i64 j, .int .i64 k]] w fun e w' => e = .returned (.int .i64 (roundMost zs j k)) ∧ Below w.heap.size w w' := by
  subst hl; exact roundMost_any A c zs j k w hz hr
set_option linter.unusedSimpArgs false in
set_option linter.unusedVariables false in
set_option maxHeartbeats 4000000 in
set_option maxRecDepth 100000 in
theorem w_FnRoundMost (w : World) (A : Option Addr) (c : Nat) (bs : List Int) (hkc : bs.length ≤ c) (hmc : c ≤ maxLen) (hbs : ∀ b ∈ bs, (Lit.int .u8 b).wf = true) (hrd : Rd w w.heap.size A (bc bs)) :
    Calls Tryd.prog 14 #[.slice A bs.length c] w fun e w' => e = .returned (.bool true) ∧ Below w.heap.size w w' := by
  have hB := hide hbs
  clear hbs
  by_cases hl : 1048576 < bs.length
  · go_enter Tryd.func14, Tryd.ntmps14
    go_wp2
    go_ret
    exact ⟨rfl, Below.refl _ _⟩
  · go_enter Tryd.func14, Tryd.ntmps14
    go_wp2_with fail
    refine (drawRoundMost_any A c bs w hkc hmc hB.out hrd).mono ?_
    rintro e w1 ⟨L, d, zs, j, k, rfl, h1, h2, h3, hj, hk, oL, hn, b1⟩
    clear hl hkc hmc hrd
    have q0 := Row.new w1 32 #[.int .i64 j, .int .i64 k]
    have b0 : Below w1.heap.size w1 (w1.alloc (.cells #[.int .i64 j, .int .i64 k] 32)) := by go_grown
    have rL := oL.rd.up b0
    have bb := via b1 b0 b1.size
    go_wp2_with fail
    generalize w1.alloc (.cells #[.int .i64 j, .int .i64 k] 32) = w0 at *
    have K0 := Ext.old (two_cells q0).1
    have K1 := Ext.old (two_cells q0).2.1
    clear q0 b0 b1 oL
    generalize w1.heap.size = gB at *
    have HI := hide (fun w rp => roundMost_any L d zs j k w (by omega) rp)
    have HS := hide (fun w rp => roundMost_spec L d zs j k w (by omega) rp)
    by_cases hval : sheetsValid zs = true ∧ jumpValid j k = true
    · obtain ⟨hv, hjv⟩ := hval
      have HW := hide (fun w rp => roundMost_any L d zs (j + 1) (k + 1) w (by omega) rp)
      rw [most_ix hv hjv] at HI HS
      have hle := best_le zs j k
      have hwide : roundMost zs (j + 1) (k + 1) = -1 ∨ ∃ m : Nat, roundMost zs (j + 1) (k + 1) = (m : Int) ∧ (bestIx zs j k).length ≤ m := by
        cases hj2 : jumpValid (j + 1) (k + 1)
        · exact .inl (most_no (.inr hj2))
        · exact .inr ⟨_, most_ix hv hj2, best_wider (by omega) (by omega) hj2⟩
      have HNil := hide (best_nil zs j k)
      have HLess := hide (fun m => And.intro (most_ix (valid_take hv m) hjv) (best_less (zs := zs) (j := j) (k := k) m))
      have HA := hide (fun m w hl rp => roundMost_at L d m (zs.take m) j k w hl rp)
      generalize (bestIx zs j k).length = n at *
      generalize roundMost zs (j + 1) (k + 1) = wd at *
      have i0 : IntKind.i64.wrap (j + 1) = j + 1 := by rw [IntKind.wrap_i64]; omega
      have i1 : IntKind.i64.wrap (k + 1) = k + 1 := by rw [IntKind.wrap_i64]; omega
      have t0 : ((n : Int) != (n : Int)) = false := bne_self_eq_false _
      have t1 : decide ((n : Int) < 0) = false := decide_eq_false (by omega)
      clear hv hjv
      obtain ⟨x0, hx0⟩ := ext_self w0
      rw [← hx0]
      clear hx0
      refine (HI.out _ (rL.up (Ext.below _))).mono ?_
      rintro e w' ⟨rfl, b⟩
      obtain ⟨y1, rfl⟩ := ext_next b
      clear b
      go_wp2_with fail
      refine (HS.out _ (rL.up (Ext.below _))).mono ?_
      rintro e w' ⟨rfl, b⟩
      obtain ⟨y2, rfl⟩ := ext_next b
      clear b
      go_wp2_with fail
      refine (HW.out _ (rL.up (Ext.below _))).mono ?_
      rintro e w' ⟨rfl, b⟩
      obtain ⟨y3, rfl⟩ := ext_next b
      clear b
      rcases hwide with rfl | ⟨wm, rfl, hnm⟩
      · have t2 : decide ((-1 : Int) ≥ 0) = false := rfl
        by_cases hz : zs.length = 0
        · have t5 : ((zs.length : Int) == 0) = true := by rw [hz]; rfl
          have hn0 : n = 0 := by omega
          subst hn0
          go_wp2
          go_ret
          exact ⟨rfl, via bb (Ext.below y3) bb.size⟩
        · obtain ⟨m, hm⟩ : ∃ m, zs.length = m + 1 := ⟨zs.length - 1, by omega⟩
          have t5 : ((zs.length : Int) == 0) = false := beq_false_of_ne (by omega)
          obtain ⟨e1, e2⟩ := HLess.out m
          have HX := hide (fun (x : Ext w0) => HA.out m x.val (by rw [List.length_take]; omega) (by omega) ((rL.up x.below).sheets_take m))
          rw [e1] at HX
          generalize (bestIx (zs.take m) j k).length = l at *
          have i2 : (zs.length : Int) - 1 = (m : Int) := by omega
          have i3 : (m : Int) ≤ (d : Int) := by omega
          have i4 : IntKind.i64.wrap (m : Int) = (m : Int) := by rw [IntKind.wrap_i64]; omega
          have i5 : (0 : Int) < (zs.length : Int) := by omega
          have i6 : (0 : Int) ≤ (m : Int) := by omega
          have t6 : decide ((l : Int) ≤ (n : Int)) = true := decide_eq_true (by omega)
          have t7 : decide (l ≤ n) = true := decide_eq_true e2
          have t8 : decide ((n : Int) ≤ (zs.length : Int)) = true := decide_eq_true (by omega)
          have t9 : decide (n ≤ zs.length) = true := decide_eq_true hle
          have t10 : decide ((n : Int) ≤ (m : Int) + 1) = true := decide_eq_true (by omega)
          have t11 : ((m : Int) + 1 == 0) = false := beq_false_of_ne (by omega)
          clear e1 HLess HA
          go_wp2_with fail
          refine wp_region_in (by kernel_rfl) (by kernel_rfl) ?_
          repeat (go_big_quiet_step ((go_at_call 55; with_reducible exact ext_of rfl (HX.out _))))
          refine wpQuiet_nil ?_
          intro _ hw'
          obtain ⟨y4, rfl⟩ := hw'
          go_wp2
          go_ret
          exact ⟨rfl, via bb (Ext.below y4) bb.size⟩
      · have t2 : decide ((wm : Int) ≥ 0) = true := decide_eq_true (by omega)
        have t3 : decide ((wm : Int) < (n : Int)) = false := decide_eq_false (by omega)
        have t4 : decide (wm < n) = false := decide_eq_false (by omega)
        by_cases hz : zs.length = 0
        · have t5 : ((zs.length : Int) == 0) = true := by rw [hz]; rfl
          have hn0 : n = 0 := by omega
          subst hn0
          go_wp2
          go_ret
          exact ⟨rfl, via bb (Ext.below y3) bb.size⟩
        · obtain ⟨m, hm⟩ : ∃ m, zs.length = m + 1 := ⟨zs.length - 1, by omega⟩
          have t5 : ((zs.length : Int) == 0) = false := beq_false_of_ne (by omega)
          obtain ⟨e1, e2⟩ := HLess.out m
          have HX := hide (fun (x : Ext w0) => HA.out m x.val (by rw [List.length_take]; omega) (by omega) ((rL.up x.below).sheets_take m))
          rw [e1] at HX
          generalize (bestIx (zs.take m) j k).length = l at *
          have i2 : (zs.length : Int) - 1 = (m : Int) := by omega
          have i3 : (m : Int) ≤ (d : Int) := by omega
          have i4 : IntKind.i64.wrap (m : Int) = (m : Int) := by rw [IntKind.wrap_i64]; omega
          have i5 : (0 : Int) < (zs.length : Int) := by omega
          have i6 : (0 : Int) ≤ (m : Int) := by omega
          have t6 : decide ((l : Int) ≤ (n : Int)) = true := decide_eq_true (by omega)
          have t7 : decide (l ≤ n) = true := decide_eq_true e2
          have t8 : decide ((n : Int) ≤ (zs.length : Int)) = true := decide_eq_true (by omega)
          have t9 : decide (n ≤ zs.length) = true := decide_eq_true hle
          have t10 : decide ((n : Int) ≤ (m : Int) + 1) = true := decide_eq_true (by omega)
          have t11 : ((m : Int) + 1 == 0) = false := beq_false_of_ne (by omega)
          clear e1 HLess HA
          go_wp2_with fail
          refine wp_region_in (by kernel_rfl) (by kernel_rfl) ?_
          repeat (go_big_quiet_step ((go_at_call 55; with_reducible exact ext_of rfl (HX.out _))))
          refine wpQuiet_nil ?_
          intro _ hw'
          obtain ⟨y4, rfl⟩ := hw'
          go_wp2
          go_ret
          exact ⟨rfl, via bb (Ext.below y4) bb.size⟩
    · have hno : sheetsValid zs = false ∨ jumpValid j k = false := by
        cases hv : sheetsValid zs
        · exact .inl rfl
        · cases hjv : jumpValid j k
          · exact .inr rfl
          · exact absurd ⟨hv, hjv⟩ hval
      rw [most_no hno] at HI HS
      clear hno hval
      obtain ⟨x0, hx0⟩ := ext_self w0
      rw [← hx0]
      clear hx0
      refine (HI.out _ (rL.up (Ext.below _))).mono ?_
      rintro e w' ⟨rfl, b⟩
      obtain ⟨y1, rfl⟩ := ext_next b
      clear b
      go_wp2_with fail
      refine (HS.out _ (rL.up (Ext.below _))).mono ?_
      rintro e w' ⟨rfl, b⟩
      obtain ⟨y2, rfl⟩ := ext_next b
      clear b
      go_wp2_with (go_at_call 22; refine (alive_any _).mono ?_; rintro e w' ⟨rfl, b2⟩)
      go_ret
      have bx := via bb (Ext.below y2) bb.size
      exact ⟨rfl, via bx b2 bx.size⟩
namespace FnRoundMost
set_option maxRecDepth 100000 in
theorem lifted (os : Os) (started : os.Started) (H : Type) (enc : TypeId × Value → H) :
    ReturnsInHanded {} Tryd.checked os 14 .any (fun w args => (Rows.fnRoundMostSpec.pre enc Tryd.prog Tryd.f14 [] false w args ∧ laidMetH Tryd.prog Rows.fnRoundMostRow.laid w) ∧ sizedMet enc Tryd.prog Tryd.f14 (OpenSpec.ofChange Rows.fnRoundMostSpec) false w args) (Rows.fnRoundMostSpec.post enc Tryd.prog Tryd.f14 false true false false) := by
  refine returnsInHanded_of_change_and (C := Tryd.checked) (X := fun w _ => laidMetH Tryd.prog Rows.fnRoundMostRow.laid w) (fun _ _ _ hh h => h.of_heap hh) own started (by kernel_rfl) Tryd.func14
    (ChangeSpec.witness_shaped (enc := enc) (C := Tryd.checked) (os := os) (X := fun w _ => laidMetH Tryd.prog Rows.fnRoundMostRow.laid w) false (World.laidAll Tryd.prog os Rows.fnRoundMostRow.laid) #[.slice none 0 0] 8 (World.laidAll_os _ _ _)
      (World.shaped_of_ZipB (by kernel_rfl) (by kernel_rfl)) (by kernel_rfl) (by kernel_rfl) (by kernel_rfl)
      (by rw [MakeChecks.laidMetH_plain _ _ _ (by kernel_rfl)]; exact laidMet_laidAll _ (by kernel_rfl) (by kernel_rfl))) ?_
  intro W base args ds gs before hval0 hW _ _ _ _
  have hval : ∀ (j : Nat) t v, Tryd.f14.params[j]? = some t → args[j]? = some v → Value.okWide Tryd.prog W .any base t v := hval0
  have hW' := hW
  obtain ⟨p, q, hA0, hV, rfl, hfz, hnd⟩ := hW
  have hA : DataW.TrodAll enc Tryd.prog W 0 (fun _ => true) true Tryd.f14.params.toList args.toList ds p := hA0
  rw [Tryd.params14] at hA hval
  obtain ⟨v0, vs0, d0, ds0, p0, q0, hargs, rfl, rfl, h0, r0⟩ := trodAll_cons hA
  obtain ⟨rfl, rfl, rfl⟩ := trodAll_nil r0
  obtain rfl : args = #[v0] := by cases args; simp_all
  obtain ⟨rfl, rfl⟩ := trodVars_none hV
  have lt0 : ∀ x ∈ p0, x.block < W.heap.size := by obtain ⟨m, hm⟩ := h0; exact DataW.trod_lt m _ _ _ hm
  obtain ⟨A0, n0, c0, z0, rfl, rfl, k0, m0, wf0, rd0⟩ := op_ints Tryd.underlying22 Tryd.underlying5 (by kernel_rfl) (hval 0 22 v0 rfl rfl) h0
  clear hA0 hval0
  refine (w_FnRoundMost W A0 c0 z0 k0 m0 wf0 rd0).mono fun e W' ⟨he, bel⟩ => ?_
  subst he
  exact ⟨_, rfl, _, _, _, [], _, [], hW', trodAll_mk1 (shut_bool Tryd.underlying4 _), (trodAll_cons_mk (Below.trod laidOut (by kernel_rfl) (of_decide_eq_true (by kernel_rfl)) h0 bel lt0) trodAll_mk0), rfl, bel.frame _, fun h => by cases h⟩
theorem closed : joinedFacts Tryd.prog 14 Tryd.f14 Rows.fnRoundMostSpec Rows.fnRoundMostRow = true := by
  unfold joinedFacts
  rw [mayEnter, liftsFinal, progMake]
  kernel_rfl
theorem over : Rows.fnRoundMostRow.holds Tryd.pinned (OpenSpec.ofChange Rows.fnRoundMostSpec) :=
  OpenClaim.holds_of_wide 14 Tryd.f14 rfl rfl rfl rfl rfl rfl rfl ⟨rfl, rfl, rfl, rfl, rfl⟩ rfl rfl rfl rfl rfl (by kernel_rfl) Tryd.func14 closed
    (of_decide_eq_true (by kernel_rfl)) (by unfold Func.isWrapper; first | (rw [if_pos (by decide +kernel)]; kernel_rfl) | (rw [if_neg (by decide +kernel)]; exact ⟨rfl, rfl⟩))
    (fun os started H enc _ => lifted os started H enc)
set_option maxRecDepth 100000 in
theorem carded : Rows.FnRoundMostCardSaid :=
  Claim7.holds_tied_plain_at .later [] _ true Rows.fnRoundMostCard.stood.harness false over (fun _ h => by cases h) (by kernel_rfl) (fun _ h => by cases h) fnRoundMost_row_tie rfl ⟨rfl, rfl⟩ mainIs rfl
    (fun f fn hf hfn => by
      obtain rfl : f = 14 := Option.some.inj ((show Tryd.prog.funcNamed Rows.fnRoundMostRow.func = some 14 by kernel_rfl).symm.trans hf) |>.symm
      obtain rfl : fn = Tryd.f14 := (Option.some.inj (Tryd.func14.symm.trans hfn)).symm
      exact ⟨noLooks, fun j t ht => by
        rw [Tryd.params14] at ht
        have hm : t ∈ [22] := by simpa using Array.mem_of_getElem? ht
        have hall : ([22].all fun u => !Tryd.prog.wantsStandIn u) = true := by kernel_rfl
        exact (show Tryd.prog.wantsStandIn t = false by simpa using List.all_eq_true.1 hall t hm)⟩)
    (by kernel_rfl)
theorem proved : Rows.FnRoundMostCardSaid := carded
end FnRoundMost
end Go.Proofs.YtcdoopccmljaoaaDoor
