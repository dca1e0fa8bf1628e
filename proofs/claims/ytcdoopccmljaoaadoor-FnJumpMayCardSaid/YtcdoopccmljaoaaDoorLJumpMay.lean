/- Equal sheets follow each other: FnJumpMay returns true for every input. No conditions. -/
import Derived.Test.YtcdoopccmljaoaaDoorSeatC
import Derived.Test.YtcdoopccmljaoaaDoorDrawJ
import Derived.Test.YtcdoopccmljaoaaDoorAlive
import Derived.Test.YtcdoopccmljaoaaDoorRollPlain
import Derived.Test.YtcdoopccmljaoaaDoorExt
namespace Go.Proofs.YtcdoopccmljaoaaDoor
open Go.ChangeShapes Go.WideShapes Go.ChangeAt Go.RowKit Go.Deep
theorem sheetValid_bel (a b : Int) (w : World) : Calls Tryd.prog 20 #[.agg #[.int .i64 a, .int .i64 b]] w fun e w' => e = .returned (.bool (sheetValid a b)) ∧ Below w.heap.size w w' :=
  (sheetValid_any a b w).mono fun _ _ ⟨h1, h2⟩ => ⟨h1, by rw [← h2]; go_grown⟩
theorem jumpValid_bel (a b : Int) (w : World) : Calls Tryd.prog 27 #[.agg #[.int .i64 a, .int .i64 b]] w fun e w' => e = .returned (.bool (jumpValid a b)) ∧ Below w.heap.size w w' :=
  (jumpValid_any a b w).mono fun _ _ ⟨h1, h2⟩ => ⟨h1, by rw [← h2]; go_grown⟩
theorem jump_parts {a b c d j k : Int} (h : jumpMay a b c d j k = true) : sheetValid a b = true ∧ jumpValid j k = true := by
  simp only [jumpMay, Bool.and_eq_true] at h
  exact ⟨h.1, h.2.2.1⟩
set_option linter.unusedSimpArgs false in
set_option linter.unusedVariables false in
set_option maxHeartbeats 4000000 in
set_option maxRecDepth 100000 in
theorem w_FnJumpMay (w : World) (A : Option Addr) (c : Nat) (bs : List Int) (hkc : bs.length ≤ c) (hmc : c ≤ maxLen) (hbs : ∀ b ∈ bs, (Lit.int .u8 b).wf = true) (hrd : Rd w w.heap.size A (bc bs)) :
    Calls Tryd.prog 8 #[.slice A bs.length c] w fun e w' => e = .returned (.bool true) ∧ Below w.heap.size w w' := by
  have hB := hide hbs
  clear hbs
  by_cases hl : 1048576 < bs.length
  · go_enter Tryd.func8, Tryd.ntmps8
    go_wp2
    go_ret
    exact ⟨rfl, Below.refl _ _⟩
  · go_enter Tryd.func8, Tryd.ntmps8
    go_wp2_with fail
    refine (drawJumpMay_any A c bs w hkc hmc hB.out hrd).mono ?_
    rintro _ w1 ⟨a, b, d, e, j, k, rfl, b1⟩
    clear hl hkc hmc hrd
    go_wp2_with fail
    have q0 := ((Row.new w1 24 #[.int .i64 a, .int .i64 b]).alloc (.cells #[.int .i64 d, .int .i64 e] 24)).alloc (.cells #[.int .i64 j, .int .i64 k] 32)
    have q1 : Row (((w1.alloc (.cells #[.int .i64 a, .int .i64 b] 24)).alloc (.cells #[.int .i64 d, .int .i64 e] 24)).alloc (.cells #[.int .i64 j, .int .i64 k] 32)) (w1.heap.size + 1) 24 [.int .i64 d, .int .i64 e] := ((Row.new (w1.alloc (.cells #[.int .i64 a, .int .i64 b] 24)) 24 #[.int .i64 d, .int .i64 e]).at (by simp)).alloc (.cells #[.int .i64 j, .int .i64 k] 32)
    have q2 : Row (((w1.alloc (.cells #[.int .i64 a, .int .i64 b] 24)).alloc (.cells #[.int .i64 d, .int .i64 e] 24)).alloc (.cells #[.int .i64 j, .int .i64 k] 32)) (w1.heap.size + 1 + 1) 32 [.int .i64 j, .int .i64 k] := (Row.new ((w1.alloc (.cells #[.int .i64 a, .int .i64 b] 24)).alloc (.cells #[.int .i64 d, .int .i64 e] 24)) 32 #[.int .i64 j, .int .i64 k]).at (by simp)
    have b0 : Below w1.heap.size w1 (((w1.alloc (.cells #[.int .i64 a, .int .i64 b] 24)).alloc (.cells #[.int .i64 d, .int .i64 e] 24)).alloc (.cells #[.int .i64 j, .int .i64 k] 32)) := by go_grown
    have bb := via b1 b0 b1.size
    generalize ((w1.alloc (.cells #[.int .i64 a, .int .i64 b] 24)).alloc (.cells #[.int .i64 d, .int .i64 e] 24)).alloc (.cells #[.int .i64 j, .int .i64 k] 32) = w0 at *
    have K0 := Ext.old (two_cells q0).1
    have K1 := Ext.old (two_cells q0).2.1
    have K2 := Ext.old (two_cells q1).1
    have K3 := Ext.old (two_cells q1).2.1
    have K4 := Ext.old (two_cells q2).1
    have K5 := Ext.old (two_cells q2).2.1
    clear q0 q1 q2 b0 b1
    generalize w1.heap.size = gB at *
    obtain ⟨x0, hx0⟩ := ext_self w0
    rw [← hx0]
    clear hx0
    refine (jumpMay_any a b d e j k _).mono ?_
    rintro _ w' ⟨rfl, bq⟩
    obtain ⟨x1, rfl⟩ := ext_next bq
    clear bq
    go_wp2_with fail
    refine (jumpMay_spec a b d e j k _).mono ?_
    rintro _ w' ⟨rfl, bq⟩
    obtain ⟨x2, rfl⟩ := ext_next bq
    clear bq
    have tt := bne_self_eq_false (jumpMay a b d e j k)
    have HS : jumpMay a b a b j k = (sheetValid a b && jumpValid j k) := jumpMay_self
    cases hok : jumpMay a b d e j k
    · have H2 := hide (rfl : jumpMay d e a b j k = jumpMay d e a b j k)
      cases hs : sheetValid a b
      · rw [hs, Bool.false_and] at HS
        have H1 := hide HS
        have H3 := hide hs
        have H4 := hide (rfl : jumpValid j k = jumpValid j k)
        clear HS hs hok tt
        go_wp2_with fail
        refine wp_region_in (by kernel_rfl) (by kernel_rfl) ?_
        repeat (go_big_quiet_step (first | (go_at_call 36; first | (with_reducible exact ext_of (congrArg Value.bool H1.out) (jumpMay_any a b a b j k _)) | (with_reducible exact ext_of (congrArg Value.bool H2.out) (jumpMay_any _ e a b j k _))) | (go_at_call 20; exact ext_of (congrArg Value.bool H3.out) (sheetValid_bel _ _ _)) | (go_at_call 27; exact ext_of (congrArg Value.bool H4.out) (jumpValid_bel _ _ _)) | (go_at_call 22; refine ext_of (v := .bool true) rfl (alive_any _))))
        refine wpQuiet_nil ?_
        intro _ hw'
        obtain ⟨y, rfl⟩ := hw'
        go_wp2
        go_ret
        exact ⟨rfl, via bb (Ext.below y) bb.size⟩
      · cases hj : jumpValid j k
        · rw [hs, hj, Bool.and_false] at HS
          have H1 := hide HS
          have H3 := hide hs
          have H4 := hide hj
          clear HS hs hok tt hj
          go_wp2_with fail
          refine wp_region_in (by kernel_rfl) (by kernel_rfl) ?_
          repeat (go_big_quiet_step (first | (go_at_call 36; first | (with_reducible exact ext_of (congrArg Value.bool H1.out) (jumpMay_any a b a b j k _)) | (with_reducible exact ext_of (congrArg Value.bool H2.out) (jumpMay_any _ e a b j k _))) | (go_at_call 20; exact ext_of (congrArg Value.bool H3.out) (sheetValid_bel _ _ _)) | (go_at_call 27; exact ext_of (congrArg Value.bool H4.out) (jumpValid_bel _ _ _)) | (go_at_call 22; refine ext_of (v := .bool true) rfl (alive_any _))))
          refine wpQuiet_nil ?_
          intro _ hw'
          obtain ⟨y, rfl⟩ := hw'
          go_wp2
          go_ret
          exact ⟨rfl, via bb (Ext.below y) bb.size⟩
        · rw [hs, hj, Bool.and_true] at HS
          have H1 := hide HS
          have H3 := hide hs
          have H4 := hide hj
          clear HS hs hok tt hj
          go_wp2_with fail
          refine wp_region_in (by kernel_rfl) (by kernel_rfl) ?_
          repeat (go_big_quiet_step (first | (go_at_call 36; first | (with_reducible exact ext_of (congrArg Value.bool H1.out) (jumpMay_any a b a b j k _)) | (with_reducible exact ext_of (congrArg Value.bool H2.out) (jumpMay_any _ e a b j k _))) | (go_at_call 20; exact ext_of (congrArg Value.bool H3.out) (sheetValid_bel _ _ _)) | (go_at_call 27; exact ext_of (congrArg Value.bool H4.out) (jumpValid_bel _ _ _)) | (go_at_call 22; refine ext_of (v := .bool true) rfl (alive_any _))))
          refine wpQuiet_nil ?_
          intro _ hw'
          obtain ⟨y, rfl⟩ := hw'
          go_wp2
          go_ret
          exact ⟨rfl, via bb (Ext.below y) bb.size⟩
    · obtain ⟨hs, hj⟩ := jump_parts hok
      rw [hs, hj, Bool.and_true] at HS
      have H1 := hide HS
      have H3 := hide hs
      have H4 := hide hj
      cases hm : jumpMay d e a b j k
      · have H2 := hide hm
        clear HS hs hok tt hj hm
        go_wp2_with fail
        refine wp_region_in (by kernel_rfl) (by kernel_rfl) ?_
        repeat (go_big_quiet_step (first | (go_at_call 36; first | (with_reducible exact ext_of (congrArg Value.bool H1.out) (jumpMay_any a b a b j k _)) | (with_reducible exact ext_of (congrArg Value.bool H2.out) (jumpMay_any _ e a b j k _))) | (go_at_call 20; exact ext_of (congrArg Value.bool H3.out) (sheetValid_bel _ _ _)) | (go_at_call 27; exact ext_of (congrArg Value.bool H4.out) (jumpValid_bel _ _ _)) | (go_at_call 22; refine ext_of (v := .bool true) rfl (alive_any _))))
        refine wpQuiet_nil ?_
        intro _ hw'
        obtain ⟨y, rfl⟩ := hw'
        go_wp2
        go_ret
        exact ⟨rfl, via bb (Ext.below y) bb.size⟩
      · have H2 := hide hm
        have hac : a = d := jumpMay_both hok hm
        subst hac
        have ta : (a == a) = true := by simp
        clear HS hs hok tt hj hm
        go_wp2_with fail
        refine wp_region_in (by kernel_rfl) (by kernel_rfl) ?_
        repeat (go_big_quiet_step (first | (go_at_call 36; first | (with_reducible exact ext_of (congrArg Value.bool H1.out) (jumpMay_any a b a b j k _)) | (with_reducible exact ext_of (congrArg Value.bool H2.out) (jumpMay_any _ e a b j k _))) | (go_at_call 20; exact ext_of (congrArg Value.bool H3.out) (sheetValid_bel _ _ _)) | (go_at_call 27; exact ext_of (congrArg Value.bool H4.out) (jumpValid_bel _ _ _)) | (go_at_call 22; refine ext_of (v := .bool true) rfl (alive_any _))))
        refine wpQuiet_nil ?_
        intro _ hw'
        obtain ⟨y, rfl⟩ := hw'
        go_wp2
        go_ret
        exact ⟨rfl, via bb (Ext.below y) bb.size⟩
namespace FnJumpMay
set_option maxRecDepth 100000 in
theorem lifted (os : Os) (started : os.Started) (H : Type) (enc : TypeId × Value → H) :
    ReturnsInHanded {} Tryd.checked os 8 .any (fun w args => (Rows.fnJumpMaySpec.pre enc Tryd.prog Tryd.f8 [] false w args ∧ laidMetH Tryd.prog Rows.fnJumpMayRow.laid w) ∧ sizedMet enc Tryd.prog Tryd.f8 (OpenSpec.ofChange Rows.fnJumpMaySpec) false w args) (Rows.fnJumpMaySpec.post enc Tryd.prog Tryd.f8 false true false false) := by
  refine returnsInHanded_of_change_and (C := Tryd.checked) (X := fun w _ => laidMetH Tryd.prog Rows.fnJumpMayRow.laid w) (fun _ _ _ hh h => h.of_heap hh) own started (by kernel_rfl) Tryd.func8
    (ChangeSpec.witness_shaped (enc := enc) (C := Tryd.checked) (os := os) (X := fun w _ => laidMetH Tryd.prog Rows.fnJumpMayRow.laid w) false (World.laidAll Tryd.prog os Rows.fnJumpMayRow.laid) #[.slice none 0 0] 8 (World.laidAll_os _ _ _)
      (World.shaped_of_ZipB (by kernel_rfl) (by kernel_rfl)) (by kernel_rfl) (by kernel_rfl) (by kernel_rfl)
      (by rw [MakeChecks.laidMetH_plain _ _ _ (by kernel_rfl)]; exact laidMet_laidAll _ (by kernel_rfl) (by kernel_rfl))) ?_
  intro W base args ds gs before hval0 hW _ _ _ _
  have hval : ∀ (j : Nat) t v, Tryd.f8.params[j]? = some t → args[j]? = some v → Value.okWide Tryd.prog W .any base t v := hval0
  have hW' := hW
  obtain ⟨p, q, hA0, hV, rfl, hfz, hnd⟩ := hW
  have hA : DataW.TrodAll enc Tryd.prog W 0 (fun _ => true) true Tryd.f8.params.toList args.toList ds p := hA0
  rw [Tryd.params8] at hA hval
  obtain ⟨v0, vs0, d0, ds0, p0, q0, hargs, rfl, rfl, h0, r0⟩ := trodAll_cons hA
  obtain ⟨rfl, rfl, rfl⟩ := trodAll_nil r0
  obtain rfl : args = #[v0] := by cases args; simp_all
  obtain ⟨rfl, rfl⟩ := trodVars_none hV
  have lt0 : ∀ x ∈ p0, x.block < W.heap.size := by obtain ⟨m, hm⟩ := h0; exact DataW.trod_lt m _ _ _ hm
  obtain ⟨A0, n0, c0, z0, rfl, rfl, k0, m0, wf0, rd0⟩ := op_ints Tryd.underlying22 Tryd.underlying5 (by kernel_rfl) (hval 0 22 v0 rfl rfl) h0
  clear hA0 hval0
  refine (w_FnJumpMay W A0 c0 z0 k0 m0 wf0 rd0).mono fun e W' ⟨he, bel⟩ => ?_
  subst he
  exact ⟨_, rfl, _, _, _, [], _, [], hW', trodAll_mk1 (shut_bool Tryd.underlying4 _), (trodAll_cons_mk (Below.trod laidOut (by kernel_rfl) (of_decide_eq_true (by kernel_rfl)) h0 bel lt0) trodAll_mk0), rfl, bel.frame _, fun h => by cases h⟩
theorem closed : joinedFacts Tryd.prog 8 Tryd.f8 Rows.fnJumpMaySpec Rows.fnJumpMayRow = true := by
  unfold joinedFacts
  rw [mayEnter, liftsFinal, progMake]
  kernel_rfl
theorem over : Rows.fnJumpMayRow.holds Tryd.pinned (OpenSpec.ofChange Rows.fnJumpMaySpec) :=
  OpenClaim.holds_of_wide 8 Tryd.f8 rfl rfl rfl rfl rfl rfl rfl ⟨rfl, rfl, rfl, rfl, rfl⟩ rfl rfl rfl rfl rfl (by kernel_rfl) Tryd.func8 closed
    (of_decide_eq_true (by kernel_rfl)) (by unfold Func.isWrapper; first | (rw [if_pos (by decide +kernel)]; kernel_rfl) | (rw [if_neg (by decide +kernel)]; exact ⟨rfl, rfl⟩))
    (fun os started H enc _ => lifted os started H enc)
set_option maxRecDepth 100000 in
theorem carded : Rows.FnJumpMayCardSaid :=
  Claim7.holds_tied_plain_at .later [] _ true Rows.fnJumpMayCard.stood.harness false over (fun _ h => by cases h) (by kernel_rfl) (fun _ h => by cases h) fnJumpMay_row_tie rfl ⟨rfl, rfl⟩ mainIs rfl
    (fun f fn hf hfn => by
      obtain rfl : f = 8 := Option.some.inj ((show Tryd.prog.funcNamed Rows.fnJumpMayRow.func = some 8 by kernel_rfl).symm.trans hf) |>.symm
      obtain rfl : fn = Tryd.f8 := (Option.some.inj (Tryd.func8.symm.trans hfn)).symm
      exact ⟨noLooks, fun j t ht => by
        rw [Tryd.params8] at ht
        have hm : t ∈ [22] := by simpa using Array.mem_of_getElem? ht
        have hall : ([22].all fun u => !Tryd.prog.wantsStandIn u) = true := by kernel_rfl
        exact (show Tryd.prog.wantsStandIn t = false by simpa using List.all_eq_true.1 hall t hm)⟩)
    (by kernel_rfl)
theorem proved : Rows.FnJumpMayCardSaid := carded
end FnJumpMay
end Go.Proofs.YtcdoopccmljaoaaDoor
