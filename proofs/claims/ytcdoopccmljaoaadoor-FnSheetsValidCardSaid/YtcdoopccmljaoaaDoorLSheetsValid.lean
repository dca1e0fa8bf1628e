/- Sheets stay valid when one is missing: FnSheetsValid returns true for every input. No conditions. -/
import Derived.Test.YtcdoopccmljaoaaDoorSeatC
import Derived.Test.YtcdoopccmljaoaaDoorDrawS
import Derived.Test.YtcdoopccmljaoaaDoorAlive
import Derived.Test.YtcdoopccmljaoaaDoorRollPlain
namespace Go.Proofs.YtcdoopccmljaoaaDoor
open Go.ChangeShapes Go.WideShapes Go.ChangeAt Go.RowKit Go.Deep
set_option linter.unusedVariables false in
set_option maxHeartbeats 12000000 in
set_option maxRecDepth 100000 in
theorem w_FnSheetsValid (w : World) (A : Option Addr) (c : Nat) (bs : List Int) (hkc : bs.length ≤ c) (hmc : c ≤ maxLen) (hbs : ∀ b ∈ bs, (Lit.int .u8 b).wf = true) (hrd : Rd w w.heap.size A (bc bs)) :
    Calls Tryd.prog 10 #[.slice A bs.length c] w fun e w' => e = .returned (.bool true) ∧ Below w.heap.size w w' := by
  have hB := hide hbs
  clear hbs
  by_cases hl : 1048576 < bs.length
  · go_enter Tryd.func10, Tryd.ntmps10
    go_wp2
    go_ret
    exact ⟨rfl, Below.refl _ _⟩
  · go_enter Tryd.func10, Tryd.ntmps10
    go_wp2_with fail
    refine (drawSheetsValid_any A c bs w hkc hmc hB.out hrd).mono ?_
    rintro e w1 ⟨L, d, zs, rfl, h1, h2, h3, _, oL, hn, b1⟩
    clear hl hkc hmc hrd
    have rL := oL.rd
    have oO := oL
    clear oL
    go_wp2_with fail
    refine (sheetsValid_any L d zs _ (by omega) rL).mono ?_
    rintro e w' ⟨rfl, bq⟩
    replace b1 := via b1 bq b1.size
    replace rL := rL.up bq
    clear bq
    cases hv : sheetsValid zs
    · go_wp2_with fail
      refine (sheetsValid_spec L d zs _ (by omega) rL).mono ?_
      rintro e w' ⟨rfl, bq⟩
      replace b1 := via b1 bq b1.size
      replace rL := rL.up bq
      clear bq
      rw [hv]
      have oE := own_empty (e := 24) (size := 2) w' w.heap.size b1.size
      have bA : Below w'.heap.size w' (w'.alloc (.cells #[] 24)) := by go_grown
      have rA := rL.up bA
      have bB := via b1 bA b1.size
      go_wp2_with (at_builtin; first
        | (have oE1 := oE; clear oE; refine wpList_append_any sheetElem rfl _ _ rfl w.heap.size _ _ 0 [] rfl oE1 _ zs.length _ rfl (sc zs) (sc_len zs) rA (fun h => by simp [hn h]) (sc_one _) (by omega) (by omega) bB.size ?_; intro v2 w2 hap; have o2 := hap.1; replace bB := bB.trans (hap.below oE1 bB.size); have z2 := bB.size; clear hap)
        | (refine wpList_append_any sheetElem rfl _ _ rfl w.heap.size (w2.heap.size + 1) _ (0 + zs.length) ([] ++ sc zs) rfl (o2.alloc _) (some ⟨w2.heap.size, 0, none⟩) 1 1 rfl (sc [(0, 1)]) rfl (((Row.new w2 24 #[.int .i64 0, .int .i64 1]).rd).mono (by simp)) (fun h => by cases h) (sc_one _) (by omega) (by omega) (by simp; omega) ?_; intro v3 w3 hap; have o3 := hap.1; replace bB := (bB.alloc z2 (.cells #[.int .i64 0, .int .i64 1] 24)).trans (hap.below (o2.alloc _) (by simp; omega)); clear hap; obtain ⟨L3, d3, hv3, oL3, _⟩ := own_room2 o3; subst hv3))
      have rL3 := oL3.rd
      rw [show [] ++ sc zs ++ sc [(0, 1)] = sc (zs ++ [(0, 1)]) by simp [sc]] at rL3
      refine (sheetsValid_at L3 d3 _ (zs ++ [(0, 1)]) w3 (by simp) (by omega) rL3).mono ?_
      rintro e w4 ⟨rfl, b4⟩
      rw [sheetsValid_bad]
      replace bB := via bB b4 bB.size
      go_wp2_with fail
      refine (sheetsValid_at none 0 0 [] w4 rfl (by omega) (.inl rfl)).mono ?_
      rintro e w5 ⟨rfl, b5⟩
      rw [sheetsValid_none]
      replace bB := via bB b5 bB.size
      go_wp2_with (go_at_call 22; refine (alive_any _).mono ?_; rintro e w' ⟨rfl, b2⟩)
      go_ret
      exact ⟨rfl, via bB b2 bB.size⟩
    · go_wp2_with fail
      refine (sheetsValid_spec L d zs _ (by omega) rL).mono ?_
      rintro e w' ⟨rfl, bq⟩
      replace b1 := via b1 bq b1.size
      replace rL := rL.up bq
      clear bq
      rw [hv]
      by_cases hz : zs.length = 0
      · have tz : (((zs.length : Nat) : Int) == 0) = true := by simp [hz]
        clear hz
        have oE := own_empty (e := 24) (size := 2) w' w.heap.size b1.size
        have bA : Below w'.heap.size w' (w'.alloc (.cells #[] 24)) := by go_grown
        have rA := rL.up bA
        have bB := via b1 bA b1.size
        go_wp2_with (at_builtin; first
          | (have oE1 := oE; clear oE; refine wpList_append_any sheetElem rfl _ _ rfl w.heap.size _ _ 0 [] rfl oE1 _ zs.length _ rfl (sc zs) (sc_len zs) rA (fun h => by simp [hn h]) (sc_one _) (by omega) (by omega) bB.size ?_; intro v2 w2 hap; have o2 := hap.1; replace bB := bB.trans (hap.below oE1 bB.size); have z2 := bB.size; clear hap)
          | (refine wpList_append_any sheetElem rfl _ _ rfl w.heap.size (w2.heap.size + 1) _ (0 + zs.length) ([] ++ sc zs) rfl (o2.alloc _) (some ⟨w2.heap.size, 0, none⟩) 1 1 rfl (sc [(0, 1)]) rfl (((Row.new w2 24 #[.int .i64 0, .int .i64 1]).rd).mono (by simp)) (fun h => by cases h) (sc_one _) (by omega) (by omega) (by simp; omega) ?_; intro v3 w3 hap; have o3 := hap.1; replace bB := (bB.alloc z2 (.cells #[.int .i64 0, .int .i64 1] 24)).trans (hap.below (o2.alloc _) (by simp; omega)); clear hap; obtain ⟨L3, d3, hv3, oL3, _⟩ := own_room2 o3; subst hv3))
        have rL3 := oL3.rd
        rw [show [] ++ sc zs ++ sc [(0, 1)] = sc (zs ++ [(0, 1)]) by simp [sc]] at rL3
        refine (sheetsValid_at L3 d3 _ (zs ++ [(0, 1)]) w3 (by simp) (by omega) rL3).mono ?_
        rintro e w4 ⟨rfl, b4⟩
        rw [sheetsValid_bad]
        replace bB := via bB b4 bB.size
        go_wp2_with fail
        refine (sheetsValid_at none 0 0 [] w4 rfl (by omega) (.inl rfl)).mono ?_
        rintro e w5 ⟨rfl, b5⟩
        rw [sheetsValid_none]
        replace bB := via bB b5 bB.size
        go_wp2_with (go_at_call 22; refine (alive_any _).mono ?_; rintro e w' ⟨rfl, b2⟩)
        go_ret
        exact ⟨rfl, via bB b2 bB.size⟩
      · obtain ⟨gL, hL, _, _⟩ := oO.row (by intro e; have := sc_len zs; rw [e] at this; simp at this; omega)
        subst hL
        have rT := rL.sheets_drop 1
        have hs1 : (1 : Int) ≤ (zs.length : Int) := by omega
        have tz : (((zs.length : Nat) : Int) == 0) = false := beq_false_of_ne (by omega)
        have hvT : sheetsValid (zs.drop 1) = true := by
          match zs, hv with
          | [], hv => exact hv
          | s :: r, hv => exact sheetsValid_tail hv
        by_cases hd1 : d = 1
        · subst hd1
          go_wp2_with fail
          refine (sheetsValid_at (some ⟨gL, 0, none⟩) 0 0 (zs.drop 1) _ (by rw [List.length_drop]; omega) (by omega) (by left; rw [List.drop_of_length_le (by omega)]; rfl)).mono ?_
          rintro e w' ⟨rfl, bq⟩
          rw [hvT]
          replace b1 := via b1 bq b1.size
          replace rL := rL.up bq
          have oE := own_empty (e := 24) (size := 2) w' w.heap.size b1.size
          have bA : Below w'.heap.size w' (w'.alloc (.cells #[] 24)) := by go_grown
          have rA := rL.up bA
          have bB := via b1 bA b1.size
          go_wp2_with (at_builtin; first
            | (have oE1 := oE; clear oE; refine wpList_append_any sheetElem rfl _ _ rfl w.heap.size _ _ 0 [] rfl oE1 _ zs.length _ rfl (sc zs) (sc_len zs) rA (fun h => by simp [hn h]) (sc_one _) (by omega) (by omega) bB.size ?_; intro v2 w2 hap; have o2 := hap.1; replace bB := bB.trans (hap.below oE1 bB.size); have z2 := bB.size; clear hap)
            | (refine wpList_append_any sheetElem rfl _ _ rfl w.heap.size (w2.heap.size + 1) _ (0 + zs.length) ([] ++ sc zs) rfl (o2.alloc _) (some ⟨w2.heap.size, 0, none⟩) 1 1 rfl (sc [(0, 1)]) rfl (((Row.new w2 24 #[.int .i64 0, .int .i64 1]).rd).mono (by simp)) (fun h => by cases h) (sc_one _) (by omega) (by omega) (by simp; omega) ?_; intro v3 w3 hap; have o3 := hap.1; replace bB := (bB.alloc z2 (.cells #[.int .i64 0, .int .i64 1] 24)).trans (hap.below (o2.alloc _) (by simp; omega)); clear hap; obtain ⟨L3, d3, hv3, oL3, _⟩ := own_room2 o3; subst hv3))
          have rL3 := oL3.rd
          rw [show [] ++ sc zs ++ sc [(0, 1)] = sc (zs ++ [(0, 1)]) by simp [sc]] at rL3
          refine (sheetsValid_at L3 d3 _ (zs ++ [(0, 1)]) w3 (by simp) (by omega) rL3).mono ?_
          rintro e w4 ⟨rfl, b4⟩
          rw [sheetsValid_bad]
          replace bB := via bB b4 bB.size
          go_wp2_with fail
          refine (sheetsValid_at none 0 0 [] w4 rfl (by omega) (.inl rfl)).mono ?_
          rintro e w5 ⟨rfl, b5⟩
          rw [sheetsValid_none]
          replace bB := via bB b5 bB.size
          go_wp2_with (go_at_call 22; refine (alive_any _).mono ?_; rintro e w' ⟨rfl, b2⟩)
          go_ret
          exact ⟨rfl, via bB b2 bB.size⟩
        · go_wp2_with fail
          refine (sheetsValid_at _ _ (zs.length - 1) (zs.drop 1) _ (by simp) (by omega) rT).mono ?_
          rintro e w' ⟨rfl, bq⟩
          rw [hvT]
          replace b1 := via b1 bq b1.size
          replace rL := rL.up bq
          have oE := own_empty (e := 24) (size := 2) w' w.heap.size b1.size
          have bA : Below w'.heap.size w' (w'.alloc (.cells #[] 24)) := by go_grown
          have rA := rL.up bA
          have bB := via b1 bA b1.size
          go_wp2_with (at_builtin; first
            | (have oE1 := oE; clear oE; refine wpList_append_any sheetElem rfl _ _ rfl w.heap.size _ _ 0 [] rfl oE1 _ zs.length _ rfl (sc zs) (sc_len zs) rA (fun h => by simp [hn h]) (sc_one _) (by omega) (by omega) bB.size ?_; intro v2 w2 hap; have o2 := hap.1; replace bB := bB.trans (hap.below oE1 bB.size); have z2 := bB.size; clear hap)
            | (refine wpList_append_any sheetElem rfl _ _ rfl w.heap.size (w2.heap.size + 1) _ (0 + zs.length) ([] ++ sc zs) rfl (o2.alloc _) (some ⟨w2.heap.size, 0, none⟩) 1 1 rfl (sc [(0, 1)]) rfl (((Row.new w2 24 #[.int .i64 0, .int .i64 1]).rd).mono (by simp)) (fun h => by cases h) (sc_one _) (by omega) (by omega) (by simp; omega) ?_; intro v3 w3 hap; have o3 := hap.1; replace bB := (bB.alloc z2 (.cells #[.int .i64 0, .int .i64 1] 24)).trans (hap.below (o2.alloc _) (by simp; omega)); clear hap; obtain ⟨L3, d3, hv3, oL3, _⟩ := own_room2 o3; subst hv3))
          have rL3 := oL3.rd
          rw [show [] ++ sc zs ++ sc [(0, 1)] = sc (zs ++ [(0, 1)]) by simp [sc]] at rL3
          refine (sheetsValid_at L3 d3 _ (zs ++ [(0, 1)]) w3 (by simp) (by omega) rL3).mono ?_
          rintro e w4 ⟨rfl, b4⟩
          rw [sheetsValid_bad]
          replace bB := via bB b4 bB.size
          go_wp2_with fail
          refine (sheetsValid_at none 0 0 [] w4 rfl (by omega) (.inl rfl)).mono ?_
          rintro e w5 ⟨rfl, b5⟩
          rw [sheetsValid_none]
          replace bB := via bB b5 bB.size
          go_wp2_with (go_at_call 22; refine (alive_any _).mono ?_; rintro e w' ⟨rfl, b2⟩)
          go_ret
          exact ⟨rfl, via bB b2 bB.size⟩
namespace FnSheetsValid
set_option maxRecDepth 100000 in
theorem lifted (os : Os) (started : os.Started) (H : Type) (enc : TypeId × Value → H) :
    ReturnsInHanded {} Tryd.checked os 10 .any (fun w args => (Rows.fnSheetsValidSpec.pre enc Tryd.prog Tryd.f10 [] false w args ∧ laidMetH Tryd.prog Rows.fnSheetsValidRow.laid w) ∧ sizedMet enc Tryd.prog Tryd.f10 (OpenSpec.ofChange Rows.fnSheetsValidSpec) false w args) (Rows.fnSheetsValidSpec.post enc Tryd.prog Tryd.f10 false true false false) := by
  refine returnsInHanded_of_change_and (C := Tryd.checked) (X := fun w _ => laidMetH Tryd.prog Rows.fnSheetsValidRow.laid w) (fun _ _ _ hh h => h.of_heap hh) own started (by kernel_rfl) Tryd.func10
    (ChangeSpec.witness_shaped (enc := enc) (C := Tryd.checked) (os := os) (X := fun w _ => laidMetH Tryd.prog Rows.fnSheetsValidRow.laid w) false (World.laidAll Tryd.prog os Rows.fnSheetsValidRow.laid) #[.slice none 0 0] 8 (World.laidAll_os _ _ _)
      (World.shaped_of_ZipB (by kernel_rfl) (by kernel_rfl)) (by kernel_rfl) (by kernel_rfl) (by kernel_rfl)
      (by rw [MakeChecks.laidMetH_plain _ _ _ (by kernel_rfl)]; exact laidMet_laidAll _ (by kernel_rfl) (by kernel_rfl))) ?_
  intro W base args ds gs before hval0 hW _ _ _ _
  have hval : ∀ (j : Nat) t v, Tryd.f10.params[j]? = some t → args[j]? = some v → Value.okWide Tryd.prog W .any base t v := hval0
  have hW' := hW
  obtain ⟨p, q, hA0, hV, rfl, hfz, hnd⟩ := hW
  have hA : DataW.TrodAll enc Tryd.prog W 0 (fun _ => true) true Tryd.f10.params.toList args.toList ds p := hA0
  rw [Tryd.params10] at hA hval
  obtain ⟨v0, vs0, d0, ds0, p0, q0, hargs, rfl, rfl, h0, r0⟩ := trodAll_cons hA
  obtain ⟨rfl, rfl, rfl⟩ := trodAll_nil r0
  obtain rfl : args = #[v0] := by cases args; simp_all
  obtain ⟨rfl, rfl⟩ := trodVars_none hV
  have lt0 : ∀ x ∈ p0, x.block < W.heap.size := by obtain ⟨m, hm⟩ := h0; exact DataW.trod_lt m _ _ _ hm
  obtain ⟨A0, n0, c0, z0, rfl, rfl, k0, m0, wf0, rd0⟩ := op_ints Tryd.underlying22 Tryd.underlying5 (by kernel_rfl) (hval 0 22 v0 rfl rfl) h0
  clear hA0 hval0
  refine (w_FnSheetsValid W A0 c0 z0 k0 m0 wf0 rd0).mono fun e W' ⟨he, bel⟩ => ?_
  subst he
  exact ⟨_, rfl, _, _, _, [], _, [], hW', trodAll_mk1 (shut_bool Tryd.underlying4 _), (trodAll_cons_mk (Below.trod laidOut (by kernel_rfl) (of_decide_eq_true (by kernel_rfl)) h0 bel lt0) trodAll_mk0), rfl, bel.frame _, fun h => by cases h⟩
theorem closed : joinedFacts Tryd.prog 10 Tryd.f10 Rows.fnSheetsValidSpec Rows.fnSheetsValidRow = true := by
  unfold joinedFacts
  rw [mayEnter, liftsFinal, progMake]
  kernel_rfl
theorem over : Rows.fnSheetsValidRow.holds Tryd.pinned (OpenSpec.ofChange Rows.fnSheetsValidSpec) :=
  OpenClaim.holds_of_wide 10 Tryd.f10 rfl rfl rfl rfl rfl rfl rfl ⟨rfl, rfl, rfl, rfl, rfl⟩ rfl rfl rfl rfl rfl (by kernel_rfl) Tryd.func10 closed
    (of_decide_eq_true (by kernel_rfl)) (by unfold Func.isWrapper; first | (rw [if_pos (by decide +kernel)]; kernel_rfl) | (rw [if_neg (by decide +kernel)]; exact ⟨rfl, rfl⟩))
    (fun os started H enc _ => lifted os started H enc)
set_option maxRecDepth 100000 in
theorem carded : Rows.FnSheetsValidCardSaid :=
  Claim7.holds_tied_plain_at .later [] _ true Rows.fnSheetsValidCard.stood.harness false over (fun _ h => by cases h) (by kernel_rfl) (fun _ h => by cases h) fnSheetsValid_row_tie rfl ⟨rfl, rfl⟩ mainIs rfl
    (fun f fn hf hfn => by
      obtain rfl : f = 10 := Option.some.inj ((show Tryd.prog.funcNamed Rows.fnSheetsValidRow.func = some 10 by kernel_rfl).symm.trans hf) |>.symm
      obtain rfl : fn = Tryd.f10 := (Option.some.inj (Tryd.func10.symm.trans hfn)).symm
      exact ⟨noLooks, fun j t ht => by
        rw [Tryd.params10] at ht
        have hm : t ∈ [22] := by simpa using Array.mem_of_getElem? ht
        have hall : ([22].all fun u => !Tryd.prog.wantsStandIn u) = true := by kernel_rfl
        exact (show Tryd.prog.wantsStandIn t = false by simpa using List.all_eq_true.1 hall t hm)⟩)
    (by kernel_rfl)
theorem proved : Rows.FnSheetsValidCardSaid := carded
end FnSheetsValid
end Go.Proofs.YtcdoopccmljaoaaDoor
