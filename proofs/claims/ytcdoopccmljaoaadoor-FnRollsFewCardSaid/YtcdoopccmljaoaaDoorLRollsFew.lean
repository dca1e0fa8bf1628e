/- Thicker is never easier: FnRollsFew returns true for every input. No conditions. -/
import Derived.Test.YtcdoopccmljaoaaDoorSeatC
import Derived.Test.YtcdoopccmljaoaaDoorDraw2
import Derived.Test.YtcdoopccmljaoaaDoorAlive
import Derived.Test.YtcdoopccmljaoaaDoorRollPlain
namespace Go.Proofs.YtcdoopccmljaoaaDoor
open Go.ChangeShapes Go.WideShapes Go.ChangeAt Go.RowKit Go.Deep
theorem w_FnRollsFew (w : World) (A : Option Addr) (c : Nat) (bs : List Int) (hkc : bs.length ≤ c) (hmc : c ≤ maxLen) (hbs : ∀ b ∈ bs, (Lit.int .u8 b).wf = true) (hrd : Rd w w.heap.size A (bc bs)) :
    Calls Tryd.prog 11 #[.slice A bs.length c] w fun e w' => e = .returned (.bool true) ∧ Below w.heap.size w w' := by
  have hB := hide hbs
  clear hbs
  by_cases hl : 1048576 < bs.length
  · go_enter Tryd.func11, Tryd.ntmps11
    go_wp2
    go_ret
    exact ⟨rfl, Below.refl _ _⟩
  · go_enter Tryd.func11, Tryd.ntmps11
    go_wp2_with fail
    refine (drawRollsFew_any A c bs w hkc hmc hB.out hrd).mono ?_
    rintro e w1 ⟨f, d, p, rfl, hf, hd, hp, b1⟩
    clear hl hkc hmc hrd
    by_cases hx : rollsFew f d p < 0
    · have e1 := rollsFew_neg hx
      go_wp2_with (first | (go_at_call 45; refine (rollsFew_any _ _ _ _).mono ?_; rintro e w' ⟨rfl, bI⟩; replace b1 := via b1 bI b1.size; clear bI) | (go_at_call 46; refine (rollsFew_spec _ _ _ _).mono ?_; rintro e w' ⟨rfl, bS⟩; replace b1 := via b1 bS b1.size; clear bS) | (go_at_call 22; refine (alive_any _).mono ?_; rintro e w' ⟨rfl, b2⟩))
      go_ret
      exact ⟨rfl, via b1 b2 b1.size⟩
    · obtain ⟨p1, p2, p3, p4, p5⟩ := rollsFew_law (f := f) (wd := d) (p := p) (by omega)
      rcases Decidable.em (f = d) with rfl | hne
      · have h0 := p3.2 rfl
        clear p1 p2 p3 hx
        go_wp2_with (first | (go_at_call 46; refine (rollsFew_spec _ _ _ _).mono ?_; rintro e w' ⟨rfl, bS⟩; replace b1 := via b1 bS b1.size; clear bS) | (go_at_call 45; refine (rollsFew_any _ _ _ _).mono ?_; rintro e w' ⟨rfl, bI⟩; replace b1 := via b1 bI b1.size; clear bI) | (go_at_call 22; refine (alive_any _).mono ?_; rintro e w' ⟨rfl, b2⟩))
        go_ret
        exact ⟨rfl, b1⟩
      · have hm : min (d + 1) f = d + 1 := by omega
        rw [hm] at p1 p2
        clear hm
        have hz : ¬ rollsFew f d p = 0 := fun e => hne (p3.1 e)
        generalize hX : rollsFew f d p = x at *
        generalize hY : rollsFew f (d + 1) p = y at *
        have t1 := beq_false_of_ne hne
        have t2 := beq_false_of_ne hz
        have l1 : d + 1 ≤ f := by omega
        clear p3 hne hz hx
        go_wp2_with (first | (go_at_call 46; refine (rollsFew_spec _ _ _ _).mono ?_; rintro e w' ⟨rfl, bS⟩; replace b1 := via b1 bS b1.size; clear bS) | (go_at_call 45; refine (rollsFew_any _ _ _ _).mono ?_; rintro e w' ⟨rfl, bI⟩; replace b1 := via b1 bI b1.size; clear bI) | (go_at_call 22; refine (alive_any _).mono ?_; rintro e w' ⟨rfl, b2⟩))
        go_ret
        exact ⟨rfl, b1⟩
namespace FnRollsFew
set_option maxRecDepth 100000 in
theorem lifted (os : Os) (started : os.Started) (H : Type) (enc : TypeId × Value → H) :
    ReturnsInHanded {} Tryd.checked os 11 .any (fun w args => (Rows.fnRollsFewSpec.pre enc Tryd.prog Tryd.f11 [] false w args ∧ laidMetH Tryd.prog Rows.fnRollsFewRow.laid w) ∧ sizedMet enc Tryd.prog Tryd.f11 (OpenSpec.ofChange Rows.fnRollsFewSpec) false w args) (Rows.fnRollsFewSpec.post enc Tryd.prog Tryd.f11 false true false false) := by
  refine returnsInHanded_of_change_and (C := Tryd.checked) (X := fun w _ => laidMetH Tryd.prog Rows.fnRollsFewRow.laid w) (fun _ _ _ hh h => h.of_heap hh) own started (by kernel_rfl) Tryd.func11
    (ChangeSpec.witness_shaped (enc := enc) (C := Tryd.checked) (os := os) (X := fun w _ => laidMetH Tryd.prog Rows.fnRollsFewRow.laid w) false (World.laidAll Tryd.prog os Rows.fnRollsFewRow.laid) #[.slice none 0 0] 8 (World.laidAll_os _ _ _)
      (World.shaped_of_ZipB (by kernel_rfl) (by kernel_rfl)) (by kernel_rfl) (by kernel_rfl) (by kernel_rfl)
      (by rw [MakeChecks.laidMetH_plain _ _ _ (by kernel_rfl)]; exact laidMet_laidAll _ (by kernel_rfl) (by kernel_rfl))) ?_
  intro W base args ds gs before hval0 hW _ _ _ _
  have hval : ∀ (j : Nat) t v, Tryd.f11.params[j]? = some t → args[j]? = some v → Value.okWide Tryd.prog W .any base t v := hval0
  have hW' := hW
  obtain ⟨p, q, hA0, hV, rfl, hfz, hnd⟩ := hW
  have hA : DataW.TrodAll enc Tryd.prog W 0 (fun _ => true) true Tryd.f11.params.toList args.toList ds p := hA0
  rw [Tryd.params11] at hA hval
  obtain ⟨v0, vs0, d0, ds0, p0, q0, hargs, rfl, rfl, h0, r0⟩ := trodAll_cons hA
  obtain ⟨rfl, rfl, rfl⟩ := trodAll_nil r0
  obtain rfl : args = #[v0] := by cases args; simp_all
  obtain ⟨rfl, rfl⟩ := trodVars_none hV
  have lt0 : ∀ x ∈ p0, x.block < W.heap.size := by obtain ⟨m, hm⟩ := h0; exact DataW.trod_lt m _ _ _ hm
  obtain ⟨A0, n0, c0, z0, rfl, rfl, k0, m0, wf0, rd0⟩ := op_ints Tryd.underlying22 Tryd.underlying5 (by kernel_rfl) (hval 0 22 v0 rfl rfl) h0
  clear hA0 hval0
  refine (w_FnRollsFew W A0 c0 z0 k0 m0 wf0 rd0).mono fun e W' ⟨he, bel⟩ => ?_
  subst he
  exact ⟨_, rfl, _, _, _, [], _, [], hW', trodAll_mk1 (shut_bool Tryd.underlying4 _), (trodAll_cons_mk (Below.trod laidOut (by kernel_rfl) (of_decide_eq_true (by kernel_rfl)) h0 bel lt0) trodAll_mk0), rfl, bel.frame _, fun h => by cases h⟩
theorem closed : joinedFacts Tryd.prog 11 Tryd.f11 Rows.fnRollsFewSpec Rows.fnRollsFewRow = true := by
  unfold joinedFacts
  rw [mayEnter, liftsFinal, progMake]
  kernel_rfl
theorem over : Rows.fnRollsFewRow.holds Tryd.pinned (OpenSpec.ofChange Rows.fnRollsFewSpec) :=
  OpenClaim.holds_of_wide 11 Tryd.f11 rfl rfl rfl rfl rfl rfl rfl ⟨rfl, rfl, rfl, rfl, rfl⟩ rfl rfl rfl rfl rfl (by kernel_rfl) Tryd.func11 closed
    (of_decide_eq_true (by kernel_rfl)) (by unfold Func.isWrapper; first | (rw [if_pos (by decide +kernel)]; kernel_rfl) | (rw [if_neg (by decide +kernel)]; exact ⟨rfl, rfl⟩))
    (fun os started H enc _ => lifted os started H enc)
set_option maxRecDepth 100000 in
theorem carded : Rows.FnRollsFewCardSaid :=
  Claim7.holds_tied_plain_at .later [] _ true Rows.fnRollsFewCard.stood.harness false over (fun _ h => by cases h) (by kernel_rfl) (fun _ h => by cases h) fnRollsFew_row_tie rfl ⟨rfl, rfl⟩ mainIs rfl
    (fun f fn hf hfn => by
      obtain rfl : f = 11 := Option.some.inj ((show Tryd.prog.funcNamed Rows.fnRollsFewRow.func = some 11 by kernel_rfl).symm.trans hf) |>.symm
      obtain rfl : fn = Tryd.f11 := (Option.some.inj (Tryd.func11.symm.trans hfn)).symm
      exact ⟨noLooks, fun j t ht => by
        rw [Tryd.params11] at ht
        have hm : t ∈ [22] := by simpa using Array.mem_of_getElem? ht
        have hall : ([22].all fun u => !Tryd.prog.wantsStandIn u) = true := by kernel_rfl
        exact (show Tryd.prog.wantsStandIn t = false by simpa using List.all_eq_true.1 hall t hm)⟩)
    (by kernel_rfl)
theorem proved : Rows.FnRollsFewCardSaid := carded
end FnRollsFew
end Go.Proofs.YtcdoopccmljaoaaDoor
