/- Passes lead to what is wanted: FnRollsFor returns true for every input. No conditions. -/
import Derived.Test.YtcdoopccmljaoaaDoorSeatC
import Derived.Test.YtcdoopccmljaoaaDoorDraw2
import Derived.Test.YtcdoopccmljaoaaDoorAlive
import Derived.Test.YtcdoopccmljaoaaDoorRollPlain
namespace Go.Proofs.YtcdoopccmljaoaaDoor
open Go.ChangeShapes Go.WideShapes Go.ChangeAt Go.RowKit Go.Deep
theorem w_FnRollsFor (w : World) (A : Option Addr) (c : Nat) (bs : List Int) (hkc : bs.length ≤ c) (hmc : c ≤ maxLen) (hbs : ∀ b ∈ bs, (Lit.int .u8 b).wf = true) (hrd : Rd w w.heap.size A (bc bs)) :
    Calls Tryd.prog 12 #[.slice A bs.length c] w fun e w' => e = .returned (.bool true) ∧ Below w.heap.size w w' := by
  have hB := hide hbs
  clear hbs
  by_cases hl : 1048576 < bs.length
  · go_enter Tryd.func12, Tryd.ntmps12
    go_wp2
    go_ret
    exact ⟨rfl, Below.refl _ _⟩
  · go_enter Tryd.func12, Tryd.ntmps12
    go_wp2_with fail
    refine (drawRollsFor_any A c bs w hkc hmc hB.out hrd).mono ?_
    rintro e w1 ⟨f, d, p, rfl, hf, hd, hp, b1⟩
    clear hl hkc hmc hrd
    have hI := rollsFor_any f d p
    have hS := rollsFor_spec f d p
    have hW := fun zs (h : rollsFor f d p = some zs) => rollsFor_law h
    generalize rollsFor f d p = r at *
    have HI := hide hI
    have HS := hide hS
    have HW := hide hW
    clear hI hS hW
    go_wp2_with fail
    refine (HI.out _).mono ?_
    rintro e w2 ⟨X, x, rfl, oI, bI⟩
    replace b1 := via b1 bI b1.size
    go_wp2_with fail
    refine (HS.out _).mono ?_
    rintro e w3 ⟨Y, y, rfl, oS, bS⟩
    replace b1 := via b1 bS b1.size
    have rX := oI.rd.up bS
    have rY := oS.rd
    cases r with
    | none =>
      simp only [Option.getD_none, Option.isSome_none, List.length_nil] at *
      go_wp2_with fail
      refine (sameInts_same X Y x y [] w3 (by simp) (.inl rfl) (.inl rfl)).mono ?_
      rintro e w4 ⟨rfl, dr⟩
      replace b1 := via b1 dr b1.size
      go_wp2_with (go_at_call 22; refine (alive_any _).mono ?_; rintro e w' ⟨rfl, b2⟩)
      go_ret
      exact ⟨rfl, via b1 b2 b1.size⟩
    | some zs =>
      obtain ⟨l1, l2, l3⟩ := HW.out zs rfl
      have L1 := hide l1
      have L2 := hide l2
      clear l1 l2
      simp only [Option.getD_some, Option.isSome_some] at *
      go_wp2_with fail
      refine (sameInts_same X Y x y zs w3 (by omega) rX rY).mono ?_
      rintro e w4 ⟨rfl, dr⟩
      replace b1 := via b1 dr b1.size
      replace rX := rX.up dr
      clear rY oI oS bI bS dr
      go_wp2_with fail
      go_loop [10, 11] (fun b i => ∃ k : Nat, k ≤ zs.length ∧ i = .int .i64 k ∧ b = .int .i64 (if k = 0 then f else zs.getD (k - 1) 0)) (fun _ i => zs.length - (intOf i).toNat)
      case atStart => exact ⟨0, Nat.zero_le _, rfl, by simp⟩
      case round =>
        obtain ⟨k, hk, rfl, rfl⟩ := hrel
        by_cases hlt : k < zs.length
        · obtain ⟨b, o, rfl, _, hc⟩ := rX.int hlt
          have hg := desc_get L2.out hlt
          have hn : (if k + 1 = 0 then f else zs.getD (k + 1 - 1) 0) = zs[k] := by simp [List.getD, List.getElem?_eq_getElem hlt]
          have HN := hide hn
          clear hn
          generalize (if k = 0 then f else zs.getD (k - 1) 0) = B at *
          go_wp2
          go_round
          case rel => exact ⟨k + 1, by omega, by go_num, by rw [HN.out]⟩
          case measure => simp [intOf]; omega
        · generalize (if k = 0 then f else zs.getD (k - 1) 0) = B at *
          go_wp2_with (go_at_call 51; refine (rollsOk_any _ _ _ X _ zs _ (by omega) rX).mono ?_; rintro e w' ⟨rfl, rfl⟩)
          go_ret
          exact ⟨ret_bool L1.out, b1⟩
namespace FnRollsFor
set_option maxRecDepth 100000 in
theorem lifted (os : Os) (started : os.Started) (H : Type) (enc : TypeId × Value → H) :
    ReturnsInHanded {} Tryd.checked os 12 .any (fun w args => (Rows.fnRollsForSpec.pre enc Tryd.prog Tryd.f12 [] false w args ∧ laidMetH Tryd.prog Rows.fnRollsForRow.laid w) ∧ sizedMet enc Tryd.prog Tryd.f12 (OpenSpec.ofChange Rows.fnRollsForSpec) false w args) (Rows.fnRollsForSpec.post enc Tryd.prog Tryd.f12 false true false false) := by
  refine returnsInHanded_of_change_and (C := Tryd.checked) (X := fun w _ => laidMetH Tryd.prog Rows.fnRollsForRow.laid w) (fun _ _ _ hh h => h.of_heap hh) own started (by kernel_rfl) Tryd.func12
    (ChangeSpec.witness_shaped (enc := enc) (C := Tryd.checked) (os := os) (X := fun w _ => laidMetH Tryd.prog Rows.fnRollsForRow.laid w) false (World.laidAll Tryd.prog os Rows.fnRollsForRow.laid) #[.slice none 0 0] 8 (World.laidAll_os _ _ _)
      (World.shaped_of_ZipB (by kernel_rfl) (by kernel_rfl)) (by kernel_rfl) (by kernel_rfl) (by kernel_rfl)
      (by rw [MakeChecks.laidMetH_plain _ _ _ (by kernel_rfl)]; exact laidMet_laidAll _ (by kernel_rfl) (by kernel_rfl))) ?_
  intro W base args ds gs before hval0 hW _ _ _ _
  have hval : ∀ (j : Nat) t v, Tryd.f12.params[j]? = some t → args[j]? = some v → Value.okWide Tryd.prog W .any base t v := hval0
  have hW' := hW
  obtain ⟨p, q, hA0, hV, rfl, hfz, hnd⟩ := hW
  have hA : DataW.TrodAll enc Tryd.prog W 0 (fun _ => true) true Tryd.f12.params.toList args.toList ds p := hA0
  rw [Tryd.params12] at hA hval
  obtain ⟨v0, vs0, d0, ds0, p0, q0, hargs, rfl, rfl, h0, r0⟩ := trodAll_cons hA
  obtain ⟨rfl, rfl, rfl⟩ := trodAll_nil r0
  obtain rfl : args = #[v0] := by cases args; simp_all
  obtain ⟨rfl, rfl⟩ := trodVars_none hV
  have lt0 : ∀ x ∈ p0, x.block < W.heap.size := by obtain ⟨m, hm⟩ := h0; exact DataW.trod_lt m _ _ _ hm
  obtain ⟨A0, n0, c0, z0, rfl, rfl, k0, m0, wf0, rd0⟩ := op_ints Tryd.underlying22 Tryd.underlying5 (by kernel_rfl) (hval 0 22 v0 rfl rfl) h0
  clear hA0 hval0
  refine (w_FnRollsFor W A0 c0 z0 k0 m0 wf0 rd0).mono fun e W' ⟨he, bel⟩ => ?_
  subst he
  exact ⟨_, rfl, _, _, _, [], _, [], hW', trodAll_mk1 (shut_bool Tryd.underlying4 _), (trodAll_cons_mk (Below.trod laidOut (by kernel_rfl) (of_decide_eq_true (by kernel_rfl)) h0 bel lt0) trodAll_mk0), rfl, bel.frame _, fun h => by cases h⟩
theorem closed : joinedFacts Tryd.prog 12 Tryd.f12 Rows.fnRollsForSpec Rows.fnRollsForRow = true := by
  unfold joinedFacts
  rw [mayEnter, liftsFinal, progMake]
  kernel_rfl
theorem over : Rows.fnRollsForRow.holds Tryd.pinned (OpenSpec.ofChange Rows.fnRollsForSpec) :=
  OpenClaim.holds_of_wide 12 Tryd.f12 rfl rfl rfl rfl rfl rfl rfl ⟨rfl, rfl, rfl, rfl, rfl⟩ rfl rfl rfl rfl rfl (by kernel_rfl) Tryd.func12 closed
    (of_decide_eq_true (by kernel_rfl)) (by unfold Func.isWrapper; first | (rw [if_pos (by decide +kernel)]; kernel_rfl) | (rw [if_neg (by decide +kernel)]; exact ⟨rfl, rfl⟩))
    (fun os started H enc _ => lifted os started H enc)
set_option maxRecDepth 100000 in
theorem carded : Rows.FnRollsForCardSaid :=
  Claim7.holds_tied_plain_at .later [] _ true Rows.fnRollsForCard.stood.harness false over (fun _ h => by cases h) (by kernel_rfl) (fun _ h => by cases h) fnRollsFor_row_tie rfl ⟨rfl, rfl⟩ mainIs rfl
    (fun f fn hf hfn => by
      obtain rfl : f = 12 := Option.some.inj ((show Tryd.prog.funcNamed Rows.fnRollsForRow.func = some 12 by kernel_rfl).symm.trans hf) |>.symm
      obtain rfl : fn = Tryd.f12 := (Option.some.inj (Tryd.func12.symm.trans hfn)).symm
      exact ⟨noLooks, fun j t ht => by
        rw [Tryd.params12] at ht
        have hm : t ∈ [22] := by simpa using Array.mem_of_getElem? ht
        have hall : ([22].all fun u => !Tryd.prog.wantsStandIn u) = true := by kernel_rfl
        exact (show Tryd.prog.wantsStandIn t = false by simpa using List.all_eq_true.1 hall t hm)⟩)
    (by kernel_rfl)
theorem proved : Rows.FnRollsForCardSaid := carded
end FnRollsFor
end Go.Proofs.YtcdoopccmljaoaaDoor
