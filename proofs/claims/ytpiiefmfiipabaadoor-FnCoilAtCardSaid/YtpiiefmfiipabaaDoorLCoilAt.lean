/- Coils are where they are found: FnCoilAt returns true for every input. No conditions. -/
import Derived.Test.YtpiiefmfiipabaaDoorSeatC
import Derived.Test.YtpiiefmfiipabaaDoorDrawT
import Derived.Test.YtpiiefmfiipabaaDoorAlive
import Derived.Test.YtpiiefmfiipabaaDoorLawKit
import Derived.Test.YtpiiefmfiipabaaDoorLawsP
import Derived.Test.YtpiiefmfiipabaaDoorCoilAt
import Derived.Test.YtpiiefmfiipabaaDoorCoil
import Derived.Test.YtpiiefmfiipabaaDoorCoilDig
namespace Go.Proofs.YtpiiefmfiipabaaDoor
open Go.ChangeShapes Go.WideShapes Go.ChangeAt Go.RowKit Go.Deep
theorem coilAt_law {p : PL} {t : Bool} {z : Int} (h : ¬ coilAt p t z < 1) : findV p (coilAt p t z) = (t, z) ∧ (coilFind p (coilAt p t z)).isSome = true := by
  obtain ⟨V, h0, hI, he⟩ := coilAt_pos (p := p) (top := t) (place := z) (by omega)
  have hne : cl p (spt t z) ≠ 0 := by omega
  have hf := findV_at V hne
  refine ⟨?_, find_isSome.mpr ⟨V, by omega, spt t z, he.symm⟩⟩
  rw [he, hf]
  simp [spt]; omega
set_option linter.unusedSimpArgs false in
set_option linter.unusedVariables false in
set_option maxHeartbeats 8000000 in
set_option maxRecDepth 100000 in
theorem w_FnCoilAt (w : World) (A : Option Addr) (c : Nat) (bs : List Int) (hkc : bs.length ≤ c) (hmc : c ≤ maxLen) (hbs : ∀ b ∈ bs, (Lit.int .u8 b).wf = true) (hrd : Rd w w.heap.size A (bc bs)) :
    Calls Tryd.prog 4 #[.slice A bs.length c] w fun e w' => e = .returned (.bool true) ∧ Below w.heap.size w w' := by
  have hB := hide hbs
  clear hbs
  by_cases hl : 1048576 < bs.length
  · go_enter Tryd.func4, Tryd.ntmps4
    go_wp2
    go_ret
    exact ⟨rfl, Below.refl _ _⟩
  · go_enter Tryd.func4, Tryd.ntmps4
    go_wp2_with fail
    refine (drawCoilAt_any A c bs w hkc hmc hB.out hrd).mono ?_
    rintro e w1 ⟨L, d, L', d', p, t, z, rfl, h1, h2, hz, oL, oL', b1⟩
    clear hl hkc hmc hrd
    have rp : RdP w1 w1.heap.size L L' p := ⟨oL.rd, oL'.rd⟩
    have hp := hide (show small p from ⟨by omega, by omega⟩)
    go_wp2_with fail
    obtain ⟨b0, k0, k1, k2, k3, hz0⟩ := box_two w1 25 31 (.slice L p.1.length d) (.slice L' p.2.length d') (.bool t) (.int .i64 z) _ rfl
    have rp0 := rp.up b0
    have bb := via b1 b0 b1.size
    generalize (w1.alloc (.cells #[.slice L p.1.length d, .slice L' p.2.length d'] 25)).alloc (.cells #[.bool t, .int .i64 z] 31) = w0 at *
    have K0 := Ext.old k0
    have K1 := Ext.old k1
    have K2 := Ext.old k2
    have K3 := Ext.old k3
    clear hz0 k0 k1 k2 k3
    generalize w1.heap.size = gB at *
    have RP := hide (fun x : Ext w0 => rp0.up x.below)
    obtain ⟨x0, hx0⟩ := ext_self w0
    rw [← hx0]
    clear hx0
    refine (coilAt_any L L' d d' p t z _ hp.out (RP.out _)).mono ?_
    rintro e w' ⟨rfl, b⟩
    obtain ⟨x1, rfl⟩ := ext_next b
    clear b
    go_wp2_with fail
    refine (coilAt_spec L L' d d' p t z _ hp.out (RP.out _)).mono ?_
    rintro e w' ⟨rfl, b⟩
    obtain ⟨x, rfl⟩ := ext_next b
    clear b
    have tt := bne_int (coilAt p t z)
    have hge := (coilAt_ge p t z).1
    by_cases hv : coilAt p t z < 1
    · go_wp2_with (go_at_call 20; refine (alive_any _).mono ?_; rintro e w' ⟨rfl, b2⟩)
      go_ret
      have bx := via bb (Ext.below x) bb.size
      exact ⟨rfl, via bx b2 bx.size⟩
    · obtain ⟨e1, e2⟩ := coilAt_law hv
      generalize coilAt p t z = id at *
      have hv' : decide (id < 1) = false := decide_eq_false hv
      go_wp2_with fail
      refine (coilFind_any L L' d d' p id _ hp.out (RP.out _)).mono ?_
      unfold SpotOk
      rw [e1, e2]
      rintro e w' ⟨rfl, b⟩
      obtain ⟨x2, rfl⟩ := ext_next b
      clear b
      have m2 := cell_in ((Ext.below x2).alloc (Ext.below x2).size (.cells #[.bool t, .int .i64 z] 31)) K2
      have m3 := cell_in ((Ext.below x2).alloc (Ext.below x2).size (.cells #[.bool t, .int .i64 z] 31)) K3
      obtain ⟨m4, m5, _, _⟩ := two_cells (Row.new x2.val 31 #[.bool t, .int .i64 z])
      have b2 : Below w.heap.size w (x2.val.alloc (.cells #[.bool t, .int .i64 z] 31)) := via bb ((Ext.below x2).alloc (Ext.below x2).size (.cells #[.bool t, .int .i64 z] 31)) bb.size
      go_wp2
      go_ret
      exact ⟨rfl, b2⟩
namespace FnCoilAt
set_option maxRecDepth 100000 in
theorem lifted (os : Os) (started : os.Started) (H : Type) (enc : TypeId × Value → H) :
    ReturnsInHanded {} Tryd.checked os 4 .any (fun w args => (Rows.fnCoilAtSpec.pre enc Tryd.prog Tryd.f4 [] false w args ∧ laidMetH Tryd.prog Rows.fnCoilAtRow.laid w) ∧ sizedMet enc Tryd.prog Tryd.f4 (OpenSpec.ofChange Rows.fnCoilAtSpec) false w args) (Rows.fnCoilAtSpec.post enc Tryd.prog Tryd.f4 false true false false) := by
  refine returnsInHanded_of_change_and (C := Tryd.checked) (X := fun w _ => laidMetH Tryd.prog Rows.fnCoilAtRow.laid w) (fun _ _ _ hh h => h.of_heap hh) own started (by kernel_rfl) Tryd.func4
    (ChangeSpec.witness_shaped (enc := enc) (C := Tryd.checked) (os := os) (X := fun w _ => laidMetH Tryd.prog Rows.fnCoilAtRow.laid w) false (World.laidAll Tryd.prog os Rows.fnCoilAtRow.laid) #[.slice none 0 0] 8 (World.laidAll_os _ _ _)
      (World.shaped_of_ZipB (by kernel_rfl) (by kernel_rfl)) (by kernel_rfl) (by kernel_rfl) (by kernel_rfl)
      (by rw [MakeChecks.laidMetH_plain _ _ _ (by kernel_rfl)]; exact laidMet_laidAll _ (by kernel_rfl) (by kernel_rfl))) ?_
  intro W base args ds gs before hval0 hW _ _ _ _
  have hval : ∀ (j : Nat) t v, Tryd.f4.params[j]? = some t → args[j]? = some v → Value.okWide Tryd.prog W .any base t v := hval0
  have hW' := hW
  obtain ⟨p, q, hA0, hV, rfl, hfz, hnd⟩ := hW
  have hA : DataW.TrodAll enc Tryd.prog W 0 (fun _ => true) true Tryd.f4.params.toList args.toList ds p := hA0
  rw [Tryd.params4] at hA hval
  obtain ⟨v0, vs0, d0, ds0, p0, q0, hargs, rfl, rfl, h0, r0⟩ := trodAll_cons hA
  obtain ⟨rfl, rfl, rfl⟩ := trodAll_nil r0
  obtain rfl : args = #[v0] := by cases args; simp_all
  obtain ⟨rfl, rfl⟩ := trodVars_none hV
  have lt0 : ∀ x ∈ p0, x.block < W.heap.size := by obtain ⟨m, hm⟩ := h0; exact DataW.trod_lt m _ _ _ hm
  obtain ⟨A0, n0, c0, z0, rfl, rfl, k0, m0, wf0, rd0⟩ := op_ints Tryd.underlying22 Tryd.underlying5 (by kernel_rfl) (hval 0 22 v0 rfl rfl) h0
  clear hA0 hval0
  refine (w_FnCoilAt W A0 c0 z0 k0 m0 wf0 rd0).mono fun e W' ⟨he, bel⟩ => ?_
  subst he
  exact ⟨_, rfl, _, _, _, [], _, [], hW', trodAll_mk1 (shut_bool Tryd.underlying4 _), (trodAll_cons_mk (Below.trod laidOut (by kernel_rfl) (of_decide_eq_true (by kernel_rfl)) h0 bel lt0) trodAll_mk0), rfl, bel.frame _, fun h => by cases h⟩
theorem closed : joinedFacts Tryd.prog 4 Tryd.f4 Rows.fnCoilAtSpec Rows.fnCoilAtRow = true := by
  unfold joinedFacts
  rw [mayEnter, liftsFinal, progMake]
  kernel_rfl
theorem over : Rows.fnCoilAtRow.holds Tryd.pinned (OpenSpec.ofChange Rows.fnCoilAtSpec) :=
  OpenClaim.holds_of_wide 4 Tryd.f4 rfl rfl rfl rfl rfl rfl rfl ⟨rfl, rfl, rfl, rfl, rfl⟩ rfl rfl rfl rfl rfl (by kernel_rfl) Tryd.func4 closed
    (of_decide_eq_true (by kernel_rfl)) (by unfold Func.isWrapper; first | (rw [if_pos (by decide +kernel)]; kernel_rfl) | (rw [if_neg (by decide +kernel)]; exact ⟨rfl, rfl⟩))
    (fun os started H enc _ => lifted os started H enc)
set_option maxRecDepth 100000 in
theorem carded : Rows.FnCoilAtCardSaid :=
  Claim7.holds_tied_plain_at .later [] _ true Rows.fnCoilAtCard.stood.harness false over (fun _ h => by cases h) (by kernel_rfl) (fun _ h => by cases h) fnCoilAt_row_tie rfl ⟨rfl, rfl⟩ mainIs rfl
    (fun f fn hf hfn => by
      obtain rfl : f = 4 := Option.some.inj ((show Tryd.prog.funcNamed Rows.fnCoilAtRow.func = some 4 by kernel_rfl).symm.trans hf) |>.symm
      obtain rfl : fn = Tryd.f4 := (Option.some.inj (Tryd.func4.symm.trans hfn)).symm
      exact ⟨noLooks, fun j t ht => by
        rw [Tryd.params4] at ht
        have hm : t ∈ [22] := by simpa using Array.mem_of_getElem? ht
        have hall : ([22].all fun u => !Tryd.prog.wantsStandIn u) = true := by kernel_rfl
        exact (show Tryd.prog.wantsStandIn t = false by simpa using List.all_eq_true.1 hall t hm)⟩)
    (by kernel_rfl)
theorem proved : Rows.FnCoilAtCardSaid := carded
end FnCoilAt
end Go.Proofs.YtpiiefmfiipabaaDoor
