/- The best way to share is one: FnSplitBest returns true for every input. No conditions. -/
import Derived.Test.YtcdoopccmljaoaaDoorSeatC
import Derived.Test.YtcdoopccmljaoaaDoorDrawD
import Derived.Test.YtcdoopccmljaoaaDoorAlive
namespace Go.Proofs.YtcdoopccmljaoaaDoor
open Go.ChangeShapes Go.WideShapes Go.ChangeAt Go.RowKit Go.Deep
theorem splitN_pos {R : Nat} {z : Int} {zs : List (Int × Int)} (hv : chargesValid zs = true) (hf : furnaceValid (R : Int) z = true) (s : Nat) : 0 ≤ splitN (passEnd R z) zs s := by
  obtain ⟨⟨h1, _⟩, h2⟩ := furnace_at hf
  have g := fun b => charges_at (charges_set hv s b)
  have e1 := (passEnd_bd (R := R) (z := z) (by omega) h2 (g false).1 (g false).2).1
  unfold splitN
  omega
theorem split_facts {R : Nat} {z : Int} {zs : List (Int × Int)} (hv : chargesValid zs = true) (hf : furnaceValid (R : Int) z = true) :
    ∃ m : Nat, splitBest zs (R : Int) z = (m : Int) ∧ m < 2 ^ zs.length ∧ ((zs.length = 0 ∧ m = 0) ∨ 2 * m < 2 ^ zs.length) ∧ 0 ≤ splitN (passEnd R z) zs m ∧ splitN (passEnd R z) zs m ≤ passEnd R z zs := by
  obtain ⟨⟨h1, _⟩, h2⟩ := furnace_at hf
  obtain ⟨g1, g2⟩ := charges_at hv
  have e1 := (passEnd_bd (R := R) (z := z) (by omega) h2 g1 g2).1
  exact ⟨bestN (passEnd R z) zs, by rw [split_yes hv hf]; rfl, bestN_lt _ _, bestN_half _ _, splitN_pos hv hf _, bestN_end _ _ rfl e1⟩
set_option linter.unusedSimpArgs false in
set_option linter.unusedVariables false in
set_option maxHeartbeats 4000000 in
set_option maxRecDepth 100000 in
theorem w_FnSplitBest (w : World) (A : Option Addr) (c : Nat) (bs : List Int) (hkc : bs.length ≤ c) (hmc : c ≤ maxLen) (hbs : ∀ b ∈ bs, (Lit.int .u8 b).wf = true) (hrd : Rd w w.heap.size A (bc bs)) :
    Calls Tryd.prog 18 #[.slice A bs.length c] w fun e w' => e = .returned (.bool true) ∧ Below w.heap.size w w' := by
  have hB := hide hbs
  clear hbs
  by_cases hl : 1048576 < bs.length
  · go_enter Tryd.func18, Tryd.ntmps18
    go_wp2
    go_ret
    exact ⟨rfl, Below.refl _ _⟩
  · go_enter Tryd.func18, Tryd.ntmps18
    go_wp2_with fail
    refine (drawSplitBest_any A c bs w hkc hmc hB.out hrd).mono ?_
    rintro e w1 ⟨L, d, zs, a, z, rfl, hl11, rL, b1⟩
    clear hl hkc hmc hrd
    have k := pcells (Row.new w1 65 #[.int .i64 a, .int .i64 z])
    have b0 : Below w1.heap.size w1 (w1.alloc (.cells #[.int .i64 a, .int .i64 z] 65)) := by go_grown
    have rL := rL.up b0
    have bb := via b1 b0 b1.size
    go_wp2_with fail
    generalize w1.alloc (.cells #[.int .i64 a, .int .i64 z] 65) = w0 at *
    have K0 := Ext.old k.1
    have K1 := Ext.old k.2.1
    clear k b0 b1
    obtain ⟨x0, hx0⟩ := ext_self w0
    rw [← hx0]
    clear hx0
    have HN := hide (fun h => split_no (zs := zs) (a := a) (z := z) h)
    have HI := hide (fun (x : Ext w0) => splitBest_any L d zs a z x.val (by omega) (rL.up x.below))
    have HS := hide (fun (x : Ext w0) => splitBest_spec L d zs a z x.val (by omega) (rL.up x.below))
    cases hok : (chargesValid zs && furnaceValid a z)
    · have hno : splitBest zs a z = -1 := by unfold splitBest; rw [hok]; rfl
      rw [hno] at HI HS
      refine (HI.out x0).mono ?_
      rintro e w' ⟨rfl, b⟩
      obtain ⟨y1, rfl⟩ := ext_next b
      clear b
      go_wp2_with fail
      refine (HS.out y1).mono ?_
      rintro e w' ⟨rfl, b⟩
      obtain ⟨y2, rfl⟩ := ext_next b
      clear b
      go_wp2_with (go_at_call 22; refine (alive_any _).mono ?_; rintro e w' ⟨rfl, b2⟩)
      go_ret
      have bx := via bb (Ext.below y2) bb.size
      exact ⟨rfl, via bx b2 bx.size⟩
    · obtain ⟨hv, hf⟩ := Bool.and_eq_true_iff.1 hok
      obtain ⟨⟨a1, a8⟩, _⟩ := furnace_at hf
      obtain ⟨hl8, _⟩ := charges_at hv
      obtain ⟨R, rfl⟩ : ∃ R : Nat, a = (R : Int) := ⟨a.toNat, by omega⟩
      obtain ⟨m, hm, hmlt, hhalf, hx0, hxe⟩ := split_facts hv hf
      rw [hm] at HI HS
      have HE := hide (fun (x : Ext w0) => splitEnd_any L d zs R m z x.val hv hf hmlt (rL.up x.below))
      have HP := hide (fun (x : Ext w0) => passEnd_any L d zs R z x.val hv hf (rL.up x.below))
      obtain ⟨N, hN⟩ : ∃ N, N = 2 ^ zs.length := ⟨_, rfl⟩
      have hn256 : N ≤ 256 := by rw [hN]; exact Nat.le_trans (Nat.pow_le_pow_right (by omega) hl8) (by decide)
      have e2 : (2 : Int) ^ zs.length = (N : Int) := by rw [hN]; push_cast; rfl
      rw [← hN] at hmlt hhalf
      have hm0 : zs.length = 0 → m = 0 := fun h => by rw [h] at hN; simp at hN; omega
      clear hok hm hN hv hf a1 a8
      generalize splitN (passEnd R z) zs m = u at *
      generalize passEnd R z zs = v at *
      have i0 : decide ((m : Int) < 0) = false := decide_eq_false (by omega)
      have i1 : decide (0 ≤ u) = true := decide_eq_true hx0
      have i2 : decide (u ≤ v) = true := decide_eq_true hxe
      have hxe := hide hxe
      refine (HI.out x0).mono ?_
      rintro e w' ⟨rfl, b⟩
      obtain ⟨y1, rfl⟩ := ext_next b
      clear b
      go_wp2_with fail
      refine (HS.out y1).mono ?_
      rintro e w' ⟨rfl, b⟩
      obtain ⟨y2, rfl⟩ := ext_next b
      clear b
      go_wp2_with fail
      refine (HE.out y2).mono ?_
      rintro e w' ⟨rfl, b⟩
      obtain ⟨y3, rfl⟩ := ext_next b
      clear b
      by_cases h0 : zs.length = 0
      · obtain rfl := hm0 h0
        have t1 : ((zs.length : Int) == 0) = true := by rw [h0]; rfl
        clear h0 hm0 hhalf
        go_wp2_with (go_at_call 72; refine (HP.out y3).mono ?_; rintro e w' ⟨rfl, b⟩)
        go_ret
        have bx := via bb (Ext.below y3) bb.size
        exact ⟨rfl, via bx b bx.size⟩
      · have t1 : ((zs.length : Int) == 0) = false := beq_false_of_ne (by omega)
        have t2 : 2 * m < N := by omega
        have t3 : decide (2 * (m : Int) < (N : Int)) = true := decide_eq_true (by omega)
        clear h0 hm0 hhalf
        go_wp2_with (go_at_call 72; refine (HP.out y3).mono ?_; rintro e w' ⟨rfl, b⟩)
        go_ret
        have bx := via bb (Ext.below y3) bb.size
        exact ⟨rfl, via bx b bx.size⟩
namespace FnSplitBest
set_option maxRecDepth 100000 in
theorem lifted (os : Os) (started : os.Started) (H : Type) (enc : TypeId × Value → H) :
    ReturnsInHanded {} Tryd.checked os 18 .any (fun w args => (Rows.fnSplitBestSpec.pre enc Tryd.prog Tryd.f18 [] false w args ∧ laidMetH Tryd.prog Rows.fnSplitBestRow.laid w) ∧ sizedMet enc Tryd.prog Tryd.f18 (OpenSpec.ofChange Rows.fnSplitBestSpec) false w args) (Rows.fnSplitBestSpec.post enc Tryd.prog Tryd.f18 false true false false) := by
  refine returnsInHanded_of_change_and (C := Tryd.checked) (X := fun w _ => laidMetH Tryd.prog Rows.fnSplitBestRow.laid w) (fun _ _ _ hh h => h.of_heap hh) own started (by kernel_rfl) Tryd.func18
    (ChangeSpec.witness_shaped (enc := enc) (C := Tryd.checked) (os := os) (X := fun w _ => laidMetH Tryd.prog Rows.fnSplitBestRow.laid w) false (World.laidAll Tryd.prog os Rows.fnSplitBestRow.laid) #[.slice none 0 0] 8 (World.laidAll_os _ _ _)
      (World.shaped_of_ZipB (by kernel_rfl) (by kernel_rfl)) (by kernel_rfl) (by kernel_rfl) (by kernel_rfl)
      (by rw [MakeChecks.laidMetH_plain _ _ _ (by kernel_rfl)]; exact laidMet_laidAll _ (by kernel_rfl) (by kernel_rfl))) ?_
  intro W base args ds gs before hval0 hW _ _ _ _
  have hval : ∀ (j : Nat) t v, Tryd.f18.params[j]? = some t → args[j]? = some v → Value.okWide Tryd.prog W .any base t v := hval0
  have hW' := hW
  obtain ⟨p, q, hA0, hV, rfl, hfz, hnd⟩ := hW
  have hA : DataW.TrodAll enc Tryd.prog W 0 (fun _ => true) true Tryd.f18.params.toList args.toList ds p := hA0
  rw [Tryd.params18] at hA hval
  obtain ⟨v0, vs0, d0, ds0, p0, q0, hargs, rfl, rfl, h0, r0⟩ := trodAll_cons hA
  obtain ⟨rfl, rfl, rfl⟩ := trodAll_nil r0
  obtain rfl : args = #[v0] := by cases args; simp_all
  obtain ⟨rfl, rfl⟩ := trodVars_none hV
  have lt0 : ∀ x ∈ p0, x.block < W.heap.size := by obtain ⟨m, hm⟩ := h0; exact DataW.trod_lt m _ _ _ hm
  obtain ⟨A0, n0, c0, z0, rfl, rfl, k0, m0, wf0, rd0⟩ := op_ints Tryd.underlying22 Tryd.underlying5 (by kernel_rfl) (hval 0 22 v0 rfl rfl) h0
  clear hA0 hval0
  refine (w_FnSplitBest W A0 c0 z0 k0 m0 wf0 rd0).mono fun e W' ⟨he, bel⟩ => ?_
  subst he
  exact ⟨_, rfl, _, _, _, [], _, [], hW', trodAll_mk1 (shut_bool Tryd.underlying4 _), (trodAll_cons_mk (Below.trod laidOut (by kernel_rfl) (of_decide_eq_true (by kernel_rfl)) h0 bel lt0) trodAll_mk0), rfl, bel.frame _, fun h => by cases h⟩
theorem closed : joinedFacts Tryd.prog 18 Tryd.f18 Rows.fnSplitBestSpec Rows.fnSplitBestRow = true := by
  unfold joinedFacts
  rw [mayEnter, liftsFinal, progMake]
  kernel_rfl
theorem over : Rows.fnSplitBestRow.holds Tryd.pinned (OpenSpec.ofChange Rows.fnSplitBestSpec) :=
  OpenClaim.holds_of_wide 18 Tryd.f18 rfl rfl rfl rfl rfl rfl rfl ⟨rfl, rfl, rfl, rfl, rfl⟩ rfl rfl rfl rfl rfl (by kernel_rfl) Tryd.func18 closed
    (of_decide_eq_true (by kernel_rfl)) (by unfold Func.isWrapper; first | (rw [if_pos (by decide +kernel)]; kernel_rfl) | (rw [if_neg (by decide +kernel)]; exact ⟨rfl, rfl⟩))
    (fun os started H enc _ => lifted os started H enc)
set_option maxRecDepth 100000 in
theorem carded : Rows.FnSplitBestCardSaid :=
  Claim7.holds_tied_plain_at .later [] _ true Rows.fnSplitBestCard.stood.harness false over (fun _ h => by cases h) (by kernel_rfl) (fun _ h => by cases h) fnSplitBest_row_tie rfl ⟨rfl, rfl⟩ mainIs rfl
    (fun f fn hf hfn => by
      obtain rfl : f = 18 := Option.some.inj ((show Tryd.prog.funcNamed Rows.fnSplitBestRow.func = some 18 by kernel_rfl).symm.trans hf) |>.symm
      obtain rfl : fn = Tryd.f18 := (Option.some.inj (Tryd.func18.symm.trans hfn)).symm
      exact ⟨noLooks, fun j t ht => by
        rw [Tryd.params18] at ht
        have hm : t ∈ [22] := by simpa using Array.mem_of_getElem? ht
        have hall : ([22].all fun u => !Tryd.prog.wantsStandIn u) = true := by kernel_rfl
        exact (show Tryd.prog.wantsStandIn t = false by simpa using List.all_eq_true.1 hall t hm)⟩)
    (by kernel_rfl)
theorem proved : Rows.FnSplitBestCardSaid := carded
end FnSplitBest
end Go.Proofs.YtcdoopccmljaoaaDoor
