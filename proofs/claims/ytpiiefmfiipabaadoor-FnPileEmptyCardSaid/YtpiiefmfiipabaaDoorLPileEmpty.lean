/- Empty piles have no coils: FnPileEmpty returns true for every input. No conditions. -/
import Derived.Test.YtpiiefmfiipabaaDoorSeatC
import Derived.Test.YtpiiefmfiipabaaDoorDrawQ
import Derived.Test.YtpiiefmfiipabaaDoorLawsP
import Derived.Test.YtpiiefmfiipabaaDoorPileValid
import Derived.Test.YtpiiefmfiipabaaDoorCoilIds
import Derived.Test.YtpiiefmfiipabaaDoorLBox
import Derived.Test.YtpiiefmfiipabaaDoorPileRes
import Derived.Test.YtpiiefmfiipabaaDoorAlive
import Derived.Deep.RegionHeld3
namespace Go.Proofs.YtpiiefmfiipabaaDoor
open Go.ChangeShapes Go.WideShapes Go.ChangeAt Go.RowKit Go.Deep
theorem zs_getD (n k : Nat) : (zs n).getD k 0 = 0 := by
  unfold zs
  rw [List.getD_eq_getElem?_getD, List.getElem?_replicate]
  split <;> rfl
theorem empty_cl {n : Int} (s : Bool × Nat) : cl (pileEmpty n) s = 0 := by
  unfold cl rowOf pileEmpty
  split <;> split
  · exact zs_getD _ _
  · rfl
  · exact zs_getD _ _
  · rfl
theorem empty_none {n : Int} (h : inR n 1 6 = false) : pileEmpty n = ([], []) := by rw [pileEmpty, if_neg (by simp [h])]
theorem empty_some {n : Int} (h : inR n 1 6 = true) : pileValid (pileEmpty n) = true ∧ ((pileEmpty n).1.length : Int) = n ∧ coilIds (pileEmpty n) = [] := by
  have hb := inR_iff.1 h
  have e : pileEmpty n = (zs n.toNat, zs (n.toNat - 1)) := by rw [pileEmpty, if_pos h]
  refine ⟨(vd_iff _).2 ⟨?_, ?_, ?_, fun s => by rw [empty_cl]; omega, fun s t _ hh => absurd (empty_cl s) hh, fun k hh => absurd (empty_cl _) hh⟩, ?_, ?_⟩
  · rw [e]; simp [zs_len]; omega
  · rw [e]; simp [zs_len]; omega
  · rw [e]; simp [zs_len]; omega
  · rw [e]; simp [zs_len]; omega
  · rw [List.eq_nil_iff_forall_not_mem]
    intro x hx
    obtain ⟨_, h1, s, hs⟩ := ids_mem.1 hx
    rw [empty_cl] at hs
    omega
set_option linter.unusedSimpArgs false in
set_option linter.unusedVariables false in
set_option maxHeartbeats 1600000 in
set_option maxRecDepth 100000 in
theorem w_FnPileEmpty (w : World) (A : Option Addr) (c : Nat) (bs : List Int) (hkc : bs.length ≤ c) (hmc : c ≤ maxLen) (hbs : ∀ b ∈ bs, (Lit.int .u8 b).wf = true) (hrd : Rd w w.heap.size A (bc bs)) :
    Calls Tryd.prog 10 #[.slice A bs.length c] w fun e w' => e = .returned (.bool true) ∧ Below w.heap.size w w' := by
  have hB := hide hbs
  clear hbs
  by_cases hl : 1048576 < bs.length
  · go_enter Tryd.func10, Tryd.ntmps10
    go_wp2
    go_ret
    exact ⟨rfl, Below.refl _ _⟩
  · go_enter Tryd.func10, Tryd.ntmps10
    go_wp2_with fail
    refine (drawPileEmpty_any A c bs w hkc hmc hB.out hrd).mono ?_
    rintro e w1 ⟨n, rfl, hx, b1⟩
    clear hl hkc hmc hrd
    go_wp2_with fail
    have HS := hide (fun w => pileEmpty_spec n w)
    have hp : small (pileEmpty n) := by
      cases hv : inR n 1 6
      · rw [empty_none hv]; exact ⟨by simp, by simp⟩
      · have := inR_iff.1 hv
        rw [pileEmpty, if_pos hv]
        exact ⟨by simp [zs_len]; omega, by simp [zs_len]; omega⟩
    have H0 := hide (empty_none (n := n))
    have H1 := hide (empty_some (n := n))
    refine (pileEmpty_any n w1).mono ?_
    generalize pileEmpty n = p at *
    rintro e w2 ⟨L, d, L', d', rfl, o2, b2⟩
    have bb := via b1 b2 b1.size
    have rp := o2.rd
    clear o2 b1 b2
    obtain ⟨x0, hx0⟩ := ext_self w2
    rw [← hx0]
    clear hx0
    have hq := x0.below.alloc x0.below.size (.cells #[.slice L p.1.length d, .slice L' p.2.length d'] 25)
    (try have j0 := cell_in hq K0); (try have j1 := cell_in hq K1); (try have j2 := cell_in hq K2); (try have j3 := cell_in hq K3); (try have j4 := cell_in hq K4); (try have j5 := cell_in hq K5); (try have j6 := cell_in hq K6); (try have j7 := cell_in hq K7); (try have j8 := cell_in hq K8); (try have j9 := cell_in hq K9); (try have j10 := cell_in hq K10); (try have j11 := cell_in hq K11); (try have j12 := cell_in hq K12); (try have j13 := cell_in hq K13); (try have j14 := cell_in hq K14); (try have j15 := cell_in hq K15)
    go_wp2_with fail
    (try clear j0); (try clear j1); (try clear j2); (try clear j3); (try clear j4); (try clear j5); (try clear j6); (try clear j7); (try clear j8); (try clear j9); (try clear j10); (try clear j11); (try clear j12); (try clear j13); (try clear j14); (try clear j15)
    obtain ⟨bq, bp, qq, hzq, hlq⟩ := box_in x0 25 #[.slice L p.1.length d, .slice L' p.2.length d'] _ rfl
    clear hq
    (try replace K0 := ext_lift bq K0); (try replace K1 := ext_lift bq K1); (try replace K2 := ext_lift bq K2); (try replace K3 := ext_lift bq K3); (try replace K4 := ext_lift bq K4); (try replace K5 := ext_lift bq K5); (try replace K6 := ext_lift bq K6); (try replace K7 := ext_lift bq K7); (try replace K8 := ext_lift bq K8); (try replace K9 := ext_lift bq K9); (try replace K10 := ext_lift bq K10); (try replace K11 := ext_lift bq K11); (try replace K12 := ext_lift bq K12); (try replace K13 := ext_lift bq K13); (try replace K14 := ext_lift bq K14); (try replace K15 := ext_lift bq K15)
    (try replace rp := rp.up bq); (try replace rx := rx.up bq); (try replace ry := ry.up bq); (try replace rz := rz.up bq); (try replace rl := rl.up bq); (try replace ro := ro.up bq)
    (try have rq := orq.rd.up bp)
    (try clear orq)
    generalize x0.val.alloc (.cells #[.slice L p.1.length d, .slice L' p.2.length d'] 25) = wp at *
    generalize x0.val.heap.size = gwp at *
    replace bb := via bb bq bb.size
    obtain ⟨K0, K1, fK0, fK1⟩ := qq.ext2
    clear bq bp qq hzq hlq
    obtain ⟨x0, hx0⟩ := ext_self wp
    rw [← hx0]
    clear hx0
    refine wp_region_held_drew (S := fun w' => w'.cell? ⟨gwp, 0, none⟩ = some (.slice L p.1.length d) ∧ w'.cell? ⟨gwp, 1, none⟩ = some (.slice L' p.2.length d')) (by kernel_rfl) ⟨K0 x0, K1 x0⟩ (fun hHeld => ?_)
    refine wpAnyH_take (i := 0) (oi := _) (v := ?_) rfl (by kernel_rfl) (by kernel_rfl) (by kernel_rfl) (fun _ _ _ h => h) (Or.inl ⟨by rfl, ?_⟩) (by assumption) ?_
    rotate_left
    · intro w hSw; (try dsimp only at hSw); go_simp; first | done | with_reducible rfl
    (try simp only [Act.put, List.setIfInBounds_toArray, List.set_cons_zero, List.set_cons_succ])
    refine wpAnyH_take (i := 1) (oi := _) (v := ?_) rfl (by kernel_rfl) (by kernel_rfl) (by kernel_rfl) (fun _ _ _ h => h) (Or.inl ⟨by rfl, ?_⟩) (by assumption) ?_
    rotate_left
    · intro w hSw; (try dsimp only at hSw); go_simp; first | done | with_reducible rfl
    (try simp only [Act.put, List.setIfInBounds_toArray, List.set_cons_zero, List.set_cons_succ])
    refine wpAnyH_ready (rs := [2]) (by kernel_rfl) (by simp) ?_
    refine AllReadyH.cons (o := _) rfl (fun K hK => ?_) AllReadyH.nil
    go_simp
    go_at_call 46
    refine (HS.out _).mono ?_
    rintro e w6 ⟨Y, cy, Y', cy', rfl, oY, b⟩
    obtain ⟨y, rfl⟩ := ext_any (Ext.below x0).drew b (Ext.below x0).size
    go_wp2_with fail
    refine hK.out _ _ ⟨K0 _, K1 _⟩ (fun hHeld => ?_)
    clear hK K
    (try simp only [Act.put, List.setIfInBounds_toArray, List.set_cons_zero, List.set_cons_succ])
    refine wpAnyH_ready (rs := [3]) (by kernel_rfl) (by simp) ?_
    refine AllReadyH.cons (o := _) rfl (fun K hK => ?_) AllReadyH.nil
    go_simp
    go_at_call 35
    refine (samePile_same L L' Y Y' _ _ _ _ p _ hp (rp.up (Ext.below _)) oY.rd).mono ?_
    rintro e w' ⟨rfl, b2⟩
    obtain ⟨y2, rfl⟩ := ext_next b2
    clear b2
    go_wp2_with fail
    refine hK.out _ _ ⟨K0 _, K1 _⟩ (fun hHeld => ?_)
    clear hK K
    (try simp only [Act.put, List.setIfInBounds_toArray, List.set_cons_zero, List.set_cons_succ])
    refine wpAnyH_take (i := 4) (oi := _) (v := ?_) rfl (by kernel_rfl) (by kernel_rfl) (by kernel_rfl) (fun _ _ _ h => h) (Or.inl ⟨by rfl, ?_⟩) (by assumption) ?_
    rotate_left
    · intro w hSw; (try dsimp only at hSw); go_simp; first | done | with_reducible rfl
    (try simp only [Act.put, List.setIfInBounds_toArray, List.set_cons_zero, List.set_cons_succ])
    refine wpAnyH_done (by kernel_rfl) ?_ _
    clear b oY hHeld HS
    cases hv : inR n 1 6
    · obtain rfl := H0.out hv
      have K0' : ∀ x : Ext wp, x.val.cell? ⟨gwp, 0, none⟩ = some (.slice L 0 d) := K0
      have K1' : ∀ x : Ext wp, x.val.cell? ⟨gwp, 1, none⟩ = some (.slice L' 0 d') := K1
      clear H0 H1 hv K0 K1
      go_wp2_with (go_at_call 20; refine (alive_any _).mono ?_; rintro e w' ⟨rfl, b2⟩)
      go_ret
      have bx := via bb (Ext.below y2) bb.size
      exact ⟨rfl, via bx b2 bx.size⟩
    · obtain ⟨e1, e2, e3⟩ := H1.out hv
      have hn := inR_iff.1 hv
      have HV := hide e1
      have HI := hide (fun c c' w rp => coilIds_any L L' c c' p w hp rp)
      rw [e3] at HI
      have t1 : ((p.1.length : Int) == 0) = false := beq_false_of_ne (by omega)
      have t2 : ((p.1.length : Int) == n) = true := by rw [e2]; simp
      clear H0 H1 hv e1 e2 e3
      go_wp2_with fail
      refine (pileValid_any L L' _ _ p _ hp (rp.up (Ext.below _))).mono ?_
      rw [HV.out]
      rintro e w' ⟨rfl, b⟩
      obtain ⟨y4, rfl⟩ := ext_next b
      clear b
      go_wp2_with fail
      refine (HI.out _ _ _ (rp.up (Ext.below _))).mono ?_
      rintro e w' ⟨I, ci, rfl, oi, b⟩
      obtain ⟨y5, rfl⟩ := ext_next b
      clear b
      go_wp2
      go_ret
      exact ⟨rfl, via bb (Ext.below y5) bb.size⟩
namespace FnPileEmpty
set_option maxRecDepth 100000 in
theorem lifted (os : Os) (started : os.Started) (H : Type) (enc : TypeId × Value → H) :
    ReturnsInHanded {} Tryd.checked os 10 .any (fun w args => (Rows.fnPileEmptySpec.pre enc Tryd.prog Tryd.f10 [] false w args ∧ laidMetH Tryd.prog Rows.fnPileEmptyRow.laid w) ∧ sizedMet enc Tryd.prog Tryd.f10 (OpenSpec.ofChange Rows.fnPileEmptySpec) false w args) (Rows.fnPileEmptySpec.post enc Tryd.prog Tryd.f10 false true false false) := by
  refine returnsInHanded_of_change_and (C := Tryd.checked) (X := fun w _ => laidMetH Tryd.prog Rows.fnPileEmptyRow.laid w) (fun _ _ _ hh h => h.of_heap hh) own started (by kernel_rfl) Tryd.func10
    (ChangeSpec.witness_shaped (enc := enc) (C := Tryd.checked) (os := os) (X := fun w _ => laidMetH Tryd.prog Rows.fnPileEmptyRow.laid w) false (World.laidAll Tryd.prog os Rows.fnPileEmptyRow.laid) #[.slice none 0 0] 8 (World.laidAll_os _ _ _)
      (World.shaped_of_ZipB (by kernel_rfl) (by kernel_rfl)) (by kernel_rfl) (by kernel_rfl) (by kernel_rfl)
      (by rw [MakeChecks.laidMetH_plain _ _ _ (by kernel_rfl)]; exact laidMet_laidAll _ (by kernel_rfl) (by kernel_rfl))) ?_
  intro W base args ds gs before hval0 hW _ _ _ _
  have hval : ∀ (j : Nat) t v, Tryd.f10.params[j]? = some t → args[j]? = some v → Value.okWide Tryd.prog W .any base t v := hval0
  have hW' := hW
  obtain ⟨p, q, hA0, hV, rfl, hfz, hnd⟩ := hW
  have hA : DataW.TrodAll enc Tryd.prog W 0 (fun _ => true) true Tryd.f10.params.toList args.toList ds p := hA0
  rw [Tryd.params10] at hA hval
  obtain ⟨v0, vs0, d0, ds0, p0, q0, hargs, rfl, rfl, h0, r0⟩ := trodAll_cons hA
  obtain ⟨rfl, rfl, rfl⟩ := trodAll_nil r0
  obtain rfl : args = #[v0] := by cases args; simp_all
  obtain ⟨rfl, rfl⟩ := trodVars_none hV
  have lt0 : ∀ x ∈ p0, x.block < W.heap.size := by obtain ⟨m, hm⟩ := h0; exact DataW.trod_lt m _ _ _ hm
  obtain ⟨A0, n0, c0, z0, rfl, rfl, k0, m0, wf0, rd0⟩ := op_ints Tryd.underlying22 Tryd.underlying5 (by kernel_rfl) (hval 0 22 v0 rfl rfl) h0
  clear hA0 hval0
  refine (w_FnPileEmpty W A0 c0 z0 k0 m0 wf0 rd0).mono fun e W' ⟨he, bel⟩ => ?_
  subst he
  exact ⟨_, rfl, _, _, _, [], _, [], hW', trodAll_mk1 (shut_bool Tryd.underlying4 _), (trodAll_cons_mk (Below.trod laidOut (by kernel_rfl) (of_decide_eq_true (by kernel_rfl)) h0 bel lt0) trodAll_mk0), rfl, bel.frame _, fun h => by cases h⟩
theorem closed : joinedFacts Tryd.prog 10 Tryd.f10 Rows.fnPileEmptySpec Rows.fnPileEmptyRow = true := by
  unfold joinedFacts
  rw [mayEnter, liftsFinal, progMake]
  kernel_rfl
theorem over : Rows.fnPileEmptyRow.holds Tryd.pinned (OpenSpec.ofChange Rows.fnPileEmptySpec) :=
  OpenClaim.holds_of_wide 10 Tryd.f10 rfl rfl rfl rfl rfl rfl rfl ⟨rfl, rfl, rfl, rfl, rfl⟩ rfl rfl rfl rfl rfl (by kernel_rfl) Tryd.func10 closed
    (of_decide_eq_true (by kernel_rfl)) (by unfold Func.isWrapper; first | (rw [if_pos (by decide +kernel)]; kernel_rfl) | (rw [if_neg (by decide +kernel)]; exact ⟨rfl, rfl⟩))
    (fun os started H enc _ => lifted os started H enc)
set_option maxRecDepth 100000 in
theorem carded : Rows.FnPileEmptyCardSaid :=
  Claim7.holds_tied_plain_at .later [] _ true Rows.fnPileEmptyCard.stood.harness false over (fun _ h => by cases h) (by kernel_rfl) (fun _ h => by cases h) fnPileEmpty_row_tie rfl ⟨rfl, rfl⟩ mainIs rfl
    (fun f fn hf hfn => by
      obtain rfl : f = 10 := Option.some.inj ((show Tryd.prog.funcNamed Rows.fnPileEmptyRow.func = some 10 by kernel_rfl).symm.trans hf) |>.symm
      obtain rfl : fn = Tryd.f10 := (Option.some.inj (Tryd.func10.symm.trans hfn)).symm
      exact ⟨noLooks, fun j t ht => by
        rw [Tryd.params10] at ht
        have hm : t ∈ [22] := by simpa using Array.mem_of_getElem? ht
        have hall : ([22].all fun u => !Tryd.prog.wantsStandIn u) = true := by kernel_rfl
        exact (show Tryd.prog.wantsStandIn t = false by simpa using List.all_eq_true.1 hall t hm)⟩)
    (by kernel_rfl)
theorem proved : Rows.FnPileEmptyCardSaid := carded
end FnPileEmpty
end Go.Proofs.YtpiiefmfiipabaaDoor
