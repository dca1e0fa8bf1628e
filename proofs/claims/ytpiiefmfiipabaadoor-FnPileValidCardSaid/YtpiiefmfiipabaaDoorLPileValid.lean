/- Upper coils lie on two: FnPileValid returns true for every input. No conditions. -/
import Derived.Test.YtpiiefmfiipabaaDoorSeatC
import Derived.Test.YtpiiefmfiipabaaDoorDrawQ
import Derived.Test.YtpiiefmfiipabaaDoorLawsP
import Derived.Test.YtpiiefmfiipabaaDoorPileValid
import Derived.Test.YtpiiefmfiipabaaDoorCoilPlain
import Derived.Test.YtpiiefmfiipabaaDoorLawKit
import Derived.Test.YtpiiefmfiipabaaDoorAlive
namespace Go.Proofs.YtpiiefmfiipabaaDoor
open Go.ChangeShapes Go.WideShapes Go.ChangeAt Go.RowKit Go.Deep
theorem cl_zs (n k : Nat) : (zs n).getD k 0 = 0 := by
  unfold zs
  rw [List.getD, List.getElem?_replicate]
  split <;> rfl
theorem vd_flat {p : PL} (V : Vd p) : Vd (p.1, zs p.2.length) := by
  have h0 : ∀ k, cl (p.1, zs p.2.length) (true, k) = 0 := fun k => cl_zs _ _
  have h1 : ∀ k, cl (p.1, zs p.2.length) (false, k) = cl p (false, k) := fun k => rfl
  refine ⟨V.l1, V.l6, by simpa [zs] using V.up, ?_, ?_, ?_⟩
  · rintro ⟨t, k⟩
    cases t
    · rw [h1]; exact V.rng _
    · rw [h0]; omega
  · rintro ⟨a, i⟩ ⟨b, j⟩ h hn
    cases a
    · cases b
      · rw [h1, h1] at h
        rw [h1] at hn
        exact V.inj _ _ h hn
      · rw [h0] at h; exact absurd h hn
    · rw [h0] at hn; exact absurd rfl hn
  · intro k h
    rw [h0] at h; exact absurd rfl h
theorem pileValid_flat (L : Option Addr) (c : Nat) (p : PL) (w : World) (hp : small p) (hv : pileValid (p.1, zs p.2.length) = true) (hr : Rd w w.heap.size L (ic p.1)) :
    Calls Tryd.prog 18 #[.agg #[.slice L p.1.length c, .slice (some ⟨w.heap.size, 0, none⟩) p.2.length p.2.length]] (w.alloc (.cells (madeCells #[.int .i64 0] p.2.length) 3)).drew fun e w' => e = .returned (.bool true) ∧ Below (w.alloc (.cells (madeCells #[.int .i64 0] p.2.length) 3)).drew.heap.size (w.alloc (.cells (madeCells #[.int .i64 0] p.2.length) 3)).drew w' := by
  have bA : Below w.heap.size w (w.alloc (.cells (madeCells #[.int .i64 0] p.2.length) 3)).drew := by go_grown
  have q := (Row.new w 3 (madeCells #[.int .i64 0] p.2.length)).drew
  rw [← ic_zs] at q
  have hl : (zs p.2.length).length = p.2.length := zs_len _
  have := pileValid_any L (some ⟨w.heap.size, 0, none⟩) c p.2.length (p.1, zs p.2.length) _ ⟨hp.1, by simp only [hl]; exact hp.2⟩ ⟨hr.up bA, q.rd⟩
  simp only [hl, hv] at this
  exact this
set_option linter.unusedSimpArgs false in
set_option maxHeartbeats 8000000 in
set_option maxRecDepth 100000 in
theorem w_FnPileValid (w : World) (A : Option Addr) (c : Nat) (bs : List Int) (hkc : bs.length ≤ c) (hmc : c ≤ maxLen) (hbs : ∀ b ∈ bs, (Lit.int .u8 b).wf = true) (hrd : Rd w w.heap.size A (bc bs)) :
    Calls Tryd.prog 3 #[.slice A bs.length c] w fun e w' => e = .returned (.bool true) ∧ Below w.heap.size w w' := by
  have hB := hide hbs
  clear hbs
  by_cases hl : 1048576 < bs.length
  · go_enter Tryd.func3, Tryd.ntmps3
    go_wp2
    go_ret
    exact ⟨rfl, Below.refl _ _⟩
  · go_enter Tryd.func3, Tryd.ntmps3
    go_wp2_with fail
    refine (drawPileValid_any A c bs w hkc hmc hB.out hrd).mono ?_
    rintro e w1 ⟨L, d, L', d', p, rfl, h1, h2, oL, oL', b1⟩
    clear hl hkc hmc hrd
    have q0 := Row.new w1 25 #[.slice L p.1.length d, .slice L' p.2.length d']
    have b0 := bel_one w1 (.cells #[.slice L p.1.length d, .slice L' p.2.length d'] 25)
    have rp : RdP w1 w1.heap.size L L' p := ⟨oL.rd, oL'.rd⟩
    have rp0 := rp.up b0
    have hp := hide (show small p from ⟨by omega, by omega⟩)
    have bb := via b1 b0 b1.size
    go_wp2_with fail
    generalize w1.alloc (.cells #[.slice L p.1.length d, .slice L' p.2.length d'] 25) = w0 at *
    generalize w1.heap.size = gB at *
    obtain ⟨K0, K1, _, _⟩ := q0.ext2
    have RP := hide (fun x : Ext w0 => rp0.up x.below)
    obtain ⟨x0, hx0⟩ := ext_self w0
    rw [← hx0]
    clear hx0
    refine (pileValid_any L L' d d' p _ hp.out (RP.out _)).mono ?_
    rintro e w' ⟨rfl, b⟩
    obtain ⟨x1, rfl⟩ := ext_next b
    clear b
    go_wp2_with fail
    refine (pileValid_spec L L' d d' p _ hp.out (RP.out _)).mono ?_
    rintro e w' ⟨rfl, b⟩
    obtain ⟨x, rfl⟩ := ext_next b
    clear b
    have e0 : pileValid ([], []) = false := by decide
    cases hv : pileValid p
    · go_wp2_with fail
      refine (pileValid_any none none 0 0 ([], []) _ ⟨by simp, by simp⟩ ⟨.inl rfl, .inl rfl⟩).mono ?_
      rintro e w' ⟨rfl, b⟩
      obtain ⟨x2, rfl⟩ := ext_next b
      clear b
      rw [e0]
      go_wp2_with (go_at_call 20; refine (alive_any _).mono ?_; rintro e w' ⟨rfl, b⟩; obtain ⟨x, rfl⟩ := ext_next b; clear b)
      go_ret
      exact ⟨rfl, via bb (Ext.below _) bb.size⟩
    · have V := hide ((vd_iff p).1 hv)
      go_wp2_with fail
      go_loop [5] (fun i => ∃ k : Nat, k ≤ p.2.length ∧ i = .int .i64 k) (fun i => p.2.length - (intOf i).toNat)
      case atStart => exact ⟨0, Nat.zero_le _, rfl⟩
      case round =>
        obtain ⟨k, hk, rfl⟩ := hrel
        have hup := V.out.up
        by_cases hlt : k < p.2.length
        · obtain ⟨c, o, hL', _, ch⟩ := (RP.out x).2.int hlt
          obtain ⟨c', o', hL, _, cl0⟩ := (RP.out x).1.int (k := k) (by omega)
          obtain ⟨c'', o'', hL2, _, cl1⟩ := (RP.out x).1.int (k := k + 1) (by omega)
          rw [hL] at hL2
          cases hL2
          have k0 := K0 x
          have k1 := K1 x
          rw [hL] at k0
          rw [hL'] at k1
          have hs := V.out.sup k
          rw [cl_high, cl_low, cl_low, List.getD, List.getD, List.getD, List.getElem?_eq_getElem hlt, List.getElem?_eq_getElem (show k < p.1.length by omega), List.getElem?_eq_getElem (show k + 1 < p.1.length by omega)] at hs
          simp only [Option.getD_some] at hs
          have i0 : (k : Int) < (p.2.length : Int) := by omega
          have i1 : (k : Int) < (p.1.length : Int) := by omega
          have i2 : (k : Int) + 1 < (p.1.length : Int) := by omega
          generalize p.2[k] = u at *
          generalize p.1[k] = v at *
          generalize p.1[k + 1] = v' at *
          clear K0 K1
          by_cases hu : 0 < u
          · obtain ⟨hv0, hv1⟩ := hs (by omega)
            have t0 := beq_false_of_ne hv0
            have t1 := beq_false_of_ne hv1
            clear hs
            go_wp2
            go_round
            case rel => exact ⟨k + 1, by omega, by go_num⟩
            case measure => simp [intOf]; omega
          · have tu : decide (u > 0) = false := by simp; omega
            clear hs
            go_wp2
            go_round
            case rel => exact ⟨k + 1, by omega, by go_num⟩
            case measure => simp [intOf]; omega
        · have i0 : ¬ (k : Int) < (p.2.length : Int) := by omega
          have hmk := run_make_row' (P := Tryd.prog) 23 3 (.int .i64 0) 8 Tryd.underlying23 intInfo rfl .i64 .i64 p.2.length (by omega) (by omega)
          have k0 := K0 x
          have k1 := K1 x
          have HF := hide (pileValid_flat L d p x.val hp.out ((vd_iff _).2 (vd_flat V.out)) (RP.out x).1)
          go_wp2_with fail
          refine wp_region_held_drew (S := fun w' => w'.cell? ⟨gB, 0, none⟩ = some (.slice L p.1.length d) ∧ w'.cell? ⟨gB, 1, none⟩ = some (.slice L' p.2.length d')) (by kernel_rfl) ⟨cell_in (Ext.below _).drew K0, cell_in (Ext.below _).drew K1⟩ (fun hHeld => ?_)
          refine wpAnyH_take (i := 0) (oi := _) (v := ?_) rfl (by kernel_rfl) (by kernel_rfl) (by kernel_rfl) (fun _ _ _ h => h) (Or.inl ⟨by rfl, ?_⟩) (by assumption) ?_
          rotate_left
          · intro w hSw; (try dsimp only at hSw); go_simp; first | done | with_reducible rfl
          (try simp only [Act.put, List.setIfInBounds_toArray, List.set_cons_zero, List.set_cons_succ])
          refine wpAnyH_take (i := 1) (oi := _) (v := ?_) rfl (by kernel_rfl) (by kernel_rfl) (by kernel_rfl) (fun _ _ _ h => h) (Or.inl ⟨by rfl, ?_⟩) (by assumption) ?_
          rotate_left
          · intro w hSw; (try dsimp only at hSw); go_simp; first | done | with_reducible rfl
          (try simp only [Act.put, List.setIfInBounds_toArray, List.set_cons_zero, List.set_cons_succ])
          refine wpAnyH_take (i := 2) (oi := _) (v := ?_) rfl (by kernel_rfl) (by kernel_rfl) (by kernel_rfl) (fun _ _ _ h => h) (Or.inl ⟨by rfl, ?_⟩) (by assumption) ?_
          rotate_left
          · intro w hSw; (try dsimp only at hSw); go_simp; first | done | with_reducible rfl
          (try simp only [Act.put, List.setIfInBounds_toArray, List.set_cons_zero, List.set_cons_succ])
          refine wpAnyH_take (i := 3) (oi := _) (v := ?_) rfl (by kernel_rfl) (by kernel_rfl) (by kernel_rfl) (fun _ _ _ h => h) (Or.inl ⟨by rfl, ?_⟩) (by assumption) ?_
          rotate_left
          · intro w hSw; (try dsimp only at hSw); go_simp; first | done | with_reducible rfl
          (try simp only [Act.put, List.setIfInBounds_toArray, List.set_cons_zero, List.set_cons_succ])
          refine wpAnyH_take (i := 4) (oi := _) (v := ?_) rfl (by kernel_rfl) (by kernel_rfl) (by kernel_rfl) (fun _ _ _ h => h) (Or.inl ⟨by rfl, ?_⟩) (by assumption) ?_
          rotate_left
          · intro w hSw; (try dsimp only at hSw); go_simp; first | done | with_reducible rfl
          (try simp only [Act.put, List.setIfInBounds_toArray, List.set_cons_zero, List.set_cons_succ])
          refine wpAnyH_ready (rs := [5]) (by kernel_rfl) (by simp) ?_
          refine AllReadyH.cons (o := _) rfl (fun K hK => ?_) AllReadyH.nil
          go_simp
          refine hK.out _ _ ⟨cell_in ((Ext.below _).alloc (Ext.below _).size _).drew K0, cell_in ((Ext.below _).alloc (Ext.below _).size _).drew K1⟩ (fun hHeld => ?_)
          clear hK K
          (try simp only [Act.put, List.setIfInBounds_toArray, List.set_cons_zero, List.set_cons_succ])
          refine wpAnyH_take (i := 6) (oi := _) (v := ?_) rfl (by kernel_rfl) (by kernel_rfl) (by kernel_rfl) (fun _ _ _ h => h) (Or.inl ⟨by rfl, ?_⟩) (by assumption) ?_
          rotate_left
          · intro w hSw; (try dsimp only at hSw); go_simp; first | done | with_reducible rfl
          (try simp only [Act.put, List.setIfInBounds_toArray, List.set_cons_zero, List.set_cons_succ])
          refine wpAnyH_ready (rs := [7]) (by kernel_rfl) (by simp) ?_
          refine AllReadyH.cons (o := _) rfl (fun K hK => ?_) AllReadyH.nil
          go_simp
          have b3 : Below w0.heap.size w0 (x.val.alloc (.cells (madeCells #[.int .i64 0] p.2.length) 3)).drew := ((Ext.below x).alloc (Ext.below x).size _).drew
          refine Calls.mono HF.out ?_
          intro e w' hq
          obtain ⟨he, b⟩ := hq
          subst he
          have b4 := via b3 b b3.size
          go_wp2_with fail
          refine hK.out _ _ ⟨cell_in b4 K0, cell_in b4 K1⟩ (fun hHeld => ?_)
          clear hK K
          (try simp only [Act.put, List.setIfInBounds_toArray, List.set_cons_zero, List.set_cons_succ])
          refine wpAnyH_ready (rs := [8]) (by kernel_rfl) (by simp) ?_
          refine AllReadyH.cons (o := _) rfl (fun K hK => ?_) AllReadyH.nil
          go_simp
          refine hK.out _ _ ⟨cell_in b4 K0, cell_in b4 K1⟩ (fun hHeld => ?_)
          clear hK K
          (try simp only [Act.put, List.setIfInBounds_toArray, List.set_cons_zero, List.set_cons_succ])
          refine wpAnyH_done (by kernel_rfl) ?_ _
          go_wp2
          go_ret
          exact ⟨rfl, via bb b4 bb.size⟩
namespace FnPileValid
set_option maxRecDepth 100000 in
theorem lifted (os : Os) (started : os.Started) (H : Type) (enc : TypeId × Value → H) :
    ReturnsInHanded {} Tryd.checked os 3 .any (fun w args => (Rows.fnPileValidSpec.pre enc Tryd.prog Tryd.f3 [] false w args ∧ laidMetH Tryd.prog Rows.fnPileValidRow.laid w) ∧ sizedMet enc Tryd.prog Tryd.f3 (OpenSpec.ofChange Rows.fnPileValidSpec) false w args) (Rows.fnPileValidSpec.post enc Tryd.prog Tryd.f3 false true false false) := by
  refine returnsInHanded_of_change_and (C := Tryd.checked) (X := fun w _ => laidMetH Tryd.prog Rows.fnPileValidRow.laid w) (fun _ _ _ hh h => h.of_heap hh) own started (by kernel_rfl) Tryd.func3
    (ChangeSpec.witness_shaped (enc := enc) (C := Tryd.checked) (os := os) (X := fun w _ => laidMetH Tryd.prog Rows.fnPileValidRow.laid w) false (World.laidAll Tryd.prog os Rows.fnPileValidRow.laid) #[.slice none 0 0] 8 (World.laidAll_os _ _ _)
      (World.shaped_of_ZipB (by kernel_rfl) (by kernel_rfl)) (by kernel_rfl) (by kernel_rfl) (by kernel_rfl)
      (by rw [MakeChecks.laidMetH_plain _ _ _ (by kernel_rfl)]; exact laidMet_laidAll _ (by kernel_rfl) (by kernel_rfl))) ?_
  intro W base args ds gs before hval0 hW _ _ _ _
  have hval : ∀ (j : Nat) t v, Tryd.f3.params[j]? = some t → args[j]? = some v → Value.okWide Tryd.prog W .any base t v := hval0
  have hW' := hW
  obtain ⟨p, q, hA0, hV, rfl, hfz, hnd⟩ := hW
  have hA : DataW.TrodAll enc Tryd.prog W 0 (fun _ => true) true Tryd.f3.params.toList args.toList ds p := hA0
  rw [Tryd.params3] at hA hval
  obtain ⟨v0, vs0, d0, ds0, p0, q0, hargs, rfl, rfl, h0, r0⟩ := trodAll_cons hA
  obtain ⟨rfl, rfl, rfl⟩ := trodAll_nil r0
  obtain rfl : args = #[v0] := by cases args; simp_all
  obtain ⟨rfl, rfl⟩ := trodVars_none hV
  have lt0 : ∀ x ∈ p0, x.block < W.heap.size := by obtain ⟨m, hm⟩ := h0; exact DataW.trod_lt m _ _ _ hm
  obtain ⟨A0, n0, c0, z0, rfl, rfl, k0, m0, wf0, rd0⟩ := op_ints Tryd.underlying22 Tryd.underlying5 (by kernel_rfl) (hval 0 22 v0 rfl rfl) h0
  clear hA0 hval0
  refine (w_FnPileValid W A0 c0 z0 k0 m0 wf0 rd0).mono fun e W' ⟨he, bel⟩ => ?_
  subst he
  exact ⟨_, rfl, _, _, _, [], _, [], hW', trodAll_mk1 (shut_bool Tryd.underlying4 _), (trodAll_cons_mk (Below.trod laidOut (by kernel_rfl) (of_decide_eq_true (by kernel_rfl)) h0 bel lt0) trodAll_mk0), rfl, bel.frame _, fun h => by cases h⟩
theorem closed : joinedFacts Tryd.prog 3 Tryd.f3 Rows.fnPileValidSpec Rows.fnPileValidRow = true := by
  unfold joinedFacts
  rw [mayEnter, liftsFinal, progMake]
  kernel_rfl
theorem over : Rows.fnPileValidRow.holds Tryd.pinned (OpenSpec.ofChange Rows.fnPileValidSpec) :=
  OpenClaim.holds_of_wide 3 Tryd.f3 rfl rfl rfl rfl rfl rfl rfl ⟨rfl, rfl, rfl, rfl, rfl⟩ rfl rfl rfl rfl rfl (by kernel_rfl) Tryd.func3 closed
    (of_decide_eq_true (by kernel_rfl)) (by unfold Func.isWrapper; first | (rw [if_pos (by decide +kernel)]; kernel_rfl) | (rw [if_neg (by decide +kernel)]; exact ⟨rfl, rfl⟩))
    (fun os started H enc _ => lifted os started H enc)
set_option maxRecDepth 100000 in
theorem carded : Rows.FnPileValidCardSaid :=
  Claim7.holds_tied_plain_at .later [] _ true Rows.fnPileValidCard.stood.harness false over (fun _ h => by cases h) (by kernel_rfl) (fun _ h => by cases h) fnPileValid_row_tie rfl ⟨rfl, rfl⟩ mainIs rfl
    (fun f fn hf hfn => by
      obtain rfl : f = 3 := Option.some.inj ((show Tryd.prog.funcNamed Rows.fnPileValidRow.func = some 3 by kernel_rfl).symm.trans hf) |>.symm
      obtain rfl : fn = Tryd.f3 := (Option.some.inj (Tryd.func3.symm.trans hfn)).symm
      exact ⟨noLooks, fun j t ht => by
        rw [Tryd.params3] at ht
        have hm : t ∈ [22] := by simpa using Array.mem_of_getElem? ht
        have hall : ([22].all fun u => !Tryd.prog.wantsStandIn u) = true := by kernel_rfl
        exact (show Tryd.prog.wantsStandIn t = false by simpa using List.all_eq_true.1 hall t hm)⟩)
    (by kernel_rfl)
theorem proved : Rows.FnPileValidCardSaid := carded
end FnPileValid
end Go.Proofs.YtpiiefmfiipabaaDoor
