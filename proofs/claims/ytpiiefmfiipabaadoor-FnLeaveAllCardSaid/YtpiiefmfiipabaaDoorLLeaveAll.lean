/- Coils leave in any order, if there is room: FnLeaveAll returns true for every input. No conditions. -/
import Derived.Test.YtpiiefmfiipabaaDoorSeatC
import Derived.Test.YtpiiefmfiipabaaDoorDrawZ
import Derived.Test.YtpiiefmfiipabaaDoorAlive
import Derived.Test.YtpiiefmfiipabaaDoorLBox
import Derived.Test.YtpiiefmfiipabaaDoorLeaveSpec
import Derived.Test.YtpiiefmfiipabaaDoorLeaveLifts
import Derived.Test.YtpiiefmfiipabaaDoorCoilIds
namespace Go.Proofs.YtpiiefmfiipabaaDoor
open Go.ChangeShapes Go.WideShapes Go.ChangeAt Go.RowKit Go.Deep
theorem geL {p : PL} (V : Vd p) {k : Nat} (h : k < p.1.length) : 0 ≤ p.1[k] := by
  have := (V.rng (false, k)).1
  rw [cl_low, List.getD_eq_getElem?_getD, List.getElem?_eq_getElem h] at this
  exact this
theorem geH {p : PL} (V : Vd p) {k : Nat} (h : k < p.2.length) : 0 ≤ p.2[k] := by
  have := (V.rng (true, k)).1
  rw [cl_high, List.getD_eq_getElem?_getD, List.getElem?_eq_getElem h] at this
  exact this
theorem lifts_ge (p : PL) (z : List Int) : leaveOk p z = true → 0 ≤ leaveLifts p z := by
  intro h; rw [leaveLifts, if_pos h]; omega
/-- One more place behind what is gathered already. -/
theorem gather_pos {a z : List Int} {k : Nat} (h : k < z.length) (h0 : z[k] ≠ 0) : ic (a ++ some0 (z.take (k + 1))) = ic (a ++ some0 (z.take k)) ++ ic [z[k]] ∧ (a ++ some0 (z.take (k + 1))).length = (a ++ some0 (z.take k)).length + 1 := by
  rw [some0_snoc h, if_neg h0]
  constructor
  · simp [ic]
  · simp [Nat.add_assoc]
theorem gather_zero {a z : List Int} {k : Nat} (h : k < z.length) (h0 : z[k] = 0) : a ++ some0 (z.take (k + 1)) = a ++ some0 (z.take k) := by
  rw [some0_snoc h, if_pos h0, List.append_nil]
theorem gather_le (z z' : List Int) (k : Nat) : (some0 z ++ some0 (z'.take k)).length ≤ z.length + k := by
  have := some0_le z' k
  have h2 : (some0 z).length ≤ z.length := by unfold some0; exact List.length_filter_le _ _
  rw [List.length_append]; omega
theorem owns_zero {W : World} {B : Nat} {v : Value} {e : TypeId} (h : W.ownsRow B e 1 v ([] : List Int).length (ic [])) : W.ownsRow B e 1 v (([] : List Int) ++ some0 (([] : List Int).take 0)).length (ic (([] : List Int) ++ some0 (([] : List Int).take 0))) := h
set_option linter.unusedSimpArgs false in
set_option linter.unusedVariables false in
set_option maxHeartbeats 8000000 in
set_option maxRecDepth 100000 in
theorem w_FnLeaveAll (w : World) (A : Option Addr) (c : Nat) (bs : List Int) (hkc : bs.length ≤ c) (hmc : c ≤ maxLen) (hbs : ∀ b ∈ bs, (Lit.int .u8 b).wf = true) (hrd : Rd w w.heap.size A (bc bs)) :
    Calls Tryd.prog 14 #[.slice A bs.length c] w fun e w' => e = .returned (.bool true) ∧ Below w.heap.size w w' := by
  have hB := hide hbs
  clear hbs
  by_cases hl : 1048576 < bs.length
  · go_enter Tryd.func14, Tryd.ntmps14
    go_wp2
    go_ret
    exact ⟨rfl, Below.refl _ _⟩
  · go_enter Tryd.func14, Tryd.ntmps14
    go_wp2_with fail
    refine (drawLeaveAll_any A c bs w hkc hmc hB.out hrd).mono ?_
    rintro e w1 ⟨L, d, L', d', p, I, ci, z, rfl, h1, h2, h3, h4, h5, h6, oL, oL', oz, b1⟩
    clear hl hkc hmc hrd
    have rp : RdP w1 w1.heap.size L L' p := ⟨oL.rd, oL'.rd⟩
    have ro := oz.rd
    have hp := hide (show small p from ⟨by omega, by omega⟩)
    go_wp2_with fail
    obtain ⟨b0, k0, k1, hz0⟩ := box_one w1 25 (.slice L p.1.length d) (.slice L' p.2.length d') _ rfl
    replace rp := rp.up b0
    replace ro := ro.up b0
    have bb := via b1 b0 b1.size
    clear oL oL' oz b1
    generalize w1.alloc (.cells #[.slice L p.1.length d, .slice L' p.2.length d'] 25) = w0 at *
    have K0 := Ext.old k0
    have K1 := Ext.old k1
    clear hz0 k0 k1 b0 h6
    generalize w1.heap.size = gB at *
    have HI := hide (fun c c' w rp ro => leaveAll_any L L' I c c' ci p z w hp.out (by omega) h4 rp ro)
    have HS := hide (fun c c' w rp ro => leaveAll_spec L L' I c c' ci p z w hp.out (by omega) h4 rp ro)
    have H0 := hide (fun h => leave_no (p := p) (z := z) h)
    have H1 := hide (leaveAll_ge (p := p) (z := z))
    have H2 := hide (leaveAll_easy (p := p) (z := z))
    generalize leaveAll p z = rv at *
    obtain ⟨n, ok⟩ := rv
    obtain ⟨x0, hx0⟩ := ext_self w0
    rw [← hx0]
    clear hx0
    refine (HI.out _ _ _ (rp.up (Ext.below _)) (ro.up (Ext.below _))).mono ?_
    rintro e w' ⟨rfl, b⟩
    obtain ⟨y, rfl⟩ := ext_next b
    clear b
    go_wp2_with fail
    refine (HS.out _ _ _ (rp.up (Ext.below _)) (ro.up (Ext.below _))).mono ?_
    rintro e w' ⟨rfl, b⟩
    obtain ⟨y2, rfl⟩ := ext_next b
    clear b
    have tt := bne_int n
    have tb := bne_bool ok
    clear HI HS
    go_wp2_with fail
    refine (leaveOk_spec L L' I _ _ _ p z _ hp.out (by omega) h4 (rp.up (Ext.below _)) (ro.up (Ext.below _))).mono ?_
    rintro e w' ⟨rfl, b⟩
    obtain ⟨y3, rfl⟩ := ext_next b
    clear b
    clear tt tb
    cases hok : leaveOk p z
    · have e0 := H0.out hok
      obtain ⟨rfl, rfl⟩ : n = -1 ∧ ok = false := by
        injection e0 with a b
        exact ⟨a, b⟩
      clear H0 H1 H2 e0 hok
      go_wp2_with (go_at_call 20; refine (alive_any _).mono ?_; rintro e w' ⟨rfl, b2⟩)
      go_ret
      have bx := via bb (Ext.below y3) bb.size
      exact ⟨rfl, via bx b2 bx.size⟩
    · have V := (leaveOk_all.1 hok).1
      have hge0 := lifts_ge p z hok
      have H2 := hide (fun h => H2.out hok h)
      clear H0 hok
      go_wp2_with fail
      refine (leaveLifts_any L L' I _ _ _ p z _ hp.out (by omega) h4 (rp.up (Ext.below _)) (ro.up (Ext.below _))).mono ?_
      rintro e w' ⟨rfl, b⟩
      obtain ⟨y4, rfl⟩ := ext_next b
      clear b
      generalize leaveLifts p z = x at *
      have hfin : ok = true → x ≤ n := fun h => H1.out h
      have hfin2 : x = 0 → n = 0 ∧ ok = true := fun h => by
        have e := H2.out h
        injection e with a b
        exact ⟨a, b⟩
      have hF := hide (And.intro hfin hfin2)
      have hge0 := hide hge0
      clear H1 H2 hfin hfin2
      have bE := (Ext.below y4).alloc (Ext.below y4).size (.cells #[] 3)
      have oE := own_empty (e := 3) (size := 1) y4.val w0.heap.size (Ext.below y4).size
      go_wp2_with fail
      generalize hwy : y4.val.alloc (.cells #[] 3) = wE at *
      obtain ⟨yE, rfl⟩ : ∃ y : Ext w0, wE = y.val := ⟨⟨wE, bE⟩, rfl⟩
      clear hwy bE
      go_loopw [10, 11] (fun v i wr => ∃ (m : Nat) (y : Ext w0), m ≤ p.2.length ∧ i = .int .i64 m ∧ wr = y.val ∧ y.val.ownsRow w0.heap.size 3 1 v (([] : List Int) ++ some0 (p.2.take m)).length (ic (([] : List Int) ++ some0 (p.2.take m)))) (fun _ i _ => p.2.length - (intOf i).toNat)
      case atStart => exact ⟨0, yE, Nat.zero_le _, rfl, rfl, oE⟩
      case round =>
        clear oE
        obtain ⟨m, y, hm, rfl, rfl, hown⟩ := hrel
        by_cases hlt : m < p.2.length
        · obtain ⟨b, o, rfl, _, hc⟩ := rp.2.int hlt
          have C0 := Ext.old hc
          have hge := geH V hlt
          have gP := hide (gather_pos (a := ([] : List Int)) hlt)
          have gZ := hide (gather_zero (a := ([] : List Int)) hlt)
          have i0 : (0 : Int) ≤ (m : Int) := by omega
          have i1 : (m : Int) < (p.2.length : Int) := by omega
          generalize p.2[m] = u at *
          clear hc
          by_cases hu : u = 0
          · have t1 : decide (u > 0) = false := by simp; omega
            have hst := hide (gZ.out hu)
            clear gP gZ hu
            go_wp2_with fail
            go_roundw
            case rel => exact ⟨m + 1, y, by omega, by go_num, rfl, by rw [hst.out]; exact hown⟩
            case measure => first | (simp [intOf]; done) | (simp [intOf]; omega)
          · have t1 : decide (u > 0) = true := by simp; omega
            obtain ⟨g1, g2⟩ := gP.out hu
            have g1 := hide g1
            have g2 := hide g2
            clear gP gZ hu hge
            have hle : (([] : List Int) ++ some0 (p.2.take m)).length ≤ m := by simpa using some0_le p.2 m
            have hzy := y.below.size
            have bA := y.below.alloc y.below.size (.cells #[.int .i64 u] 3)
            go_wp2_with (at_builtin; refine wpList_append_any intElem rfl _ _ rfl w0.heap.size (y.val.heap.size + 1) _ _ _ rfl (hown.alloc _) (some ⟨y.val.heap.size, 0, none⟩) 1 1 rfl (ic [u]) rfl (((Row.new y.val 3 #[.int .i64 u]).rd).mono (by simp)) (fun h => by cases h) (ic_one _) (by omega) (by omega) (by simp; omega) ?_; intro v9 w9 hap; have b9 := bA.trans (hap.below (hown.alloc _) (by simp; omega)); have ho9 := hap.1; clear hap)
            go_roundw
            case rel => exact ⟨m + 1, ⟨w9, b9⟩, by omega, by go_num, rfl, by rw [g1.out, g2.out]; exact ho9⟩
            case measure => first | (simp [intOf]; done) | (simp [intOf]; omega)
        · obtain rfl : m = p.2.length := by omega
          rw [List.take_length] at hown
          rw [show ([] : List Int) ++ some0 p.2 = some0 p.2 ++ some0 (p.1.take 0) by simp [some0]] at hown
          go_wp2_with fail
          go_loopw [10, 12] (fun v i wr => ∃ (m : Nat) (y : Ext w0), m ≤ p.1.length ∧ i = .int .i64 m ∧ wr = y.val ∧ y.val.ownsRow w0.heap.size 3 1 v (some0 p.2 ++ some0 (p.1.take m)).length (ic (some0 p.2 ++ some0 (p.1.take m)))) (fun _ i _ => p.1.length - (intOf i).toNat)
          case atStart => exact ⟨0, y, Nat.zero_le _, rfl, rfl, hown⟩
          case round =>
            clear hown
            obtain ⟨m, y, hm, rfl, rfl, hown⟩ := hrel
            by_cases hlt : m < p.1.length
            · obtain ⟨b, o, rfl, _, hc⟩ := rp.1.int hlt
              have C0 := Ext.old hc
              have hge := geL V hlt
              have gP := hide (gather_pos (a := (some0 p.2)) hlt)
              have gZ := hide (gather_zero (a := (some0 p.2)) hlt)
              have i0 : (0 : Int) ≤ (m : Int) := by omega
              have i1 : (m : Int) < (p.1.length : Int) := by omega
              generalize p.1[m] = u at *
              clear hc
              by_cases hu : u = 0
              · have t1 : decide (u > 0) = false := by simp; omega
                have hst := hide (gZ.out hu)
                clear gP gZ hu
                go_wp2_with fail
                go_roundw
                case rel => exact ⟨m + 1, y, by omega, by go_num, rfl, by rw [hst.out]; exact hown⟩
                case measure => first | (simp [intOf]; done) | (simp [intOf]; omega)
              · have t1 : decide (u > 0) = true := by simp; omega
                obtain ⟨g1, g2⟩ := gP.out hu
                have g1 := hide g1
                have g2 := hide g2
                clear gP gZ hu hge
                have hle := gather_le p.2 p.1 m
                have hzy := y.below.size
                have bA := y.below.alloc y.below.size (.cells #[.int .i64 u] 3)
                go_wp2_with (at_builtin; refine wpList_append_any intElem rfl _ _ rfl w0.heap.size (y.val.heap.size + 1) _ _ _ rfl (hown.alloc _) (some ⟨y.val.heap.size, 0, none⟩) 1 1 rfl (ic [u]) rfl (((Row.new y.val 3 #[.int .i64 u]).rd).mono (by simp)) (fun h => by cases h) (ic_one _) (by omega) (by omega) (by simp; omega) ?_; intro v9 w9 hap; have b9 := bA.trans (hap.below (hown.alloc _) (by simp; omega)); have ho9 := hap.1; clear hap)
                go_roundw
                case rel => exact ⟨m + 1, ⟨w9, b9⟩, by omega, by go_num, rfl, by rw [g1.out, g2.out]; exact ho9⟩
                case measure => first | (simp [intOf]; done) | (simp [intOf]; omega)
            · obtain rfl : m = p.1.length := by omega
              rw [List.take_length] at hown
              have hle := gather_le p.2 p.1 p.1.length
              rw [List.take_length] at hle
              have HT := hide (leaveAll_top V)
              unfold topOrder at HT
              generalize some0 p.2 ++ some0 p.1 = tz at *
              obtain ⟨A9, c9, hv9, oO, hc9, _⟩ := own_room2 hown
              have rO := oO.rd
              subst hv9
              clear hown oO
              go_wp2_with fail
              refine (leaveAll_any L L' A9 _ _ c9 p tz _ hp.out (by omega) hc9 (rp.up (Ext.below _)) rO).mono ?_
              rw [HT.out]
              rintro e w' ⟨rfl, b⟩
              obtain ⟨y5, rfl⟩ := ext_next b
              clear b
              obtain ⟨f1, f2⟩ := hF.out
              have hge0 := hge0.out
              clear HT hF
              have bx := via bb (Ext.below y5) bb.size
              by_cases hx : x = 0
              · obtain ⟨rfl, rfl⟩ := f2 hx
                subst hx
                clear f1 f2
                go_wp2
                go_ret
                exact ⟨rfl, bx⟩
              · have t2 : decide (x > 0) = true := by simp; omega
                have t2' : decide (0 < x) = true := by simp; omega
                cases ok
                · clear f1 f2 hx hge0
                  go_wp2
                  go_ret
                  exact ⟨rfl, bx⟩
                · have t3 : decide (n ≥ x) = true := by simp; exact f1 rfl
                  have t3' : decide (x ≤ n) = true := by simp; exact f1 rfl
                  clear f1 f2 hx hge0
                  go_wp2
                  go_ret
                  exact ⟨rfl, bx⟩
namespace FnLeaveAll
set_option maxRecDepth 100000 in
theorem lifted (os : Os) (started : os.Started) (H : Type) (enc : TypeId × Value → H) :
    ReturnsInHanded {} Tryd.checked os 14 .any (fun w args => (Rows.fnLeaveAllSpec.pre enc Tryd.prog Tryd.f14 [] false w args ∧ laidMetH Tryd.prog Rows.fnLeaveAllRow.laid w) ∧ sizedMet enc Tryd.prog Tryd.f14 (OpenSpec.ofChange Rows.fnLeaveAllSpec) false w args) (Rows.fnLeaveAllSpec.post enc Tryd.prog Tryd.f14 false true false false) := by
  refine returnsInHanded_of_change_and (C := Tryd.checked) (X := fun w _ => laidMetH Tryd.prog Rows.fnLeaveAllRow.laid w) (fun _ _ _ hh h => h.of_heap hh) own started (by kernel_rfl) Tryd.func14
    (ChangeSpec.witness_shaped (enc := enc) (C := Tryd.checked) (os := os) (X := fun w _ => laidMetH Tryd.prog Rows.fnLeaveAllRow.laid w) false (World.laidAll Tryd.prog os Rows.fnLeaveAllRow.laid) #[.slice none 0 0] 8 (World.laidAll_os _ _ _)
      (World.shaped_of_ZipB (by kernel_rfl) (by kernel_rfl)) (by kernel_rfl) (by kernel_rfl) (by kernel_rfl)
      (by rw [MakeChecks.laidMetH_plain _ _ _ (by kernel_rfl)]; exact laidMet_laidAll _ (by kernel_rfl) (by kernel_rfl))) ?_
  intro W base args ds gs before hval0 hW _ _ _ _
  have hval : ∀ (j : Nat) t v, Tryd.f14.params[j]? = some t → args[j]? = some v → Value.okWide Tryd.prog W .any base t v := hval0
  have hW' := hW
  obtain ⟨p, q, hA0, hV, rfl, hfz, hnd⟩ := hW
  have hA : DataW.TrodAll enc Tryd.prog W 0 (fun _ => true) true Tryd.f14.params.toList args.toList ds p := hA0
  rw [Tryd.params14] at hA hval
  obtain ⟨v0, vs0, d0, ds0, p0, q0, hargs, rfl, rfl, h0, r0⟩ := trodAll_cons hA
  obtain ⟨rfl, rfl, rfl⟩ := trodAll_nil r0
  obtain rfl : args = #[v0] := by cases args; simp_all
  obtain ⟨rfl, rfl⟩ := trodVars_none hV
  have lt0 : ∀ x ∈ p0, x.block < W.heap.size := by obtain ⟨m, hm⟩ := h0; exact DataW.trod_lt m _ _ _ hm
  obtain ⟨A0, n0, c0, z0, rfl, rfl, k0, m0, wf0, rd0⟩ := op_ints Tryd.underlying22 Tryd.underlying5 (by kernel_rfl) (hval 0 22 v0 rfl rfl) h0
  clear hA0 hval0
  refine (w_FnLeaveAll W A0 c0 z0 k0 m0 wf0 rd0).mono fun e W' ⟨he, bel⟩ => ?_
  subst he
  exact ⟨_, rfl, _, _, _, [], _, [], hW', trodAll_mk1 (shut_bool Tryd.underlying4 _), (trodAll_cons_mk (Below.trod laidOut (by kernel_rfl) (of_decide_eq_true (by kernel_rfl)) h0 bel lt0) trodAll_mk0), rfl, bel.frame _, fun h => by cases h⟩
theorem closed : joinedFacts Tryd.prog 14 Tryd.f14 Rows.fnLeaveAllSpec Rows.fnLeaveAllRow = true := by
  unfold joinedFacts
  rw [mayEnter, liftsFinal, progMake]
  kernel_rfl
theorem over : Rows.fnLeaveAllRow.holds Tryd.pinned (OpenSpec.ofChange Rows.fnLeaveAllSpec) :=
  OpenClaim.holds_of_wide 14 Tryd.f14 rfl rfl rfl rfl rfl rfl rfl ⟨rfl, rfl, rfl, rfl, rfl⟩ rfl rfl rfl rfl rfl (by kernel_rfl) Tryd.func14 closed
    (of_decide_eq_true (by kernel_rfl)) (by unfold Func.isWrapper; first | (rw [if_pos (by decide +kernel)]; kernel_rfl) | (rw [if_neg (by decide +kernel)]; exact ⟨rfl, rfl⟩))
    (fun os started H enc _ => lifted os started H enc)
set_option maxRecDepth 100000 in
theorem carded : Rows.FnLeaveAllCardSaid :=
  Claim7.holds_tied_plain_at .later [] _ true Rows.fnLeaveAllCard.stood.harness false over (fun _ h => by cases h) (by kernel_rfl) (fun _ h => by cases h) fnLeaveAll_row_tie rfl ⟨rfl, rfl⟩ mainIs rfl
    (fun f fn hf hfn => by
      obtain rfl : f = 14 := Option.some.inj ((show Tryd.prog.funcNamed Rows.fnLeaveAllRow.func = some 14 by kernel_rfl).symm.trans hf) |>.symm
      obtain rfl : fn = Tryd.f14 := (Option.some.inj (Tryd.func14.symm.trans hfn)).symm
      exact ⟨noLooks, fun j t ht => by
        rw [Tryd.params14] at ht
        have hm : t ∈ [22] := by simpa using Array.mem_of_getElem? ht
        have hall : ([22].all fun u => !Tryd.prog.wantsStandIn u) = true := by kernel_rfl
        exact (show Tryd.prog.wantsStandIn t = false by simpa using List.all_eq_true.1 hall t hm)⟩)
    (by kernel_rfl)
theorem proved : Rows.FnLeaveAllCardSaid := carded
end FnLeaveAll
end Go.Proofs.YtpiiefmfiipabaaDoor
