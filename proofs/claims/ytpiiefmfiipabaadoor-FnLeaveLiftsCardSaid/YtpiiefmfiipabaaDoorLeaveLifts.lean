/- LeaveLifts, the program's and the reference's. No conditions but bounds on lengths. -/
import Derived.Test.YtpiiefmfiipabaaDoorLeave
import Derived.IntWalk
namespace Go.Proofs.YtpiiefmfiipabaaDoor
open Go.ChangeShapes Go.WideShapes Go.ChangeAt Go.RowKit Go.Deep
theorem need_at {p : PL} {z : List Int} {k : Nat} (hs : p.2.length + 1 = p.1.length) (h : k < p.2.length) : leaveNeed p z k = (decide (p.2[k] ≠ 0) && (decide (z.idxOf (p.1[k]'(by omega)) < z.idxOf p.2[k]) || decide (z.idxOf (p.1[k + 1]'(by omega)) < z.idxOf p.2[k]))) := by
  unfold leaveNeed
  rw [getD_mem h, getD_mem (show k < p.1.length by omega), getD_mem (show k + 1 < p.1.length by omega)]
theorem leaveLifts_no {p : PL} {z : List Int} (h : leaveOk p z = false) : leaveLifts p z = -1 := by unfold leaveLifts; rw [h]; rfl
theorem leaveLifts_yes {p : PL} {z : List Int} (h : leaveOk p z = true) : leaveLifts p z = (needN p z p.2.length : Int) := by unfold leaveLifts; rw [if_pos h]
theorem need_yes {p : PL} {z : List Int} {k : Nat} (h : leaveNeed p z k = true) : needN p z (k + 1) = needN p z k + 1 := by rw [needN_succ, if_pos h]
theorem need_no {p : PL} {z : List Int} {k : Nat} (h : leaveNeed p z k = false) : needN p z (k + 1) = needN p z k := by rw [needN_succ, if_neg (by simp [h])]; omega
set_option maxHeartbeats 1600000 in
theorem leaveLifts_any (A A' B : Option Addr) (c c' d : Nat) (p : PL) (z : List Int) (w : World) (hp : small p) (hz : z.length ≤ 1099511627776) (hd : z.length ≤ d) (rp : RdP w w.heap.size A A' p) (rz : Rd w w.heap.size B (ic z)) :
    Calls Tryd.prog 54 #[.agg #[.slice A p.1.length c, .slice A' p.2.length c'], .slice B z.length d] w fun e w' => e = .returned (.int .i64 (leaveLifts p z)) ∧ Below w.heap.size w w' := by
  have hE := hide hp
  go_enter Tryd.func54, Tryd.ntmps54
  go_wp2_with fail
  obtain ⟨b0, k0, k1, hzz⟩ := box_one w 25 (.slice A p.1.length c) (.slice A' p.2.length c') _ rfl
  generalize w.alloc (.cells #[.slice A p.1.length c, .slice A' p.2.length c'] 25) = w0 at *
  have K0 := Ext.old k0
  have K1 := Ext.old k1
  have rp0 := rp.up b0
  have rz0 := rz.up b0
  refine (leaveOk_any A A' B c c' d p z w0 hE.out hz hd rp0 rz0).mono ?_
  rintro e w1 ⟨rfl, b1⟩
  obtain ⟨x1, rfl⟩ : ∃ y : Ext w0, w1 = y.val := ⟨⟨w1, b1⟩, rfl⟩
  clear b1
  cases hok : leaveOk p z
  · have HF := hide (leaveLifts_no hok)
    go_wp2
    go_ret
    exact ⟨ret_int HF.out.symm, via b0 (Ext.below _) b0.size⟩
  · have HF := hide (leaveLifts_yes hok)
    have hv := leaveOk_all.1 hok
    have V := hv.1
    obtain ⟨z1, z2, z3⟩ := pileValid_size ((vd_iff p).2 V)
    have HV := hide V
    clear hok hv V k0 k1 hzz
    go_wp2
    go_loopw [5, 6, 7, 8, 16] (fun n _ _ _ i wr => ∃ (k : Nat) (x : Ext w0), k ≤ p.2.length ∧ i = .int .i64 k ∧ wr = x.val ∧ n = .int .i64 (needN p z k : Int)) (fun _ _ _ _ i _ => p.2.length - (intOf i).toNat)
    case atStart => exact ⟨0, _, Nat.zero_le _, rfl, rfl, rfl⟩
    case round =>
      obtain ⟨k, xr, hk, rfl, rfl, rfl⟩ := hrel
      by_cases hlt : k < p.2.length
      · skip
        obtain ⟨b, o, hA, _, hc⟩ := rp0.2.int hlt
        have hka : k < p.1.length := by omega
        have hkb : k + 1 < p.1.length := by omega
        obtain ⟨ba, oa, hA1, _, hca⟩ := rp0.1.int hka
        obtain ⟨bb', ob, hA2, _, hcb⟩ := rp0.1.int hkb
        subst hA hA1
        injection hA2 with hA2
        injection hA2 with h3 h4
        subst h3 h4
        have hc := Ext.old hc
        have hca := Ext.old hca
        have hcb := Ext.old hcb
        have i0 : (0 : Int) ≤ (k : Int) := by omega
        have ih : (k : Int) < (p.2.length : Int) := by omega
        have i1 : (k : Int) < (p.1.length : Int) := by omega
        have i2 : (k : Int) + 1 < (p.1.length : Int) := by omega
        have i3 : (0 : Int) ≤ (k : Int) + 1 := by omega
        have i4 : ((k : Int) + 1).toNat = k + 1 := by omega
        have HN := hide (need_at (z := z) z3 hlt)
        have hbd := needN_le p z k
        by_cases h0 : p.2[k] = 0
        · have HY := hide (need_no (p := p) (z := z) (k := k) (by rw [HN.out, h0]; rfl))
          have t0 : (p.2[k] == 0) = true := by simp [h0]
          clear h0
          go_wp2
          go_roundw
          case rel => exact ⟨k + 1, xr, by omega, by go_num, rfl, by rw [HY.out]⟩
          case measure => simp [intOf]; omega
        · have t0 : (p.2[k] == 0) = false := by simp [h0]
          by_cases h1 : z.idxOf p.1[k] < z.idxOf p.2[k]
          · have HY := hide (need_yes (p := p) (z := z) (k := k) (by rw [HN.out]; simp [h0, h1]))
            clear h0
            go_wp2_with (go_at_call 89; refine (turn_any _ _ _ _ _ hz (rz0.up (Ext.below _))).mono ?_; rintro e w' ⟨rfl, rfl⟩)
            go_roundw
            case rel => exact ⟨k + 1, xr, by omega, by go_num, rfl, by rw [HY.out]; go_num⟩
            case measure => simp [intOf]; omega
          · by_cases h2 : z.idxOf p.1[k + 1] < z.idxOf p.2[k]
            · have HY := hide (need_yes (p := p) (z := z) (k := k) (by rw [HN.out]; simp [h0, h2]))
              clear h0
              go_wp2_with (go_at_call 89; refine (turn_any _ _ _ _ _ hz (rz0.up (Ext.below _))).mono ?_; rintro e w' ⟨rfl, rfl⟩)
              go_roundw
              case rel => exact ⟨k + 1, xr, by omega, by go_num, rfl, by rw [HY.out]; go_num⟩
              case measure => simp [intOf]; omega
            · have HY := hide (need_no (p := p) (z := z) (k := k) (by rw [HN.out]; simp [h1, h2]))
              clear h0
              go_wp2_with (go_at_call 89; refine (turn_any _ _ _ _ _ hz (rz0.up (Ext.below _))).mono ?_; rintro e w' ⟨rfl, rfl⟩)
              go_roundw
              case rel => exact ⟨k + 1, xr, by omega, by go_num, rfl, by rw [HY.out]⟩
              case measure => simp [intOf]; omega
      · have hkp : k = p.2.length := by omega
        subst hkp
        go_wp2
        go_ret
        exact ⟨ret_int HF.out.symm, via b0 (Ext.below _) b0.size⟩
set_option maxHeartbeats 1600000 in
theorem leaveLifts_spec (A A' B : Option Addr) (c c' d : Nat) (p : PL) (z : List Int) (w : World) (hp : small p) (hz : z.length ≤ 1099511627776) (hd : z.length ≤ d) (rp : RdP w w.heap.size A A' p) (rz : Rd w w.heap.size B (ic z)) :
    Calls Tryd.prog 55 #[.agg #[.slice A p.1.length c, .slice A' p.2.length c'], .slice B z.length d] w fun e w' => e = .returned (.int .i64 (leaveLifts p z)) ∧ Below w.heap.size w w' := by
  have hE := hide hp
  go_enter Tryd.func55, Tryd.ntmps55
  go_wp2_with fail
  obtain ⟨b0, k0, k1, hzz⟩ := box_one w 25 (.slice A p.1.length c) (.slice A' p.2.length c') _ rfl
  generalize w.alloc (.cells #[.slice A p.1.length c, .slice A' p.2.length c'] 25) = w0 at *
  have K0 := Ext.old k0
  have K1 := Ext.old k1
  have rp0 := rp.up b0
  have rz0 := rz.up b0
  refine (leaveOk_spec A A' B c c' d p z w0 hE.out hz hd rp0 rz0).mono ?_
  rintro e w1 ⟨rfl, b1⟩
  obtain ⟨x1, rfl⟩ : ∃ y : Ext w0, w1 = y.val := ⟨⟨w1, b1⟩, rfl⟩
  clear b1
  cases hok : leaveOk p z
  · have HF := hide (leaveLifts_no hok)
    go_wp2
    go_ret
    exact ⟨ret_int HF.out.symm, via b0 (Ext.below _) b0.size⟩
  · have HF := hide (leaveLifts_yes hok)
    have hv := leaveOk_all.1 hok
    have V := hv.1
    obtain ⟨z1, z2, z3⟩ := pileValid_size ((vd_iff p).2 V)
    have HV := hide V
    clear hok hv V k0 k1 hzz
    go_wp2
    go_loopw [5, 6] (fun n i wr => ∃ (k : Nat) (x : Ext w0), k ≤ p.2.length ∧ i = .int .i64 k ∧ wr = x.val ∧ n = .int .i64 (needN p z k : Int)) (fun _ i _ => p.2.length - (intOf i).toNat)
    case atStart => exact ⟨0, _, Nat.zero_le _, rfl, rfl, rfl⟩
    case round =>
      obtain ⟨k, xr, hk, rfl, rfl, rfl⟩ := hrel
      by_cases hlt : k < p.2.length
      · skip
        obtain ⟨b, o, hA, _, hc⟩ := rp0.2.int hlt
        have hka : k < p.1.length := by omega
        have hkb : k + 1 < p.1.length := by omega
        obtain ⟨ba, oa, hA1, _, hca⟩ := rp0.1.int hka
        obtain ⟨bb', ob, hA2, _, hcb⟩ := rp0.1.int hkb
        subst hA hA1
        injection hA2 with hA2
        injection hA2 with h3 h4
        subst h3 h4
        have hc := Ext.old hc
        have hca := Ext.old hca
        have hcb := Ext.old hcb
        have i0 : (0 : Int) ≤ (k : Int) := by omega
        have ih : (k : Int) < (p.2.length : Int) := by omega
        have i1 : (k : Int) < (p.1.length : Int) := by omega
        have i2 : (k : Int) + 1 < (p.1.length : Int) := by omega
        have i3 : (0 : Int) ≤ (k : Int) + 1 := by omega
        have i4 : ((k : Int) + 1).toNat = k + 1 := by omega
        have HN := hide (need_at (z := z) z3 hlt)
        have hbd := needN_le p z k
        have hge : 0 ≤ p.2[k] := by have := (HV.out.rng (true, k)).1; rwa [cl_high, getD_mem hlt] at this
        by_cases h0 : p.2[k] = 0
        · have HY := hide (need_no (p := p) (z := z) (k := k) (by rw [HN.out, h0]; rfl))
          have t0 : decide (p.2[k] > 0) = false := by simp [h0]
          have t1 : decide (0 < p.2[k]) = false := by simp [h0]
          clear h0 hge
          go_wp2
          refine wp_region_in (by kernel_rfl) (by kernel_rfl) ?_
          repeat (go_big_quiet_step (fail))
          refine wpQuiet_nil ?_
          intro _ hw'
          obtain ⟨xq, hw''⟩ := hw'
          subst hw''
          go_wp2
          go_roundw
          case rel => exact ⟨k + 1, _, by omega, by go_num, rfl, by rw [HY.out]⟩
          case measure => simp [intOf]; omega
        · have t0 : decide (p.2[k] > 0) = true := by simp; omega
          have t1 : decide (0 < p.2[k]) = true := by simp; omega
          have j1 : IntKind.i64.wrap ((k : Int) + 1) = (k : Int) + 1 := IntWalk.i64_in _ (by omega)
          by_cases h1 : z.idxOf p.1[k] < z.idxOf p.2[k] ∨ z.idxOf p.1[k + 1] < z.idxOf p.2[k]
          · have HY := hide (need_yes (p := p) (z := z) (k := k) (by rw [HN.out]; simp [h0, h1]))
            clear h0 hge
            go_wp2
            refine wp_region_in (by kernel_rfl) (by kernel_rfl) ?_
            repeat (go_big_quiet_step ((go_at_call 90; refine ext_same rfl (turn_spec _ _ _ _ _ hz (rz0.up (Ext.below _))))))
            refine wpQuiet_nil ?_
            intro _ hw'
            obtain ⟨xq, hw''⟩ := hw'
            subst hw''
            clear j1
            go_wp2
            go_roundw
            case rel => exact ⟨k + 1, _, by omega, by go_num, rfl, by rw [HY.out]; go_num⟩
            case measure => simp [intOf]; omega
          · have h2 := not_or.1 h1
            have HY := hide (need_no (p := p) (z := z) (k := k) (by rw [HN.out]; simp [h2.1, h2.2]))
            clear h0 hge
            obtain ⟨h2, h3⟩ := h2
            clear h1
            go_wp2
            refine wp_region_in (by kernel_rfl) (by kernel_rfl) ?_
            repeat (go_big_quiet_step ((go_at_call 90; refine ext_same rfl (turn_spec _ _ _ _ _ hz (rz0.up (Ext.below _))))))
            refine wpQuiet_nil ?_
            intro _ hw'
            obtain ⟨xq, hw''⟩ := hw'
            subst hw''
            clear j1
            go_wp2
            go_roundw
            case rel => exact ⟨k + 1, _, by omega, by go_num, rfl, by rw [HY.out]⟩
            case measure => simp [intOf]; omega
      · have hkp : k = p.2.length := by omega
        subst hkp
        go_wp2
        go_ret
        exact ⟨ret_int HF.out.symm, via b0 (Ext.below _) b0.size⟩
end Go.Proofs.YtpiiefmfiipabaaDoor
