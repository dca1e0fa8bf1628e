/- LeaveOk and LeaveLifts, the program's and the reference's. No conditions but bounds on lengths. -/
import Derived.Test.YtpiiefmfiipabaaDoorCoil
import Derived.Test.YtpiiefmfiipabaaDoorBoxes
namespace Go.Proofs.YtpiiefmfiipabaaDoor
open Go.ChangeShapes Go.WideShapes Go.ChangeAt Go.RowKit Go.Deep
def okA (p : PL) (z : List Int) (k : Nat) : Bool := (coilFind p (z.getD k 0)).isSome && decide (z.getD k 0 ∉ z.take k)
theorem okA_at {p : PL} {z : List Int} {k : Nat} (h : k < z.length) : okA p z k = ((coilFind p z[k]).isSome && decide (z[k] ∉ z.take k)) := by
  unfold okA; rw [getD_mem h]
theorem leaveOk_yes {p : PL} {z : List Int} (hv : pileValid p = true) (h : ∀ j, j < z.length → okA p z j = true) : leaveOk p z = true := by
  unfold leaveOk; rw [hv, Bool.true_and, List.all_eq_true]; intro k hk; exact h k (List.mem_range.1 hk)
theorem leaveOk_no {p : PL} {z : List Int} {k : Nat} (hk : k < z.length) (h : okA p z k = false) : leaveOk p z = false := by
  cases e : leaveOk p z
  · rfl
  · unfold leaveOk at e
    rw [Bool.and_eq_true, List.all_eq_true] at e
    have := e.2 k (List.mem_range.2 hk)
    rw [show okA p z k = true from this] at h; cases h
theorem leaveOk_inv {p : PL} {z : List Int} (hv : pileValid p = false) : leaveOk p z = false := by unfold leaveOk; rw [hv]; rfl
set_option maxHeartbeats 1600000 in
theorem leaveOk_any (A A' B : Option Addr) (c c' d : Nat) (p : PL) (z : List Int) (w : World) (hp : small p) (hz : z.length ≤ 1099511627776) (hd : z.length ≤ d) (rp : RdP w w.heap.size A A' p) (rz : Rd w w.heap.size B (ic z)) :
    Calls Tryd.prog 26 #[.agg #[.slice A p.1.length c, .slice A' p.2.length c'], .slice B z.length d] w fun e w' => e = .returned (.bool (leaveOk p z)) ∧ Below w.heap.size w w' := by
  have hE := hide hp
  go_enter Tryd.func26, Tryd.ntmps26
  go_wp2_with fail
  obtain ⟨b0, k0, k1, hzz⟩ := box_one w 25 (.slice A p.1.length c) (.slice A' p.2.length c') _ rfl
  generalize w.alloc (.cells #[.slice A p.1.length c, .slice A' p.2.length c'] 25) = w0 at *
  have K0 := Ext.old k0
  have K1 := Ext.old k1
  have RP := hide (fun x : Ext w0 => (rp.up b0).up x.below)
  have rz0 := rz.up b0
  obtain ⟨x0, hx0⟩ := ext_self w0
  rw [← hx0]
  clear hx0 k0 k1 hzz
  cases hv : pileValid p
  · have HF := hide (leaveOk_inv (z := z) hv)
    go_wp2_with (go_at_call 18; refine (pileValid_any A A' c c' p _ hE.out (RP.out _)).mono ?_; rintro e w' ⟨rfl, b⟩; rw [hv]; obtain ⟨x, rfl⟩ := ext_next b; clear b)
    go_ret
    exact ⟨ret_bool HF.out.symm, via b0 (Ext.below _) b0.size⟩
  · have HV := hide hv
    clear hv
    go_wp2_with (go_at_call 18; refine (pileValid_any A A' c c' p _ hE.out (RP.out _)).mono ?_; rintro e w' ⟨rfl, b⟩; rw [HV.out]; obtain ⟨x, rfl⟩ := ext_next b; clear b)
    go_loopw [5, 6, 7, 8, 14] (fun _ _ _ _ i wr => ∃ (k : Nat) (x : Ext w0), k ≤ z.length ∧ i = .int .i64 k ∧ wr = x.val ∧ Hid (∀ j, j < k → okA p z j = true)) (fun _ _ _ _ i _ => z.length - (intOf i).toNat)
    case atStart => exact ⟨0, _, Nat.zero_le _, rfl, rfl, fun j hj => absurd hj (Nat.not_lt_zero _)⟩
    case round =>
      obtain ⟨k, xr, hk, rfl, rfl, HT⟩ := hrel
      by_cases hlt : k < z.length
      · obtain ⟨bb, oo, hA, _, hc⟩ := rz0.int hlt
        have hc := Ext.old hc
        have HO := hide (okA_at (p := p) hlt)
        have htk : (z.take k).length = k := by simp; omega
        have rt := rz0.take k
        subst hA
        have HS := hide (fun c c' w hp rp => coilFind_any A A' c c' p z[k] w hp rp)
        unfold SpotOk at HS
        generalize (findV p z[k]).1 = ft at *
        generalize (findV p z[k]).2 = fk at *
        cases hf : (coilFind p z[k]).isSome
        · rw [hf] at HS
          have HF := hide (leaveOk_no hlt (by rw [HO.out, hf]; rfl))
          clear hf
          go_wp2_with (go_at_call 24; refine (HS.out c c' _ hE.out (RP.out _)).mono ?_; rintro e w' ⟨rfl, b⟩; obtain ⟨x, rfl⟩ := ext_next b; clear b)
          go_ret
          exact ⟨ret_bool HF.out.symm, via b0 (by first | exact Ext.below _ | exact (Ext.below _).drew | exact (Ext.below _).alloc (Ext.below _).size _ | exact ((Ext.below _).alloc (Ext.below _).size _).drew) b0.size⟩
        · rw [hf] at HS
          by_cases hm : z[k] ∈ z.take k
          · have HF := hide (leaveOk_no hlt (by rw [HO.out, hf]; simp [hm]))
            have HM := hide (show decide (z[k] ∈ z.take k) = true from decide_eq_true hm)
            clear hf hm
            go_wp2_with (first | (go_at_call 24; refine (HS.out c c' _ hE.out (RP.out _)).mono ?_; rintro e w' ⟨rfl, b⟩; obtain ⟨x, rfl⟩ := ext_next b; clear b) | (go_at_call 69; refine (contains_at _ _ _ _ _ _ htk (by omega) (rt.up (by first | exact Ext.below _ | exact (Ext.below _).drew | exact (Ext.below _).alloc (Ext.below _).size _ | exact ((Ext.below _).alloc (Ext.below _).size _).drew))).mono ?_; rintro e w' ⟨rfl, rfl⟩; rw [HM.out]))
            go_ret
            exact ⟨ret_bool HF.out.symm, via b0 (by first | exact Ext.below _ | exact (Ext.below _).drew | exact (Ext.below _).alloc (Ext.below _).size _ | exact ((Ext.below _).alloc (Ext.below _).size _).drew) b0.size⟩
          · have HY := hide (upto_succ HT.out (by rw [HO.out, hf]; simp [hm]))
            have HM := hide (show decide (z[k] ∈ z.take k) = false from decide_eq_false hm)
            clear hf hm
            go_wp2_with (first | (go_at_call 24; refine (HS.out c c' _ hE.out (RP.out _)).mono ?_; rintro e w' ⟨rfl, b⟩; obtain ⟨x, rfl⟩ := ext_next b; clear b) | (go_at_call 69; refine (contains_at _ _ _ _ _ _ htk (by omega) (rt.up (by first | exact Ext.below _ | exact (Ext.below _).drew | exact (Ext.below _).alloc (Ext.below _).size _ | exact ((Ext.below _).alloc (Ext.below _).size _).drew))).mono ?_; rintro e w' ⟨rfl, rfl⟩; rw [HM.out]))
            go_roundw
            case rel => exact ⟨k + 1, ⟨_, x.below.alloc x.below.size _⟩, by omega, by go_num, rfl, HY⟩
            case measure => simp [intOf]; omega
      · have HF := hide (leaveOk_yes HV.out fun j hj => HT.out j (by omega))
        go_wp2
        go_ret
        exact ⟨ret_bool HF.out.symm, via b0 (Ext.below _) b0.size⟩
set_option maxHeartbeats 1600000 in
theorem leaveOk_spec (A A' B : Option Addr) (c c' d : Nat) (p : PL) (z : List Int) (w : World) (hp : small p) (hz : z.length ≤ 1099511627776) (hd : z.length ≤ d) (rp : RdP w w.heap.size A A' p) (rz : Rd w w.heap.size B (ic z)) :
    Calls Tryd.prog 27 #[.agg #[.slice A p.1.length c, .slice A' p.2.length c'], .slice B z.length d] w fun e w' => e = .returned (.bool (leaveOk p z)) ∧ Below w.heap.size w w' := by
  have hE := hide hp
  go_enter Tryd.func27, Tryd.ntmps27
  go_wp2_with fail
  obtain ⟨b0, k0, k1, hzz⟩ := box_one w 25 (.slice A p.1.length c) (.slice A' p.2.length c') _ rfl
  generalize w.alloc (.cells #[.slice A p.1.length c, .slice A' p.2.length c'] 25) = w0 at *
  have K0 := Ext.old k0
  have K1 := Ext.old k1
  have RP := hide (fun x : Ext w0 => (rp.up b0).up x.below)
  have rp0 := rp.up b0
  have rz0 := rz.up b0
  go_loopw [5, 6, 7] (fun i _ _ wr => ∃ (k : Nat) (x : Ext w0), k ≤ z.length ∧ i = .int .i64 k ∧ wr = x.val ∧ Hid (∀ j, j < k → okA p z j = true)) (fun i _ _ _ => z.length - (intOf i).toNat)
  case atStart => exact ⟨0, Ext.base w0, Nat.zero_le _, rfl, rfl, fun j hj => absurd hj (Nat.not_lt_zero _)⟩
  case round =>
    obtain ⟨k, xr, hk, rfl, rfl, HT⟩ := hrel
    by_cases hlt : k < z.length
    · obtain ⟨bb, oo, hA, _, hc⟩ := rz0.int hlt
      have hc := Ext.old hc
      have HO := hide (okA_at (p := p) hlt)
      have htk : (z.take k).length = k := by simp; omega
      have rt := rz0.take k
      subst hA
      have i0 : (0 : Int) ≤ (k : Int) := by omega
      have i1 : (k : Int) < (z.length : Int) := by omega
      have HS := hide (fun c c' w hp rp => coilFind_spec A A' c c' p z[k] w hp rp)
      unfold SpotOk at HS
      generalize (findV p z[k]).1 = ft at *
      generalize (findV p z[k]).2 = fk at *
      generalize hfo : (coilFind p z[k]).isSome = fo at *
      go_wp2_with fail
      go_cut [6, 7] from 8 to 34 (fun _ o wx => o = .bool fo ∧ ∃ x : Ext w0, wx = x.val)
      case first =>
        go_region_held3 (fun w' => (w'.cell? ⟨w.heap.size, 0, none⟩ = some (.slice A p.1.length c) ∧ w'.cell? ⟨w.heap.size, 1, none⟩ = some (.slice A' p.2.length c')) ∧ w'.cell? ⟨bb, oo + k, none⟩ = some (.int .i64 z[k]))
          (refine ⟨⟨?_, ?_⟩, ?_⟩ <;> with_reducible first | exact K0 _ | exact K1 _ | exact hc _ | exact K0 ⟨_, (Ext.below _).drew⟩ | exact K1 ⟨_, (Ext.below _).drew⟩ | exact hc ⟨_, (Ext.below _).drew⟩ | exact K0 ⟨_, (Ext.below _).alloc (Ext.below _).size _⟩ | exact K1 ⟨_, (Ext.below _).alloc (Ext.below _).size _⟩ | exact hc ⟨_, (Ext.below _).alloc (Ext.below _).size _⟩ | exact K0 ⟨_, ((Ext.below _).alloc (Ext.below _).size _).drew⟩ | exact K1 ⟨_, ((Ext.below _).alloc (Ext.below _).size _).drew⟩ | exact hc ⟨_, ((Ext.below _).alloc (Ext.below _).size _).drew⟩ | exact K0 ⟨_, (((Ext.below _).setCell (Ext.below _).size _).setCell (Ext.below _).size _)⟩ | exact K1 ⟨_, (((Ext.below _).setCell (Ext.below _).size _).setCell (Ext.below _).size _)⟩ | exact hc ⟨_, (((Ext.below _).setCell (Ext.below _).size _).setCell (Ext.below _).size _)⟩)
          ((go_at_call 63; refine (HS.out c c' _ hE.out ?_).mono ?_; exact rp0.up (by first | exact Ext.below _ | exact (Ext.below _).drew | exact (Ext.below _).alloc (Ext.below _).size _ | exact ((Ext.below _).alloc (Ext.below _).size _).drew); rintro e w4 ⟨rfl, b4⟩; obtain ⟨x4, rfl⟩ : ∃ y : Ext w0, w4 = y.val := ⟨⟨w4, via (by first | exact Ext.below _ | exact (Ext.below _).drew | exact (Ext.below _).alloc (Ext.below _).size _ | exact ((Ext.below _).alloc (Ext.below _).size _).drew) b4 (by first | exact (Ext.below _).size | exact ((Ext.below _).alloc (Ext.below _).size _).size)⟩, rfl⟩; (first | (have qz := (Row.new _ _ _).after b4; obtain ⟨m0, m1⟩ := qz.boxed; have f0 := qz.frozen 0; have f1 := qz.frozen 1) | (have qz := ((Row.new _ _ _).drew).after b4; obtain ⟨m0, m1⟩ := qz.boxed; have f0 := qz.frozen 0; have f1 := qz.frozen 1) | skip)))
        all_goals
          go_wp2_with fail
          go_meet
          first
            | exact ⟨rfl, ⟨_, x4.below.alloc x4.below.size _⟩, rfl⟩
            | exact ⟨rfl, ⟨_, (x4.below.setCell xr.below.size _).setCell xr.below.size _⟩, rfl⟩
      case rest =>
        obtain ⟨rfl, xc, rfl⟩ := hcut
        cases fo
        · have HF := hide (leaveOk_no hlt (by rw [HO.out]; rfl))
          clear hfo
          go_wp2
          refine wp_region_in (by kernel_rfl) (by kernel_rfl) ?_
          repeat (go_big_quiet_step (fail))
          refine wpQuiet_nil ?_
          intro _ hw'
          obtain ⟨xq, hw''⟩ := hw'
          subst hw''
          go_wp2
          go_ret
          exact ⟨ret_bool HF.out.symm, via b0 (Ext.below _) b0.size⟩
        · by_cases hm : z[k] ∈ z.take k
          · have HF := hide (leaveOk_no hlt (by rw [HO.out]; simp [hm]))
            have HM := hide (show decide (z[k] ∈ z.take k) = true from decide_eq_true hm)
            clear hfo hm
            go_wp2
            refine wp_region_in (by kernel_rfl) (by kernel_rfl) ?_
            repeat (go_big_quiet_step ((go_at_call 71; refine ext_same (v := .bool true) (congrArg Value.bool HM.out) (has_at _ _ _ _ _ _ htk (by omega) (rt.up (Ext.below _))))))
            refine wpQuiet_nil ?_
            intro _ hw'
            obtain ⟨xq, hw''⟩ := hw'
            subst hw''
            go_wp2
            go_ret
            exact ⟨ret_bool HF.out.symm, via b0 (Ext.below _) b0.size⟩
          · have HY := hide (upto_succ HT.out (by rw [HO.out]; simp [hm]))
            have HM := hide (show decide (z[k] ∈ z.take k) = false from decide_eq_false hm)
            clear hfo hm
            go_wp2
            refine wp_region_in (by kernel_rfl) (by kernel_rfl) ?_
            repeat (go_big_quiet_step ((go_at_call 71; refine ext_same (v := .bool false) (congrArg Value.bool HM.out) (has_at _ _ _ _ _ _ htk (by omega) (rt.up (Ext.below _))))))
            refine wpQuiet_nil ?_
            intro _ hw'
            obtain ⟨xq, hw''⟩ := hw'
            subst hw''
            go_wp2
            go_roundw
            case rel => exact ⟨k + 1, _, by omega, by go_num, rfl, HY⟩
            case measure => simp [intOf]; omega
    · cases hv : pileValid p
      · have HF := hide (leaveOk_inv (z := z) hv)
        go_wp2_with (go_at_call 19; refine (pileValid_spec A A' c c' p _ hE.out (RP.out _)).mono ?_; rintro e w' ⟨rfl, b⟩; rw [hv]; obtain ⟨x, rfl⟩ := ext_next b; clear b)
        go_ret
        exact ⟨ret_bool HF.out.symm, via b0 (Ext.below _) b0.size⟩
      · have HF := hide (leaveOk_yes hv fun j hj => HT.out j (by omega))
        go_wp2_with (go_at_call 19; refine (pileValid_spec A A' c c' p _ hE.out (RP.out _)).mono ?_; rintro e w' ⟨rfl, b⟩; rw [hv]; obtain ⟨x, rfl⟩ := ext_next b; clear b)
        go_ret
        exact ⟨ret_bool HF.out.symm, via b0 (Ext.below _) b0.size⟩
/-- Where a coil stands in an order. -/
theorem idx_at {z : List Int} {x : Int} (h : x ∈ z) : idx z x = (z.idxOf x : Int) := by rw [idx, if_pos h]
theorem idx_off {z : List Int} {x : Int} (h : x ∉ z) : idx z x = -1 ∧ z.idxOf x = z.length := ⟨by rw [idx, if_neg h], List.idxOf_eq_length h⟩
theorem idxOf_bd (z : List Int) (x : Int) : z.idxOf x ≤ z.length := List.idxOf_le_length
theorem turn_any (B : Option Addr) (d : Nat) (z : List Int) (x : Int) (w : World) (hz : z.length ≤ 1099511627776) (rz : Rd w w.heap.size B (ic z)) :
    Calls Tryd.prog 89 #[.slice B z.length d, .int .i64 x] w fun e w' => e = .returned (.int .i64 (z.idxOf x : Int)) ∧ w = w' := by
  by_cases h : x ∈ z
  · have HI := hide (idx_at h)
    clear h
    go_enter Tryd.func89, Tryd.ntmps89
    go_wp2_with (go_at_call 78; refine (index_any _ _ _ _ _ hz rz).mono ?_; rintro e w' ⟨rfl, rfl⟩; rw [HI.out])
    go_ret
    exact ⟨rfl, rfl⟩
  · have HI := hide (idx_off h)
    clear h
    go_enter Tryd.func89, Tryd.ntmps89
    go_wp2_with (go_at_call 78; refine (index_any _ _ _ _ _ hz rz).mono ?_; rintro e w' ⟨rfl, rfl⟩; rw [HI.out.1])
    go_ret
    exact ⟨ret_int (by rw [HI.out.2]), rfl⟩
theorem turn_spec (B : Option Addr) (d : Nat) (z : List Int) (x : Int) (w : World) (hz : z.length ≤ 1099511627776) (rz : Rd w w.heap.size B (ic z)) :
    Calls Tryd.prog 90 #[.slice B z.length d, .int .i64 x] w fun e w' => e = .returned (.int .i64 (z.idxOf x : Int)) ∧ w = w' := by
  go_enter Tryd.func90, Tryd.ntmps90
  go_wp2
  go_loop [5] (fun i => ∃ k : Nat, k ≤ z.length ∧ i = .int .i64 k ∧ Hid (x ∉ z.take k)) (fun i => z.length - (intOf i).toNat)
  case atStart => exact ⟨0, Nat.zero_le _, rfl, by simp [Hid]⟩
  case round =>
    obtain ⟨k, hk, rfl, HT⟩ := hrel
    by_cases hlt : k < z.length
    · obtain ⟨b, o, hA, _, hc⟩ := rz.int hlt
      subst hA
      by_cases he : z[k] = x
      · have t1 : (z[k] == x) = true := by simp [he]
        have HI := hide (show z.idxOf x = k by have := idx_hit hlt (by rw [he]; exact HT.out); rw [he, idx, if_pos (he ▸ List.getElem_mem hlt)] at this; omega)
        clear he
        go_wp2
        go_ret
        exact ⟨ret_int (by rw [HI.out]), rfl⟩
      · have t1 : (z[k] == x) = false := by simp [he]
        have HY := hide (not_take_succ hlt HT.out (fun h => he h.symm))
        clear he
        go_wp2
        go_round
        case rel => exact ⟨k + 1, by omega, by go_num, HY⟩
        case measure => simp [intOf]; omega
    · have HI := hide (idx_off (z := z) (x := x) (by have := HT.out; rwa [List.take_of_length_le (by omega)] at this))
      go_wp2
      go_ret
      exact ⟨ret_int (by rw [HI.out.2]), rfl⟩
end Go.Proofs.YtpiiefmfiipabaaDoor
