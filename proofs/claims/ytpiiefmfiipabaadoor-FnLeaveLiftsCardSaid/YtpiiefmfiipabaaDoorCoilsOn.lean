/- CoilsOn, the program's and the reference's. No conditions but bounds on lengths. -/
import Derived.Test.YtpiiefmfiipabaaDoorCoilAt
import Derived.Test.YtpiiefmfiipabaaDoorListKit
namespace Go.Proofs.YtpiiefmfiipabaaDoor
open Go.ChangeShapes Go.WideShapes Go.ChangeAt Go.RowKit Go.Deep
theorem onAt_at {p : PL} (hv : pileValid p = true) (j : Int) : onAt p j = if 0 < coilAt p true j then [coilAt p true j] else [] := by
  by_cases hs : spotIn p true j = true
  · rw [coilAt_in hv hs]
    have : inR j 0 ((p.2.length : Int) - 1) = true := hs
    unfold onAt
    rw [this]
    simp only [Bool.true_and, decide_eq_true_eq]
    rfl
  · rw [coilAt_out (fun h => hs h.2)]
    have : ¬ inR j 0 ((p.2.length : Int) - 1) = true := hs
    unfold onAt
    rw [if_neg (by simp [this]), if_neg (by omega)]
/-- What is still to be looked at from place j on. -/
def restOn (p : PL) (i j : Int) : List Int := if j < i then onAt p (i - 1) ++ onAt p i else if j = i then onAt p i else []
theorem restOn_step {p : PL} {i j : Int} (h1 : i - 1 ≤ j) (h2 : j ≤ i) : restOn p i j = onAt p j ++ restOn p i (j + 1) := by
  unfold restOn
  by_cases e : j = i
  · subst e
    rw [if_neg (by omega), if_pos rfl, if_neg (by omega), if_neg (by omega), List.append_nil]
  · have e2 : j = i - 1 := by omega
    subst e2
    rw [if_pos (by omega), if_neg (by omega), if_pos (by omega)]
theorem coilsOn_rest {p : PL} {i : Int} (h : 1 ≤ coilAt p false i) : coilsOn p false i = restOn p i (i - 1) := by
  unfold coilsOn restOn
  rw [if_neg (by simp; omega), if_pos (by omega)]
theorem onAt_out {p : PL} {j : Int} (h : j < 0 ∨ (p.2.length : Int) ≤ j) : onAt p j = [] := by
  unfold onAt
  rw [if_neg]
  simp only [Bool.and_eq_true, inR_iff]; omega
theorem onAt_get {p : PL} {m : Nat} (h : m < p.2.length) : onAt p (m : Int) = if 0 < p.2[m] then [p.2[m]] else [] := by
  unfold onAt
  rw [inR_mk (by omega) (by omega)]
  simp [List.getD, List.getElem?_eq_getElem h]
theorem restOn_out {p : PL} {k : Int} {m : Nat} (h1 : k - 1 ≤ m) (h : p.2.length ≤ m ∨ k < m) : restOn p k (m : Int) = [] := by
  unfold restOn
  split
  · rw [onAt_out (by omega), onAt_out (by omega)]; rfl
  · split
    · rw [onAt_out (by omega)]
    · rfl
set_option maxHeartbeats 1600000 in
theorem coilsOn_any (A A' : Option Addr) (c c' : Nat) (p : PL) (t : Bool) (k : Int) (w : World) (hp : small p) (rp : RdP w w.heap.size A A' p) :
    Calls Tryd.prog 29 #[.agg #[.slice A p.1.length c, .slice A' p.2.length c'], .agg #[.bool t, .int .i64 k]] w (IntsOk w (coilsOn p t k)) := by
  have hE := hide hp
  go_enter Tryd.func29, Tryd.ntmps29
  go_wp2_with fail
  obtain ⟨b0, k0, k1, k2, k3, hz⟩ := box_two w 25 31 (.slice A p.1.length c) (.slice A' p.2.length c') (.bool t) (.int .i64 k) _ rfl
  generalize (w.alloc (.cells #[.slice A p.1.length c, .slice A' p.2.length c'] 25)).alloc (.cells #[.bool t, .int .i64 k] 31) = w0 at *
  have K0 := Ext.old k0
  have K1 := Ext.old k1
  have K2 := Ext.old k2
  have K3 := Ext.old k3
  have RP := hide (fun x : Ext w0 => (rp.up b0).up x.below)
  obtain ⟨x0, hx0⟩ := ext_self w0
  rw [← hx0]
  clear hx0 k0 k1 k2 k3 hz
  by_cases h1 : coilAt p t k < 1
  · have HF := hide (show coilsOn p t k = [] by unfold coilsOn; rw [if_pos (by simp [h1])])
    go_wp2_with (go_at_call 22; refine (coilAt_any A A' c c' p t k _ hE.out (RP.out _)).mono ?_; rintro e w' ⟨rfl, b⟩; obtain ⟨x, rfl⟩ := ext_next b; clear b)
    go_ret
    rw [HF.out]
    exact intsOk_nil (via b0 (Ext.below _) b0.size)
  · cases t
    · have hv : pileValid p = true := (vd_iff p).2 (coilAt_pos (p := p) (top := false) (place := k) (by omega)).1
      have hk0 := (coilAt_pos (p := p) (top := false) (place := k) (by omega)).2.1
      have hin := (coilAt_pos (p := p) (top := false) (place := k) (by omega)).2.2.1
      have hk1 : k < 1099511627776 := by have h9 : k.toNat < p.1.length := hin; have := hp.1; omega
      have HF := hide (coilsOn_rest (p := p) (i := k) (by omega))
      have HV := hide hv
      have h1' : ¬ (coilAt p false k < 1) := h1
      clear hv hin
      go_wp2_with (go_at_call 22; refine (coilAt_any A A' c c' p false k _ hE.out (RP.out _)).mono ?_; rintro e w' ⟨rfl, b⟩; obtain ⟨x, rfl⟩ := ext_next b; clear b)
      clear h1 h1'
      go_loopw [5, 6, 7] (fun v j _ wr => ∃ (m : Int) (ys : List Int) (x : Ext w0), j = .int .i64 m ∧ k - 1 ≤ m ∧ m ≤ k + 1 ∧ wr = x.val ∧ ys.length ≤ (m - k + 1).toNat ∧ x.val.ownsRow w0.heap.size 3 1 v ys.length (ic ys) ∧ Hid (restOn p k (k - 1) = ys ++ restOn p k m)) (fun _ j _ _ => (k + 1 - intOf j).toNat)
      case atStart => exact ⟨k - 1, [], _, rfl, by omega, by omega, rfl, by simp, World.ownsRow_nil _ _ _ _, by simp [Hid]⟩
      case round =>
        obtain ⟨m, ys, xr, rfl, hm1, hm2, rfl, hyl, hown, HR⟩ := hrel
        by_cases hle : m ≤ k
        · have hst := restOn_step (p := p) hm1 hle
          rw [onAt_at HV.out] at hst
          by_cases h0 : 0 < coilAt p true m
          · rw [if_pos h0] at hst
            have HS := hide hst
            clear hst
            go_wp2_with (first
              | (go_at_call 22; refine (coilAt_any A A' c c' p true m _ hE.out (RP.out _)).mono ?_; rintro e w' ⟨rfl, b⟩; have hown := owns_below hown b; obtain ⟨x, rfl⟩ := ext_next b; clear b)
              | (at_builtin; refine wpList_append_rd rfl _ _ rfl w0.heap.size _ _ ys [coilAt p true m] rfl (hown.alloc _) _ _ _ rfl rfl (rd_one _ _ _) (fun h => by cases h) (by omega) (by simp) (by have := (Ext.below _ : Below w0.heap.size w0 x.val).size; simp; omega) ?_; intro v' w' hap; have hap' := hide hap; clear hap))
            obtain ⟨yy, rfl, ho⟩ := ext_app (x.below.alloc x.below.size _) (hown.alloc _) hap'.out
            go_roundw
            case rel => exact ⟨m + 1, ys ++ [coilAt p true m], yy, rfl, by omega, by omega, rfl, by simp; omega, ho, by unfold Hid; rw [HR.out, HS.out]; simp⟩
            case measure => simp [intOf]; omega
          · rw [if_neg h0] at hst
            have HS := hide hst
            clear hst
            go_wp2_with (go_at_call 22; refine (coilAt_any A A' c c' p true m _ hE.out (RP.out _)).mono ?_; rintro e w' ⟨rfl, b⟩; have hown := owns_below hown b; obtain ⟨x, rfl⟩ := ext_next b; clear b)
            go_roundw
            case rel => exact ⟨m + 1, ys, x, rfl, by omega, by omega, rfl, by omega, hown, by unfold Hid; rw [HR.out, HS.out]; simp⟩
            case measure => simp [intOf]; omega
        · have HS := hide (show coilsOn p false k = ys by rw [HF.out, HR.out, restOn, if_neg (by omega), if_neg (by omega), List.append_nil])
          go_wp2
          go_ret
          rw [HS.out]
          exact intsOk_of hown b0.size (via b0 (Ext.below _) b0.size)
    · have HF := hide (show coilsOn p true k = [] by unfold coilsOn; rw [if_pos (by simp)])
      go_wp2_with (go_at_call 22; refine (coilAt_any A A' c c' p true k _ hE.out (RP.out _)).mono ?_; rintro e w' ⟨rfl, b⟩; obtain ⟨x, rfl⟩ := ext_next b; clear b)
      go_ret
      rw [HF.out]
      exact intsOk_nil (via b0 (Ext.below _) b0.size)
set_option maxHeartbeats 1600000 in
theorem coilsOn_spec (A A' : Option Addr) (c c' : Nat) (p : PL) (t : Bool) (k : Int) (w : World) (hp : small p) (rp : RdP w w.heap.size A A' p) :
    Calls Tryd.prog 31 #[.agg #[.slice A p.1.length c, .slice A' p.2.length c'], .agg #[.bool t, .int .i64 k]] w (IntsOk w (coilsOn p t k)) := by
  have hE := hide hp
  go_enter Tryd.func31, Tryd.ntmps31
  go_wp2_with fail
  obtain ⟨b0, k0, k1, k2, k3, hz⟩ := box_two w 25 31 (.slice A p.1.length c) (.slice A' p.2.length c') (.bool t) (.int .i64 k) _ rfl
  generalize (w.alloc (.cells #[.slice A p.1.length c, .slice A' p.2.length c'] 25)).alloc (.cells #[.bool t, .int .i64 k] 31) = w0 at *
  have K0 := Ext.old k0
  have K1 := Ext.old k1
  have K2 := Ext.old k2
  have K3 := Ext.old k3
  have RP := hide (fun x : Ext w0 => (rp.up b0).up x.below)
  obtain ⟨x0, hx0⟩ : ∃ x : Ext w0, x.val = w0.alloc (.cells #[] 3) := ⟨⟨_, bel_alloc _ _⟩, rfl⟩
  have hown : x0.val.ownsRow w0.heap.size 3 1 (.slice (some ⟨w0.heap.size, 0, none⟩) 0 0) ([] : List Int).length (ic []) := by rw [hx0]; exact World.ownsRow_made w0 #[] 0 (Nat.le_refl _) (Nat.zero_le _) rfl
  rw [← hx0, ← hz]
  clear hx0 k0 k1 k2 k3 hz
  by_cases h1 : coilAt p t k < 1
  · have HF := hide (show coilsOn p t k = [] by unfold coilsOn; rw [if_pos (by simp [h1])])
    refine (coilAt_spec A A' c c' p t k _ hE.out (RP.out _)).mono ?_
    rintro e w' ⟨rfl, b⟩
    obtain ⟨x, rfl⟩ := ext_next b
    clear b
    go_wp2
    go_ret
    rw [HF.out]
    exact intsOk_nil (via b0 (Ext.below _) b0.size)
  · cases t
    · have hv : pileValid p = true := (vd_iff p).2 (coilAt_pos (p := p) (top := false) (place := k) (by omega)).1
      have hk0 := (coilAt_pos (p := p) (top := false) (place := k) (by omega)).2.1
      have hin := (coilAt_pos (p := p) (top := false) (place := k) (by omega)).2.2.1
      have hk1 : k < 1099511627776 := by have h9 : k.toNat < p.1.length := hin; have := hp.1; omega
      have hp2 := hp.2
      have HF := hide (coilsOn_rest (p := p) (i := k) (by omega))
      have h1' : ¬ (coilAt p false k < 1) := h1
      clear hv hin
      refine (coilAt_spec A A' c c' p false k _ hE.out (RP.out _)).mono ?_
      rintro e w' ⟨rfl, b⟩
      have hown := owns_below hown b
      obtain ⟨x, rfl⟩ := ext_next b
      clear b
      go_wp2
      clear h1 h1'
      go_loopw [5, 6] (fun v j wr => ∃ (m : Nat) (ys : List Int) (x : Ext w0), j = .int .i64 (m : Int) ∧ k - 1 ≤ (m : Int) ∧ (m : Int) ≤ k + 1 ∧ wr = x.val ∧ ys.length ≤ m ∧ x.val.ownsRow w0.heap.size 3 1 v ys.length (ic ys) ∧ Hid (restOn p k (k - 1) = ys ++ restOn p k (m : Int))) (fun _ j _ => (k + 1 - intOf j).toNat)
      case atStart =>
        by_cases e : k = 0
        · subst e
          refine ⟨0, [], _, rfl, by omega, by omega, rfl, by simp, hown, ?_⟩
          unfold Hid restOn
          rw [if_pos (by omega), onAt_out (by omega)]; rfl
        · obtain ⟨j, rfl⟩ : ∃ j : Nat, k = (j : Int) + 1 := ⟨(k - 1).toNat, by omega⟩
          refine ⟨j, [], _, ?_, by omega, by omega, rfl, by simp, hown, ?_⟩
          · have e2 : max ((j : Int) + 1 - 1) 0 = (j : Int) := by omega
            first | rfl | (congr 1) | (simp; omega)
          · have e2 : (j : Int) + 1 - 1 = j := by omega
            unfold Hid; rw [e2]; rfl
      case round =>
        obtain ⟨m, ys, xr, rfl, hm1, hm2, rfl, hyl, hown, HR⟩ := hrel
        by_cases hle : (m : Int) ≤ k
        · by_cases hlt : m < p.2.length
          · obtain ⟨bb, oo, hA, _, hc⟩ := (rp.up b0).2.int hlt
            subst hA
            have hc := Ext.old hc
            have i0 : (0 : Int) ≤ (m : Int) := by omega
            have i1 : (m : Int) < (p.2.length : Int) := by omega
            have hst := restOn_step (p := p) hm1 hle
            rw [onAt_get hlt] at hst
            by_cases h0 : 0 < p.2[m]
            · rw [if_pos h0] at hst
              have HS := hide hst
              have t0 : decide (p.2[m] > 0) = true := by simpa using h0
              have t1 : decide (0 < p.2[m]) = true := by simpa using h0
              clear hst h0
              go_wp2_with (at_builtin; refine wpList_append_rd rfl _ _ rfl w0.heap.size _ _ ys [p.2[m]] rfl (hown.alloc _) _ _ _ rfl rfl (rd_one _ _ _) (fun h => by cases h) (by omega) (by simp) (by have := (Ext.below _ : Below w0.heap.size w0 xr.val).size; simp; omega) ?_; intro v' w' hap; have hap' := hide hap; clear hap)
              obtain ⟨yy, rfl, ho⟩ := ext_app (xr.below.alloc xr.below.size _) (hown.alloc _) hap'.out
              go_roundw
              case rel => exact ⟨m + 1, ys ++ [p.2[m]], yy, by go_num, by omega, by omega, rfl, by simp; omega, ho, by unfold Hid; rw [HR.out, HS.out]; simp⟩
              case measure => simp [intOf]; omega
            · rw [if_neg h0] at hst
              have HS := hide hst
              have t0 : decide (p.2[m] > 0) = false := by simpa using h0
              have t1 : decide (0 < p.2[m]) = false := by simpa using h0
              clear hst h0
              go_wp2
              go_roundw
              case rel => exact ⟨m + 1, ys, xr, by go_num, by omega, by omega, rfl, by omega, hown, by unfold Hid; rw [HR.out, HS.out]; simp⟩
              case measure => simp [intOf]; omega
          · have HS := hide (show coilsOn p false k = ys by rw [HF.out, HR.out, restOn_out hm1 (by omega), List.append_nil])
            go_wp2
            go_ret
            rw [HS.out]
            exact intsOk_of hown b0.size (via b0 (Ext.below _) b0.size)
        · have HS := hide (show coilsOn p false k = ys by rw [HF.out, HR.out, restOn_out hm1 (by omega), List.append_nil])
          go_wp2
          go_ret
          rw [HS.out]
          exact intsOk_of hown b0.size (via b0 (Ext.below _) b0.size)
    · have HF := hide (show coilsOn p true k = [] by unfold coilsOn; rw [if_pos (by simp)])
      refine (coilAt_spec A A' c c' p true k _ hE.out (RP.out _)).mono ?_
      rintro e w' ⟨rfl, b⟩
      obtain ⟨x, rfl⟩ := ext_next b
      clear b
      go_wp2
      go_ret
      rw [HF.out]
      exact intsOk_nil (via b0 (Ext.below _) b0.size)
end Go.Proofs.YtpiiefmfiipabaaDoor
