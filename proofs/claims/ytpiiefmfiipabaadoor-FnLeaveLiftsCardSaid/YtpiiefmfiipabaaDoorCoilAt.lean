/- CoilAt and its helpers, the program's and the reference's. No conditions but bounds on lengths. -/
import Derived.Test.YtpiiefmfiipabaaDoorCoilDig
import Derived.Test.YtpiiefmfiipabaaDoorPileValid
namespace Go.Proofs.YtpiiefmfiipabaaDoor
open Go.ChangeShapes Go.WideShapes Go.ChangeAt Go.RowKit Go.Deep
def rowV (t : Bool) (A A' : Option Addr) (n n' c c' : Nat) : Value := bif t then .slice A' n' c' else .slice A n c
theorem row_any (A A' : Option Addr) (n n' c c' : Nat) (t : Bool) (k : Int) (w : World) :
    Calls Tryd.prog 76 #[.agg #[.slice A n c, .slice A' n' c'], .agg #[.bool t, .int .i64 k]] w fun e w' => e = .returned (rowV t A A' n n' c c') ∧ Below w.heap.size w w' := by
  cases t
  · go_enter Tryd.func76, Tryd.ntmps76
    go_wp2
    go_ret
    exact ⟨rfl, by go_grown⟩
  · go_enter Tryd.func76, Tryd.ntmps76
    go_wp2
    go_ret
    exact ⟨rfl, by go_grown⟩
theorem row_low (A A' : Option Addr) (n n' c c' : Nat) (k : Int) (w : World) :
    Calls Tryd.prog 76 #[.agg #[.slice A n c, .slice A' n' c'], .agg #[.bool false, .int .i64 k]] w fun e w' => e = .returned (.slice A n c) ∧ Below w.heap.size w w' := row_any A A' n n' c c' false k w
theorem row_high (A A' : Option Addr) (n n' c c' : Nat) (k : Int) (w : World) :
    Calls Tryd.prog 76 #[.agg #[.slice A n c, .slice A' n' c'], .agg #[.bool true, .int .i64 k]] w fun e w' => e = .returned (.slice A' n' c') ∧ Below w.heap.size w w' := row_any A A' n n' c c' true k w
theorem spotIn_any (A A' : Option Addr) (c c' : Nat) (p : PL) (t : Bool) (k : Int) (w : World) (hp : small p) :
    Calls Tryd.prog 75 #[.agg #[.slice A p.1.length c, .slice A' p.2.length c'], .agg #[.bool t, .int .i64 k]] w fun e w' => e = .returned (.bool (spotIn p t k)) ∧ Below w.heap.size w w' := by
  obtain ⟨hp1, hp2⟩ := hp
  go_enter Tryd.func75, Tryd.ntmps75
  go_wp2_with fail
  obtain ⟨b0, k0, k1, k2, k3, hz⟩ := box_two w 25 31 (.slice A p.1.length c) (.slice A' p.2.length c') (.bool t) (.int .i64 k) _ rfl
  generalize (w.alloc (.cells #[.slice A p.1.length c, .slice A' p.2.length c'] 25)).alloc (.cells #[.bool t, .int .i64 k] 31) = w0 at *
  have K0 := Ext.old k0
  have K1 := Ext.old k1
  have K2 := Ext.old k2
  have K3 := Ext.old k3
  clear hz
  cases t
  · have HW := hide (show spotIn p false k = inR k 0 ((p.1.length : Int) - 1) from rfl)
    refine wp_region_ext (by kernel_rfl) (by kernel_rfl) ?_
    repeat (go_big_quiet_step (first | (go_at_call 76; refine ext_of (v := .slice A p.1.length c) rfl (row_low _ _ _ _ _ _ _ _)) | (go_at_call 67; refine ext_same (v := .bool (spotIn p false k)) rfl (within_any _ _ _ _))))
    refine wpQuiet_nil ?_
    intro _ hw'
    obtain ⟨xq, hw''⟩ := hw'
    subst hw''
    go_wp2
    go_ret
    exact ⟨rfl, via b0 xq.below b0.size⟩
  · have HW := hide (show spotIn p true k = inR k 0 ((p.2.length : Int) - 1) from rfl)
    refine wp_region_ext (by kernel_rfl) (by kernel_rfl) ?_
    repeat (go_big_quiet_step (first | (go_at_call 76; refine ext_of (v := .slice A' p.2.length c') rfl (row_high _ _ _ _ _ _ _ _)) | (go_at_call 67; refine ext_same (v := .bool (spotIn p true k)) rfl (within_any _ _ _ _))))
    refine wpQuiet_nil ?_
    intro _ hw'
    obtain ⟨xq, hw''⟩ := hw'
    subst hw''
    go_wp2
    go_ret
    exact ⟨rfl, via b0 xq.below b0.size⟩
theorem l6Spot_any (A A' : Option Addr) (c c' : Nat) (p : PL) (t : Bool) (k : Int) (w : World) (hp : small p) :
    Calls Tryd.prog 77 #[.agg #[.slice A p.1.length c, .slice A' p.2.length c'], .agg #[.bool t, .int .i64 k]] w fun e w' => e = .returned (.bool (spotIn p t k)) ∧ Below w.heap.size w w' := by
  obtain ⟨hp1, hp2⟩ := hp
  cases t
  all_goals
    go_enter Tryd.func77, Tryd.ntmps77
    go_wp2_with (go_at_call 70; refine (l1In_any _ _ _ _).mono ?_; rintro e w' ⟨rfl, rfl⟩)
    go_ret
    exact ⟨rfl, by go_grown⟩
/-- A spot that a pile has. -/
theorem spotIn_at {p : PL} {t : Bool} {k : Int} (h : spotIn p t k = true) : ∃ i : Nat, k = (i : Int) ∧ i < (rowOf p t).length := by
  have := inR_iff.1 h
  exact ⟨k.toNat, by omega, by omega⟩
theorem coilAt_yes {p : PL} {t : Bool} {i : Nat} (hv : pileValid p = true) (h : i < (rowOf p t).length) : coilAt p t (i : Int) = (rowOf p t)[i] := by
  have hs : spotIn p t (i : Int) = true := inR_mk (by omega) (by omega)
  simp [coilAt, hv, hs, List.getD, List.getElem?_eq_getElem h]
set_option maxHeartbeats 800000 in
theorem coilAt_any (A A' : Option Addr) (c c' : Nat) (p : PL) (t : Bool) (k : Int) (w : World) (hp : small p) (rp : RdP w w.heap.size A A' p) :
    Calls Tryd.prog 22 #[.agg #[.slice A p.1.length c, .slice A' p.2.length c'], .agg #[.bool t, .int .i64 k]] w fun e w' => e = .returned (.int .i64 (coilAt p t k)) ∧ Below w.heap.size w w' := by
  have hE := hide hp
  go_enter Tryd.func22, Tryd.ntmps22
  go_wp2_with fail
  obtain ⟨b0, k0, k1, k2, k3, hz⟩ := box_two w 25 31 (.slice A p.1.length c) (.slice A' p.2.length c') (.bool t) (.int .i64 k) _ rfl
  generalize (w.alloc (.cells #[.slice A p.1.length c, .slice A' p.2.length c'] 25)).alloc (.cells #[.bool t, .int .i64 k] 31) = w0 at *
  have K0 := Ext.old k0
  have K1 := Ext.old k1
  have K2 := Ext.old k2
  have K3 := Ext.old k3
  clear hz
  have RP := hide (fun x : Ext w0 => (rp.up b0).up x.below)
  obtain ⟨x0, hx0⟩ := ext_self w0
  rw [← hx0]
  clear hx0 k0 k1 k2 k3
  cases hv : pileValid p
  · have HF := hide (show coilAt p t k = -1 by simp [coilAt, hv])
    go_wp2_with (go_at_call 18; refine (pileValid_any A A' c c' p _ hE.out (RP.out _)).mono ?_; rintro e w' ⟨rfl, b⟩; rw [hv]; obtain ⟨x, rfl⟩ := ext_next b; clear b)
    go_ret
    exact ⟨ret_int HF.out.symm, via b0 (Ext.below _) b0.size⟩
  · cases hs : spotIn p t k
    · have HF := hide (show coilAt p t k = -1 by simp [coilAt, hs])
      go_wp2_with (first | (go_at_call 18; refine (pileValid_any A A' c c' p _ hE.out (RP.out _)).mono ?_; rintro e w' ⟨rfl, b⟩; rw [hv]; obtain ⟨x, rfl⟩ := ext_next b; clear b) | (go_at_call 75; refine (spotIn_any A A' c c' p t k _ hE.out).mono ?_; rintro e w' ⟨rfl, b⟩; rw [hs]; obtain ⟨x, rfl⟩ := ext_next b; clear b))
      go_ret
      exact ⟨ret_int HF.out.symm, via b0 (Ext.below _) b0.size⟩
    · obtain ⟨i, rfl, hi⟩ := spotIn_at hs
      have HF := hide (coilAt_yes hv hi)
      have HS := hide hs
      have HV := hide hv
      clear hs hv
      have i0 : (0 : Int) ≤ (i : Int) := by omega
      cases t
      · have hi' : i < p.1.length := hi
        obtain ⟨b, o, hA, _, hc⟩ := (rp.up b0).1.int hi'
        subst hA
        have hc := Ext.old hc
        have i1 : (i : Int) < (p.1.length : Int) := by omega
        have HF' := hide (show coilAt p false (i : Int) = p.1[i] from HF.out)
        go_wp2_with (first | (go_at_call 18; refine (pileValid_any _ A' c c' p _ hE.out (RP.out _)).mono ?_; rintro e w' ⟨rfl, b⟩; rw [HV.out]; obtain ⟨x, rfl⟩ := ext_next b; clear b) | (go_at_call 75; refine (spotIn_any _ A' c c' p _ _ _ hE.out).mono ?_; rintro e w' ⟨rfl, b⟩; rw [HS.out]; obtain ⟨x, rfl⟩ := ext_next b; clear b))
        refine wp_region_in (by kernel_rfl) (by kernel_rfl) ?_
        repeat (go_big_quiet_step (first | (go_at_call 76; refine ext_of (v := .slice (some ⟨b, o, none⟩) p.1.length c) rfl (row_low _ _ _ _ _ _ _ _))))
        refine wpQuiet_nil ?_
        intro _ hw'
        obtain ⟨xq, hw''⟩ := hw'
        subst hw''
        go_wp2
        go_ret
        exact ⟨ret_int HF'.out.symm, via b0 (Ext.below _) b0.size⟩
      · have hi' : i < p.2.length := hi
        obtain ⟨b, o, hA, _, hc⟩ := (rp.up b0).2.int hi'
        subst hA
        have hc := Ext.old hc
        have i1 : (i : Int) < (p.2.length : Int) := by omega
        have HF' := hide (show coilAt p true (i : Int) = p.2[i] from HF.out)
        go_wp2_with (first | (go_at_call 18; refine (pileValid_any A _ c c' p _ hE.out (RP.out _)).mono ?_; rintro e w' ⟨rfl, b⟩; rw [HV.out]; obtain ⟨x, rfl⟩ := ext_next b; clear b) | (go_at_call 75; refine (spotIn_any A _ c c' p _ _ _ hE.out).mono ?_; rintro e w' ⟨rfl, b⟩; rw [HS.out]; obtain ⟨x, rfl⟩ := ext_next b; clear b))
        refine wp_region_in (by kernel_rfl) (by kernel_rfl) ?_
        repeat (go_big_quiet_step (first | (go_at_call 76; refine ext_of (v := .slice (some ⟨b, o, none⟩) p.2.length c') rfl (row_high _ _ _ _ _ _ _ _))))
        refine wpQuiet_nil ?_
        intro _ hw'
        obtain ⟨xq, hw''⟩ := hw'
        subst hw''
        go_wp2
        go_ret
        exact ⟨ret_int HF'.out.symm, via b0 (Ext.below _) b0.size⟩
set_option maxHeartbeats 800000 in
theorem coilAt_spec (A A' : Option Addr) (c c' : Nat) (p : PL) (t : Bool) (k : Int) (w : World) (hp : small p) (rp : RdP w w.heap.size A A' p) :
    Calls Tryd.prog 23 #[.agg #[.slice A p.1.length c, .slice A' p.2.length c'], .agg #[.bool t, .int .i64 k]] w fun e w' => e = .returned (.int .i64 (coilAt p t k)) ∧ Below w.heap.size w w' := by
  have hE := hide hp
  go_enter Tryd.func23, Tryd.ntmps23
  go_wp2_with fail
  obtain ⟨b0, k0, k1, k2, k3, hz⟩ := box_two w 25 31 (.slice A p.1.length c) (.slice A' p.2.length c') (.bool t) (.int .i64 k) _ rfl
  generalize (w.alloc (.cells #[.slice A p.1.length c, .slice A' p.2.length c'] 25)).alloc (.cells #[.bool t, .int .i64 k] 31) = w0 at *
  have K0 := Ext.old k0
  have K1 := Ext.old k1
  have K2 := Ext.old k2
  have K3 := Ext.old k3
  clear hz
  have RP := hide (fun x : Ext w0 => (rp.up b0).up x.below)
  obtain ⟨x0, hx0⟩ := ext_self w0
  rw [← hx0]
  clear hx0 k0 k1 k2 k3
  cases hv : pileValid p
  · have HF := hide (show coilAt p t k = -1 by simp [coilAt, hv])
    go_wp2_with (go_at_call 19; refine (pileValid_spec A A' c c' p _ hE.out (RP.out _)).mono ?_; rintro e w' ⟨rfl, b⟩; rw [hv]; obtain ⟨x, rfl⟩ := ext_next b; clear b)
    go_ret
    exact ⟨ret_int HF.out.symm, via b0 (Ext.below _) b0.size⟩
  · cases hs : spotIn p t k
    · have HF := hide (show coilAt p t k = -1 by simp [coilAt, hs])
      go_wp2_with (first | (go_at_call 19; refine (pileValid_spec A A' c c' p _ hE.out (RP.out _)).mono ?_; rintro e w' ⟨rfl, b⟩; rw [hv]; obtain ⟨x, rfl⟩ := ext_next b; clear b) | (go_at_call 77; refine (l6Spot_any A A' c c' p t k _ hE.out).mono ?_; rintro e w' ⟨rfl, b⟩; rw [hs]; obtain ⟨x, rfl⟩ := ext_next b; clear b))
      go_ret
      exact ⟨ret_int HF.out.symm, via b0 (Ext.below _) b0.size⟩
    · obtain ⟨i, rfl, hi⟩ := spotIn_at hs
      have HF := hide (coilAt_yes hv hi)
      have HS := hide hs
      have HV := hide hv
      clear hs hv
      have i0 : (0 : Int) ≤ (i : Int) := by omega
      cases t
      · have hi' : i < p.1.length := hi
        obtain ⟨b, o, hA, _, hc⟩ := (rp.up b0).1.int hi'
        subst hA
        have hc := Ext.old hc
        have i1 : (i : Int) < (p.1.length : Int) := by omega
        have HF' := hide (show coilAt p false (i : Int) = p.1[i] from HF.out)
        go_wp2_with (first | (go_at_call 19; refine (pileValid_spec _ A' c c' p _ hE.out (RP.out _)).mono ?_; rintro e w' ⟨rfl, b⟩; rw [HV.out]; obtain ⟨x, rfl⟩ := ext_next b; clear b) | (go_at_call 77; refine (l6Spot_any _ A' c c' p _ _ _ hE.out).mono ?_; rintro e w' ⟨rfl, b⟩; rw [HS.out]; obtain ⟨x, rfl⟩ := ext_next b; clear b))
        go_ret
        exact ⟨ret_int HF'.out.symm, via b0 (Ext.below _) b0.size⟩
      · have hi' : i < p.2.length := hi
        obtain ⟨b, o, hA, _, hc⟩ := (rp.up b0).2.int hi'
        subst hA
        have hc := Ext.old hc
        have i1 : (i : Int) < (p.2.length : Int) := by omega
        have HF' := hide (show coilAt p true (i : Int) = p.2[i] from HF.out)
        go_wp2_with (first | (go_at_call 19; refine (pileValid_spec A _ c c' p _ hE.out (RP.out _)).mono ?_; rintro e w' ⟨rfl, b⟩; rw [HV.out]; obtain ⟨x, rfl⟩ := ext_next b; clear b) | (go_at_call 77; refine (l6Spot_any A _ c c' p _ _ _ hE.out).mono ?_; rintro e w' ⟨rfl, b⟩; rw [HS.out]; obtain ⟨x, rfl⟩ := ext_next b; clear b))
        go_ret
        exact ⟨ret_int HF'.out.symm, via b0 (Ext.below _) b0.size⟩
end Go.Proofs.YtpiiefmfiipabaaDoor
