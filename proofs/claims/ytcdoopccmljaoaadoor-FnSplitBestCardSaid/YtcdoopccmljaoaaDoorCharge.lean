/- What slabs and furnaces are, the program's and the reference's tests. No conditions but bounds on lengths. -/
import Derived.Test.YtcdoopccmljaoaaDoorSheets
namespace Go.Proofs.YtcdoopccmljaoaaDoor
open Go.ChangeShapes Go.WideShapes Go.ChangeAt Go.RowKit Go.Deep
def chargeValid (a b : Int) : Bool := inR a 0 999 && inR b 1 99
def furnaceValid (a b : Int) : Bool := inR a 1 8 && inR b 0 99
def chargesValid (zs : List (Int × Int)) : Bool := decide (zs.length ≤ 8) && zs.all fun s => chargeValid s.1 s.2
theorem charges_no {zs : List (Int × Int)} {k : Nat} (h : k < zs.length) (hv : chargeValid zs[k].1 zs[k].2 = false) : chargesValid zs = false := by
  cases e : chargesValid zs
  · rfl
  · simp only [chargesValid, Bool.and_eq_true, List.all_eq_true] at e
    rw [e.2 _ (List.getElem_mem h)] at hv; cases hv
theorem charges_yes {zs : List (Int × Int)} (h : zs.length ≤ 8) (hv : (zs.take zs.length).all (fun s => chargeValid s.1 s.2) = true) : chargesValid zs = true := by
  rw [List.take_length] at hv
  simp only [chargesValid, hv, Bool.and_true, decide_eq_true_eq]; exact h
theorem charges_long {zs : List (Int × Int)} (h : 8 < zs.length) : chargesValid zs = false := by
  simp only [chargesValid, Bool.and_eq_false_iff, decide_eq_false_iff_not]; left; omega
theorem charges_nil : chargesValid [] = true := rfl
theorem furnaceValid_any (a b : Int) (w : World) :
    Calls Tryd.prog 95 #[.agg #[.int .i64 a, .int .i64 b]] w fun e w' => e = .returned (.bool (furnaceValid a b)) ∧ w.alloc (.cells #[.int .i64 a, .int .i64 b] 65) = w' := by
  go_enter Tryd.func95, Tryd.ntmps95
  go_wp2_with (go_at_call 75; refine (within_any _ _ _ _).mono ?_; rintro e w' ⟨rfl, rfl⟩)
  all_goals (go_ret; exact ⟨ret_bool (by simp [furnaceValid, *]), rfl⟩)
theorem furnaceValid_spec (a b : Int) (w : World) :
    Calls Tryd.prog 97 #[.agg #[.int .i64 a, .int .i64 b]] w fun e w' => e = .returned (.bool (furnaceValid a b)) ∧ w.alloc (.cells #[.int .i64 a, .int .i64 b] 65) = w' := by
  go_enter Tryd.func97, Tryd.ntmps97
  go_wp2_with (go_at_call 76; refine (l1In_any _ _ _ _).mono ?_; rintro e w' ⟨rfl, rfl⟩)
  all_goals (go_ret; exact ⟨ret_bool (by simp [furnaceValid, *]), rfl⟩)
set_option linter.unusedSimpArgs false in
set_option linter.unusedVariables false in
set_option maxHeartbeats 1600000 in
theorem chargesValid_any (A : Option Addr) (c : Nat) (zs : List (Int × Int)) (w : World) (hn : zs.length ≤ 1099511627776) (hr : Rd w w.heap.size A (sc zs)) :
    Calls Tryd.prog 94 #[.slice A zs.length c] w fun e w' => e = .returned (.bool (chargesValid zs)) ∧ Below w.heap.size w w' := by
  by_cases hl : 8 < zs.length
  · have HF := hide (charges_long hl)
    go_enter Tryd.func94, Tryd.ntmps94
    go_wp2
    go_ret
    exact ⟨ret_bool HF.out.symm, Below.refl _ _⟩
  · go_enter Tryd.func94, Tryd.ntmps94
    go_wp2
    go_loopw [10] (fun i wr => ∃ k : Nat, k ≤ zs.length ∧ i = .int .i64 k ∧ Hid ((zs.take k).all (fun s => chargeValid s.1 s.2) = true) ∧ Below w.heap.size w wr) (fun i _ => zs.length - (intOf i).toNat)
    case atStart => exact ⟨0, Nat.zero_le _, rfl, by simp [Hid], Below.refl _ _⟩
    case round =>
      obtain ⟨k, hk, rfl, HT, hbel⟩ := hrel
      have hbz := hbel.size
      by_cases hlt : k < zs.length
      · obtain ⟨b0, o, hA, hb, hc1, hc2⟩ := hr.pair hlt
        subst hA
        have c1 := later hbel (p := ⟨b0, o + k * 2, none⟩) hb hc1
        have c2 := later hbel (p := ⟨b0, o + k * 2 + 1, none⟩) hb hc2
        clear hc1 hc2
        obtain ⟨a, b, hel⟩ : ∃ a b, zs[k] = (a, b) := ⟨_, _, rfl⟩
        rw [hel] at c1 c2
        simp only at c1 c2
        cases h1 : inR a 0 999
        · have HF := hide (charges_no hlt (by unfold chargeValid; rw [hel]; simp only [h1, Bool.false_and]))
          clear hel
          go_wp2_with (go_at_call 75; refine (within_any _ _ _ _).mono ?_; rintro e w' ⟨rfl, rfl⟩)
          go_ret
          exact ⟨ret_bool HF.out.symm, by go_grown⟩
        · cases h2 : inR b 1 99
          · have HF := hide (charges_no hlt (by unfold chargeValid; rw [hel]; simp only [h1, h2, Bool.and_false]))
            clear hel
            go_wp2_with (go_at_call 75; refine (within_any _ _ _ _).mono ?_; rintro e w' ⟨rfl, rfl⟩)
            go_ret
            exact ⟨ret_bool HF.out.symm, by go_grown⟩
          · have HY := hide (all_take (p := fun s : Int × Int => chargeValid s.1 s.2) hlt HT.out (by unfold chargeValid; rw [hel]; simp only [h1, h2, Bool.and_true]))
            clear hel
            go_wp2_with (go_at_call 75; refine (within_any _ _ _ _).mono ?_; rintro e w' ⟨rfl, rfl⟩)
            go_roundw
            case rel => exact ⟨k + 1, by omega, by go_num, HY, by go_grown⟩
            case measure => simp [intOf]; omega
      · have HE := hide (charges_yes (zs := zs) (by omega) (by have := HT.out; rwa [show k = zs.length by omega] at this))
        go_wp2
        go_ret
        exact ⟨ret_bool HE.out.symm, hbel⟩
set_option linter.unusedSimpArgs false in
set_option linter.unusedVariables false in
set_option maxHeartbeats 1600000 in
theorem chargesValid_spec (A : Option Addr) (c : Nat) (zs : List (Int × Int)) (w : World) (hn : zs.length ≤ 1099511627776) (hr : Rd w w.heap.size A (sc zs)) :
    Calls Tryd.prog 96 #[.slice A zs.length c] w fun e w' => e = .returned (.bool (chargesValid zs)) ∧ Below w.heap.size w w' := by
  go_enter Tryd.func96, Tryd.ntmps96
  go_wp2
  go_loopw [3] (fun i wr => ∃ k : Nat, k ≤ zs.length ∧ i = .int .i64 k ∧ Hid ((zs.take k).all (fun s => chargeValid s.1 s.2) = true) ∧ Below w.heap.size w wr) (fun i _ => zs.length - (intOf i).toNat)
  case atStart => exact ⟨0, Nat.zero_le _, rfl, by simp [Hid], Below.refl _ _⟩
  case round =>
    obtain ⟨k, hk, rfl, HT, hbel⟩ := hrel
    have hbz := hbel.size
    by_cases hlt : k < zs.length
    · obtain ⟨b0, o, hA, hb, hc1, hc2⟩ := hr.pair hlt
      subst hA
      have c1 := later hbel (p := ⟨b0, o + k * 2, none⟩) hb hc1
      have c2 := later hbel (p := ⟨b0, o + k * 2 + 1, none⟩) hb hc2
      clear hc1 hc2
      obtain ⟨a, b, hel⟩ : ∃ a b, zs[k] = (a, b) := ⟨_, _, rfl⟩
      rw [hel] at c1 c2
      simp only at c1 c2
      cases h1 : inR a 0 999
      · have HF := hide (charges_no hlt (by unfold chargeValid; rw [hel]; simp only [h1, Bool.false_and]))
        clear hel
        go_wp2_with (go_at_call 76; refine (l1In_any _ _ _ _).mono ?_; rintro e w' ⟨rfl, rfl⟩)
        go_ret
        exact ⟨ret_bool HF.out.symm, by go_grown⟩
      · cases h2 : inR b 1 99
        · have HF := hide (charges_no hlt (by unfold chargeValid; rw [hel]; simp only [h1, h2, Bool.and_false]))
          clear hel
          go_wp2_with (go_at_call 76; refine (l1In_any _ _ _ _).mono ?_; rintro e w' ⟨rfl, rfl⟩)
          go_ret
          exact ⟨ret_bool HF.out.symm, by go_grown⟩
        · have HY := hide (all_take (p := fun s : Int × Int => chargeValid s.1 s.2) hlt HT.out (by unfold chargeValid; rw [hel]; simp only [h1, h2, Bool.and_true]))
          clear hel
          go_wp2_with (go_at_call 76; refine (l1In_any _ _ _ _).mono ?_; rintro e w' ⟨rfl, rfl⟩)
          go_roundw
          case rel => exact ⟨k + 1, by omega, by go_num, HY, by go_grown⟩
          case measure => simp [intOf]; omega
    · by_cases hl : 8 < zs.length
      · have HF := hide (charges_long hl)
        go_wp2
        go_ret
        exact ⟨ret_bool (by rw [HF.out, decide_eq_false_iff_not]; omega), hbel⟩
      · have HE := hide (charges_yes (zs := zs) (by omega) (by have := HT.out; rwa [show k = zs.length by omega] at this))
        have hl' : zs.length ≤ 8 := by omega
        go_wp2
        go_ret
        exact ⟨ret_bool (by rw [HE.out, decide_eq_true_eq]; omega), hbel⟩
end Go.Proofs.YtcdoopccmljaoaaDoor
