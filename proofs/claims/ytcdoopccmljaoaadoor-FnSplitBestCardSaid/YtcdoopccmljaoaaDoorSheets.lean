/- The laws' helpers over slices of sheets, and SheetsValid, the program's and the reference's. No conditions but bounds on lengths. -/
import Derived.Test.YtcdoopccmljaoaaDoorInts
import Derived.Test.YtcdoopccmljaoaaDoorSheet
import Derived.Test.YtcdoopccmljaoaaDoorExt
import Derived.Laws.MakeOwn
namespace Go.Proofs.YtcdoopccmljaoaaDoor
open Go.ChangeShapes Go.WideShapes Go.ChangeAt Go.RowKit Go.Deep

def sheetsValid (zs : List (Int × Int)) : Bool := decide (zs.length ≤ 9) && zs.all fun s => sheetValid s.1 s.2
theorem sheetsValid_no {zs : List (Int × Int)} {k : Nat} (h : k < zs.length) (hv : sheetValid zs[k].1 zs[k].2 = false) : sheetsValid zs = false := by
  cases e : sheetsValid zs
  · rfl
  · simp only [sheetsValid, Bool.and_eq_true, List.all_eq_true] at e
    rw [e.2 _ (List.getElem_mem h)] at hv; cases hv
theorem sheetsValid_yes {zs : List (Int × Int)} (h : zs.length ≤ 9) (hv : (zs.take zs.length).all (fun s => sheetValid s.1 s.2) = true) : sheetsValid zs = true := by
  rw [List.take_length] at hv
  simp only [sheetsValid, hv, Bool.and_true, decide_eq_true_eq]; exact h
theorem sheetsValid_long {zs : List (Int × Int)} (h : 9 < zs.length) : sheetsValid zs = false := by
  simp only [sheetsValid, Bool.and_eq_false_iff, decide_eq_false_iff_not]; left; omega
theorem all_take {α : Type} {zs : List α} {p : α → Bool} {k : Nat} (h : k < zs.length) (h1 : (zs.take k).all p = true) (h2 : p zs[k] = true) : (zs.take (k + 1)).all p = true := by
  rw [List.take_succ_eq_append_getElem h, List.all_append, h1, List.all_cons, h2]; rfl

def szOf (l : Int) (n : Nat) : Int := if l < (n : Int) then -1 else l - (n : Int)
theorem sheetsValid_any (A : Option Addr) (c : Nat) (zs : List (Int × Int)) (w : World) (hn : zs.length ≤ 1099511627776) (hr : Rd w w.heap.size A (sc zs)) :
    Calls Tryd.prog 42 #[.slice A zs.length c] w fun e w' => e = .returned (.bool (sheetsValid zs)) ∧ Below w.heap.size w w' := by
  by_cases hl : 9 < zs.length
  · have HF := hide (sheetsValid_long hl)
    go_enter Tryd.func42, Tryd.ntmps42
    go_wp2
    go_ret
    exact ⟨ret_bool HF.out.symm, Below.refl _ _⟩
  · go_enter Tryd.func42, Tryd.ntmps42
    go_wp2
    go_loopw [4, 10] (fun _ i wr => ∃ k : Nat, k ≤ zs.length ∧ i = .int .i64 k ∧ Hid ((zs.take k).all (fun s => sheetValid s.1 s.2) = true) ∧ Below w.heap.size w wr) (fun _ i _ => zs.length - (intOf i).toNat)
    case atStart => exact ⟨0, Nat.zero_le _, rfl, by simp [Hid], Below.refl _ _⟩
    case round =>
      obtain ⟨k, hk, rfl, HT, hbel⟩ := hrel
      have hbz := hbel.size
      by_cases hlt : k < zs.length
      · obtain ⟨b, o, hA, hb, hc1, hc2⟩ := hr.pair hlt
        subst hA
        have c1 := later hbel (p := ⟨b, o + k * 2, none⟩) hb hc1
        have c2 := later hbel (p := ⟨b, o + k * 2 + 1, none⟩) hb hc2
        clear hc1 hc2
        cases hv : sheetValid zs[k].1 zs[k].2
        · have HF := hide (sheetsValid_no hlt hv)
          go_wp2_with (go_at_call 20; refine (sheetValid_any _ _ _).mono ?_; rintro e w' ⟨rfl, rfl⟩)
          go_ret
          exact ⟨ret_bool HF.out.symm, by go_grown⟩
        · have HY := hide (all_take (p := fun s : Int × Int => sheetValid s.1 s.2) hlt HT.out hv)
          go_wp2_with (go_at_call 20; refine (sheetValid_any _ _ _).mono ?_; rintro e w' ⟨rfl, rfl⟩)
          go_roundw
          case rel => exact ⟨k + 1, by omega, by go_num, HY, by go_grown⟩
          case measure => simp [intOf]; omega
      · have HE := hide (sheetsValid_yes (zs := zs) (by omega) (by have := HT.out; rwa [show k = zs.length by omega] at this))
        go_wp2
        go_ret
        exact ⟨ret_bool HE.out.symm, hbel⟩
theorem sheetsValid_spec (A : Option Addr) (c : Nat) (zs : List (Int × Int)) (w : World) (hn : zs.length ≤ 1099511627776) (hr : Rd w w.heap.size A (sc zs)) :
    Calls Tryd.prog 43 #[.slice A zs.length c] w fun e w' => e = .returned (.bool (sheetsValid zs)) ∧ Below w.heap.size w w' := by
  go_enter Tryd.func43, Tryd.ntmps43
  go_wp2
  go_loopw [3] (fun i wr => ∃ k : Nat, k ≤ zs.length ∧ i = .int .i64 k ∧ Hid ((zs.take k).all (fun s => sheetValid s.1 s.2) = true) ∧ Below w.heap.size w wr) (fun i _ => zs.length - (intOf i).toNat)
  case atStart => exact ⟨0, Nat.zero_le _, rfl, by simp [Hid], Below.refl _ _⟩
  case round =>
    obtain ⟨k, hk, rfl, HT, hbel⟩ := hrel
    have hbz := hbel.size
    by_cases hlt : k < zs.length
    · obtain ⟨b, o, hA, hb, hc1, hc2⟩ := hr.pair hlt
      subst hA
      have c1 := later hbel (p := ⟨b, o + k * 2, none⟩) hb hc1
      have c2 := later hbel (p := ⟨b, o + k * 2 + 1, none⟩) hb hc2
      clear hc1 hc2
      cases hv : sheetValid zs[k].1 zs[k].2
      · have HF := hide (sheetsValid_no hlt hv)
        go_wp2_with (go_at_call 21; refine (sheetValid_spec _ _ _).mono ?_; rintro e w' ⟨rfl, rfl⟩)
        go_ret
        exact ⟨ret_bool HF.out.symm, by go_grown⟩
      · have HY := hide (all_take (p := fun s : Int × Int => sheetValid s.1 s.2) hlt HT.out hv)
        go_wp2_with (go_at_call 21; refine (sheetValid_spec _ _ _).mono ?_; rintro e w' ⟨rfl, rfl⟩)
        go_roundw
        case rel => exact ⟨k + 1, by omega, by go_num, HY, by go_grown⟩
        case measure => simp [intOf]; omega
    · by_cases hl : 9 < zs.length
      · have HF := hide (sheetsValid_long hl)
        go_wp2
        go_ret
        exact ⟨ret_bool (by rw [HF.out, decide_eq_false_iff_not]; omega), hbel⟩
      · have HE := hide (sheetsValid_yes (zs := zs) (by omega) (by have := HT.out; rwa [show k = zs.length by omega] at this))
        have hl' : zs.length ≤ 9 := by omega
        go_wp2
        go_ret
        exact ⟨ret_bool (by rw [HE.out, decide_eq_true_eq]; omega), hbel⟩

theorem sheetInfo : (Tryd.prog.info? 24).map (fun i => (i.zero, i.size, i.bytes)) = some (some (.agg #[.int .i64 0, .int .i64 0]), 2, 16) := by kernel_rfl
/-- sheets up to k, behind them zero ones. -/
def sfill (zs : List (Int × Int)) (k : Nat) : List (Int × Int) := zs.take k ++ List.replicate (zs.length - k) (0, 0)
theorem sfill_len (zs : List (Int × Int)) (k : Nat) (h : k ≤ zs.length) : (sfill zs k).length = zs.length := by simp [sfill]; omega
theorem sfill_all (zs : List (Int × Int)) : sfill zs zs.length = zs := by simp [sfill]
theorem sc_app (xs ys : List (Int × Int)) : sc (xs ++ ys) = sc xs ++ sc ys := by simp [sc]
theorem sfill_set (zs : List (Int × Int)) (k : Nat) (h : k < zs.length) : ((sc (sfill zs k)).set (k * 2) (.int .i64 zs[k].1)).set (k * 2 + 1) (.int .i64 zs[k].2) = sc (sfill zs (k + 1)) := by
  have e2 : zs.length - k = (zs.length - (k + 1)) + 1 := by omega
  have e : (sc (zs.take k)).length = k * 2 := by rw [sc_len, List.length_take]; omega
  have e3 : sc (sfill zs k) = sc (zs.take k) ++ (Value.int .i64 0 :: Value.int .i64 0 :: sc (List.replicate (zs.length - (k + 1)) (0, 0))) := by
    rw [sfill, sc_app, e2, List.replicate_succ]; rfl
  rw [e3, List.set_append_right _ _ (by omega), e, Nat.sub_self, List.set_cons_zero, List.set_append_right _ _ (by omega), e, show k * 2 + 1 - k * 2 = 1 by omega]
  simp only [List.set_cons_succ, List.set_cons_zero]
  rw [sfill, sc_app, List.take_succ_eq_append_getElem h, sc_app, List.append_assoc]
  rfl
theorem madePairs (n : Nat) : (madeCells #[Value.int .i64 0, Value.int .i64 0] (n * 2)).toList = sc (List.replicate n (0, 0)) := by
  apply List.ext_getElem?
  intro j
  by_cases hj : j < n * 2
  · have hjn : j / 2 < n := by omega
    obtain ⟨s0, s1⟩ := sc_get (List.replicate n ((0 : Int), (0 : Int))) (j / 2) (by simpa using hjn)
    have e0 : (madeCells #[Value.int .i64 0, Value.int .i64 0] (n * 2)).toList[j]? = some (.int .i64 0) := by
      simp only [madeCells, Array.toList_map, Array.toList_range, List.getElem?_map, List.getElem?_range hj, Option.map_some]
      rcases Nat.mod_two_eq_zero_or_one j with e | e <;> simp [e]
    rw [e0]
    rcases Nat.mod_two_eq_zero_or_one j with e | e
    · rw [show j / 2 * 2 = j by omega] at s0; rw [s0]; simp
    · rw [show j / 2 * 2 + 1 = j by omega] at s1; rw [s1]; simp
  · rw [List.getElem?_eq_none (by simp [madeCells]; omega), List.getElem?_eq_none (by rw [sc_len]; simp; omega)]

end Go.Proofs.YtcdoopccmljaoaaDoor
