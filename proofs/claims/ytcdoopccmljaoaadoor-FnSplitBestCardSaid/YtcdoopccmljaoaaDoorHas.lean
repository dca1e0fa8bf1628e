/- Whether a list has a number, and where: slices.Index, slices.Contains, the reference's l1Has. No conditions but bounds on lengths. -/
import Derived.Test.YtcdoopccmljaoaaDoorInts
namespace Go.Proofs.YtcdoopccmljaoaaDoor
open Go.ChangeShapes Go.WideShapes Go.ChangeAt Go.RowKit Go.Deep
/-- The place of the first x; -1 if there is none. -/
def idx (zs : List Int) (x : Int) : Int := if x ∈ zs then (zs.idxOf x : Int) else -1
theorem idx_hit {zs : List Int} {k : Nat} (h : k < zs.length) (hn : zs[k] ∉ zs.take k) : idx zs zs[k] = k := by
  rw [idx, if_pos (List.getElem_mem h)]
  have e : zs.idxOf zs[k] = k := by
    have : zs = zs.take k ++ zs[k] :: zs.drop (k + 1) := by rw [← List.drop_eq_getElem_cons h, List.take_append_drop]
    have h1 : (zs.take k ++ zs[k] :: zs.drop (k + 1)).idxOf zs[k] = k := by
      rw [List.idxOf_append, if_neg hn, List.idxOf_cons_self, List.length_take]; omega
    rw [← this] at h1; exact h1
  rw [e]
theorem idx_none {zs : List Int} {x : Int} (h : x ∉ zs) : idx zs x = -1 := by rw [idx, if_neg h]
theorem idx_neg {zs : List Int} {x : Int} : (0 ≤ idx zs x) ↔ x ∈ zs := by
  unfold idx; split
  · simp [*]
  · simp [*]
theorem not_take_succ {zs : List Int} {x : Int} {k : Nat} (h : k < zs.length) (h1 : x ∉ zs.take k) (h2 : ¬ x = zs[k]) : x ∉ zs.take (k + 1) := by
  rw [List.take_succ_eq_append_getElem h, List.mem_append]; simp; exact ⟨h1, h2⟩
theorem Rd.take {w : World} {B : Nat} {A : Option Addr} {zs : List Int} (h : Rd w B A (ic zs)) (k : Nat) : Rd w B A (ic (zs.take k)) := by
  rcases h with h | ⟨b, o, hA, hb, hc⟩
  · have : zs = [] := by simpa [ic] using h
    subst this; exact .inl (by simp [ic])
  · refine .inr ⟨b, o, hA, hb, fun j hj => ?_⟩
    have h1 : j < (ic zs).length := by rw [ic_len] at hj ⊢; simp at hj; omega
    rw [hc j h1]
    simp [ic]
theorem index_any (A : Option Addr) (c : Nat) (zs : List Int) (x : Int) (w : World) (hn : zs.length ≤ 1099511627776) (hr : Rd w w.heap.size A (ic zs)) :
    Calls Tryd.prog 106 #[.slice A zs.length c, .int .i64 x] w fun e w' => e = .returned (.int .i64 (idx zs x)) ∧ w = w' := by
  go_enter Tryd.func106, Tryd.ntmps106
  go_wp2
  go_loop [5, 8] (fun _ i => ∃ k : Nat, k ≤ zs.length ∧ i = .int .i64 k ∧ Hid (x ∉ zs.take k)) (fun _ i => zs.length - (intOf i).toNat)
  case atStart => exact ⟨0, Nat.zero_le _, rfl, by simp [Hid]⟩
  case round =>
    obtain ⟨k, hk, rfl, HT⟩ := hrel
    by_cases hlt : k < zs.length
    · obtain ⟨b, o, hA, _, hc⟩ := hr.int hlt
      subst hA
      by_cases he : x = zs[k]
      · have t1 : (x == zs[k]) = true := by simp [he]
        have HI := hide (show idx zs x = (k : Int) by rw [he]; exact idx_hit hlt (by rw [← he]; exact HT.out))
        clear he
        go_wp2
        go_ret
        exact ⟨ret_int HI.out.symm, rfl⟩
      · have t1 : (x == zs[k]) = false := by simp [he]
        have HY := hide (not_take_succ hlt HT.out he)
        clear he
        go_wp2
        go_round
        case rel => exact ⟨k + 1, by omega, by go_num, HY⟩
        case measure => simp [intOf]; omega
    · have HI := hide (show idx zs x = -1 from idx_none (by have := HT.out; rwa [List.take_of_length_le (by omega)] at this))
      go_wp2
      go_ret
      exact ⟨ret_int HI.out.symm, rfl⟩
theorem contains_any (A : Option Addr) (c : Nat) (zs : List Int) (x : Int) (w : World) (hn : zs.length ≤ 1099511627776) (hr : Rd w w.heap.size A (ic zs)) :
    Calls Tryd.prog 87 #[.slice A zs.length c, .int .i64 x] w fun e w' => e = .returned (.bool (decide (x ∈ zs))) ∧ w = w' := by
  have HI := hide (idx_neg (zs := zs) (x := x))
  go_enter Tryd.func87, Tryd.ntmps87
  go_wp2_with (go_at_call 106; refine (index_any _ _ _ _ _ hn hr).mono ?_; rintro e w' ⟨rfl, rfl⟩)
  go_ret
  exact ⟨ret_bool (decide_eq_decide.2 HI.out), rfl⟩
theorem contains_at (A : Option Addr) (c n : Nat) (zs : List Int) (x : Int) (w : World) (hl : zs.length = n) (hn : n ≤ 1099511627776) (hr : Rd w w.heap.size A (ic zs)) :
    Calls Tryd.prog 87 #[.slice A n c, .int .i64 x] w fun e w' => e = .returned (.bool (decide (x ∈ zs))) ∧ w = w' := by
  subst hl; exact contains_any A c zs x w hn hr
theorem hasInt_any (A : Option Addr) (c : Nat) (zs : List Int) (x : Int) (w : World) (hn : zs.length ≤ 1099511627776) (hr : Rd w w.heap.size A (ic zs)) :
    Calls Tryd.prog 63 #[.slice A zs.length c, .int .i64 x] w fun e w' => e = .returned (.bool (decide (x ∈ zs))) ∧ w = w' := by
  go_enter Tryd.func63, Tryd.ntmps63
  go_wp2
  go_loop [5] (fun i => ∃ k : Nat, k ≤ zs.length ∧ i = .int .i64 k ∧ Hid (x ∉ zs.take k)) (fun i => zs.length - (intOf i).toNat)
  case atStart => exact ⟨0, Nat.zero_le _, rfl, by simp [Hid]⟩
  case round =>
    obtain ⟨k, hk, rfl, HT⟩ := hrel
    by_cases hlt : k < zs.length
    · obtain ⟨b, o, hA, _, hc⟩ := hr.int hlt
      subst hA
      by_cases he : zs[k] = x
      · have t1 : (zs[k] == x) = true := by simp [he]
        have HI := hide (show decide (x ∈ zs) = true by rw [decide_eq_true_eq, ← he]; exact List.getElem_mem hlt)
        clear he
        go_wp2
        go_ret
        exact ⟨ret_bool HI.out.symm, rfl⟩
      · have t1 : (zs[k] == x) = false := by simp [he]
        have HY := hide (not_take_succ hlt HT.out (fun h => he h.symm))
        clear he
        go_wp2
        go_round
        case rel => exact ⟨k + 1, by omega, by go_num, HY⟩
        case measure => simp [intOf]; omega
    · have HI := hide (show decide (x ∈ zs) = false by rw [decide_eq_false_iff_not]; have := HT.out; rwa [List.take_of_length_le (by omega)] at this)
      go_wp2
      go_ret
      exact ⟨ret_bool HI.out.symm, rfl⟩
theorem has_any (A : Option Addr) (c : Nat) (zs : List Int) (x : Int) (w : World) (hn : zs.length ≤ 1099511627776) (hr : Rd w w.heap.size A (ic zs)) :
    Calls Tryd.prog 91 #[.slice A zs.length c, .int .i64 x] w fun e w' => e = .returned (.bool (decide (x ∈ zs))) ∧ w = w' := by
  go_enter Tryd.func91, Tryd.ntmps91
  go_wp2
  go_loop [5] (fun i => ∃ k : Nat, k ≤ zs.length ∧ i = .int .i64 k ∧ Hid (x ∉ zs.take k)) (fun i => zs.length - (intOf i).toNat)
  case atStart => exact ⟨0, Nat.zero_le _, rfl, by simp [Hid]⟩
  case round =>
    obtain ⟨k, hk, rfl, HT⟩ := hrel
    by_cases hlt : k < zs.length
    · obtain ⟨b, o, hA, _, hc⟩ := hr.int hlt
      subst hA
      by_cases he : zs[k] = x
      · have t1 : (zs[k] == x) = true := by simp [he]
        have HI := hide (show decide (x ∈ zs) = true by rw [decide_eq_true_eq, ← he]; exact List.getElem_mem hlt)
        clear he
        go_wp2
        go_ret
        exact ⟨ret_bool HI.out.symm, rfl⟩
      · have t1 : (zs[k] == x) = false := by simp [he]
        have HY := hide (not_take_succ hlt HT.out (fun h => he h.symm))
        clear he
        go_wp2
        go_round
        case rel => exact ⟨k + 1, by omega, by go_num, HY⟩
        case measure => simp [intOf]; omega
    · have HI := hide (show decide (x ∈ zs) = false by rw [decide_eq_false_iff_not]; have := HT.out; rwa [List.take_of_length_le (by omega)] at this)
      go_wp2
      go_ret
      exact ⟨ret_bool HI.out.symm, rfl⟩
theorem has_at (A : Option Addr) (c n : Nat) (zs : List Int) (x : Int) (w : World) (hl : zs.length = n) (hn : n ≤ 1099511627776) (hr : Rd w w.heap.size A (ic zs)) :
    Calls Tryd.prog 91 #[.slice A n c, .int .i64 x] w fun e w' => e = .returned (.bool (decide (x ∈ zs))) ∧ w = w' := by
  subst hl; exact has_any A c zs x w hn hr
end Go.Proofs.YtcdoopccmljaoaaDoor
