/- Rows of lifts marked and held by a law: what the marks are. No conditions but bounds on lengths. -/
import Derived.Test.YtgohnbhnckgcnaaLiftMark
namespace Go.Proofs.Ytgohnbhnckgcnaa
open Go.ChangeShapes Go.WideShapes Go.ChangeAt Go.RowKit Go.Deep
def lmark (k : Int) : LF := ((k % 3 == 0, k + 1), ((k + 1 + 1) % 3 == 0, k + 1 + 1 + 1))
def lmarks (k0 : Int) (n : Nat) : List LF := (List.range n).map fun (i : Nat) => lmark (k0 + 4 * (i : Int))
theorem lmarks_len (k0 : Int) (n : Nat) : (lmarks k0 n).length = n := by simp [lmarks]
theorem lmarks_get (k0 : Int) (n i : Nat) (h : i < n) : (lmarks k0 n)[i]'(by rw [lmarks_len]; exact h) = lmark (k0 + 4 * (i : Int)) := by simp [lmarks]
theorem lmarks_succ (k0 : Int) (n : Nat) : lmarks k0 (n + 1) = lmarks k0 n ++ [lmark (k0 + 4 * (n : Int))] := by simp [lmarks, List.range_succ]
theorem lmarks_set (k0 : Int) (ls : List LF) (k : Nat) (h : k < ls.length) : (lmarks k0 k ++ ls.drop k).set k (lmark (k0 + 4 * (k : Int))) = lmarks k0 (k + 1) ++ ls.drop (k + 1) := by
  rw [List.set_append_right _ _ (by rw [lmarks_len]; omega), lmarks_len, Nat.sub_self, List.drop_eq_getElem_cons h, List.set_cons_zero, lmarks_succ, List.append_assoc]
  rfl
set_option maxHeartbeats 1600000 in
theorem markLiftS_own (A : Option Addr) (c : Nat) (B : Nat) (ls : List LF) (k0 : Int) (w : World) (hn : ls.length ≤ 1048576) (h0 : 0 ≤ k0) (h1 : k0 ≤ 1099511627776) (hx : Own w B 60 A (lc ls)) :
    Calls Try.prog 54 #[.slice A ls.length c, .int .i64 k0] w fun e w' => e = .returned (.int .i64 (k0 + 4 * (ls.length : Int))) ∧ Own w' B 60 A (lc (lmarks k0 ls.length)) ∧ w.grownBy w' (ownB A (lc ls)) := by
  by_cases hnil : ls = []
  · subst hnil
    go_enter Try.func54, Try.ntmps54
    go_wp2
    go_loopw [1, 5] (fun k i wr => i = .int .i64 0 ∧ k = .int .i64 k0 ∧ wr = w) (fun _ _ _ => 0)
    case atStart => exact ⟨rfl, rfl, rfl⟩
    case round =>
      obtain ⟨rfl, rfl, rfl⟩ := hrel
      go_wp2
      go_ret
      exact ⟨ret_int (by simp), .inl rfl, World.grownBy.refl _ _⟩
  · have hlne : lc ls ≠ [] := by
      intro e; apply hnil
      have := lc_len ls
      rw [e] at this
      simp at this
      exact List.eq_nil_of_length_eq_zero (by omega)
    obtain ⟨g, hA, hB, hrow⟩ := hx.row hlne
    subst hA
    go_enter Try.func54, Try.ntmps54
    go_wp2
    go_loopw [1, 5] (fun v i wr => ∃ k : Nat, k ≤ ls.length ∧ i = .int .i64 k ∧ v = .int .i64 (k0 + 4 * (k : Int)) ∧ Row wr g 60 (lc (lmarks k0 k ++ ls.drop k)) ∧ w.grownBy wr (some g)) (fun _ i _ => ls.length - (intOf i).toNat)
    case atStart => exact ⟨0, Nat.zero_le _, rfl, by simp, by simpa [lmarks] using hrow, World.grownBy.refl _ _⟩
    case round =>
      obtain ⟨k, hk, rfl, rfl, q4, hg⟩ := hrel
      by_cases hlt : k < ls.length
      · have hz : (lmarks k0 k ++ ls.drop k).length = ls.length := by rw [List.length_append, lmarks_len, List.length_drop]; omega
        have hset := hide (lmarks_set k0 ls k hlt)
        generalize lmarks k0 k ++ ls.drop k = zs at *
        have hlen := lc_len zs
        have d1 := q4.cell (j := k * 4) (by omega)
        have d2 := q4.cell (j := k * 4 + 1) (by omega)
        have d3 := q4.cell (j := k * 4 + 2) (by omega)
        have d4 := q4.cell (j := k * 4 + 3) (by omega)
        have f1 := q4.frozen (k * 4)
        have f2 := q4.frozen (k * 4 + 1)
        have f3 := q4.frozen (k * 4 + 2)
        have f4 := q4.frozen (k * 4 + 3)
        have hzk : k < zs.length := by omega
        go_wp2_with fail
        go_roundw
        case rel =>
          refine ⟨k + 1, by omega, by go_num, by go_num, ?_, ?_⟩
          rotate_left
          · exact (((hg.trans (grown_set _ ⟨g, k * 4, none⟩ _)).trans (grown_set _ ⟨g, k * 4 + 1, none⟩ _)).trans (grown_set _ ⟨g, k * 4 + 2, none⟩ _)).trans (grown_set _ ⟨g, k * 4 + 2 + 1, none⟩ _)
          · rw [← hset.out]
            unfold lmark
            rw [← lc_set zs k hzk]
            exact (((q4.set (k * 4) _).set (k * 4 + 1) _).set (k * 4 + 2) _).set (k * 4 + 3) _
        case measure => simp [intOf]; omega
      · obtain rfl : k = ls.length := by omega
        rw [List.drop_length, List.append_nil] at q4
        go_wp2
        go_ret
        exact ⟨rfl, q4.own hB, by rw [ownB_cons _ hlne]; exact hg⟩
set_option maxHeartbeats 1600000 in
theorem heldLiftS_any (A : Option Addr) (c : Nat) (n : Nat) (k0 : Int) (w : World) (hn : n ≤ 1048576) (h0 : 0 ≤ k0) (h1 : k0 ≤ 1099511627776) (hx : Rd w w.heap.size A (lc (lmarks k0 n))) :
    Calls Try.prog 57 #[.slice A n c, .int .i64 k0] w fun e w' => e = .returned (.int .i64 (k0 + 4 * (n : Int))) ∧ w = w' := by
  go_enter Try.func57, Try.ntmps57
  go_wp2
  go_loop [1, 5] (fun k i => ∃ j : Nat, j ≤ n ∧ i = .int .i64 j ∧ k = .int .i64 (k0 + 4 * (j : Int))) (fun _ i => n - (intOf i).toNat)
  case atStart => exact ⟨0, Nat.zero_le _, rfl, by simp⟩
  case round =>
    obtain ⟨j, hj, rfl, rfl⟩ := hrel
    by_cases hlt : j < n
    · obtain ⟨b, o, rfl, _, c1, c2, c3, c4⟩ := hx.lift (k := j) (by rw [lmarks_len]; exact hlt)
      rw [lmarks_get k0 n j hlt] at c1 c2 c3 c4
      unfold lmark at c1 c2 c3 c4
      simp only at c1 c2 c3 c4
      have i0 : (0 : Int) ≤ (j : Int) := by omega
      have i1 : (j : Int) < (n : Int) := by omega
      have t1 := bne_bool ((k0 + 4 * (j : Int)) % 3 == 0)
      have t2 := bne_int (k0 + 4 * (j : Int) + 1)
      have t3 := bne_bool ((k0 + 4 * (j : Int) + 1 + 1) % 3 == 0)
      have t4 := bne_int (k0 + 4 * (j : Int) + 1 + 1 + 1)
      go_wp2
      go_round
      case rel => exact ⟨j + 1, by omega, by go_num, by go_num⟩
      case measure => simp [intOf]; omega
    · obtain rfl : j = n := by omega
      go_wp2
      go_ret
      exact ⟨rfl, rfl⟩
end Go.Proofs.Ytgohnbhnckgcnaa
