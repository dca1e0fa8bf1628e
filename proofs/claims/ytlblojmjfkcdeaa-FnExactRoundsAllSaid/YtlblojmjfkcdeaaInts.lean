/- The laws' helpers over slices of numbers: copied, compared, marked, held. No conditions but bounds on lengths. -/
import Derived.Test.YtlblojmjfkcdeaaRoll
import Derived.Deep.OwnRows
import Derived.LoopTactic
import Derived.Deep.QuietTactic
import Derived.BigQuiet
namespace Go.Proofs.Ytlblojmjfkcdeaa
open Go.ChangeShapes Go.WideShapes Go.ChangeAt Go.RowKit Go.Deep

/-- The cells of numbers. -/
def ic (zs : List Int) : List Value := zs.map (Value.int .i64)
theorem ic_len (zs : List Int) : (ic zs).length = zs.length := by simp [ic]
theorem ic_get (zs : List Int) (k : Nat) (h : k < zs.length) : (ic zs)[k]'(by rw [ic_len]; exact h) = .int .i64 zs[k] := by simp [ic]
theorem Rd.int {w : World} {B : Nat} {A : Option Addr} {zs : List Int} (h : Rd w B A (ic zs)) {k : Nat} (hk : k < zs.length) :
    ∃ b o, A = some ⟨b, o, none⟩ ∧ b < B ∧ w.cell? ⟨b, o + k, none⟩ = some (.int .i64 zs[k]) := by
  obtain ⟨b, o, hA, hb, hc⟩ := h.at (k := k) (by rw [ic_len]; exact hk)
  exact ⟨b, o, hA, hb, by rw [hc k (by rw [ic_len]; exact hk), ic_get zs k hk]⟩

theorem intInfo : (Try.prog.info? 3).map (fun i => (i.zero, i.size, i.bytes)) = some (some (.int .i64 0), 1, 8) := by kernel_rfl

theorem toIntS_any (A : Option Addr) (c : Nat) (zs : List Int) (w : World) (hn : zs.length ≤ 1099511627776) (hr : Rd w w.heap.size A (ic zs)) :
    Calls Try.prog 35 #[.slice A zs.length c] w fun e w' => e = .returned (.slice (some ⟨w.heap.size, 0, none⟩) zs.length zs.length) ∧ Row w' w.heap.size 3 (ic zs) ∧ Below w.heap.size w w' := by
  have hmk := run_make_row' (P := Try.prog) 39 3 (.int .i64 0) 8 Try.underlying39 intInfo rfl .i64 .i64 zs.length (by omega) (by omega)
  go_enter Try.func35, Try.ntmps35
  go_wp2
  go_loopw [4] (fun i wr => ∃ k : Nat, k ≤ zs.length ∧ i = .int .i64 k ∧ Row wr w.heap.size 3 (fill (.int .i64 0) (ic zs) k) ∧ Below w.heap.size w wr) (fun i _ => zs.length - (intOf i).toNat)
  case atStart =>
    refine ⟨0, Nat.zero_le _, rfl, ?_, by go_grown⟩
    rw [fill_zero, ic_len, ← toList_madeCells_one]
    exact Row.new _ _ _
  case round =>
    obtain ⟨k, hk, rfl, hrow, hbel⟩ := hrel
    by_cases hlt : k < zs.length
    · obtain ⟨b, o, hA, hb, hc⟩ := hr.int hlt
      subst hA
      have c1 := (hbel.cell (p := ⟨b, o + k, none⟩) hb).trans hc
      have hlen : k < (fill (.int .i64 0) (ic zs) k).length := by rw [fill_len _ _ _ (by rw [ic_len]; omega), ic_len]; exact hlt
      have c2 := hrow.cell hlen
      have f2 := hrow.frozen k
      have hnew := (hrow.set k (.int .i64 zs[k]))
      rw [← ic_get zs k hlt, fill_set _ _ _ (by rw [ic_len]; exact hlt), ic_get zs k hlt] at hnew
      have HN := hide hnew
      clear hnew hc
      go_wp2
      go_roundw
      case rel => exact ⟨k + 1, by omega, by go_num, HN.out, hbel.setCell (by simp) _⟩
      case measure => simp [intOf]; omega
    · have hkl : k = (ic zs).length := by rw [ic_len]; omega
      rw [hkl, fill_all] at hrow
      go_wp2
      go_ret
      exact ⟨rfl, hrow, hbel⟩
/-- w' is w after some draws. -/
def Drew (w w' : World) : Prop := ∃ q, w' = w.drewN q
theorem Drew.below {w w' : World} (h : Drew w w') (B : Nat) : Below B w w' := by
  obtain ⟨q, rfl⟩ := h
  exact Joins.below_draws B w q
theorem Drew.more {w : World} (q n : Nat) : Drew w ((w.drewN q).drewN n) := ⟨q + n, World.drewN_drewN w q n⟩
theorem Drew.refl (w : World) : Drew w w := ⟨0, rfl⟩

theorem eqIntS_any (A B : Option Addr) (c d : Nat) (xs ys : List Int) (w : World) (hn : xs.length ≤ 1099511627776) (hx : Rd w w.heap.size A (ic xs)) (hy : Rd w w.heap.size B (ic ys)) :
    Calls Try.prog 37 #[.slice A xs.length c, .slice B ys.length d] w fun e w' => e = .returned (.bool (decide (xs = ys))) ∧ Drew w w' := by
  by_cases hl : xs.length = ys.length
  · have b1 : ((xs.length : Int) != (ys.length : Int)) = false := by simp [hl]
    have HL := hide hl
    clear hl
    go_enter Try.func37, Try.ntmps37
    go_wp2
    go_loopw [5] (fun i wr => ∃ k : Nat, k ≤ xs.length ∧ i = .int .i64 k ∧ xs.take k = ys.take k ∧ Drew w wr) (fun i _ => xs.length - (intOf i).toNat)
    case atStart => exact ⟨0, Nat.zero_le _, rfl, by simp, Drew.refl w⟩
    case round =>
      obtain ⟨k, hk, rfl, htk, hdr⟩ := hrel
      have HT := hide htk
      clear htk
      by_cases hlt : k < xs.length
      · obtain ⟨b, o, hA, _, hc⟩ := hx.int hlt
        obtain ⟨b', o', hB, _, hc'⟩ := hy.int (k := k) (by rw [← HL.out]; exact hlt)
        subst hA hB
        obtain ⟨q, rfl⟩ := hdr
        have i0 : (0 : Int) ≤ (k : Int) := by omega
        have i1 : (k : Int) < (xs.length : Int) := by omega
        have i2 : (k : Int) < (ys.length : Int) := by have := HL.out; omega
        have hky : k < ys.length := by omega
        by_cases he : xs[k] = ys[k]
        · have t1 : (xs[k] != ys[k]) = false := by simp [he]
          have HE := hide he
          clear he
          go_wp2
          go_quiet (fail)
          go_wp2
          go_roundw
          case rel =>
            refine ⟨k + 1, by omega, by go_num, ?_, by first | exact Drew.more _ _ | exact ⟨_, rfl⟩⟩
            rw [List.take_succ_eq_append_getElem hlt, List.take_succ_eq_append_getElem hky, HT.out, HE.out]
          case measure => simp [intOf]; omega
        · have t1 : (xs[k] != ys[k]) = true := by simp [he]
          have HE := hide he
          clear he
          go_wp2
          go_quiet (fail)
          go_wp2
          go_ret
          refine ⟨ret_bool (by rw [decide_eq_false]; intro e; apply HE.out; simp only [e]), by first | exact Drew.more _ _ | exact ⟨_, rfl⟩⟩
      · have hk2 : k = xs.length := by omega
        have e := HT.out
        have e2 := HL.out
        rw [List.take_of_length_le (by omega), List.take_of_length_le (by omega)] at e
        have HE := hide e
        clear e e2 hk2
        go_wp2
        go_ret
        exact ⟨ret_bool (by rw [decide_eq_true HE.out]), hdr⟩
  · have b1 : ((xs.length : Int) != (ys.length : Int)) = true := by simp; omega
    go_enter Try.func37, Try.ntmps37
    go_wp2
    go_ret
    exact ⟨ret_bool (by rw [decide_eq_false]; intro e; exact hl (by rw [e])), Drew.refl w⟩


/-- The numbers k, k + 1, .. -/
def marks (k : Int) (n : Nat) : List Int := (List.range n).map fun (i : Nat) => k + (i : Int)
theorem marks_len (k : Int) (n : Nat) : (marks k n).length = n := by simp [marks]
theorem marks_get (k : Int) (n i : Nat) (h : i < n) : (marks k n)[i]'(by rw [marks_len]; exact h) = k + (i : Int) := by simp [marks]

theorem marks_succ (k : Int) (n : Nat) : marks k (n + 1) = marks k n ++ [k + (n : Int)] := by simp [marks, List.range_succ]
theorem marks_set (k : Int) (xs : List Int) (j : Nat) (h : j < xs.length) : (ic (marks k j ++ xs.drop j)).set j (.int .i64 (k + (j : Int))) = ic (marks k (j + 1) ++ xs.drop (j + 1)) := by
  have e : (ic (marks k j)).length = j := by rw [ic_len, marks_len]
  have e1 : ic (marks k j ++ xs.drop j) = ic (marks k j) ++ (Value.int .i64 xs[j] :: ic (xs.drop (j + 1))) := by
    rw [List.drop_eq_getElem_cons h]; simp only [ic, List.map_append, List.map_cons]
  rw [e1, List.set_append_right _ _ (by omega), e, Nat.sub_self, List.set_cons_zero, marks_succ]
  simp only [ic, List.map_append, List.map_cons, List.append_assoc, List.cons_append, List.nil_append]

theorem markIntS_any (A : Option Addr) (c : Nat) (B : Nat) (xs : List Int) (k0 : Int) (w : World) (hn : xs.length ≤ 1099511627776) (h0 : 0 ≤ k0) (h1 : k0 ≤ 1099511627776) (hx : Own w B 3 A (ic xs)) :
    Calls Try.prog 47 #[.slice A xs.length c, .int .i64 k0] w fun e w' => e = .returned (.int .i64 (k0 + (xs.length : Int))) ∧ Own w' B 3 A (ic (marks k0 xs.length)) ∧ w.grownBy w' (ownB A (ic xs)) := by
  by_cases hnil : xs = []
  · subst hnil
    go_enter Try.func47, Try.ntmps47
    go_wp2
    go_loopw [5, 1] (fun i k wr => i = .int .i64 0 ∧ k = .int .i64 k0 ∧ wr = w) (fun _ _ _ => 0)
    case atStart => exact ⟨rfl, rfl, rfl⟩
    case round =>
      obtain ⟨rfl, rfl, rfl⟩ := hrel
      go_wp2
      go_ret
      exact ⟨ret_int (by simp), .inl rfl, World.grownBy.refl _ _⟩
  · obtain ⟨g, hA, hB, hrow⟩ := hx.row (by intro e; apply hnil; simpa [ic] using e)
    subst hA
    go_enter Try.func47, Try.ntmps47
    go_wp2
    go_loopw [5, 1] (fun i k wr => ∃ j : Nat, j ≤ xs.length ∧ i = .int .i64 j ∧ k = .int .i64 (k0 + (j : Int)) ∧ Row wr g 3 (ic (marks k0 j ++ xs.drop j)) ∧ w.grownBy wr (some g)) (fun i _ _ => xs.length - (intOf i).toNat)
    case atStart => exact ⟨0, Nat.zero_le _, rfl, by simp, by simpa [marks] using hrow, World.grownBy.refl _ _⟩
    case round =>
      obtain ⟨j, hj, rfl, rfl, hr, hg⟩ := hrel
      by_cases hlt : j < xs.length
      · have hlen : j < (ic (marks k0 j ++ xs.drop j)).length := by rw [ic_len]; simp [marks_len]; omega
        have c1 := hr.cell hlen
        have f1 := hr.frozen j
        have hset := hr.set j (.int .i64 (k0 + (j : Int)))
        rw [marks_set k0 xs j hlt] at hset
        have HS := hide hset
        clear hset
        go_wp2
        go_roundw
        case rel =>
          refine ⟨j + 1, by omega, by go_num, by go_num, HS.out, ?_⟩
          exact grown_trans hg (grown_set _ _ _)
        case measure => simp [intOf]; omega
      · have hje : j = xs.length := by omega
        rw [hje, List.drop_length, List.append_nil] at hr
        go_wp2
        go_ret
        exact ⟨ret_int (by omega), hr.own hB, by rw [ownB_cons _ (by intro e; apply hnil; simpa [ic] using e)]; exact hg⟩
theorem heldIntS_any (A : Option Addr) (c : Nat) (n : Nat) (k0 : Int) (w : World) (hn : n ≤ 1099511627776) (h0 : 0 ≤ k0) (h1 : k0 ≤ 1099511627776) (hx : Rd w w.heap.size A (ic (marks k0 n))) :
    Calls Try.prog 48 #[.slice A n c, .int .i64 k0] w fun e w' => e = .returned (.int .i64 (k0 + (n : Int))) ∧ w = w' := by
  go_enter Try.func48, Try.ntmps48
  go_wp2
  go_loop [5, 1] (fun i k => ∃ j : Nat, j ≤ n ∧ i = .int .i64 j ∧ k = .int .i64 (k0 + (j : Int))) (fun i _ => n - (intOf i).toNat)
  case atStart => exact ⟨0, Nat.zero_le _, rfl, by simp⟩
  case round =>
    obtain ⟨j, hj, rfl, rfl⟩ := hrel
    by_cases hlt : j < n
    · obtain ⟨b, o, hA, _, hc⟩ := hx.int (k := j) (by rw [marks_len]; exact hlt)
      subst hA
      rw [marks_get k0 n j hlt] at hc
      have t1 : (k0 + (j : Int) != k0 + (j : Int)) = false := by simp
      go_wp2
      go_round
      case rel => exact ⟨j + 1, by omega, by go_num, by go_num⟩
      case measure => simp [intOf]; omega
    · go_wp2
      go_ret
      exact ⟨ret_int (by omega), rfl⟩
end Go.Proofs.Ytlblojmjfkcdeaa
