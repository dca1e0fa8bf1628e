/- The laws' helpers over slices of numbers: copied, compared, marked, held. No conditions but bounds on lengths. -/
import Derived.Test.YtcdoopccmljaoaaDoorRoll
import Derived.Deep.OwnRows
import Derived.LoopTactic
import Derived.Deep.QuietTactic
import Derived.BigQuiet
namespace Go.Proofs.YtcdoopccmljaoaaDoor
open Go.ChangeShapes Go.WideShapes Go.ChangeAt Go.RowKit Go.Deep

/-- The cells of numbers. -/
def ic (zs : List Int) : List Value := zs.map (Value.int .i64)
theorem ic_len (zs : List Int) : (ic zs).length = zs.length := by simp [ic]
theorem ic_get (zs : List Int) (k : Nat) (h : k < zs.length) : (ic zs)[k]'(by rw [ic_len]; exact h) = .int .i64 zs[k] := by simp [ic]
theorem Rd.int {w : World} {B : Nat} {A : Option Addr} {zs : List Int} (h : Rd w B A (ic zs)) {k : Nat} (hk : k < zs.length) :
    ∃ b o, A = some ⟨b, o, none⟩ ∧ b < B ∧ w.cell? ⟨b, o + k, none⟩ = some (.int .i64 zs[k]) := by
  obtain ⟨b, o, hA, hb, hc⟩ := h.at (k := k) (by rw [ic_len]; exact hk)
  exact ⟨b, o, hA, hb, by rw [hc k (by rw [ic_len]; exact hk), ic_get zs k hk]⟩

theorem intInfo : (Tryd.prog.info? 3).map (fun i => (i.zero, i.size, i.bytes)) = some (some (.int .i64 0), 1, 8) := by kernel_rfl

/-- w' is w after some draws. -/
def Drew (w w' : World) : Prop := ∃ q, w' = w.drewN q
theorem Drew.below {w w' : World} (h : Drew w w') (B : Nat) : Below B w w' := by
  obtain ⟨q, rfl⟩ := h
  exact Joins.below_draws B w q
theorem Drew.more {w : World} (q n : Nat) : Drew w ((w.drewN q).drewN n) := ⟨q + n, World.drewN_drewN w q n⟩
theorem Drew.refl (w : World) : Drew w w := ⟨0, rfl⟩

theorem sameInts_any (A B : Option Addr) (c d : Nat) (xs ys : List Int) (w : World) (hn : xs.length ≤ 1099511627776) (hx : Rd w w.heap.size A (ic xs)) (hy : Rd w w.heap.size B (ic ys)) :
    Calls Tryd.prog 50 #[.slice A xs.length c, .slice B ys.length d] w fun e w' => e = .returned (.bool (decide (xs = ys))) ∧ Drew w w' := by
  by_cases hl : xs.length = ys.length
  · have b1 : ((xs.length : Int) != (ys.length : Int)) = false := by simp [hl]
    have HL := hide hl
    clear hl
    go_enter Tryd.func50, Tryd.ntmps50
    go_wp2
    go_loopw [5] (fun i wr => ∃ k : Nat, k ≤ xs.length ∧ i = .int .i64 k ∧ xs.take k = ys.take k ∧ Drew w wr) (fun i _ => xs.length - (intOf i).toNat)
    case atStart => exact ⟨0, Nat.zero_le _, rfl, by simp, Drew.refl w⟩
    case round =>
      obtain ⟨k, hk, rfl, htk, hdr⟩ := hrel
      have HT := hide htk
      clear htk
      by_cases hlt : k < xs.length
      · obtain ⟨b, o, hA, _, hc⟩ := hx.int hlt
        obtain ⟨b', o', hB, _, hc'⟩ := hy.int (k := k) (by rw [← HL.out]; exact hlt)
        subst hA hB
        obtain ⟨q, rfl⟩ := hdr
        have i0 : (0 : Int) ≤ (k : Int) := by omega
        have i1 : (k : Int) < (xs.length : Int) := by omega
        have i2 : (k : Int) < (ys.length : Int) := by have := HL.out; omega
        have hky : k < ys.length := by omega
        by_cases he : xs[k] = ys[k]
        · have t1 : (xs[k] != ys[k]) = false := by simp [he]
          have HE := hide he
          clear he
          go_wp2
          go_quiet (fail)
          go_wp2
          go_roundw
          case rel =>
            refine ⟨k + 1, by omega, by go_num, ?_, by first | exact Drew.more _ _ | exact ⟨_, rfl⟩⟩
            rw [List.take_succ_eq_append_getElem hlt, List.take_succ_eq_append_getElem hky, HT.out, HE.out]
          case measure => simp [intOf]; omega
        · have t1 : (xs[k] != ys[k]) = true := by simp [he]
          have HE := hide he
          clear he
          go_wp2
          go_quiet (fail)
          go_wp2
          go_ret
          refine ⟨ret_bool (by rw [decide_eq_false]; intro e; apply HE.out; simp only [e]), by first | exact Drew.more _ _ | exact ⟨_, rfl⟩⟩
      · have hk2 : k = xs.length := by omega
        have e := HT.out
        have e2 := HL.out
        rw [List.take_of_length_le (by omega), List.take_of_length_le (by omega)] at e
        have HE := hide e
        clear e e2 hk2
        go_wp2
        go_ret
        exact ⟨ret_bool (by rw [decide_eq_true HE.out]), hdr⟩
  · have b1 : ((xs.length : Int) != (ys.length : Int)) = true := by simp; omega
    go_enter Tryd.func50, Tryd.ntmps50
    go_wp2
    go_ret
    exact ⟨ret_bool (by rw [decide_eq_false]; intro e; exact hl (by rw [e])), Drew.refl w⟩
theorem sameInts_same (A B : Option Addr) (c d : Nat) (xs : List Int) (w : World) (hn : xs.length ≤ 1099511627776) (hx : Rd w w.heap.size A (ic xs)) (hy : Rd w w.heap.size B (ic xs)) :
    Calls Tryd.prog 50 #[.slice A xs.length c, .slice B xs.length d] w fun e w' => e = .returned (.bool true) ∧ Below w.heap.size w w' :=
  (sameInts_any A B c d xs xs w hn hx hy).mono fun _ _ ⟨he, hd⟩ => ⟨by rw [he]; simp, hd.below _⟩


/-- The numbers k, k + 1, .. -/
def marks (k : Int) (n : Nat) : List Int := (List.range n).map fun (i : Nat) => k + (i : Int)
theorem marks_len (k : Int) (n : Nat) : (marks k n).length = n := by simp [marks]
theorem marks_get (k : Int) (n i : Nat) (h : i < n) : (marks k n)[i]'(by rw [marks_len]; exact h) = k + (i : Int) := by simp [marks]

theorem marks_succ (k : Int) (n : Nat) : marks k (n + 1) = marks k n ++ [k + (n : Int)] := by simp [marks, List.range_succ]
theorem marks_set (k : Int) (xs : List Int) (j : Nat) (h : j < xs.length) : (ic (marks k j ++ xs.drop j)).set j (.int .i64 (k + (j : Int))) = ic (marks k (j + 1) ++ xs.drop (j + 1)) := by
  have e : (ic (marks k j)).length = j := by rw [ic_len, marks_len]
  have e1 : ic (marks k j ++ xs.drop j) = ic (marks k j) ++ (Value.int .i64 xs[j] :: ic (xs.drop (j + 1))) := by
    rw [List.drop_eq_getElem_cons h]; simp only [ic, List.map_append, List.map_cons]
  rw [e1, List.set_append_right _ _ (by omega), e, Nat.sub_self, List.set_cons_zero, marks_succ]
  simp only [ic, List.map_append, List.map_cons, List.append_assoc, List.cons_append, List.nil_append]

end Go.Proofs.YtcdoopccmljaoaaDoor
