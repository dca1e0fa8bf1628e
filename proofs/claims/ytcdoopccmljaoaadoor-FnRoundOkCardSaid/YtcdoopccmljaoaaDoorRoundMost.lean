/- RoundMost, the program's and the reference's. No conditions but bounds on lengths. -/
import Derived.Test.YtcdoopccmljaoaaDoorRoundImpl
namespace Go.Proofs.YtcdoopccmljaoaaDoor
open Go.ChangeShapes Go.WideShapes Go.ChangeAt Go.RowKit Go.Deep
theorem most_yes {zs : List (Int × Int)} {j k : Int} (h1 : sheetsValid zs = true) (h2 : jumpValid j k = true) : roundMost zs j k = ((roundBest zs j k).length : Int) := by
  rw [best_yes h1 h2, List.length_map]; unfold roundMost; rw [h1, h2]; rfl
theorem most_no {zs : List (Int × Int)} {j k : Int} (h : sheetsValid zs = false ∨ jumpValid j k = false) : roundMost zs j k = -1 := by
  unfold roundMost; rcases h with h | h <;> simp [h]
theorem best_short (zs : List (Int × Int)) (j k : Int) : (roundBest zs j k).length ≤ zs.length := by
  unfold roundBest
  split
  · rw [List.length_map]; exact best_le zs j k
  · exact Nat.zero_le _
set_option linter.unusedSimpArgs false in
set_option linter.unusedVariables false in
set_option maxRecDepth 100000 in
theorem roundMost_any (A : Option Addr) (c : Nat) (zs : List (Int × Int)) (j k : Int) (w : World) (hz : zs.length ≤ 1099511627776) (hr : Rd w w.heap.size A (sc zs)) :
    Calls Tryd.prog 55 #[.slice A zs.length c, .agg #[.int .i64 j, .int .i64 k]] w fun e w' => e = .returned (.int .i64 (roundMost zs j k)) ∧ Below w.heap.size w w' := by
  go_enter Tryd.func55, Tryd.ntmps55
  have q0 := Row.new w 32 #[.int .i64 j, .int .i64 k]
  have b0 : Below w.heap.size w (w.alloc (.cells #[.int .i64 j, .int .i64 k] 32)) := by go_grown
  go_wp2_with fail
  generalize w.alloc (.cells #[.int .i64 j, .int .i64 k] 32) = w0 at *
  refine (sheetsValid_any A c zs w0 hz (hr.up b0)).mono ?_
  rintro e w1 ⟨rfl, b1⟩
  replace q0 := q0.after b1
  replace b0 := via b0 b1 b0.size
  clear b1
  have m0 := q0.cell (j := 0) (by simp)
  have m1 := q0.cell (j := 1) (by simp)
  simp only [List.getElem_cons_zero, List.getElem_cons_succ] at m0 m1
  cases hv : sheetsValid zs
  · have hno := hide (most_no (j := j) (k := k) (.inl hv))
    clear hv
    go_wp2
    go_ret
    rw [hno.out]
    exact ⟨rfl, b0⟩
  · cases hj : jumpValid j k
    · have hno := hide (most_no (zs := zs) (.inr hj))
      clear hv
      go_wp2_with fail
      refine (jumpValid_any j k w1).mono ?_
      rw [hj]
      rintro e w2 ⟨rfl, hw2⟩
      have b2 : Below w1.heap.size w1 w2 := by rw [← hw2]; go_grown
      have bb := via b0 b2 b0.size
      clear hj hw2
      go_wp2
      go_ret
      rw [hno.out]
      exact ⟨rfl, bb⟩
    · have hyes := hide (most_yes hv hj)
      go_wp2_with fail
      refine (jumpValid_any j k w1).mono ?_
      rw [hj]
      rintro e w2 ⟨rfl, hw2⟩
      have b2 : Below w1.heap.size w1 w2 := by rw [← hw2]; go_grown
      replace q0 := q0.after b2
      replace b0 := via b0 b2 b0.size
      clear hw2 b2 m0 m1
      have m0 := q0.cell (j := 0) (by simp)
      have m1 := q0.cell (j := 1) (by simp)
      simp only [List.getElem_cons_zero, List.getElem_cons_succ] at m0 m1
      have HL := hide (roundBest_any A c zs j k w2 hz (hr.up b0))
      clear hj hv
      go_wp2_with fail
      refine HL.out.mono ?_
      rintro e w3 ⟨I, ci, rfl, _, b3, _⟩
      have bb := via b0 b3 b0.size
      clear HL m0 m1 b3
      go_wp2
      go_ret
      rw [hyes.out]
      exact ⟨rfl, bb⟩
set_option linter.unusedSimpArgs false in
set_option linter.unusedVariables false in
set_option maxRecDepth 100000 in
theorem roundMost_spec (A : Option Addr) (c : Nat) (zs : List (Int × Int)) (j k : Int) (w : World) (hz : zs.length ≤ 1099511627776) (hr : Rd w w.heap.size A (sc zs)) :
    Calls Tryd.prog 56 #[.slice A zs.length c, .agg #[.int .i64 j, .int .i64 k]] w fun e w' => e = .returned (.int .i64 (roundMost zs j k)) ∧ Below w.heap.size w w' := by
  go_enter Tryd.func56, Tryd.ntmps56
  have q0 := Row.new w 32 #[.int .i64 j, .int .i64 k]
  have b0 : Below w.heap.size w (w.alloc (.cells #[.int .i64 j, .int .i64 k] 32)) := by go_grown
  go_wp2_with fail
  generalize w.alloc (.cells #[.int .i64 j, .int .i64 k] 32) = w0 at *
  refine (sheetsValid_spec A c zs w0 hz (hr.up b0)).mono ?_
  rintro e w1 ⟨rfl, b1⟩
  replace q0 := q0.after b1
  replace b0 := via b0 b1 b0.size
  clear b1
  have m0 := q0.cell (j := 0) (by simp)
  have m1 := q0.cell (j := 1) (by simp)
  simp only [List.getElem_cons_zero, List.getElem_cons_succ] at m0 m1
  cases hv : sheetsValid zs
  · have hno := hide (most_no (j := j) (k := k) (.inl hv))
    clear hv
    go_wp2
    go_ret
    rw [hno.out]
    exact ⟨rfl, b0⟩
  · cases hj : jumpValid j k
    · have hno := hide (most_no (zs := zs) (.inr hj))
      clear hv
      go_wp2_with fail
      refine (jumpValid_spec j k w1).mono ?_
      rw [hj]
      rintro e w2 ⟨rfl, hw2⟩
      have b2 : Below w1.heap.size w1 w2 := by rw [← hw2]; go_grown
      have bb := via b0 b2 b0.size
      clear hj hw2
      go_wp2
      go_ret
      rw [hno.out]
      exact ⟨rfl, bb⟩
    · have hyes := hide (most_yes hv hj)
      go_wp2_with fail
      refine (jumpValid_spec j k w1).mono ?_
      rw [hj]
      rintro e w2 ⟨rfl, hw2⟩
      have b2 : Below w1.heap.size w1 w2 := by rw [← hw2]; go_grown
      replace q0 := q0.after b2
      replace b0 := via b0 b2 b0.size
      clear hw2 b2 m0 m1
      have m0 := q0.cell (j := 0) (by simp)
      have m1 := q0.cell (j := 1) (by simp)
      simp only [List.getElem_cons_zero, List.getElem_cons_succ] at m0 m1
      have HL := hide (roundBest_spec A c zs j k w2 hz (hr.up b0))
      clear hj hv
      go_wp2_with fail
      refine HL.out.mono ?_
      rintro e w3 ⟨I, ci, rfl, _, b3, _⟩
      have bb := via b0 b3 b0.size
      clear HL m0 m1 b3
      go_wp2
      go_ret
      rw [hyes.out]
      exact ⟨rfl, bb⟩
end Go.Proofs.YtcdoopccmljaoaaDoor
