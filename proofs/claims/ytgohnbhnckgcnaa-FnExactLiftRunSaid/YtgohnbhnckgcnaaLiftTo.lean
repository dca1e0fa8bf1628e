/- Copies of rows of lifts in a law. No conditions but bounds on lengths. -/
import Derived.Test.YtgohnbhnckgcnaaLiftKit
import Derived.Test.YtgohnbhnckgcnaaLawKit
namespace Go.Proofs.Ytgohnbhnckgcnaa
open Go.ChangeShapes Go.WideShapes Go.ChangeAt Go.RowKit Go.Deep
theorem liftInfo : (Try.prog.info? 60).map (fun i => (i.zero, i.size, i.bytes)) = some (some (.agg #[.bool false, .int .i64 0, .bool false, .int .i64 0]), 4, 32) := by kernel_rfl
theorem madeLifts (n : Nat) : (madeCells #[Value.bool false, Value.int .i64 0, Value.bool false, Value.int .i64 0] (n * 4)).toList = lc (List.replicate n l0) := by
  apply List.ext_getElem?
  intro j
  by_cases hj : j < n * 4
  · have hjn : j / 4 < n := by omega
    obtain ⟨s0, s1, s2, s3⟩ := lc_get (List.replicate n l0) (j / 4) (by simpa using hjn)
    simp only [madeCells, Array.toList_map, Array.toList_range, List.getElem?_map, List.getElem?_range hj, Option.map_some]
    have : j % 4 = 0 ∨ j % 4 = 1 ∨ j % 4 = 2 ∨ j % 4 = 3 := by omega
    rcases this with e | e | e | e
    · rw [show j / 4 * 4 = j by omega] at s0; rw [s0]; simp [e, l0]
    · rw [show j / 4 * 4 + 1 = j by omega] at s1; rw [s1]; simp [e, l0]
    · rw [show j / 4 * 4 + 2 = j by omega] at s2; rw [s2]; simp [e, l0]
    · rw [show j / 4 * 4 + 3 = j by omega] at s3; rw [s3]; simp [e, l0]
  · rw [List.getElem?_eq_none (by simp [madeCells]; omega), List.getElem?_eq_none (by rw [lc_len]; simp; omega)]
set_option maxHeartbeats 1600000 in
theorem toLiftS_any (A : Option Addr) (c : Nat) (ls : List LF) (w : World) (hn : ls.length ≤ 1099511627776) (hr : Rd w w.heap.size A (lc ls)) :
    Calls Try.prog 51 #[.slice A ls.length c] w fun e w' => e = .returned (.slice (some ⟨w.heap.size, 0, none⟩) ls.length ls.length) ∧ Row w' w.heap.size 60 (lc ls) ∧ Below w.heap.size w w' := by
  obtain ⟨i0, hi, hz0, hz1, hz2⟩ := info_parts liftInfo
  have hmk : ∀ W : World, (Instr.makeSlice 66 (.int .i64 (ls.length : Int)) (.int .i64 (ls.length : Int))).run Try.prog W = .ok (.slice (some ⟨W.heap.size, 0, none⟩) ls.length ls.length) (W.alloc (.cells (madeCells #[.bool false, .int .i64 0, .bool false, .int .i64 0] (ls.length * 4)) 60)) := by
    intro W
    have hr := run_make (P := Try.prog) W 66 60 i0 (.agg #[.bool false, .int .i64 0, .bool false, .int .i64 0]) Try.underlying66 hi hz0 .i64 .i64 ls.length ls.length (by omega) (by omega) (by rw [hz2]; omega) (by omega)
    rw [hz1] at hr
    exact hr
  clear hi hz0 hz1 hz2
  go_enter Try.func51, Try.ntmps51
  go_wp2
  go_loopw [4] (fun i wr => ∃ k : Nat, k ≤ ls.length ∧ i = .int .i64 k ∧ Row wr w.heap.size 60 (lc (lfill ls k)) ∧ Below w.heap.size w wr) (fun i _ => ls.length - (intOf i).toNat)
  case atStart =>
    refine ⟨0, Nat.zero_le _, rfl, ?_, by go_grown⟩
    have := Row.new w 60 (madeCells #[.bool false, .int .i64 0, .bool false, .int .i64 0] (ls.length * 4))
    rw [madeLifts] at this
    simpa [lfill] using this
  case round =>
    obtain ⟨k, hk, rfl, hrow, hbel⟩ := hrel
    have hbz := hbel.size
    by_cases hlt : k < ls.length
    · obtain ⟨b, o, hA, hb, hc1, hc2, hc3, hc4⟩ := (hr.below hbel).lift hlt
      subst hA
      have hlen : (lc (lfill ls k)).length = ls.length * 4 := by rw [lc_len, lfill_len _ _ hk]
      have hgl := hrow.lt
      have hs0 := lfill_set ls k hlt
      generalize ls[k] = l at *
      obtain ⟨⟨u, m⟩, ⟨s, t⟩⟩ := l
      go_wp2_with fail
      refine (toLift_any u m s t _).mono ?_
      rintro e w4 ⟨rfl, b4⟩
      have q4 := hrow.after b4
      have d1 := q4.cell (j := k * 4) (by omega)
      have d2 := q4.cell (j := k * 4 + 1) (by omega)
      have d3 := q4.cell (j := k * 4 + 2) (by omega)
      have d4 := q4.cell (j := k * 4 + 3) (by omega)
      have f1 := q4.frozen (k * 4)
      have f2 := q4.frozen (k * 4 + 1)
      have f3 := q4.frozen (k * 4 + 2)
      have f4 := q4.frozen (k * 4 + 3)
      have z4 := b4.size
      have bw4 := via hbel b4 hbz
      go_wp2_with fail
      go_roundw
      case rel =>
        refine ⟨k + 1, by omega, by go_num, ?_, (((bw4.setCell (by simp only; omega) _).setCell (by simp only; omega) _).setCell (by simp only; omega) _).setCell (by simp only; omega) _⟩
        have hs := (((q4.set (k * 4) (.bool u)).set (k * 4 + 1) (.int .i64 m)).set (k * 4 + 2) (.bool s)).set (k * 4 + 3) (.int .i64 t)
        rw [hs0] at hs
        exact hs
      case measure => simp [intOf]; omega
    · have hkl : k = ls.length := by omega
      rw [hkl, lfill_all] at hrow
      go_wp2
      go_ret
      exact ⟨rfl, hrow, hbel⟩
end Go.Proofs.Ytgohnbhnckgcnaa
