/- Rows of lifts compared with themselves. No conditions but bounds on lengths. -/
import Derived.Test.YtgohnbhnckgcnaaLiftTo
namespace Go.Proofs.Ytgohnbhnckgcnaa
open Go.ChangeShapes Go.WideShapes Go.ChangeAt Go.RowKit Go.Deep
theorem eqLift_any (a : Bool) (b : Int) (s : Bool) (t : Int) (w : World) : Calls Try.prog 76 #[.agg #[.bool a, .int .i64 b, .bool s, .int .i64 t], .agg #[.bool a, .int .i64 b, .bool s, .int .i64 t]] w fun e w' => e = .returned (.bool true) ∧ Below w.heap.size w w' := by
  go_enter Try.func76, Try.ntmps76
  go_wp2_with fail
  have q0 := (Row.new w 60 #[.bool a, .int .i64 b, .bool s, .int .i64 t]).alloc (.cells #[.bool a, .int .i64 b, .bool s, .int .i64 t] 60)
  have q1 : Row ((w.alloc (.cells #[.bool a, .int .i64 b, .bool s, .int .i64 t] 60)).alloc (.cells #[.bool a, .int .i64 b, .bool s, .int .i64 t] 60)) (w.heap.size + 1) 60 [.bool a, .int .i64 b, .bool s, .int .i64 t] := (Row.new (w.alloc (.cells #[.bool a, .int .i64 b, .bool s, .int .i64 t] 60)) 60 #[.bool a, .int .i64 b, .bool s, .int .i64 t]).eq (by simp)
  have b0 := bel_two w (.cells #[.bool a, .int .i64 b, .bool s, .int .i64 t] 60) (.cells #[.bool a, .int .i64 b, .bool s, .int .i64 t] 60)
  generalize (w.alloc (.cells #[.bool a, .int .i64 b, .bool s, .int .i64 t] 60)).alloc (.cells #[.bool a, .int .i64 b, .bool s, .int .i64 t] 60) = w0 at *
  obtain ⟨K0, K1, K2, K3⟩ := q0.ext4
  obtain ⟨K4, K5, K6, K7⟩ := q1.ext4
  obtain ⟨x0, hx0⟩ := ext_self w0
  rw [← hx0]
  clear hx0
  go_wp2_with (go_at_call 28; refine (eqSpot_any _ _ _).mono ?_; rintro e w' ⟨rfl, b⟩; obtain ⟨x, rfl⟩ := ext_next b; clear b)
  go_ret
  exact ⟨rfl, via b0 (Ext.below _) b0.size⟩
set_option maxHeartbeats 1600000 in
theorem eqLiftS_any (A B : Option Addr) (c d : Nat) (ls : List LF) (w : World) (hn : ls.length ≤ 1099511627776) (hx : Rd w w.heap.size A (lc ls)) (hy : Rd w w.heap.size B (lc ls)) :
    Calls Try.prog 53 #[.slice A ls.length c, .slice B ls.length d] w fun e w' => e = .returned (.bool true) ∧ Below w.heap.size w w' := by
  have b1 : ((ls.length : Int) != (ls.length : Int)) = false := by simp
  go_enter Try.func53, Try.ntmps53
  go_wp2
  go_loopw [5] (fun i wr => ∃ k : Nat, k ≤ ls.length ∧ i = .int .i64 k ∧ Below w.heap.size w wr) (fun i _ => ls.length - (intOf i).toNat)
  case atStart => exact ⟨0, Nat.zero_le _, rfl, Below.refl _ _⟩
  case round =>
    obtain ⟨k, hk, rfl, hbel⟩ := hrel
    have hbz := hbel.size
    by_cases hlt : k < ls.length
    · obtain ⟨b, o, hA, hb, c1, c2, c3, c4⟩ := (hx.below hbel).lift hlt
      obtain ⟨b', o', hB, hb', d1, d2, d3, d4⟩ := (hy.below hbel).lift hlt
      subst hA hB
      have c1 := Ext.old c1
      have c2 := Ext.old c2
      have c3 := Ext.old c3
      have c4 := Ext.old c4
      have d1 := Ext.old d1
      have d2 := Ext.old d2
      have d3 := Ext.old d3
      have d4 := Ext.old d4
      have i0 : (0 : Int) ≤ (k : Int) := by omega
      have i1 : (k : Int) < (ls.length : Int) := by omega
      go_wp2
      refine wp_region_ext (by kernel_rfl) (by kernel_rfl) ?_
      repeat (go_big_quiet_step ((go_at_call 76; refine ext_of (v := .bool true) ?_ (eqLift_any _ _ _ _ _); simp)))
      refine wpQuiet_nil ?_
      intro _ hw'
      obtain ⟨⟨wn, hbn⟩, hw''⟩ := hw'
      subst hw''
      have hbw := via hbel hbn hbz
      go_wp2
      go_roundw
      case rel => exact ⟨k + 1, by omega, by go_num, hbw⟩
      case measure => simp [intOf]; omega
    · go_wp2
      go_ret
      exact ⟨rfl, hbel⟩
end Go.Proofs.Ytgohnbhnckgcnaa
