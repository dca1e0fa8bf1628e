/- The best way to share slabs among two furnaces, the program's and the reference's, for every argument. Conditions: bounds on lengths. -/
import Derived.Test.YtcdoopccmljaoaaDoorSplitImpl
import Derived.Deep.QuietTactic
import Derived.BigQuiet
namespace Go.Proofs.YtcdoopccmljaoaaDoor
open Go.ChangeShapes Go.WideShapes Go.ChangeAt Go.RowKit Go.Deep
def splitBest (zs : List (Int × Int)) (a z : Int) : Int := if chargesValid zs && furnaceValid a z then (bestN (passEnd a.toNat z) zs : Int) else -1
theorem split_no {zs : List (Int × Int)} {a z : Int} (h : chargesValid zs = false ∨ furnaceValid a z = false) : splitBest zs a z = -1 := by
  unfold splitBest; rcases h with h | h <;> simp [h]
theorem split_yes {zs : List (Int × Int)} {R : Nat} {z : Int} (hv : chargesValid zs = true) (hf : furnaceValid (R : Int) z = true) : splitBest zs (R : Int) z = (argMin (splitN (passEnd R z) zs) (2 ^ zs.length - 1) : Int) := by
  unfold splitBest; rw [hv, hf]; simp [bestN]
theorem argMin_succ (F : Nat → Int) (q : Nat) : argMin F (q + 1) = if F (q + 1) < F (argMin F q) then q + 1 else argMin F q := rfl
set_option linter.unusedSimpArgs false in
set_option linter.unusedVariables false in
set_option maxHeartbeats 4000000 in
set_option maxRecDepth 100000 in
theorem splitBest_any (A : Option Addr) (c : Nat) (zs : List (Int × Int)) (a z : Int) (w : World) (hn : zs.length ≤ 1099511627776) (hr : Rd w w.heap.size A (sc zs)) :
    Calls Tryd.prog 69 #[.slice A zs.length c, .agg #[.int .i64 a, .int .i64 z]] w fun e w' => e = .returned (.int .i64 (splitBest zs a z)) ∧ Below w.heap.size w w' := by
  go_enter Tryd.func69, Tryd.ntmps69
  have k := pcells (Row.new w 65 #[.int .i64 a, .int .i64 z])
  have b0 : Below w.heap.size w (w.alloc (.cells #[.int .i64 a, .int .i64 z] 65)) := by go_grown
  replace hr := hr.up b0
  go_wp2_with fail
  generalize w.alloc (.cells #[.int .i64 a, .int .i64 z] 65) = w0 at *
  have K0 := Ext.old k.1
  have K1 := Ext.old k.2.1
  clear k
  obtain ⟨x0, hx0⟩ := ext_self w0
  rw [← hx0]
  clear hx0
  refine (chargesValid_any A c zs x0.val (by omega) (hr.up x0.below)).mono ?_
  rintro e w' ⟨rfl, b⟩
  obtain ⟨y1, rfl⟩ := ext_next b
  clear b
  cases hv : chargesValid zs
  · have hno := hide (split_no (a := a) (z := z) (.inl hv))
    clear hv
    go_wp2
    go_ret
    exact ⟨ret_int hno.out.symm, via b0 (Ext.below y1) b0.size⟩
  go_wp2_with fail
  refine (furnaceValid_any a z y1.val).mono ?_
  rintro e w' ⟨rfl, hw'⟩
  have b : Below y1.val.heap.size y1.val w' := by rw [← hw']; go_grown
  clear hw'
  obtain ⟨y2, rfl⟩ := ext_next b
  clear b
  cases hf : furnaceValid a z
  · have hno := hide (split_no (zs := zs) (.inr hf))
    clear hf hv
    go_wp2
    go_ret
    exact ⟨ret_int hno.out.symm, via b0 (Ext.below y2) b0.size⟩
  obtain ⟨⟨a1, a8⟩, _⟩ := furnace_at hf
  obtain ⟨R, rfl⟩ : ∃ R : Nat, a = (R : Int) := ⟨a.toNat, by omega⟩
  obtain ⟨hl8, _⟩ := charges_at hv
  have hyes := hide (split_yes hv hf)
  obtain ⟨N, hN⟩ : ∃ N, N = 2 ^ zs.length := ⟨_, rfl⟩
  have hn256 : N ≤ 256 := by rw [hN]; exact Nat.le_trans (Nat.pow_le_pow_right (by omega) hl8) (by decide)
  have hn1 : 1 ≤ N := by rw [hN]; exact Nat.one_le_two_pow
  have e2 : (2 : Int) ^ zs.length = (N : Int) := by rw [hN]; push_cast; rfl
  have HE := hide (fun s (hs : s < N) (x : Ext w0) => splitEnd_any A c zs R s z x.val hv hf (by rw [← hN]; exact hs) (hr.up x.below))
  rw [← hN] at hyes
  clear hv hf hN a1 a8
  generalize splitN (passEnd R z) zs = F at *
  go_wp2_with fail
  refine (HE.out 0 (by omega) y2).mono ?_
  rintro e w' ⟨rfl, b⟩
  obtain ⟨y3, rfl⟩ := ext_next b
  clear b
  go_wp2_with fail
  go_loopw [5, 6, 7] (fun m x i wr => ∃ q : Nat, q + 1 ≤ N ∧ i = .int .i64 ((q : Int) + 1) ∧ m = .int .i64 (argMin F q : Nat) ∧ x = .int .i64 (F (argMin F q)) ∧ Below w0.heap.size w0 wr) (fun _ _ i _ => N - (intOf i).toNat)
  case atStart => exact ⟨0, hn1, rfl, rfl, rfl, y3.below⟩
  case round =>
    obtain ⟨q, hq, rfl, rfl, rfl, hb⟩ := hrel
    obtain ⟨y4, rfl⟩ : ∃ y : Ext w0, wr = y.val := ⟨⟨wr, hb⟩, rfl⟩
    clear hb
    by_cases hlt : q + 1 < N
    · obtain ⟨m, hm⟩ : ∃ m, argMin F q = m := ⟨_, rfl⟩
      obtain ⟨u, hu⟩ : ∃ u, F (q + 1) = u := ⟨_, rfl⟩
      obtain ⟨v, hw⟩ : ∃ v, F m = v := ⟨_, rfl⟩
      have hst := argMin_succ F q
      have HE1 := HE.out (q + 1) hlt y4
      rw [hm, hu, hw] at hst
      rw [hu] at HE1
      push_cast at HE1
      rw [hm, hw]
      have HE1 := hide HE1
      have hst := hide hst
      have hu := hide hu
      have hw := hide hw
      clear hm
      go_wp2_with fail
      refine HE1.out.mono ?_
      rintro e w' ⟨rfl, b⟩
      obtain ⟨y5, rfl⟩ := ext_next b
      clear b
      by_cases huv : u < v
      · have hs2 := hst.out
        rw [if_pos huv] at hs2
        have hs2 := hide hs2
        go_wp2_with fail
        go_roundw
        case rel => exact ⟨q + 1, by omega, by go_num, by rw [hs2.out]; go_num, by rw [hs2.out, hu.out], y5.below⟩
        case measure => first | (simp [intOf]; done) | (simp [intOf]; omega)
      · have hs2 := hst.out
        rw [if_neg huv] at hs2
        have hs2 := hide hs2
        go_wp2_with fail
        go_roundw
        case rel => exact ⟨q + 1, by omega, by go_num, by rw [hs2.out], by rw [hs2.out, hw.out], y5.below⟩
        case measure => first | (simp [intOf]; done) | (simp [intOf]; omega)
    · obtain rfl : N = q + 1 := by omega
      rw [Nat.add_sub_cancel] at hyes
      have hb := via b0 (Ext.below y4) b0.size
      clear HE
      go_wp2
      go_ret
      exact ⟨ret_int hyes.out.symm, hb⟩
set_option linter.unusedSimpArgs false in
set_option linter.unusedVariables false in
set_option maxHeartbeats 4000000 in
set_option maxRecDepth 100000 in
theorem splitBest_spec (A : Option Addr) (c : Nat) (zs : List (Int × Int)) (a z : Int) (w : World) (hn : zs.length ≤ 1099511627776) (hr : Rd w w.heap.size A (sc zs)) :
    Calls Tryd.prog 70 #[.slice A zs.length c, .agg #[.int .i64 a, .int .i64 z]] w fun e w' => e = .returned (.int .i64 (splitBest zs a z)) ∧ Below w.heap.size w w' := by
  go_enter Tryd.func70, Tryd.ntmps70
  have k := pcells (Row.new w 65 #[.int .i64 a, .int .i64 z])
  have b0 : Below w.heap.size w (w.alloc (.cells #[.int .i64 a, .int .i64 z] 65)) := by go_grown
  replace hr := hr.up b0
  go_wp2_with fail
  generalize w.alloc (.cells #[.int .i64 a, .int .i64 z] 65) = w0 at *
  have K0 := Ext.old k.1
  have K1 := Ext.old k.2.1
  clear k
  obtain ⟨x0, hx0⟩ := ext_self w0
  rw [← hx0]
  clear hx0
  refine (chargesValid_spec A c zs x0.val (by omega) (hr.up x0.below)).mono ?_
  rintro e w' ⟨rfl, b⟩
  obtain ⟨y1, rfl⟩ := ext_next b
  clear b
  cases hv : chargesValid zs
  · have hno := hide (split_no (a := a) (z := z) (.inl hv))
    clear hv
    go_wp2
    go_ret
    exact ⟨ret_int hno.out.symm, via b0 (Ext.below y1) b0.size⟩
  go_wp2_with fail
  refine (furnaceValid_spec a z y1.val).mono ?_
  rintro e w' ⟨rfl, hw'⟩
  have b : Below y1.val.heap.size y1.val w' := by rw [← hw']; go_grown
  clear hw'
  obtain ⟨y2, rfl⟩ := ext_next b
  clear b
  cases hf : furnaceValid a z
  · have hno := hide (split_no (zs := zs) (.inr hf))
    clear hf hv
    go_wp2
    go_ret
    exact ⟨ret_int hno.out.symm, via b0 (Ext.below y2) b0.size⟩
  obtain ⟨⟨a1, a8⟩, _⟩ := furnace_at hf
  obtain ⟨R, rfl⟩ : ∃ R : Nat, a = (R : Int) := ⟨a.toNat, by omega⟩
  obtain ⟨hl8, _⟩ := charges_at hv
  have hyes := hide (split_yes hv hf)
  obtain ⟨N, hN⟩ : ∃ N, N = 2 ^ zs.length := ⟨_, rfl⟩
  have hn256 : N ≤ 256 := by rw [hN]; exact Nat.le_trans (Nat.pow_le_pow_right (by omega) hl8) (by decide)
  have hn1 : 1 ≤ N := by rw [hN]; exact Nat.one_le_two_pow
  have e2 : (2 : Int) ^ zs.length = (N : Int) := by rw [hN]; push_cast; rfl
  have HE := hide (fun s (hs : s < N) (x : Ext w0) => splitEnd_spec A c zs R s z x.val hv hf (by rw [← hN]; exact hs) (hr.up x.below))
  rw [← hN] at hyes
  clear hv hf hN a1 a8
  generalize splitN (passEnd R z) zs = F at *
  go_wp2_with fail
  go_loopw [5, 6] (fun m i wr => ∃ q : Nat, q ≤ N ∧ i = .int .i64 (q : Int) ∧ ((q = 0 ∧ m = .int .i64 (-1)) ∨ ∃ p, q = p + 1 ∧ m = .int .i64 (argMin F p : Nat)) ∧ Below w0.heap.size w0 wr) (fun _ i _ => N - (intOf i).toNat)
  case atStart => exact ⟨0, Nat.zero_le _, rfl, .inl ⟨rfl, rfl⟩, y2.below⟩
  case round =>
    obtain ⟨q, hq, rfl, hm, hb⟩ := hrel
    obtain ⟨y4, rfl⟩ : ∃ y : Ext w0, wr = y.val := ⟨⟨wr, hb⟩, rfl⟩
    clear hb
    by_cases hlt : q < N
    · rcases hm with ⟨rfl, rfl⟩ | ⟨p, rfl, rfl⟩
      ·
        go_wp2_with fail
        refine wp_region_in (by kernel_rfl) (by kernel_rfl) ?_
        repeat (go_big_quiet_step (fail))
        refine wpQuiet_nil ?_
        intro _ hw'
        obtain ⟨y5, hw5⟩ := hw'
        subst hw5
        go_wp2_with fail
        go_roundw
        case rel => exact ⟨1, by omega, rfl, .inr ⟨0, rfl, rfl⟩, y5.below⟩
        case measure => first | (simp [intOf]; done) | (simp [intOf]; omega)
      · obtain ⟨m, hm⟩ : ∃ m, argMin F p = m := ⟨_, rfl⟩
        have hmp := argMin_le F p
        rw [hm] at hmp
        obtain ⟨u, hu⟩ : ∃ u, F (p + 1) = u := ⟨_, rfl⟩
        obtain ⟨v, hw⟩ : ∃ v, F m = v := ⟨_, rfl⟩
        have hst := argMin_succ F p
        have HE1 := HE.out (p + 1) hlt
        have HE2 := HE.out m (by omega)
        rw [hm, hu, hw] at hst
        rw [hu] at HE1
        rw [hw] at HE2
        push_cast at HE1
        rw [hm]
        have HE1 := hide HE1
        have HE2 := hide HE2
        clear hm hu hw
        have t0 : decide ((m : Int) < 0) = false := decide_eq_false (by omega)
        by_cases huv : u < v
        · rw [if_pos huv] at hst
          have hs2 := hide hst
          have t1 : decide (u < v) = true := decide_eq_true huv
          clear hst
          go_wp2_with fail
          refine wp_region_in (by kernel_rfl) (by kernel_rfl) ?_
          repeat (go_big_quiet_step ((go_at_call 98; first | with_reducible exact ext_of rfl (HE1.out _) | with_reducible exact ext_of rfl (HE2.out _))))
          refine wpQuiet_nil ?_
          intro _ hw'
          obtain ⟨y5, hw5⟩ := hw'
          subst hw5
          go_wp2_with fail
          go_roundw
          case rel => exact ⟨p + 1 + 1, by omega, by go_num, .inr ⟨p + 1, rfl, by rw [hs2.out]⟩, y5.below⟩
          case measure => first | (simp [intOf]; done) | (simp [intOf]; omega)
        · rw [if_neg huv] at hst
          have hs2 := hide hst
          have t1 : decide (u < v) = false := decide_eq_false huv
          clear hst
          go_wp2_with fail
          refine wp_region_in (by kernel_rfl) (by kernel_rfl) ?_
          repeat (go_big_quiet_step ((go_at_call 98; first | with_reducible exact ext_of rfl (HE1.out _) | with_reducible exact ext_of rfl (HE2.out _))))
          refine wpQuiet_nil ?_
          intro _ hw'
          obtain ⟨y5, hw5⟩ := hw'
          subst hw5
          go_wp2_with fail
          go_roundw
          case rel => exact ⟨p + 1 + 1, by omega, by go_num, .inr ⟨p + 1, rfl, by rw [hs2.out]⟩, y5.below⟩
          case measure => first | (simp [intOf]; done) | (simp [intOf]; omega)
    · obtain rfl : q = N := by omega
      rcases hm with ⟨rfl, _⟩ | ⟨p, rfl, rfl⟩
      · omega
      · rw [Nat.add_sub_cancel] at hyes
        have hb := via b0 (Ext.below y4) b0.size
        clear HE
        go_wp2
        go_ret
        exact ⟨ret_int hyes.out.symm, hb⟩
end Go.Proofs.YtcdoopccmljaoaaDoor
