/- The program's RoundMost and the reference's agree: FnExactRoundMost returns true for every input. No conditions. -/
import Derived.Test.YtlblojmjfkcdeaaSeat
import Derived.Test.YtlblojmjfkcdeaaRoundMost
import Derived.Deep.RegionHeld3
namespace Go.Proofs.Ytlblojmjfkcdeaa
open Go.ChangeShapes Go.WideShapes Go.ChangeAt Go.RowKit Go.Deep
theorem szOf_neg {n : Nat} (h : 1048576 < n) : szOf 1048576 n = -1 := by unfold szOf; rw [if_pos (by omega)]
theorem szOf_pos {n : Nat} (h : n ≤ 1048576) : 0 ≤ szOf 1048576 n := by unfold szOf; rw [if_neg (by omega)]; omega
set_option linter.unusedSimpArgs false in
set_option linter.unusedVariables false in
set_option maxRecDepth 100000 in
set_option maxHeartbeats 2000000 in
theorem w_FnExactRoundMost (w : World) (A : Option Addr) (c : Nat) (z : List (Int × Int)) (hk : z.length ≤ c) (hm : c ≤ maxLen) (rd : Rd w w.heap.size A (sc z)) (a b : Int) :
    Calls Try.prog 15 #[.slice A z.length c, .agg #[.int .i64 a, .int .i64 b]] w fun e w' => e = .returned (.bool true) ∧ Below w.heap.size w w' := by
  unfold maxLen at hm
  by_cases hn : 1048576 < z.length
  · have HZ := hide (szOf_neg hn)
    go_enter Try.func15, Try.ntmps15
    go_wp2_with fail
    refine (szSheetS_any A z.length c 1048576 _ (by omega) (by omega) (by omega)).mono ?_
    rintro e w' ⟨rfl, rfl⟩
    rw [HZ.out]
    go_wp2
    go_ret
    exact ⟨rfl, by go_grown⟩
  · have hz : z.length ≤ 1099511627776 := by omega
    have hs := szOf_pos (n := z.length) (by omega)
    go_enter Try.func15, Try.ntmps15
    go_wp2_with fail
    refine (szSheetS_any A z.length c 1048576 _ (by omega) (by omega) (by omega)).mono ?_
    rintro e w' ⟨rfl, rfl⟩
    generalize szOf 1048576 z.length = sz at *
    clear hn hm hk
    have hW0 : Below w.heap.size w (w.alloc (.cells #[.int .i64 a, .int .i64 b] 25)) := by go_grown
    have hz0 : w.heap.size < (w.alloc (.cells #[.int .i64 a, .int .i64 b] 25)).heap.size := by simp
    have s0 : (w.alloc (.cells #[.int .i64 a, .int .i64 b] 25)).cell? ⟨w.heap.size, 0, none⟩ = some (.int .i64 a) := by simp [go_sem]
    have s1 : (w.alloc (.cells #[.int .i64 a, .int .i64 b] 25)).cell? ⟨w.heap.size, 1, none⟩ = some (.int .i64 b) := by simp [go_sem]
    generalize w.alloc (.cells #[.int .i64 a, .int .i64 b] 25) = w0 at *
    replace rd := rd.up hW0
    have HM := hide (fun A c w rd => roundMost_spec A c z a b w hz rd)
    have HI := hide (fun A c w rd => roundMost_any A c z a b w hz rd)
    generalize roundMost z a b = v at *
    have tt : (v != v) = false := bne_self_eq_false v
    go_wp2_with fail
    go_region_held3 (fun w' => w'.cell? ⟨w.heap.size, 0, none⟩ = some (.int .i64 a) ∧ w'.cell? ⟨w.heap.size, 1, none⟩ = some (.int .i64 b))
      (refine ⟨?_, ?_⟩ <;> exact later (a := w0) (B := w0.heap.size) (by go_grown) (by go_size) (by assumption))
      (first | (go_at_call 42; refine (toSheetS_any A c z _ hz ?_).mono ?_; exact rd.up (by go_grown); rintro e w1 ⟨rfl, r1, b1⟩; have B1 : Below w0.heap.size w0 w1 := via (by go_grown) b1 (by go_size); have z1 := B1.size) | (go_at_call 23; refine (toJump_any _ _ _).mono ?_; rintro e w' ⟨rfl, rfl⟩) | (go_at_call 51; refine (HM.out _ _ _ ?_).mono ?_; exact r1.rd.up (by go_grown); rintro e w3 ⟨rfl, b3⟩; have B3 : Below w0.heap.size w0 w3 := via (by go_grown) b3 (by go_size); have z3 := B3.size))
    clear b1 b3 r1 B1 z1
    go_wp2_with fail
    refine (toSheetS_any A c z w3 hz (rd.up B3)).mono ?_
    rintro e w4 ⟨rfl, r4, b4⟩
    have B4 := via B3 b4 z3
    have t0 := later B4 (p := ⟨w.heap.size, 0, none⟩) hz0 s0
    have t1 := later B4 (p := ⟨w.heap.size, 1, none⟩) hz0 s1
    go_wp2_with fail
    refine (toJump_any a b w4).mono ?_
    rintro e w6 ⟨rfl, hw6⟩
    have b6 : Below w4.heap.size w4 w6 := by rw [← hw6]; go_grown
    clear hw6
    have B6 := via B4 b6 B4.size
    have R6 := r4.rd.up b6
    go_wp2_with fail
    refine (HI.out _ _ w6 R6).mono ?_
    rintro e w7 ⟨rfl, b7⟩
    have B7 := via B6 b7 B6.size
    have Q7 := R6.up b7
    clear R6 r4 b4 b6 b7 t0 t1
    go_wp2_with fail
    refine (toSheetS_any A c z w7 hz (rd.up B7)).mono ?_
    rintro e w8 ⟨rfl, r8, b8⟩
    have B8 := via B7 b8 B7.size
    go_wp2_with fail
    refine (eqSheetS_any _ _ _ _ z w8 hz (Q7.up b8) r8.rd).mono ?_
    rintro e w9 ⟨rfl, b9⟩
    have B9 := via B8 b9 B8.size
    go_wp2
    go_ret
    exact ⟨rfl, via hW0 B9 (by omega)⟩
namespace FnExactRoundMost
set_option maxRecDepth 100000 in
theorem lifted (os : Os) (started : os.Started) (H : Type) (enc : TypeId × Value → H) :
    ReturnsInHanded {} Try.checked os 15 .any (Rows.fnExactRoundMostSpec.pre6 enc Try.prog Try.f15 Rows.fnExactRoundMostRow.domain false) (Rows.fnExactRoundMostSpec.post enc Try.prog Try.f15 false true false false) := by
  refine returnsInHanded_of_change (C := Try.checked) own started (by kernel_rfl) Try.func15
    (ChangeSpec.witness6 (enc := enc) (C := Try.checked) false ⟨#[], #[.slice none 0 0, .agg #[.int .i64 0, .int .i64 0]], []⟩ 8 (by kernel_rfl) (by kernel_rfl) (by kernel_rfl) (by kernel_rfl)) ?_
  intro W base args ds gs before hval0 hW hcnd _
  have hval : ∀ (j : Nat) t v, Try.f15.params[j]? = some t → args[j]? = some v → Value.okWide Try.prog W .any base t v := hval0
  have hW' := hW
  obtain ⟨p, q, hA0, hV, rfl, hfz, hnd⟩ := hW
  have hA : DataW.TrodAll enc Try.prog W 0 (fun _ => true) true Try.f15.params.toList args.toList ds p := hA0
  rw [Try.params15] at hA hval
  obtain ⟨v0, vs0, d0, ds0, p0, q0, hargs, rfl, rfl, h0, r0⟩ := trodAll_cons hA
  obtain ⟨v1, vs1, d1, ds1, p1, q1, rfl, rfl, rfl, h1, r1⟩ := trodAll_cons r0
  obtain ⟨rfl, rfl, rfl⟩ := trodAll_nil r1
  obtain rfl : args = #[v0, v1] := by cases args; simp_all
  obtain ⟨rfl, rfl⟩ := trodVars_none hV
  have lt0 : ∀ x ∈ p0, x.block < W.heap.size := by obtain ⟨m, hm⟩ := h0; exact DataW.trod_lt m _ _ _ hm
  have lt1 : ∀ x ∈ p1, x.block < W.heap.size := by obtain ⟨m, hm⟩ := h1; exact DataW.trod_lt m _ _ _ hm
  obtain ⟨A0, n0, c0, z0, rfl, rfl, k0, m0, rd0⟩ := op_pairs Try.underlying43 Try.underlying30 (by kernel_rfl) (by kernel_rfl) Try.underlying3 Try.underlying3 (hval 0 43 v0 rfl rfl) h0
  obtain ⟨a1, b1, rfl⟩ := op_pair Try.underlying25 (by kernel_rfl) (by kernel_rfl) Try.underlying3 Try.underlying3 (hval 1 25 v1 rfl rfl) h1
  clear hA0 hval0
  refine (w_FnExactRoundMost W A0 c0 z0 k0 m0 rd0 a1 b1).mono fun e W' ⟨he, bel⟩ => ?_
  subst he
  exact ⟨_, rfl, _, _, _, [], _, [], hW', trodAll_mk1 (shut_bool Try.underlying4 _), (trodAll_cons_mk (Below.trod laidOut (by kernel_rfl) (of_decide_eq_true (by kernel_rfl)) h0 bel lt0) (trodAll_cons_mk (Below.trod laidOut (by kernel_rfl) (of_decide_eq_true (by kernel_rfl)) h1 bel lt1) trodAll_mk0)), rfl, bel.frame _, fun h => by cases h⟩
theorem closed : joinedFacts Try.prog 15 Try.f15 Rows.fnExactRoundMostSpec Rows.fnExactRoundMostRow = true := by
  unfold joinedFacts
  rw [mayEnter, liftsFinal, progMake]
  kernel_rfl
theorem over : Rows.fnExactRoundMostRow.holds Try.pinned (OpenSpec.ofChange Rows.fnExactRoundMostSpec) :=
  OpenClaim.holds_of_wide 15 Try.f15 rfl rfl rfl rfl rfl rfl rfl ⟨rfl, rfl, rfl, rfl, rfl⟩ rfl rfl rfl rfl rfl (by kernel_rfl) Try.func15 closed
    (of_decide_eq_true (by kernel_rfl)) (by unfold Func.isWrapper; first | (rw [if_pos (by decide +kernel)]; kernel_rfl) | (rw [if_neg (by decide +kernel)]; exact ⟨rfl, rfl⟩))
    (fun os started H enc _ => lifted os started H enc)
theorem proved : Rows.FnExactRoundMostSaid := over
end FnExactRoundMost
#print axioms FnExactRoundMost.proved
end Go.Proofs.Ytlblojmjfkcdeaa
