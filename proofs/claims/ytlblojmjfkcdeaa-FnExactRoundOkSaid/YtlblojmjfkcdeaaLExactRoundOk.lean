/- The program's RoundOk and the reference's agree: FnExactRoundOk returns true for every input. No conditions. -/
import Derived.Test.YtlblojmjfkcdeaaSeat
import Derived.Test.YtlblojmjfkcdeaaRound
import Derived.Deep.RegionHeld3
namespace Go.Proofs.Ytlblojmjfkcdeaa
open Go.ChangeShapes Go.WideShapes Go.ChangeAt Go.RowKit Go.Deep
theorem szOf_neg {n : Nat} (h : 1048576 < n) : szOf 1048576 n = -1 := by unfold szOf; rw [if_pos (by omega)]
theorem szOf_pos {n : Nat} (h : n ≤ 1048576) : 0 ≤ szOf 1048576 n := by unfold szOf; rw [if_neg (by omega)]; omega
set_option maxRecDepth 100000 in
set_option maxHeartbeats 1600000 in
theorem w_FnExactRoundOk (w : World) (A : Option Addr) (k : Nat) (z : List (Int × Int)) (hk : z.length ≤ k) (hm : k ≤ maxLen) (rd : Rd w w.heap.size A (sc z)) (a b : Int)
    (A' : Option Addr) (k' : Nat) (r : List Int) (_hk' : r.length ≤ k') (_hm' : k' ≤ maxLen) (_hw : ∀ x ∈ r, (Lit.int .i64 x).wf = true) (rd' : Rd w w.heap.size A' (ic r)) :
    Calls Try.prog 14 #[.slice A z.length k, .agg #[.int .i64 a, .int .i64 b], .slice A' r.length k'] w fun e w' => e = .returned (.bool true) ∧ Below w.heap.size w w' := by
  unfold maxLen at hm
  by_cases hr : 1048576 < r.length
  · go_enter Try.func14, Try.ntmps14
    go_wp2
    go_ret
    exact ⟨rfl, by go_grown⟩
  · by_cases hn : 1048576 < z.length
    · have HZ := hide (szOf_neg hn)
      go_enter Try.func14, Try.ntmps14
      go_wp2_with fail
      refine (szSheetS_any A z.length k 1048576 _ (by omega) (by omega) (by omega)).mono ?_
      rintro e w' ⟨rfl, rfl⟩
      rw [HZ.out]
      go_wp2
      go_ret
      exact ⟨rfl, by go_grown⟩
    · have hz : z.length ≤ 1099511627776 := by omega
      have hz' : r.length ≤ 1099511627776 := by omega
      have hs := szOf_pos (n := z.length) (by omega)
      go_enter Try.func14, Try.ntmps14
      go_wp2_with fail
      refine (szSheetS_any A z.length k 1048576 _ (by omega) (by omega) (by omega)).mono ?_
      rintro e w' ⟨rfl, rfl⟩
      generalize szOf 1048576 z.length = sz at *
      clear hr hn hm hk
      have hW0 : Below w.heap.size w (w.alloc (.cells #[.int .i64 a, .int .i64 b] 25)) := by go_grown
      have hz0 : w.heap.size < (w.alloc (.cells #[.int .i64 a, .int .i64 b] 25)).heap.size := by simp
      have s0 : (w.alloc (.cells #[.int .i64 a, .int .i64 b] 25)).cell? ⟨w.heap.size, 0, none⟩ = some (.int .i64 a) := by simp [go_sem]
      have s1 : (w.alloc (.cells #[.int .i64 a, .int .i64 b] 25)).cell? ⟨w.heap.size, 1, none⟩ = some (.int .i64 b) := by simp [go_sem]
      generalize w.alloc (.cells #[.int .i64 a, .int .i64 b] 25) = w0 at *
      replace rd := rd.up hW0
      replace rd' := rd'.up hW0
      go_wp2_with fail
      go_region_held3 (fun w' => w'.cell? ⟨w.heap.size, 0, none⟩ = some (.int .i64 a) ∧ w'.cell? ⟨w.heap.size, 1, none⟩ = some (.int .i64 b))
        (refine ⟨?_, ?_⟩ <;> exact later (a := w0) (B := w0.heap.size) (by go_grown) (by go_size) (by assumption))
        (first | (go_at_call 42; refine (toSheetS_any A k z _ hz ?_).mono ?_; exact rd.up (by go_grown); rintro e w1 ⟨rfl, r1, b1⟩; have B1 : Below w0.heap.size w0 w1 := via (by go_grown) b1 (by go_size); have z1 := B1.size) | (go_at_call 23; refine (toJump_any _ _ _).mono ?_; rintro e w' ⟨rfl, rfl⟩) | (go_at_call 35; refine (toIntS_any A' k' r _ hz' ?_).mono ?_; exact rd'.up (by go_grown); rintro e w2 ⟨rfl, r2, b2⟩; have B2 : Below w0.heap.size w0 w2 := via (by go_grown) b2 (by go_size); have z2 := B2.size; have B12 : Below w1.heap.size w1 w2 := via (by go_grown) b2 (by go_size)) | (go_at_call 49; refine (roundOk_spec _ _ _ _ z a b r _ hz hz' ?_ ?_ (Nat.le_refl _)).mono ?_; exact r1.rd.up (by go_grown); (refine Rd.up (w := w2) ?_ (by go_grown); simpa only [World.size_alloc] using r2.rd); rintro e w3 ⟨rfl, b3⟩; have B3 : Below w0.heap.size w0 w3 := via (by go_grown) b3 (by go_size); have z3 := B3.size))
      clear b1 b2 b3 r1 r2 B12 B1 B2 z1 z2
      go_wp2_with fail
      refine (toSheetS_any A k z w3 hz (rd.up B3)).mono ?_
      rintro e w4 ⟨rfl, r4, b4⟩
      have B4 := via B3 b4 z3
      go_wp2_with fail
      refine (toIntS_any A' k' r w4 hz' (rd'.up B4)).mono ?_
      rintro e w5 ⟨rfl, r5, b5⟩
      have B5 := via B4 b5 B4.size
      have t0 := later B5 (p := ⟨w.heap.size, 0, none⟩) hz0 s0
      have t1 := later B5 (p := ⟨w.heap.size, 1, none⟩) hz0 s1
      have R4 := (r4.rd.up b5)
      go_wp2_with fail
      refine (toJump_any a b w5).mono ?_
      rintro e w6 ⟨rfl, hw6⟩
      have b6 : Below w5.heap.size w5 w6 := by rw [← hw6]; go_grown
      clear hw6
      have B6 := via B5 b6 B5.size
      go_wp2_with fail
      refine (roundOk_any _ _ _ _ z a b r w6 hz hz' (R4.up b6) (r5.rd.up b6) (Nat.le_refl _)).mono ?_
      rintro e w7 ⟨rfl, b7⟩
      have B7 := via B6 b7 B6.size
      have Q4 := (R4.up b6).up b7
      have Q5 := (r5.rd.up b6).up b7
      clear R4 r4 r5 b4 b5 b6 b7 t0 t1
      go_wp2_with fail
      refine (toSheetS_any A k z w7 hz (rd.up B7)).mono ?_
      rintro e w8 ⟨rfl, r8, b8⟩
      have B8 := via B7 b8 B7.size
      go_wp2_with fail
      refine (eqSheetS_any _ _ _ _ z w8 hz (Q4.up b8) r8.rd).mono ?_
      rintro e w9 ⟨rfl, b9⟩
      have B9 := via B8 b9 B8.size
      have Q9 := (Q5.up b8).up b9
      go_wp2_with fail
      refine (toIntS_any A' k' r w9 hz' (rd'.up B9)).mono ?_
      rintro e w10 ⟨rfl, r10, b10⟩
      have B10 := via B9 b10 B9.size
      go_wp2_with fail
      refine (eqIntS_any _ _ _ _ r r w10 hz' (Q9.up b10) r10.rd).mono ?_
      rintro e w11 ⟨rfl, d11⟩
      have B11 := B10.trans (d11.below _)
      simp only [decide_true]
      go_wp2
      go_ret
      exact ⟨rfl, via hW0 B11 (by omega)⟩
namespace FnExactRoundOk
set_option maxRecDepth 100000 in
theorem lifted (os : Os) (started : os.Started) (H : Type) (enc : TypeId × Value → H) :
    ReturnsInHanded {} Try.checked os 14 .any (Rows.fnExactRoundOkSpec.pre6 enc Try.prog Try.f14 Rows.fnExactRoundOkRow.domain false) (Rows.fnExactRoundOkSpec.post enc Try.prog Try.f14 false true false false) := by
  refine returnsInHanded_of_change (C := Try.checked) own started (by kernel_rfl) Try.func14
    (ChangeSpec.witness6 (enc := enc) (C := Try.checked) false ⟨#[], #[.slice none 0 0, .agg #[.int .i64 0, .int .i64 0], .slice none 0 0], []⟩ 8 (by kernel_rfl) (by kernel_rfl) (by kernel_rfl) (by kernel_rfl)) ?_
  intro W base args ds gs before hval0 hW hcnd _
  have hval : ∀ (j : Nat) t v, Try.f14.params[j]? = some t → args[j]? = some v → Value.okWide Try.prog W .any base t v := hval0
  have hW' := hW
  obtain ⟨p, q, hA0, hV, rfl, hfz, hnd⟩ := hW
  have hA : DataW.TrodAll enc Try.prog W 0 (fun _ => true) true Try.f14.params.toList args.toList ds p := hA0
  rw [Try.params14] at hA hval
  obtain ⟨v0, vs0, d0, ds0, p0, q0, hargs, rfl, rfl, h0, r0⟩ := trodAll_cons hA
  obtain ⟨v1, vs1, d1, ds1, p1, q1, rfl, rfl, rfl, h1, r1⟩ := trodAll_cons r0
  obtain ⟨v2, vs2, d2, ds2, p2, q2, rfl, rfl, rfl, h2, r2⟩ := trodAll_cons r1
  obtain ⟨rfl, rfl, rfl⟩ := trodAll_nil r2
  obtain rfl : args = #[v0, v1, v2] := by cases args; simp_all
  obtain ⟨rfl, rfl⟩ := trodVars_none hV
  have lt0 : ∀ x ∈ p0, x.block < W.heap.size := by obtain ⟨m, hm⟩ := h0; exact DataW.trod_lt m _ _ _ hm
  have lt1 : ∀ x ∈ p1, x.block < W.heap.size := by obtain ⟨m, hm⟩ := h1; exact DataW.trod_lt m _ _ _ hm
  have lt2 : ∀ x ∈ p2, x.block < W.heap.size := by obtain ⟨m, hm⟩ := h2; exact DataW.trod_lt m _ _ _ hm
  obtain ⟨A0, n0, c0, z0, rfl, rfl, k0, m0, rd0⟩ := op_pairs Try.underlying43 Try.underlying30 (by kernel_rfl) (by kernel_rfl) Try.underlying3 Try.underlying3 (hval 0 43 v0 rfl rfl) h0
  obtain ⟨a1, b1, rfl⟩ := op_pair Try.underlying25 (by kernel_rfl) (by kernel_rfl) Try.underlying3 Try.underlying3 (hval 1 25 v1 rfl rfl) h1
  obtain ⟨A2, n2, c2, z2, rfl, rfl, k2, m2, wf2, rd2⟩ := op_ints Try.underlying39 Try.underlying3 (by kernel_rfl) (hval 2 39 v2 rfl rfl) h2
  clear hA0 hval0
  refine (w_FnExactRoundOk W A0 c0 z0 k0 m0 rd0 a1 b1 A2 c2 z2 k2 m2 wf2 rd2).mono fun e W' ⟨he, bel⟩ => ?_
  subst he
  exact ⟨_, rfl, _, _, _, [], _, [], hW', trodAll_mk1 (shut_bool Try.underlying4 _), (trodAll_cons_mk (Below.trod laidOut (by kernel_rfl) (of_decide_eq_true (by kernel_rfl)) h0 bel lt0) (trodAll_cons_mk (Below.trod laidOut (by kernel_rfl) (of_decide_eq_true (by kernel_rfl)) h1 bel lt1) (trodAll_cons_mk (Below.trod laidOut (by kernel_rfl) (of_decide_eq_true (by kernel_rfl)) h2 bel lt2) trodAll_mk0))), rfl, bel.frame _, fun h => by cases h⟩
theorem closed : joinedFacts Try.prog 14 Try.f14 Rows.fnExactRoundOkSpec Rows.fnExactRoundOkRow = true := by
  unfold joinedFacts
  rw [mayEnter, liftsFinal, progMake]
  kernel_rfl
theorem over : Rows.fnExactRoundOkRow.holds Try.pinned (OpenSpec.ofChange Rows.fnExactRoundOkSpec) :=
  OpenClaim.holds_of_wide 14 Try.f14 rfl rfl rfl rfl rfl rfl rfl ⟨rfl, rfl, rfl, rfl, rfl⟩ rfl rfl rfl rfl rfl (by kernel_rfl) Try.func14 closed
    (of_decide_eq_true (by kernel_rfl)) (by unfold Func.isWrapper; first | (rw [if_pos (by decide +kernel)]; kernel_rfl) | (rw [if_neg (by decide +kernel)]; exact ⟨rfl, rfl⟩))
    (fun os started H enc _ => lifted os started H enc)
theorem proved : Rows.FnExactRoundOkSaid := over
end FnExactRoundOk
#print axioms FnExactRoundOk.proved
end Go.Proofs.Ytlblojmjfkcdeaa
