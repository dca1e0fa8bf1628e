/- The program's RoundsAll and the reference's agree: FnExactRoundsAll returns true for every input. No conditions. -/
import Derived.Test.YtlblojmjfkcdeaaSeat
import Derived.Test.YtlblojmjfkcdeaaListsLaw
import Derived.Test.YtlblojmjfkcdeaaSheetMark
import Derived.Deep.RegionHeld3
namespace Go.Proofs.Ytlblojmjfkcdeaa
open Go.ChangeShapes Go.WideShapes Go.ChangeAt Go.RowKit Go.Deep
theorem szOf_neg {n : Nat} (h : 1048576 < n) : szOf 1048576 n = -1 := by unfold szOf; rw [if_pos (by omega)]
theorem szOf_pos {n : Nat} (h : n ≤ 1048576) : 0 ≤ szOf 1048576 n := by unfold szOf; rw [if_neg (by omega)]; omega
set_option linter.unusedSimpArgs false in
set_option linter.unusedVariables false in
set_option maxRecDepth 100000 in
set_option maxHeartbeats 2000000 in
theorem w_FnExactRoundsAll (w : World) (A : Option Addr) (c : Nat) (z : List (Int × Int)) (hk : z.length ≤ c) (hm : c ≤ maxLen) (rd : Rd w w.heap.size A (sc z)) (a b : Int) :
    Calls Try.prog 17 #[.slice A z.length c, .agg #[.int .i64 a, .int .i64 b]] w fun e w' => e = .returned (.bool true) ∧ Below w.heap.size w w' := by
  unfold maxLen at hm
  by_cases hn : 1048576 < z.length
  · have HZ := hide (szOf_neg hn)
    go_enter Try.func17, Try.ntmps17
    go_wp2_with fail
    refine (szSheetS_any A z.length c 1048576 _ (by omega) (by omega) (by omega)).mono ?_
    rintro e w' ⟨rfl, rfl⟩
    rw [HZ.out]
    go_wp2
    go_ret
    exact ⟨rfl, by go_grown⟩
  · have hz : z.length ≤ 1099511627776 := by omega
    have hs := szOf_pos (n := z.length) (by omega)
    have hz8 : z.length ≤ 1048576 := by omega
    go_enter Try.func17, Try.ntmps17
    go_wp2_with fail
    refine (szSheetS_any A z.length c 1048576 _ (by omega) (by omega) (by omega)).mono ?_
    rintro e w' ⟨rfl, rfl⟩
    generalize szOf 1048576 z.length = sz at *
    clear hn hm hk
    have hW0 : Below w.heap.size w (w.alloc (.cells #[.int .i64 a, .int .i64 b] 25)) := by go_grown
    have hz0 : w.heap.size < (w.alloc (.cells #[.int .i64 a, .int .i64 b] 25)).heap.size := by simp
    have s0 : (w.alloc (.cells #[.int .i64 a, .int .i64 b] 25)).cell? ⟨w.heap.size, 0, none⟩ = some (.int .i64 a) := by simp [go_sem]
    have s1 : (w.alloc (.cells #[.int .i64 a, .int .i64 b] 25)).cell? ⟨w.heap.size, 1, none⟩ = some (.int .i64 b) := by simp [go_sem]
    generalize w.alloc (.cells #[.int .i64 a, .int .i64 b] 25) = w0 at *
    replace rd := rd.up hW0
    have HM := hide (fun A c w rd => (roundsAll_spec A c z a b w hz rd).mono fun _ _ h => h.len)
    have HI := hide (fun A c w rd => (roundsAll_any A c z a b w hz rd).mono fun _ _ h => h.len)
    have HS := hide (fun ts (e : brs ts = roundsAll z a b) => rounds_small e)
    generalize roundsAll z a b = zz at *
    go_wp2_with fail
    go_region_held3 (fun w' => w'.cell? ⟨w.heap.size, 0, none⟩ = some (.int .i64 a) ∧ w'.cell? ⟨w.heap.size, 1, none⟩ = some (.int .i64 b))
      (refine ⟨?_, ?_⟩ <;> exact later (a := w0) (B := w0.heap.size) (by go_grown) (by go_size) (by assumption))
      (first | (go_at_call 42; refine (toSheetS_any A c z _ hz ?_).mono ?_; exact rd.up (by go_grown); rintro e w1 ⟨rfl, r1, b1⟩; have B1 : Below w0.heap.size w0 w1 := via (by go_grown) b1 (by go_size); have z1 := B1.size) | (go_at_call 23; refine (toJump_any _ _ _).mono ?_; rintro e w' ⟨rfl, rfl⟩) | (go_at_call 56; refine (HM.out _ _ _ ?_).mono ?_; exact r1.rd.up (by go_grown); rintro e w3 ⟨X, x, us, rfl, eU, oX, bU, b3⟩; have B3 : Below w0.heap.size w0 w3 := via (by go_grown) b3 (by go_size); have z3 := B3.size))
    have rW := oX.rd
    have hus := bU.lt
    replace bU := bU.mono (Nat.zero_le _)
    obtain ⟨hul, hur⟩ := HS.out us eU
    have hur := hide hur
    have hus := hide hus
    clear b1 b3 r1 B1 z1 oX
    go_wp2_with fail
    refine (toSheetS_any A c z w3 hz (rd.up B3)).mono ?_
    rintro e w4 ⟨rfl, r4, b4⟩
    have B4 := via B3 b4 z3
    have z34 := r4.lt
    replace rW := rW.below b4
    replace bU := bU.up b4
    have t0 := later B4 (p := ⟨w.heap.size, 0, none⟩) hz0 s0
    have t1 := later B4 (p := ⟨w.heap.size, 1, none⟩) hz0 s1
    go_wp2_with fail
    refine (toJump_any a b w4).mono ?_
    rintro e w6 ⟨rfl, hw6⟩
    have b6 : Below w4.heap.size w4 w6 := by rw [← hw6]; go_grown
    clear hw6 t0 t1
    have B6 := via B4 b6 B4.size
    have z46 := b6.size
    replace rW := rW.below (b6.mono (by omega))
    replace bU := bU.up b6
    have r6 := r4.after b6
    go_wp2_with fail
    refine (HI.out _ _ w6 r6.rd).mono ?_
    rintro e w7 ⟨G, g, ts, rfl, eG, oG, bG, ndG, nG, b7⟩
    obtain ⟨htl, htr⟩ := HS.out ts eG
    have htr := hide htr
    have ndG := hide ndG
    have nG := hide nG
    have eGU : Hid (brs ts = brs us) := hide (by rw [eG, eU])
    have B7 := via B6 b7 B6.size
    have z67 := b7.size
    replace rW := rW.below (b7.mono (by omega))
    replace bU := bU.up b7
    have r7 := r6.after b7
    clear r4 r6 b4 b6 b7
    go_wp2_with fail
    refine (eqIntSS_any G X g x ts us w7 (by omega) (fun t ht => by have := htr.out t ht; omega) eGU.out oG.rd (rW.mono (by omega)) (bG.mono (Nat.zero_le _)) bU).mono ?_
    rintro e w8 ⟨rfl, b8⟩
    have B8 := via B7 b8 B7.size
    have z78 := b8.size
    replace rW := rW.below (b8.mono (by omega))
    replace bU := bU.up b8
    replace bG := bG.up b8
    have r8 := r7.after b8
    have oG8 := oG.below b8
    clear r7 b8 oG
    go_wp2_with fail
    refine (toSheetS_any A c z w8 hz (rd.up B8)).mono ?_
    rintro e w9 ⟨rfl, r9, b9⟩
    have B9 := via B8 b9 B8.size
    have z89 := b9.size
    replace rW := rW.below (b9.mono (by omega))
    replace bU := bU.up b9
    replace bG := bG.up b9
    have oG9 := oG8.below b9
    have q9 := r8.after b9
    go_wp2_with fail
    refine (eqSheetS_any _ _ _ _ z w9 hz q9.rd r9.rd).mono ?_
    rintro e w10 ⟨rfl, b10⟩
    have B10 := via B9 b10 B9.size
    have z910 := b10.size
    replace rW := rW.below (b10.mono (by omega))
    replace bU := bU.up b10
    replace bG := bG.up b10
    have oG10 := oG9.below b10
    have q10 := q9.after b10
    clear r8 r9 q9 oG8 oG9 b9 b10
    go_wp2_with fail
    refine (markSheetS_any w3.heap.size z.length z 1 w10 hz8 (by omega) (by omega) q10).mono ?_
    rintro e w11 ⟨rfl, g11⟩
    have b11 : Below w3.heap.size w10 w11 := (Below.refl _ _).grown g11 (by omega) (fun k e => by cases e; exact Nat.le_refl _)
    have B11 := B10.trans (b11.mono (by omega))
    have z1011 := b11.size
    replace rW := rW.below b11
    replace bU := bU.below hus.out b11
    replace bG := bG.kept g11 (by omega)
    have oG11 := oG10.keepR g11 (fun g' hg' e => by have := oG10.geB hg'; cases e; omega)
    have t2 : decide (1 + 2 * (z.length : Int) < 0) = false := decide_eq_false (by omega)
    clear oG10 q10 g11 b11
    go_wp2_with fail
    refine (eqIntSS_any G X g x ts us w11 (by omega) (fun t ht => by have := htr.out t ht; omega) eGU.out oG11.rd (rW.mono (by omega)) (bG.mono (Nat.zero_le _)) bU).mono ?_
    rintro e w12 ⟨rfl, b12⟩
    have B12 := via B11 b12 B11.size
    have z1112 := b12.size
    replace rW := rW.below (b12.mono (by omega))
    replace bU := bU.up b12
    replace bG := bG.up b12
    have oG12 := oG11.below b12
    clear oG11 b12 t2
    go_wp2_with fail
    refine (markIntSS_any G g w6.heap.size ts 1 w12 htl htr.out (by omega) (by omega) (by omega) oG12.rd bG ndG.out nG.out).mono ?_
    rintro e w13 ⟨rfl, mG, rM, b13⟩
    have B13 := B12.trans (b13.mono (by omega))
    have z1213 := b13.size
    replace rW := rW.below (b13.mono (by omega))
    replace bU := bU.below hus.out (b13.mono (by omega))
    replace rM := rM.mono z1213
    have hoff := off_le htr.out ts.length (Nat.le_refl _)
    have hof9 : off ts ts.length ≤ 81 := by
      have : ts.length * 9 ≤ 9 * 9 := Nat.mul_le_mul_right 9 htl
      omega
    have HH := hide (fun w rM mG => heldIntSS_any G g ts 1 w htl htr.out (by omega) (by omega) rM mG)
    clear hoff
    generalize off ts ts.length = m at *
    have t3 : decide (1 + (m : Int) < 0) = false := decide_eq_false (by omega)
    have t4 : (1 + (m : Int) != 1 + (m : Int)) = false := bne_self_eq_false _
    have u0 := later B13 (p := ⟨w.heap.size, 0, none⟩) hz0 s0
    have u1 := later B13 (p := ⟨w.heap.size, 1, none⟩) hz0 s1
    have rd13 := rd.up B13
    have hz13 : w.heap.size < w13.heap.size := by omega
    clear oG12 b13 bG
    go_wp2_with (go_at_call 60; refine (HH.out _ rM mG).mono ?_; rintro e wh ⟨rfl, rfl⟩)
    go_region_held3 (fun w' => w'.cell? ⟨w.heap.size, 0, none⟩ = some (.int .i64 a) ∧ w'.cell? ⟨w.heap.size, 1, none⟩ = some (.int .i64 b))
      (refine ⟨?_, ?_⟩ <;> exact later (a := w13) (B := w13.heap.size) (by go_grown) (by go_size) (by assumption))
      (first | (go_at_call 42; refine (toSheetS_any A c z _ hz ?_).mono ?_; exact rd13.up (by go_grown); rintro e w14 ⟨rfl, r14, b14⟩; have B14 : Below w13.heap.size w13 w14 := via (by go_grown) b14 (by go_size); have z14 := B14.size) | (go_at_call 23; refine (toJump_any _ _ _).mono ?_; rintro e w' ⟨rfl, rfl⟩) | (go_at_call 57; refine (HI.out _ _ _ ?_).mono ?_; exact r14.rd.up (by go_grown); rintro e w15 ⟨H, h, vs, rfl, eH, oH, bH, _, _, b15⟩; have B15 : Below w13.heap.size w13 w15 := via (by go_grown) b15 (by go_size); have z15 := B15.size))
    have rH := oH.rd
    have rW15 := rW.below (B15.mono (by omega))
    have bU15 := bU.up B15
    have rM15 := rM.up B15
    have mG15 := mG.up B15
    obtain ⟨hvl, hvr⟩ := HS.out vs eH
    have hvr := hide hvr
    have eHU : Hid (brs vs = brs us) := hide (by rw [eH, eU])
    clear b14 b15 r14 B14 z14 oH rM rW u0 u1 bU mG
    go_wp2_with fail
    refine (eqIntSS_any H X h x vs us w15 (by omega) (fun t ht => by have := hvr.out t ht; omega) eHU.out rH (rW15.mono (by omega)) (bH.mono (Nat.zero_le _)) bU15).mono ?_
    rintro e w16 ⟨rfl, b16⟩
    have B16 := via (B13.trans (B15.mono (by omega))) b16 (by omega)
    have rM16 := rM15.up b16
    have mG16 := mG15.up b16
    clear rM15 b16 rH rW15 bU15 mG15 bH
    go_wp2_with (go_at_call 60; refine (HH.out _ rM16 mG16).mono ?_; rintro e wh ⟨rfl, rfl⟩)
    go_ret
    exact ⟨rfl, via hW0 B16 (by omega)⟩
namespace FnExactRoundsAll
set_option maxRecDepth 100000 in
theorem lifted (os : Os) (started : os.Started) (H : Type) (enc : TypeId × Value → H) :
    ReturnsInHanded {} Try.checked os 17 .any (Rows.fnExactRoundsAllSpec.pre6 enc Try.prog Try.f17 Rows.fnExactRoundsAllRow.domain false) (Rows.fnExactRoundsAllSpec.post enc Try.prog Try.f17 false true false false) := by
  refine returnsInHanded_of_change (C := Try.checked) own started (by kernel_rfl) Try.func17
    (ChangeSpec.witness6 (enc := enc) (C := Try.checked) false ⟨#[], #[.slice none 0 0, .agg #[.int .i64 0, .int .i64 0]], []⟩ 8 (by kernel_rfl) (by kernel_rfl) (by kernel_rfl) (by kernel_rfl)) ?_
  intro W base args ds gs before hval0 hW hcnd _
  have hval : ∀ (j : Nat) t v, Try.f17.params[j]? = some t → args[j]? = some v → Value.okWide Try.prog W .any base t v := hval0
  have hW' := hW
  obtain ⟨p, q, hA0, hV, rfl, hfz, hnd⟩ := hW
  have hA : DataW.TrodAll enc Try.prog W 0 (fun _ => true) true Try.f17.params.toList args.toList ds p := hA0
  rw [Try.params17] at hA hval
  obtain ⟨v0, vs0, d0, ds0, p0, q0, hargs, rfl, rfl, h0, r0⟩ := trodAll_cons hA
  obtain ⟨v1, vs1, d1, ds1, p1, q1, rfl, rfl, rfl, h1, r1⟩ := trodAll_cons r0
  obtain ⟨rfl, rfl, rfl⟩ := trodAll_nil r1
  obtain rfl : args = #[v0, v1] := by cases args; simp_all
  obtain ⟨rfl, rfl⟩ := trodVars_none hV
  have lt0 : ∀ x ∈ p0, x.block < W.heap.size := by obtain ⟨m, hm⟩ := h0; exact DataW.trod_lt m _ _ _ hm
  have lt1 : ∀ x ∈ p1, x.block < W.heap.size := by obtain ⟨m, hm⟩ := h1; exact DataW.trod_lt m _ _ _ hm
  obtain ⟨A0, n0, c0, z0, rfl, rfl, k0, m0, rd0⟩ := op_pairs Try.underlying43 Try.underlying30 (by kernel_rfl) (by kernel_rfl) Try.underlying3 Try.underlying3 (hval 0 43 v0 rfl rfl) h0
  obtain ⟨a1, b1, rfl⟩ := op_pair Try.underlying25 (by kernel_rfl) (by kernel_rfl) Try.underlying3 Try.underlying3 (hval 1 25 v1 rfl rfl) h1
  clear hA0 hval0
  refine (w_FnExactRoundsAll W A0 c0 z0 k0 m0 rd0 a1 b1).mono fun e W' ⟨he, bel⟩ => ?_
  subst he
  exact ⟨_, rfl, _, _, _, [], _, [], hW', trodAll_mk1 (shut_bool Try.underlying4 _), (trodAll_cons_mk (Below.trod laidOut (by kernel_rfl) (of_decide_eq_true (by kernel_rfl)) h0 bel lt0) (trodAll_cons_mk (Below.trod laidOut (by kernel_rfl) (of_decide_eq_true (by kernel_rfl)) h1 bel lt1) trodAll_mk0)), rfl, bel.frame _, fun h => by cases h⟩
theorem closed : joinedFacts Try.prog 17 Try.f17 Rows.fnExactRoundsAllSpec Rows.fnExactRoundsAllRow = true := by
  unfold joinedFacts
  rw [mayEnter, liftsFinal, progMake]
  kernel_rfl
theorem over : Rows.fnExactRoundsAllRow.holds Try.pinned (OpenSpec.ofChange Rows.fnExactRoundsAllSpec) :=
  OpenClaim.holds_of_wide 17 Try.f17 rfl rfl rfl rfl rfl rfl rfl ⟨rfl, rfl, rfl, rfl, rfl⟩ rfl rfl rfl rfl rfl (by kernel_rfl) Try.func17 closed
    (of_decide_eq_true (by kernel_rfl)) (by unfold Func.isWrapper; first | (rw [if_pos (by decide +kernel)]; kernel_rfl) | (rw [if_neg (by decide +kernel)]; exact ⟨rfl, rfl⟩))
    (fun os started H enc _ => lifted os started H enc)
theorem proved : Rows.FnExactRoundsAllSaid := over
end FnExactRoundsAll
#print axioms FnExactRoundsAll.proved
end Go.Proofs.Ytlblojmjfkcdeaa
