/- The program's RollsFor and the reference's agree: FnExactRollsFor returns true for every input. No conditions. -/
import Derived.Test.YtlblojmjfkcdeaaSeat
import Derived.Test.YtlblojmjfkcdeaaRolls
namespace Go.Proofs.Ytlblojmjfkcdeaa
open Go.ChangeShapes Go.WideShapes Go.ChangeAt Go.RowKit Go.Deep
theorem rollsForN_len (wd p : Int) : ∀ (n : Nat) (f : Int) (zs : List Int), rollsForN n f wd p = some zs → zs.length ≤ n
  | 0, _, zs, h => by simp [rollsForN] at h; simp [← h]
  | n + 1, f, zs, h => by
    rw [rollsForN] at h
    split at h
    · split at h
      · cases h
      · cases e : rollsForN n (max (rollLeast f p) wd) wd p with
        | none => rw [e] at h; cases h
        | some ys =>
          rw [e] at h
          simp at h
          have := rollsForN_len wd p n _ ys e
          subst h; simp; omega
    · simp at h; subst h; simp
theorem rollsFor_len (f wd p : Int) : ((rollsFor f wd p).getD []).length ≤ 400 := by
  unfold rollsFor
  split
  · unfold rollsForF
    cases e : rollsForN 400 f wd p with
    | none => exact Nat.zero_le _
    | some zs => exact rollsForN_len wd p 400 f zs e
  · exact Nat.zero_le _
theorem w_FnExactRollsFor (w : World) (a b c : Int) :
    Calls Try.prog 13 #[.int .i64 a, .int .i64 b, .int .i64 c] w fun e w' => e = .returned (.bool true) ∧ Below w.heap.size w w' := by
  have hlen := rollsFor_len a b c
  have HS := hide (rollsFor_spec a b c)
  have HA := hide (rollsFor_any a b c)
  generalize (rollsFor a b c).getD [] = z at *
  generalize (rollsFor a b c).isSome = ok at *
  have hz' : z.length ≤ 1099511627776 := by omega
  go_enter Try.func13, Try.ntmps13
  go_wp2_with fail
  refine Calls.mono (HS.out w) ?_
  rintro e w1 ⟨A1, c1, rfl, o1, b1⟩
  go_wp2_with fail
  refine Calls.mono (HA.out w1) ?_
  rintro e w2 ⟨A2, c2, rfl, o2, b2⟩
  have b12 := via b1 b2 b1.size
  go_wp2_with fail
  refine (eqIntS_any _ _ _ _ z z w2 hz' o2.rd (o1.below b2).rd).mono ?_
  rintro e w3 ⟨rfl, d3⟩
  simp only [decide_true]
  have b13 := b12.trans (d3.below _)
  have o3 := o2.below (d3.below _)
  go_wp2_with fail
  refine (markIntS_any _ _ _ z 1 w3 hz' (by omega) (by omega) o3).mono ?_
  rintro e w4 ⟨rfl, o4, g4⟩
  have z13 : w1.heap.size ≤ w3.heap.size := (b2.trans (d3.below _)).size
  have b14 : Below w1.heap.size w1 w4 := (b2.trans (d3.below _)).trans (o3.mark_below z13 g4)
  clear g4
  go_wp2_with fail
  refine (heldIntS_any _ _ _ 1 w4 hz' (by omega) (by omega) o4.rd).mono ?_
  rintro e w' ⟨rfl, rfl⟩
  go_wp2_with fail
  refine Calls.mono (HA.out w4) ?_
  rintro e w5 ⟨A3, c3, rfl, o5, b5⟩
  have b15 : Below w1.heap.size w1 w5 := via b14 b5 b14.size
  go_wp2_with fail
  refine (eqIntS_any _ _ _ _ z z w5 hz' o5.rd ((o1.rd.below b15).mono b15.size)).mono ?_
  rintro e w6 ⟨rfl, d6⟩
  simp only [decide_true]
  have b16 := b15.trans (d6.below _)
  go_wp2_with fail
  refine (heldIntS_any _ _ _ 1 w6 hz' (by omega) (by omega) ((o4.below b5).below (d6.below _)).rd).mono ?_
  rintro e w' ⟨rfl, rfl⟩
  go_wp2
  go_ret
  exact ⟨rfl, via b1 b16 b1.size⟩
namespace FnExactRollsFor
set_option maxRecDepth 100000 in
theorem lifted (os : Os) (started : os.Started) (H : Type) (enc : TypeId × Value → H) :
    ReturnsInHanded {} Try.checked os 13 .any (Rows.fnExactRollsForSpec.pre6 enc Try.prog Try.f13 Rows.fnExactRollsForRow.domain false) (Rows.fnExactRollsForSpec.post enc Try.prog Try.f13 false true false false) := by
  refine returnsInHanded_of_change (C := Try.checked) own started (by kernel_rfl) Try.func13
    (ChangeSpec.witness6 (enc := enc) (C := Try.checked) false ⟨#[], #[.int .i64 0, .int .i64 0, .int .i64 0], []⟩ 8 (by kernel_rfl) (by kernel_rfl) (by kernel_rfl) (by kernel_rfl)) ?_
  intro W base args ds gs before hval0 hW hcnd _
  have hval : ∀ (j : Nat) t v, Try.f13.params[j]? = some t → args[j]? = some v → Value.okWide Try.prog W .any base t v := hval0
  have hW' := hW
  obtain ⟨p, q, hA0, hV, rfl, hfz, hnd⟩ := hW
  have hA : DataW.TrodAll enc Try.prog W 0 (fun _ => true) true Try.f13.params.toList args.toList ds p := hA0
  rw [Try.params13] at hA hval
  obtain ⟨v0, vs0, d0, ds0, p0, q0, hargs, rfl, rfl, h0, r0⟩ := trodAll_cons hA
  obtain ⟨v1, vs1, d1, ds1, p1, q1, rfl, rfl, rfl, h1, r1⟩ := trodAll_cons r0
  obtain ⟨v2, vs2, d2, ds2, p2, q2, rfl, rfl, rfl, h2, r2⟩ := trodAll_cons r1
  obtain ⟨rfl, rfl, rfl⟩ := trodAll_nil r2
  obtain rfl : args = #[v0, v1, v2] := by cases args; simp_all
  obtain ⟨rfl, rfl⟩ := trodVars_none hV
  have lt0 : ∀ x ∈ p0, x.block < W.heap.size := by obtain ⟨m, hm⟩ := h0; exact DataW.trod_lt m _ _ _ hm
  have lt1 : ∀ x ∈ p1, x.block < W.heap.size := by obtain ⟨m, hm⟩ := h1; exact DataW.trod_lt m _ _ _ hm
  have lt2 : ∀ x ∈ p2, x.block < W.heap.size := by obtain ⟨m, hm⟩ := h2; exact DataW.trod_lt m _ _ _ hm
  obtain ⟨a0, rfl⟩ := op_int Try.underlying3 (hval 0 3 v0 rfl rfl) h0
  obtain ⟨a1, rfl⟩ := op_int Try.underlying3 (hval 1 3 v1 rfl rfl) h1
  obtain ⟨a2, rfl⟩ := op_int Try.underlying3 (hval 2 3 v2 rfl rfl) h2
  clear hA0 hval0
  refine (w_FnExactRollsFor W a0 a1 a2).mono fun e W' ⟨he, bel⟩ => ?_
  subst he
  exact ⟨_, rfl, _, _, _, [], _, [], hW', trodAll_mk1 (shut_bool Try.underlying4 _), (trodAll_cons_mk (Below.trod laidOut (by kernel_rfl) (of_decide_eq_true (by kernel_rfl)) h0 bel lt0) (trodAll_cons_mk (Below.trod laidOut (by kernel_rfl) (of_decide_eq_true (by kernel_rfl)) h1 bel lt1) (trodAll_cons_mk (Below.trod laidOut (by kernel_rfl) (of_decide_eq_true (by kernel_rfl)) h2 bel lt2) trodAll_mk0))), rfl, bel.frame _, fun h => by cases h⟩
theorem closed : joinedFacts Try.prog 13 Try.f13 Rows.fnExactRollsForSpec Rows.fnExactRollsForRow = true := by
  unfold joinedFacts
  rw [mayEnter, liftsFinal, progMake]
  kernel_rfl
theorem over : Rows.fnExactRollsForRow.holds Try.pinned (OpenSpec.ofChange Rows.fnExactRollsForSpec) :=
  OpenClaim.holds_of_wide 13 Try.f13 rfl rfl rfl rfl rfl rfl rfl ⟨rfl, rfl, rfl, rfl, rfl⟩ rfl rfl rfl rfl rfl (by kernel_rfl) Try.func13 closed
    (of_decide_eq_true (by kernel_rfl)) (by unfold Func.isWrapper; first | (rw [if_pos (by decide +kernel)]; kernel_rfl) | (rw [if_neg (by decide +kernel)]; exact ⟨rfl, rfl⟩))
    (fun os started H enc _ => lifted os started H enc)
theorem proved : Rows.FnExactRollsForSaid := over
end FnExactRollsFor
#print axioms FnExactRollsFor.proved
end Go.Proofs.Ytlblojmjfkcdeaa
