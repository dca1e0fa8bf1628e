/- The program's PileEmpty and the reference's agree: FnExactPileEmpty returns true for every input. No conditions. -/
import Derived.Test.YtgohnbhnckgcnaaSeat
import Derived.Test.YtgohnbhnckgcnaaPileLaw
namespace Go.Proofs.Ytgohnbhnckgcnaa
open Go.ChangeShapes Go.WideShapes Go.ChangeAt Go.RowKit Go.Deep
theorem pileEmpty_len (n : Int) : (pileEmpty n).1.length ≤ 6 ∧ (pileEmpty n).2.length ≤ 6 := by
  unfold pileEmpty
  split
  · rename_i h
    have := inR_iff.1 h
    simp only [zs_len]; omega
  · simp
theorem w_FnExactPileEmpty (w : World) (a : Int) :
    Calls Try.prog 3 #[.int .i64 a] w fun e w' => e = .returned (.bool true) ∧ Below w.heap.size w w' := by
  obtain ⟨l1, l2⟩ := pileEmpty_len a
  have HS := hide (pileEmpty_spec a)
  have HA := hide (pileEmpty_any a)
  generalize pileEmpty a = p at *
  have hp : small p := ⟨by omega, by omega⟩
  go_enter Try.func3, Try.ntmps3
  go_wp2_with fail
  refine Calls.mono (HS.out w) ?_
  rintro e w1 ⟨A, c, A', c', rfl, o1, b1⟩
  go_wp2_with fail
  have d1 := bel_one w1 (.cells #[.slice A p.1.length c, .slice A' p.2.length c'] 24)
  have q1 := Row.new w1 24 #[.slice A p.1.length c, .slice A' p.2.length c']
  have z1 := b1.size
  have y1 := q1.lt
  have b2 := via b1 d1 z1
  have o2 := o1.rd.up d1
  generalize w1.alloc (.cells #[.slice A p.1.length c, .slice A' p.2.length c'] 24) = w2 at *
  refine Calls.mono (HA.out w2) ?_
  rintro e w3 ⟨G, f, G', f', rfl, og, b3⟩
  have z3 := b3.size
  have lg := og.lt
  have q1' := q1.after b3
  obtain ⟨k1, k2⟩ := q1'.boxed
  have y3 := q1'.lt
  go_wp2_with fail
  have d3 := bel_one w3 (.cells #[.slice G p.1.length f, .slice G' p.2.length f'] 24)
  have q2 := Row.new w3 24 #[.slice G p.1.length f, .slice G' p.2.length f']
  have q1'' := q1'.after d3
  have b4 : Below w2.heap.size w2 _ := via b3 d3 z3
  have o4 := (o2.below b3).below (d3.mono z3)
  have og4 := og.below d3
  clear q1 q1' og d3 k1 k2
  generalize w3.alloc (.cells #[.slice G p.1.length f, .slice G' p.2.length f'] 24) = w4 at *
  obtain ⟨k1, k2⟩ := q1''.boxed
  obtain ⟨k3, k4⟩ := q2.boxed
  refine (eqPile_any G G' A A' f f' c c' p p w4 hp og4.rd (o4.mono b4.size)).mono ?_
  rintro e w5 ⟨rfl, b5⟩
  simp only [decide_true]
  have m1 := q1''.after b5
  have m2 := q2.after b5
  have og5 := og4.below b5
  have b25 := via b4 b5 b4.size
  have o5 := o4.below (b5.mono b4.size)
  clear q1'' q2 k1 k2 k3 k4 og4 b4 o4 b5
  obtain ⟨k1, k2⟩ := m1.boxed
  obtain ⟨k3, k4⟩ := m2.boxed
  go_wp2_with fail
  refine (markPile_any G G' f f' w2.heap.size p 1 w5 hp (by omega) (by omega) (by omega) og5).mono ?_
  rintro e w6 ⟨rfl, og6, t6⟩
  have b26 := b25.trans (t6.below (B := w2.heap.size) (fun g hg => (lg g hg).1) b25.size)
  have o6 := o5.below (t6.below (B := w2.heap.size) (fun g hg => (lg g hg).1) b25.size)
  have n1 := m1.turned t6 (fun e => by have := lg _ (.inl e); omega) (fun e => by have := lg _ (.inr e); omega)
  have n2 := m2.turned t6 (fun e => by have := lg _ (.inl e); omega) (fun e => by have := lg _ (.inr e); omega)
  clear m1 m2 k1 k2 k3 k4 t6 og5 b25 o5
  obtain ⟨k1, k2⟩ := n1.boxed
  obtain ⟨k3, k4⟩ := n2.boxed
  go_wp2_with fail
  refine (heldPile_any G G' f f' p.1.length p.2.length 1 w6 (by omega) (by omega) (by omega) (by omega) og6.rd).mono ?_
  rintro e w7 ⟨rfl, hw7⟩
  have b67 : Below w6.heap.size w6 w7 := hw7 ▸ bel_one _ _
  clear hw7
  have m1 := n1.after b67
  have m2 := n2.after b67
  have og7 := og6.below b67
  have b27 := via b26 b67 b26.size
  have o7 := o6.below (b67.mono b26.size)
  clear n1 n2 k1 k2 k3 k4 og6 b26 o6 b67
  obtain ⟨k1, k2⟩ := m1.boxed
  obtain ⟨k3, k4⟩ := m2.boxed
  have t0 : decide (1 + (p.1.length : Int) + (p.2.length : Int) < 0) = false := by rw [decide_eq_false_iff_not]; omega
  go_wp2_with fail
  refine Calls.mono (HA.out w7) ?_
  rintro e w8 ⟨H, h, H', h', rfl, oh, b8⟩
  have n1 := m1.after b8
  have n2 := m2.after b8
  have b28 := via b27 b8 b27.size
  have o8 := o7.below (b8.mono b27.size)
  have og8 := og7.below b8
  clear m1 m2 k1 k2 k3 k4 b27 o7 b8 og7
  obtain ⟨k1, k2⟩ := n1.boxed
  obtain ⟨k3, k4⟩ := n2.boxed
  have y8 := n1.lt
  have y8' := n2.lt
  have oh' := oh.rd
  go_wp2_with fail
  have d8 := bel_one w8 (.cells #[.slice H p.1.length h, .slice H' p.2.length h'] 24)
  have b29 := via b28 d8 b28.size
  have o9 := o8.below (d8.mono b28.size)
  have m2 := n2.after d8
  refine (eqPile_any H H' A A' h h' c c' p p _ hp (oh'.up d8) (o9.mono b29.size)).mono ?_
  rintro e w10 ⟨rfl, b10⟩
  simp only [decide_true]
  have n2' := m2.after b10
  have og10 := (og8.below d8).below b10
  have b210 := via b29 b10 b29.size
  clear n1 n2 m2 k1 k2 k3 k4 b28 o8 b29 o9 d8 b10 og8 oh oh'
  obtain ⟨k3, k4⟩ := n2'.boxed
  go_wp2_with fail
  refine (heldPile_any G G' f f' p.1.length p.2.length 1 w10 (by omega) (by omega) (by omega) (by omega) og10.rd).mono ?_
  rintro e w11 ⟨rfl, hw11⟩
  have b67 : Below w10.heap.size w10 w11 := hw11 ▸ bel_one _ _
  clear hw11 k3 k4 n2' og10
  go_wp2
  go_ret
  exact ⟨rfl, b2.trans ((via b210 b67 b210.size).mono b2.size)⟩
namespace FnExactPileEmpty
set_option maxRecDepth 100000 in
theorem lifted (os : Os) (started : os.Started) (H : Type) (enc : TypeId × Value → H) :
    ReturnsInHanded {} Try.checked os 3 .any (Rows.fnExactPileEmptySpec.pre6 enc Try.prog Try.f3 Rows.fnExactPileEmptyRow.domain false) (Rows.fnExactPileEmptySpec.post enc Try.prog Try.f3 false true false false) := by
  refine returnsInHanded_of_change (C := Try.checked) own started (by kernel_rfl) Try.func3
    (ChangeSpec.witness6 (enc := enc) (C := Try.checked) false ⟨#[], #[.int .i64 0], []⟩ 8 (by kernel_rfl) (by kernel_rfl) (by kernel_rfl) (by kernel_rfl)) ?_
  intro W base args ds gs before hval0 hW hcnd _
  have hval : ∀ (j : Nat) t v, Try.f3.params[j]? = some t → args[j]? = some v → Value.okWide Try.prog W .any base t v := hval0
  have hW' := hW
  obtain ⟨p, q, hA0, hV, rfl, hfz, hnd⟩ := hW
  have hA : DataW.TrodAll enc Try.prog W 0 (fun _ => true) true Try.f3.params.toList args.toList ds p := hA0
  rw [Try.params3] at hA hval
  obtain ⟨v0, vs0, d0, ds0, p0, q0, hargs, rfl, rfl, h0, r0⟩ := trodAll_cons hA
  obtain ⟨rfl, rfl, rfl⟩ := trodAll_nil r0
  obtain rfl : args = #[v0] := by cases args; simp_all
  obtain ⟨rfl, rfl⟩ := trodVars_none hV
  have lt0 : ∀ x ∈ p0, x.block < W.heap.size := by obtain ⟨m, hm⟩ := h0; exact DataW.trod_lt m _ _ _ hm
  obtain ⟨a0, rfl⟩ := op_int Try.underlying3 (hval 0 3 v0 rfl rfl) h0
  clear hA0 hval0
  refine (w_FnExactPileEmpty W a0).mono fun e W' ⟨he, bel⟩ => ?_
  subst he
  exact ⟨_, rfl, _, _, _, [], _, [], hW', trodAll_mk1 (shut_bool Try.underlying4 _), (trodAll_cons_mk (Below.trod laidOut (by kernel_rfl) (of_decide_eq_true (by kernel_rfl)) h0 bel lt0) trodAll_mk0), rfl, bel.frame _, fun h => by cases h⟩
theorem closed : joinedFacts Try.prog 3 Try.f3 Rows.fnExactPileEmptySpec Rows.fnExactPileEmptyRow = true := by
  unfold joinedFacts
  rw [mayEnter, liftsFinal, progMake]
  kernel_rfl
theorem over : Rows.fnExactPileEmptyRow.holds Try.pinned (OpenSpec.ofChange Rows.fnExactPileEmptySpec) :=
  OpenClaim.holds_of_wide 3 Try.f3 rfl rfl rfl rfl rfl rfl rfl ⟨rfl, rfl, rfl, rfl, rfl⟩ rfl rfl rfl rfl rfl (by kernel_rfl) Try.func3 closed
    (of_decide_eq_true (by kernel_rfl)) (by unfold Func.isWrapper; first | (rw [if_pos (by decide +kernel)]; kernel_rfl) | (rw [if_neg (by decide +kernel)]; exact ⟨rfl, rfl⟩))
    (fun os started H enc _ => lifted os started H enc)
theorem proved : Rows.FnExactPileEmptySaid := over
end FnExactPileEmpty
#print axioms FnExactPileEmpty.proved
end Go.Proofs.Ytgohnbhnckgcnaa
