/- The program's PileValid and the reference's agree: FnExactPileValid returns true for every input. No conditions. -/
import Derived.Test.YtgohnbhnckgcnaaSeat
import Derived.Test.YtgohnbhnckgcnaaOps
import Derived.Test.YtgohnbhnckgcnaaPileValid
namespace Go.Proofs.Ytgohnbhnckgcnaa
open Go.ChangeShapes Go.WideShapes Go.ChangeAt Go.RowKit Go.Deep
set_option maxRecDepth 100000 in
theorem w_FnExactPileValid (w : World) (A A' : Option Addr) (c c' : Nat) (p : PL) (hk : p.1.length ≤ c) (hm : c ≤ maxLen) (hk' : p.2.length ≤ c') (hm' : c' ≤ maxLen) (rd : RdP w w.heap.size A A' p) :
    Calls Try.prog 4 #[.agg #[.slice A p.1.length c, .slice A' p.2.length c']] w fun e w' => e = .returned (.bool true) ∧ Below w.heap.size w w' := by
  unfold maxLen at hm hm'
  generalize hL : szP 1048576 p.1.length p.2.length = L
  by_cases hn : L < 0
  · go_enter Try.func4, Try.ntmps4
    go_wp2_with fail
    have hW0 : Below w.heap.size w (w.alloc (.cells #[.slice A p.1.length c, .slice A' p.2.length c'] 29)) := by go_grown
    generalize w.alloc (.cells #[.slice A p.1.length c, .slice A' p.2.length c'] 29) = w0 at *
    refine (szPile_any A A' c c' p.1.length p.2.length 1048576 w0 (by omega) (by omega) (by omega) (by omega)).mono ?_
    rintro e w1 ⟨rfl, hw1⟩
    have b1 : Below w0.heap.size w0 w1 := hw1 ▸ bel_one _ _
    rw [hL]
    clear hw1
    go_wp2
    go_ret
    exact ⟨rfl, via hW0 b1 hW0.size⟩
  · have hp : small p := by
      have := szP_pos (l := 1048576) (n := p.1.length) (n' := p.2.length) (by omega) (by rw [hL]; exact hn)
      exact ⟨by omega, by omega⟩
    have hn' : decide (L < 0) = false := decide_eq_false hn
    go_enter Try.func4, Try.ntmps4
    go_wp2_with fail
    have hW0 : Below w.heap.size w (w.alloc (.cells #[.slice A p.1.length c, .slice A' p.2.length c'] 29)) := by go_grown
    have hz0 : w.heap.size < (w.alloc (.cells #[.slice A p.1.length c, .slice A' p.2.length c'] 29)).heap.size := by simp
    have s0 : (w.alloc (.cells #[.slice A p.1.length c, .slice A' p.2.length c'] 29)).cell? ⟨w.heap.size, 0, none⟩ = some (.slice A p.1.length c) := by simp [go_sem]
    have s1 : (w.alloc (.cells #[.slice A p.1.length c, .slice A' p.2.length c'] 29)).cell? ⟨w.heap.size, 1, none⟩ = some (.slice A' p.2.length c') := by simp [go_sem]
    generalize w.alloc (.cells #[.slice A p.1.length c, .slice A' p.2.length c'] 29) = w0 at *
    replace rd := rd.up hW0
    refine (szPile_any A A' c c' p.1.length p.2.length 1048576 w0 (by omega) (by omega) (by omega) (by omega)).mono ?_
    rintro e w1 ⟨rfl, hw1⟩
    have B1 : Below w0.heap.size w0 w1 := hw1 ▸ bel_one _ _
    rw [hL]
    have HLL := hide hL
    clear hw1 hL
    have t0 := later B1 (p := ⟨w.heap.size, 0, none⟩) hz0 s0
    have t1 := later B1 (p := ⟨w.heap.size, 1, none⟩) hz0 s1
    go_wp2_with fail
    refine (toPile_any A A' c c' p w1 hp (rd.up B1)).mono ?_
    rintro e w2 ⟨X, x, X', x', rfl, o2, b2⟩
    have B2 := via B1 b2 B1.size
    clear t0 t1
    go_wp2_with fail
    refine (pileValid_spec X X' x x' p w2 hp o2.rd).mono ?_
    rintro e w3 ⟨rfl, b3⟩
    have B3 := via B2 b3 B2.size
    have t0 := later B3 (p := ⟨w.heap.size, 0, none⟩) hz0 s0
    have t1 := later B3 (p := ⟨w.heap.size, 1, none⟩) hz0 s1
    clear o2 b2 b3
    go_wp2_with fail
    refine (toPile_any A A' c c' p w3 hp (rd.up B3)).mono ?_
    rintro e w4 ⟨Y, y, Y', y', rfl, o4, b4⟩
    have B4 := via B3 b4 B3.size
    have z4 := B4.size
    clear t0 t1
    go_wp2_with fail
    have d4 := bel_one w4 (.cells #[.slice Y p.1.length y, .slice Y' p.2.length y'] 24)
    have q4 := Row.new w4 24 #[.slice Y p.1.length y, .slice Y' p.2.length y']
    have o5 := o4.rd.up d4
    have B5 := via B4 d4 B4.size
    generalize w4.alloc (.cells #[.slice Y p.1.length y, .slice Y' p.2.length y'] 24) = w5 at *
    refine (pileValid_any Y Y' y y' p w5 hp o5).mono ?_
    rintro e w6 ⟨rfl, b6⟩
    have B6 := via B5 b6 B5.size
    have q6 := q4.after b6
    have o6 := o5.up b6
    have t0 := later B6 (p := ⟨w.heap.size, 0, none⟩) hz0 s0
    have t1 := later B6 (p := ⟨w.heap.size, 1, none⟩) hz0 s1
    obtain ⟨t2, t3⟩ := q6.boxed
    have z6 := q6.lt
    clear o4 b4 d4 q4 o5 B5 b6
    have tt : (pileValid p != pileValid p) = false := by simp
    go_wp2_with fail
    go_region_held3 (fun w' => (w'.cell? ⟨w.heap.size, 0, none⟩ = some (.slice A p.1.length c) ∧ w'.cell? ⟨w.heap.size, 1, none⟩ = some (.slice A' p.2.length c')) ∧ w'.cell? ⟨w4.heap.size, 0, none⟩ = some (.slice Y p.1.length y) ∧ w'.cell? ⟨w4.heap.size, 1, none⟩ = some (.slice Y' p.2.length y'))
      (refine ⟨⟨?_, ?_⟩, ?_, ?_⟩ <;> exact later (a := w6) (B := w6.heap.size) (by go_grown) (by go_size) (by assumption))
      (first | (go_at_call 24; refine (toPile_any A A' c c' p _ hp ?_).mono ?_; exact (rd.up B6).up (by go_grown); rintro e w7 ⟨Z, z, Z', z', rfl, o7, b7⟩; have B7 : Below w6.heap.size w6 w7 := via (by go_grown) b7 (by go_size); have z7 := B7.size) | (go_at_call 19; refine (eqPile_any Y Y' Z Z' y y' z z' p p _ hp ?_ ?_).mono ?_; exact o6.up (by go_grown); exact o7.rd.up (by go_grown); rintro e w8 ⟨rfl, b8⟩; have B8 : Below w6.heap.size w6 w8 := via (by go_grown) b8 (by go_size); have z8 := B8.size))
    all_goals (go_wp2; go_ret; exact ⟨rfl, via hW0 (via B6 B8 B6.size) hW0.size⟩)
namespace FnExactPileValid
set_option maxRecDepth 100000 in
theorem lifted (os : Os) (started : os.Started) (H : Type) (enc : TypeId × Value → H) :
    ReturnsInHanded {} Try.checked os 4 .any (Rows.fnExactPileValidSpec.pre6 enc Try.prog Try.f4 Rows.fnExactPileValidRow.domain false) (Rows.fnExactPileValidSpec.post enc Try.prog Try.f4 false true false false) := by
  refine returnsInHanded_of_change (C := Try.checked) own started (by kernel_rfl) Try.func4
    (ChangeSpec.witness6 (enc := enc) (C := Try.checked) false ⟨#[], #[.agg #[.slice none 0 0, .slice none 0 0]], []⟩ 8 (by kernel_rfl) (by kernel_rfl) (by kernel_rfl) (by kernel_rfl)) ?_
  intro W base args ds gs before hval0 hW hcnd _
  have hval : ∀ (j : Nat) t v, Try.f4.params[j]? = some t → args[j]? = some v → Value.okWide Try.prog W .any base t v := hval0
  have hW' := hW
  obtain ⟨p, q, hA0, hV, rfl, hfz, hnd⟩ := hW
  have hA : DataW.TrodAll enc Try.prog W 0 (fun _ => true) true Try.f4.params.toList args.toList ds p := hA0
  rw [Try.params4] at hA hval
  obtain ⟨v0, vs0, d0, ds0, p0, q0, hargs, rfl, rfl, h0, r0⟩ := trodAll_cons hA
  obtain ⟨rfl, rfl, rfl⟩ := trodAll_nil r0
  obtain rfl : args = #[v0] := by cases args; simp_all
  obtain ⟨rfl, rfl⟩ := trodVars_none hV
  have lt0 : ∀ x ∈ p0, x.block < W.heap.size := by obtain ⟨m, hm⟩ := h0; exact DataW.trod_lt m _ _ _ hm
  obtain ⟨A0, n0, c0, z0, A0', n0', c0', z0', rfl, rfl, rfl, k0, m0, k0', m0', rd0⟩ := op_pile Try.underlying29 (by kernel_rfl) (by kernel_rfl) Try.underlying22 Try.underlying22 Try.underlying3 (by kernel_rfl) (hval 0 29 v0 rfl rfl) h0
  clear hA0 hval0
  refine (w_FnExactPileValid W A0 A0' c0 c0' (z0, z0') k0 m0 k0' m0' rd0).mono fun e W' ⟨he, bel⟩ => ?_
  subst he
  exact ⟨_, rfl, _, _, _, [], _, [], hW', trodAll_mk1 (shut_bool Try.underlying4 _), (trodAll_cons_mk (Below.trod laidOut (by kernel_rfl) (of_decide_eq_true (by kernel_rfl)) h0 bel lt0) trodAll_mk0), rfl, bel.frame _, fun h => by cases h⟩
theorem closed : joinedFacts Try.prog 4 Try.f4 Rows.fnExactPileValidSpec Rows.fnExactPileValidRow = true := by
  unfold joinedFacts
  rw [mayEnter, liftsFinal, progMake]
  kernel_rfl
theorem over : Rows.fnExactPileValidRow.holds Try.pinned (OpenSpec.ofChange Rows.fnExactPileValidSpec) :=
  OpenClaim.holds_of_wide 4 Try.f4 rfl rfl rfl rfl rfl rfl rfl ⟨rfl, rfl, rfl, rfl, rfl⟩ rfl rfl rfl rfl rfl (by kernel_rfl) Try.func4 closed
    (of_decide_eq_true (by kernel_rfl)) (by unfold Func.isWrapper; first | (rw [if_pos (by decide +kernel)]; kernel_rfl) | (rw [if_neg (by decide +kernel)]; exact ⟨rfl, rfl⟩))
    (fun os started H enc _ => lifted os started H enc)
theorem proved : Rows.FnExactPileValidSaid := over
end FnExactPileValid
#print axioms FnExactPileValid.proved
end Go.Proofs.Ytgohnbhnckgcnaa
