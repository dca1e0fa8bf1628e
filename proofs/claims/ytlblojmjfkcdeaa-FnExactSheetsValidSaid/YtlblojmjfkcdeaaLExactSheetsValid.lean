/- The program's SheetsValid and the reference's agree: FnExactSheetsValid returns true for every input. No conditions. -/
import Derived.Test.YtlblojmjfkcdeaaSeat
import Derived.Test.YtlblojmjfkcdeaaSheets
namespace Go.Proofs.Ytlblojmjfkcdeaa
open Go.ChangeShapes Go.WideShapes Go.ChangeAt Go.RowKit Go.Deep
theorem szOf_neg {n : Nat} (h : 1048576 < n) : szOf 1048576 n = -1 := by unfold szOf; rw [if_pos (by omega)]
theorem szOf_pos {n : Nat} (h : n ≤ 1048576) : 0 ≤ szOf 1048576 n := by unfold szOf; rw [if_neg (by omega)]; omega
theorem w_FnExactSheetsValid (w : World) (A : Option Addr) (k : Nat) (z : List (Int × Int)) (hk : z.length ≤ k) (hm : k ≤ maxLen) (rd : Rd w w.heap.size A (sc z)) :
    Calls Try.prog 12 #[.slice A z.length k] w fun e w' => e = .returned (.bool true) ∧ Below w.heap.size w w' := by
  unfold maxLen at hm
  by_cases hn : 1048576 < z.length
  · have HZ := hide (szOf_neg hn)
    go_enter Try.func12, Try.ntmps12
    go_wp2_with fail
    refine (szSheetS_any A z.length k 1048576 w (by omega) (by omega) (by omega)).mono ?_
    rintro e w' ⟨rfl, rfl⟩
    rw [HZ.out]
    go_wp2
    go_ret
    exact ⟨rfl, Below.refl _ _⟩
  · have hz : z.length ≤ 1099511627776 := by omega
    have hs := szOf_pos (n := z.length) (by omega)
    go_enter Try.func12, Try.ntmps12
    go_wp2_with fail
    refine (szSheetS_any A z.length k 1048576 w (by omega) (by omega) (by omega)).mono ?_
    rintro e w' ⟨rfl, rfl⟩
    go_wp2_with fail
    refine (toSheetS_any A k z w hz rd).mono ?_
    rintro e w1 ⟨rfl, r1, b1⟩
    go_wp2_with fail
    refine (sheetsValid_spec _ _ z w1 hz r1.rd).mono ?_
    rintro e w2 ⟨rfl, b2⟩
    have b12 := via b1 b2 b1.size
    go_wp2_with fail
    refine (toSheetS_any A k z w2 hz ((rd.below b12).mono b12.size)).mono ?_
    rintro e w3 ⟨rfl, r3, b3⟩
    have b13 := via b12 b3 b12.size
    go_wp2_with fail
    refine (sheetsValid_any _ _ z w3 hz r3.rd).mono ?_
    rintro e w4 ⟨rfl, b4⟩
    have b14 := via b13 b4 b13.size
    go_wp2_with fail
    refine (toSheetS_any A k z w4 hz ((rd.below b14).mono b14.size)).mono ?_
    rintro e w5 ⟨rfl, r5, b5⟩
    have b15 := via b14 b5 b14.size
    go_wp2_with fail
    refine (eqSheetS_any _ _ _ _ z w5 hz ((r3.after b4).after b5).rd r5.rd).mono ?_
    rintro e w6 ⟨rfl, b6⟩
    go_wp2
    go_ret
    exact ⟨rfl, via b15 b6 b15.size⟩
namespace FnExactSheetsValid
set_option maxRecDepth 100000 in
theorem lifted (os : Os) (started : os.Started) (H : Type) (enc : TypeId × Value → H) :
    ReturnsInHanded {} Try.checked os 12 .any (Rows.fnExactSheetsValidSpec.pre6 enc Try.prog Try.f12 Rows.fnExactSheetsValidRow.domain false) (Rows.fnExactSheetsValidSpec.post enc Try.prog Try.f12 false true false false) := by
  refine returnsInHanded_of_change (C := Try.checked) own started (by kernel_rfl) Try.func12
    (ChangeSpec.witness6 (enc := enc) (C := Try.checked) false ⟨#[], #[.slice none 0 0], []⟩ 8 (by kernel_rfl) (by kernel_rfl) (by kernel_rfl) (by kernel_rfl)) ?_
  intro W base args ds gs before hval0 hW hcnd _
  have hval : ∀ (j : Nat) t v, Try.f12.params[j]? = some t → args[j]? = some v → Value.okWide Try.prog W .any base t v := hval0
  have hW' := hW
  obtain ⟨p, q, hA0, hV, rfl, hfz, hnd⟩ := hW
  have hA : DataW.TrodAll enc Try.prog W 0 (fun _ => true) true Try.f12.params.toList args.toList ds p := hA0
  rw [Try.params12] at hA hval
  obtain ⟨v0, vs0, d0, ds0, p0, q0, hargs, rfl, rfl, h0, r0⟩ := trodAll_cons hA
  obtain ⟨rfl, rfl, rfl⟩ := trodAll_nil r0
  obtain rfl : args = #[v0] := by cases args; simp_all
  obtain ⟨rfl, rfl⟩ := trodVars_none hV
  have lt0 : ∀ x ∈ p0, x.block < W.heap.size := by obtain ⟨m, hm⟩ := h0; exact DataW.trod_lt m _ _ _ hm
  obtain ⟨A0, n0, c0, z0, rfl, rfl, k0, m0, rd0⟩ := op_pairs Try.underlying43 Try.underlying30 (by kernel_rfl) (by kernel_rfl) Try.underlying3 Try.underlying3 (hval 0 43 v0 rfl rfl) h0
  clear hA0 hval0
  refine (w_FnExactSheetsValid W A0 c0 z0 k0 m0 rd0).mono fun e W' ⟨he, bel⟩ => ?_
  subst he
  exact ⟨_, rfl, _, _, _, [], _, [], hW', trodAll_mk1 (shut_bool Try.underlying4 _), (trodAll_cons_mk (Below.trod laidOut (by kernel_rfl) (of_decide_eq_true (by kernel_rfl)) h0 bel lt0) trodAll_mk0), rfl, bel.frame _, fun h => by cases h⟩
theorem closed : joinedFacts Try.prog 12 Try.f12 Rows.fnExactSheetsValidSpec Rows.fnExactSheetsValidRow = true := by
  unfold joinedFacts
  rw [mayEnter, liftsFinal, progMake]
  kernel_rfl
theorem over : Rows.fnExactSheetsValidRow.holds Try.pinned (OpenSpec.ofChange Rows.fnExactSheetsValidSpec) :=
  OpenClaim.holds_of_wide 12 Try.f12 rfl rfl rfl rfl rfl rfl rfl ⟨rfl, rfl, rfl, rfl, rfl⟩ rfl rfl rfl rfl rfl (by kernel_rfl) Try.func12 closed
    (of_decide_eq_true (by kernel_rfl)) (by unfold Func.isWrapper; first | (rw [if_pos (by decide +kernel)]; kernel_rfl) | (rw [if_neg (by decide +kernel)]; exact ⟨rfl, rfl⟩))
    (fun os started H enc _ => lifted os started H enc)
theorem proved : Rows.FnExactSheetsValidSaid := over
end FnExactSheetsValid
#print axioms FnExactSheetsValid.proved
end Go.Proofs.Ytlblojmjfkcdeaa
