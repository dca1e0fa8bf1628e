/- The program's CoilFind and the reference's agree: FnExactCoilFind returns true for every input. No conditions. -/
import Derived.Test.YtgohnbhnckgcnaaSeat
import Derived.Test.YtgohnbhnckgcnaaOps
import Derived.Test.YtgohnbhnckgcnaaLawKit
import Derived.Test.YtgohnbhnckgcnaaCoil
namespace Go.Proofs.Ytgohnbhnckgcnaa
open Go.ChangeShapes Go.WideShapes Go.ChangeAt Go.RowKit Go.Deep
set_option maxHeartbeats 1600000 in
set_option maxRecDepth 100000 in
theorem w_FnExactCoilFind (w : World) (A A' : Option Addr) (c c' : Nat) (p : PL) (hk : p.1.length ≤ c) (hm : c ≤ maxLen) (hk' : p.2.length ≤ c') (hm' : c' ≤ maxLen) (rd : RdP w w.heap.size A A' p) (id : Int) :
    Calls Try.prog 5 #[.agg #[.slice A p.1.length c, .slice A' p.2.length c'], .int .i64 id] w fun e w' => e = .returned (.bool true) ∧ Below w.heap.size w w' := by
  unfold maxLen at hm hm'
  generalize hL : szP 1048576 p.1.length p.2.length = L
  have HLL := hide hL
  have HS := hide (fun A A' c c' w hp rp => coilFind_spec A A' c c' p id w hp rp)
  have HI := hide (fun A A' c c' w hp rp => coilFind_any A A' c c' p id w hp rp)
  unfold SpotOk at HS HI
  generalize (findV p id).1 = ft at *
  generalize (findV p id).2 = fk at *
  generalize (coilFind p id).isSome = fo at *
  go_enter Try.func5, Try.ntmps5
  go_wp2_with fail
  obtain ⟨b0, k0, k1, hz⟩ := box_one w 29 (.slice A p.1.length c) (.slice A' p.2.length c') _ rfl
  generalize w.alloc (.cells #[.slice A p.1.length c, .slice A' p.2.length c'] 29) = w0 at *
  have K0 := Ext.old k0
  have K1 := Ext.old k1
  clear hz k0 k1
  refine (szPile_any A A' c c' p.1.length p.2.length 1048576 w0 (by omega) (by omega) (by omega) (by omega)).mono ?_
  rintro e w1 ⟨rfl, hw1⟩
  rw [hL]
  obtain ⟨x1, rfl⟩ : ∃ y : Ext w0, w1 = y.val := ⟨⟨w1, hw1 ▸ bel_one _ _⟩, rfl⟩
  clear hw1 hL
  by_cases hn : L < 0
  · go_wp2
    go_ret
    exact ⟨rfl, via b0 (Ext.below _) b0.size⟩
  · have hp : small p := by
      have := szP_pos (l := 1048576) (n := p.1.length) (n' := p.2.length) (by omega) (by rw [HLL.out]; exact hn)
      exact ⟨by omega, by omega⟩
    have hn' : decide (L < 0) = false := decide_eq_false hn
    have rp0 := rd.up b0
    go_wp2_with fail
    refine (toPile_any A A' c c' p x1.val hp (rp0.up x1.below)).mono ?_
    rintro e w2 ⟨X, x, X', x', rfl, o2, b2⟩
    obtain ⟨x2, rfl⟩ := ext_next b2
    go_wp2_with fail
    refine (HS.out X X' x x' x2.val hp o2.rd).mono ?_
    rintro e w3 ⟨rfl, b3⟩
    obtain ⟨x3, rfl⟩ := ext_next b3
    have q3 := Row.new x3.val 35 #[.bool ft, .int .i64 fk]
    have b4 : Below w0.heap.size w0 (x3.val.alloc (.cells #[.bool ft, .int .i64 fk] 35)) := x3.below.alloc x3.below.size _
    have j0 := cell_in b4 K0
    have j1 := cell_in b4 K1
    go_wp2_with fail
    clear j0 j1
    generalize x3.val.alloc (.cells #[.bool ft, .int .i64 fk] 35) = w4 at *
    generalize x3.val.heap.size = g3 at *
    replace K0 := ext_lift b4 K0
    replace K1 := ext_lift b4 K1
    have rp4 := rp0.up b4
    have bw4 := via b0 b4 b0.size
    refine (toPile_any A A' c c' p w4 hp rp4).mono ?_
    rintro e w5 ⟨Y, y, Y', y', rfl, o5, b5⟩
    obtain ⟨x5, rfl⟩ : ∃ y : Ext w4, w5 = y.val := ⟨⟨w5, b5⟩, rfl⟩
    have q3a := (q3.after x5.below).alloc (.cells #[.slice Y p.1.length y, .slice Y' p.2.length y'] 24)
    have q5 := Row.new x5.val 24 #[.slice Y p.1.length y, .slice Y' p.2.length y']
    have b6 : Below w4.heap.size w4 (x5.val.alloc (.cells #[.slice Y p.1.length y, .slice Y' p.2.length y'] 24)) := x5.below.alloc x5.below.size _
    have o6 := o5.rd.up (bel_one x5.val (.cells #[.slice Y p.1.length y, .slice Y' p.2.length y'] 24))
    go_wp2_with fail
    generalize x5.val.alloc (.cells #[.slice Y p.1.length y, .slice Y' p.2.length y'] 24) = w6 at *
    generalize x5.val.heap.size = g5 at *
    replace K0 := ext_lift b6 K0
    replace K1 := ext_lift b6 K1
    have rp6 := rp4.up b6
    have bw6 := via bw4 b6 bw4.size
    refine (HI.out Y Y' y y' w6 hp o6).mono ?_
    rintro e w7 ⟨rfl, b7⟩
    obtain ⟨x7, rfl⟩ : ∃ y : Ext w6, w7 = y.val := ⟨⟨w7, b7⟩, rfl⟩
    have q3b := (q3a.after x7.below).alloc (.cells #[.bool ft, .int .i64 fk] 35)
    have q5b := (q5.after x7.below).alloc (.cells #[.bool ft, .int .i64 fk] 35)
    have q7 := Row.new x7.val 35 #[.bool ft, .int .i64 fk]
    have b8 : Below w6.heap.size w6 (x7.val.alloc (.cells #[.bool ft, .int .i64 fk] 35)) := x7.below.alloc x7.below.size _
    have o8 := o6.up b8
    obtain ⟨j0, j1⟩ := q3b.boxed
    obtain ⟨j2, j3⟩ := q7.boxed
    have tt := bne_bool fo
    go_wp2_with fail
    clear j0 j1 j2 j3
    generalize x7.val.alloc (.cells #[.bool ft, .int .i64 fk] 35) = w8 at *
    replace K0 := ext_lift b8 K0
    replace K1 := ext_lift b8 K1
    have rp8 := rp6.up b8
    have bw8 := via bw6 b8 bw6.size
    refine (eqSpot_any ft fk w8).mono ?_
    rintro e w9 ⟨rfl, b9⟩
    obtain ⟨x9, rfl⟩ : ∃ y : Ext w8, w9 = y.val := ⟨⟨w9, b9⟩, rfl⟩
    obtain ⟨K4, K5, _, _⟩ := q5b.ext2
    clear b9 tt
    go_wp2_with fail
    obtain ⟨xs, hxs⟩ : ∃ y : Ext w8, y.val = x9.val := ⟨x9, rfl⟩
    rw [← hxs]
    clear hxs
    go_region_held3 (fun w' => (w'.cell? ⟨g5, 0, none⟩ = some (.slice Y p.1.length y) ∧ w'.cell? ⟨g5, 1, none⟩ = some (.slice Y' p.2.length y')) ∧ w'.cell? ⟨w.heap.size, 0, none⟩ = some (.slice A p.1.length c) ∧ w'.cell? ⟨w.heap.size, 1, none⟩ = some (.slice A' p.2.length c'))
      (refine ⟨⟨?_, ?_⟩, ?_, ?_⟩ <;> first | exact K4 _ | exact K5 _ | exact K0 _ | exact K1 _ | (simp [go_sem, K4, K5, K0, K1]; done))
      (first
        | (go_at_call 24; refine (toPile_any A A' c c' p _ hp ?_).mono ?_; exact rp8.up (by first | exact Ext.below _ | exact (Ext.below _).drew | go_grown); rintro e wn ⟨Z, z, Z', z', rfl, on, bn⟩; obtain ⟨xn, rfl⟩ : ∃ y : Ext w8, wn = y.val := ⟨⟨wn, via (by first | exact Ext.below _ | exact (Ext.below _).drew | go_grown) bn (by first | exact (Ext.below _).size | go_size)⟩, rfl⟩)
        | (go_at_call 19; refine (eqPile_any Y Y' Z Z' y y' z z' p p _ hp ?_ ?_).mono ?_; exact o8.up (by first | exact Ext.below _ | exact (Ext.below _).drew | go_grown); exact on.rd; rintro e wa ⟨rfl, ba⟩; obtain ⟨xa, rfl⟩ : ∃ y : Ext w8, wa = y.val := ⟨⟨wa, via (by first | exact Ext.below _ | exact (Ext.below _).drew | go_grown) ba (by first | exact (Ext.below _).size | go_size)⟩, rfl⟩))
    all_goals
      go_wp2
      go_ret
      exact ⟨rfl, via bw8 (Ext.below _) bw8.size⟩
namespace FnExactCoilFind
set_option maxRecDepth 100000 in
theorem lifted (os : Os) (started : os.Started) (H : Type) (enc : TypeId × Value → H) :
    ReturnsInHanded {} Try.checked os 5 .any (Rows.fnExactCoilFindSpec.pre6 enc Try.prog Try.f5 Rows.fnExactCoilFindRow.domain false) (Rows.fnExactCoilFindSpec.post enc Try.prog Try.f5 false true false false) := by
  refine returnsInHanded_of_change (C := Try.checked) own started (by kernel_rfl) Try.func5
    (ChangeSpec.witness6 (enc := enc) (C := Try.checked) false ⟨#[], #[.agg #[.slice none 0 0, .slice none 0 0], .int .i64 0], []⟩ 8 (by kernel_rfl) (by kernel_rfl) (by kernel_rfl) (by kernel_rfl)) ?_
  intro W base args ds gs before hval0 hW hcnd _
  have hval : ∀ (j : Nat) t v, Try.f5.params[j]? = some t → args[j]? = some v → Value.okWide Try.prog W .any base t v := hval0
  have hW' := hW
  obtain ⟨p, q, hA0, hV, rfl, hfz, hnd⟩ := hW
  have hA : DataW.TrodAll enc Try.prog W 0 (fun _ => true) true Try.f5.params.toList args.toList ds p := hA0
  rw [Try.params5] at hA hval
  obtain ⟨v0, vs0, d0, ds0, p0, q0, hargs, rfl, rfl, h0, r0⟩ := trodAll_cons hA
  obtain ⟨v1, vs1, d1, ds1, p1, q1, rfl, rfl, rfl, h1, r1⟩ := trodAll_cons r0
  obtain ⟨rfl, rfl, rfl⟩ := trodAll_nil r1
  obtain rfl : args = #[v0, v1] := by cases args; simp_all
  obtain ⟨rfl, rfl⟩ := trodVars_none hV
  have lt0 : ∀ x ∈ p0, x.block < W.heap.size := by obtain ⟨m, hm⟩ := h0; exact DataW.trod_lt m _ _ _ hm
  have lt1 : ∀ x ∈ p1, x.block < W.heap.size := by obtain ⟨m, hm⟩ := h1; exact DataW.trod_lt m _ _ _ hm
  obtain ⟨A0, n0, c0, z0, A0', n0', c0', z0', rfl, rfl, rfl, k0, m0, k0', m0', rd0⟩ := op_pile Try.underlying29 (by kernel_rfl) (by kernel_rfl) Try.underlying22 Try.underlying22 Try.underlying3 (by kernel_rfl) (hval 0 29 v0 rfl rfl) h0
  obtain ⟨a1, rfl⟩ := op_int Try.underlying3 (hval 1 3 v1 rfl rfl) h1
  clear hA0 hval0
  refine (w_FnExactCoilFind W A0 A0' c0 c0' (z0, z0') k0 m0 k0' m0' rd0 a1).mono fun e W' ⟨he, bel⟩ => ?_
  subst he
  exact ⟨_, rfl, _, _, _, [], _, [], hW', trodAll_mk1 (shut_bool Try.underlying4 _), (trodAll_cons_mk (Below.trod laidOut (by kernel_rfl) (of_decide_eq_true (by kernel_rfl)) h0 bel lt0) (trodAll_cons_mk (Below.trod laidOut (by kernel_rfl) (of_decide_eq_true (by kernel_rfl)) h1 bel lt1) trodAll_mk0)), rfl, bel.frame _, fun h => by cases h⟩
theorem closed : joinedFacts Try.prog 5 Try.f5 Rows.fnExactCoilFindSpec Rows.fnExactCoilFindRow = true := by
  unfold joinedFacts
  rw [mayEnter, liftsFinal, progMake]
  kernel_rfl
theorem over : Rows.fnExactCoilFindRow.holds Try.pinned (OpenSpec.ofChange Rows.fnExactCoilFindSpec) :=
  OpenClaim.holds_of_wide 5 Try.f5 rfl rfl rfl rfl rfl rfl rfl ⟨rfl, rfl, rfl, rfl, rfl⟩ rfl rfl rfl rfl rfl (by kernel_rfl) Try.func5 closed
    (of_decide_eq_true (by kernel_rfl)) (by unfold Func.isWrapper; first | (rw [if_pos (by decide +kernel)]; kernel_rfl) | (rw [if_neg (by decide +kernel)]; exact ⟨rfl, rfl⟩))
    (fun os started H enc _ => lifted os started H enc)
theorem proved : Rows.FnExactCoilFindSaid := over
end FnExactCoilFind
#print axioms FnExactCoilFind.proved
end Go.Proofs.Ytgohnbhnckgcnaa
