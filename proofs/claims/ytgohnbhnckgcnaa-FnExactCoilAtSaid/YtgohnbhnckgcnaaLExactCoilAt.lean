/- The program's CoilAt and the reference's agree: FnExactCoilAt returns true for every input. No conditions. -/
import Derived.Test.YtgohnbhnckgcnaaSeat
import Derived.Test.YtgohnbhnckgcnaaOps
import Derived.Test.YtgohnbhnckgcnaaLawKit
import Derived.Test.YtgohnbhnckgcnaaCoilAt
namespace Go.Proofs.Ytgohnbhnckgcnaa
open Go.ChangeShapes Go.WideShapes Go.ChangeAt Go.RowKit Go.Deep
set_option maxHeartbeats 1600000 in
set_option maxRecDepth 100000 in
theorem w_FnExactCoilAt (w : World) (A A' : Option Addr) (c c' : Nat) (p : PL) (hk : p.1.length ≤ c) (hm : c ≤ maxLen) (hk' : p.2.length ≤ c') (hm' : c' ≤ maxLen) (rd : RdP w w.heap.size A A' p) (t : Bool) (k : Int) :
    Calls Try.prog 6 #[.agg #[.slice A p.1.length c, .slice A' p.2.length c'], .agg #[.bool t, .int .i64 k]] w fun e w' => e = .returned (.bool true) ∧ Below w.heap.size w w' := by
  unfold maxLen at hm hm'
  generalize hL : szP 1048576 p.1.length p.2.length = L
  have HLL := hide hL
  go_enter Try.func6, Try.ntmps6
  go_wp2_with fail
  obtain ⟨b0, k0, k1, k2, k3, hz⟩ := box_two w 29 40 (.slice A p.1.length c) (.slice A' p.2.length c') (.bool t) (.int .i64 k) _ rfl
  generalize (w.alloc (.cells #[.slice A p.1.length c, .slice A' p.2.length c'] 29)).alloc (.cells #[.bool t, .int .i64 k] 40) = w0 at *
  have K0 := Ext.old k0
  have K1 := Ext.old k1
  have K2 := Ext.old k2
  have K3 := Ext.old k3
  clear hz k0 k1 k2 k3
  refine (szPile_any A A' c c' p.1.length p.2.length 1048576 w0 (by omega) (by omega) (by omega) (by omega)).mono ?_
  rintro e w1 ⟨rfl, hw1⟩
  rw [hL]
  obtain ⟨x1, rfl⟩ : ∃ y : Ext w0, w1 = y.val := ⟨⟨w1, hw1 ▸ bel_one _ _⟩, rfl⟩
  clear hw1 hL
  by_cases hn : L < 0
  · go_wp2
    go_ret
    exact ⟨rfl, via b0 (Ext.below _) b0.size⟩
  · have hp : small p := by
      have := szP_pos (l := 1048576) (n := p.1.length) (n' := p.2.length) (by omega) (by rw [HLL.out]; exact hn)
      exact ⟨by omega, by omega⟩
    have hn' : decide (L < 0) = false := decide_eq_false hn
    have rp0 := rd.up b0
    go_wp2_with fail
    go_region_held3 (fun w' => (w'.cell? ⟨w.heap.size, 0, none⟩ = some (.slice A p.1.length c) ∧ w'.cell? ⟨w.heap.size, 1, none⟩ = some (.slice A' p.2.length c')) ∧ w'.cell? ⟨w.heap.size + 1, 0, none⟩ = some (.bool t) ∧ w'.cell? ⟨w.heap.size + 1, 1, none⟩ = some (.int .i64 k))
      (refine ⟨⟨?_, ?_⟩, ?_, ?_⟩ <;> first | exact K0 _ | exact K1 _ | exact K2 _ | exact K3 _ | (simp [go_sem, K0, K1, K2, K3]; done))
      (first
        | (go_at_call 24; refine (toPile_any A A' c c' p _ hp ?_).mono ?_; exact rp0.up (by first | exact Ext.below _ | exact (Ext.below _).drew | go_grown); rintro e w2 ⟨X, x, X', x', rfl, o2, b2⟩; obtain ⟨x2, rfl⟩ : ∃ y : Ext w0, w2 = y.val := ⟨⟨w2, via (by first | exact Ext.below _ | exact (Ext.below _).drew | go_grown) b2 (by first | exact (Ext.below _).size | go_size)⟩, rfl⟩)
        | (go_at_call 30; refine (toSpot_any t k _).mono ?_; rintro e w3 ⟨rfl, b3⟩; obtain ⟨x3, rfl⟩ : ∃ y : Ext w0, w3 = y.val := ⟨⟨w3, via (by first | exact Ext.below _ | exact (Ext.below _).drew | go_grown) b3 (by first | exact (Ext.below _).size | go_size)⟩, rfl⟩)
        | (go_at_call 29; refine (coilAt_spec X X' x x' p t k _ hp ?_).mono ?_; exact o2.rd.up b3; rintro e w4 ⟨rfl, b4⟩; obtain ⟨x4, rfl⟩ : ∃ y : Ext w0, w4 = y.val := ⟨⟨w4, via (by first | exact Ext.below _ | exact (Ext.below _).drew | go_grown) b4 (by first | exact (Ext.below _).size | go_size)⟩, rfl⟩))
    all_goals
      go_wp2_with fail
      refine (toPile_any A A' c c' p x4.val hp (rp0.up x4.below)).mono ?_
      rintro e w5 ⟨Y, y, Y', y', rfl, o5, b5⟩
      obtain ⟨x5, rfl⟩ : ∃ y : Ext w0, w5 = y.val := ⟨⟨w5, via x4.below b5 x4.below.size⟩, rfl⟩
      have q5 := Row.new x5.val 24 #[.slice Y p.1.length y, .slice Y' p.2.length y']
      have b6 : Below w0.heap.size w0 (x5.val.alloc (.cells #[.slice Y p.1.length y, .slice Y' p.2.length y'] 24)) := x5.below.alloc x5.below.size _
      have o6 := o5.rd.up (bel_one x5.val (.cells #[.slice Y p.1.length y, .slice Y' p.2.length y'] 24))
      go_wp2_with fail
      generalize x5.val.alloc (.cells #[.slice Y p.1.length y, .slice Y' p.2.length y'] 24) = w6 at *
      generalize x5.val.heap.size = gB at *
      have bw := via b0 b6 b0.size
      have rp6 := rp0.up b6
      replace K0 := ext_lift b6 K0
      replace K1 := ext_lift b6 K1
      replace K2 := ext_lift b6 K2
      replace K3 := ext_lift b6 K3
      obtain ⟨K4, K5, _, _⟩ := q5.ext2
      obtain ⟨x6, hx6⟩ := ext_self w6
      rw [← hx6]
      clear hx6
      have tt := bne_int (coilAt p t k)
      go_region_held3 (fun w' => (w'.cell? ⟨gB, 0, none⟩ = some (.slice Y p.1.length y) ∧ w'.cell? ⟨gB, 1, none⟩ = some (.slice Y' p.2.length y')) ∧ w'.cell? ⟨w.heap.size + 1, 0, none⟩ = some (.bool t) ∧ w'.cell? ⟨w.heap.size + 1, 1, none⟩ = some (.int .i64 k))
        (refine ⟨⟨?_, ?_⟩, ?_, ?_⟩ <;> first | exact K4 _ | exact K5 _ | exact K2 _ | exact K3 _ | (simp [go_sem, K4, K5, K2, K3]; done))
        (first
          | (go_at_call 30; refine (toSpot_any t k _).mono ?_; rintro e w7 ⟨rfl, b7⟩; obtain ⟨x7, rfl⟩ : ∃ y : Ext w6, w7 = y.val := ⟨⟨w7, via (by first | exact Ext.below _ | exact (Ext.below _).drew | go_grown) b7 (by first | exact (Ext.below _).size | go_size)⟩, rfl⟩)
          | (go_at_call 31; refine (coilAt_any Y Y' y y' p t k _ hp ?_).mono ?_; exact o6.up (by first | exact Ext.below _ | exact (Ext.below _).drew | go_grown); rintro e w8 ⟨rfl, b8⟩; obtain ⟨x8, rfl⟩ : ∃ y : Ext w6, w8 = y.val := ⟨⟨w8, via (by first | exact Ext.below _ | exact (Ext.below _).drew | go_grown) b8 (by first | exact (Ext.below _).size | go_size)⟩, rfl⟩))
      all_goals
        go_wp2_with fail
        go_region_held3 (fun w' => (w'.cell? ⟨gB, 0, none⟩ = some (.slice Y p.1.length y) ∧ w'.cell? ⟨gB, 1, none⟩ = some (.slice Y' p.2.length y')) ∧ w'.cell? ⟨w.heap.size, 0, none⟩ = some (.slice A p.1.length c) ∧ w'.cell? ⟨w.heap.size, 1, none⟩ = some (.slice A' p.2.length c'))
          (refine ⟨⟨?_, ?_⟩, ?_, ?_⟩ <;> first | exact K4 _ | exact K5 _ | exact K0 _ | exact K1 _ | (simp [go_sem, K4, K5, K0, K1]; done))
          (first
            | (go_at_call 24; refine (toPile_any A A' c c' p _ hp ?_).mono ?_; exact rp6.up (by first | exact Ext.below _ | exact (Ext.below _).drew | go_grown); rintro e w9 ⟨Z, z, Z', z', rfl, o9, b9⟩; obtain ⟨x9, rfl⟩ : ∃ y : Ext w6, w9 = y.val := ⟨⟨w9, via (by first | exact Ext.below _ | exact (Ext.below _).drew | go_grown) b9 (by first | exact (Ext.below _).size | go_size)⟩, rfl⟩)
            | (go_at_call 19; refine (eqPile_any Y Y' Z Z' y y' z z' p p _ hp ?_ ?_).mono ?_; exact o6.up (by first | exact Ext.below _ | exact (Ext.below _).drew | go_grown); exact o9.rd; rintro e wa ⟨rfl, ba⟩; obtain ⟨xa, rfl⟩ : ∃ y : Ext w6, wa = y.val := ⟨⟨wa, via (by first | exact Ext.below _ | exact (Ext.below _).drew | go_grown) ba (by first | exact (Ext.below _).size | go_size)⟩, rfl⟩))
        all_goals
          go_wp2
          go_ret
          exact ⟨rfl, via bw (Ext.below _) bw.size⟩
namespace FnExactCoilAt
set_option maxRecDepth 100000 in
theorem lifted (os : Os) (started : os.Started) (H : Type) (enc : TypeId × Value → H) :
    ReturnsInHanded {} Try.checked os 6 .any (Rows.fnExactCoilAtSpec.pre6 enc Try.prog Try.f6 Rows.fnExactCoilAtRow.domain false) (Rows.fnExactCoilAtSpec.post enc Try.prog Try.f6 false true false false) := by
  refine returnsInHanded_of_change (C := Try.checked) own started (by kernel_rfl) Try.func6
    (ChangeSpec.witness6 (enc := enc) (C := Try.checked) false ⟨#[], #[.agg #[.slice none 0 0, .slice none 0 0], .agg #[.bool false, .int .i64 0]], []⟩ 8 (by kernel_rfl) (by kernel_rfl) (by kernel_rfl) (by kernel_rfl)) ?_
  intro W base args ds gs before hval0 hW hcnd _
  have hval : ∀ (j : Nat) t v, Try.f6.params[j]? = some t → args[j]? = some v → Value.okWide Try.prog W .any base t v := hval0
  have hW' := hW
  obtain ⟨p, q, hA0, hV, rfl, hfz, hnd⟩ := hW
  have hA : DataW.TrodAll enc Try.prog W 0 (fun _ => true) true Try.f6.params.toList args.toList ds p := hA0
  rw [Try.params6] at hA hval
  obtain ⟨v0, vs0, d0, ds0, p0, q0, hargs, rfl, rfl, h0, r0⟩ := trodAll_cons hA
  obtain ⟨v1, vs1, d1, ds1, p1, q1, rfl, rfl, rfl, h1, r1⟩ := trodAll_cons r0
  obtain ⟨rfl, rfl, rfl⟩ := trodAll_nil r1
  obtain rfl : args = #[v0, v1] := by cases args; simp_all
  obtain ⟨rfl, rfl⟩ := trodVars_none hV
  have lt0 : ∀ x ∈ p0, x.block < W.heap.size := by obtain ⟨m, hm⟩ := h0; exact DataW.trod_lt m _ _ _ hm
  have lt1 : ∀ x ∈ p1, x.block < W.heap.size := by obtain ⟨m, hm⟩ := h1; exact DataW.trod_lt m _ _ _ hm
  obtain ⟨A0, n0, c0, z0, A0', n0', c0', z0', rfl, rfl, rfl, k0, m0, k0', m0', rd0⟩ := op_pile Try.underlying29 (by kernel_rfl) (by kernel_rfl) Try.underlying22 Try.underlying22 Try.underlying3 (by kernel_rfl) (hval 0 29 v0 rfl rfl) h0
  obtain ⟨a1, b1, rfl⟩ := op_spot Try.underlying40 (by kernel_rfl) (by kernel_rfl) Try.underlying4 Try.underlying3 (hval 1 40 v1 rfl rfl) h1
  clear hA0 hval0
  refine (w_FnExactCoilAt W A0 A0' c0 c0' (z0, z0') k0 m0 k0' m0' rd0 a1 b1).mono fun e W' ⟨he, bel⟩ => ?_
  subst he
  exact ⟨_, rfl, _, _, _, [], _, [], hW', trodAll_mk1 (shut_bool Try.underlying4 _), (trodAll_cons_mk (Below.trod laidOut (by kernel_rfl) (of_decide_eq_true (by kernel_rfl)) h0 bel lt0) (trodAll_cons_mk (Below.trod laidOut (by kernel_rfl) (of_decide_eq_true (by kernel_rfl)) h1 bel lt1) trodAll_mk0)), rfl, bel.frame _, fun h => by cases h⟩
theorem closed : joinedFacts Try.prog 6 Try.f6 Rows.fnExactCoilAtSpec Rows.fnExactCoilAtRow = true := by
  unfold joinedFacts
  rw [mayEnter, liftsFinal, progMake]
  kernel_rfl
theorem over : Rows.fnExactCoilAtRow.holds Try.pinned (OpenSpec.ofChange Rows.fnExactCoilAtSpec) :=
  OpenClaim.holds_of_wide 6 Try.f6 rfl rfl rfl rfl rfl rfl rfl ⟨rfl, rfl, rfl, rfl, rfl⟩ rfl rfl rfl rfl rfl (by kernel_rfl) Try.func6 closed
    (of_decide_eq_true (by kernel_rfl)) (by unfold Func.isWrapper; first | (rw [if_pos (by decide +kernel)]; kernel_rfl) | (rw [if_neg (by decide +kernel)]; exact ⟨rfl, rfl⟩))
    (fun os started H enc _ => lifted os started H enc)
theorem proved : Rows.FnExactCoilAtSaid := over
end FnExactCoilAt
#print axioms FnExactCoilAt.proved
end Go.Proofs.Ytgohnbhnckgcnaa
