/- The program's LeaveAll and the reference's agree: FnExactLeaveAll returns true for every input. No conditions. -/
import Derived.Test.YtgohnbhnckgcnaaSeat
import Derived.Test.YtgohnbhnckgcnaaOps
import Derived.Test.YtgohnbhnckgcnaaLawKit
import Derived.Test.YtgohnbhnckgcnaaPileRes
import Derived.Test.YtgohnbhnckgcnaaIntRes
import Derived.Test.YtgohnbhnckgcnaaLeaveSpec
namespace Go.Proofs.Ytgohnbhnckgcnaa
open Go.ChangeShapes Go.WideShapes Go.ChangeAt Go.RowKit Go.Deep
set_option maxHeartbeats 4000000 in
set_option maxRecDepth 100000 in
theorem w_FnExactLeaveAll (w : World) (A A' : Option Addr) (c c' : Nat) (p : PL) (hk : p.1.length ≤ c) (hm : c ≤ maxLen) (hk' : p.2.length ≤ c') (hm' : c' ≤ maxLen) (rd : RdP w w.heap.size A A' p)
    (B : Option Addr) (d : Nat) (z : List Int) (_ : z.length ≤ d) (_ : d ≤ maxLen) (_ : ∀ x ∈ z, (Lit.int .i64 x).wf = true) (rdz : Rd w w.heap.size B (z.map (Value.int .i64))) :
    Calls Try.prog 15 #[.agg #[.slice A p.1.length c, .slice A' p.2.length c'], .slice B z.length d] w fun e w' => e = .returned (.bool true) ∧ Below w.heap.size w w' := by
  unfold maxLen at hm hm'
  have rz : Rd w w.heap.size B (ic z) := rdz
  generalize hL : szP 1048576 p.1.length p.2.length = L
  have HLL := hide hL
  by_cases hzl : 1048576 < z.length
  · go_enter Try.func15, Try.ntmps15
    go_wp2
    go_ret
    exact ⟨rfl, by go_grown⟩
  go_enter Try.func15, Try.ntmps15
  go_wp2_with fail
  obtain ⟨b0, k0, k1, hz⟩ := box_one w 29 (.slice A p.1.length c) (.slice A' p.2.length c') _ rfl
  generalize w.alloc (.cells #[.slice A p.1.length c, .slice A' p.2.length c'] 29) = w0 at *
  have K0 := Ext.old k0
  have K1 := Ext.old k1
  clear hz k0 k1
  refine (szPile_any A A' c c' p.1.length p.2.length 1048576 w0 (by omega) (by omega) (by omega) (by omega)).mono ?_
  rintro e w1 ⟨rfl, hw1⟩
  rw [hL]
  obtain ⟨x1, rfl⟩ : ∃ y : Ext w0, w1 = y.val := ⟨⟨w1, hw1 ▸ bel_one _ _⟩, rfl⟩
  clear hw1 hL
  by_cases hn : L < 0
  · go_wp2
    go_ret
    exact ⟨rfl, via b0 (Ext.below _) b0.size⟩
  · have hp : small p := by
      have := szP_pos (l := 1048576) (n := p.1.length) (n' := p.2.length) (by omega) (by rw [HLL.out]; exact hn)
      exact ⟨by omega, by omega⟩
    have hz : z.length ≤ 1099511627776 := by omega
    have hn' : decide (L < 0) = false := decide_eq_false hn
    have rp0 := rd.up b0
    have rz0 := rz.up b0
    have HS := hide (fun A A' B c c' d w hp hd rp rz => leaveAll_spec A A' B c c' d p z w hp hz hd rp rz)
    have HI := hide (fun A A' B c c' d w hp hd rp rz => leaveAll_any A A' B c c' d p z w hp hz hd rp rz)
    generalize leaveAll p z = v0 at *
    obtain ⟨v1, v2⟩ := v0
    go_wp2_with fail
    refine (toPile_any A A' c c' p x1.val hp (rp0.up x1.below)).mono ?_
    rintro e w2 ⟨X, x, X', x', rfl, o2, b2⟩
    obtain ⟨x2, rfl⟩ := ext_next b2
    go_wp2_with fail
    refine (toIntS_any B d z x2.val hz (rz0.up x2.below)).mono ?_
    rintro e w3 ⟨rfl, s3, b3⟩
    obtain ⟨x3, rfl⟩ := ext_next b3
    go_wp2_with fail
    refine (HS.out X X' _ x x' z.length x3.val hp (Nat.le_refl _) (o2.rd.up b3) s3.rd).mono ?_
    rintro e w4 ⟨rfl, b4⟩
    obtain ⟨x4, rfl⟩ := ext_next b4
    go_wp2_with fail
    refine (toPile_any A A' c c' p x4.val hp (rp0.up x4.below)).mono ?_
    rintro e w5 ⟨Y, y, Y', y', rfl, o5, b5⟩
    obtain ⟨x5, rfl⟩ := ext_next b5
    have q5 := Row.new x5.val 24 #[.slice Y p.1.length y, .slice Y' p.2.length y']
    have b6 : Below w0.heap.size w0 (x5.val.alloc (.cells #[.slice Y p.1.length y, .slice Y' p.2.length y'] 24)) := x5.below.alloc x5.below.size _
    have o6 := o5.rd.up (bel_one x5.val (.cells #[.slice Y p.1.length y, .slice Y' p.2.length y'] 24))
    go_wp2_with fail
    generalize x5.val.alloc (.cells #[.slice Y p.1.length y, .slice Y' p.2.length y'] 24) = w6 at *
    generalize x5.val.heap.size = gY at *
    have bw6 := via b0 b6 b0.size
    have rp6 := rp0.up b6
    have rz6 := rz0.up b6
    replace K0 := ext_lift b6 K0
    replace K1 := ext_lift b6 K1
    obtain ⟨K4, K5, _, _⟩ := q5.ext2
    refine (toIntS_any B d z w6 hz rz6).mono ?_
    rintro e w7 ⟨rfl, s7, b7⟩
    have bw7 := via bw6 b7 bw6.size
    have rp7 := rp6.up b7
    have rz7 := rz6.up b7
    have o7 := o6.up b7
    have s7r := s7.rd
    replace K0 := ext_lift b7 K0
    replace K1 := ext_lift b7 K1
    replace K4 := ext_lift b7 K4
    replace K5 := ext_lift b7 K5
    have j0 := cell_in (Below.refl _ _) K4
    have j1 := cell_in (Below.refl _ _) K5
    go_wp2_with fail
    clear j0 j1
    refine (HI.out Y Y' _ y y' z.length w7 hp (Nat.le_refl _) o7 s7r).mono ?_
    rintro e w8 ⟨rfl, b8⟩
    obtain ⟨x8, rfl⟩ : ∃ y : Ext w7, w8 = y.val := ⟨⟨w8, b8⟩, rfl⟩
    have t0 := bne_int v1
    have t1 := bne_bool v2
    go_wp2_with fail
    go_region_held3 (fun w' => (w'.cell? ⟨gY, 0, none⟩ = some (.slice Y p.1.length y)) ∧ (w'.cell? ⟨gY, 1, none⟩ = some (.slice Y' p.2.length y')) ∧ (w'.cell? ⟨w.heap.size, 0, none⟩ = some (.slice A p.1.length c)) ∧ w'.cell? ⟨w.heap.size, 1, none⟩ = some (.slice A' p.2.length c'))
      (refine ⟨?_, ?_, ?_, ?_⟩ <;> with_reducible first | exact K4 _ | exact K5 _ | exact K0 _ | exact K1 _ | exact cell_in (Ext.below _).drew K4 | exact cell_in (Ext.below _).drew K5 | exact cell_in (Ext.below _).drew K0 | exact cell_in (Ext.below _).drew K1 | exact cell_in ((Ext.below _).alloc (Ext.below _).size _) K4 | exact cell_in ((Ext.below _).alloc (Ext.below _).size _) K5 | exact cell_in ((Ext.below _).alloc (Ext.below _).size _) K0 | exact cell_in ((Ext.below _).alloc (Ext.below _).size _) K1 | exact cell_in ((Ext.below _).alloc (Ext.below _).size _).drew K4 | exact cell_in ((Ext.below _).alloc (Ext.below _).size _).drew K5 | exact cell_in ((Ext.below _).alloc (Ext.below _).size _).drew K0 | exact cell_in ((Ext.below _).alloc (Ext.below _).size _).drew K1 | exact cell_in (((Ext.below _).setCell (Ext.below _).size _).setCell (Ext.below _).size _) K4 | exact cell_in (((Ext.below _).setCell (Ext.below _).size _).setCell (Ext.below _).size _) K5 | exact cell_in (((Ext.below _).setCell (Ext.below _).size _).setCell (Ext.below _).size _) K0 | exact cell_in (((Ext.below _).setCell (Ext.below _).size _).setCell (Ext.below _).size _) K1)
      (first
              | (go_at_call 24; refine (toPile_any A A' c c' p _ hp ?_).mono ?_; exact rp7.up (by first | exact Ext.below _ | exact (Ext.below _).drew | exact (Ext.below _).alloc (Ext.below _).size _ | exact ((Ext.below _).alloc (Ext.below _).size _).drew); rintro e w2 ⟨Z, z1, Z', z1', rfl, o2, b2⟩; obtain ⟨xn, rfl⟩ := ext_any (by first | exact Ext.below _ | exact (Ext.below _).drew | exact (Ext.below _).alloc (Ext.below _).size _ | exact ((Ext.below _).alloc (Ext.below _).size _).drew) b2 (by first | exact (Ext.below _).size | exact ((Ext.below _).alloc (Ext.below _).size _).size))
              | (go_at_call 19; refine (eqPile_same Y Y' Z Z' y y' z1 z1' p _ hp ?_ ?_).mono ?_; exact o7.up (by first | exact Ext.below _ | exact (Ext.below _).drew | exact (Ext.below _).alloc (Ext.below _).size _ | exact ((Ext.below _).alloc (Ext.below _).size _).drew); exact o2.rd; rintro e wa ⟨rfl, ba⟩; obtain ⟨xa, rfl⟩ := ext_any (by first | exact Ext.below _ | exact (Ext.below _).drew | exact (Ext.below _).alloc (Ext.below _).size _ | exact ((Ext.below _).alloc (Ext.below _).size _).drew) ba (by first | exact (Ext.below _).size | exact ((Ext.below _).alloc (Ext.below _).size _).size)))
    all_goals
      go_wp2_with fail
      refine (toIntS_any B d z xa.val hz (rz7.up xa.below)).mono ?_
      rintro e wb ⟨rfl, sb, bb⟩
      obtain ⟨xb, rfl⟩ := ext_next bb
      go_wp2_with fail
      refine (eqIntS_same _ _ z.length z.length z xb.val hz (s7r.up xb.below) sb.rd).mono ?_
      rintro e wc ⟨rfl, bc⟩
      obtain ⟨xc, rfl⟩ := ext_next bc
      go_wp2
      go_ret
      exact ⟨rfl, via bw7 (Ext.below _) bw7.size⟩
namespace FnExactLeaveAll
set_option maxRecDepth 100000 in
theorem lifted (os : Os) (started : os.Started) (H : Type) (enc : TypeId × Value → H) :
    ReturnsInHanded {} Try.checked os 15 .any (Rows.fnExactLeaveAllSpec.pre6 enc Try.prog Try.f15 Rows.fnExactLeaveAllRow.domain false) (Rows.fnExactLeaveAllSpec.post enc Try.prog Try.f15 false true false false) := by
  refine returnsInHanded_of_change (C := Try.checked) own started (by kernel_rfl) Try.func15
    (ChangeSpec.witness6 (enc := enc) (C := Try.checked) false ⟨#[], #[.agg #[.slice none 0 0, .slice none 0 0], .slice none 0 0], []⟩ 8 (by kernel_rfl) (by kernel_rfl) (by kernel_rfl) (by kernel_rfl)) ?_
  intro W base args ds gs before hval0 hW hcnd _
  have hval : ∀ (j : Nat) t v, Try.f15.params[j]? = some t → args[j]? = some v → Value.okWide Try.prog W .any base t v := hval0
  have hW' := hW
  obtain ⟨p, q, hA0, hV, rfl, hfz, hnd⟩ := hW
  have hA : DataW.TrodAll enc Try.prog W 0 (fun _ => true) true Try.f15.params.toList args.toList ds p := hA0
  rw [Try.params15] at hA hval
  obtain ⟨v0, vs0, d0, ds0, p0, q0, hargs, rfl, rfl, h0, r0⟩ := trodAll_cons hA
  obtain ⟨v1, vs1, d1, ds1, p1, q1, rfl, rfl, rfl, h1, r1⟩ := trodAll_cons r0
  obtain ⟨rfl, rfl, rfl⟩ := trodAll_nil r1
  obtain rfl : args = #[v0, v1] := by cases args; simp_all
  obtain ⟨rfl, rfl⟩ := trodVars_none hV
  have lt0 : ∀ x ∈ p0, x.block < W.heap.size := by obtain ⟨m, hm⟩ := h0; exact DataW.trod_lt m _ _ _ hm
  have lt1 : ∀ x ∈ p1, x.block < W.heap.size := by obtain ⟨m, hm⟩ := h1; exact DataW.trod_lt m _ _ _ hm
  obtain ⟨A0, n0, c0, z0, A0', n0', c0', z0', rfl, rfl, rfl, k0, m0, k0', m0', rd0⟩ := op_pile Try.underlying29 (by kernel_rfl) (by kernel_rfl) Try.underlying22 Try.underlying22 Try.underlying3 (by kernel_rfl) (hval 0 29 v0 rfl rfl) h0
  obtain ⟨A1, n1, c1, z1, rfl, rfl, k1, m1, wf1, rd1⟩ := op_ints Try.underlying22 Try.underlying3 (by kernel_rfl) (hval 1 22 v1 rfl rfl) h1
  clear hA0 hval0
  refine (w_FnExactLeaveAll W A0 A0' c0 c0' (z0, z0') k0 m0 k0' m0' rd0 A1 c1 z1 k1 m1 wf1 rd1).mono fun e W' ⟨he, bel⟩ => ?_
  subst he
  exact ⟨_, rfl, _, _, _, [], _, [], hW', trodAll_mk1 (shut_bool Try.underlying4 _), (trodAll_cons_mk (Below.trod laidOut (by kernel_rfl) (of_decide_eq_true (by kernel_rfl)) h0 bel lt0) (trodAll_cons_mk (Below.trod laidOut (by kernel_rfl) (of_decide_eq_true (by kernel_rfl)) h1 bel lt1) trodAll_mk0)), rfl, bel.frame _, fun h => by cases h⟩
theorem closed : joinedFacts Try.prog 15 Try.f15 Rows.fnExactLeaveAllSpec Rows.fnExactLeaveAllRow = true := by
  unfold joinedFacts
  rw [mayEnter, liftsFinal, progMake]
  kernel_rfl
theorem over : Rows.fnExactLeaveAllRow.holds Try.pinned (OpenSpec.ofChange Rows.fnExactLeaveAllSpec) :=
  OpenClaim.holds_of_wide 15 Try.f15 rfl rfl rfl rfl rfl rfl rfl ⟨rfl, rfl, rfl, rfl, rfl⟩ rfl rfl rfl rfl rfl (by kernel_rfl) Try.func15 closed
    (of_decide_eq_true (by kernel_rfl)) (by unfold Func.isWrapper; first | (rw [if_pos (by decide +kernel)]; kernel_rfl) | (rw [if_neg (by decide +kernel)]; exact ⟨rfl, rfl⟩))
    (fun os started H enc _ => lifted os started H enc)
theorem proved : Rows.FnExactLeaveAllSaid := over
end FnExactLeaveAll
#print axioms FnExactLeaveAll.proved
end Go.Proofs.Ytgohnbhnckgcnaa
