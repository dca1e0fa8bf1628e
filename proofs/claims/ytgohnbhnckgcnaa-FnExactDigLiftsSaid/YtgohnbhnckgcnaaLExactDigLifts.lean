/- The program's DigLifts and the reference's agree: FnExactDigLifts returns true for every input. No conditions. -/
import Derived.Test.YtgohnbhnckgcnaaSeat
import Derived.Test.YtgohnbhnckgcnaaOps
import Derived.Test.YtgohnbhnckgcnaaIntRes
import Derived.Test.YtgohnbhnckgcnaaDigSpec
import Derived.Test.YtgohnbhnckgcnaaLiftHeld
namespace Go.Proofs.Ytgohnbhnckgcnaa
open Go.ChangeShapes Go.WideShapes Go.ChangeAt Go.RowKit Go.Deep
theorem dig_short (p : PL) (id : Int) : (digLifts p id).1.length ≤ 2 := by
  cases h : (digLifts p id).2
  · unfold digLifts at h ⊢
    cases hf : coilFind p id with
    | none => simp
    | some s =>
      rw [hf] at h
      simp only at h ⊢
      cases hd : digN (s.2 : Int) p (coilsOn p s.1 (s.2 : Int)) with
      | none => simp
      | some x => rw [hd] at h; cases h
  · obtain ⟨_, _, _, _, h2, _⟩ := dig_out h
    exact h2
set_option maxHeartbeats 4000000 in
set_option maxRecDepth 100000 in
theorem w_FnExactDigLifts (w : World) (A A' : Option Addr) (c c' : Nat) (p : PL) (hk : p.1.length ≤ c) (hm : c ≤ maxLen) (hk' : p.2.length ≤ c') (hm' : c' ≤ maxLen) (rd : RdP w w.heap.size A A' p) (id : Int) :
    Calls Try.prog 14 #[.agg #[.slice A p.1.length c, .slice A' p.2.length c'], .int .i64 id] w fun e w' => e = .returned (.bool true) ∧ Below w.heap.size w w' := by
  unfold maxLen at hm hm'
  generalize hL : szP 1048576 p.1.length p.2.length = L
  have HLL := hide hL
  have HS := hide (fun A A' c c' w hp rp => digLifts_spec A A' c c' p id w hp rp)
  have HI := hide (fun A A' c c' w hp rp => digLifts_any A A' c c' p id w hp rp)
  unfold DigOk at HS HI
  have hr0 := dig_short p id
  generalize digLifts p id = rv at *
  obtain ⟨zz, ok⟩ := rv
  simp only at hr0
  have tb := bne_bool ok
  have hr : zz.length ≤ 1099511627776 := by omega
  go_enter Try.func14, Try.ntmps14
  go_wp2_with fail
  obtain ⟨b0, k0, k1, hz⟩ := box_one w 29 (.slice A p.1.length c) (.slice A' p.2.length c') _ rfl
  generalize w.alloc (.cells #[.slice A p.1.length c, .slice A' p.2.length c'] 29) = w0 at *
  have K0 := Ext.old k0
  have K1 := Ext.old k1
  clear k0 k1 
  refine (szPile_any A A' c c' p.1.length p.2.length 1048576 w0 (by omega) (by omega) (by omega) (by omega)).mono ?_
  rintro e w1 ⟨rfl, hw1⟩
  rw [hL]
  obtain ⟨x1, rfl⟩ : ∃ y : Ext w0, w1 = y.val := ⟨⟨w1, hw1 ▸ bel_one _ _⟩, rfl⟩
  clear hw1 hL
  by_cases hn : L < 0
  · go_wp2
    go_ret
    exact ⟨rfl, via b0 (Ext.below _) b0.size⟩
  · have hpz := szP_pos (l := 1048576) (n := p.1.length) (n' := p.2.length) (by omega) (by rw [HLL.out]; exact hn)
    have hp : small p := ⟨by omega, by omega⟩
    have hn' : decide (L < 0) = false := decide_eq_false hn
    have rp0 := rd.up b0
    go_wp2_with fail
    refine (toPile_any A A' c c' p _ hp (rp0.up x1.below)).mono ?_
    rintro e w2 ⟨Z, z, Z', z', rfl, o2, b2⟩
    obtain ⟨x2, rfl⟩ := ext_any x1.below b2 x1.below.size
    go_wp2_with fail
    refine (HS.out Z Z' z z' _ hp o2.rd).mono ?_
    rintro e w4 ⟨X, x, rfl, o4, b4⟩
    obtain ⟨x4, rfl⟩ := ext_any x2.below b4 x2.below.size
    go_wp2_with fail
    refine (toPile_any A A' c c' p x4.val hp (rp0.up x4.below)).mono ?_
    rintro e w5 ⟨Y, y, Y', y', rfl, oY, b5⟩
    have z0A := x4.below.size
    have lY := oY.lt
    have zA5 := b5.size
    have qY := Row.new w5 24 #[.slice Y p.1.length y, .slice Y' p.2.length y']
    have d5 := bel_one w5 (.cells #[.slice Y p.1.length y, .slice Y' p.2.length y'] 24)
    have oYb := oY.below d5
    have oWb := (o4.rd.below b5).below (d5.mono zA5)
    have b6 : Below w0.heap.size w0 (w5.alloc (.cells #[.slice Y p.1.length y, .slice Y' p.2.length y'] 24)) := via (via x4.below b5 z0A) d5 (by omega)
    have z56 := qY.lt
    have j0 := cell_in b6 K0
    have j1 := cell_in b6 K1
    go_wp2_with fail
    clear j0 j1
    generalize w5.alloc (.cells #[.slice Y p.1.length y, .slice Y' p.2.length y'] 24) = w6 at *
    generalize w5.heap.size = gY at *
    generalize x4.val.heap.size = hA at *
    have bw6 := via b0 b6 b0.size
    replace K0 := ext_lift b6 K0
    replace K1 := ext_lift b6 K1
    obtain ⟨K4, K5, _, _⟩ := qY.ext2
    have rp6 := rp0.up b6
    have oYr := oYb.rd
    obtain ⟨x6, hx6⟩ := ext_self w6
    rw [← hx6]
    clear hx6 d5 oY b5
    go_wp2_with fail
    refine (HI.out Y Y' y y' _ hp (oYr.up x6.below)).mono ?_
    rintro e w4 ⟨G, g, rfl, oG0, b4⟩
    have oG := oG0.mono (B' := w6.heap.size) x6.below.size
    obtain ⟨xG, rfl⟩ := ext_any x6.below b4 x6.below.size
    have b7 := xG.below
    have qYc := qY.after b7
    have oYc := oYb.below b7
    have oWc := oWb.below (b7.mono (by omega))
    have bw7 := via bw6 b7 bw6.size
    have rp7 := rp6.up b7
    have z67 := b7.size
    clear K4 K5 oG0 b4
    generalize xG.val = w7 at *
    replace K0 := ext_lift b7 K0
    replace K1 := ext_lift b7 K1
    obtain ⟨K4, K5, _, _⟩ := qYc.ext2
    have oGr := oG.rd
    have oWr := oWc.mono (B' := w7.heap.size) (by omega)
    have oYr := oYc.rd
    obtain ⟨x7, hx7⟩ := ext_self w7
    rw [← hx7]
    clear hx7
    go_wp2_with (go_at_call 53; refine (eqLiftS_any G X g x zz _ hr ?_ ?_).mono ?_; exact oGr.up (by first | exact Ext.below _ | exact (Ext.below _).drew | exact (Ext.below _).alloc (Ext.below _).size _ | exact ((Ext.below _).alloc (Ext.below _).size _).drew); exact oWr.up (by first | exact Ext.below _ | exact (Ext.below _).drew | exact (Ext.below _).alloc (Ext.below _).size _ | exact ((Ext.below _).alloc (Ext.below _).size _).drew); rintro e wq ⟨rfl, bq⟩; obtain ⟨xq, rfl⟩ := ext_any (by first | exact Ext.below _ | exact (Ext.below _).drew | exact (Ext.below _).alloc (Ext.below _).size _ | exact ((Ext.below _).alloc (Ext.below _).size _).drew) bq (by first | exact (Ext.below _).size | exact ((Ext.below _).alloc (Ext.below _).size _).size); clear bq)
    go_region_held3 (fun w' => (w'.cell? ⟨gY, 0, none⟩ = some (.slice Y p.1.length y)) ∧ (w'.cell? ⟨gY, 1, none⟩ = some (.slice Y' p.2.length y')) ∧ (w'.cell? ⟨w.heap.size, 0, none⟩ = some (.slice A p.1.length c)) ∧ w'.cell? ⟨w.heap.size, 1, none⟩ = some (.slice A' p.2.length c'))
      (refine ⟨?_, ?_, ?_, ?_⟩ <;> with_reducible first | exact K4 _ | exact K5 _ | exact K0 _ | exact K1 _ | exact cell_in (Ext.below _).drew K4 | exact cell_in (Ext.below _).drew K5 | exact cell_in (Ext.below _).drew K0 | exact cell_in (Ext.below _).drew K1 | exact cell_in ((Ext.below _).alloc (Ext.below _).size _) K4 | exact cell_in ((Ext.below _).alloc (Ext.below _).size _) K5 | exact cell_in ((Ext.below _).alloc (Ext.below _).size _) K0 | exact cell_in ((Ext.below _).alloc (Ext.below _).size _) K1 | exact cell_in ((Ext.below _).alloc (Ext.below _).size _).drew K4 | exact cell_in ((Ext.below _).alloc (Ext.below _).size _).drew K5 | exact cell_in ((Ext.below _).alloc (Ext.below _).size _).drew K0 | exact cell_in ((Ext.below _).alloc (Ext.below _).size _).drew K1 | exact cell_in (((Ext.below _).setCell (Ext.below _).size _).setCell (Ext.below _).size _) K4 | exact cell_in (((Ext.below _).setCell (Ext.below _).size _).setCell (Ext.below _).size _) K5 | exact cell_in (((Ext.below _).setCell (Ext.below _).size _).setCell (Ext.below _).size _) K0 | exact cell_in (((Ext.below _).setCell (Ext.below _).size _).setCell (Ext.below _).size _) K1)
      (first
        | (go_at_call 24; refine (toPile_any A A' c c' p _ hp ?_).mono ?_; exact rp7.up (by first | exact Ext.below _ | exact (Ext.below _).drew | exact (Ext.below _).alloc (Ext.below _).size _ | exact ((Ext.below _).alloc (Ext.below _).size _).drew); rintro e w2 ⟨Z, z, Z', z', rfl, o2, b2⟩; obtain ⟨x2, rfl⟩ := ext_any (by first | exact Ext.below _ | exact (Ext.below _).drew | exact (Ext.below _).alloc (Ext.below _).size _ | exact ((Ext.below _).alloc (Ext.below _).size _).drew) b2 (by first | exact (Ext.below _).size | exact ((Ext.below _).alloc (Ext.below _).size _).size))
        | (go_at_call 19; refine (eqPile_same Y Y' Z Z' y y' z z' p _ hp ?_ ?_).mono ?_; exact oYr.up (by first | exact Ext.below _ | exact (Ext.below _).drew | exact (Ext.below _).alloc (Ext.below _).size _ | exact ((Ext.below _).alloc (Ext.below _).size _).drew); exact o2.rd; rintro e wa ⟨rfl, ba⟩; obtain ⟨xa, rfl⟩ := ext_any (by first | exact Ext.below _ | exact (Ext.below _).drew | exact (Ext.below _).alloc (Ext.below _).size _ | exact ((Ext.below _).alloc (Ext.below _).size _).drew) ba (by first | exact (Ext.below _).size | exact ((Ext.below _).alloc (Ext.below _).size _).size)))
    all_goals
      go_wp2_with fail
      refine (markPile_any Y Y' y y' hA p 1 xa.val hp (by omega) (by omega) (by omega) (oYc.below xa.below)).mono ?_
      rintro e w11 ⟨rfl, _, t11⟩
      have zxa := xa.below.size
      have bb11 := t11.below (B := hA) (fun g hg => (lY g hg).1) (by omega)
      have bw11 := (via bw7 xa.below bw7.size).trans (bb11.mono (by omega))
      have rp11 := rd.up bw11
      have oG11 := own_turned (oG.below xa.below) t11 (fun g hg e => by have := lY g (.inl e); omega) (fun g hg e => by have := lY g (.inr e); omega)
      have oW11 := (oWc.below (xa.below.mono (by omega))).below bb11
      have z711 := bb11.size
      replace K0 := Ext.old (later bb11 (by simp only; omega) (K0 xa))
      replace K1 := Ext.old (later bb11 (by simp only; omega) (K1 xa))
      clear K4 K5 oGr oWr oYr
      have oGr := oG11.rd
      have oWr := oW11.mono (B' := w11.heap.size) (by omega)
      have t0 : decide (1 + (p.1.length : Int) + (p.2.length : Int) < 0) = false := by rw [decide_eq_false_iff_not]; omega
      obtain ⟨x11, hx11⟩ := ext_self w11
      rw [← hx11]
      clear hx11
      go_wp2_with (go_at_call 53; refine (eqLiftS_any G X g x zz _ hr ?_ ?_).mono ?_; exact oGr.up (by first | exact Ext.below _ | exact (Ext.below _).drew | exact (Ext.below _).alloc (Ext.below _).size _ | exact ((Ext.below _).alloc (Ext.below _).size _).drew); exact oWr.up (by first | exact Ext.below _ | exact (Ext.below _).drew | exact (Ext.below _).alloc (Ext.below _).size _ | exact ((Ext.below _).alloc (Ext.below _).size _).drew); rintro e wq ⟨rfl, bq⟩; obtain ⟨xq, rfl⟩ := ext_any (by first | exact Ext.below _ | exact (Ext.below _).drew | exact (Ext.below _).alloc (Ext.below _).size _ | exact ((Ext.below _).alloc (Ext.below _).size _).drew) bq (by first | exact (Ext.below _).size | exact ((Ext.below _).alloc (Ext.below _).size _).size); clear bq)
      refine (markLiftS_own G g w6.heap.size zz 1 xq.val (by omega) (by omega) (by omega) (oG11.below xq.below)).mono ?_
      rintro e w13 ⟨rfl, oG13, g13⟩
      have zxq := xq.below.size
      have bb13 := (oG11.below xq.below).mark_below (by omega) g13
      have bw13 := (via bw11 xq.below bw11.size).trans (bb13.mono (by omega))
      have rp13 := rd.up bw13
      have oW13 := (oW11.below (xq.below.mono (by omega))).below (bb13.mono (by omega))
      have z13 := bb13.size
      replace K0 := Ext.old (later bb13 (by simp only; omega) (K0 xq))
      replace K1 := Ext.old (later bb13 (by simp only; omega) (K1 xq))
      clear oGr oWr t0
      have oWr := oW13.mono (B' := w13.heap.size) (by omega)
      have oGr := oG13.rd
      have t1 : decide (1 + 4 * (zz.length : Int) < 0) = false := by rw [decide_eq_false_iff_not]; omega
      have t2 := bne_int (1 + 4 * (zz.length : Int))
      obtain ⟨x13, hx13⟩ := ext_self w13
      rw [← hx13]
      clear hx13
      go_wp2_with (go_at_call 57; refine (heldLiftS_any G g zz.length 1 _ (by omega) (by omega) (by omega) (oGr.up (by first | exact Ext.below _ | exact (Ext.below _).drew | exact (Ext.below _).alloc (Ext.below _).size _ | exact ((Ext.below _).alloc (Ext.below _).size _).drew))).mono ?_; rintro e wh ⟨rfl, rfl⟩)
      go_wp2_with fail
      refine (toPile_any A A' c c' p _ hp (rp13.up x13.below)).mono ?_
      rintro e w2 ⟨Z, z, Z', z', rfl, o2, b2⟩
      obtain ⟨x2, rfl⟩ := ext_any x13.below b2 x13.below.size
      go_wp2_with fail
      refine (HI.out Z Z' z z' _ hp o2.rd).mono ?_
      rintro e w4 ⟨H, h, rfl, oH, b4⟩
      obtain ⟨x4, rfl⟩ := ext_any x2.below b4 x2.below.size
      have oHr := oH.rd
      go_wp2_with (first | (go_at_call 53; refine (eqLiftS_any H X h x zz _ hr ?_ ?_).mono ?_; exact oHr; exact oWr.up (by first | exact Ext.below _ | exact (Ext.below _).drew | exact (Ext.below _).alloc (Ext.below _).size _ | exact ((Ext.below _).alloc (Ext.below _).size _).drew); rintro e wq ⟨rfl, bq⟩; obtain ⟨xq2, rfl⟩ := ext_any (by first | exact Ext.below _ | exact (Ext.below _).drew | exact (Ext.below _).alloc (Ext.below _).size _ | exact ((Ext.below _).alloc (Ext.below _).size _).drew) bq (by first | exact (Ext.below _).size | exact ((Ext.below _).alloc (Ext.below _).size _).size); clear bq) | (go_at_call 57; refine (heldLiftS_any G g zz.length 1 _ (by omega) (by omega) (by omega) (oGr.up (by first | exact Ext.below _ | exact (Ext.below _).drew | exact (Ext.below _).alloc (Ext.below _).size _ | exact ((Ext.below _).alloc (Ext.below _).size _).drew))).mono ?_; rintro e wh ⟨rfl, rfl⟩))
      go_ret
      exact ⟨rfl, via bw13 (Ext.below _) bw13.size⟩
namespace FnExactDigLifts
set_option maxRecDepth 100000 in
theorem lifted (os : Os) (started : os.Started) (H : Type) (enc : TypeId × Value → H) :
    ReturnsInHanded {} Try.checked os 14 .any (Rows.fnExactDigLiftsSpec.pre6 enc Try.prog Try.f14 Rows.fnExactDigLiftsRow.domain false) (Rows.fnExactDigLiftsSpec.post enc Try.prog Try.f14 false true false false) := by
  refine returnsInHanded_of_change (C := Try.checked) own started (by kernel_rfl) Try.func14
    (ChangeSpec.witness6 (enc := enc) (C := Try.checked) false ⟨#[], #[.agg #[.slice none 0 0, .slice none 0 0], .int .i64 0], []⟩ 8 (by kernel_rfl) (by kernel_rfl) (by kernel_rfl) (by kernel_rfl)) ?_
  intro W base args ds gs before hval0 hW hcnd _
  have hval : ∀ (j : Nat) t v, Try.f14.params[j]? = some t → args[j]? = some v → Value.okWide Try.prog W .any base t v := hval0
  have hW' := hW
  obtain ⟨p, q, hA0, hV, rfl, hfz, hnd⟩ := hW
  have hA : DataW.TrodAll enc Try.prog W 0 (fun _ => true) true Try.f14.params.toList args.toList ds p := hA0
  rw [Try.params14] at hA hval
  obtain ⟨v0, vs0, d0, ds0, p0, q0, hargs, rfl, rfl, h0, r0⟩ := trodAll_cons hA
  obtain ⟨v1, vs1, d1, ds1, p1, q1, rfl, rfl, rfl, h1, r1⟩ := trodAll_cons r0
  obtain ⟨rfl, rfl, rfl⟩ := trodAll_nil r1
  obtain rfl : args = #[v0, v1] := by cases args; simp_all
  obtain ⟨rfl, rfl⟩ := trodVars_none hV
  have lt0 : ∀ x ∈ p0, x.block < W.heap.size := by obtain ⟨m, hm⟩ := h0; exact DataW.trod_lt m _ _ _ hm
  have lt1 : ∀ x ∈ p1, x.block < W.heap.size := by obtain ⟨m, hm⟩ := h1; exact DataW.trod_lt m _ _ _ hm
  obtain ⟨A0, n0, c0, z0, A0', n0', c0', z0', rfl, rfl, rfl, k0, m0, k0', m0', rd0⟩ := op_pile Try.underlying29 (by kernel_rfl) (by kernel_rfl) Try.underlying22 Try.underlying22 Try.underlying3 (by kernel_rfl) (hval 0 29 v0 rfl rfl) h0
  obtain ⟨a1, rfl⟩ := op_int Try.underlying3 (hval 1 3 v1 rfl rfl) h1
  clear hA0 hval0
  refine (w_FnExactDigLifts W A0 A0' c0 c0' (z0, z0') k0 m0 k0' m0' rd0 a1).mono fun e W' ⟨he, bel⟩ => ?_
  subst he
  exact ⟨_, rfl, _, _, _, [], _, [], hW', trodAll_mk1 (shut_bool Try.underlying4 _), (trodAll_cons_mk (Below.trod laidOut (by kernel_rfl) (of_decide_eq_true (by kernel_rfl)) h0 bel lt0) (trodAll_cons_mk (Below.trod laidOut (by kernel_rfl) (of_decide_eq_true (by kernel_rfl)) h1 bel lt1) trodAll_mk0)), rfl, bel.frame _, fun h => by cases h⟩
theorem closed : joinedFacts Try.prog 14 Try.f14 Rows.fnExactDigLiftsSpec Rows.fnExactDigLiftsRow = true := by
  unfold joinedFacts
  rw [mayEnter, liftsFinal, progMake]
  kernel_rfl
theorem over : Rows.fnExactDigLiftsRow.holds Try.pinned (OpenSpec.ofChange Rows.fnExactDigLiftsSpec) :=
  OpenClaim.holds_of_wide 14 Try.f14 rfl rfl rfl rfl rfl rfl rfl ⟨rfl, rfl, rfl, rfl, rfl⟩ rfl rfl rfl rfl rfl (by kernel_rfl) Try.func14 closed
    (of_decide_eq_true (by kernel_rfl)) (by unfold Func.isWrapper; first | (rw [if_pos (by decide +kernel)]; kernel_rfl) | (rw [if_neg (by decide +kernel)]; exact ⟨rfl, rfl⟩))
    (fun os started H enc _ => lifted os started H enc)
theorem proved : Rows.FnExactDigLiftsSaid := over
end FnExactDigLifts
#print axioms FnExactDigLifts.proved
end Go.Proofs.Ytgohnbhnckgcnaa
