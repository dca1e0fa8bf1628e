/- The reference's RoundBest. No conditions but bounds on lengths. -/
import Derived.Test.YtcdoopccmljaoaaDoorLongSpec
import Derived.Test.YtcdoopccmljaoaaDoorAppAt
import Derived.Test.YtcdoopccmljaoaaDoorRoundPlain
namespace Go.Proofs.YtcdoopccmljaoaaDoor
open Go.ChangeShapes Go.WideShapes Go.ChangeAt Go.RowKit Go.Deep
theorem Own.keepR {w w' : World} {B : Nat} {T : TypeId} {A : Option Addr} {xs : List Value} {row : Option Nat} (h : Own w B T A xs) (hb : w.grownBy w' row) (hg : ∀ g, ownB A xs = some g → row ≠ some g) : Own w' B T A xs := by
  rcases h with h | ⟨g, cs, rfl, hB, h1, h2⟩
  · exact .inl h
  · by_cases hx : xs = []
    · exact .inl hx
    · refine .inr ⟨g, cs, rfl, hB, ?_, h2⟩
      rw [hb.block g (lt_of_block h1) (fun e => hg g (by rw [ownB_cons _ hx]; rfl) e.symm)]; exact h1
theorem Own.ltB {w : World} {B : Nat} {T : TypeId} {A : Option Addr} {xs : List Value} (h : Own w B T A xs) {g : Nat} (hg : ownB A xs = some g) : g < w.heap.size := by
  rcases h with h | ⟨g', cs, rfl, _, h1, _⟩
  · rw [h] at hg; cases hg
  · have hx : xs ≠ [] := by rintro rfl; cases hg
    rw [ownB_cons _ hx] at hg
    cases hg
    exact lt_of_block h1
theorem Own.geB {w : World} {B : Nat} {T : TypeId} {A : Option Addr} {xs : List Value} (h : Own w B T A xs) {g : Nat} (hg : ownB A xs = some g) : B ≤ g := by
  rcases h with h | ⟨g', cs, rfl, hB, _, _⟩
  · rw [h] at hg; cases hg
  · have hx : xs ≠ [] := by rintro rfl; cases hg
    rw [ownB_cons _ hx] at hg
    cases hg
    exact hB
/-- The boxes while the longest round is found: the jump, the lengths, the round so far. -/
structure BeS (w wr : World) (gJ : Nat) (j k : Int) (I : Option Addr) (L : List Int) (v : Value) (o : List Nat) : Prop where
  jb : Row wr gJ 32 [.int .i64 j, .int .i64 k]
  rl : Own wr w.heap.size 3 I (ic L)
  ov : wr.ownsRow w.heap.size 3 1 v o.length (nc o)
  low : Below w.heap.size w wr
  lJ : w.heap.size ≤ gJ
  nJ : ∀ b, v.ownBlock = some b → b ≠ gJ
  nL : ∀ b, v.ownBlock = some b → ownB I (ic L) ≠ some b
section
variable {w wr w' : World} {gJ : Nat} {j k : Int} {I : Option Addr} {L : List Int} {v v' : Value} {o : List Nat}
theorem BeS.up (h : BeS w wr gJ j k I L v o) (hb : Below wr.heap.size wr w') : BeS w w' gJ j k I L v o :=
  ⟨h.jb.after hb, h.rl.below hb, owns_below h.ov hb, via h.low hb h.low.size, h.lJ, h.nJ, h.nL⟩
theorem BeS.jc (h : BeS w wr gJ j k I L v o) : wr.cell? ⟨gJ, 0, none⟩ = some (.int .i64 j) ∧ wr.cell? ⟨gJ, 1, none⟩ = some (.int .i64 k) := ⟨h.jb.cell (j := 0) (by simp), h.jb.cell (j := 1) (by simp)⟩
theorem nc_snoc (o : List Nat) (x : Nat) : nc (o ++ [x]) = nc o ++ ic [(x : Int)] := by simp [nc, ic]
theorem BeS.app (h : BeS w wr gJ j k I L v o) {x : Nat} (hap : AppdAt wr w' w.heap.size 3 1 v v' o.length 1 (nc o) (ic [(x : Int)])) : BeS w w' gJ j k I L v' (o ++ [x]) := by
  obtain ⟨ha, hb⟩ := hap
  have hg := ha.2.1
  have hJ := h.jb.lt
  refine ⟨h.jb.kept hg (fun e => h.nJ gJ e.symm rfl), h.rl.keepR hg (fun g hg' e => h.nL g e hg'), ?_, h.low.trans (ha.below h.ov h.low.size), h.lJ, ?_, ?_⟩
  · rw [nc_snoc, List.length_append]; exact ha.1
  · intro b e
    rcases hb with hb | hb
    · exact h.nJ b (hb ▸ e)
    · rw [hb] at e; cases e; omega
  · intro b e
    rcases hb with hb | hb
    · exact h.nL b (hb ▸ e)
    · rw [hb] at e; cases e
      intro e'
      have := h.rl.ltB e'
      omega
end
/-- Numbers of the call's own, and their room. -/
def IntsRm (w : World) (z : List Int) (e : Ending) (w' : World) : Prop :=
  ∃ A c, e = .returned (.slice A z.length c) ∧ Own w' w.heap.size 3 A (ic z) ∧ Below w.heap.size w w' ∧ z.length ≤ c
theorem intsRm_nil {w w' : World} {A : Option Addr} {c : Nat} (hb : Below w.heap.size w w') : IntsRm w [] (.returned (.slice A 0 c)) w' := ⟨A, c, rfl, .inl rfl, hb, Nat.zero_le _⟩
theorem top_step (f : Nat → Nat) (q : Nat) : maxOver (fun _ => true) f (q + 1) = max (maxOver (fun _ => true) f q) (f q) := by rw [maxOver, if_pos rfl]
theorem fits_none {F : Nat → Nat → Bool} {f : Nat → Nat} {m q : Nat} (h : f q = m) : fits F f m none q = true := by simp [fits, h]
theorem fits_far {F : Nat → Nat → Bool} {f : Nat → Nat} {m q : Nat} {last : Option Nat} (h : f q ≠ m) : fits F f m last q = false := by simp [fits, h]
theorem fits_some {F : Nat → Nat → Bool} {f : Nat → Nat} {m q a : Nat} (h : f q = m) : fits F f m (some a) q = F a q := by simp [fits, h]
theorem best_yes {zs : List (Int × Int)} {j k : Int} (h1 : sheetsValid zs = true) (h2 : jumpValid j k = true) : roundBest zs j k = (bestIx zs j k).map (fun (i : Nat) => (i : Int)) := by unfold roundBest; rw [h1, h2]; rfl
theorem best_no {zs : List (Int × Int)} {j k : Int} (h : sheetsValid zs = false ∨ jumpValid j k = false) : roundBest zs j k = [] := by
  unfold roundBest; rcases h with h | h <;> simp [h]
set_option linter.unusedSimpArgs false in
set_option linter.unusedVariables false in
set_option maxHeartbeats 4000000 in
set_option maxRecDepth 100000 in
theorem roundBest_spec (A : Option Addr) (c : Nat) (zs : List (Int × Int)) (j k : Int) (w : World) (hz : zs.length ≤ 1099511627776) (hr : Rd w w.heap.size A (sc zs)) :
    Calls Tryd.prog 59 #[.slice A zs.length c, .agg #[.int .i64 j, .int .i64 k]] w (IntsRm w (roundBest zs j k)) := by
  go_enter Tryd.func59, Tryd.ntmps59
  have q0 := (Row.new w 32 #[.int .i64 j, .int .i64 k]).alloc (.cells #[] 3)
  have oE := own_empty (e := 3) (size := 1) (w.alloc (.cells #[.int .i64 j, .int .i64 k] 32)) w.heap.size (by simp)
  have b0 : Below w.heap.size w ((w.alloc (.cells #[.int .i64 j, .int .i64 k] 32)).alloc (.cells #[] 3)) := by go_grown
  have n0 : (w.alloc (.cells #[.int .i64 j, .int .i64 k] 32)).heap.size = w.heap.size + 1 := by simp
  rw [n0] at oE
  go_wp2_with fail
  generalize (w.alloc (.cells #[.int .i64 j, .int .i64 k] 32)).alloc (.cells #[] 3) = w0 at *
  refine (sheetsValid_spec A c zs w0 hz (hr.up b0)).mono ?_
  rintro e w1 ⟨rfl, b1⟩
  replace q0 := q0.after b1
  replace oE := owns_below oE b1
  replace b0 := via b0 b1 b0.size
  clear b1
  have m0 := q0.cell (j := 0) (by simp)
  have m1 := q0.cell (j := 1) (by simp)
  simp only [List.getElem_cons_zero, List.getElem_cons_succ] at m0 m1
  cases hv : sheetsValid zs
  · have hno := hide (best_no (j := j) (k := k) (.inl hv))
    clear hv
    go_wp2
    go_ret
    rw [hno.out]
    exact intsRm_nil b0
  · cases hj : jumpValid j k
    · have hno := hide (best_no (zs := zs) (.inr hj))
      clear hv
      go_wp2_with fail
      refine (jumpValid_spec j k w1).mono ?_
      rw [hj]
      rintro e w2 ⟨rfl, hw2⟩
      have b2 : Below w1.heap.size w1 w2 := by rw [← hw2]; go_grown
      have bb := via b0 b2 b0.size
      clear hj hw2
      go_wp2
      go_ret
      rw [hno.out]
      exact intsRm_nil bb
    · have h9 := sheets_nine hv
      have hyes := hide (best_yes hv hj)
      have hR := hide (ranked zs j k)
      have hLV := hide (best_live zs j k)
      go_wp2_with fail
      refine (jumpValid_spec j k w1).mono ?_
      rw [hj]
      rintro e w2 ⟨rfl, hw2⟩
      have b2 : Below w1.heap.size w1 w2 := by rw [← hw2]; go_grown
      replace q0 := q0.after b2
      replace oE := owns_below oE b2
      replace b0 := via b0 b2 b0.size
      clear hw2 b2 m0 m1
      have m0 := q0.cell (j := 0) (by simp)
      have m1 := q0.cell (j := 1) (by simp)
      simp only [List.getElem_cons_zero, List.getElem_cons_succ] at m0 m1
      have HL := hide (l5Long_any A c zs j k w2 hv (hr.up b0))
      have hFL := farL_len zs j k
      clear hj hv
      go_wp2_with fail
      refine HL.out.mono ?_
      rintro e w3 ⟨I, ci, rfl, oI, b3⟩
      rw [hFL]
      have hz0 := b0.size
      have hq0 := q0.lt
      have hE := (oE.lt _ rfl).2
      have S : BeS w w3 w.heap.size j k I (farL zs j k) (.slice (some ⟨w.heap.size + 1, 0, none⟩) 0 0) [] :=
        ⟨q0.after b3, oI.mono hz0, owns_below oE b3, via b0 b3 hz0, Nat.le_refl _, fun b e => by cases e; simp, fun b e e' => by
          cases e
          have := oI.geB e'
          omega⟩
      clear q0 oE oI b3 b0 m0 m1 HL hE
      go_wp2_with fail
      go_loopw [7, 8] (fun m i wr => ∃ q : Nat, q ≤ zs.length ∧ i = .int .i64 q ∧ m = .int .i64 (maxOver (fun _ => true) (far zs.length (fol zs j k)) q : Nat) ∧ BeS w wr w.heap.size j k I (farL zs j k) (.slice (some ⟨w.heap.size + 1, 0, none⟩) 0 0) []) (fun _ i _ => zs.length - (intOf i).toNat)
      case atStart => exact ⟨0, Nat.zero_le _, rfl, rfl, S⟩
      case round =>
        clear S
        obtain ⟨q, hq, rfl, rfl, S⟩ := hrel
        by_cases hlt : q < zs.length
        · obtain ⟨b, o, rfl, _, hc⟩ := S.rl.rd.int (k := q) (by rw [hFL]; exact hlt)
          rw [farL_get] at hc
          have hst := hide (top_step (far zs.length (fol zs j k)) q)
          generalize far zs.length (fol zs j k) q = x at *
          generalize maxOver (fun _ => true) (far zs.length (fol zs j k)) q = y at *
          have e1 := int_max y x
          have i0 : (0 : Int) ≤ (q : Int) := by omega
          have i1 : (q : Int) < (zs.length : Int) := by omega
          go_wp2_with fail
          go_roundw
          case rel => exact ⟨q + 1, by omega, by go_num, by rw [hst.out], S⟩
          case measure => first | (simp [intOf]; done) | (simp [intOf]; omega)
        · obtain rfl : q = zs.length := by omega
          go_wp2_with fail
          have hTop := top_le (n := zs.length) (F := fol zs j k)
          go_loopw [5, 7] (fun v l wr => ∃ (o : List Nat) (m : Nat) (last : Option Nat), l = .int .i64 (m : Nat) ∧ Hid (bestIx zs j k = o ++ restN zs.length (fol zs j k) (far zs.length (fol zs j k)) m last) ∧ Hid (Live zs.length (fol zs j k) m last) ∧ Hid (last = o.getLast?) ∧ m + o.length ≤ 9 ∧ BeS w wr w.heap.size j k I (farL zs j k) v o) (fun _ l _ => (intOf l).toNat)
          case atStart => exact ⟨[], top zs.length (far zs.length (fol zs j k)), none, rfl, hide rfl, hLV, hide rfl, by simp; omega, S⟩
          case round =>
            clear S hLV
            obtain ⟨o, m, last, rfl, HB, HLv, HLa, hmo, S⟩ := hrel
            by_cases hm0 : m = 0
            · subst hm0
              have hb := HB.out
              rw [restN, List.append_nil] at hb
              have hy := hyes.out
              rw [hb] at hy
              have hy := hide hy
              obtain ⟨A0, c0, hv0, oO, hcx, _, _⟩ := own_room2 S.ov
              have hlow := S.low
              subst hv0
              clear S HB HLv HLa hb
              go_wp2
              go_ret
              rw [hy.out]
              exact ⟨A0, c0, by rw [List.length_map]; rfl, oO, hlow, by rw [List.length_map]; exact hcx⟩
            · obtain ⟨m, rfl⟩ : ∃ m', m = m' + 1 := ⟨m - 1, by omega⟩
              obtain ⟨kp, hpk, hkn, hkf, hkfit⟩ := pick_some hR.out HLv.out
              have hmin : ∀ i, i < kp → fits (fol zs j k) (far zs.length (fol zs j k)) (m + 1) last i = false := (find_range_some hpk).2.2
              have HB1 : Hid (bestIx zs j k = (o ++ [kp]) ++ restN zs.length (fol zs j k) (far zs.length (fol zs j k)) m (some kp)) := hide (by rw [HB.out, rest_cons hpk]; simp)
              have HLv1 : Hid (Live zs.length (fol zs j k) m (some kp)) := hide (live_next hkn hkf)
              have HLa1 : Hid (some kp = (o ++ [kp]).getLast?) := hide (by simp)
              have hmin := hide hmin
              have hkfit := hide hkfit
              obtain ⟨A0, c0, hv0, oO, hc0, hm9, _⟩ := own_room2 S.ov
              subst hv0
              have t0 : decide (((m + 1 : Nat) : Int) > 0) = true := decide_eq_true (by omega)
              clear hpk HB hkf
              obtain ⟨wo1, rfl⟩ : ∃ wo : World, wo = wr := ⟨_, rfl⟩
              go_wp2_with fail
              go_loopw [9] (fun i wr => ∃ q : Nat, q ≤ kp ∧ i = .int .i64 q ∧ BeS w wr w.heap.size j k I (farL zs j k) (.slice A0 o.length c0) o) (fun i _ => kp + 1 - (intOf i).toNat)
              case atStart => exact ⟨0, Nat.zero_le _, rfl, S⟩
              case round =>
                clear S oO
                obtain ⟨q, hq, rfl, S⟩ := hrel
                have hqn : q < zs.length := by omega
                obtain ⟨b, ob, rfl, _, hc⟩ := S.rl.rd.int (k := q) (by rw [hFL]; exact hqn)
                rw [farL_get] at hc
                have i0 : (0 : Int) ≤ (q : Int) := by omega
                have i1 : (q : Int) < (zs.length : Int) := by omega
                have C0 := Ext.old hc
                obtain ⟨m0, m1⟩ := S.jc
                have J0 := Ext.old m0
                have J1 := Ext.old m1
                clear hc m0 m1
                by_cases hf : far zs.length (fol zs j k) q = m + 1
                · have hf' := hide hf
                  rw [hf] at C0
                  cases last with
                  | none =>
                    have ho : o = [] := List.getLast?_eq_none_iff.1 HLa.out.symm
                    have hqk : kp = q := by
                      rcases Nat.lt_or_ge q kp with h | h
                      · have := hmin.out q h
                        rw [fits_none hf] at this
                        cases this
                      · omega
                    subst hqk
                    have t2 : decide ((o.length : Int) > 0) = false := by rw [ho]; rfl
                    have t3 : decide (0 < (o.length : Int)) = false := t2
                    have t4 : decide (0 < o.length) = false := by rw [ho]; rfl
                    have t1 := bne_self_eq_false (((m + 1 : Nat) : Int))
                    clear hmin hkfit HLa HLv ho hf
                    go_wp2_with fail
                    refine wp_region_ext (by kernel_rfl) (by kernel_rfl) ?_
                    repeat (go_big_quiet_step ((fail)))
                    refine wpQuiet_nil ?_
                    intro _ hw'
                    obtain ⟨x1, hx1⟩ := hw'
                    subst hx1
                    replace S := S.up x1.below
                    clear C0 J0 J1
                    generalize x1.val = w5 at *
                    have bA : Below w5.heap.size w5 (w5.alloc (.cells #[.int .i64 (kp : Int)] 3)) := by go_grown
                    have SA := S.up bA
                    have rA := ((Row.new w5 3 #[.int .i64 (kp : Int)]).rd)
                    have hzA := SA.low.size
                    go_wp2_with (at_builtin; refine wpList_append_at intElem rfl _ _ rfl w.heap.size (w5.heap.size + 1) _ o.length (nc o) rfl SA.ov ⟨w5.heap.size, 0, none⟩ 1 1 rfl (ic [(kp : Int)]) rfl (rA.mono (by simp)) (ic_one _) (by omega) (by omega) hzA ?_; intro v9 w9 hap; have S9 := SA.app hap; clear hap)
                    go_roundw
                    case rel => exact ⟨o ++ [kp], m, some kp, by go_num, HB1, HLv1, HLa1, by simp; omega, S9⟩
                    case measure => first | (simp [intOf]; done) | (simp [intOf]; omega)
                  | some a =>
                    have hLo := HLa.out
                    have han : a < zs.length := HLv.out.1
                    obtain ⟨e, he⟩ : ∃ e, o.length = e + 1 := by
                      cases o with
                      | nil => simp at hLo
                      | cons x r => exact ⟨r.length, rfl⟩
                    obtain ⟨A1, c1, hv1, oO, _, _, _⟩ := own_room2 S.ov
                    have hA : A0 = A1 := by injection hv1
                    subst hA
                    obtain ⟨b2, ob2, hA, _, hc2⟩ := oO.rd.int (k := e) (by rw [List.length_map]; omega)
                    subst hA
                    have hoe : (o.map fun (i : Nat) => (i : Int))[e]'(by rw [List.length_map]; omega) = (a : Int) := by
                      rw [List.getElem_map]
                      rw [List.getLast?_eq_getElem?, he, Nat.add_sub_cancel, List.getElem?_eq_getElem (by omega)] at hLo
                      injection hLo with hLo
                      rw [← hLo]
                    rw [hoe] at hc2
                    have D0 := Ext.old hc2
                    have HF := hide (fun (x : Ext wr) => l5After_any A c zs j k a q x.val han hqn (hr.up (via S.low x.below S.low.size)))
                    have hfit := fits_some (F := fol zs j k) (a := a) hf
                    have t1 := bne_self_eq_false (((m + 1 : Nat) : Int))
                    have t2 : decide ((o.length : Int) > 0) = true := decide_eq_true (by omega)
                    have t3 : decide (0 < (o.length : Int)) = true := t2
                    have t4 : decide (0 < o.length) = true := decide_eq_true (by omega)
                    have i2 : (o.length : Int) - 1 = (e : Int) := by omega
                    have i3 : (e : Int) < (o.length : Int) := by omega
                    have i4 : (0 : Int) ≤ (e : Int) := by omega
                    have he9 : e ≤ 9 := by omega
                    have i5 : IntKind.i64.wrap (e : Int) = (e : Int) := by rw [IntKind.wrap_i64]; omega
                    have he := hide he
                    clear hLo hoe hv1 oO hc2
                    cases hF : fol zs j k a q
                    · have hqk : q < kp := by
                        rcases Nat.lt_or_ge q kp with h | h
                        · exact h
                        · have e1 : q = kp := by omega
                          subst e1
                          have := hkfit.out
                          rw [hfit, hF] at this
                          cases this
                      rw [hF] at HF
                      clear hfit hF hf hmin hkfit
                      go_wp2_with fail
                      refine wp_region_ext (by kernel_rfl) (by kernel_rfl) ?_
                      repeat (go_big_quiet_step ((go_at_call 86; with_reducible exact ext_of rfl (HF.out _))))
                      refine wpQuiet_nil ?_
                      intro _ hw'
                      obtain ⟨x1, hx1⟩ := hw'
                      subst hx1
                      replace S := S.up x1.below
                      clear C0 J0 J1
                      generalize x1.val = w5 at *
                      go_wp2_with fail
                      go_roundw
                      case rel => exact ⟨q + 1, by omega, by go_num, S⟩
                      case measure => first | (simp [intOf]; done) | (simp [intOf]; omega)
                    · have hqk : kp = q := by
                        rcases Nat.lt_or_ge q kp with h | h
                        · have := hmin.out q h
                          rw [hfit, hF] at this
                          cases this
                        · omega
                      subst hqk
                      rw [hF] at HF
                      clear hfit hF hf hmin hkfit
                      go_wp2_with fail
                      refine wp_region_ext (by kernel_rfl) (by kernel_rfl) ?_
                      repeat (go_big_quiet_step ((go_at_call 86; with_reducible exact ext_of rfl (HF.out _))))
                      refine wpQuiet_nil ?_
                      intro _ hw'
                      obtain ⟨x1, hx1⟩ := hw'
                      subst hx1
                      replace S := S.up x1.below
                      clear C0 J0 J1
                      generalize x1.val = w5 at *
                      have bA : Below w5.heap.size w5 (w5.alloc (.cells #[.int .i64 (kp : Int)] 3)) := by go_grown
                      have SA := S.up bA
                      have rA := ((Row.new w5 3 #[.int .i64 (kp : Int)]).rd)
                      have hzA := SA.low.size
                      go_wp2_with (at_builtin; refine wpList_append_at intElem rfl _ _ rfl w.heap.size (w5.heap.size + 1) _ o.length (nc o) rfl SA.ov ⟨w5.heap.size, 0, none⟩ 1 1 rfl (ic [(kp : Int)]) rfl (rA.mono (by simp)) (ic_one _) (by omega) (by omega) hzA ?_; intro v9 w9 hap; have S9 := SA.app hap; clear hap)
                      go_roundw
                      case rel => exact ⟨o ++ [kp], m, some kp, by go_num, HB1, HLv1, HLa1, by simp; omega, S9⟩
                      case measure => first | (simp [intOf]; done) | (simp [intOf]; omega)
                · have hqk : q < kp := by
                    rcases Nat.lt_or_ge q kp with h | h
                    · exact h
                    · have e1 : q = kp := by omega
                      subst e1
                      have := hkfit.out
                      rw [fits_far hf] at this
                      cases this
                  have t1 : (((far zs.length (fol zs j k) q : Nat) : Int) != ((m + 1 : Nat) : Int)) = true := by
                    rw [bne_iff_ne]; omega
                  have t5 : (((far zs.length (fol zs j k) q : Nat) : Int) != (m : Int) + 1) = true := by
                    rw [bne_iff_ne]; omega
                  generalize far zs.length (fol zs j k) q = x at *
                  clear hf hmin hkfit
                  go_wp2_with fail
                  refine wp_region_ext (by kernel_rfl) (by kernel_rfl) ?_
                  repeat (go_big_quiet_step ((fail)))
                  refine wpQuiet_nil ?_
                  intro _ hw'
                  obtain ⟨x1, hx1⟩ := hw'
                  subst hx1
                  replace S := S.up x1.below
                  clear C0 J0 J1
                  generalize x1.val = w5 at *
                  go_wp2_with fail
                  go_roundw
                  case rel => exact ⟨q + 1, by omega, by go_num, S⟩
                  case measure => first | (simp [intOf]; done) | (simp [intOf]; omega)
end Go.Proofs.YtcdoopccmljaoaaDoor
