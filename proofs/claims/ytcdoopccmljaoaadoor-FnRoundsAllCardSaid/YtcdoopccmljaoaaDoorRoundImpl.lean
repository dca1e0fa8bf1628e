/- The program's RoundBest. No conditions but bounds on lengths. -/
import Derived.Test.YtcdoopccmljaoaaDoorRoundSpec
import Derived.Test.YtcdoopccmljaoaaDoorLongImpl
namespace Go.Proofs.YtcdoopccmljaoaaDoor
open Go.ChangeShapes Go.WideShapes Go.ChangeAt Go.RowKit Go.Deep
/-- A nought ahead of the lengths. -/
def zf (n : Nat) (f : Nat → Nat) : List Int := 0 :: (List.range n).map fun a => ((f a : Nat) : Int)
theorem zf_len (n : Nat) (f : Nat → Nat) : (zf n f).length = n + 1 := by simp [zf]
theorem zf_zero (n : Nat) (f : Nat → Nat) : (zf n f)[0]'(by rw [zf_len]; omega) = 0 := rfl
theorem zf_succ (n : Nat) (f : Nat → Nat) (q : Nat) (h : q < n) : (zf n f)[q + 1]'(by rw [zf_len]; omega) = ((f q : Nat) : Int) := by simp [zf]
theorem beq_int (a : Int) : (a == a) = true := by simp
set_option linter.unusedVariables false in
theorem maxW_any (A : Option Addr) (c n : Nat) (f : Nat → Nat) (w : World) (hn : n ≤ 1048576) (hf : ∀ q, q < n → f q ≤ 1048576) (hr : Rd w w.heap.size A (ic (zf n f))) :
    Calls Tryd.prog 83 #[.slice A (n + 1) c] w fun e w' => e = .returned (.int .i64 (maxOver (fun _ => true) f n : Nat)) ∧ w = w' := by
  obtain ⟨b, o, hA, _, hc0⟩ := hr.int (k := 0) (by rw [zf_len]; omega)
  subst hA
  rw [zf_zero] at hc0
  rw [Nat.add_zero] at hc0
  go_enter Tryd.func83, Tryd.ntmps83
  go_wp2
  go_loop [3, 4] (fun m i => ∃ q : Nat, q ≤ n ∧ i = .int .i64 ((q : Int) + 1) ∧ m = .int .i64 (maxOver (fun _ => true) f q : Nat)) (fun _ i => n + 1 - (intOf i).toNat)
  case atStart => exact ⟨0, Nat.zero_le _, rfl, rfl⟩
  case round =>
    obtain ⟨q, hq, rfl, rfl⟩ := hrel
    by_cases hlt : q < n
    · obtain ⟨b', o', hA', _, hc⟩ := hr.int (k := q + 1) (by rw [zf_len]; omega)
      cases hA'
      rw [zf_succ n f q hlt] at hc
      have hst := hide (top_step f q)
      have hfq := hf q hlt
      generalize f q = x at *
      generalize maxOver (fun _ => true) f q = y at *
      have e1 := int_max y x
      have i0 : (0 : Int) ≤ (q : Int) + 1 := by omega
      have i1 : (q : Int) + 1 < ((n + 1 : Nat) : Int) := by omega
      have i2 : ((q : Int) + 1).toNat = q + 1 := by omega
      clear hc0
      go_wp2
      go_round
      case rel => exact ⟨q + 1, by omega, by go_num, by rw [hst.out]⟩
      case measure => simp [intOf]; omega
    · obtain rfl : q = n := by omega
      clear hc0
      go_wp2
      go_ret
      exact ⟨rfl, rfl⟩
set_option linter.unusedSimpArgs false in
set_option linter.unusedVariables false in
set_option maxHeartbeats 4000000 in
set_option maxRecDepth 100000 in
theorem roundBest_any (A : Option Addr) (c : Nat) (zs : List (Int × Int)) (j k : Int) (w : World) (hz : zs.length ≤ 1099511627776) (hr : Rd w w.heap.size A (sc zs)) :
    Calls Tryd.prog 58 #[.slice A zs.length c, .agg #[.int .i64 j, .int .i64 k]] w (IntsRm w (roundBest zs j k)) := by
  go_enter Tryd.func58, Tryd.ntmps58
  have q0 := Row.new w 32 #[.int .i64 j, .int .i64 k]
  have b0 : Below w.heap.size w (w.alloc (.cells #[.int .i64 j, .int .i64 k] 32)) := by go_grown
  go_wp2_with fail
  generalize w.alloc (.cells #[.int .i64 j, .int .i64 k] 32) = w0 at *
  refine (sheetsValid_any A c zs w0 hz (hr.up b0)).mono ?_
  rintro e w1 ⟨rfl, b1⟩
  replace q0 := q0.after b1
  replace b0 := via b0 b1 b0.size
  clear b1
  have m0 := q0.cell (j := 0) (by simp)
  have m1 := q0.cell (j := 1) (by simp)
  simp only [List.getElem_cons_zero, List.getElem_cons_succ] at m0 m1
  cases hv : sheetsValid zs
  · have hno := hide (best_no (j := j) (k := k) (.inl hv))
    clear hv
    go_wp2
    go_ret
    rw [hno.out]
    exact intsRm_nil b0
  · cases hj : jumpValid j k
    · have hno := hide (best_no (zs := zs) (.inr hj))
      clear hv
      go_wp2_with fail
      refine (jumpValid_any j k w1).mono ?_
      rw [hj]
      rintro e w2 ⟨rfl, hw2⟩
      have b2 : Below w1.heap.size w1 w2 := by rw [← hw2]; go_grown
      have bb := via b0 b2 b0.size
      clear hj hw2
      go_wp2
      go_ret
      rw [hno.out]
      exact intsRm_nil bb
    · have h9 := sheets_nine hv
      have hyes := hide (best_yes hv hj)
      have hR := hide (ranked zs j k)
      have hLV := hide (best_live zs j k)
      go_wp2_with fail
      refine (jumpValid_any j k w1).mono ?_
      rw [hj]
      rintro e w2 ⟨rfl, hw2⟩
      have b2 : Below w1.heap.size w1 w2 := by rw [← hw2]; go_grown
      replace q0 := q0.after b2
      replace b0 := via b0 b2 b0.size
      clear hw2 b2 m0 m1
      have m0 := q0.cell (j := 0) (by simp)
      have m1 := q0.cell (j := 1) (by simp)
      simp only [List.getElem_cons_zero, List.getElem_cons_succ] at m0 m1
      have HL := hide (roundsFrom_any A c zs j k w2 hv (hr.up b0))
      have hFL := farL_len zs j k
      clear hj hv
      go_wp2_with fail
      refine HL.out.mono ?_
      rintro e w3 ⟨I, ci, rfl, oI, b3⟩
      rw [hFL]
      have hz0 := b0.size
      have hq0 := q0.lt
      have S : BeS w w3 w.heap.size j k I (farL zs j k) (.slice none 0 0) [] :=
        ⟨q0.after b3, oI.mono hz0, World.ownsRow_nil _ _ _ _, via b0 b3 hz0, Nat.le_refl _, (fun b e => by cases e), (fun b e _ => by cases e)⟩
      clear q0 b3 b0 m0 m1 HL
      have bZ : Below w3.heap.size w3 (w3.alloc (.cells #[.int .i64 0] 3)) := by go_grown
      have SZ := S.up bZ
      have oZ := own_full (e := 3) (size := 1) w3 w3.heap.size 1 #[.int .i64 0] (Nat.le_refl _) (by unfold maxLen; omega) rfl
      have rI := SZ.rl.rd
      have hnI : I = none → zs.length = 0 := by
        intro e
        rcases oI with h | ⟨g, cs, h, _⟩
        · have := congrArg List.length h
          rw [ic_len, hFL] at this
          simpa using this
        · rw [e] at h; cases h
      have hbF : ∀ q, q < zs.length → far zs.length (fol zs j k) q ≤ 1048576 := fun q _ => Nat.le_trans (long_le_t _ _ _ _) (by omega)
      have ezf : [Value.int .i64 0] ++ ic (farL zs j k) = ic (zf zs.length (far zs.length (fol zs j k))) := by simp [ic, zf, farL]
      clear oI
      go_wp2_with (at_builtin; refine wpList_append_any intElem rfl _ _ rfl w3.heap.size (w3.alloc (.cells #[.int .i64 0] 3)).heap.size _ 1 [.int .i64 0] rfl oZ I zs.length ci rfl (ic (farL zs j k)) (by rw [ic_len, hFL]; omega) rI hnI (ic_one _) (by omega) (by omega) (by simp) ?_; intro v9 w9 hap; have o9 := hap.1; have b9 := bZ.trans (hap.below oZ (by simp)); clear hap)
      rw [Nat.add_comm 1 zs.length, ezf] at o9
      obtain ⟨A9, c9, hv9, p9, _, _, _⟩ := own_room2 o9
      subst hv9
      replace S := S.up b9
      clear SZ oZ rI hnI ezf o9
      refine (maxW_any A9 c9 zs.length (far zs.length (fol zs j k)) w9 (by omega) hbF p9.rd).mono ?_
      rintro e w10 ⟨rfl, rfl⟩
      clear p9 hbF b9 bZ
      have hTop := top_le (n := zs.length) (F := fol zs j k)
      go_wp2_with fail
      go_loopw [6, 7] (fun v l wr => ∃ (o : List Nat) (m : Nat) (last : Option Nat), l = .int .i64 (m : Nat) ∧ Hid (bestIx zs j k = o ++ restN zs.length (fol zs j k) (far zs.length (fol zs j k)) m last) ∧ Hid (Live zs.length (fol zs j k) m last) ∧ Hid (last = o.getLast?) ∧ m + o.length ≤ 9 ∧ BeS w wr w.heap.size j k I (farL zs j k) v o) (fun _ l _ => (intOf l).toNat)
      case atStart => exact ⟨[], top zs.length (far zs.length (fol zs j k)), none, rfl, hide rfl, hLV, hide rfl, by simp; omega, S⟩
      case round =>
        clear S hLV
        obtain ⟨o, m, last, rfl, HB, HLv, HLa, hmo, S⟩ := hrel
        by_cases hm0 : m = 0
        · subst hm0
          have hb := HB.out
          rw [restN, List.append_nil] at hb
          have hy := hyes.out
          rw [hb] at hy
          have hy := hide hy
          obtain ⟨A0, c0, hv0, oO, hcx, _, _⟩ := own_room2 S.ov
          have hlow := S.low
          subst hv0
          clear S HB HLv HLa hb
          go_wp2
          go_ret
          rw [hy.out]
          exact ⟨A0, c0, by rw [List.length_map]; rfl, oO, hlow, by rw [List.length_map]; exact hcx⟩
        · obtain ⟨m, rfl⟩ : ∃ m', m = m' + 1 := ⟨m - 1, by omega⟩
          obtain ⟨kp, hpk, hkn, hkf, hkfit⟩ := pick_some hR.out HLv.out
          have hmin : ∀ i, i < kp → fits (fol zs j k) (far zs.length (fol zs j k)) (m + 1) last i = false := (find_range_some hpk).2.2
          have HB1 : Hid (bestIx zs j k = (o ++ [kp]) ++ restN zs.length (fol zs j k) (far zs.length (fol zs j k)) m (some kp)) := hide (by rw [HB.out, rest_cons hpk]; simp)
          have HLv1 : Hid (Live zs.length (fol zs j k) m (some kp)) := hide (live_next hkn hkf)
          have HLa1 : Hid (some kp = (o ++ [kp]).getLast?) := hide (by simp)
          have hmin := hide hmin
          have hkfit := hide hkfit
          obtain ⟨A0, c0, hv0, oO, hc0, hm9, _⟩ := own_room2 S.ov
          subst hv0
          have t0 : decide (((m + 1 : Nat) : Int) > 0) = true := decide_eq_true (by omega)
          clear hpk HB hkf
          obtain ⟨wo1, rfl⟩ : ∃ wo : World, wo = wr := ⟨_, rfl⟩
          go_wp2_with fail
          go_loopw [6, 30] (fun v i wr => ∃ q : Nat, q ≤ kp ∧ i = .int .i64 q ∧ v = .slice A0 o.length c0 ∧ BeS w wr w.heap.size j k I (farL zs j k) (.slice A0 o.length c0) o) (fun _ i _ => kp + 1 - (intOf i).toNat)
          case atStart => exact ⟨0, Nat.zero_le _, rfl, rfl, S⟩
          case round =>
            clear S oO
            obtain ⟨q, hq, rfl, rfl, S⟩ := hrel
            have hqn : q < zs.length := by omega
            obtain ⟨b, ob, rfl, _, hc⟩ := S.rl.rd.int (k := q) (by rw [hFL]; exact hqn)
            rw [farL_get] at hc
            have i0 : (0 : Int) ≤ (q : Int) := by omega
            have i1 : (q : Int) < (zs.length : Int) := by omega
            have C0 := Ext.old hc
            obtain ⟨m0, m1⟩ := S.jc
            have J0 := Ext.old m0
            have J1 := Ext.old m1
            clear hc m0 m1
            by_cases hf : far zs.length (fol zs j k) q = m + 1
            · have hf' := hide hf
              rw [hf] at C0
              have t1 := beq_int (((m + 1 : Nat) : Int))
              cases last with
              | none =>
                have ho : o = [] := List.getLast?_eq_none_iff.1 HLa.out.symm
                have hqk : kp = q := by
                  rcases Nat.lt_or_ge q kp with h | h
                  · have := hmin.out q h
                    rw [fits_none hf] at this
                    cases this
                  · omega
                subst hqk
                have t2 : ((o.length : Int) == 0) = true := by rw [ho]; rfl
                have t3 : (o.length == 0) = true := by rw [ho]; rfl
                clear hmin hkfit HLa HLv ho hf
                go_wp2_with fail
                refine wp_region_ext (by kernel_rfl) (by kernel_rfl) ?_
                repeat (go_big_quiet_step ((fail)))
                refine wpQuiet_nil ?_
                intro _ hw'
                obtain ⟨x1, hx1⟩ := hw'
                subst hx1
                replace S := S.up x1.below
                clear C0 J0 J1
                generalize x1.val = w5 at *
                have bA : Below w5.heap.size w5 (w5.alloc (.cells #[.int .i64 (kp : Int)] 3)) := by go_grown
                have SA := S.up bA
                have rA := ((Row.new w5 3 #[.int .i64 (kp : Int)]).rd)
                have hzA := SA.low.size
                go_wp2_with (at_builtin; refine wpList_append_at intElem rfl _ _ rfl w.heap.size (w5.heap.size + 1) _ o.length (nc o) rfl SA.ov ⟨w5.heap.size, 0, none⟩ 1 1 rfl (ic [(kp : Int)]) rfl (rA.mono (by simp)) (ic_one _) (by omega) (by omega) hzA ?_; intro v9 w9 hap; have S9 := SA.app hap; clear hap)
                go_roundw
                case rel => exact ⟨o ++ [kp], m, some kp, by go_num, HB1, HLv1, HLa1, by simp; omega, S9⟩
                case measure => first | (simp [intOf]; done) | (simp [intOf]; omega)
              | some a =>
                have hLo := HLa.out
                have han : a < zs.length := HLv.out.1
                obtain ⟨e, he⟩ : ∃ e, o.length = e + 1 := by
                  cases o with
                  | nil => simp at hLo
                  | cons x r => exact ⟨r.length, rfl⟩
                obtain ⟨A1, c1, hv1, oO, _, _, _⟩ := own_room2 S.ov
                have hA : A0 = A1 := by injection hv1
                subst hA
                obtain ⟨b2, ob2, hA, _, hc2⟩ := oO.rd.int (k := e) (by rw [List.length_map]; omega)
                subst hA
                have hoe : (o.map fun (i : Nat) => (i : Int))[e]'(by rw [List.length_map]; omega) = (a : Int) := by
                  rw [List.getElem_map]
                  rw [List.getLast?_eq_getElem?, he, Nat.add_sub_cancel, List.getElem?_eq_getElem (by omega)] at hLo
                  injection hLo with hLo
                  rw [← hLo]
                rw [hoe] at hc2
                have D0 := Ext.old hc2
                have HF := hide (fun (x : Ext wr) => follows_any A c zs j k a q x.val han hqn (hr.up (via S.low x.below S.low.size)))
                have hfit := fits_some (F := fol zs j k) (a := a) hf
                have t2 : ((o.length : Int) == 0) = false := beq_false_of_ne (by omega)
                have t3 : (o.length == 0) = false := beq_false_of_ne (by omega)
                have t6 : ((e : Int) + 1 == 0) = false := beq_false_of_ne (by omega)
                have i2 : (o.length : Int) - 1 = (e : Int) := by omega
                have i3 : (e : Int) < (o.length : Int) := by omega
                have i4 : (0 : Int) ≤ (e : Int) := by omega
                have he9 : e ≤ 9 := by omega
                have i5 : IntKind.i64.wrap (e : Int) = (e : Int) := by rw [IntKind.wrap_i64]; omega
                have he := hide he
                clear hLo hoe hv1 oO hc2
                cases hF : fol zs j k a q
                · have hqk : q < kp := by
                    rcases Nat.lt_or_ge q kp with h | h
                    · exact h
                    · have e1 : q = kp := by omega
                      subst e1
                      have := hkfit.out
                      rw [hfit, hF] at this
                      cases this
                  rw [hF] at HF
                  clear hfit hF hf hmin hkfit
                  go_wp2_with fail
                  refine wp_region_ext (by kernel_rfl) (by kernel_rfl) ?_
                  repeat (go_big_quiet_step ((go_at_call 84; with_reducible exact ext_of rfl (HF.out _))))
                  refine wpQuiet_nil ?_
                  intro _ hw'
                  obtain ⟨x1, hx1⟩ := hw'
                  subst hx1
                  replace S := S.up x1.below
                  clear C0 J0 J1
                  generalize x1.val = w5 at *
                  go_wp2_with fail
                  go_roundw
                  case rel => exact ⟨q + 1, by omega, by go_num, rfl, S⟩
                  case measure => first | (simp [intOf]; done) | (simp [intOf]; omega)
                · have hqk : kp = q := by
                    rcases Nat.lt_or_ge q kp with h | h
                    · have := hmin.out q h
                      rw [hfit, hF] at this
                      cases this
                    · omega
                  subst hqk
                  rw [hF] at HF
                  clear hfit hF hf hmin hkfit
                  go_wp2_with fail
                  refine wp_region_ext (by kernel_rfl) (by kernel_rfl) ?_
                  repeat (go_big_quiet_step ((go_at_call 84; with_reducible exact ext_of rfl (HF.out _))))
                  refine wpQuiet_nil ?_
                  intro _ hw'
                  obtain ⟨x1, hx1⟩ := hw'
                  subst hx1
                  replace S := S.up x1.below
                  clear C0 J0 J1
                  generalize x1.val = w5 at *
                  have bA : Below w5.heap.size w5 (w5.alloc (.cells #[.int .i64 (kp : Int)] 3)) := by go_grown
                  have SA := S.up bA
                  have rA := ((Row.new w5 3 #[.int .i64 (kp : Int)]).rd)
                  have hzA := SA.low.size
                  go_wp2_with (at_builtin; refine wpList_append_at intElem rfl _ _ rfl w.heap.size (w5.heap.size + 1) _ o.length (nc o) rfl SA.ov ⟨w5.heap.size, 0, none⟩ 1 1 rfl (ic [(kp : Int)]) rfl (rA.mono (by simp)) (ic_one _) (by omega) (by omega) hzA ?_; intro v9 w9 hap; have S9 := SA.app hap; clear hap)
                  go_roundw
                  case rel => exact ⟨o ++ [kp], m, some kp, by go_num, HB1, HLv1, HLa1, by simp; omega, S9⟩
                  case measure => first | (simp [intOf]; done) | (simp [intOf]; omega)
            · have hqk : q < kp := by
                rcases Nat.lt_or_ge q kp with h | h
                · exact h
                · have e1 : q = kp := by omega
                  subst e1
                  have := hkfit.out
                  rw [fits_far hf] at this
                  cases this
              have t1 : (((far zs.length (fol zs j k) q : Nat) : Int) == ((m + 1 : Nat) : Int)) = false := beq_false_of_ne (by omega)
              have t5 : (((far zs.length (fol zs j k) q : Nat) : Int) == (m : Int) + 1) = false := beq_false_of_ne (by omega)
              generalize far zs.length (fol zs j k) q = x at *
              clear hf hmin hkfit
              go_wp2_with fail
              refine wp_region_ext (by kernel_rfl) (by kernel_rfl) ?_
              repeat (go_big_quiet_step ((fail)))
              refine wpQuiet_nil ?_
              intro _ hw'
              obtain ⟨x1, hx1⟩ := hw'
              subst hx1
              replace S := S.up x1.below
              clear C0 J0 J1
              generalize x1.val = w5 at *
              go_wp2_with fail
              go_roundw
              case rel => exact ⟨q + 1, by omega, by go_num, rfl, S⟩
              case measure => first | (simp [intOf]; done) | (simp [intOf]; omega)
end Go.Proofs.YtcdoopccmljaoaaDoor
