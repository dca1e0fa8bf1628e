/- Every sheet is rolled once: FnRoundsAll returns true for every input. No conditions. -/
import Derived.Test.YtcdoopccmljaoaaDoorSeatC
import Derived.Test.YtcdoopccmljaoaaDoorDrawA
import Derived.Test.YtcdoopccmljaoaaDoorAlive
import Derived.Test.YtcdoopccmljaoaaDoorListsLaw
namespace Go.Proofs.YtcdoopccmljaoaaDoor
open Go.ChangeShapes Go.WideShapes Go.ChangeAt Go.RowKit Go.Deep
theorem roundOk_at (A A' : Option Addr) (c c' n : Nat) (zs : List (Int × Int)) (j k : Int) (r : List Int) (w : World) (hn : zs.length ≤ 1099511627776) (hl : r.length = n) (hn' : n ≤ 1099511627776) (hr : Rd w w.heap.size A (sc zs)) (hr' : Rd w w.heap.size A' (ic r)) (hc' : n ≤ c') :
    Calls Tryd.prog 60 #[.slice A zs.length c, .agg #[.int .i64 j, .int .i64 k], .slice A' n c'] w fun e w' => e = .returned (.bool (roundOk zs j k r)) ∧ Below w.heap.size w w' := by
  subst hl; exact roundOk_any A A' c c' zs j k r w hn hn' hr hr' hc'
theorem hasInt_at (A : Option Addr) (c n : Nat) (zs : List Int) (x : Int) (w : World) (hl : zs.length = n) (hn : n ≤ 1099511627776) (hr : Rd w w.heap.size A (ic zs)) :
    Calls Tryd.prog 63 #[.slice A n c, .int .i64 x] w fun e w' => e = .returned (.bool (decide (x ∈ zs))) ∧ w = w' := by
  subst hl; exact hasInt_any A c zs x w hn hr
theorem flat_asInt (L : List (List Nat)) : (L.map asInt).flatten = asInt L.flatten := by
  unfold asInt; rw [List.map_flatten]
theorem rounds_facts {zs : List (Int × Int)} {j k : Int} (h1 : sheetsValid zs = true) (h2 : jumpValid j k = true) {ts : List Bx} (e : brs ts = roundsAll zs j k) :
    (∀ q (h : q < ts.length), roundOk zs j k ts[q].2.2 = true ∧ ts[q].2.2.length ≠ 0) ∧ (∀ q (h : q + 1 < ts.length), ts[q + 1].2.2.length ≤ ts[q].2.2.length) ∧ (∀ x : Nat, x < zs.length → (x : Int) ∈ (brs ts).flatten) ∧ (brs ts).flatten.length = zs.length := by
  have e0 : brs ts = (allN zs j k zs.length (List.range zs.length)).map asInt := by rw [e]; unfold roundsAll; rw [h1, h2]; rfl
  have hA := asc_range zs
  have hlen : ts.length = (allN zs j k zs.length (List.range zs.length)).length := by rw [← brs_len, e0, List.length_map]
  have hget : ∀ q (h : q < ts.length) (h' : q < (allN zs j k zs.length (List.range zs.length)).length), ts[q].2.2 = asInt (allN zs j k zs.length (List.range zs.length))[q] := by
    intro q h h'
    have h3 : (brs ts)[q]'(by rw [brs_len]; exact h) = ts[q].2.2 := by simp [brs]
    rw [← h3]
    simp only [e0, List.getElem_map]
  have hok := all_ok (j := j) (k := k) zs.length _ hA
  have hmem := all_mem (j := j) (k := k) zs.length _ hA (by simp)
  have hln := all_len (j := j) (k := k) zs.length _ hA (by simp)
  have hds := (all_desc (j := j) (k := k) zs.length _ hA).2
  generalize allN zs j k zs.length (List.range zs.length) = L at *
  refine ⟨fun q h => ?_, fun q h => ?_, fun x hx => ?_, ?_⟩
  · have h' : q < L.length := by omega
    obtain ⟨a, b⟩ := hok L[q] (List.getElem_mem h')
    rw [hget q h h', asInt_len]
    exact ⟨roundOk_iff.2 ⟨h1, h2, asInt_pos _, by rw [asInt_nat]; exact a⟩, fun e => b (List.eq_nil_of_length_eq_zero e)⟩
  · have h' : q + 1 < L.length := by omega
    have := hds q h'
    rw [List.getD_eq_getElem?_getD, List.getD_eq_getElem?_getD, List.getElem?_eq_getElem h', List.getElem?_eq_getElem (show q < L.length by omega)] at this
    rw [hget (q + 1) h h', hget q (by omega) (by omega), asInt_len, asInt_len]
    exact this
  · rw [e0, flat_asInt, mem_asInt, hmem]
    exact List.mem_range.2 hx
  · rw [e0, flat_asInt, asInt_len, hln, List.length_range]
theorem ic_app (a b : List Int) : ic a ++ ic b = ic (a ++ b) := by simp [ic]
set_option linter.unusedSimpArgs false in
set_option linter.unusedVariables false in
set_option maxHeartbeats 8000000 in
set_option maxRecDepth 100000 in
theorem w_FnRoundsAll (w : World) (A : Option Addr) (c : Nat) (bs : List Int) (hkc : bs.length ≤ c) (hmc : c ≤ maxLen) (hbs : ∀ b ∈ bs, (Lit.int .u8 b).wf = true) (hrd : Rd w w.heap.size A (bc bs)) :
    Calls Tryd.prog 17 #[.slice A bs.length c] w fun e w' => e = .returned (.bool true) ∧ Below w.heap.size w w' := by
  have hB := hide hbs
  clear hbs
  by_cases hl : 1048576 < bs.length
  · go_enter Tryd.func17, Tryd.ntmps17
    go_wp2
    go_ret
    exact ⟨rfl, Below.refl _ _⟩
  · go_enter Tryd.func17, Tryd.ntmps17
    go_wp2_with fail
    refine (drawRoundsAll_any A c bs w hkc hmc hB.out hrd).mono ?_
    rintro e w1 ⟨L, d, zs, j, k, rfl, h1, h2, h3, hj, hk, oL, hn, b1⟩
    clear hl hkc hmc hrd
    have q0 := Row.new w1 32 #[.int .i64 j, .int .i64 k]
    have b0 : Below w1.heap.size w1 (w1.alloc (.cells #[.int .i64 j, .int .i64 k] 32)) := by go_grown
    have rL := oL.rd.up b0
    have bb := via b1 b0 b1.size
    go_wp2_with fail
    generalize w1.alloc (.cells #[.int .i64 j, .int .i64 k] 32) = w00 at *
    have k0 := (two_cells q0).1
    have k1 := (two_cells q0).2.1
    have hgB : w1.heap.size < w00.heap.size := q0.lt
    clear q0 b0 b1 oL
    generalize w1.heap.size = gB at *
    have HI := hide (fun w rp => (roundsAll_any L d zs j k w (by omega) rp).mono fun _ _ h => h.room)
    have HS := hide (fun w rp => (roundsAll_spec L d zs j k w (by omega) rp).mono fun _ _ h => h.len)
    have HNV := hide (fun h => all_no (zs := zs) (j := j) (k := k) h)
    have HSm := hide (fun ts (e : brs ts = roundsAll zs j k) => rounds_small e)
    have HF := hide (fun h1 h2 ts (e : brs ts = roundsAll zs j k) => rounds_facts (zs := zs) (j := j) (k := k) h1 h2 e)
    generalize roundsAll zs j k = rs at *
    refine (HI.out _ rL).mono ?_
    rintro e w2 ⟨I, ci, ts, rfl, eG, oI, bG, hrm, b2⟩
    replace rL := rL.up b2
    replace bb := via bb b2 bb.size
    have K0 := Ext.old (later b2 (p := ⟨gB, 0, none⟩) hgB k0)
    have K1 := Ext.old (later b2 (p := ⟨gB, 1, none⟩) hgB k1)
    have ro := oI.rd
    obtain ⟨htl, htr⟩ := HSm.out ts eG
    have htr := hide htr
    have hrm := hide hrm
    replace bG := bG.mono (Nat.zero_le _)
    clear HI k0 k1 b2 hgB oI
    generalize w2 = w0 at *
    obtain ⟨x0, hx0⟩ := ext_self w0
    rw [← hx0]
    clear hx0
    go_wp2_with fail
    refine (HS.out _ (rL.up (Ext.below _))).mono ?_
    rintro e w' ⟨J, cj, us, rfl, eU, oJ, bU, b⟩
    obtain ⟨y1, rfl⟩ := ext_next b
    clear b HS
    go_wp2_with fail
    refine (sameLists_any I J ci cj ts us y1.val (by omega) (fun t ht => by have := htr.out t ht; omega) (by rw [eG, eU]) (ro.up (Ext.below _)) oJ.rd (bG.up (Ext.below _)) (bU.mono (Nat.zero_le _))).mono ?_
    rintro e w' ⟨rfl, dr⟩
    obtain ⟨y2, rfl⟩ := ext_next dr
    clear oJ dr bU eU
    go_wp2_with fail
    refine (sheetsValid_spec L d zs _ (by omega) (rL.up (Ext.below _))).mono ?_
    cases hv : sheetsValid zs
    · obtain rfl := HNV.out (.inl hv)
      have ht0 : ts.length = 0 := by rw [← brs_len, eG]; rfl
      have t1 : ((ts.length : Int) == 0) = true := by rw [ht0]; rfl
      have t2 : (ts.length == 0) = true := by rw [ht0]; rfl
      clear hv HNV HF HSm ht0
      rintro e w' ⟨rfl, b⟩
      obtain ⟨y3, rfl⟩ := ext_next b
      clear b
      go_wp2_with (go_at_call 22; refine (alive_any _).mono ?_; rintro e w' ⟨rfl, b2⟩)
      go_ret
      have bx := via bb (Ext.below y3) bb.size
      exact ⟨rfl, via bx b2 bx.size⟩
    · skip
      rintro e w' ⟨rfl, b⟩
      obtain ⟨y3, rfl⟩ := ext_next b
      clear b
      cases hjv : jumpValid j k
      · obtain rfl := HNV.out (.inr hjv)
        have ht0 : ts.length = 0 := by rw [← brs_len, eG]; rfl
        have t1 : ((ts.length : Int) == 0) = true := by rw [ht0]; rfl
        have t2 : (ts.length == 0) = true := by rw [ht0]; rfl
        clear hv HNV HF HSm ht0
        go_wp2_with fail
        refine (jumpValid_spec j k _).mono ?_
        rw [hjv]
        rintro e w' ⟨rfl, hw2⟩
        obtain ⟨y4, rfl⟩ : ∃ y : Ext w0, w' = y.val := ⟨⟨w', by rw [← hw2]; exact y3.below.alloc y3.below.size _⟩, rfl⟩
        clear hw2 hjv
        go_wp2_with (go_at_call 22; refine (alive_any _).mono ?_; rintro e w' ⟨rfl, b2⟩)
        go_ret
        have bx := via bb (Ext.below y4) bb.size
        exact ⟨rfl, via bx b2 bx.size⟩
      · obtain ⟨f1, f2, f3, f4⟩ := HF.out hv hjv ts eG
        have f1 := hide f1
        have f2 := hide f2
        have f3 := hide f3
        have f4 := hide f4
        clear hv HNV HF HSm
        go_wp2_with fail
        refine (jumpValid_spec j k _).mono ?_
        rw [hjv]
        rintro e w' ⟨rfl, hw2⟩
        obtain ⟨y4, rfl⟩ : ∃ y : Ext w0, w' = y.val := ⟨⟨w', by rw [← hw2]; exact y3.below.alloc y3.below.size _⟩, rfl⟩
        clear hw2 hjv
        have oE := own_empty (e := 3) (size := 1) y4.val w0.heap.size y4.below.size
        have bE := y4.below.alloc y4.below.size (.cells #[] 3)
        go_wp2_with fail
        generalize y4.val.alloc (.cells #[] 3) = w4 at *
        go_loopw [6, 7] (fun v i wr => ∃ q : Nat, q ≤ ts.length ∧ i = .int .i64 q ∧ wr.ownsRow w0.heap.size 3 1 v (off ts q) (ic ((brs ts).take q).flatten) ∧ Below w0.heap.size w0 wr) (fun _ i _ => ts.length - (intOf i).toNat)
        case atStart => exact ⟨0, Nat.zero_le _, rfl, oE, bE⟩
        case round =>
          clear oE bE
          obtain ⟨q, hq, rfl, oE, bE⟩ := hrel
          have hzE := bE.size
          have hoff := off_le htr.out q hq
          have hof9 : off ts q ≤ 81 := by
            have : q * 9 ≤ 9 * 9 := Nat.mul_le_mul_right 9 (by omega)
            omega
          clear hoff
          by_cases hlt : q < ts.length
          · obtain ⟨b, o, hAI, hb, hc⟩ := ro.bxs hlt
            subst hAI
            have C0 := Ext.old (later bE (p := ⟨b, o + q, none⟩) hb hc)
            have J0 := Ext.old (K0 ⟨wr, bE⟩)
            have J1 := Ext.old (K1 ⟨wr, bE⟩)
            obtain ⟨fo, fn⟩ := f1.out q hlt
            have hrow := (bG ts[q] (List.getElem_mem hlt)).2
            have htq := htr.out ts[q] (List.getElem_mem hlt)
            have hrq := hrm.out ts[q] (List.getElem_mem hlt)
            have hos := hide (off_succ hlt)
            have hfl : Hid (((brs ts).take q).flatten ++ ts[q].2.2 = ((brs ts).take (q + 1)).flatten) := hide (by
              rw [List.take_succ_eq_append_getElem (show q < (brs ts).length by rw [brs_len]; exact hlt), List.flatten_append]
              simp [brs])
            have i0 : (0 : Int) ≤ (q : Int) := by omega
            have i1 : (q : Int) < (ts.length : Int) := by omega
            have hqt := hlt
            obtain ⟨⟨g1, c1, l1⟩, hT⟩ : ∃ t, t = ts[q] := ⟨_, rfl⟩
            have HD := hide (fun p (e : q = p + 1) (hp : p < ts.length) => show ts[q].2.2.length ≤ ts[p].2.2.length by subst e; exact f2.out p hlt)
            rw [← hT] at C0 fo fn hrow htq hrq hos hfl HD
            simp only [bv] at C0 fo fn hrow htq hrq hos hfl HD
            have HFF : Hid (∀ x : Ext wr, Calls Tryd.prog 60 #[.slice L zs.length d, .agg #[.int .i64 j, .int .i64 k], .slice (some ⟨g1, 0, none⟩) l1.length c1] x.val fun e w' => e = .returned (.bool true) ∧ Below x.val.heap.size x.val w') := hide (fun x => by
              have := roundOk_any L (some ⟨g1, 0, none⟩) d c1 zs j k l1 x.val (by omega) (by omega) (rL.up (via bE x.below hzE)) ((hrow.after (via bE x.below hzE)).rd) hrq
              rw [fo] at this
              exact this)
            have hn0 := fn
            have n1 : ((l1.length : Int) == 0) = false := beq_false_of_ne (by omega)
            have n2 : (l1.length == 0) = false := beq_false_of_ne fn
            clear hc hT fo fn hn0
            by_cases hq0 : q = 0
            · subst hq0
              rw [Nat.add_zero] at C0
              have t2 : decide ((0 : Int) > 0) = false := rfl
              clear HD
              go_wp2_with fail
              refine wp_region_ext (by kernel_rfl) (by kernel_rfl) ?_
              repeat (go_big_quiet_step ((go_at_call 60; with_reducible exact ext_of rfl (HFF.out _))))
              refine wpQuiet_nil ?_
              intro _ hw'
              obtain ⟨x1, hx1⟩ := hw'
              subst hx1
              have o1 := owns_below oE x1.below
              have bx1 := via bE x1.below hzE
              have cx1 := C0 x1
              have r1 := (hrow.after bx1).rd
              have hz1 := bx1.size
              clear C0 J0 J1 HFF oE bE hrow
              generalize x1.val = w6 at *
              go_wp2_with (at_builtin; refine wpList_append_any intElem rfl _ _ rfl w0.heap.size w6.heap.size _ (off ts 0) (ic ((brs ts).take 0).flatten) rfl o1 (some ⟨g1, 0, none⟩) l1.length c1 rfl (ic l1) (by rw [ic_len]; omega) r1 (fun h => by cases h) (ic_one _) (by omega) (by omega) hz1 ?_; intro v9 w9 hap; have o9 := hap.1; have b9 := bx1.trans (hap.below o1 hz1); clear hap)
              rw [ic_app, hfl.out, ← hos.out] at o9
              go_roundw
              case rel => first | exact ⟨0 + 1, by omega, by go_num, o9, b9⟩ | exact ⟨0 + 1, by omega, by go_num, o9⟩
              case measure => first | (simp [intOf]; done) | (simp [intOf]; omega)
            · obtain ⟨p, rfl⟩ : ∃ p, q = p + 1 := ⟨q - 1, by omega⟩
              have hlp : p < ts.length := by omega
              obtain ⟨b', o', hAI, hb', hc'⟩ := ro.bxs hlp
              cases hAI
              have C1 := Ext.old (later bE (p := ⟨b, o + p, none⟩) hb' hc')
              have hds := HD.out p rfl hlp
              obtain ⟨⟨g2, c2, l2⟩, hT⟩ : ∃ t, t = ts[p] := ⟨_, rfl⟩
              rw [← hT] at C1 hds
              simp only [bv] at C1 hds
              have j4 : (p : Int) < (ts.length : Int) := by omega
              have j5 : (0 : Int) ≤ (p : Int) := by omega
              have j6 : IntKind.i64.wrap (p : Int) = (p : Int) := by rw [IntKind.wrap_i64]; omega
              have t2 : decide (((p + 1 : Nat) : Int) > 0) = true := decide_eq_true (by omega)
              have t3 : decide ((p : Int) + 1 > 0) = true := decide_eq_true (by omega)
              have t5 : decide (0 < (p : Int) + 1) = true := decide_eq_true (by omega)
              have t4 : decide ((l1.length : Int) > (l2.length : Int)) = false := decide_eq_false (by omega)
              have t6 : decide ((l2.length : Int) < (l1.length : Int)) = false := decide_eq_false (by omega)
              have t7 : decide (l2.length < l1.length) = false := decide_eq_false (by omega)
              clear hc' HD hT
              go_wp2_with fail
              refine wp_region_ext (by kernel_rfl) (by kernel_rfl) ?_
              repeat (go_big_quiet_step ((go_at_call 60; with_reducible exact ext_of rfl (HFF.out _))))
              refine wpQuiet_nil ?_
              intro _ hw'
              obtain ⟨x1, hx1⟩ := hw'
              subst hx1
              have o1 := owns_below oE x1.below
              have bx1 := via bE x1.below hzE
              have cx1 := C0 x1
              have r1 := (hrow.after bx1).rd
              have hz1 := bx1.size
              clear C0 J0 J1 HFF oE bE hrow
              generalize x1.val = w6 at *
              go_wp2_with (at_builtin; refine wpList_append_any intElem rfl _ _ rfl w0.heap.size w6.heap.size _ (off ts (p + 1)) (ic ((brs ts).take (p + 1)).flatten) rfl o1 (some ⟨g1, 0, none⟩) l1.length c1 rfl (ic l1) (by rw [ic_len]; omega) r1 (fun h => by cases h) (ic_one _) (by omega) (by omega) hz1 ?_; intro v9 w9 hap; have o9 := hap.1; have b9 := bx1.trans (hap.below o1 hz1); clear hap)
              rw [ic_app, hfl.out, ← hos.out] at o9
              go_roundw
              case rel => first | exact ⟨(p + 1) + 1, by omega, by go_num, o9, b9⟩ | exact ⟨(p + 1) + 1, by omega, by go_num, o9⟩
              case measure => first | (simp [intOf]; done) | (simp [intOf]; omega)
          · obtain rfl : q = ts.length := by omega
            rw [List.take_of_length_le (by rw [brs_len]; exact Nat.le_refl _)] at oE
            have hlen := oE.1
            rw [ic_len, f4.out, Nat.mul_one] at hlen
            rw [← hlen] at oE
            clear hlen
            obtain ⟨M, cM, hvM, oM, hcM, _, _⟩ := own_room2 oE
            subst hvM
            have rM := oM.rd
            have f3 := hide f3.out
            have f4 := hide f4.out
            generalize (brs ts).flatten = al at *
            clear oM
            go_wp2_with fail
            obtain ⟨wo2, rfl⟩ : ∃ wo : World, wo = wr := ⟨_, rfl⟩
            go_loopw [8] (fun i wx => ∃ q : Nat, q ≤ zs.length ∧ i = .int .i64 q ∧ wx = wo2) (fun i _ => zs.length - (intOf i).toNat)
            case atStart => exact ⟨0, Nat.zero_le _, rfl, rfl⟩
            case round =>
              obtain ⟨q, hq, rfl, rfl⟩ := hrel
              by_cases hlt : q < zs.length
              · have HH := hasInt_at M cM zs.length al (q : Int) wr f4.out (by omega) rM
                rw [decide_eq_true (f3.out q hlt)] at HH
                have HH := hide HH
                go_wp2_with fail
                refine HH.out.mono ?_
                rintro e w' ⟨rfl, rfl⟩
                go_wp2_with fail
                go_roundw
                case rel => first | exact ⟨q + 1, by omega, by go_num, rfl⟩ | exact ⟨q + 1, by omega, rfl⟩ | exact ⟨q + 1, by omega, by simp⟩ | exact ⟨q + 1, by omega, by omega⟩
                case measure => first | (simp [intOf]; done) | (simp [intOf]; omega)
              · obtain rfl : q = zs.length := by omega
                have t1 : ((zs.length : Int) == (zs.length : Int)) = true := by simp
                have bx := via bb bE bb.size
                clear rM oE
                go_wp2
                go_ret
                exact ⟨rfl, bx⟩
namespace FnRoundsAll
set_option maxRecDepth 100000 in
theorem lifted (os : Os) (started : os.Started) (H : Type) (enc : TypeId × Value → H) :
    ReturnsInHanded {} Tryd.checked os 17 .any (fun w args => (Rows.fnRoundsAllSpec.pre enc Tryd.prog Tryd.f17 [] false w args ∧ laidMetH Tryd.prog Rows.fnRoundsAllRow.laid w) ∧ sizedMet enc Tryd.prog Tryd.f17 (OpenSpec.ofChange Rows.fnRoundsAllSpec) false w args) (Rows.fnRoundsAllSpec.post enc Tryd.prog Tryd.f17 false true false false) := by
  refine returnsInHanded_of_change_and (C := Tryd.checked) (X := fun w _ => laidMetH Tryd.prog Rows.fnRoundsAllRow.laid w) (fun _ _ _ hh h => h.of_heap hh) own started (by kernel_rfl) Tryd.func17
    (ChangeSpec.witness_shaped (enc := enc) (C := Tryd.checked) (os := os) (X := fun w _ => laidMetH Tryd.prog Rows.fnRoundsAllRow.laid w) false (World.laidAll Tryd.prog os Rows.fnRoundsAllRow.laid) #[.slice none 0 0] 8 (World.laidAll_os _ _ _)
      (World.shaped_of_ZipB (by kernel_rfl) (by kernel_rfl)) (by kernel_rfl) (by kernel_rfl) (by kernel_rfl)
      (by rw [MakeChecks.laidMetH_plain _ _ _ (by kernel_rfl)]; exact laidMet_laidAll _ (by kernel_rfl) (by kernel_rfl))) ?_
  intro W base args ds gs before hval0 hW _ _ _ _
  have hval : ∀ (j : Nat) t v, Tryd.f17.params[j]? = some t → args[j]? = some v → Value.okWide Tryd.prog W .any base t v := hval0
  have hW' := hW
  obtain ⟨p, q, hA0, hV, rfl, hfz, hnd⟩ := hW
  have hA : DataW.TrodAll enc Tryd.prog W 0 (fun _ => true) true Tryd.f17.params.toList args.toList ds p := hA0
  rw [Tryd.params17] at hA hval
  obtain ⟨v0, vs0, d0, ds0, p0, q0, hargs, rfl, rfl, h0, r0⟩ := trodAll_cons hA
  obtain ⟨rfl, rfl, rfl⟩ := trodAll_nil r0
  obtain rfl : args = #[v0] := by cases args; simp_all
  obtain ⟨rfl, rfl⟩ := trodVars_none hV
  have lt0 : ∀ x ∈ p0, x.block < W.heap.size := by obtain ⟨m, hm⟩ := h0; exact DataW.trod_lt m _ _ _ hm
  obtain ⟨A0, n0, c0, z0, rfl, rfl, k0, m0, wf0, rd0⟩ := op_ints Tryd.underlying22 Tryd.underlying5 (by kernel_rfl) (hval 0 22 v0 rfl rfl) h0
  clear hA0 hval0
  refine (w_FnRoundsAll W A0 c0 z0 k0 m0 wf0 rd0).mono fun e W' ⟨he, bel⟩ => ?_
  subst he
  exact ⟨_, rfl, _, _, _, [], _, [], hW', trodAll_mk1 (shut_bool Tryd.underlying4 _), (trodAll_cons_mk (Below.trod laidOut (by kernel_rfl) (of_decide_eq_true (by kernel_rfl)) h0 bel lt0) trodAll_mk0), rfl, bel.frame _, fun h => by cases h⟩
theorem closed : joinedFacts Tryd.prog 17 Tryd.f17 Rows.fnRoundsAllSpec Rows.fnRoundsAllRow = true := by
  unfold joinedFacts
  rw [mayEnter, liftsFinal, progMake]
  kernel_rfl
theorem over : Rows.fnRoundsAllRow.holds Tryd.pinned (OpenSpec.ofChange Rows.fnRoundsAllSpec) :=
  OpenClaim.holds_of_wide 17 Tryd.f17 rfl rfl rfl rfl rfl rfl rfl ⟨rfl, rfl, rfl, rfl, rfl⟩ rfl rfl rfl rfl rfl (by kernel_rfl) Tryd.func17 closed
    (of_decide_eq_true (by kernel_rfl)) (by unfold Func.isWrapper; first | (rw [if_pos (by decide +kernel)]; kernel_rfl) | (rw [if_neg (by decide +kernel)]; exact ⟨rfl, rfl⟩))
    (fun os started H enc _ => lifted os started H enc)
set_option maxRecDepth 100000 in
theorem carded : Rows.FnRoundsAllCardSaid :=
  Claim7.holds_tied_plain_at .later [] _ true Rows.fnRoundsAllCard.stood.harness false over (fun _ h => by cases h) (by kernel_rfl) (fun _ h => by cases h) fnRoundsAll_row_tie rfl ⟨rfl, rfl⟩ mainIs rfl
    (fun f fn hf hfn => by
      obtain rfl : f = 17 := Option.some.inj ((show Tryd.prog.funcNamed Rows.fnRoundsAllRow.func = some 17 by kernel_rfl).symm.trans hf) |>.symm
      obtain rfl : fn = Tryd.f17 := (Option.some.inj (Tryd.func17.symm.trans hfn)).symm
      exact ⟨noLooks, fun j t ht => by
        rw [Tryd.params17] at ht
        have hm : t ∈ [22] := by simpa using Array.mem_of_getElem? ht
        have hall : ([22].all fun u => !Tryd.prog.wantsStandIn u) = true := by kernel_rfl
        exact (show Tryd.prog.wantsStandIn t = false by simpa using List.all_eq_true.1 hall t hm)⟩)
    (by kernel_rfl)
theorem proved : Rows.FnRoundsAllCardSaid := carded
end FnRoundsAll
end Go.Proofs.YtcdoopccmljaoaaDoor
