/- The reference's RoundsAll. No conditions but bounds on lengths. -/
import Derived.Test.YtcdoopccmljaoaaDoorRoundsImpl
namespace Go.Proofs.YtcdoopccmljaoaaDoor
open Go.ChangeShapes Go.WideShapes Go.ChangeAt Go.RowKit Go.Deep
/-- Rows of numbers of the call's own. -/
def ListsRd (w : World) (zss : List (List Int)) (e : Ending) (w' : World) : Prop :=
  ∃ A c ts, e = .returned (.slice A zss.length c) ∧ brs ts = zss ∧ Own w' w.heap.size 45 A (bvs ts) ∧ Bxs w' w.heap.size ts ∧ Below w.heap.size w w'
theorem listsRd_nil {w w' : World} {A : Option Addr} {c : Nat} (hb : Below w.heap.size w w') : ListsRd w [] (.returned (.slice A 0 c)) w' := ⟨A, c, [], rfl, rfl, .inl rfl, Bxs.nil _ _, hb⟩
/-- The boxes of the reference's rounds: the jump, the sheets left, the rounds so far. -/
structure RsS (w wr : World) (gJ : Nat) (j k : Int) (V : Value) (rest : List Nat) (v : Value) (ts : List Bx) : Prop where
  jb : Row wr gJ 32 [.int .i64 j, .int .i64 k]
  rl : wr.ownsRow (gJ + 1) 3 1 V rest.length (nc rest)
  ov : wr.ownsRow (gJ + 1) 45 1 v ts.length (bvs ts)
  bx : Bxs wr (gJ + 1) ts
  nv : ∀ t ∈ ts, v.ownBlock ≠ some t.1
  low : Below w.heap.size w wr
  lJ : w.heap.size ≤ gJ
section
variable {w wr w' : World} {gJ : Nat} {j k : Int} {rest rest' : List Nat} {V V' v v' : Value} {ts : List Bx}
theorem RsS.up (h : RsS w wr gJ j k V rest v ts) (hb : Below wr.heap.size wr w') : RsS w w' gJ j k V rest v ts :=
  ⟨h.jb.after hb, owns_below h.rl hb, owns_below h.ov hb, h.bx.up hb, h.nv, via h.low hb h.low.size, h.lJ⟩
theorem RsS.jc (h : RsS w wr gJ j k V rest v ts) : wr.cell? ⟨gJ, 0, none⟩ = some (.int .i64 j) ∧ wr.cell? ⟨gJ, 1, none⟩ = some (.int .i64 k) := ⟨h.jb.cell (j := 0) (by simp), h.jb.cell (j := 1) (by simp)⟩
theorem Rd.nat {w : World} {B : Nat} {A : Option Addr} {l : List Nat} (h : Rd w B A (nc l)) {q : Nat} (hq : q < l.length) : ∃ b o, A = some ⟨b, o, none⟩ ∧ b < B ∧ w.cell? ⟨b, o + q, none⟩ = some (.int .i64 (l[q] : Int)) := by
  obtain ⟨b, o, hA, hb, hc⟩ := h.at (k := q) (by rw [nc_len]; exact hq)
  have := hc q (by rw [nc_len]; exact hq)
  rw [nc_get hq, List.getD_eq_getElem?_getD, List.getElem?_eq_getElem hq] at this
  exact ⟨b, o, hA, hb, this⟩
theorem RsS.app (h : RsS w wr gJ j k V rest v ts) (hl : wr.ownsRow (gJ + 1) 3 1 V' rest'.length (nc rest')) (hV : ∀ b, V'.ownBlock = some b → v.ownBlock ≠ some b) {gr c : Nat} {r : List Int} (hr : Row wr gr 3 (ic r)) (h1 : gJ < gr) (h3 : ∀ b, v.ownBlock = some b → b < gr)
    (hap : AppdAt wr w' (gJ + 1) 45 1 v v' ts.length 1 (bvs ts) [bv (gr, c, r)]) : RsS w w' gJ j k V' rest' v' (ts ++ [(gr, c, r)]) := by
  obtain ⟨ha, hb⟩ := hap
  have hg := ha.2.1
  have hJ := h.jb.lt; have k1 := h.lJ; have hR := hr.lt
  have hne : some gJ ≠ v.ownBlock := fun e => by have := (h.ov.lt gJ e.symm).1; omega
  refine ⟨h.jb.kept hg hne, owns_grown hl hg hV, ?_, ?_, ?_, h.low.trans ((ha.below h.ov (by omega)).mono (by omega)), k1⟩
  · rw [bvs_snoc, List.length_append]; exact ha.1
  · intro t ht
    rw [List.mem_append, List.mem_singleton] at ht
    rcases ht with ht | rfl
    · exact ⟨(h.bx t ht).1, (h.bx t ht).2.kept hg (fun e => h.nv t ht e.symm)⟩
    · exact ⟨h1, hr.kept hg (fun e => by have := h3 gr e.symm; omega)⟩
  · intro t ht e
    rw [List.mem_append, List.mem_singleton] at ht
    rcases hb with hb | hb
    · rw [hb] at e
      rcases ht with ht | rfl
      · exact h.nv t ht e
      · have := h3 _ e; simp only at this; omega
    · rw [hb] at e
      injection e with e
      rcases ht with ht | rfl
      · have := (h.bx t ht).2.lt; omega
      · simp only at e; omega
end
theorem owns_mono {w : World} {B B' n size : Nat} {e : TypeId} {v : Value} {xs : List Value} (h : w.ownsRow B e size v n xs) (hB : B' ≤ B) : w.ownsRow B' e size v n xs := by
  obtain ⟨hl, h⟩ := h
  refine ⟨hl, ?_⟩
  rcases h with h | ⟨g, cap, cur, h1, h2, h3⟩
  · exact .inl h
  · exact .inr ⟨g, cap, cur, h1, Nat.le_trans hB h2, h3⟩
theorem sc_snocR (zs : List (Int × Int)) (s : Int × Int) : sc (zs ++ [s]) = sc zs ++ [.int .i64 s.1, .int .i64 s.2] := by simp [sc]
/-- What is left of the first q sheets. -/
def leftUp (rest R : List Nat) (q : Nat) : List Nat := (rest.take q).filter fun x => decide (x ∉ R)
theorem leftUp_le (rest R : List Nat) (q : Nat) : (leftUp rest R q).length ≤ q := Nat.le_trans (List.length_filter_le _ _) (by rw [List.length_take]; omega)
theorem leftUp_in {rest R : List Nat} {q : Nat} (h : q < rest.length) (hx : rest[q] ∈ R) : leftUp rest R (q + 1) = leftUp rest R q := by
  unfold leftUp
  rw [List.take_succ_eq_append_getElem h, List.filter_append]
  simp [hx]
theorem leftUp_out {rest R : List Nat} {q : Nat} (h : q < rest.length) (hx : rest[q] ∉ R) : leftUp rest R (q + 1) = leftUp rest R q ++ [rest[q]] := by
  unfold leftUp
  rw [List.take_succ_eq_append_getElem h, List.filter_append]
  simp [hx]
theorem leftUp_all (rest R : List Nat) : leftUp rest R rest.length = rest.filter fun x => decide (x ∉ R) := by unfold leftUp; rw [List.take_length]
set_option linter.unusedSimpArgs false in
set_option linter.unusedVariables false in
set_option maxHeartbeats 4000000 in
set_option maxRecDepth 100000 in
theorem roundsAll_spec (A : Option Addr) (c : Nat) (zs : List (Int × Int)) (j k : Int) (w : World) (hz : zs.length ≤ 1099511627776) (hr : Rd w w.heap.size A (sc zs)) :
    Calls Tryd.prog 67 #[.slice A zs.length c, .agg #[.int .i64 j, .int .i64 k]] w (ListsRd w (roundsAll zs j k)) := by
  go_enter Tryd.func67, Tryd.ntmps67
  have q0 := (Row.new w 32 #[.int .i64 j, .int .i64 k]).alloc (.cells #[] 45)
  have oE := own_empty (e := 45) (size := 1) (w.alloc (.cells #[.int .i64 j, .int .i64 k] 32)) (w.heap.size + 1) (by simp)
  have b0 : Below w.heap.size w ((w.alloc (.cells #[.int .i64 j, .int .i64 k] 32)).alloc (.cells #[] 45)) := by go_grown
  have n0 : (w.alloc (.cells #[.int .i64 j, .int .i64 k] 32)).heap.size = w.heap.size + 1 := by simp
  rw [n0] at oE
  go_wp2_with fail
  generalize (w.alloc (.cells #[.int .i64 j, .int .i64 k] 32)).alloc (.cells #[] 45) = w0 at *
  refine (sheetsValid_spec A c zs w0 hz (hr.up b0)).mono ?_
  rintro e w1 ⟨rfl, b1⟩
  replace q0 := q0.after b1
  replace oE := owns_below oE b1
  replace b0 := via b0 b1 b0.size
  clear b1
  have m0 := q0.cell (j := 0) (by simp)
  have m1 := q0.cell (j := 1) (by simp)
  simp only [List.getElem_cons_zero, List.getElem_cons_succ] at m0 m1
  cases hv : sheetsValid zs
  · have hno := hide (all_no (j := j) (k := k) (.inl hv))
    clear hv
    go_wp2
    go_ret
    rw [hno.out]
    exact listsRd_nil b0
  · cases hj : jumpValid j k
    · have hno := hide (all_no (zs := zs) (.inr hj))
      clear hv
      go_wp2_with fail
      refine (jumpValid_spec j k w1).mono ?_
      rw [hj]
      rintro e w2 ⟨rfl, hw2⟩
      have b2 : Below w1.heap.size w1 w2 := by rw [← hw2]; go_grown
      have bb := via b0 b2 b0.size
      clear hj hw2
      go_wp2
      go_ret
      rw [hno.out]
      exact listsRd_nil bb
    · have h9 := sheets_nine hv
      have hyes := hide (all_yes hv hj)
      have hJ := hide hj
      have hV := hide hv
      go_wp2_with fail
      refine (jumpValid_spec j k w1).mono ?_
      rw [hj]
      rintro e w2 ⟨rfl, hw2⟩
      have b2 : Below w1.heap.size w1 w2 := by rw [← hw2]; go_grown
      replace q0 := q0.after b2
      replace oE := owns_below oE b2
      replace b0 := via b0 b2 b0.size
      clear hw2 b2 m0 m1 hj hv
      go_wp2_with fail
      have hz0 := b0.size
      have hq0 := q0.lt
      have S : RsS w w2 w.heap.size j k (.slice none 0 0) [] (.slice (some ⟨w.heap.size + 1, 0, none⟩) 0 0) [] := ⟨q0, World.ownsRow_nil _ _ _ _, oE, Bxs.nil _ _, (fun t h => by cases h), b0, Nat.le_refl _⟩
      have bI : Below w2.heap.size w2 (w2.alloc (.cells #[] 3)) := by go_grown
      have oI := own_empty (e := 3) (size := 1) w2 w2.heap.size (Nat.le_refl _)
      generalize w2.alloc (.cells #[] 3) = w3 at *
      clear q0 b0 oE
      go_loopw [6, 7] (fun v i wr => ∃ q : Nat, q ≤ zs.length ∧ i = .int .i64 q ∧ wr.ownsRow w2.heap.size 3 1 v q (nc (List.range q)) ∧ Below w2.heap.size w2 wr) (fun _ i _ => zs.length - (intOf i).toNat)
      case atStart => exact ⟨0, Nat.zero_le _, rfl, oI, bI⟩
      case round =>
        clear oI bI
        obtain ⟨q, hq, rfl, oI, bI⟩ := hrel
        have hzI := bI.size
        by_cases hlt : q < zs.length
        · have bA : Below wr.heap.size wr (wr.alloc (.cells #[.int .i64 (q : Int)] 3)) := by go_grown
          have oA := owns_below oI bA
          have rA := (Row.new wr 3 #[.int .i64 (q : Int)]).rd
          have hsn : nc (List.range q) ++ ic [(q : Int)] = nc (List.range (q + 1)) := by rw [List.range_succ]; exact (nc_snoc _ _).symm
          have hzA : w2.heap.size ≤ (wr.alloc (.cells #[.int .i64 (q : Int)] 3)).heap.size := by simp; omega
          have bS := via bI bA hzI
          have hsn := hide hsn
          clear bA oI bI
          go_wp2_with (at_builtin; refine wpList_append_any intElem rfl _ _ rfl w2.heap.size (wr.heap.size + 1) _ q (nc (List.range q)) rfl oA (some ⟨wr.heap.size, 0, none⟩) 1 1 rfl (ic [(q : Int)]) rfl (rA.mono (by simp)) (fun h => by cases h) (ic_one _) (by omega) (by omega) hzA ?_; intro v9 w9 hap; have o9 := hap.1; have b9 := bS.trans (hap.below oA hzA); clear hap)
          rw [hsn.out] at o9
          go_roundw
          case rel => exact ⟨q + 1, by omega, by go_num, o9, b9⟩
          case measure => first | (simp [intOf]; done) | (simp [intOf]; omega)
        · obtain rfl : q = zs.length := by omega
          have S1 := S.up bI
          have hzw := S.low.size
          have hJw := S.jb.lt
          have S1 : RsS w wr w.heap.size j k _ (List.range zs.length) (.slice (some ⟨w.heap.size + 1, 0, none⟩) 0 0) [] := { S1 with rl := by rw [List.length_range]; exact owns_mono oI (by omega) }
          have hA : Hid (Asc zs (List.range zs.length)) := hide (asc_range zs)
          clear S oI bI
          obtain ⟨R0, c0, hv0, _, _, _, _⟩ := own_room2 S1.rl
          subst hv0
          go_wp2_with fail
          go_loopw [5, 6] (fun v l wr => ∃ (f : Nat) (rest : List Nat) (ts : List Bx) (R : Option Addr) (cR : Nat), l = .slice R rest.length cR ∧ Hid (roundsAll zs j k = brs ts ++ (allN zs j k f rest).map asInt) ∧ Hid (Asc zs rest) ∧ rest.length ≤ f ∧ f ≤ zs.length ∧ ts.length + f ≤ zs.length ∧ RsS w wr w.heap.size j k (.slice R rest.length cR) rest v ts) (fun _ l _ => sliceLen l)
          case atStart => exact ⟨zs.length, List.range zs.length, [], R0, c0, rfl, hyes, hA, by rw [List.length_range]; exact Nat.le_refl _, Nat.le_refl _, by simp, S1⟩
          case round =>
            clear S1 hA hyes
            obtain ⟨f, rest, ts, R, cR, rfl, HR, HA, hf, hfz, htf, S⟩ := hrel
            by_cases hlr : rest.length = 0
            · have hy := HR.out
              rw [List.eq_nil_of_length_eq_zero hlr, allN_nil, List.map_nil, List.append_nil] at hy
              have hy := hide hy
              have hl0 : ts.length = (roundsAll zs j k).length := by rw [hy.out, brs_len]
              obtain ⟨A0, c0, hv0, oO, _, _, _⟩ := own_room2 S.ov
              have hlow := S.low
              have hbx := S.bx
              subst hv0
              have t0 : decide ((rest.length : Int) > 0) = false := decide_eq_false (by omega)
              have t1 : decide (0 < (rest.length : Int)) = false := t0
              clear S HR HA
              go_wp2
              go_ret
              exact ⟨A0, c0, ts, by rw [← hl0]; rfl, hy.out.symm, oO.mono (by omega), hbx.mono (by omega), hlow⟩
            · have hne : rest ≠ [] := fun e => hlr (by rw [e]; rfl)
              obtain ⟨f, rfl⟩ : ∃ f', f = f' + 1 := ⟨f - 1, by omega⟩
              have hst := allN_step (zs := zs) (j := j) (k := k) (f := f) hne
              have HR1 : Hid (roundsAll zs j k = brs ts ++ (roundOf zs j k rest :: allN zs j k f (leftOf zs j k rest)).map asInt) := hide (by rw [← hst]; exact HR.out)
              have HA1 : Hid (Asc zs (leftOf zs j k rest)) := hide (left_asc HA.out)
              have hless := left_less (j := j) (k := k) HA.out hne
              have hpv := pick_valid hV.out HA.out (by omega)
              have hps := pick_len (zs := zs) rest
              have hbest := best_yes (j := j) (k := k) hpv hJ.out
              have hbin : ∀ b ∈ bestIx (pickSh zs rest) j k, b < rest.length := fun b h => best_in h
              have hbne := best_some (zs := zs) (j := j) (k := k) hne
              have hble := best_le (pickSh zs rest) j k
              have hround : Hid (roundOf zs j k rest = (bestIx (pickSh zs rest) j k).map fun b => rest.getD b 0) := hide rfl
              have hrx : Hid (∀ x ∈ rest, x < zs.length) := hide HA.out.2
              have hpg : Hid (∀ q (h : q < rest.length) (h' : q < (pickSh zs rest).length), (pickSh zs rest)[q] = sh zs rest[q]) := hide fun q h _ => pick_get h
              rw [hps] at hble
              generalize bestIx (pickSh zs rest) j k = bst at *
              generalize pickSh zs rest = ps at *
              have t0 : decide ((rest.length : Int) > 0) = true := decide_eq_true (by omega)
              have t1 : decide (0 < (rest.length : Int)) = true := t0
              obtain ⟨wo1, rfl⟩ : ∃ wo : World, wo = wr := ⟨_, rfl⟩
              have bS : Below wo1.heap.size wo1 (wo1.alloc (.cells #[] 24)) := by go_grown
              have oS := own_empty (e := 24) (size := 2) wo1 wo1.heap.size (Nat.le_refl _)
              have hpv := hide hpv
              have hbest := hide hbest
              have hbin := hide hbin
              have hbne := hide hbne
              clear HR HA hst hne
              go_wp2_with fail
              generalize wo1.alloc (.cells #[] 24) = w4 at *
              go_loopw [8, 9] (fun v i wx => ∃ q : Nat, q ≤ rest.length ∧ i = .int .i64 q ∧ wx.ownsRow wo1.heap.size 24 2 v q (sc (ps.take q)) ∧ Below wo1.heap.size wo1 wx) (fun _ i _ => rest.length - (intOf i).toNat)
              case atStart => exact ⟨0, Nat.zero_le _, rfl, oS, bS⟩
              case round =>
                clear oS bS
                obtain ⟨q, hq, rfl, oS, bS⟩ := hrel
                have hzS := bS.size
                by_cases hlt : q < rest.length
                · have S1 := S.up bS
                  obtain ⟨R0, c0, hv0, oR, _, _, _⟩ := own_room2 S1.rl
                  obtain ⟨rfl, rfl⟩ : R = R0 ∧ cR = c0 := by injection hv0 with e1 e2 e3; exact ⟨e1, e3⟩
                  obtain ⟨bR, ofR, rfl, _, c1⟩ := oR.rd.nat hlt
                  have hx := hrx.out rest[q] (List.getElem_mem hlt)
                  obtain ⟨b, o, hA, hb, hc1, hc2⟩ := hr.sheet hx
                  subst hA
                  have c2 := later S1.low (p := ⟨b, o + rest[q] * 2, none⟩) hb hc1
                  have c3 := later S1.low (p := ⟨b, o + rest[q] * 2 + 1, none⟩) hb hc2
                  have hqp : q < ps.length := by omega
                  have hpq := hpg.out q hlt hqp
                  have hsn : sc (ps.take q) ++ [.int .i64 (sh zs rest[q]).1, .int .i64 (sh zs rest[q]).2] = sc (ps.take (q + 1)) := by rw [List.take_succ_eq_append_getElem hqp, sc_snocR, hpq]
                  have hsn := hide hsn
                  have i0 : (0 : Int) ≤ (q : Int) := by omega
                  have i1 : (q : Int) < (rest.length : Int) := by omega
                  have i2 : (0 : Int) ≤ (rest[q] : Int) := by omega
                  have i3 : (rest[q] : Int) < (zs.length : Int) := by omega
                  clear S1 hc1 hc2 hpq oR hv0
                  generalize rest[q] = x at *
                  generalize (sh zs x).1 = x1 at *
                  generalize (sh zs x).2 = x2 at *
                  have bA : Below wr.heap.size wr (wr.alloc (.cells #[.int .i64 x1, .int .i64 x2] 24)) := by go_grown
                  have oA := owns_below oS bA
                  have rA := (Row.new wr 24 #[.int .i64 x1, .int .i64 x2]).rd
                  have hzA : wo1.heap.size ≤ (wr.alloc (.cells #[.int .i64 x1, .int .i64 x2] 24)).heap.size := by simp; omega
                  have bS1 := via bS bA hzS
                  clear bA oS bS
                  go_wp2_with (at_builtin; refine wpList_append_any sheetElem rfl _ _ rfl wo1.heap.size (wr.heap.size + 1) _ q (sc (ps.take q)) rfl oA (some ⟨wr.heap.size, 0, none⟩) 1 1 rfl [.int .i64 x1, .int .i64 x2] rfl (rA.mono (by simp)) (fun h => by cases h) (sc_one [(x1, x2)]) (by omega) (by omega) hzA ?_; intro v9 w9 hap; have o9 := hap.1; have b9 := bS1.trans (hap.below oA hzA); clear hap)
                  rw [hsn.out] at o9
                  go_roundw
                  case rel => first | exact ⟨q + 1, by omega, by go_num, o9⟩ | exact ⟨q + 1, by omega, by go_num, o9, b9⟩
                  case measure => first | (simp [intOf]; done) | (simp [intOf]; omega)
                · obtain rfl : q = rest.length := by omega
                  rw [List.take_of_length_le (by omega)] at oS
                  obtain ⟨P, cP, hvP, oP, _, _, _⟩ := own_room2 oS
                  subst hvP
                  have S1 := S.up bS
                  obtain ⟨m0, m1⟩ := S1.jc
                  have HB := roundBest_spec P cP ps j k wr (by omega) oP.rd
                  rw [hps, hbest.out] at HB
                  have hoS := S.ov
                  clear oS oP
                  go_wp2_with fail
                  refine HB.mono ?_
                  rintro e w4 ⟨I, ci, rfl, oI, b4, hroom⟩
                  have b5 := via bS b4 bS.size
                  have hz5 := b5.size
                  rw [List.length_map] at hroom ⊢
                  obtain ⟨gB, rfl, _, rB⟩ := oI.row (by intro e; have := congrArg List.length e; rw [ic_len, List.length_map] at this; exact hbne.out (List.eq_nil_of_length_eq_zero this))
                  have bG : Below w4.heap.size w4 ((w4.alloc (.cells #[] 3)).alloc (.cells #[] 3)) := by go_grown
                  have oG := owns_below (own_empty (e := 3) (size := 1) w4 w4.heap.size (Nat.le_refl _)) ((Below.refl _ (w4.alloc (.cells #[] 3))).alloc (Nat.le_refl _) (.cells #[] 3))
                  have oH := own_empty (e := 3) (size := 1) (w4.alloc (.cells #[] 3)) w4.heap.size (by simp)
                  have n4 : (w4.alloc (.cells #[] 3)).heap.size = w4.heap.size + 1 := by simp
                  rw [n4] at oH
                  clear HB bS m0 m1 S1 b4 oI
                  go_wp2_with fail
                  generalize (w4.alloc (.cells #[] 3)).alloc (.cells #[] 3) = w8 at *
                  go_loopw [11, 13] (fun v i wx => ∃ q : Nat, q ≤ bst.length ∧ i = .int .i64 q ∧ wx.ownsRow w4.heap.size 3 1 v q (nc ((bst.take q).map fun b => rest.getD b 0)) ∧ wx.ownsRow w4.heap.size 3 1 (.slice (some ⟨w4.heap.size + 1, 0, none⟩) 0 0) 0 [] ∧ v.ownBlock ≠ some (w4.heap.size + 1) ∧ Below w4.heap.size w4 wx) (fun _ i _ => bst.length - (intOf i).toNat)
                  case atStart => exact ⟨0, Nat.zero_le _, rfl, oG, oH, by intro e; have := Option.some.inj (show some w4.heap.size = some (w4.heap.size + 1) from e); omega, bG⟩
                  case round =>
                    clear oG oH bG
                    obtain ⟨q, hq, rfl, oG, oH, hvG, bG⟩ := hrel
                    have hzG := bG.size
                    have hH1 : w4.heap.size + 1 < wr.heap.size := (oH.lt _ rfl).2
                    have S1 := S.up (via b5 bG hz5)
                    obtain ⟨R0, c0, hv0, oR, _, _, _⟩ := own_room2 S1.rl
                    obtain ⟨rfl, rfl⟩ : R = R0 ∧ cR = c0 := by injection hv0 with e1 e2 e3; exact ⟨e1, e3⟩
                    by_cases hlt : q < bst.length
                    · have hbr := hbin.out bst[q] (List.getElem_mem hlt)
                      obtain ⟨bR, ofR, rfl, _, c2⟩ := oR.rd.nat hbr
                      have c1 := (rB.after bG).cell (j := q) (by rw [ic_len, List.length_map]; exact hlt)
                      rw [ic_get _ _ (by rw [List.length_map]; exact hlt), List.getElem_map] at c1
                      have hgd : rest.getD bst[q] 0 = rest[bst[q]] := by rw [List.getD_eq_getElem?_getD, List.getElem?_eq_getElem hbr]; rfl
                      have hsn : nc ((bst.take q).map fun b => rest.getD b 0) ++ ic [(rest[bst[q]] : Int)] = nc ((bst.take (q + 1)).map fun b => rest.getD b 0) := by
                        rw [List.take_succ_eq_append_getElem hlt, List.map_append, List.map_cons, List.map_nil, hgd]; exact (nc_snoc _ _).symm
                      have hsn := hide hsn
                      have i0 : (0 : Int) ≤ (q : Int) := by omega
                      have i1 : (q : Int) < (bst.length : Int) := by omega
                      have i2 : (0 : Int) ≤ (bst[q] : Int) := by omega
                      have i3 : (bst[q] : Int) < (rest.length : Int) := by omega
                      clear S1 oR hv0 hgd
                      generalize rest[bst[q]] = x at *
                      generalize bst[q] = y at *
                      have bA : Below wr.heap.size wr (wr.alloc (.cells #[.int .i64 (x : Int)] 3)) := by go_grown
                      have oA := owns_below oG bA
                      have oHA := owns_below oH bA
                      have rA := (Row.new wr 3 #[.int .i64 (x : Int)]).rd
                      have hzA : w4.heap.size + 1 < (wr.alloc (.cells #[.int .i64 (x : Int)] 3)).heap.size := by simp; omega
                      have bS1 := via bG bA hzG
                      have hvH := hide hvG
                      clear bA oG oH bG hvG
                      go_wp2_with (at_builtin; refine wpList_append_at intElem rfl _ _ rfl w4.heap.size (wr.heap.size + 1) _ q (nc ((bst.take q).map fun b => rest.getD b 0)) rfl oA ⟨wr.heap.size, 0, none⟩ 1 1 rfl (ic [(x : Int)]) rfl (rA.mono (by simp)) (ic_one _) (by omega) (by omega) (by omega) ?_; intro v9 w9 hap; have o9 := hap.1.1; have b9 := bS1.trans (hap.1.below oA (by omega)); have oH9 := owns_grown oHA hap.1.2.1 (fun b e e' => by cases e; exact hvH.out e'); have hv9 : Hid (v9.ownBlock ≠ some (w4.heap.size + 1)) := hide (fun e => hap.2.elim (fun h => hvH.out (h ▸ e)) (fun h => by have := Option.some.inj (h.symm.trans e); omega)); clear hap)
                      rw [hsn.out] at o9
                      go_roundw
                      case rel => exact ⟨q + 1, by omega, by go_num, o9, oH9, hv9.out, b9⟩
                      case measure => first | (simp [intOf]; done) | (simp [intOf]; omega)
                    · obtain rfl : q = bst.length := by omega
                      rw [List.take_length, ← hround.out] at oG
                      have hlr2 : (roundOf zs j k rest).length = bst.length := by rw [hround.out, List.length_map]
                      have hRne : roundOf zs j k rest ≠ [] := fun e => hbne.out (List.eq_nil_of_length_eq_zero (by rw [← hlr2, e]; rfl))
                      have HLO : Hid (leftOf zs j k rest = leftUp rest (roundOf zs j k rest) rest.length) := hide (leftUp_all _ _).symm
                      obtain ⟨AR, cr, hvR, oR', hcr, _, _⟩ := own_room2 oG
                      subst hvR
                      obtain ⟨gr, rfl, hgr, rr⟩ := oR'.row (by intro e; have := congrArg List.length e; rw [nc_len] at this; exact hRne (List.eq_nil_of_length_eq_zero this))
                      have hgr1 : gr ≠ w4.heap.size + 1 := fun e => hvG (by rw [e]; rfl)
                      have HRn : Hid (roundsAll zs j k = brs (ts ++ [(gr, cr, asInt (roundOf zs j k rest))]) ++ (allN zs j k f (leftOf zs j k rest)).map asInt) := hide (by rw [HR1.out, brs_snoc, List.map_cons, List.append_assoc]; rfl)
                      have ebv : bv (gr, cr, asInt (roundOf zs j k rest)) = .slice (some ⟨gr, 0, none⟩) bst.length cr := by unfold bv; simp only [asInt_len, hlr2]
                      have ebv := hide ebv
                      have hlr2 := hide hlr2
                      generalize roundOf zs j k rest = RR at *
                      clear oG oR' S1 oR hv0 hvG hround HR1 rB hRne
                      go_wp2_with fail
                      obtain ⟨wo2, rfl⟩ : ∃ wo : World, wo = wr := ⟨_, rfl⟩
                      go_loopw [12, 14] (fun v i wx => ∃ q : Nat, q ≤ rest.length ∧ i = .int .i64 q ∧ wx.ownsRow w4.heap.size 3 1 v (leftUp rest RR q).length (nc (leftUp rest RR q)) ∧ Row wx gr 3 (nc RR) ∧ v.ownBlock ≠ some gr ∧ Below w4.heap.size w4 wx) (fun _ i _ => rest.length - (intOf i).toNat)
                      case atStart => exact ⟨0, Nat.zero_le _, rfl, oH, rr, by intro e; have := Option.some.inj (show some (w4.heap.size + 1) = some gr from e); omega, bG⟩
                      case round =>
                        clear oH rr bG
                        obtain ⟨q, hq, rfl, oH, rr, hvG, bG⟩ := hrel
                        have hzG := bG.size
                        have hR1 := rr.lt
                        have S1 := S.up (via b5 bG hz5)
                        obtain ⟨R0, c0, hv0, oR, _, _, _⟩ := own_room2 S1.rl
                        obtain ⟨rfl, rfl⟩ : R = R0 ∧ cR = c0 := by injection hv0 with e1 e2 e3; exact ⟨e1, e3⟩
                        by_cases hlt : q < rest.length
                        · obtain ⟨bR, ofR, rfl, _, c2⟩ := oR.rd.nat hlt
                          have i0 : (0 : Int) ≤ (q : Int) := by omega
                          have i1 : (q : Int) < (rest.length : Int) := by omega
                          have HAS := has_at (some ⟨gr, 0, none⟩) cr bst.length (asInt RR) (rest[q] : Int) wr (by rw [asInt_len, hlr2.out]) (by omega) rr.rd
                          by_cases hm : rest[q] ∈ RR
                          · have hup := hide (leftUp_in hlt hm)
                            rw [decide_eq_true (mem_asInt.2 hm)] at HAS
                            have HAS := hide HAS
                            clear S1 oR hv0 hm
                            generalize rest[q] = x at *
                            go_wp2_with fail
                            refine HAS.out.mono ?_
                            rintro e w' ⟨rfl, rfl⟩
                            go_wp2_with fail
                            go_roundw
                            case rel => exact ⟨q + 1, by omega, by go_num, by rw [hup.out]; exact oH, rr, hvG, bG⟩
                            case measure => first | (simp [intOf]; done) | (simp [intOf]; omega)
                          · have hup := leftUp_out hlt hm
                            have hsn : nc (leftUp rest RR q) ++ ic [(rest[q] : Int)] = nc (leftUp rest RR (q + 1)) := by rw [hup]; exact (nc_snoc _ _).symm
                            have hsl : (leftUp rest RR q).length + 1 = (leftUp rest RR (q + 1)).length := by rw [hup, List.length_append]; rfl
                            have hsn := hide hsn
                            have hsl := hide hsl
                            have hle := leftUp_le rest RR q
                            rw [decide_eq_false (fun h => hm (mem_asInt.1 h))] at HAS
                            have HAS := hide HAS
                            clear S1 oR hv0 hm hup
                            generalize rest[q] = x at *
                            have bA : Below wr.heap.size wr (wr.alloc (.cells #[.int .i64 (x : Int)] 3)) := by go_grown
                            have oA := owns_below oH bA
                            have rrA := rr.after bA
                            have rA := (Row.new wr 3 #[.int .i64 (x : Int)]).rd
                            have hzA : w4.heap.size + 1 < (wr.alloc (.cells #[.int .i64 (x : Int)] 3)).heap.size := by simp; omega
                            have hrA := rrA.lt
                            have bS1 := via bG bA hzG
                            have hvH := hide hvG
                            clear bA oH bG hvG rr
                            go_wp2_with fail
                            refine HAS.out.mono ?_
                            rintro e w' ⟨rfl, rfl⟩
                            go_wp2_with (at_builtin; refine wpList_append_at intElem rfl _ _ rfl w4.heap.size (wr.heap.size + 1) _ (leftUp rest RR q).length (nc (leftUp rest RR q)) rfl oA ⟨wr.heap.size, 0, none⟩ 1 1 rfl (ic [(x : Int)]) rfl (rA.mono (by simp)) (ic_one _) (by omega) (by omega) (by omega) ?_; intro v9 w9 hap; have o9 := hap.1.1; have b9 := bS1.trans (hap.1.below oA (by omega)); have r9 := rrA.kept hap.1.2.1 (fun e => hvH.out e.symm); have hv9 : Hid (v9.ownBlock ≠ some gr) := hide (fun e => hap.2.elim (fun h => hvH.out (h ▸ e)) (fun h => by have := Option.some.inj (h.symm.trans e); omega)); clear hap)
                            rw [hsn.out, hsl.out] at o9
                            go_roundw
                            case rel => exact ⟨q + 1, by omega, by go_num, o9, r9, hv9.out, b9⟩
                            case measure => first | (simp [intOf]; done) | (simp [intOf]; omega)
                        · obtain rfl : q = rest.length := by omega
                          rw [← HLO.out] at oH
                          have bA : Below wr.heap.size wr (wr.alloc (.cells #[.slice (some ⟨gr, 0, none⟩) bst.length cr] 45)) := by go_grown
                          have SA := S1.up bA
                          have oA := owns_below oH bA
                          have rrA := rr.after bA
                          have rA : Rd (wr.alloc (.cells #[.slice (some ⟨gr, 0, none⟩) bst.length cr] 45)) (wr.heap.size + 1) (some ⟨wr.heap.size, 0, none⟩) [bv (gr, cr, asInt RR)] := by
                            rw [ebv.out]
                            exact (Row.new wr 45 #[.slice (some ⟨gr, 0, none⟩) bst.length cr]).rd.mono (by simp)
                          have hJw := SA.jb.lt
                          have hzS := S.jb.lt
                          have hVb : Hid (∀ b, u12.ownBlock = some b → u5.ownBlock ≠ some b) := hide (fun b e e' => by have := (oH.lt b e).1; have := (hoS.lt b e').2; omega)
                          have hvb : Hid (∀ b, u5.ownBlock = some b → b < gr) := hide (fun b e => by have := (hoS.lt b e).2; omega)
                          obtain ⟨L, cL, hvL, _, _, _, _⟩ := own_room2 oA
                          subst hvL
                          have hzA : w.heap.size + 1 ≤ (wr.alloc (.cells #[.slice (some ⟨gr, 0, none⟩) bst.length cr] 45)).heap.size := by omega
                          have oA1 := owns_mono (B' := w.heap.size + 1) oA (by omega)
                          clear S1 oR hv0 oH rr bA bG hvG oA hlr2 HLO
                          go_wp2_with (at_builtin; refine wpList_append_at listElem rfl _ _ rfl (w.heap.size + 1) (wr.heap.size + 1) _ ts.length (bvs ts) rfl SA.ov ⟨wr.heap.size, 0, none⟩ 1 1 rfl [bv (gr, cr, asInt RR)] rfl rA (bvs_one [(gr, cr, asInt RR)]) (by omega) (by omega) hzA ?_; intro v9 w10 hap; have S10 := SA.app (c := cr) oA1 hVb.out rrA (by omega) hvb.out hap; clear hap)
                          go_roundw
                          case rel => exact ⟨f, leftOf zs j k rest, _, L, cL, rfl, HRn, HA1, by omega, by omega, by rw [List.length_append, List.length_singleton]; omega, S10⟩
                          case measure => first | (simp [sliceLen]; done) | (simp [sliceLen]; omega)
end Go.Proofs.YtcdoopccmljaoaaDoor
