/- The program's RoundsAll. No conditions but bounds on lengths. -/
import Derived.Test.YtcdoopccmljaoaaDoorRoundRows
namespace Go.Proofs.YtcdoopccmljaoaaDoor
open Go.ChangeShapes Go.WideShapes Go.ChangeAt Go.RowKit Go.Deep
def sliceLen : Value → Nat
  | .slice _ n _ => n
  | _ => 0
/-- The boxes of the program's rounds: the jump, the sheets left, the rounds so far. -/
structure RaS (w wr : World) (gJ gL : Nat) (j k : Int) (rest : List Nat) (v : Value) (ts : List Bx) : Prop where
  jb : Row wr gJ 32 [.int .i64 j, .int .i64 k]
  rl : Row wr gL 3 (nc rest)
  ov : wr.ownsRow (gL + 1) 45 1 v ts.length (bvs ts)
  bx : Bxs wr (gL + 1) ts
  nd : (ts.map (·.1)).Nodup
  nv : ∀ t ∈ ts, v.ownBlock ≠ some t.1
  rm : ∀ t ∈ ts, t.2.2.length ≤ t.2.1
  low : Below w.heap.size w wr
  lJ : w.heap.size ≤ gJ
  lL : gJ < gL
section
variable {w wr w' : World} {gJ gL : Nat} {j k : Int} {rest rest' : List Nat} {v v' : Value} {ts : List Bx}
theorem RaS.up (h : RaS w wr gJ gL j k rest v ts) (hb : Below wr.heap.size wr w') : RaS w w' gJ gL j k rest v ts :=
  ⟨h.jb.after hb, h.rl.after hb, owns_below h.ov hb, h.bx.up hb, h.nd, h.nv, h.rm, via h.low hb h.low.size, h.lJ, h.lL⟩
theorem RaS.jc (h : RaS w wr gJ gL j k rest v ts) : wr.cell? ⟨gJ, 0, none⟩ = some (.int .i64 j) ∧ wr.cell? ⟨gJ, 1, none⟩ = some (.int .i64 k) := ⟨h.jb.cell (j := 0) (by simp), h.jb.cell (j := 1) (by simp)⟩
theorem RaS.get (h : RaS w wr gJ gL j k rest v ts) {q : Nat} (hq : q < rest.length) : wr.cell? ⟨gL, q, none⟩ = some (.int .i64 (rest[q] : Int)) := by
  have := h.rl.cell (j := q) (by rw [nc_len]; exact hq)
  rw [nc_get hq, List.getD_eq_getElem?_getD, List.getElem?_eq_getElem hq] at this
  exact this
theorem RaS.del (h : RaS w wr gJ gL j k rest v ts) (hg : wr.grownBy w' (some gL)) (q : Row w' gL 3 (nc rest')) : RaS w w' gJ gL j k rest' v ts := by
  have h1 := h.lJ; have h2 := h.lL
  exact ⟨h.jb.kept hg (by intro e; injection e with e; omega), q, owns_grown h.ov hg (fun b e e' => by injection e' with e'; have := (h.ov.lt b e).1; omega), h.bx.kept hg (by omega), h.nd, h.nv, h.rm, h.low.grown hg h.low.size (fun k e => by cases e; omega), h1, h2⟩
theorem RaS.app (h : RaS w wr gJ gL j k rest v ts) {gr c : Nat} {r : List Int} (hr : Row wr gr 3 (ic r)) (hrm : r.length ≤ c) (h1 : gL < gr) (h2 : ∀ t ∈ ts, t.1 < gr) (h3 : ∀ b, v.ownBlock = some b → b < gr)
    (hap : AppdAt wr w' (gL + 1) 45 1 v v' ts.length 1 (bvs ts) [bv (gr, c, r)]) : RaS w w' gJ gL j k rest v' (ts ++ [(gr, c, r)]) := by
  obtain ⟨ha, hb⟩ := hap
  have hg := ha.2.1
  have hJ := h.jb.lt; have hL := h.rl.lt; have k1 := h.lJ; have k2 := h.lL; have hR := hr.lt
  have hne : ∀ g, g ≤ gL → some g ≠ v.ownBlock := fun g hg' e => by have := (h.ov.lt g e.symm).1; omega
  refine ⟨h.jb.kept hg (hne _ (by omega)), h.rl.kept hg (hne _ (by omega)), ?_, ?_, ?_, ?_, ?_, h.low.trans ((ha.below h.ov (by omega)).mono (by omega)), k1, k2⟩
  · rw [bvs_snoc, List.length_append]; exact ha.1
  · intro t ht
    rw [List.mem_append, List.mem_singleton] at ht
    rcases ht with ht | rfl
    · exact ⟨(h.bx t ht).1, (h.bx t ht).2.kept hg (fun e => h.nv t ht e.symm)⟩
    · exact ⟨h1, hr.kept hg (fun e => by have := h3 gr e.symm; omega)⟩
  · rw [List.map_append, List.nodup_append]
    refine ⟨h.nd, by simp, fun x hx y hy => ?_⟩
    obtain ⟨t, ht, rfl⟩ := List.mem_map.1 hx
    have := h2 t ht
    simp only [List.map_cons, List.map_nil, List.mem_singleton] at hy
    omega
  · intro t ht e
    rw [List.mem_append, List.mem_singleton] at ht
    rcases hb with hb | hb
    · rw [hb] at e
      rcases ht with ht | rfl
      · exact h.nv t ht e
      · have := h3 _ e; simp only at this; omega
    · rw [hb] at e
      injection e with e
      rcases ht with ht | rfl
      · have := (h.bx t ht).2.lt; omega
      · simp only at e; omega
  · intro t ht
    rw [List.mem_append, List.mem_singleton] at ht
    rcases ht with ht | rfl
    · exact h.rm t ht
    · exact hrm
end
set_option linter.unusedSimpArgs false in
set_option linter.unusedVariables false in
set_option maxHeartbeats 4000000 in
set_option maxRecDepth 100000 in
theorem roundsAll_any (A : Option Addr) (c : Nat) (zs : List (Int × Int)) (j k : Int) (w : World) (hz : zs.length ≤ 1099511627776) (hr : Rd w w.heap.size A (sc zs)) :
    Calls Tryd.prog 65 #[.slice A zs.length c, .agg #[.int .i64 j, .int .i64 k]] w (ListsOk w (roundsAll zs j k)) := by
  obtain ⟨i0, hi, hz0, hz1, hz2⟩ := info_parts sheetInfo
  have hmk2 : ∀ (n : Nat) (W : World), n ≤ 1048576 → (Instr.makeSlice 42 (.int .i64 (n : Int)) (.int .i64 (n : Int))).run Tryd.prog W = .ok (.slice (some ⟨W.heap.size, 0, none⟩) n n) (W.alloc (.cells (madeCells #[.int .i64 0, .int .i64 0] (n * 2)) 24)) := by
    intro n W hn
    have hr := run_make (P := Tryd.prog) W 42 24 i0 (.agg #[.int .i64 0, .int .i64 0]) Tryd.underlying42 hi hz0 .i64 .i64 n n (by omega) (by omega) (by rw [hz2]; omega) (by omega)
    rw [hz1] at hr
    exact hr
  have hmk2 := hide hmk2
  clear hi hz0 hz1 hz2
  go_enter Tryd.func65, Tryd.ntmps65
  have q0 := Row.new w 32 #[.int .i64 j, .int .i64 k]
  have b0 : Below w.heap.size w (w.alloc (.cells #[.int .i64 j, .int .i64 k] 32)) := by go_grown
  go_wp2_with fail
  generalize w.alloc (.cells #[.int .i64 j, .int .i64 k] 32) = w0 at *
  refine (sheetsValid_any A c zs w0 hz (hr.up b0)).mono ?_
  rintro e w1 ⟨rfl, b1⟩
  replace q0 := q0.after b1
  replace b0 := via b0 b1 b0.size
  clear b1
  have m0 := q0.cell (j := 0) (by simp)
  have m1 := q0.cell (j := 1) (by simp)
  simp only [List.getElem_cons_zero, List.getElem_cons_succ] at m0 m1
  cases hv : sheetsValid zs
  · have hno := hide (all_no (j := j) (k := k) (.inl hv))
    clear hv
    go_wp2
    go_ret
    rw [hno.out]
    exact listsOk_nil b0
  · cases hj : jumpValid j k
    · have hno := hide (all_no (zs := zs) (.inr hj))
      clear hv
      go_wp2_with fail
      refine (jumpValid_any j k w1).mono ?_
      rw [hj]
      rintro e w2 ⟨rfl, hw2⟩
      have b2 : Below w1.heap.size w1 w2 := by rw [← hw2]; go_grown
      have bb := via b0 b2 b0.size
      clear hj hw2
      go_wp2
      go_ret
      rw [hno.out]
      exact listsOk_nil bb
    · have h9 := sheets_nine hv
      have hyes := hide (all_yes hv hj)
      have hJ := hide hj
      have hV := hide hv
      have hmk := run_make_row' (P := Tryd.prog) 45 3 (.int .i64 0) 8 Tryd.underlying45 intInfo rfl .i64 .i64 zs.length (by omega) (by omega)
      have ez : (madeCells #[.int .i64 0] zs.length).toList = nc (List.replicate zs.length 0) := by
        rw [toList_madeCells_one]; simp [nc, ic]
      go_wp2_with fail
      refine (jumpValid_any j k w1).mono ?_
      rw [hj]
      rintro e w2 ⟨rfl, hw2⟩
      have b2 : Below w1.heap.size w1 w2 := by rw [← hw2]; go_grown
      replace q0 := q0.after b2
      replace b0 := via b0 b2 b0.size
      clear hw2 b2 m0 m1 hj hv
      go_wp2_with fail
      have hz0 := b0.size
      have hq0 := q0.lt
      have b3 := b0.alloc hz0 (.cells (madeCells #[.int .i64 0] zs.length) 3)
      have q1 := q0.alloc (.cells (madeCells #[.int .i64 0] zs.length) 3)
      have q2 : Row (w2.alloc (.cells (madeCells #[.int .i64 0] zs.length) 3)) w2.heap.size 3 (nc (List.replicate zs.length 0)) := by
        rw [← ez]; exact Row.new _ _ _
      generalize w2.alloc (.cells (madeCells #[.int .i64 0] zs.length) 3) = w3 at *
      generalize w2.heap.size = gL at *
      clear q0 b0 hmk ez
      go_loopw [27] (fun i wr => ∃ q : Nat, q ≤ zs.length ∧ i = .int .i64 q ∧ Row wr w.heap.size 32 [.int .i64 j, .int .i64 k] ∧ Row wr gL 3 (nc (List.range q ++ List.replicate (zs.length - q) 0)) ∧ Below w.heap.size w wr) (fun i _ => zs.length - (intOf i).toNat)
      case atStart => exact ⟨0, Nat.zero_le _, rfl, q1, by simpa using q2, b3⟩
      case round =>
        clear q1 q2 b3
        obtain ⟨q, hq, rfl, q1, q2, b3⟩ := hrel
        by_cases hlt : q < zs.length
        · have hset := hide (range_fill zs.length q hlt)
          have hlen : (List.range q ++ List.replicate (zs.length - q) 0).length = zs.length := by simp; omega
          generalize List.range q ++ List.replicate (zs.length - q) 0 = v at *
          have c1 := q2.cell (j := q) (by rw [nc_len]; omega)
          have f1 := q2.frozen q
          have q3 := q2.set q (.int .i64 (q : Int))
          rw [← nc_set, hset.out] at q3
          have q1' := q1.far (p := ⟨gL, q, none⟩) (by simp only; omega) (.int .i64 (q : Int))
          have b3' := b3.setCell (p := ⟨gL, q, none⟩) (by simp only; omega) (.int .i64 (q : Int))
          clear q1 q2 b3 hset
          go_wp2_with fail
          go_roundw
          case rel => exact ⟨q + 1, by omega, by go_num, q1', q3, b3'⟩
          case measure => first | (simp [intOf]; done) | (simp [intOf]; omega)
        · obtain rfl : q = zs.length := by omega
          rw [Nat.sub_self, List.replicate_zero, List.append_nil] at q2
          have S : RaS w wr w.heap.size gL j k (List.range zs.length) (.slice none 0 0) [] := ⟨q1, q2, World.ownsRow_nil _ _ _ _, Bxs.nil _ _, List.nodup_nil, (fun t h => by cases h), (fun t h => by cases h), b3, Nat.le_refl _, by omega⟩
          have hA : Hid (Asc zs (List.range zs.length)) := hide (asc_range zs)
          clear q1 q2 b3
          go_wp2_with fail
          go_loopw [5, 6] (fun v l wr => ∃ (f : Nat) (rest : List Nat) (ts : List Bx), l = .slice (some ⟨gL, 0, none⟩) rest.length zs.length ∧ Hid (roundsAll zs j k = brs ts ++ (allN zs j k f rest).map asInt) ∧ Hid (Asc zs rest) ∧ rest.length ≤ f ∧ f ≤ zs.length ∧ ts.length + f ≤ zs.length ∧ RaS w wr w.heap.size gL j k rest v ts) (fun _ l _ => sliceLen l)
          case atStart => exact ⟨zs.length, List.range zs.length, [], by rw [List.length_range], hyes, hA, by rw [List.length_range]; exact Nat.le_refl _, Nat.le_refl _, by simp, S⟩
          case round =>
            clear S hA hyes
            obtain ⟨f, rest, ts, rfl, HR, HA, hf, hfz, htf, S⟩ := hrel
            by_cases hlr : rest.length = 0
            · have hy := HR.out
              rw [List.eq_nil_of_length_eq_zero hlr, allN_nil, List.map_nil, List.append_nil] at hy
              have hy := hide hy
              have hl0 : ts.length = (roundsAll zs j k).length := by rw [hy.out, brs_len]
              obtain ⟨A0, c0, hv0, oO, _, _, _⟩ := own_room2 S.ov
              have hlow := S.low
              have hbx := S.bx
              have hnd := S.nd
              have hnv := S.nv
              have hrm := S.rm
              have hlL := S.lL
              subst hv0
              have t0 : decide ((rest.length : Int) > 0) = false := decide_eq_false (by omega)
              have t1 : decide (0 < (rest.length : Int)) = false := t0
              clear S HR HA
              go_wp2
              go_ret
              exact ⟨A0, c0, ts, by rw [← hl0]; rfl, hy.out.symm, oO.mono (by omega), hbx.mono (by omega), hnd, fun t ht b e => fun e' => hnv t ht (by rw [← e', hl0]; exact e), hrm, hlow⟩
            · have hne : rest ≠ [] := fun e => hlr (by rw [e]; rfl)
              obtain ⟨f, rfl⟩ : ∃ f', f = f' + 1 := ⟨f - 1, by omega⟩
              have hst := allN_step (zs := zs) (j := j) (k := k) (f := f) hne
              have HR1 : Hid (roundsAll zs j k = brs ts ++ (roundOf zs j k rest :: allN zs j k f (leftOf zs j k rest)).map asInt) := hide (by rw [← hst]; exact HR.out)
              have HA1 : Hid (Asc zs (leftOf zs j k rest)) := hide (left_asc HA.out)
              have hless := left_less (j := j) (k := k) HA.out hne
              have hpv := pick_valid hV.out HA.out (by omega)
              have hps := pick_len (zs := zs) rest
              have hbest := best_yes (j := j) (k := k) hpv hJ.out
              have hbin : ∀ b ∈ bestIx (pickSh zs rest) j k, b < rest.length := fun b h => best_in h
              have hbne := best_some (zs := zs) (j := j) (k := k) hne
              have hble := best_le (pickSh zs rest) j k
              have hround : Hid (roundOf zs j k rest = (bestIx (pickSh zs rest) j k).map fun b => rest.getD b 0) := hide rfl
              have hrx : Hid (∀ x ∈ rest, x < zs.length) := hide HA.out.2
              have hpg : Hid (∀ q (h : q < rest.length) (h' : q < (pickSh zs rest).length), (pickSh zs rest)[q] = sh zs rest[q]) := hide fun q h _ => pick_get h
              rw [hps] at hble
              generalize bestIx (pickSh zs rest) j k = bst at *
              generalize pickSh zs rest = ps at *
              have hm2 := hmk2.out rest.length wr (by omega)
              have t0 : decide ((rest.length : Int) > 0) = true := decide_eq_true (by omega)
              have t1 : decide (0 < (rest.length : Int)) = true := t0
              obtain ⟨wo1, rfl⟩ : ∃ wo : World, wo = wr := ⟨_, rfl⟩
              have bS : Below wo1.heap.size wo1 (wo1.alloc (.cells (madeCells #[.int .i64 0, .int .i64 0] (rest.length * 2)) 24)) := by go_grown
              have rS : Row (wo1.alloc (.cells (madeCells #[.int .i64 0, .int .i64 0] (rest.length * 2)) 24)) wo1.heap.size 24 (sc (sfill ps 0)) := by
                have := Row.new wo1 24 (madeCells #[.int .i64 0, .int .i64 0] (rest.length * 2))
                rw [madePairs] at this
                rw [sfill, List.take_zero, List.nil_append, hps, Nat.sub_zero]
                exact this
              have hpv := hide hpv
              have hbest := hide hbest
              have hbin := hide hbin
              have hbne := hide hbne
              clear HR HA hst hne
              go_wp2_with fail
              generalize wo1.alloc (.cells (madeCells #[.int .i64 0, .int .i64 0] (rest.length * 2)) 24) = w4 at *
              go_loopw [43] (fun i wx => ∃ q : Nat, q ≤ rest.length ∧ i = .int .i64 q ∧ Row wx wo1.heap.size 24 (sc (sfill ps q)) ∧ Below wo1.heap.size wo1 wx) (fun i _ => rest.length - (intOf i).toNat)
              case atStart => exact ⟨0, Nat.zero_le _, rfl, rS, bS⟩
              case round =>
                clear rS bS hm2
                obtain ⟨q, hq, rfl, rS, bS⟩ := hrel
                by_cases hlt : q < rest.length
                · have S1 := S.up bS
                  have c1 := S1.get hlt
                  have hx := hrx.out rest[q] (List.getElem_mem hlt)
                  obtain ⟨b, o, hA, hb, hc1, hc2⟩ := hr.sheet hx
                  subst hA
                  have c2 := later S1.low (p := ⟨b, o + rest[q] * 2, none⟩) hb hc1
                  have c3 := later S1.low (p := ⟨b, o + rest[q] * 2 + 1, none⟩) hb hc2
                  have hqp : q < ps.length := by omega
                  have hpq := hpg.out q hlt hqp
                  have hlen : (sc (sfill ps q)).length = rest.length * 2 := by rw [sc_len, sfill_len _ _ (by omega), hps]
                  have d1 := rS.cell (j := q * 2) (by omega)
                  have d2 := rS.cell (j := q * 2 + 1) (by omega)
                  have f1 := rS.frozen (q * 2)
                  have f2 := rS.frozen (q * 2 + 1)
                  have rS1 := (rS.set (q * 2) (.int .i64 (sh zs rest[q]).1)).set (q * 2 + 1) (.int .i64 (sh zs rest[q]).2)
                  rw [← hpq, sfill_set _ _ hqp, hpq] at rS1
                  have bS1 := (bS.setCell (p := ⟨wo1.heap.size, q * 2, none⟩) (Nat.le_refl _) (.int .i64 (sh zs rest[q]).1)).setCell (p := ⟨wo1.heap.size, q * 2 + 1, none⟩) (Nat.le_refl _) (.int .i64 (sh zs rest[q]).2)
                  have i0 : (0 : Int) ≤ (q : Int) := by omega
                  have i1 : (q : Int) < (rest.length : Int) := by omega
                  have i2 : (0 : Int) ≤ (rest[q] : Int) := by omega
                  have i3 : (rest[q] : Int) < (zs.length : Int) := by omega
                  clear S1 hc1 hc2 rS bS hpq
                  generalize rest[q] = x at *
                  generalize (sh zs x).1 = x1 at *
                  generalize (sh zs x).2 = x2 at *
                  go_wp2_with fail
                  go_roundw
                  case rel => exact ⟨q + 1, by omega, by go_num, rS1, bS1⟩
                  case measure => first | (simp [intOf]; done) | (simp [intOf]; omega)
                · have hqe : q = ps.length := by omega
                  rw [hqe, sfill_all] at rS
                  clear hqe
                  obtain rfl : q = rest.length := by omega
                  have S1 := S.up bS
                  obtain ⟨m0, m1⟩ := S1.jc
                  have HB := roundBest_any (some ⟨wo1.heap.size, 0, none⟩) rest.length ps j k wr (by omega) rS.rd
                  rw [hps, hbest.out] at HB
                  have hoS := S.ov
                  have hbxS := S.bx
                  go_wp2_with fail
                  refine HB.mono ?_
                  rintro e w4 ⟨I, ci, rfl, oI, b4, hroom⟩
                  obtain ⟨gr, rfl, hgr, rr⟩ := oI.row (by intro e; have := congrArg List.length e; rw [ic_len, List.length_map] at this; exact hbne.out (List.eq_nil_of_length_eq_zero this))
                  have b5 := via bS b4 bS.size
                  have hzS := bS.size
                  rw [List.length_map] at hroom ⊢
                  clear HB oI rS bS m0 m1 S1
                  have rr6 := rr.alloc (.cells #[.slice (some ⟨gr, 0, none⟩) bst.length ci] 45)
                  have b7 := b5.alloc b5.size (.cells #[.slice (some ⟨gr, 0, none⟩) bst.length ci] 45)
                  have rB6 : Row (w4.alloc (.cells #[.slice (some ⟨gr, 0, none⟩) bst.length ci] 45)) w4.heap.size 45 [.slice (some ⟨gr, 0, none⟩) bst.length ci] := Row.new _ _ _
                  have hz4 := b4.size
                  have hz5 := rr.lt

                  clear rr b5 b4
                  go_wp2_with fail
                  have hgR : w4.heap.size ≠ gr := by omega
                  have hgw : wo1.heap.size ≤ gr := by omega
                  have hgS : wo1.heap.size ≤ w4.heap.size := by omega
                  generalize w4.alloc (.cells #[.slice (some ⟨gr, 0, none⟩) bst.length ci] 45) = w8 at *
                  generalize w4.heap.size = gR at *
                  have rM : Row w8 gr 3 (nc (mixR rest bst 0)) := by rw [mixR_zero]; exact rr6
                  clear rr6
                  go_loopw [61] (fun i wx => ∃ q : Nat, q ≤ bst.length ∧ i = .int .i64 q ∧ Row wx gr 3 (nc (mixR rest bst q)) ∧ Row wx gR 45 [.slice (some ⟨gr, 0, none⟩) bst.length ci] ∧ Below wo1.heap.size wo1 wx) (fun i _ => bst.length - (intOf i).toNat)
                  case atStart => exact ⟨0, Nat.zero_le _, rfl, rM, rB6, b7⟩
                  case round =>
                    clear rM rB6 b7
                    obtain ⟨q, hq, rfl, rM, rB, bS⟩ := hrel
                    have S1 := S.up bS
                    have k0 := rB.cell (j := 0) (by simp)
                    simp only [List.getElem_cons_zero] at k0
                    by_cases hlt : q < bst.length
                    · have hml := mixR_len rest bst q
                      have c1 := rM.cell (j := q) (by rw [nc_len]; omega)
                      rw [nc_get (by omega), mixR_get hlt] at c1
                      have hbr := hbin.out bst[q] (List.getElem_mem hlt)
                      have c2 := S1.get hbr
                      have f1 := rM.frozen q
                      have rM1 := rM.set q (.int .i64 (rest[bst[q]] : Int))
                      have hgd : rest.getD bst[q] 0 = rest[bst[q]] := by rw [List.getD_eq_getElem?_getD, List.getElem?_eq_getElem hbr]; rfl
                      rw [← hgd, ← nc_set, mixR_set hlt, hgd] at rM1
                      have rB1 := rB.far (p := ⟨gr, q, none⟩) (by simp only; omega) (.int .i64 (rest[bst[q]] : Int))
                      have bS1 := bS.setCell (p := ⟨gr, q, none⟩) (by simp only; omega) (.int .i64 (rest[bst[q]] : Int))
                      have rM1 := rM1.drew
                      have rB1 := rB1.drew
                      have bS1 := bS1.drew
                      have i0 : (0 : Int) ≤ (q : Int) := by omega
                      have i1 : (q : Int) < (bst.length : Int) := by omega
                      have i2 : (0 : Int) ≤ (bst[q] : Int) := by omega
                      have i3 : (bst[q] : Int) < (rest.length : Int) := by omega
                      clear S1 rM rB bS hgd hml
                      generalize rest[bst[q]] = x at *
                      generalize bst[q] = y at *
                      go_wp2_with fail
                      go_region
                      go_wp2_with fail
                      go_roundw
                      case rel => exact ⟨q + 1, by omega, by go_num, rM1, rB1, bS1⟩
                      case measure => first | (simp [intOf]; done) | (simp [intOf]; omega)
                    · obtain rfl : q = bst.length := by omega
                      rw [mixR_all, ← hround.out] at rM
                      have hgl := S.rl.lt
                      have hlr2 : (roundOf zs j k rest).length = bst.length := by rw [hround.out, List.length_map]
                      have HD := deleteW_any gR gr ci gL zs.length (asInt (roundOf zs j k rest)) (asInt rest) wr (by rw [asInt_len, hlr2]; omega) (by rw [asInt_len]; omega) (by rw [asInt_len]; omega) S1.rl (by rw [asInt_len, hlr2]; exact rB) rM (by omega) (by omega)
                      simp only [asInt_filter, asInt_len] at HD
                      change Calls Tryd.prog _ _ _ (fun e w' => e = .returned (.slice (some ⟨gL, 0, none⟩) (leftOf zs j k rest).length zs.length) ∧ Row w' gL 3 (nc (leftOf zs j k rest)) ∧ wr.grownBy w' (some gL)) at HD
                      have hHD := hide HD
                      have ebv : bv (gr, ci, asInt (roundOf zs j k rest)) = .slice (some ⟨gr, 0, none⟩) bst.length ci := by unfold bv; simp only [asInt_len, hlr2]
                      have hts : ∀ t ∈ ts, t.1 < gr := fun t ht => by have := (hbxS t ht).2.lt; omega
                      have hvb : ∀ b, _ → b < gr := fun b e => by have := (hoS.lt b e).2; omega
                      have ebv := hide ebv
                      have hts := hide hts
                      have hrmR : Hid ((asInt (roundOf zs j k rest)).length ≤ ci) := hide (by rw [asInt_len, hlr2]; exact hroom)
                      have hvb := hide hvb
                      have HRn : Hid (roundsAll zs j k = brs (ts ++ [(gr, ci, asInt (roundOf zs j k rest))]) ++ (allN zs j k f (leftOf zs j k rest)).map asInt) := hide (by rw [HR1.out, brs_snoc, List.map_cons, List.append_assoc]; rfl)
                      clear HD hlr2 HR1 hround hoS hbxS
                      go_wp2_with fail
                      refine hHD.out.mono ?_
                      rintro e w9 ⟨rfl, rl9, hg9⟩
                      have S9 := S1.del hg9 rl9
                      have rR9 := rM.kept hg9 (by intro e; injection e with e; omega)
                      have rB9 := rB.kept hg9 (by intro e; injection e with e; omega)
                      have k9 := rB9.cell (j := 0) (by simp)
                      simp only [List.getElem_cons_zero] at k9
                      have bA : Below w9.heap.size w9 (w9.alloc (.cells #[.slice (some ⟨gr, 0, none⟩) bst.length ci] 45)) := by go_grown
                      have SA := S9.up bA
                      have rRA := rR9.after bA
                      have rA : Rd (w9.alloc (.cells #[.slice (some ⟨gr, 0, none⟩) bst.length ci] 45)) (w9.heap.size + 1) (some ⟨w9.heap.size, 0, none⟩) [bv (gr, ci, asInt (roundOf zs j k rest))] := by
                        rw [ebv.out]
                        exact (Row.new w9 45 #[.slice (some ⟨gr, 0, none⟩) bst.length ci]).rd.mono (by simp)
                      have hzA : gL + 1 ≤ (w9.alloc (.cells #[.slice (some ⟨gr, 0, none⟩) bst.length ci] 45)).heap.size := by have := SA.rl.lt; omega
                      clear S1 S9 rl9 hg9 rR9 rB9 rB rM k0 hHD bA S
                      go_wp2_with (at_builtin; refine wpList_append_at listElem rfl _ _ rfl (gL + 1) (w9.heap.size + 1) _ ts.length (bvs ts) rfl SA.ov ⟨w9.heap.size, 0, none⟩ 1 1 rfl [bv (gr, ci, asInt (roundOf zs j k rest))] rfl rA (bvs_one [(gr, ci, asInt (roundOf zs j k rest))]) (by omega) (by omega) hzA ?_; intro v9 w10 hap; have S10 := SA.app (c := ci) rRA hrmR.out (by omega) hts.out hvb.out hap; clear hap)
                      go_roundw
                      case rel => exact ⟨f, leftOf zs j k rest, _, rfl, HRn, HA1, by omega, by omega, by rw [List.length_append, List.length_singleton]; omega, S10⟩
                      case measure => first | (simp [sliceLen]; done) | (simp [sliceLen]; omega)
end Go.Proofs.YtcdoopccmljaoaaDoor
