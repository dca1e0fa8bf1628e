/- The times at which slabs go through a furnace, the reference's. Conditions: valid slabs and a valid furnace. -/
import Derived.Test.YtcdoopccmljaoaaDoorPass
import Derived.Test.YtcdoopccmljaoaaDoorListKit
namespace Go.Proofs.YtcdoopccmljaoaaDoor
open Go.ChangeShapes Go.WideShapes Go.ChangeAt Go.RowKit Go.Deep
/-- Where the reference's loop stands: the furnace's box, the row of times. -/
structure PsS (w wr : World) (R : Nat) (z : Int) (A : Option Addr) (zs : List (Int × Int)) (v : Value) (P : List (Int × Int)) : Prop where
  rd : Rd wr w.heap.size A (sc zs)
  qF : Row wr w.heap.size 65 [.int .i64 (R : Int), .int .i64 z]
  own : wr.ownsRow (w.heap.size + 1) 91 2 v P.length (sc P)
  low : Below w.heap.size w wr
section
variable {w wr w' : World} {R : Nat} {z : Int} {A : Option Addr} {zs P : List (Int × Int)} {v : Value}
theorem PsS.up (S : PsS w wr R z A zs v P) (b : Below wr.heap.size wr w') : PsS w w' R z A zs v P :=
  ⟨S.rd.below (b.mono S.low.size), S.qF.after b, owns_below S.own b, via S.low b S.low.size⟩
theorem PsS.drewS (S : PsS w wr R z A zs v P) : PsS w wr.drew R z A zs v P := S.up (Below.refl _ _).drew
theorem PsS.far (S : PsS w wr R z A zs v P) {p : Addr} (hp : w.heap.size < p.block) (hv : ∀ b, v.ownBlock = some b → b < p.block) (u : Value) : PsS w (wr.setCell p u) R z A zs v P :=
  ⟨S.rd.below ((Below.refl _ wr).setCell (by omega) u), S.qF.far (by omega) u, owns_grown S.own (grown_set wr p u) (fun b hb e => by injection e with e; have := hv b hb; omega), S.low.setCell (by omega) u⟩
theorem PsS.app (S : PsS w wr R z A zs v P) {v' : Value} {a b : Int} (hap : Appd wr w' (w.heap.size + 1) 91 2 v v' P.length 1 (sc P) (sc [(a, b)])) : PsS w w' R z A zs v' (P ++ [(a, b)]) := by
  have hlt := S.qF.lt
  have hb := hap.below S.own (by omega)
  have ho := hap.1
  refine ⟨S.rd.below (hb.mono (by omega)), S.qF.below hb (by omega), ?_, S.low.trans (hb.mono (by omega))⟩
  rw [List.length_append, List.length_singleton, sc_app]
  exact ho
theorem PsS.vrow {gv c n : Nat} (S : PsS w wr R z A zs (.slice (some ⟨gv, 0, none⟩) n c) P) (h : P.length ≠ 0) : Row wr gv 91 (sc P) := by
  obtain ⟨A', c', e, oV, _⟩ := own_room2 S.own
  cases e
  obtain ⟨g, e, _, q⟩ := oV.row (fun e => h (by have := sc_len P; rw [e] at this; simp at this; omega))
  cases e
  exact q
theorem PsS.shape (S : PsS w wr R z A zs v P) (h : P.length ≠ 0) : ∃ gv c, v = .slice (some ⟨gv, 0, none⟩) P.length c := by
  obtain ⟨A', c', rfl, oV, _⟩ := own_room2 S.own
  obtain ⟨g, rfl, _, q⟩ := oV.row (fun e => h (by have := sc_len P; rw [e] at this; simp at this; omega))
  exact ⟨g, c', rfl⟩
end
theorem cell_far {w : World} {b o g i : Nat} {v u : Value} (h : b ≠ g) (hc : w.cell? ⟨b, o, none⟩ = some v) : (w.setCell ⟨g, i, none⟩ u).drew.cell? ⟨b, o, none⟩ = some v := by
  rw [← hc]
  show (w.setCell ⟨g, i, none⟩ u).cell? ⟨b, o, none⟩ = _
  simp only [World.cell?, heap_setCell_other w ⟨g, i, none⟩ b u h]
set_option linter.unusedSimpArgs false in
set_option linter.unusedVariables false in
set_option maxHeartbeats 4000000 in
set_option maxRecDepth 100000 in
theorem passTimes_spec (A : Option Addr) (c : Nat) (zs : List (Int × Int)) (R : Nat) (z : Int) (w : World) (hv : chargesValid zs = true) (hf : furnaceValid (R : Int) z = true) (hr : Rd w w.heap.size A (sc zs)) :
    Calls Tryd.prog 113 #[.slice A zs.length c, .agg #[.int .i64 (R : Int), .int .i64 z]] w (PairsOk w (passUp R z zs zs.length)) := by
  obtain ⟨hl8, hall⟩ := charges_at hv
  obtain ⟨⟨hR1, hR8⟩, hz0, hz9⟩ := furnace_at hf
  have HB := hide (fun q (hq : q ≤ zs.length) => passUp_bd (R := R) (by omega) ⟨hz0, hz9⟩ hall q hq)
  have HA := hide (fun q (hq : q < zs.length) => hall zs[q] (List.getElem_mem hq))
  have HPL := hide (passUp_len R z zs)
  clear hall
  go_enter Tryd.func113, Tryd.ntmps113
  have qF := Row.new w 65 #[.int .i64 (R : Int), .int .i64 z]
  have b0 : Below w.heap.size w (w.alloc (.cells #[.int .i64 (R : Int), .int .i64 z] 65)) := by go_grown
  have oE := own_empty (e := 91) (size := 2) (w.alloc (.cells #[.int .i64 (R : Int), .int .i64 z] 65)) (w.heap.size + 1) (by simp)
  have bE : Below (w.alloc (.cells #[.int .i64 (R : Int), .int .i64 z] 65)).heap.size (w.alloc (.cells #[.int .i64 (R : Int), .int .i64 z] 65)) ((w.alloc (.cells #[.int .i64 (R : Int), .int .i64 z] 65)).alloc (.cells #[] 91)) := by go_grown
  have hgF : w.heap.size < (w.alloc (.cells #[.int .i64 (R : Int), .int .i64 z] 65)).heap.size := qF.lt
  go_wp2_with fail
  simp only [World.size_alloc] at oE
  have S : PsS w ((w.alloc (.cells #[.int .i64 (R : Int), .int .i64 z] 65)).alloc (.cells #[] 91)) R z A zs _ [] := ⟨hr.below (via b0 bE b0.size), qF.after bE, oE, via b0 bE b0.size⟩
  clear qF b0 oE bE hgF
  generalize (w.alloc (.cells #[.int .i64 (R : Int), .int .i64 z] 65)).alloc (.cells #[] 91) = w1 at *
  refine (chargesValid_spec A c zs w1 (by omega) (S.rd.mono S.low.size)).mono ?_
  rw [hv]
  rintro e w2 ⟨rfl, b1⟩
  replace S := S.up b1
  obtain ⟨k0, k1, _, _⟩ := pcells S.qF
  clear b1
  go_wp2_with fail
  refine (furnaceValid_spec (R : Int) z w2).mono ?_
  rw [hf]
  rintro e w3 ⟨rfl, hw3⟩
  have b1 : Below w2.heap.size w2 w3 := by rw [← hw3]; go_grown
  replace S := S.up b1
  clear b1 hw3 k0 k1
  generalize hv0 : (Value.slice (some ⟨w.heap.size + 1, 0, none⟩) 0 0) = v0 at *
  clear hv0
  go_wp2_with fail
  go_loopw [5, 6] (fun v i wr => ∃ q : Nat, q ≤ zs.length ∧ i = .int .i64 q ∧ PsS w wr R z A zs v (passUp R z zs q)) (fun _ i _ => zs.length - (intOf i).toNat)
  case atStart => exact ⟨0, Nat.zero_le _, rfl, S⟩
  case round =>
    clear S
    obtain ⟨q, hq, rfl, S⟩ := hrel
    have hpl := HPL.out q
    have bz := S.low.size
    by_cases hlt : q < zs.length
    · obtain ⟨b, o, hA', hb, hc1, hc2⟩ := S.rd.pair hlt
      subst hA'
      have hpz : zs.getD q (0, 0) = zs[q] := by rw [List.getD_eq_getElem?_getD, List.getElem?_eq_getElem hlt]; rfl
      obtain ⟨⟨a0, a9⟩, n1, n9⟩ := HA.out q hlt
      have hbd := HB.out q hq
      have hup : passUp R z zs (q + 1) = passUp R z zs q ++ [(passIn R (passUp R z zs q) zs[q], passOut R z (passUp R z zs q) zs[q])] := by rw [passUp, hpz]
      obtain ⟨⟨x, y⟩, hxy⟩ : ∃ s, s = zs[q] := ⟨_, rfl⟩
      rw [← hxy] at hc1 hc2 hup a0 a9 n1 n9
      clear hxy hpz
      generalize passUp R z zs q = P at *
      simp only at hc1 hc2 a0 a9 n1 n9
      have i0 : (0 : Int) ≤ (q : Int) := by omega
      have i1 : (q : Int) < (zs.length : Int) := by omega
      have hFB := S.qF.lt
      have qB := Row.new wr 91 #[.int .i64 x, .int .i64 0]
      have hvB := hide (fun b hb => (S.own.lt b hb).2)
      have hbB := hide (show b ≠ wr.heap.size by omega)
      cases q with
      | zero =>
        have hin := passIn_zero (s := (x, y)) (show 1 ≤ R by omega) hpl
        have hot := passOut_zero (z := z) (s := (x, y)) (show 1 ≤ R by omega) hpl
        simp only [Nat.zero_mul, Nat.add_zero] at hc1 hc2
        have t1 : decide ((R : Int) ≤ 0) = false := decide_eq_false (by omega)
        obtain ⟨F0, F1, _, _⟩ := pcells S.qF
        go_wp2_with fail
        have bA : Below wr.heap.size wr (wr.alloc (.cells #[.int .i64 x, .int .i64 0] 91)) := by go_grown
        replace S := S.up bA
        clear F0 F1
        replace hc1 := later bA (block_lt_of_cell hc1) hc1
        replace hc2 := later bA (block_lt_of_cell hc2) hc2
        clear bA
        generalize wr.alloc (.cells #[.int .i64 x, .int .i64 0] 91) = w5 at *
        generalize wr.heap.size = gB at *
        obtain ⟨F0, F1, _, _⟩ := pcells S.qF
        obtain ⟨B0, B1, f0, f1⟩ := pcells qB
        go_region
        replace hc1 := cell_far (g := gB) (i := 1) (u := .int .i64 (x + y)) hbB.out hc1
        replace hc2 := cell_far (g := gB) (i := 1) (u := .int .i64 (x + y)) hbB.out hc2
        replace S := (S.far (p := ⟨gB, 1, none⟩) hFB hvB.out (.int .i64 (x + y))).drewS
        replace qB := (qB.set 1 (.int .i64 (x + y))).drew
        simp only [List.set_cons_zero, List.set_cons_succ] at qB
        clear F0 F1 B0 B1 f0 f1
        generalize (World.setCell w5 ⟨gB, 1, none⟩ (.int .i64 (x + y))).drew = w6 at *
        rw [hin, hot] at hup
        obtain ⟨B0, B1, _, _⟩ := pcells qB
        have hzB := qB.lt
        have bA : Below (w6).heap.size w6 ((w6).alloc (.cells #[.int .i64 (x), .int .i64 (x + y)] 91)) := by go_grown
        have S1 := S.up bA
        have rA := (Row.new w6 91 #[.int .i64 (x), .int .i64 (x + y)]).rd
        go_wp2_with (at_builtin; refine wpList_append_any passElem rfl _ _ rfl (w.heap.size + 1) ((w6).heap.size + 1) _ P.length (sc P) rfl S1.own (some ⟨(w6).heap.size, 0, none⟩) 1 1 rfl (sc [(x, x + y)]) rfl (rA.mono (by simp)) (fun h => by cases h) (sc_one _) (by omega) (by omega) (by simp; omega) ?_; intro v' w9 hap; have S9 := S1.app hap; clear hap)
        rw [← hup] at S9
        go_roundw
        case rel => exact ⟨1, by omega, rfl, S9⟩
        case measure => first | (simp [intOf]; done) | (simp [intOf]; omega)
      | succ p =>
        have hot := passOut_succ (R := R) (z := z) (s := (x, y)) hpl
        obtain ⟨gv, cv, rfl⟩ := S.shape (by omega)
        rw [hpl] at S hvB
        have i5 : (p : Int) < (p : Int) + 1 := by omega
        have i2 : (p : Int) < (zs.length : Int) := by omega
        have i3 : (0 : Int) ≤ (p : Int) := by omega
        have i4 : (p : Int) < (P.length : Int) := by omega
        obtain ⟨⟨hu0, hu9⟩, hv0, hv9⟩ := hbd p (by omega)
        obtain ⟨⟨u, v⟩, huv⟩ : ∃ s, P.getD p (0, 0) = s := ⟨_, rfl⟩
        rw [huv] at hu0 hu9 hv0 hv9 hot
        simp only at hu0 hu9 hv0 hv9 hot
        have hlo := hide (fun hR => passIn_lo (s := (x, y)) hpl (R := R) hR)
        have hhi := hide (fun hR => passIn_hi (s := (x, y)) hpl (R := R) hR)
        rw [huv] at hlo hhi
        simp only at hlo hhi
        have huv := hide huv
        obtain ⟨F0, F1, _, _⟩ := pcells S.qF
        go_wp2_with fail
        have bA : Below wr.heap.size wr (wr.alloc (.cells #[.int .i64 x, .int .i64 0] 91)) := by go_grown
        replace S := S.up bA
        clear F0 F1
        replace hc1 := later bA (block_lt_of_cell hc1) hc1
        replace hc2 := later bA (block_lt_of_cell hc2) hc2
        clear bA
        generalize wr.alloc (.cells #[.int .i64 x, .int .i64 0] 91) = w5 at *
        generalize wr.heap.size = gB at *
        obtain ⟨m1, e1⟩ : ∃ m, max x u = m := ⟨_, rfl⟩
        have hm1 : 0 ≤ m1 ∧ m1 ≤ 3000 := by omega
        obtain ⟨F0, F1, _, _⟩ := pcells S.qF
        obtain ⟨B0, B1, f0, f1⟩ := pcells qB
        obtain ⟨P0, P1⟩ := (S.vrow (by omega)).pairc (k := p) (by omega)
        rw [huv.out] at P0 P1
        go_region
        clear P0 P1
        replace hc1 := cell_far (g := gB) (i := 0) (u := .int .i64 (m1)) hbB.out hc1
        replace hc2 := cell_far (g := gB) (i := 0) (u := .int .i64 (m1)) hbB.out hc2
        replace S := (S.far (p := ⟨gB, 0, none⟩) hFB hvB.out (.int .i64 (m1))).drewS
        replace qB := (qB.set 0 (.int .i64 (m1))).drew
        simp only [List.set_cons_zero, List.set_cons_succ] at qB
        clear F0 F1 B0 B1 f0 f1
        generalize (World.setCell w5 ⟨gB, 0, none⟩ (.int .i64 (m1))).drew = w6 at *
        by_cases hR : p + 1 < R
        · have hin := hlo.out hR
          rw [e1] at hin
          clear hlo hhi e1
          have t1 : decide ((R : Int) ≤ (p : Int) + 1) = false := decide_eq_false (by omega)
          obtain ⟨F0, F1, _, _⟩ := pcells S.qF
          obtain ⟨B0, B1, f0, f1⟩ := pcells qB
          obtain ⟨P0, P1⟩ := (S.vrow (by omega)).pairc (k := p) (by omega)
          rw [huv.out] at P0 P1
          go_wp2_with fail
          go_region
          clear P0 P1
          replace hc1 := cell_far (g := gB) (i := 1) (u := .int .i64 (m1 + y)) hbB.out hc1
          replace hc2 := cell_far (g := gB) (i := 1) (u := .int .i64 (m1 + y)) hbB.out hc2
          replace S := (S.far (p := ⟨gB, 1, none⟩) hFB hvB.out (.int .i64 (m1 + y))).drewS
          replace qB := (qB.set 1 (.int .i64 (m1 + y))).drew
          simp only [List.set_cons_zero, List.set_cons_succ] at qB
          clear F0 F1 B0 B1 f0 f1
          generalize (World.setCell w6 ⟨gB, 1, none⟩ (.int .i64 (m1 + y))).drew = w7 at *
          obtain ⟨m3, e3⟩ : ∃ m3, max (m1 + y) (v + z) = m3 := ⟨_, rfl⟩
          rw [hin, e3] at hot
          obtain ⟨F0, F1, _, _⟩ := pcells S.qF
          obtain ⟨B0, B1, f0, f1⟩ := pcells qB
          obtain ⟨P0, P1⟩ := (S.vrow (by omega)).pairc (k := p) (by omega)
          rw [huv.out] at P0 P1
          go_wp2_with fail
          go_region
          clear P0 P1 e3
          replace hc1 := cell_far (g := gB) (i := 1) (u := .int .i64 (m3)) hbB.out hc1
          replace hc2 := cell_far (g := gB) (i := 1) (u := .int .i64 (m3)) hbB.out hc2
          replace S := (S.far (p := ⟨gB, 1, none⟩) hFB hvB.out (.int .i64 (m3))).drewS
          replace qB := (qB.set 1 (.int .i64 (m3))).drew
          simp only [List.set_cons_zero, List.set_cons_succ] at qB
          clear F0 F1 B0 B1 f0 f1
          generalize (World.setCell w7 ⟨gB, 1, none⟩ (.int .i64 (m3))).drew = w8 at *
          rw [hin, hot] at hup
          obtain ⟨B0, B1, _, _⟩ := pcells qB
          have hzB := qB.lt
          have bA : Below (w8).heap.size w8 ((w8).alloc (.cells #[.int .i64 (m1), .int .i64 (m3)] 91)) := by go_grown
          have S1 := S.up bA
          have rA := (Row.new w8 91 #[.int .i64 (m1), .int .i64 (m3)]).rd
          go_wp2_with (at_builtin; refine wpList_append_any passElem rfl _ _ rfl (w.heap.size + 1) ((w8).heap.size + 1) _ P.length (sc P) rfl S1.own (some ⟨(w8).heap.size, 0, none⟩) 1 1 rfl (sc [(m1, m3)]) rfl (rA.mono (by simp)) (fun h => by cases h) (sc_one _) (by omega) (by omega) (by simp; omega) ?_; intro v' w9 hap; have S9 := S1.app hap; clear hap)
          rw [← hup] at S9
          go_roundw
          case rel => exact ⟨p + 1 + 1, by omega, by go_num, S9⟩
          case measure => first | (simp [intOf]; done) | (simp [intOf]; omega)
        · have hin := hhi.out (by omega)
          rw [e1] at hin
          have hbv := (hbd (p + 1 - R) (by omega)).2
          obtain ⟨uv, hpe⟩ : ∃ s, P.getD (p + 1 - R) (0, 0) = s := ⟨_, rfl⟩
          rw [hpe] at hin hbv
          clear hlo hhi e1
          have t1 : decide ((R : Int) ≤ (p : Int) + 1) = true := decide_eq_true (by omega)
          have k1 : (0 : Int) ≤ (p : Int) + 1 - (R : Int) := by omega
          have k2 : (p : Int) + 1 - (R : Int) < (p : Int) + 1 := by omega
          have k3 : ((p : Int) + 1 - (R : Int)).toNat = p + 1 - R := by omega
          obtain ⟨m2, e2⟩ : ∃ m, max m1 uv.2 = m := ⟨_, rfl⟩
          have hm2 : 0 ≤ m2 ∧ m2 ≤ 4000 := by omega
          rw [e2] at hin
          have P2 := ((S.vrow (by omega)).pairc (k := p + 1 - R) (by omega)).2
          rw [hpe] at P2
          obtain ⟨F0, F1, _, _⟩ := pcells S.qF
          obtain ⟨B0, B1, f0, f1⟩ := pcells qB
          obtain ⟨P0, P1⟩ := (S.vrow (by omega)).pairc (k := p) (by omega)
          rw [huv.out] at P0 P1
          go_wp2_with fail
          go_region
          clear P2 k1 k2 k3 e2 hpe P0 P1
          replace hc1 := cell_far (g := gB) (i := 0) (u := .int .i64 (m2)) hbB.out hc1
          replace hc2 := cell_far (g := gB) (i := 0) (u := .int .i64 (m2)) hbB.out hc2
          replace S := (S.far (p := ⟨gB, 0, none⟩) hFB hvB.out (.int .i64 (m2))).drewS
          replace qB := (qB.set 0 (.int .i64 (m2))).drew
          simp only [List.set_cons_zero, List.set_cons_succ] at qB
          clear F0 F1 B0 B1 f0 f1
          generalize (World.setCell w6 ⟨gB, 0, none⟩ (.int .i64 (m2))).drew = w65 at *
          obtain ⟨F0, F1, _, _⟩ := pcells S.qF
          obtain ⟨B0, B1, f0, f1⟩ := pcells qB
          obtain ⟨P0, P1⟩ := (S.vrow (by omega)).pairc (k := p) (by omega)
          rw [huv.out] at P0 P1
          go_wp2_with fail
          go_region
          clear P0 P1
          replace hc1 := cell_far (g := gB) (i := 1) (u := .int .i64 (m2 + y)) hbB.out hc1
          replace hc2 := cell_far (g := gB) (i := 1) (u := .int .i64 (m2 + y)) hbB.out hc2
          replace S := (S.far (p := ⟨gB, 1, none⟩) hFB hvB.out (.int .i64 (m2 + y))).drewS
          replace qB := (qB.set 1 (.int .i64 (m2 + y))).drew
          simp only [List.set_cons_zero, List.set_cons_succ] at qB
          clear F0 F1 B0 B1 f0 f1
          generalize (World.setCell w65 ⟨gB, 1, none⟩ (.int .i64 (m2 + y))).drew = w7 at *
          obtain ⟨m3, e3⟩ : ∃ m3, max (m2 + y) (v + z) = m3 := ⟨_, rfl⟩
          rw [hin, e3] at hot
          obtain ⟨F0, F1, _, _⟩ := pcells S.qF
          obtain ⟨B0, B1, f0, f1⟩ := pcells qB
          obtain ⟨P0, P1⟩ := (S.vrow (by omega)).pairc (k := p) (by omega)
          rw [huv.out] at P0 P1
          go_wp2_with fail
          go_region
          clear P0 P1 e3
          replace hc1 := cell_far (g := gB) (i := 1) (u := .int .i64 (m3)) hbB.out hc1
          replace hc2 := cell_far (g := gB) (i := 1) (u := .int .i64 (m3)) hbB.out hc2
          replace S := (S.far (p := ⟨gB, 1, none⟩) hFB hvB.out (.int .i64 (m3))).drewS
          replace qB := (qB.set 1 (.int .i64 (m3))).drew
          simp only [List.set_cons_zero, List.set_cons_succ] at qB
          clear F0 F1 B0 B1 f0 f1
          generalize (World.setCell w7 ⟨gB, 1, none⟩ (.int .i64 (m3))).drew = w8 at *
          rw [hin, hot] at hup
          obtain ⟨B0, B1, _, _⟩ := pcells qB
          have hzB := qB.lt
          have bA : Below (w8).heap.size w8 ((w8).alloc (.cells #[.int .i64 (m2), .int .i64 (m3)] 91)) := by go_grown
          have S1 := S.up bA
          have rA := (Row.new w8 91 #[.int .i64 (m2), .int .i64 (m3)]).rd
          go_wp2_with (at_builtin; refine wpList_append_any passElem rfl _ _ rfl (w.heap.size + 1) ((w8).heap.size + 1) _ P.length (sc P) rfl S1.own (some ⟨(w8).heap.size, 0, none⟩) 1 1 rfl (sc [(m2, m3)]) rfl (rA.mono (by simp)) (fun h => by cases h) (sc_one _) (by omega) (by omega) (by simp; omega) ?_; intro v' w9 hap; have S9 := S1.app hap; clear hap)
          rw [← hup] at S9
          go_roundw
          case rel => exact ⟨p + 1 + 1, by omega, by go_num, S9⟩
          case measure => first | (simp [intOf]; done) | (simp [intOf]; omega)
    · obtain rfl : q = zs.length := by omega
      obtain ⟨A', c', rfl, oV, _⟩ := own_room2 S.own
      have hlow := S.low
      rw [hpl]
      clear S HB HA
      go_wp2_with fail
      go_ret
      exact ⟨A', c', by rw [hpl]; rfl, oV.rd, hlow⟩
end Go.Proofs.YtcdoopccmljaoaaDoor
