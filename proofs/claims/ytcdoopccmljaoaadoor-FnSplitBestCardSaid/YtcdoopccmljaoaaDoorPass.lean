/- The times at which slabs go through a furnace, the program's and the reference's. Conditions: valid slabs and a valid furnace. -/
import Derived.Test.YtcdoopccmljaoaaDoorPassPlain
import Derived.Test.YtcdoopccmljaoaaDoorApp
import Derived.Deep.RegionHeld3
namespace Go.Proofs.YtcdoopccmljaoaaDoor
open Go.ChangeShapes Go.WideShapes Go.ChangeAt Go.RowKit Go.Deep
/-- A slice that reads as these pairs. -/
def PairsOk (w : World) (ps : List (Int × Int)) (e : Ending) (w' : World) : Prop := ∃ A c, e = .returned (.slice A ps.length c) ∧ Rd w' w'.heap.size A (sc ps) ∧ Below w.heap.size w w'
theorem ext_store {w : World} (x : Ext w) {g : Nat} (hg : w.heap.size ≤ g) (i : Nat) (v : Value) : ∃ y : Ext w, x.val.setCell ⟨g, i, none⟩ v = y.val := ⟨⟨_, x.below.setCell (p := ⟨g, i, none⟩) hg v⟩, rfl⟩
theorem ext_drew {w : World} (x : Ext w) : ∃ y : Ext w, x.val.drew = y.val := ⟨⟨_, via x.below (Below.refl _ _).drew x.below.size⟩, rfl⟩
theorem ext_alloc {w : World} (x : Ext w) (o : Obj) : ∃ y : Ext w, x.val.alloc o = y.val := ⟨⟨_, x.below.alloc x.below.size o⟩, rfl⟩
theorem Row.pairc {w : World} {g : Nat} {T : TypeId} {zs : List (Int × Int)} (h : Row w g T (sc zs)) {k : Nat} (hk : k < zs.length) : w.cell? ⟨g, k * 2, none⟩ = some (.int .i64 (zs.getD k (0, 0)).1) ∧ w.cell? ⟨g, k * 2 + 1, none⟩ = some (.int .i64 (zs.getD k (0, 0)).2) := by
  have hl := sc_len zs
  obtain ⟨g1, g2⟩ := sc_get zs k hk
  have e : zs.getD k (0, 0) = zs[k] := by rw [List.getD_eq_getElem?_getD, List.getElem?_eq_getElem hk]; rfl
  rw [h.cell (j := k * 2) (by omega), h.cell (j := k * 2 + 1) (by omega), e, ← g1, ← g2, List.getElem?_eq_getElem (by omega), List.getElem?_eq_getElem (by omega)]
  exact ⟨rfl, rfl⟩
theorem pcells {w : World} {g : Nat} {T : TypeId} {u v : Value} (q : Row w g T [u, v]) : w.cell? ⟨g, 0, none⟩ = some u ∧ w.cell? ⟨g, 1, none⟩ = some v ∧ w.frozen? ⟨g, 0, none⟩ = false ∧ w.frozen? ⟨g, 1, none⟩ = false :=
  ⟨q.cell (j := 0) (by simp), q.cell (j := 1) (by simp), q.frozen 0, q.frozen 1⟩
/-- The first ones, behind them none. -/
def pfill (P : List (Int × Int)) (n : Nat) : List (Int × Int) := P ++ List.replicate (n - P.length) (0, 0)
theorem pfill_len {P : List (Int × Int)} {n : Nat} (h : P.length ≤ n) : (pfill P n).length = n := by unfold pfill; rw [List.length_append, List.length_replicate]; omega
theorem pfill_get {P : List (Int × Int)} (n : Nat) {k : Nat} (h : k < P.length) : (pfill P n).getD k (0, 0) = P.getD k (0, 0) := by
  unfold pfill
  rw [List.getD_eq_getElem?_getD, List.getD_eq_getElem?_getD, List.getElem?_append_left h]
theorem pfill_set {P : List (Int × Int)} {n : Nat} (h : P.length < n) (a b : Int) : ((sc (pfill P n)).set (P.length * 2) (.int .i64 a)).set (P.length * 2 + 1) (.int .i64 b) = sc (pfill (P ++ [(a, b)]) n) := by
  have e2 : n - P.length = (n - (P.length + 1)) + 1 := by omega
  have e : (sc P).length = P.length * 2 := sc_len P
  have e3 : sc (pfill P n) = sc P ++ (Value.int .i64 0 :: Value.int .i64 0 :: sc (List.replicate (n - (P.length + 1)) (0, 0))) := by
    rw [pfill, sc_app, e2, List.replicate_succ]; rfl
  rw [e3, List.set_append_right _ _ (by omega), e, Nat.sub_self, List.set_cons_zero, List.set_append_right _ _ (by omega), e, show P.length * 2 + 1 - P.length * 2 = 1 by omega]
  simp only [List.set_cons_succ, List.set_cons_zero]
  rw [pfill, sc_app, sc_app, List.length_append, List.length_singleton, List.append_assoc]
  rfl
theorem passInfo : (Tryd.prog.info? 91).map (fun i => (i.zero, i.size, i.bytes)) = some (some (.agg #[.int .i64 0, .int .i64 0]), 2, 16) := by kernel_rfl
theorem passElem : Elem 92 91 (.agg #[.int .i64 0, .int .i64 0]) 2 16 := ⟨Tryd.underlying92, by kernel_rfl, rfl, by decide, by decide⟩
/-- Where the program's loop stands: the furnace's box, the row of times. -/
structure PtS (w wr : World) (gP : Nat) (R : Nat) (z : Int) (A : Option Addr) (zs ps : List (Int × Int)) : Prop where
  rd : Rd wr gP A (sc zs)
  qF : Row wr w.heap.size 65 [.int .i64 (R : Int), .int .i64 z]
  qP : Row wr gP 91 (sc ps)
  low : Below w.heap.size w wr
  lt : w.heap.size < gP
section
variable {w wr : World} {gP R : Nat} {z : Int} {A : Option Addr} {zs ps : List (Int × Int)}
theorem PtS.alloc (S : PtS w wr gP R z A zs ps) (o : Obj) : PtS w (wr.alloc o) gP R z A zs ps :=
  ⟨S.rd.below (Below.alloc (Below.refl gP wr) (Nat.le_of_lt S.qP.lt) o), S.qF.alloc o, S.qP.alloc o, S.low.alloc S.low.size o, S.lt⟩
theorem PtS.drewS (S : PtS w wr gP R z A zs ps) : PtS w wr.drew gP R z A zs ps :=
  ⟨S.rd.below (Below.refl gP wr).drew, S.qF.drew, S.qP.drew, S.low.drew, S.lt⟩
theorem PtS.far (S : PtS w wr gP R z A zs ps) {p : Addr} (hp : gP < p.block) (v : Value) : PtS w (wr.setCell p v) gP R z A zs ps := by
  have := S.lt
  exact ⟨S.rd.below ((Below.refl gP wr).setCell (by omega) v), S.qF.far (by omega) v, S.qP.far (by omega) v, S.low.setCell (by omega) v, S.lt⟩
theorem PtS.put {P : List (Int × Int)} {n : Nat} (S : PtS w wr gP R z A zs (pfill P n)) (h : P.length < n) {i : Nat} (hi : i = P.length * 2) (a b : Int) :
    PtS w ((wr.setCell ⟨gP, i, none⟩ (.int .i64 a)).setCell ⟨gP, i + 1, none⟩ (.int .i64 b)) gP R z A zs (pfill (P ++ [(a, b)]) n) := by
  have hl := S.lt
  subst hi
  refine ⟨S.rd.below (((Below.refl gP wr).setCell (by simp) _).setCell (by simp) _), (S.qF.far (by simp; omega) _).far (by simp; omega) _, ?_, (S.low.setCell (by simp; omega) _).setCell (by simp; omega) _, hl⟩
  have := (S.qP.set (P.length * 2) (.int .i64 a)).set (P.length * 2 + 1) (.int .i64 b)
  rwa [pfill_set h] at this
end
set_option linter.unusedSimpArgs false in
set_option linter.unusedVariables false in
set_option maxHeartbeats 4000000 in
set_option maxRecDepth 100000 in
theorem passTimes_any (A : Option Addr) (c : Nat) (zs : List (Int × Int)) (R : Nat) (z : Int) (w : World) (hv : chargesValid zs = true) (hf : furnaceValid (R : Int) z = true) (hr : Rd w w.heap.size A (sc zs)) :
    Calls Tryd.prog 99 #[.slice A zs.length c, .agg #[.int .i64 (R : Int), .int .i64 z]] w (PairsOk w (passUp R z zs zs.length)) := by
  obtain ⟨hl8, hall⟩ := charges_at hv
  obtain ⟨⟨hR1, hR8⟩, hz0, hz9⟩ := furnace_at hf
  have HB := hide (fun q (hq : q ≤ zs.length) => passUp_bd (R := R) (by omega) ⟨hz0, hz9⟩ hall q hq)
  have HA := hide (fun q (hq : q < zs.length) => hall zs[q] (List.getElem_mem hq))
  have HPL := hide (passUp_len R z zs)
  clear hall
  have hmk : ∀ W : World, (Instr.makeSlice 92 (.int .i64 (zs.length : Int)) (.int .i64 (zs.length : Int))).run Tryd.prog W = .ok (.slice (some ⟨W.heap.size, 0, none⟩) zs.length zs.length) (W.alloc (.cells (madeCells #[.int .i64 0, .int .i64 0] (zs.length * 2)) 91)) := by
    intro W
    obtain ⟨i0, hi, hz0, hz1, hz2⟩ := info_parts passInfo
    have hr := run_make (P := Tryd.prog) W 92 91 i0 (.agg #[.int .i64 0, .int .i64 0]) Tryd.underlying92 hi hz0 .i64 .i64 zs.length zs.length (by omega) (by omega) (by rw [hz2]; omega) (by omega)
    rw [hz1] at hr
    exact hr
  go_enter Tryd.func99, Tryd.ntmps99
  have qF := Row.new w 65 #[.int .i64 (R : Int), .int .i64 z]
  have b0 : Below w.heap.size w (w.alloc (.cells #[.int .i64 (R : Int), .int .i64 z] 65)) := by go_grown
  replace hr := hr.up b0
  have hgF : w.heap.size < (w.alloc (.cells #[.int .i64 (R : Int), .int .i64 z] 65)).heap.size := qF.lt
  go_wp2_with fail
  generalize w.alloc (.cells #[.int .i64 (R : Int), .int .i64 z] 65) = w1 at *
  refine (chargesValid_any A c zs w1 (by omega) hr).mono ?_
  rw [hv]
  rintro e w2 ⟨rfl, b1⟩
  replace qF := qF.after b1
  replace hr := hr.up b1
  replace b0 := via b0 b1 b0.size
  obtain ⟨k0, k1, _, _⟩ := pcells qF
  clear b1
  go_wp2_with fail
  refine (furnaceValid_any (R : Int) z w2).mono ?_
  rw [hf]
  rintro e w3 ⟨rfl, hw3⟩
  have b1 : Below w2.heap.size w2 w3 := by rw [← hw3]; go_grown
  replace qF := qF.after b1
  replace hr := hr.up b1
  replace b0 := via b0 b1 b0.size
  clear b1 hw3 k0 k1
  go_wp2_with fail
  have qP := Row.new w3 91 (madeCells #[.int .i64 0, .int .i64 0] (zs.length * 2))
  rw [madePairs] at qP
  have S : PtS w (w3.alloc (.cells (madeCells #[.int .i64 0, .int .i64 0] (zs.length * 2)) 91)) w3.heap.size R z A zs (pfill [] zs.length) := ⟨hr.below (by go_grown), qF.alloc _, qP, b0.alloc b0.size _, qF.lt⟩
  generalize w3.alloc (.cells (madeCells #[.int .i64 0, .int .i64 0] (zs.length * 2)) 91) = w4 at *
  generalize w3.heap.size = gP at *
  clear qP qF b0 hmk hgF
  go_loopw [22] (fun i wr => ∃ q : Nat, q ≤ zs.length ∧ i = .int .i64 q ∧ PtS w wr gP R z A zs (pfill (passUp R z zs q) zs.length)) (fun i _ => zs.length - (intOf i).toNat)
  case atStart => exact ⟨0, Nat.zero_le _, rfl, S⟩
  case round =>
    clear S
    obtain ⟨q, hq, rfl, S⟩ := hrel
    have hpl := HPL.out q
    have bz := S.low.size
    by_cases hlt : q < zs.length
    · obtain ⟨b, o, hA', hb, hc1, hc2⟩ := S.rd.pair hlt
      subst hA'
      have hpz : zs.getD q (0, 0) = zs[q] := by rw [List.getD_eq_getElem?_getD, List.getElem?_eq_getElem hlt]; rfl
      obtain ⟨⟨a0, a9⟩, n1, n9⟩ := HA.out q hlt
      have hbd := HB.out q hq
      have hup : passUp R z zs (q + 1) = passUp R z zs q ++ [(passIn R (passUp R z zs q) zs[q], passOut R z (passUp R z zs q) zs[q])] := by rw [passUp, hpz]
      obtain ⟨⟨x, y⟩, hxy⟩ : ∃ s, s = zs[q] := ⟨_, rfl⟩
      rw [← hxy] at hc1 hc2 hup a0 a9 n1 n9
      clear hxy hpz
      generalize passUp R z zs q = P at *
      simp only at hc1 hc2 a0 a9 n1 n9
      have hgP := S.qP.lt
      have i0 : (0 : Int) ≤ (q : Int) := by omega
      have i1 : (q : Int) < (zs.length : Int) := by omega
      cases q with
      | zero =>
        have hin := passIn_zero (s := (x, y)) (show 1 ≤ R by omega) hpl
        have hot := passOut_zero (z := z) (s := (x, y)) (show 1 ≤ R by omega) hpl
        simp only [Nat.zero_mul, Nat.add_zero] at hc1 hc2
        have t1 : decide ((R : Int) ≤ 0) = false := decide_eq_false (by omega)
        have hgF := S.qF.lt
        obtain ⟨F0, F1, _, _⟩ := pcells S.qF
        have hpf : 0 < (pfill P zs.length).length := by rw [pfill_len (by omega)]; omega
        obtain ⟨P0, P1⟩ := S.qP.pairc hpf
        have G0 := S.qP.frozen 0
        have G1 := S.qP.frozen 1
        simp only [Nat.zero_mul, Nat.zero_add] at P0 P1
        have e1 : max 0 (x + y) = x + y := by omega
        go_wp2_with fail
        go_roundw
        case rel =>
          rw [hin, hot] at hup
          refine ⟨1, by omega, rfl, ?_⟩
          rw [hup]
          exact ((S.put (by omega) (i := 0) (by omega) x (x + y)).alloc _).alloc _
        case measure => first | (simp [intOf]; done) | (simp [intOf]; omega)
      | succ p =>
        have hot := passOut_succ (R := R) (z := z) (s := (x, y)) hpl
        have qS := (Row.new wr 89 #[.int .i64 x, .int .i64 y]).alloc (.cells #[.int .i64 x, .int .i64 0] 91)
        have qB := Row.new (wr.alloc (.cells #[.int .i64 x, .int .i64 y] 89)) 91 #[.int .i64 x, .int .i64 0]
        have hPB : gP < (wr.alloc (.cells #[.int .i64 x, .int .i64 y] 89)).heap.size := by simp; omega
        have hSB : wr.heap.size ≠ (wr.alloc (.cells #[.int .i64 x, .int .i64 y] 89)).heap.size := by simp
        replace S := (S.alloc (.cells #[.int .i64 x, .int .i64 y] 89)).alloc (.cells #[.int .i64 x, .int .i64 0] 91)
        have hpp : p < (pfill P zs.length).length := by rw [pfill_len (by omega)]; omega
        have hpg := hide (pfill_get zs.length (show p < P.length by omega))
        have i2 : (p : Int) < (zs.length : Int) := by omega
        have i3 : (0 : Int) ≤ (p : Int) := by omega
        obtain ⟨⟨hu0, hu9⟩, hv0, hv9⟩ := hbd p (by omega)
        obtain ⟨⟨u, v⟩, huv⟩ : ∃ s, s = P.getD p (0, 0) := ⟨_, rfl⟩
        rw [← huv] at hu0 hu9 hv0 hv9 hpg hot
        simp only at hu0 hu9 hv0 hv9 hpg hot
        have hlo := hide (fun hR => passIn_lo (s := (x, y)) hpl (R := R) hR)
        have hhi := hide (fun hR => passIn_hi (s := (x, y)) hpl (R := R) hR)
        rw [← huv] at hlo hhi
        simp only at hlo hhi
        clear huv
        go_wp2_with fail
        simp only [World.size_alloc] at qS qB hPB hSB
        generalize (wr.alloc (.cells #[.int .i64 x, .int .i64 y] 89)).alloc (.cells #[.int .i64 x, .int .i64 0] 91) = w5 at *
        generalize wr.heap.size + 1 = gB at *
        generalize wr.heap.size = gS at *
        obtain ⟨m1, e1⟩ : ∃ m, max x u = m := ⟨_, rfl⟩
        have hm1 : 0 ≤ m1 ∧ m1 ≤ 3000 := by omega
        obtain ⟨F0, F1, _, _⟩ := pcells S.qF
        obtain ⟨B0, B1, f0, f1⟩ := pcells qB
        obtain ⟨P0, P1⟩ := S.qP.pairc hpp
        rw [hpg.out] at P0 P1
        go_region
        replace S := (S.far (p := ⟨gB, 0, none⟩) hPB (.int .i64 (m1))).drewS
        replace qS := (qS.far (p := ⟨gB, 0, none⟩) hSB (.int .i64 (m1))).drew
        replace qB := (qB.set 0 (.int .i64 (m1))).drew
        simp only [List.set_cons_zero, List.set_cons_succ] at qB
        clear F0 F1 B0 B1 f0 f1 P0 P1
        generalize (World.setCell _ ⟨gB, 0, none⟩ (.int .i64 (m1))).drew = wn at *
        go_wp2_with fail
        obtain ⟨F0, F1, _, _⟩ := pcells S.qF
        obtain ⟨B0, B1, f0, f1⟩ := pcells qB
        obtain ⟨P0, P1⟩ := S.qP.pairc hpp
        rw [hpg.out] at P0 P1
        go_region
        replace S := (S.far (p := ⟨gB, 1, none⟩) hPB (.int .i64 (v + z))).drewS
        replace qS := (qS.far (p := ⟨gB, 1, none⟩) hSB (.int .i64 (v + z))).drew
        replace qB := (qB.set 1 (.int .i64 (v + z))).drew
        simp only [List.set_cons_zero, List.set_cons_succ] at qB
        clear F0 F1 B0 B1 f0 f1 P0 P1
        generalize (World.setCell _ ⟨gB, 1, none⟩ (.int .i64 (v + z))).drew = wn at *
        by_cases hR : p + 1 < R
        · have hin := hlo.out hR
          rw [e1] at hin
          clear hlo hhi e1
          have t1 : decide ((R : Int) ≤ (p : Int) + 1) = false := decide_eq_false (by omega)
          obtain ⟨F0, F1, _, _⟩ := pcells S.qF
          obtain ⟨B0, B1, f0, f1⟩ := pcells qB
          obtain ⟨P0, P1⟩ := S.qP.pairc hpp
          rw [hpg.out] at P0 P1
          obtain ⟨m3, e3⟩ : ∃ m3, max (v + z) (m1 + y) = m3 := ⟨_, rfl⟩
          have e4 : max (m1 + y) (v + z) = m3 := by rw [← e3, Int.max_comm]
          rw [hin, e4] at hot
          rw [hin, hot] at hup
          have hpq : p + 1 < (pfill P zs.length).length := by rw [pfill_len (by omega)]; omega
          obtain ⟨Q0, Q1⟩ := S.qP.pairc hpq
          have G0 := S.qP.frozen ((p + 1) * 2)
          have G1 := S.qP.frozen ((p + 1) * 2 + 1)
          obtain ⟨S0, S1, _, _⟩ := pcells qS
          clear P0 P1 hin hot e4
          go_wp2_with fail
          go_roundw
          case rel =>
            refine ⟨p + 1 + 1, by omega, by go_num, ?_⟩
            rw [hup]
            exact (S.far (p := ⟨gB, 1, none⟩) hPB (.int .i64 m3)).put (by omega) (i := (p + 1) * 2) (by omega) (m1) m3
          case measure => first | (simp [intOf]; done) | (simp [intOf]; omega)
        · have hin := hhi.out (by omega)
          rw [e1] at hin
          have hbv := (hbd (p + 1 - R) (by omega)).2
          have hpe := hide (pfill_get zs.length (show p + 1 - R < P.length by omega))
          have hpr : p + 1 - R < (pfill P zs.length).length := by rw [pfill_len (by omega)]; omega
          generalize (P.getD (p + 1 - R) (0, 0)) = uv at *
          clear hlo hhi e1
          have t1 : decide ((R : Int) ≤ (p : Int) + 1) = true := decide_eq_true (by omega)
          have k1 : (0 : Int) ≤ (p : Int) + 1 - (R : Int) := by omega
          have k2 : (p : Int) + 1 - (R : Int) < (zs.length : Int) := by omega
          have k3 : ((p : Int) + 1 - (R : Int)).toNat = p + 1 - R := by omega
          obtain ⟨m2, e2⟩ : ∃ m, max m1 uv.2 = m := ⟨_, rfl⟩
          have hm2 : 0 ≤ m2 ∧ m2 ≤ 4000 := by omega
          rw [e2] at hin
          have P2 := (S.qP.pairc hpr).2
          rw [hpe.out] at P2
          obtain ⟨F0, F1, _, _⟩ := pcells S.qF
          obtain ⟨B0, B1, f0, f1⟩ := pcells qB
          obtain ⟨P0, P1⟩ := S.qP.pairc hpp
          rw [hpg.out] at P0 P1
          go_wp2_with fail
          go_region
          clear P2 k1 k2 k3 e2 hpe
          replace S := (S.far (p := ⟨gB, 0, none⟩) hPB (.int .i64 (m2))).drewS
          replace qS := (qS.far (p := ⟨gB, 0, none⟩) hSB (.int .i64 (m2))).drew
          replace qB := (qB.set 0 (.int .i64 (m2))).drew
          simp only [List.set_cons_zero, List.set_cons_succ] at qB
          clear F0 F1 B0 B1 f0 f1 P0 P1
          generalize (World.setCell _ ⟨gB, 0, none⟩ (.int .i64 (m2))).drew = wn at *
          obtain ⟨F0, F1, _, _⟩ := pcells S.qF
          obtain ⟨B0, B1, f0, f1⟩ := pcells qB
          obtain ⟨P0, P1⟩ := S.qP.pairc hpp
          rw [hpg.out] at P0 P1
          obtain ⟨m3, e3⟩ : ∃ m3, max (v + z) (m2 + y) = m3 := ⟨_, rfl⟩
          have e4 : max (m2 + y) (v + z) = m3 := by rw [← e3, Int.max_comm]
          rw [hin, e4] at hot
          rw [hin, hot] at hup
          have hpq : p + 1 < (pfill P zs.length).length := by rw [pfill_len (by omega)]; omega
          obtain ⟨Q0, Q1⟩ := S.qP.pairc hpq
          have G0 := S.qP.frozen ((p + 1) * 2)
          have G1 := S.qP.frozen ((p + 1) * 2 + 1)
          obtain ⟨S0, S1, _, _⟩ := pcells qS
          clear P0 P1 hin hot e4
          go_wp2_with fail
          go_roundw
          case rel =>
            refine ⟨p + 1 + 1, by omega, by go_num, ?_⟩
            rw [hup]
            exact (S.far (p := ⟨gB, 1, none⟩) hPB (.int .i64 m3)).put (by omega) (i := (p + 1) * 2) (by omega) (m2) m3
          case measure => first | (simp [intOf]; done) | (simp [intOf]; omega)
    · obtain rfl : q = zs.length := by omega
      have hp : pfill (passUp R z zs zs.length) zs.length = passUp R z zs zs.length := by unfold pfill; rw [hpl, Nat.sub_self, List.replicate_zero, List.append_nil]
      rw [hp] at S
      go_wp2_with fail
      go_ret
      exact ⟨some ⟨gP, 0, none⟩, zs.length, by rw [hpl]; rfl, S.qP.rd, S.low⟩
end Go.Proofs.YtcdoopccmljaoaaDoor
