/- The program's lengths of the longest rounds. No conditions but valid sheets. -/
import Derived.Test.YtcdoopccmljaoaaDoorSortCmp
namespace Go.Proofs.YtcdoopccmljaoaaDoor
open Go.ChangeShapes Go.WideShapes Go.ChangeAt Go.RowKit Go.Deep
theorem range_fill (n q : Nat) (h : q < n) : (List.range q ++ List.replicate (n - q) 0).set q q = List.range (q + 1) ++ List.replicate (n - (q + 1)) 0 := by
  have e : n - q = (n - (q + 1)) + 1 := by omega
  rw [List.set_append_right _ _ (by rw [List.length_range]; exact Nat.le_refl _), List.length_range, Nat.sub_self, e, List.replicate_succ, List.set_cons_zero, List.range_succ, List.append_assoc]
  rfl
theorem int_max3 (a b : Nat) : max (a : Int) ((b : Int) + 1) = ((max a (b + 1) : Nat) : Int) := by omega
theorem ord_nil {zs : List (Int × Int)} (h : zs.length = 0) : Ord zs [] := ⟨h.symm, by simp, List.nodup_nil, fun x hx => by omega, fun i hi => by simp at hi⟩
theorem Row.eqB {w : World} {g g' : Nat} {T : TypeId} {xs : List Value} (h : Row w g T xs) (e : g = g') : Row w g' T xs := e ▸ h
/-- The boxes of the program's reckoning: the list, the jump, the order, the lengths. -/
structure RfS (w wr : World) (gL gJ gO gV : Nat) (A : Option Addr) (n c : Nat) (j k : Int) (o v : List Nat) : Prop where
  ms : MoS w wr gJ gV j k v
  lb : Row wr gL 42 [.slice A n c]
  ro : Row wr gO 3 (nc o)
  hL : gL < gV
  hO : gO < gV
section
variable {w wr w' : World} {gL gJ gO gV : Nat} {A : Option Addr} {n c : Nat} {j k : Int} {o v : List Nat}
theorem RfS.up (h : RfS w wr gL gJ gO gV A n c j k o v) (hb : Below wr.heap.size wr w') : RfS w w' gL gJ gO gV A n c j k o v := ⟨h.ms.up hb, h.lb.after hb, h.ro.after hb, h.hL, h.hO⟩
theorem RfS.set (h : RfS w wr gL gJ gO gV A n c j k o v) (a x : Nat) : RfS w (wr.setCell ⟨gV, a, none⟩ (.int .i64 (x : Int))) gL gJ gO gV A n c j k o (v.set a x) := by
  have h1 := h.hL; have h2 := h.hO
  exact ⟨h.ms.set a x, h.lb.far (by simp only; omega) _, h.ro.far (by simp only; omega) _, h1, h2⟩
theorem RfS.drewS (h : RfS w wr gL gJ gO gV A n c j k o v) : RfS w wr.drew gL gJ gO gV A n c j k o v := h.up (Below.refl _ _).drew
end
theorem sortW_all (gL : Nat) (A : Option Addr) (c B G cap : Nat) (zs : List (Int × Int)) (w : World) (hv : sheetsValid zs = true) (hq : Row w G 3 (nc (List.range zs.length))) (hb : w.cell? ⟨gL, 0, none⟩ = some (.slice A zs.length c)) (hgL : gL < G) (hr : Rd w B A (sc zs)) (hB : B ≤ G) :
    Calls Tryd.prog 103 #[.slice (some ⟨G, 0, none⟩) zs.length cap, .func (.func 104) #[] #[.pointer (some ⟨gL, 0, none⟩)]] w fun e w' => e = .returned (.tuple #[]) ∧ ∃ o : List Nat, Ord zs o ∧ Row w' G 3 (nc o) ∧ w.grownBy w' (some G) := by
  by_cases hn : 0 < zs.length
  · exact sortW_any gL A c B G cap zs w hv hn hq hb hgL hr hB
  · have h0 : zs.length = 0 := by omega
    have hS := AnyF.slices_SortFunc_none (P := Tryd.prog) (ρ := sortFL_ren) { sortFL with } (some ⟨G, 0, none⟩) cap (.func (.func 104) #[] #[.pointer (some ⟨gL, 0, none⟩)]) w
    change Calls Tryd.prog 103 _ _ _ at hS
    rw [h0] at hq ⊢
    refine hS.mono ?_
    rintro e w' ⟨rfl, rfl⟩
    exact ⟨rfl, [], ord_nil h0, hq, World.grownBy.refl _ _⟩
set_option linter.unusedSimpArgs false in
set_option linter.unusedVariables false in
set_option maxHeartbeats 4000000 in
set_option maxRecDepth 100000 in
theorem roundsFrom_any (A : Option Addr) (c : Nat) (zs : List (Int × Int)) (j k : Int) (w : World) (hv : sheetsValid zs = true) (hr : Rd w w.heap.size A (sc zs)) :
    Calls Tryd.prog 82 #[.slice A zs.length c, .agg #[.int .i64 j, .int .i64 k]] w (IntsOk w (farL zs j k)) := by
  have h9 := sheets_nine hv
  have hFL := farL_len zs j k
  have hV := hide hv
  clear hv
  have hmk := run_make_row' (P := Tryd.prog) 45 3 (.int .i64 0) 8 Tryd.underlying45 intInfo rfl .i64 .i64 zs.length (by omega) (by omega)
  have ez : (madeCells #[.int .i64 0] zs.length).toList = nc (List.replicate zs.length 0) := by
    rw [toList_madeCells_one]; simp [nc, ic]
  go_enter Tryd.func82, Tryd.ntmps82
  go_wp2_with fail
  have q0 := ((Row.new w 42 #[.slice A zs.length c]).alloc (.cells #[.int .i64 j, .int .i64 k] 32)).alloc (.cells (madeCells #[.int .i64 0] zs.length) 3)
  have q1 : Row (((w.alloc (.cells #[.slice A zs.length c] 42)).alloc (.cells #[.int .i64 j, .int .i64 k] 32)).alloc (.cells (madeCells #[.int .i64 0] zs.length) 3)) (w.heap.size + 1) 32 [.int .i64 j, .int .i64 k] := ((Row.new (w.alloc (.cells #[.slice A zs.length c] 42)) 32 #[.int .i64 j, .int .i64 k]).eqB (by simp)).alloc (.cells (madeCells #[.int .i64 0] zs.length) 3)
  have q2 : Row (((w.alloc (.cells #[.slice A zs.length c] 42)).alloc (.cells #[.int .i64 j, .int .i64 k] 32)).alloc (.cells (madeCells #[.int .i64 0] zs.length) 3)) (w.heap.size + 1 + 1) 3 (nc (List.replicate zs.length 0)) := by
    rw [← ez]; exact (Row.new ((w.alloc (.cells #[.slice A zs.length c] 42)).alloc (.cells #[.int .i64 j, .int .i64 k] 32)) 3 (madeCells #[.int .i64 0] zs.length)).eqB (by simp)
  have b0 : Below w.heap.size w (((w.alloc (.cells #[.slice A zs.length c] 42)).alloc (.cells #[.int .i64 j, .int .i64 k] 32)).alloc (.cells (madeCells #[.int .i64 0] zs.length) 3)) := by go_grown
  generalize ((w.alloc (.cells #[.slice A zs.length c] 42)).alloc (.cells #[.int .i64 j, .int .i64 k] 32)).alloc (.cells (madeCells #[.int .i64 0] zs.length) 3) = w0 at *
  go_loopw [16] (fun i wr => ∃ q : Nat, q ≤ zs.length ∧ i = .int .i64 q ∧ Row wr w.heap.size 42 [.slice A zs.length c] ∧ Row wr (w.heap.size + 1) 32 [.int .i64 j, .int .i64 k] ∧ Row wr (w.heap.size + 1 + 1) 3 (nc (List.range q ++ List.replicate (zs.length - q) 0)) ∧ Below w.heap.size w wr) (fun i _ => zs.length - (intOf i).toNat)
  case atStart => exact ⟨0, Nat.zero_le _, rfl, q0, q1, by simpa using q2, b0⟩
  case round =>
    clear q0 q1 q2 b0
    obtain ⟨q, hq, rfl, q0, q1, q2, b0⟩ := hrel
    by_cases hlt : q < zs.length
    · have hset := hide (range_fill zs.length q hlt)
      have hlen : (List.range q ++ List.replicate (zs.length - q) 0).length = zs.length := by simp; omega
      generalize List.range q ++ List.replicate (zs.length - q) 0 = v at *
      have c1 := q2.cell (j := q) (by rw [nc_len]; omega)
      have f1 := q2.frozen q
      have q3 := q2.set q (.int .i64 (q : Int))
      rw [← nc_set, hset.out] at q3
      have q0' := q0.far (p := ⟨w.heap.size + 1 + 1, q, none⟩) (by simp only; omega) (.int .i64 (q : Int))
      have q1' := q1.far (p := ⟨w.heap.size + 1 + 1, q, none⟩) (by simp only; omega) (.int .i64 (q : Int))
      have b1 := b0.setCell (p := ⟨w.heap.size + 1 + 1, q, none⟩) (by simp only; omega) (.int .i64 (q : Int))
      clear q0 q1 q2 b0 hset
      go_wp2_with fail
      go_roundw
      case rel => exact ⟨q + 1, by omega, by go_num, q0', q1', q3, b1⟩
      case measure => first | (simp [intOf]; done) | (simp [intOf]; omega)
    · obtain rfl : q = zs.length := by omega
      rw [Nat.sub_self, List.replicate_zero, List.append_nil] at q2
      have hb := q0.cell (j := 0) (by simp)
      simp only [List.getElem_cons_zero] at hb
      go_wp2_with fail
      refine (sortW_all w.heap.size A c w.heap.size (w.heap.size + 1 + 1) zs.length zs wr hV.out q2 hb (by omega) (hr.below b0) (by omega)).mono ?_
      rintro e w2 ⟨rfl, o, hO, ho, hg⟩
      have q0' := q0.kept hg (by intro e; injection e with e; omega)
      have q1' := q1.kept hg (by intro e; injection e with e; omega)
      have b2 := b0.grown hg b0.size (fun k e => by cases e; omega)
      have hb2 := q0'.cell (j := 0) (by simp)
      simp only [List.getElem_cons_zero] at hb2
      have z2 := ho.lt
      have hO := hide hO
      have hol := hO.out.len
      have S : RfS w (w2.alloc (.cells (madeCells #[.int .i64 0] zs.length) 3)) w.heap.size (w.heap.size + 1) (w.heap.size + 1 + 1) w2.heap.size A zs.length c j k o (List.replicate zs.length 0) :=
        ⟨⟨q1'.alloc _, by rw [← ez]; exact Row.new _ _ _, b2.alloc b2.size _, by omega, by omega⟩, q0'.alloc _, ho.alloc _, by omega, by omega⟩
      have hF : Hid (FarAt zs j k o 0 (List.replicate zs.length 0)) := hide farAt_start
      clear q0 q1 q2 b0 q0' q1' b2 ho hg hb
      go_wp2_with fail
      clear hb2
      generalize w2.alloc (.cells (madeCells #[.int .i64 0] zs.length) 3) = w3 at *
      generalize w2.heap.size = gV at *
      go_loopw [32] (fun i wr => ∃ (q : Nat) (v : List Nat), q ≤ zs.length ∧ i = .int .i64 q ∧ Hid (FarAt zs j k o q v) ∧ RfS w wr w.heap.size (w.heap.size + 1) (w.heap.size + 1 + 1) gV A zs.length c j k o v) (fun i _ => zs.length - (intOf i).toNat)
      case atStart => exact ⟨0, _, Nat.zero_le _, rfl, hF, S⟩
      case round =>
        clear S hF
        obtain ⟨q, v, hq, rfl, hF, S⟩ := hrel
        by_cases hlt : q < zs.length
        · have hqo : q < o.length := by omega
          have hbf := hO.out.rng _ (List.getElem_mem hqo)
          have hco := S.ro.cell (j := q) (by rw [nc_len]; exact hqo)
          rw [nc_get hqo, List.getD_eq_getElem?_getD, List.getElem?_eq_getElem hqo, Option.getD_some] at hco
          have HS := hide (farAt_step hO.out hF.out hqo)
          have HR := hide (fun b hb hf y => farAt_read hO.out hF.out hqo (b := b) hb hf y)
          have hvl := hF.out.len
          generalize o[q] = a at *
          have c1 := S.ms.get (a := a) (by omega)
          have f1 := S.ms.rv.frozen a
          have S1 : RfS w (wr.setCell ⟨gV, a, none⟩ (.int .i64 1)) w.heap.size (w.heap.size + 1) (w.heap.size + 1 + 1) gV A zs.length c j k o (v.set a 1) := S.set a 1
          have l1 := S.lb.cell (j := 0) (by simp)
          simp only [List.getElem_cons_zero] at l1
          have hLV := S.hL
          have hne : w.heap.size ≠ gV := by omega
          have i0 : (0 : Int) ≤ (a : Int) := by omega
          have i1 : (a : Int) < (zs.length : Int) := by omega
          obtain ⟨wo1, rfl⟩ : ∃ wo : World, wo = wr := ⟨_, rfl⟩
          clear S hF
          go_wp2_with fail
          clear c1 f1 hco l1
          generalize wo1.setCell ⟨gV, a, none⟩ (.int .i64 1) = w5 at *
          go_loopw [41] (fun i wr => ∃ b : Nat, b ≤ zs.length ∧ i = .int .i64 b ∧ RfS w wr w.heap.size (w.heap.size + 1) (w.heap.size + 1 + 1) gV A zs.length c j k o (v.set a (1 + maxOver (fol zs j k a) (far zs.length (fol zs j k)) b))) (fun i _ => zs.length - (intOf i).toNat)
          case atStart => exact ⟨0, Nat.zero_le _, rfl, S1⟩
          case round =>
            clear S1
            obtain ⟨b, hb, rfl, S⟩ := hrel
            by_cases hlb : b < zs.length
            · obtain ⟨m0, m1⟩ := S.ms.jc
              have l1 := S.lb.cell (j := 0) (by simp)
              simp only [List.getElem_cons_zero] at l1
              have HF := hide (follows_any A c zs j k a b wr hbf hlb (hr.up S.ms.low))
              have i2 : (0 : Int) ≤ (b : Int) := by omega
              have i3 : (b : Int) < (zs.length : Int) := by omega
              have hvl2 : (v.set a (1 + maxOver (fol zs j k a) (far zs.length (fol zs j k)) b)).length = zs.length := by rw [List.length_set]; exact hvl
              have HX : (v.set a (1 + maxOver (fol zs j k a) (far zs.length (fol zs j k)) b)).getD a 0 = 1 + maxOver (fol zs j k a) (far zs.length (fol zs j k)) b := getD_set_eq (by omega)
              cases hf : fol zs j k a b
              · have hac := acc_no (f := far zs.length (fol zs j k)) hf
                rw [hf] at HF
                rw [← hac] at S
                clear HX hvl2 hac hf
                go_wp2_with fail
                refine HF.out.mono ?_
                rintro e w6 ⟨rfl, b6⟩
                replace S := S.up b6
                clear HF m0 m1 l1 b6
                go_wp2_with fail
                go_roundw
                case rel => exact ⟨b + 1, by omega, by go_num, S⟩
                case measure => first | (simp [intOf]; done) | (simp [intOf]; omega)
              · have hac := acc_yes (f := far zs.length (fol zs j k)) hf
                have hy := HR.out b hlb hf (1 + maxOver (fol zs j k a) (far zs.length (fol zs j k)) b)
                rw [hf] at HF
                have hfb : far zs.length (fol zs j k) b ≤ zs.length := long_le_t _ _ _ _
                have hx9 : 1 + maxOver (fol zs j k a) (far zs.length (fol zs j k)) b ≤ 1 + zs.length := by
                  have hm : maxOver (fol zs j k a) (far zs.length (fol zs j k)) b ≤ zs.length := maxOver_le.2 fun x _ _ => long_le_t zs.length (fol zs j k) zs.length x
                  omega
                go_wp2_with fail
                refine HF.out.mono ?_
                rintro e w6 ⟨rfl, b6⟩
                replace S := S.up b6
                have c1 := S.ms.get (a := a) (by omega)
                have c2 := S.ms.get (a := b) (by omega)
                have f1 := S.ms.rv.frozen a
                rw [HX] at c1
                rw [hy] at c2
                have S1 := (S.set a (max (1 + maxOver (fol zs j k a) (far zs.length (fol zs j k)) b) (far zs.length (fol zs j k) b + 1))).drewS
                rw [List.set_set] at S1
                have hac := hide hac
                clear HF m0 m1 l1 b6 S HX hy hf hvl2
                generalize 1 + maxOver (fol zs j k a) (far zs.length (fol zs j k)) b = x at *
                generalize far zs.length (fol zs j k) b = y at *
                have e2 := int_max3 x y
                go_wp2_with fail
                go_region
                go_wp2_with fail
                go_roundw
                case rel => exact ⟨b + 1, by omega, by go_num, by rw [hac.out]; exact S1⟩
                case measure => first | (simp [intOf]; done) | (simp [intOf]; omega)
            · obtain rfl : b = zs.length := by omega
              go_wp2_with fail
              go_roundw
              case rel => exact ⟨q + 1, _, by omega, by go_num, HS, S⟩
              case measure => first | (simp [intOf]; done) | (simp [intOf]; omega)
        · obtain rfl : q = zs.length := by omega
          have hfin : v.map (fun (i : Nat) => (i : Int)) = farL zs j k := farAt_end hO.out (by rw [hol]; exact hF.out)
          have rv := S.ms.rv
          have hlow := S.ms.low
          have h1 := S.ms.lJ
          have h2 := S.ms.lV
          unfold nc at rv
          rw [hfin] at rv
          clear hF S hfin
          go_wp2
          go_ret
          refine ⟨some ⟨gV, 0, none⟩, zs.length, ?_, rv.own (by omega), hlow⟩
          rw [hFL]; rfl
end Go.Proofs.YtcdoopccmljaoaaDoor
