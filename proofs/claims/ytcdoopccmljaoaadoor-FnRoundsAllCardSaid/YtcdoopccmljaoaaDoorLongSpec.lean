/- The reference's lengths of the longest rounds. No conditions but valid sheets. -/
import Derived.Test.YtcdoopccmljaoaaDoorRoundLong
import Derived.Test.YtcdoopccmljaoaaDoorListKit
import Derived.Test.YtcdoopccmljaoaaDoorExt
import Derived.Test.YtcdoopccmljaoaaDoorApp
namespace Go.Proofs.YtcdoopccmljaoaaDoor
open Go.ChangeShapes Go.WideShapes Go.ChangeAt Go.RowKit Go.Deep
theorem sheets_nine {zs : List (Int × Int)} (h : sheetsValid zs = true) : zs.length ≤ 9 := by
  unfold sheetsValid at h
  simp only [Bool.and_eq_true, decide_eq_true_eq] at h
  exact h.1
/-- Numbers as a row shows them. -/
def nc (v : List Nat) : List Value := ic (v.map fun (i : Nat) => (i : Int))
theorem nc_len (v : List Nat) : (nc v).length = v.length := by unfold nc; rw [ic_len, List.length_map]
theorem nc_set (v : List Nat) (a x : Nat) : nc (v.set a x) = (nc v).set a (.int .i64 (x : Int)) := asN_set v a x
theorem nc_get {v : List Nat} {a : Nat} (h : a < v.length) : (nc v)[a]'(by rw [nc_len]; exact h) = .int .i64 ((v.getD a 0 : Nat) : Int) := by
  unfold nc
  rw [ic_get _ _ (by rw [List.length_map]; exact h), List.getElem_map, List.getD_eq_getElem?_getD, List.getElem?_eq_getElem h]; rfl
/-- The boxes while lengths are reckoned: the jump, the row of lengths. -/
structure MoS (w wr : World) (gJ gV : Nat) (j k : Int) (v : List Nat) : Prop where
  jb : Row wr gJ 32 [.int .i64 j, .int .i64 k]
  rv : Row wr gV 3 (nc v)
  low : Below w.heap.size w wr
  lJ : w.heap.size ≤ gJ
  lV : gJ < gV
section
variable {w wr w' : World} {gJ gV : Nat} {j k : Int} {v : List Nat}
theorem MoS.up (h : MoS w wr gJ gV j k v) (hb : Below wr.heap.size wr w') : MoS w w' gJ gV j k v :=
  ⟨h.jb.after hb, h.rv.after hb, via h.low hb h.low.size, h.lJ, h.lV⟩
theorem MoS.set (h : MoS w wr gJ gV j k v) (a x : Nat) : MoS w (wr.setCell ⟨gV, a, none⟩ (.int .i64 (x : Int))) gJ gV j k (v.set a x) := by
  have h1 := h.lJ; have h2 := h.lV
  exact ⟨h.jb.far (by simp only; omega) _, by rw [nc_set]; exact h.rv.set a _, h.low.setCell (by simp only; omega) _, h1, h2⟩
theorem MoS.get (h : MoS w wr gJ gV j k v) {a : Nat} (ha : a < v.length) : wr.cell? ⟨gV, a, none⟩ = some (.int .i64 ((v.getD a 0 : Nat) : Int)) := by
  have := h.rv.cell (j := a) (by rw [nc_len]; exact ha)
  rw [nc_get ha] at this
  exact this
theorem MoS.jc (h : MoS w wr gJ gV j k v) : wr.cell? ⟨gJ, 0, none⟩ = some (.int .i64 j) ∧ wr.cell? ⟨gJ, 1, none⟩ = some (.int .i64 k) := ⟨h.jb.cell (j := 0) (by simp), h.jb.cell (j := 1) (by simp)⟩
theorem MoS.drewS (h : MoS w wr gJ gV j k v) : MoS w wr.drew gJ gV j k v := h.up (Below.refl _ _).drew
end
theorem int_max (a b : Nat) : max (a : Int) (b : Int) = ((max a b : Nat) : Int) := by omega
theorem int_max1 (a : Nat) : max (a : Int) 1 = ((max a 1 : Nat) : Int) := by omega
theorem int_max2 (a b : Nat) : max (a : Int) (1 + (b : Int)) = ((max a (1 + b) : Nat) : Int) := by omega
set_option linter.unusedSimpArgs false in
set_option linter.unusedVariables false in
set_option maxHeartbeats 4000000 in
set_option maxRecDepth 100000 in
theorem l5Long_any (A : Option Addr) (c : Nat) (zs : List (Int × Int)) (j k : Int) (w : World) (hv : sheetsValid zs = true) (hr : Rd w w.heap.size A (sc zs)) :
    Calls Tryd.prog 85 #[.slice A zs.length c, .agg #[.int .i64 j, .int .i64 k]] w (IntsOk w (farL zs j k)) := by
  have h9 := sheets_nine hv
  have hR := hide (ranked zs j k)
  have HFN := hide (fun v (hl : v.length = zs.length) h => farL_of (zs := zs) (j := j) (k := k) (v := v) hl h)
  have hFL := farL_len zs j k
  clear hv
  have hmk := run_make_row' (P := Tryd.prog) 45 3 (.int .i64 0) 8 Tryd.underlying45 intInfo rfl .i64 .i64 zs.length (by omega) (by omega)
  go_enter Tryd.func85, Tryd.ntmps85
  go_wp2_with fail
  have q0 := (Row.new w 32 #[.int .i64 j, .int .i64 k]).alloc (.cells (madeCells #[.int .i64 0] zs.length) 3)
  have q1 := Row.new (w.alloc (.cells #[.int .i64 j, .int .i64 k] 32)) 3 (madeCells #[.int .i64 0] zs.length)
  have b0 : Below w.heap.size w ((w.alloc (.cells #[.int .i64 j, .int .i64 k] 32)).alloc (.cells (madeCells #[.int .i64 0] zs.length) 3)) := by go_grown
  have e1 : (madeCells #[.int .i64 0] zs.length).toList = nc (List.replicate zs.length 0) := by
    rw [toList_madeCells_one]; simp [nc, ic]
  rw [e1] at q1
  have S : MoS w ((w.alloc (.cells #[.int .i64 j, .int .i64 k] 32)).alloc (.cells (madeCells #[.int .i64 0] zs.length) 3)) w.heap.size (w.alloc (.cells #[.int .i64 j, .int .i64 k] 32)).heap.size j k (List.replicate zs.length 0) := ⟨q0, q1, b0, Nat.le_refl _, by simp⟩
  have hL : Hid (LgAt zs.length (fol zs j k) 0 0 0 (List.replicate zs.length 0)) := hide (lg_start _ _)
  clear q0 q1 b0 e1 hmk
  simp only [World.size_alloc] at S
  go_loopw [6] (fun i wr => ∃ (t : Nat) (v : List Nat), t ≤ zs.length ∧ i = .int .i64 t ∧ Hid (LgAt zs.length (fol zs j k) t 0 0 v) ∧ MoS w wr w.heap.size (w.heap.size + 1) j k v) (fun i _ => zs.length - (intOf i).toNat)
  case atStart => exact ⟨0, _, Nat.zero_le _, rfl, hL, S⟩
  case round =>
    clear S hL
    obtain ⟨t, v, ht, rfl, hL, S⟩ := hrel
    by_cases hlt : t < zs.length
    · obtain ⟨wo1, rfl⟩ : ∃ wo : World, wo = wr := ⟨_, rfl⟩
      go_wp2_with fail
      go_loopw [7] (fun i wr => ∃ (a : Nat) (v : List Nat), a ≤ zs.length ∧ i = .int .i64 a ∧ Hid (LgAt zs.length (fol zs j k) t a 0 v) ∧ MoS w wr w.heap.size (w.heap.size + 1) j k v) (fun i _ => zs.length - (intOf i).toNat)
      case atStart => exact ⟨0, v, Nat.zero_le _, rfl, hL, S⟩
      case round =>
        clear S hL
        obtain ⟨a, v, ha, rfl, hL, S⟩ := hrel
        by_cases hla : a < zs.length
        · have hvl := hL.out.len
          have hL1 := hide (lg_one hR.out hL.out hla)
          have c1 := S.get (a := a) (by omega)
          have f1 := S.rv.frozen a
          have S1 := S.set a (max (v.getD a 0) 1)
          have hb1 : v.getD a 0 ≤ zs.length := Nat.le_trans (hL.out.hi a hla) (long_le_t _ _ _ _)
          generalize v.getD a 0 = x at *
          have e1 := int_max1 x
          have i0 : (0 : Int) ≤ (a : Int) := by omega
          have i1 : (a : Int) < (zs.length : Int) := by omega
          clear hL S
          go_wp2_with fail
          (try rw [e1])
          generalize wr.setCell ⟨w.heap.size + 1, a, none⟩ (.int .i64 ((max x 1 : Nat) : Int)) = w1 at *
          generalize v.set a (max x 1) = v1 at *
          clear c1 f1 e1 hb1
          obtain ⟨wo2, rfl⟩ : ∃ wo : World, wo = wr := ⟨_, rfl⟩
          go_loopw [8] (fun i wr => ∃ (b : Nat) (v : List Nat), b ≤ zs.length ∧ i = .int .i64 b ∧ Hid (LgAt zs.length (fol zs j k) t a (1 + maxOver (fol zs j k a) (long zs.length (fol zs j k) t) b) v) ∧ MoS w wr w.heap.size (w.heap.size + 1) j k v) (fun i _ => zs.length - (intOf i).toNat)
          case atStart => exact ⟨0, v1, Nat.zero_le _, rfl, hL1, S1⟩
          case round =>
            clear S1 hL1
            obtain ⟨b, v, hb, rfl, hL, S⟩ := hrel
            by_cases hlb : b < zs.length
            · have hvl := hL.out.len
              obtain ⟨m0, m1⟩ := S.jc
              have HF := hide (l5After_any A c zs j k a b wr hla hlb (hr.up S.low))
              have HY := hide (fun hF => lg_yes hR.out hL.out hla hlb hF)
              have HN := hide (fun hF => lg_no hL.out hF)
              have hx9 : v.getD a 0 ≤ zs.length := Nat.le_trans (hL.out.hi a hla) (long_le_t _ _ _ _)
              have hy9 : v.getD b 0 ≤ zs.length := Nat.le_trans (hL.out.hi b hlb) (long_le_t _ _ _ _)
              have i2 : (0 : Int) ≤ (b : Int) := by omega
              have i3 : (b : Int) < (zs.length : Int) := by omega
              generalize fol zs j k a b = F at *
              clear hL
              go_wp2_with fail
              refine HF.out.mono ?_
              rintro e w2 ⟨rfl, b2⟩
              replace S := S.up b2
              clear HF m0 m1 b2
              cases F
              · have HN1 := hide (HN.out (by first | rfl | trivial))
                clear HY HN
                go_wp2_with fail
                go_roundw
                case rel => exact ⟨b + 1, v, by omega, by go_num, HN1, S⟩
                case measure => first | (simp [intOf]; done) | (simp [intOf]; omega)
              · have HY1 := hide (HY.out (by first | rfl | trivial))
                have c1 := S.get (a := a) (by omega)
                have c2 := S.get (a := b) (by omega)
                have f1 := S.rv.frozen a
                have S1 := (S.set a (max (v.getD a 0) (1 + v.getD b 0))).drewS
                generalize v.getD a 0 = x at *
                generalize v.getD b 0 = y at *
                have e2 := int_max2 x y
                clear S HN HY
                go_wp2_with fail
                go_region
                go_wp2_with fail
                go_roundw
                case rel => exact ⟨b + 1, _, by omega, by go_num, HY1, S1⟩
                case measure => first | (simp [intOf]; done) | (simp [intOf]; omega)
            · obtain rfl : b = zs.length := by omega
              have hL2 := hide (lg_next hL.out)
              clear hL
              go_wp2_with fail
              go_roundw
              case rel => exact ⟨a + 1, v, by omega, by go_num, hL2, S⟩
              case measure => first | (simp [intOf]; done) | (simp [intOf]; omega)
        · obtain rfl : a = zs.length := by omega
          have hL2 := hide (lg_round hL.out)
          clear hL
          go_wp2_with fail
          go_roundw
          case rel => exact ⟨t + 1, v, by omega, by go_num, hL2, S⟩
          case measure => first | (simp [intOf]; done) | (simp [intOf]; omega)
    · obtain rfl : t = zs.length := by omega
      have hfin := HFN.out v hL.out.len (lg_done hL.out)
      have rv := S.rv
      have hlow := S.low
      unfold nc at rv
      rw [hfin] at rv
      clear hL S hfin
      go_wp2
      go_ret
      refine ⟨some ⟨w.heap.size + 1, 0, none⟩, zs.length, ?_, rv.own (by omega), hlow⟩
      rw [hFL]; rfl
end Go.Proofs.YtcdoopccmljaoaaDoor
