/- When the last slab leaves two furnaces, the program's and the reference's. Conditions: valid slabs, a valid furnace, a number below two to the slabs. -/
import Derived.Test.YtcdoopccmljaoaaDoorPassEnd
import Derived.Deep.RegionHeld3
namespace Go.Proofs.YtcdoopccmljaoaaDoor
open Go.ChangeShapes Go.WideShapes Go.ChangeAt Go.RowKit Go.Deep
theorem chargeInfo : (Tryd.prog.info? 89).map (fun i => (i.zero, i.size, i.bytes)) = some (some (.agg #[.int .i64 0, .int .i64 0]), 2, 16) := by kernel_rfl
theorem chargeElem : Elem 63 89 (.agg #[.int .i64 0, .int .i64 0]) 2 16 := ⟨Tryd.underlying63, by kernel_rfl, rfl, by decide, by decide⟩
theorem setOf_nilT {α : Type} (zs : List α) (s : Nat) (b : Bool) : setOf (zs.take 0) s b = [] := rfl
theorem bit_rem {s q d : Nat} {b : Bool} (hd : (d = 0 ∧ b = false) ∨ (d = 1 ∧ b = true)) : (((s : Int) / 2 ^ q).tmod 2 == (d : Int)) = (s.testBit q == b) := by
  have e : (s : Int) / 2 ^ q = ((s / 2 ^ q : Nat) : Int) := by push_cast; rfl
  rw [e, Int.tmod_eq_emod_of_nonneg (Int.natCast_nonneg _), Nat.testBit_eq_decide_div_mod_eq]
  generalize s / 2 ^ q = x
  rcases hd with ⟨rfl, rfl⟩ | ⟨rfl, rfl⟩
  · by_cases h : x % 2 = 1
    · rw [decide_eq_true h]; exact beq_false_of_ne (by omega)
    · rw [decide_eq_false h]; exact beq_iff_eq.2 (by omega)
  · by_cases h : x % 2 = 1
    · rw [decide_eq_true h]; exact beq_iff_eq.2 (by omega)
    · rw [decide_eq_false h]; exact beq_false_of_ne (by omega)
/-- A row of pairs of the call's own, grown by appends. -/
structure GrS (w wr : World) (A : Option Addr) (zs : List (Int × Int)) (v : Value) (P : List (Int × Int)) : Prop where
  rd : Rd wr wr.heap.size A (sc zs)
  own : wr.ownsRow w.heap.size 89 2 v P.length (sc P)
  low : Below w.heap.size w wr
set_option linter.unusedSimpArgs false in
set_option linter.unusedVariables false in
set_option maxHeartbeats 4000000 in
set_option maxRecDepth 100000 in
theorem l4Set_any (A : Option Addr) (c : Nat) (zs : List (Int × Int)) (s d : Nat) (b : Bool) (w : World) (hd : (d = 0 ∧ b = false) ∨ (d = 1 ∧ b = true)) (hl8 : zs.length ≤ 8) (hs : s ≤ 255) (hr : Rd w w.heap.size A (sc zs)) :
    Calls Tryd.prog 109 #[.slice A zs.length c, .int .i64 (s : Int), .int .i64 (d : Int)] w (PairsOk w (setOf zs s b)) := by
  have HT := hide (fun q (h : q < zs.length) => setOf_take zs s b h)
  have HL := hide (fun q => Nat.le_trans (setOf_len (zs.take q) s b) (by rw [List.length_take]; exact Nat.min_le_right _ _))
  go_enter Tryd.func109, Tryd.ntmps109
  go_wp2_with fail
  have oE := own_empty (e := 89) (size := 2) w w.heap.size (Nat.le_refl _)
  have bE : Below w.heap.size w (w.alloc (.cells #[] 89)) := by go_grown
  generalize hv0 : (Value.slice (some ⟨w.heap.size, 0, none⟩) 0 0) = v0 at *
  clear hv0
  generalize w.alloc (.cells #[] 89) = w1 at *
  go_loopw [7, 8] (fun v i wr => ∃ q : Nat, q ≤ zs.length ∧ i = .int .i64 q ∧ wr.ownsRow w.heap.size 89 2 v (setOf (zs.take q) s b).length (sc (setOf (zs.take q) s b)) ∧ Below w.heap.size w wr) (fun _ i _ => zs.length - (intOf i).toNat)
  case atStart => exact ⟨0, Nat.zero_le _, rfl, oE, bE⟩
  case round =>
    clear oE bE
    obtain ⟨q, hq, rfl, oV, low⟩ := hrel
    have bz := low.size
    by_cases hlt : q < zs.length
    · obtain ⟨b0, o, hA', hb, hc1, hc2⟩ := hr.pair hlt
      subst hA'
      have hc1 := later low (p := ⟨b0, o + q * 2, none⟩) hb hc1
      have hc2 := later low (p := ⟨b0, o + q * 2 + 1, none⟩) hb hc2
      have hst := HT.out q hlt
      have hlq := HL.out q
      obtain ⟨⟨x, y⟩, hxy⟩ : ∃ e, e = zs[q] := ⟨_, rfl⟩
      rw [← hxy] at hc1 hc2 hst
      clear hxy
      simp only at hc1 hc2
      generalize setOf (zs.take q) s b = P at *
      have i0 : (0 : Int) ≤ (q : Int) := by omega
      have i1 : (q : Int) < (zs.length : Int) := by omega
      have hbt := bit_rem (s := s) (q := q) hd
      cases htb : (s.testBit q == b)
      · rw [htb] at hst hbt
        simp only [Bool.false_eq_true, if_false, List.append_nil] at hst
        rw [← hst] at oV
        go_wp2_with fail
        go_roundw
        case rel => exact ⟨q + 1, by omega, by go_num, oV, low⟩
        case measure => first | (simp [intOf]; done) | (simp [intOf]; omega)
      · rw [htb] at hst hbt
        simp only [if_true] at hst
        have bA : Below wr.heap.size wr (wr.alloc (.cells #[.int .i64 x, .int .i64 y] 89)) := by go_grown
        have oA := owns_below oV bA
        have lA := via low bA bz
        have rA := (Row.new wr 89 #[.int .i64 x, .int .i64 y]).rd
        go_wp2_with (at_builtin; refine wpList_append_any chargeElem rfl _ _ rfl w.heap.size (wr.heap.size + 1) _ P.length (sc P) rfl oA (some ⟨wr.heap.size, 0, none⟩) 1 1 rfl (sc [(x, y)]) rfl (rA.mono (by simp)) (fun h => by cases h) (sc_one _) (by omega) (by omega) (by simp; omega) ?_; intro v' w9 hap; have o9 := hap.1; have l9 := lA.trans (hap.below oA (by simp; omega)); clear hap)
        rw [← sc_app, ← hst, show P.length + 1 = (setOf (zs.take (q + 1)) s b).length by rw [hst, List.length_append]; rfl] at o9
        go_roundw
        case rel => exact ⟨q + 1, by omega, by go_num, o9, l9⟩
        case measure => first | (simp [intOf]; done) | (simp [intOf]; omega)
    · obtain rfl : q = zs.length := by omega
      rw [List.take_length] at oV
      obtain ⟨A', c', rfl, oP, _⟩ := own_room2 oV
      go_wp2_with fail
      go_ret
      exact ⟨A', c', rfl, oP.rd, low⟩
theorem ext_anyS {w0 W w1 : World} (h : Below w0.heap.size w0 W) (b : Below W.heap.size W w1) (hz : w0.heap.size ≤ W.heap.size) : ∃ y : Ext w0, w1 = y.val := ⟨⟨w1, via h b hz⟩, rfl⟩
set_option linter.unusedSimpArgs false in
set_option linter.unusedVariables false in
set_option maxHeartbeats 4000000 in
set_option maxRecDepth 100000 in
theorem splitEnd_spec (A : Option Addr) (c : Nat) (zs : List (Int × Int)) (R s : Nat) (z : Int) (w : World) (hv : chargesValid zs = true) (hf : furnaceValid (R : Int) z = true) (hs : s < 2 ^ zs.length) (hr : Rd w w.heap.size A (sc zs)) :
    Calls Tryd.prog 98 #[.slice A zs.length c, .agg #[.int .i64 (R : Int), .int .i64 z], .int .i64 (s : Int)] w fun e w' => e = .returned (.int .i64 (splitN (passEnd R z) zs s)) ∧ Below w.heap.size w w' := by
  go_enter Tryd.func98, Tryd.ntmps98
  obtain ⟨hl8, _⟩ := charges_at hv
  have hn256 : 2 ^ zs.length ≤ 256 := Nat.le_trans (Nat.pow_le_pow_right (by omega) hl8) (by decide)
  have k := pcells (Row.new w 65 #[.int .i64 (R : Int), .int .i64 z])
  have b0 : Below w.heap.size w (w.alloc (.cells #[.int .i64 (R : Int), .int .i64 z] 65)) := by go_grown
  replace hr := hr.up b0
  go_wp2_with fail
  generalize w.alloc (.cells #[.int .i64 (R : Int), .int .i64 z] 65) = w0 at *
  have K0 := Ext.old k.1
  have K1 := Ext.old k.2.1
  clear k
  obtain ⟨x0, hx0⟩ := ext_self w0
  rw [← hx0]
  clear hx0
  refine (chargesValid_spec A c zs x0.val (by omega) (hr.up x0.below)).mono ?_
  rw [hv]
  rintro e w' ⟨rfl, b⟩
  obtain ⟨y1, rfl⟩ := ext_next b
  clear b
  go_wp2_with fail
  refine (furnaceValid_spec (R : Int) z y1.val).mono ?_
  rw [hf]
  rintro e w' ⟨rfl, hw'⟩
  have b : Below y1.val.heap.size y1.val w' := by rw [← hw']; go_grown
  clear hw'
  obtain ⟨y2, rfl⟩ := ext_next b
  clear b
  obtain ⟨N, hN⟩ : ∃ N, N = 2 ^ zs.length := ⟨_, rfl⟩
  have e2 : (2 : Int) ^ zs.length = (N : Int) := by rw [hN]; push_cast; rfl
  have hin : inR (s : Int) 0 ((N : Int) - 1) = true := inR_iff.2 (by rw [← hN] at hs; omega)
  rw [← hN] at hn256 hs
  have hs8 : s ≤ 255 := by omega
  clear hN
  go_wp2_with (go_at_call 76; refine (l1In_any _ _ _ _).mono ?_; rintro e w' ⟨rfl, rfl⟩)
  refine wp_region_held_drew (S := fun w' => w'.cell? ⟨w.heap.size, 0, none⟩ = some (.int .i64 (R : Int)) ∧ w'.cell? ⟨w.heap.size, 1, none⟩ = some (.int .i64 z)) (by kernel_rfl) ⟨K0 y2, K1 y2⟩ (fun hHeld => ?_)
  refine wpAnyH_take (i := 0) (oi := _) (v := ?_) rfl (by kernel_rfl) (by kernel_rfl) (by kernel_rfl) (fun _ _ _ h => h) (Or.inl ⟨by rfl, ?_⟩) (by assumption) ?_
  rotate_left
  · intro w hSw; (try dsimp only at hSw); go_simp; first | done | with_reducible rfl
  (try simp only [Act.put, List.setIfInBounds_toArray, List.set_cons_zero, List.set_cons_succ])
  refine wpAnyH_take (i := 1) (oi := _) (v := ?_) rfl (by kernel_rfl) (by kernel_rfl) (by kernel_rfl) (fun _ _ _ h => h) (Or.inl ⟨by rfl, ?_⟩) (by assumption) ?_
  rotate_left
  · intro w hSw; (try dsimp only at hSw); go_simp; first | done | with_reducible rfl
  (try simp only [Act.put, List.setIfInBounds_toArray, List.set_cons_zero, List.set_cons_succ])
  refine wpAnyH_take (i := 3) (oi := _) (v := ?_) rfl (by kernel_rfl) (by kernel_rfl) (by kernel_rfl) (fun _ _ _ h => h) (Or.inl ⟨by rfl, ?_⟩) (by assumption) ?_
  rotate_left
  · intro w hSw; (try dsimp only at hSw); go_simp; first | done | with_reducible rfl
  (try simp only [Act.put, List.setIfInBounds_toArray, List.set_cons_zero, List.set_cons_succ])
  refine wpAnyH_take (i := 5) (oi := _) (v := ?_) rfl (by kernel_rfl) (by kernel_rfl) (by kernel_rfl) (fun _ _ _ h => h) (Or.inl ⟨by rfl, ?_⟩) (by assumption) ?_
  rotate_left
  · intro w hSw; (try dsimp only at hSw); go_simp; first | done | with_reducible rfl
  (try simp only [Act.put, List.setIfInBounds_toArray, List.set_cons_zero, List.set_cons_succ])
  refine wpAnyH_take (i := 6) (oi := _) (v := ?_) rfl (by kernel_rfl) (by kernel_rfl) (by kernel_rfl) (fun _ _ _ h => h) (Or.inl ⟨by rfl, ?_⟩) (by assumption) ?_
  rotate_left
  · intro w hSw; (try dsimp only at hSw); go_simp; first | done | with_reducible rfl
  (try simp only [Act.put, List.setIfInBounds_toArray, List.set_cons_zero, List.set_cons_succ])
  refine wpAnyH_take (i := 8) (oi := _) (v := ?_) rfl (by kernel_rfl) (by kernel_rfl) (by kernel_rfl) (fun _ _ _ h => h) (Or.inl ⟨by rfl, ?_⟩) (by assumption) ?_
  rotate_left
  · intro w hSw; (try dsimp only at hSw); go_simp; first | done | with_reducible rfl
  (try simp only [Act.put, List.setIfInBounds_toArray, List.set_cons_zero, List.set_cons_succ])
  refine wpAnyH_ready (rs := [2]) (by kernel_rfl) (by simp) ?_
  refine AllReadyH.cons (o := _) rfl (fun K hK => ?_) AllReadyH.nil
  go_simp
  go_at_call 109
  refine (l4Set_any A c zs s 0 false _ (.inl ⟨rfl, rfl⟩) hl8 (by omega) (hr.up (by first | exact Ext.below _ | exact (Ext.below _).drew | exact (Ext.below _).alloc (Ext.below _).size _ | exact ((Ext.below _).alloc (Ext.below _).size _).drew))).mono ?_
  rintro e w3 ⟨A1, c1, rfl, r1, b⟩
  obtain ⟨y3, rfl⟩ := ext_anyS (by first | exact Ext.below _ | exact (Ext.below _).drew | exact (Ext.below _).alloc (Ext.below _).size _ | exact ((Ext.below _).alloc (Ext.below _).size _).drew) b (by first | exact (Ext.below _).size | exact ((Ext.below _).alloc (Ext.below _).size _).size)
  go_wp2_with fail
  refine hK.out _ _ ⟨K0 _, K1 _⟩ (fun hHeld => ?_)
  clear hK K
  (try simp only [Act.put, List.setIfInBounds_toArray, List.set_cons_zero, List.set_cons_succ])
  refine wpAnyH_ready (rs := [4]) (by kernel_rfl) (by simp) ?_
  refine AllReadyH.cons (o := _) rfl (fun K hK => ?_) AllReadyH.nil
  go_simp
  go_at_call 108
  refine (passEnd_spec A1 c1 (setOf zs s false) R z _ (charges_set hv s false) hf r1).mono ?_
  rintro e w4 ⟨rfl, b⟩
  obtain ⟨y4, rfl⟩ := ext_anyS (by first | exact Ext.below _ | exact (Ext.below _).drew | exact (Ext.below _).alloc (Ext.below _).size _ | exact ((Ext.below _).alloc (Ext.below _).size _).drew) b (by first | exact (Ext.below _).size | exact ((Ext.below _).alloc (Ext.below _).size _).size)
  go_wp2_with fail
  refine hK.out _ _ ⟨K0 _, K1 _⟩ (fun hHeld => ?_)
  clear hK K
  (try simp only [Act.put, List.setIfInBounds_toArray, List.set_cons_zero, List.set_cons_succ])
  refine wpAnyH_ready (rs := [7]) (by kernel_rfl) (by simp) ?_
  refine AllReadyH.cons (o := _) rfl (fun K hK => ?_) AllReadyH.nil
  go_simp
  go_at_call 109
  refine (l4Set_any A c zs s 1 true _ (.inr ⟨rfl, rfl⟩) hl8 (by omega) (hr.up (by first | exact Ext.below _ | exact (Ext.below _).drew | exact (Ext.below _).alloc (Ext.below _).size _ | exact ((Ext.below _).alloc (Ext.below _).size _).drew))).mono ?_
  rintro e w5 ⟨A2, c2, rfl, r2, b⟩
  obtain ⟨y5, rfl⟩ := ext_anyS (by first | exact Ext.below _ | exact (Ext.below _).drew | exact (Ext.below _).alloc (Ext.below _).size _ | exact ((Ext.below _).alloc (Ext.below _).size _).drew) b (by first | exact (Ext.below _).size | exact ((Ext.below _).alloc (Ext.below _).size _).size)
  go_wp2_with fail
  refine hK.out _ _ ⟨K0 _, K1 _⟩ (fun hHeld => ?_)
  clear hK K
  (try simp only [Act.put, List.setIfInBounds_toArray, List.set_cons_zero, List.set_cons_succ])
  refine wpAnyH_ready (rs := [9]) (by kernel_rfl) (by simp) ?_
  refine AllReadyH.cons (o := _) rfl (fun K hK => ?_) AllReadyH.nil
  go_simp
  go_at_call 108
  refine (passEnd_spec A2 c2 (setOf zs s true) R z _ (charges_set hv s true) hf r2).mono ?_
  rintro e w6 ⟨rfl, b⟩
  obtain ⟨y6, rfl⟩ := ext_anyS (by first | exact Ext.below _ | exact (Ext.below _).drew | exact (Ext.below _).alloc (Ext.below _).size _ | exact ((Ext.below _).alloc (Ext.below _).size _).drew) b (by first | exact (Ext.below _).size | exact ((Ext.below _).alloc (Ext.below _).size _).size)
  have bb := via b0 (Ext.below y6) b0.size
  have he := hide (show splitN (passEnd R z) zs s = max (passEnd R z (setOf zs s false)) (passEnd R z (setOf zs s true)) from rfl)
  generalize passEnd R z (setOf zs s false) = m1 at *
  generalize passEnd R z (setOf zs s true) = m2 at *
  obtain ⟨m, hm⟩ : ∃ m, max m1 m2 = m := ⟨_, rfl⟩
  rw [hm] at he
  go_wp2_with fail
  refine hK.out _ _ ⟨K0 _, K1 _⟩ (fun hHeld => ?_)
  clear hK K
  (try simp only [Act.put, List.setIfInBounds_toArray, List.set_cons_zero, List.set_cons_succ])
  refine wpAnyH_ready (rs := [10]) (by kernel_rfl) (by simp) ?_
  refine AllReadyH.cons (o := _) rfl (fun K hK => ?_) AllReadyH.nil
  go_simp
  refine hK.out _ _ ⟨K0 _, K1 _⟩ (fun hHeld => ?_)
  clear hK K
  (try simp only [Act.put, List.setIfInBounds_toArray, List.set_cons_zero, List.set_cons_succ])
  refine wpAnyH_ready (rs := [11]) (by kernel_rfl) (by simp) ?_
  refine AllReadyH.cons (o := _) rfl (fun K hK => ?_) AllReadyH.nil
  go_simp
  refine hK.out _ _ ⟨K0 _, K1 _⟩ (fun hHeld => ?_)
  clear hK K
  (try simp only [Act.put, List.setIfInBounds_toArray, List.set_cons_zero, List.set_cons_succ])
  refine wpAnyH_done (by kernel_rfl) ?_ _
  go_wp2
  go_ret
  exact ⟨ret_int he.out.symm, bb⟩
end Go.Proofs.YtcdoopccmljaoaaDoor
