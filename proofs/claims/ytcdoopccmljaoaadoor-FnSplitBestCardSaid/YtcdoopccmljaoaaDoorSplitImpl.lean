/- When the last slab leaves two furnaces, the program's. Conditions: valid slabs, a valid furnace, a number below two to the slabs. -/
import Derived.Test.YtcdoopccmljaoaaDoorSplit
import Derived.Test.YtcdoopccmljaoaaDoorAppAt
import Derived.Deep.RegionHeld3
namespace Go.Proofs.YtcdoopccmljaoaaDoor
open Go.ChangeShapes Go.WideShapes Go.ChangeAt Go.RowKit Go.Deep
theorem bit_and {s q : Nat} (hs : s ≤ 255) : (bits .and .i64 ((s : Int) / 2 ^ q) 1 == 0) = (s.testBit q == false) := by
  have e : (s : Int) / 2 ^ q = ((s / 2 ^ q : Nat) : Int) := by push_cast; rfl
  have hx : s / 2 ^ q ≤ 255 := Nat.le_trans (Nat.div_le_self _ _) hs
  rw [e, Nat.testBit_eq_decide_div_mod_eq]
  generalize s / 2 ^ q = x at *
  have h1 : (BitVec.ofInt 64 (x : Int)).toNat = x := by
    rw [BitVec.ofInt_natCast, BitVec.toNat_ofNat]; exact Nat.mod_eq_of_lt (by omega)
  have h2 : (BitVec.ofInt 64 (1 : Int)).toNat = 1 := by decide
  have hb : bits .and .i64 (x : Int) 1 = ((x % 2 : Nat) : Int) := by
    show IntKind.i64.wrap ((BitVec.ofInt 64 (x : Int) &&& BitVec.ofInt 64 (1 : Int)).toNat : Int) = _
    rw [BitVec.toNat_and, h1, h2, Nat.and_one_is_mod, IntKind.wrap_i64]
    omega
  rw [hb]
  by_cases h : x % 2 = 1
  · rw [decide_eq_true h]; exact beq_false_of_ne (by omega)
  · rw [decide_eq_false h]; exact beq_iff_eq.2 (by omega)
/-- Two rows of the call's own, apart. -/
structure SpS (w wr : World) (v1 v2 : Value) (P1 P2 : List (Int × Int)) : Prop where
  own1 : wr.ownsRow w.heap.size 89 2 v1 P1.length (sc P1)
  own2 : wr.ownsRow w.heap.size 89 2 v2 P2.length (sc P2)
  ne : ∀ b, v1.ownBlock = some b → v2.ownBlock ≠ some b
  low : Below w.heap.size w wr
section
variable {w wr w' : World} {v1 v2 v' : Value} {P1 P2 : List (Int × Int)}
theorem SpS.swap (S : SpS w wr v1 v2 P1 P2) : SpS w wr v2 v1 P2 P1 := ⟨S.own2, S.own1, fun b h e => S.ne b e h, S.low⟩
theorem SpS.up (S : SpS w wr v1 v2 P1 P2) (b : Below wr.heap.size wr w') : SpS w w' v1 v2 P1 P2 :=
  ⟨owns_below S.own1 b, owns_below S.own2 b, S.ne, via S.low b S.low.size⟩
theorem SpS.app (S : SpS w wr v1 v2 P1 P2) {x y : Int} (hap : AppdAt wr w' w.heap.size 89 2 v1 v' P1.length 1 (sc P1) (sc [(x, y)])) : SpS w w' v' v2 (P1 ++ [(x, y)]) P2 := by
  obtain ⟨ha, hb⟩ := hap
  refine ⟨?_, owns_grown S.own2 ha.2.1 (fun b hb e => S.ne b e hb), ?_, S.low.trans (ha.below S.own1 S.low.size)⟩
  · rw [List.length_append, List.length_singleton, sc_app]; exact ha.1
  · intro b h1 h2
    rcases hb with hb | hb
    · exact S.ne b (by rw [← hb]; exact h1) h2
    · rw [hb] at h1; injection h1 with h1; have := (S.own2.lt b h2).2; omega
end
set_option linter.unusedSimpArgs false in
set_option linter.unusedVariables false in
set_option maxHeartbeats 4000000 in
set_option maxRecDepth 100000 in
theorem splitEnd_any (A : Option Addr) (c : Nat) (zs : List (Int × Int)) (R s : Nat) (z : Int) (w : World) (hv : chargesValid zs = true) (hf : furnaceValid (R : Int) z = true) (hs : s < 2 ^ zs.length) (hr : Rd w w.heap.size A (sc zs)) :
    Calls Tryd.prog 71 #[.slice A zs.length c, .agg #[.int .i64 (R : Int), .int .i64 z], .int .i64 (s : Int)] w fun e w' => e = .returned (.int .i64 (splitN (passEnd R z) zs s)) ∧ Below w.heap.size w w' := by
  have HT := hide (fun q (h : q < zs.length) (b : Bool) => setOf_take zs s b h)
  have HL := hide (fun q (b : Bool) => Nat.le_trans (setOf_len (zs.take q) s b) (by rw [List.length_take]; exact Nat.min_le_right _ _))
  go_enter Tryd.func71, Tryd.ntmps71
  obtain ⟨hl8, _⟩ := charges_at hv
  have hn256 : 2 ^ zs.length ≤ 256 := Nat.le_trans (Nat.pow_le_pow_right (by omega) hl8) (by decide)
  have k := pcells (Row.new w 65 #[.int .i64 (R : Int), .int .i64 z])
  have b0 : Below w.heap.size w (w.alloc (.cells #[.int .i64 (R : Int), .int .i64 z] 65)) := by go_grown
  replace hr := hr.up b0
  go_wp2_with fail
  generalize w.alloc (.cells #[.int .i64 (R : Int), .int .i64 z] 65) = w0 at *
  have K0 := Ext.old k.1
  have K1 := Ext.old k.2.1
  clear k
  obtain ⟨x0, hx0⟩ := ext_self w0
  rw [← hx0]
  clear hx0
  refine (chargesValid_any A c zs x0.val (by omega) (hr.up x0.below)).mono ?_
  rw [hv]
  rintro e w' ⟨rfl, b⟩
  obtain ⟨y1, rfl⟩ := ext_next b
  clear b
  go_wp2_with fail
  refine (furnaceValid_any (R : Int) z y1.val).mono ?_
  rw [hf]
  rintro e w' ⟨rfl, hw'⟩
  have b : Below y1.val.heap.size y1.val w' := by rw [← hw']; go_grown
  clear hw'
  obtain ⟨y2, rfl⟩ := ext_next b
  clear b
  obtain ⟨N, hN⟩ : ∃ N, N = 2 ^ zs.length := ⟨_, rfl⟩
  have e2 : (2 : Int) ^ zs.length = (N : Int) := by rw [hN]; push_cast; rfl
  have hin : inR (s : Int) 0 ((N : Int) - 1) = true := inR_iff.2 (by rw [← hN] at hs; omega)
  rw [← hN] at hn256 hs
  have hs8 : s ≤ 255 := by omega
  clear hN
  go_wp2_with (go_at_call 75; refine (within_any _ _ _ _).mono ?_; rintro e w' ⟨rfl, rfl⟩)
  have S : SpS w0 y2.val (.slice none 0 0) (.slice none 0 0) (setOf (zs.take 0) s false) (setOf (zs.take 0) s true) := ⟨World.ownsRow_nil _ _ _ _, World.ownsRow_nil _ _ _ _, (fun b h => by cases h), y2.below⟩
  generalize y2.val = w2 at *
  go_loopw [7, 8, 30] (fun v1 v2 i wr => ∃ q : Nat, q ≤ zs.length ∧ i = .int .i64 q ∧ SpS w0 wr v1 v2 (setOf (zs.take q) s false) (setOf (zs.take q) s true)) (fun _ _ i _ => zs.length - (intOf i).toNat)
  case atStart => exact ⟨0, Nat.zero_le _, rfl, S⟩
  case round =>
    clear S
    obtain ⟨q, hq, rfl, S⟩ := hrel
    have bz := S.low.size
    by_cases hlt : q < zs.length
    · obtain ⟨b1, o, hA', hb, hc1, hc2⟩ := hr.pair hlt
      subst hA'
      have hc1 := later S.low (p := ⟨b1, o + q * 2, none⟩) hb hc1
      have hc2 := later S.low (p := ⟨b1, o + q * 2 + 1, none⟩) hb hc2
      have hst1 := HT.out q hlt false
      have hst2 := HT.out q hlt true
      have hlq1 := HL.out q false
      have hlq2 := HL.out q true
      obtain ⟨⟨x, y⟩, hxy⟩ : ∃ e, e = zs[q] := ⟨_, rfl⟩
      rw [← hxy] at hc1 hc2 hst1 hst2
      clear hxy
      simp only at hc1 hc2
      generalize setOf (zs.take q) s false = P1 at *
      generalize setOf (zs.take q) s true = P2 at *
      have i0 : (0 : Int) ≤ (q : Int) := by omega
      have i1 : (q : Int) < (zs.length : Int) := by omega
      have hbt := bit_and (s := s) (q := q) hs8
      cases htb : s.testBit q
      · rw [htb] at hst1 hst2 hbt
        simp only [if_true, List.append_nil, beq_self_eq_true] at hst1 hbt
        have hst2' : setOf (zs.take (q + 1)) s true = P2 := by rw [hst2]; exact List.append_nil _
        clear hst2
        have bA : Below wr.heap.size wr ((wr.alloc (.cells #[.int .i64 x, .int .i64 y] 89)).alloc (.cells #[.int .i64 x, .int .i64 y] 89)) := by go_grown
        have S1 := S.up bA
        have rA := (Row.new (wr.alloc (.cells #[.int .i64 x, .int .i64 y] 89)) 89 #[.int .i64 x, .int .i64 y]).rd
        simp only [World.size_alloc] at rA
        go_wp2_with (at_builtin; refine wpList_append_at chargeElem rfl _ _ rfl w0.heap.size (wr.heap.size + 1 + 1) _ (P1).length (sc P1) rfl S1.own1 ⟨wr.heap.size + 1, 0, none⟩ 1 1 rfl (sc [(x, y)]) rfl rA (sc_one _) (by omega) (by omega) (by simp; omega) ?_; intro v9 w9 hap; have S9 := S1.app hap; clear hap)
        rw [← hst1, ← hst2'] at S9
        go_roundw
        case rel => exact ⟨q + 1, by omega, by go_num, S9⟩
        case measure => first | (simp [intOf]; done) | (simp [intOf]; omega)
      · rw [htb] at hst1 hst2 hbt
        simp only [if_true, List.append_nil, beq_self_eq_true] at hst2
        have hst1' : setOf (zs.take (q + 1)) s false = P1 := by rw [hst1]; exact List.append_nil _
        have hbt : (bits .and .i64 ((s : Int) / 2 ^ q) 1 == 0) = false := by rw [hbt]; rfl
        clear hst1
        have bA : Below wr.heap.size wr ((wr.alloc (.cells #[.int .i64 x, .int .i64 y] 89)).alloc (.cells #[.int .i64 x, .int .i64 y] 89)) := by go_grown
        have S1 := S.swap.up bA
        have rA := (Row.new (wr.alloc (.cells #[.int .i64 x, .int .i64 y] 89)) 89 #[.int .i64 x, .int .i64 y]).rd
        simp only [World.size_alloc] at rA
        go_wp2_with (at_builtin; refine wpList_append_at chargeElem rfl _ _ rfl w0.heap.size (wr.heap.size + 1 + 1) _ (P2).length (sc P2) rfl S1.own1 ⟨wr.heap.size + 1, 0, none⟩ 1 1 rfl (sc [(x, y)]) rfl rA (sc_one _) (by omega) (by omega) (by simp; omega) ?_; intro v9 w9 hap; have S9 := S1.app hap; clear hap)
        rw [← hst2, ← hst1'] at S9
        replace S9 := S9.swap
        go_roundw
        case rel => exact ⟨q + 1, by omega, by go_num, S9⟩
        case measure => first | (simp [intOf]; done) | (simp [intOf]; omega)
    · obtain rfl : q = zs.length := by omega
      rw [List.take_length] at S
      have he := hide (show splitN (passEnd R z) zs s = max (passEnd R z (setOf zs s false)) (passEnd R z (setOf zs s true)) from rfl)
      have HP1 := hide (fun A c w hr => passEnd_any A c (setOf zs s false) R z w (charges_set hv s false) hf hr)
      have HP2 := hide (fun A c w hr => passEnd_any A c (setOf zs s true) R z w (charges_set hv s true) hf hr)
      generalize passEnd R z (setOf zs s false) = m1 at *
      generalize passEnd R z (setOf zs s true) = m2 at *
      obtain ⟨A1, c1, rfl, o1, _⟩ := own_room2 S.own1
      obtain ⟨A2, c2, rfl, o2, _⟩ := own_room2 S.own2
      obtain ⟨y3, rfl⟩ : ∃ y : Ext w0, wr = y.val := ⟨⟨wr, S.low⟩, rfl⟩
      have r1 := o1.rd
      have r2 := o2.rd
      clear S o1 o2
      go_wp2_with fail
      refine wp_region_held_drew (S := fun w' => w'.cell? ⟨w.heap.size, 0, none⟩ = some (.int .i64 (R : Int)) ∧ w'.cell? ⟨w.heap.size, 1, none⟩ = some (.int .i64 z)) (by kernel_rfl) ⟨K0 y3, K1 y3⟩ (fun hHeld => ?_)
      refine wpAnyH_take (i := 0) (oi := _) (v := ?_) rfl (by kernel_rfl) (by kernel_rfl) (by kernel_rfl) (fun _ _ _ h => h) (Or.inl ⟨by rfl, ?_⟩) (by assumption) ?_
      rotate_left
      · intro w hSw; (try dsimp only at hSw); go_simp; first | done | with_reducible rfl
      (try simp only [Act.put, List.setIfInBounds_toArray, List.set_cons_zero, List.set_cons_succ])
      refine wpAnyH_take (i := 1) (oi := _) (v := ?_) rfl (by kernel_rfl) (by kernel_rfl) (by kernel_rfl) (fun _ _ _ h => h) (Or.inl ⟨by rfl, ?_⟩) (by assumption) ?_
      rotate_left
      · intro w hSw; (try dsimp only at hSw); go_simp; first | done | with_reducible rfl
      (try simp only [Act.put, List.setIfInBounds_toArray, List.set_cons_zero, List.set_cons_succ])
      refine wpAnyH_take (i := 3) (oi := _) (v := ?_) rfl (by kernel_rfl) (by kernel_rfl) (by kernel_rfl) (fun _ _ _ h => h) (Or.inl ⟨by rfl, ?_⟩) (by assumption) ?_
      rotate_left
      · intro w hSw; (try dsimp only at hSw); go_simp; first | done | with_reducible rfl
      (try simp only [Act.put, List.setIfInBounds_toArray, List.set_cons_zero, List.set_cons_succ])
      refine wpAnyH_take (i := 4) (oi := _) (v := ?_) rfl (by kernel_rfl) (by kernel_rfl) (by kernel_rfl) (fun _ _ _ h => h) (Or.inl ⟨by rfl, ?_⟩) (by assumption) ?_
      rotate_left
      · intro w hSw; (try dsimp only at hSw); go_simp; first | done | with_reducible rfl
      (try simp only [Act.put, List.setIfInBounds_toArray, List.set_cons_zero, List.set_cons_succ])
      refine wpAnyH_ready (rs := [2]) (by kernel_rfl) (by simp) ?_
      refine AllReadyH.cons (o := _) rfl (fun K hK => ?_) AllReadyH.nil
      go_simp
      go_at_call 72
      refine (HP1.out A1 c1 _ (by first | exact r1.up (Below.refl _ _).drew | exact r1)).mono ?_
      rintro e w4 ⟨rfl, b⟩
      have r2 : Rd w4 w4.heap.size A2 (sc (setOf zs s true)) := by first | exact r2.up ((Below.refl _ _).drew.trans b) | exact r2.up b
      obtain ⟨y4, rfl⟩ := ext_anyS (by first | exact Ext.below _ | exact (Ext.below _).drew | exact (Ext.below _).alloc (Ext.below _).size _ | exact ((Ext.below _).alloc (Ext.below _).size _).drew) b (by first | exact (Ext.below _).size | exact ((Ext.below _).alloc (Ext.below _).size _).size)
      go_wp2_with fail
      refine hK.out _ _ ⟨K0 _, K1 _⟩ (fun hHeld => ?_)
      clear hK K
      (try simp only [Act.put, List.setIfInBounds_toArray, List.set_cons_zero, List.set_cons_succ])
      refine wpAnyH_ready (rs := [5]) (by kernel_rfl) (by simp) ?_
      refine AllReadyH.cons (o := _) rfl (fun K hK => ?_) AllReadyH.nil
      go_simp
      go_at_call 72
      refine (HP2.out A2 c2 _ (by first | exact r2.up (Below.refl _ _).drew | exact r2)).mono ?_
      rintro e w6 ⟨rfl, b⟩
      obtain ⟨y6, rfl⟩ := ext_anyS (by first | exact Ext.below _ | exact (Ext.below _).drew | exact (Ext.below _).alloc (Ext.below _).size _ | exact ((Ext.below _).alloc (Ext.below _).size _).drew) b (by first | exact (Ext.below _).size | exact ((Ext.below _).alloc (Ext.below _).size _).size)
      have bb := via b0 (Ext.below y6) b0.size
      obtain ⟨m, hm⟩ : ∃ m, max m1 m2 = m := ⟨_, rfl⟩
      rw [hm] at he
      go_wp2_with fail
      refine hK.out _ _ ⟨K0 _, K1 _⟩ (fun hHeld => ?_)
      clear hK K
      (try simp only [Act.put, List.setIfInBounds_toArray, List.set_cons_zero, List.set_cons_succ])
      refine wpAnyH_ready (rs := [6]) (by kernel_rfl) (by simp) ?_
      refine AllReadyH.cons (o := _) rfl (fun K hK => ?_) AllReadyH.nil
      go_simp
      refine hK.out _ _ ⟨K0 _, K1 _⟩ (fun hHeld => ?_)
      clear hK K
      (try simp only [Act.put, List.setIfInBounds_toArray, List.set_cons_zero, List.set_cons_succ])
      refine wpAnyH_ready (rs := [7]) (by kernel_rfl) (by simp) ?_
      refine AllReadyH.cons (o := _) rfl (fun K hK => ?_) AllReadyH.nil
      go_simp
      refine hK.out _ _ ⟨K0 _, K1 _⟩ (fun hHeld => ?_)
      clear hK K
      (try simp only [Act.put, List.setIfInBounds_toArray, List.set_cons_zero, List.set_cons_succ])
      refine wpAnyH_done (by kernel_rfl) ?_ _
      go_wp2
      go_ret
      exact ⟨ret_int he.out.symm, bb⟩
end Go.Proofs.YtcdoopccmljaoaaDoor
