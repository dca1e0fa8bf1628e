/- Orders may be shorter: FnLeaveOk returns true for every input. No conditions. -/
import Derived.Test.YtpiiefmfiipabaaDoorSeatC
import Derived.Test.YtpiiefmfiipabaaDoorDrawZ
import Derived.Test.YtpiiefmfiipabaaDoorAlive
import Derived.Test.YtpiiefmfiipabaaDoorLBox
import Derived.Test.YtpiiefmfiipabaaDoorLeave
import Derived.Test.YtpiiefmfiipabaaDoorPileRes
namespace Go.Proofs.YtpiiefmfiipabaaDoor
open Go.ChangeShapes Go.WideShapes Go.ChangeAt Go.RowKit Go.Deep
theorem ok_nil (p : PL) : leaveOk p [] = pileValid p := by simp [leaveOk]
theorem ok_less {p : PL} {z : List Int} (h : leaveOk p z = true) : leaveOk p (z.take (z.length - 1)) = true := by
  rw [leaveOk_all] at h ⊢
  exact ⟨h.1, h.2.1.sublist (List.take_sublist _ _), fun x hx => h.2.2 x (List.mem_of_mem_take hx)⟩
theorem ok_more {p : PL} {z : List Int} (h : 0 < z.length) : leaveOk p (z ++ [z[0]]) = false := by
  cases hv : leaveOk p (z ++ [z[0]])
  · rfl
  · have := (leaveOk_all.1 hv).2.1
    rw [List.nodup_append] at this
    exact absurd rfl (this.2.2 _ (List.getElem_mem h) _ (by simp))
theorem leaveOk_at (A A' B : Option Addr) (c c' d n : Nat) (p : PL) (z : List Int) (w : World) (hp : small p) (hz : z.length ≤ 1099511627776) (hl : z.length = n) (hd : n ≤ d) (rp : RdP w w.heap.size A A' p) (rz : Rd w w.heap.size B (ic z)) :
    Calls Tryd.prog 26 #[.agg #[.slice A p.1.length c, .slice A' p.2.length c'], .slice B n d] w fun e w' => e = .returned (.bool (leaveOk p z)) ∧ Below w.heap.size w w' := by
  subst hl
  exact leaveOk_any A A' B c c' d p z w hp hz hd rp rz
set_option linter.unusedSimpArgs false in
set_option linter.unusedVariables false in
set_option maxHeartbeats 8000000 in
set_option maxRecDepth 100000 in
theorem w_FnLeaveOk (w : World) (A : Option Addr) (c : Nat) (bs : List Int) (hkc : bs.length ≤ c) (hmc : c ≤ maxLen) (hbs : ∀ b ∈ bs, (Lit.int .u8 b).wf = true) (hrd : Rd w w.heap.size A (bc bs)) :
    Calls Tryd.prog 5 #[.slice A bs.length c] w fun e w' => e = .returned (.bool true) ∧ Below w.heap.size w w' := by
  have hB := hide hbs
  clear hbs
  by_cases hl : 1048576 < bs.length
  · go_enter Tryd.func5, Tryd.ntmps5
    go_wp2
    go_ret
    exact ⟨rfl, Below.refl _ _⟩
  · go_enter Tryd.func5, Tryd.ntmps5
    go_wp2_with fail
    refine (drawLeaveOk_any A c bs w hkc hmc hB.out hrd).mono ?_
    rintro e w1 ⟨L, d, L', d', p, I, ci, z, rfl, h1, h2, h3, h4, h5, h6, oL, oL', oz, b1⟩
    clear hl hkc hmc hrd
    have rp : RdP w1 w1.heap.size L L' p := ⟨oL.rd, oL'.rd⟩
    have ro := oz.rd
    have hp := hide (show small p from ⟨by omega, by omega⟩)
    go_wp2_with fail
    obtain ⟨b0, k0, k1, hz0⟩ := box_one w1 25 (.slice L p.1.length d) (.slice L' p.2.length d') _ rfl
    replace rp := rp.up b0
    replace ro := ro.up b0
    have bb := via b1 b0 b1.size
    clear oL oL' oz b1
    generalize w1.alloc (.cells #[.slice L p.1.length d, .slice L' p.2.length d'] 25) = w0 at *
    have K0 := Ext.old k0
    have K1 := Ext.old k1
    clear hz0 k0 k1 b0
    generalize w1.heap.size = gB at *
    have H6 := hide h6
    clear h6
    obtain ⟨x0, hx0⟩ := ext_self w0
    rw [← hx0]
    clear hx0
    refine (leaveOk_any L L' I _ _ _ p z _ hp.out (by omega) h4 (rp.up (Ext.below _)) (ro.up (Ext.below _))).mono ?_
    rintro e w' ⟨rfl, b⟩
    obtain ⟨y, rfl⟩ := ext_next b
    clear b
    go_wp2_with fail
    refine (leaveOk_spec L L' I _ _ _ p z _ hp.out (by omega) h4 (rp.up (Ext.below _)) (ro.up (Ext.below _))).mono ?_
    rintro e w' ⟨rfl, b⟩
    obtain ⟨y2, rfl⟩ := ext_next b
    clear b
    have tt := bne_bool (leaveOk p z)
    have HL := hide (fun h => ok_less (p := p) (z := z) h)
    have HM := hide (fun h => ok_more (p := p) (z := z) h)
    have HV := hide (ok_nil p)
    by_cases hs : leaveOk p z = true ∧ 0 < z.length
    · obtain ⟨hok, hpos⟩ := hs
      have HL := hide (HL.out hok)
      have HM := hide (HM.out hpos)
      rw [hok]
      clear tt hok HV
      have t1 : ((z.length : Int) == 0) = false := beq_false_of_ne (by omega)
      obtain ⟨b, o, rfl, _, hc⟩ := ro.int hpos
      have C0 : ∀ x : Ext w0, x.val.cell? ⟨b, o, none⟩ = some (.int .i64 z[0]) := Ext.old (by simpa using hc)
      have hm : ∃ m : Nat, z.length = m + 1 := ⟨z.length - 1, by omega⟩
      obtain ⟨m, hm⟩ := hm
      rw [hm, Nat.add_sub_cancel] at HL
      generalize z[0] = u at *
      have i1 : (m : Int) ≤ (ci : Int) := by omega
      have i2 : (z.length : Int) - 1 = (m : Int) := by omega
      have i3 : (0 : Int) < (z.length : Int) := by omega
      have i4 : IntKind.i64.wrap (m : Int) = (m : Int) := by rw [IntKind.wrap_i64]; omega
      clear hc H6
      go_wp2_with fail
      refine wp_region_held_drew (S := fun w' => w'.cell? ⟨gB, 0, none⟩ = some (.slice L p.1.length d) ∧ w'.cell? ⟨gB, 1, none⟩ = some (.slice L' p.2.length d') ∧ w'.cell? ⟨b, o, none⟩ = some (.int .i64 u)) (by kernel_rfl) ⟨K0 y2, K1 y2, C0 y2⟩ (fun hHeld => ?_)
      refine wpAnyH_take (i := 0) (oi := _) (v := ?_) rfl (by kernel_rfl) (by kernel_rfl) (by kernel_rfl) (fun _ _ _ h => h) (Or.inl ⟨by rfl, ?_⟩) (by assumption) ?_
      rotate_left
      · intro w hSw; (try dsimp only at hSw); go_simp; first | done | with_reducible rfl
      (try simp only [Act.put, List.setIfInBounds_toArray, List.set_cons_zero, List.set_cons_succ])
      refine wpAnyH_take (i := 1) (oi := _) (v := ?_) rfl (by kernel_rfl) (by kernel_rfl) (by kernel_rfl) (fun _ _ _ h => h) (Or.inl ⟨by rfl, ?_⟩) (by assumption) ?_
      rotate_left
      · intro w hSw; (try dsimp only at hSw); go_simp; first | done | with_reducible rfl
      (try simp only [Act.put, List.setIfInBounds_toArray, List.set_cons_zero, List.set_cons_succ])
      refine wpAnyH_take (i := 2) (oi := _) (v := ?_) rfl (by kernel_rfl) (by kernel_rfl) (by kernel_rfl) (fun _ _ _ h => h) (Or.inl ⟨by rfl, ?_⟩) (by assumption) ?_
      rotate_left
      · intro w hSw; (try dsimp only at hSw); go_simp; first | done | with_reducible rfl
      (try simp only [Act.put, List.setIfInBounds_toArray, List.set_cons_zero, List.set_cons_succ])
      refine wpAnyH_take (i := 3) (oi := _) (v := ?_) rfl (by kernel_rfl) (by kernel_rfl) (by kernel_rfl) (fun _ _ _ h => h) (Or.inl ⟨by rfl, ?_⟩) (by assumption) ?_
      rotate_left
      · intro w hSw; (try dsimp only at hSw); go_simp; first | done | with_reducible rfl
      (try simp only [Act.put, List.setIfInBounds_toArray, List.set_cons_zero, List.set_cons_succ])
      refine wpAnyH_take (i := 4) (oi := _) (v := ?_) rfl (by kernel_rfl) (by kernel_rfl) (by kernel_rfl) (fun _ _ _ h => h) (Or.inl ⟨by rfl, ?_⟩) (by assumption) ?_
      rotate_left
      · intro w hSw; (try dsimp only at hSw); go_simp; first | done | with_reducible rfl
      (try simp only [Act.put, List.setIfInBounds_toArray, List.set_cons_zero, List.set_cons_succ])
      refine wpAnyH_take (i := 5) (oi := _) (v := ?_) rfl (by kernel_rfl) (by kernel_rfl) (by kernel_rfl) (fun _ _ _ h => h) (Or.inl ⟨by rfl, ?_⟩) (by assumption) ?_
      rotate_left
      · intro w hSw; (try dsimp only at hSw); go_simp; first | done | with_reducible rfl
      (try simp only [Act.put, List.setIfInBounds_toArray, List.set_cons_zero, List.set_cons_succ])
      refine wpAnyH_ready (rs := [6]) (by kernel_rfl) (by simp) ?_
      refine AllReadyH.cons (o := _) rfl (fun K hK => ?_) AllReadyH.nil
      go_simp
      go_at_call 26
      refine (leaveOk_at L L' _ _ _ _ m p (z.take m) _ hp.out (by rw [List.length_take]; omega) (by rw [List.length_take]; omega) (by omega) (rp.up (by first | exact Ext.below _ | exact (Ext.below _).drew | exact (Ext.below _).alloc (Ext.below _).size _ | exact ((Ext.below _).alloc (Ext.below _).size _).drew)) ((ro.up (by first | exact Ext.below _ | exact (Ext.below _).drew | exact (Ext.below _).alloc (Ext.below _).size _ | exact ((Ext.below _).alloc (Ext.below _).size _).drew)).take m)).mono ?_
      rw [HL.out]
      rintro e w' ⟨rfl, bl⟩
      obtain ⟨y3, rfl⟩ := ext_any (by first | exact Ext.below _ | exact (Ext.below _).drew | exact (Ext.below _).alloc (Ext.below _).size _ | exact ((Ext.below _).alloc (Ext.below _).size _).drew) bl (by first | exact (Ext.below _).size | exact ((Ext.below _).alloc (Ext.below _).size _).size)
      clear bl
      go_wp2_with fail
      refine hK.out _ _ ⟨cell_in y3.below K0, cell_in y3.below K1, cell_in y3.below C0⟩ (fun hHeld => ?_)
      clear hK K
      (try simp only [Act.put, List.setIfInBounds_toArray, List.set_cons_zero, List.set_cons_succ])
      refine wpAnyH_take (i := 7) (oi := _) (v := ?_) rfl (by kernel_rfl) (by kernel_rfl) (by kernel_rfl) (fun _ _ _ h => h) (Or.inl ⟨by rfl, ?_⟩) (by assumption) ?_
      rotate_left
      · intro w hSw; (try dsimp only at hSw); go_simp; first | done | with_reducible rfl
      (try simp only [Act.put, List.setIfInBounds_toArray, List.set_cons_zero, List.set_cons_succ])
      refine wpAnyH_take (i := 8) (oi := _) (v := ?_) rfl (by kernel_rfl) (by kernel_rfl) (by kernel_rfl) (fun _ _ _ h => h) (Or.inl ⟨by rfl, ?_⟩) (by assumption) ?_
      rotate_left
      · intro w hSw; (try dsimp only at hSw); go_simp; first | done | with_reducible rfl
      (try simp only [Act.put, List.setIfInBounds_toArray, List.set_cons_zero, List.set_cons_succ])
      refine wpAnyH_take (i := 10) (oi := _) (v := ?_) rfl (by kernel_rfl) (by kernel_rfl) (by kernel_rfl) (fun _ _ _ h => h) (Or.inl ⟨by rfl, ?_⟩) (by assumption) ?_
      rotate_left
      · intro w hSw; (try dsimp only at hSw); go_simp; first | done | with_reducible rfl
      (try simp only [Act.put, List.setIfInBounds_toArray, List.set_cons_zero, List.set_cons_succ])
      refine wpAnyH_take (i := 12) (oi := _) (v := ?_) rfl (by kernel_rfl) (by kernel_rfl) (by kernel_rfl) (fun _ _ _ h => h) (Or.inl ⟨by rfl, ?_⟩) (by assumption) ?_
      rotate_left
      · intro w hSw; (try dsimp only at hSw); go_simp; first | done | with_reducible rfl
      (try simp only [Act.put, List.setIfInBounds_toArray, List.set_cons_zero, List.set_cons_succ])
      refine wpAnyH_take (i := 13) (oi := _) (v := ?_) rfl (by kernel_rfl) (by kernel_rfl) (by kernel_rfl) (fun _ _ _ h => h) (Or.inl ⟨by rfl, ?_⟩) (by assumption) ?_
      rotate_left
      · intro w hSw; (try dsimp only at hSw); go_simp; first | done | with_reducible rfl
      (try simp only [Act.put, List.setIfInBounds_toArray, List.set_cons_zero, List.set_cons_succ])
      refine wpAnyH_take (i := 14) (oi := _) (v := ?_) rfl (by kernel_rfl) (by kernel_rfl) (by kernel_rfl) (fun _ _ _ h => h) (Or.inl ⟨by rfl, ?_⟩) (by assumption) ?_
      rotate_left
      · intro w hSw; (try dsimp only at hSw); go_simp; first | done | with_reducible rfl
      (try simp only [Act.put, List.setIfInBounds_toArray, List.set_cons_zero, List.set_cons_succ])
      refine wpAnyH_ready (rs := [9, 15]) (by kernel_rfl) (by simp) ?_
      refine AllReadyH.cons (o := _) rfl (fun K hK => ?_) (AllReadyH.cons (o := _) rfl (fun K hK => ?_) AllReadyH.nil)
      · go_simp
        have bA := y3.below.alloc y3.below.size (.cells #[] 3)
        refine hK.out _ _ ⟨cell_in bA K0, cell_in bA K1, cell_in bA C0⟩ (fun hHeld => ?_)
        clear hK K
        (try simp only [Act.put, List.setIfInBounds_toArray, List.set_cons_zero, List.set_cons_succ])
        refine wpAnyH_ready (rs := [11, 15]) (by kernel_rfl) (by simp) ?_
        refine AllReadyH.cons (o := _) rfl (fun K hK => ?_) (AllReadyH.cons (o := _) rfl (fun K hK => ?_) AllReadyH.nil)
        ·
          refine step_append_any intElem rfl _ _ rfl y3.val.heap.size (y3.val.alloc (.cells #[] 3)).heap.size _ 0 [] rfl (own_empty y3.val y3.val.heap.size (Nat.le_refl _)) _ (m + 1) _ rfl (ic z) (by rw [ic_len]; omega) (ro.up bA) (fun h => by cases h) (ic_one _) (by omega) (by omega) (by simp) ?_
          intro v1 w2 hap
          have bl := hap.below (own_empty y3.val y3.val.heap.size (Nat.le_refl _)) (by simp)
          have b2 : Below w0.heap.size w0 w2 := bA.trans (bl.mono y3.below.size)
          have hz2 : y3.val.heap.size ≤ w2.heap.size := by have := hap.2.1.size; simp at this; omega
          have o1 := hap.1
          simp only [Nat.zero_add, List.nil_append] at o1
          clear hap bl
          refine hK.out _ _ ⟨cell_in b2 K0, cell_in b2 K1, cell_in b2 C0⟩ (fun hHeld => ?_)
          clear hK K
          (try simp only [Act.put, List.setIfInBounds_toArray, List.set_cons_zero, List.set_cons_succ])
          refine wpAnyH_ready (rs := [15]) (by kernel_rfl) (by simp) ?_
          refine AllReadyH.cons (o := _) rfl (fun K hK => ?_) AllReadyH.nil
          go_simp
          have b3 := b2.alloc b2.size (.cells #[.int .i64 u] 3)
          have r1 := ((Row.new w2 3 #[.int .i64 u]).rd)
          have hy3 : y3.val.heap.size ≤ (w2.alloc (.cells #[.int .i64 u] 3)).heap.size := by simp; omega
          replace o1 := o1.alloc (.cells #[.int .i64 u] 3)
          generalize w2.alloc (.cells #[.int .i64 u] 3) = w3 at *
          refine hK.out _ _ ⟨cell_in b3 K0, cell_in b3 K1, cell_in b3 C0⟩ (fun hHeld => ?_)
          clear hK K
          (try simp only [Act.put, List.setIfInBounds_toArray, List.set_cons_zero, List.set_cons_succ])
          refine wpAnyH_ready (rs := [16]) (by kernel_rfl) (by simp) ?_
          refine AllReadyH.cons (o := _) rfl (fun K hK => ?_) AllReadyH.nil
          refine step_append_any intElem rfl _ _ rfl y3.val.heap.size w3.heap.size v1 (m + 1) (ic z) rfl o1 (some ⟨w2.heap.size, 0, none⟩) 1 1 rfl (ic [u]) rfl r1 (fun h => by cases h) (ic_one _) (by omega) (by omega) hy3 ?_
          intro v2 w5 hap2
          have b5 : Below w0.heap.size w0 w5 := b3.grown hap2.2.1 b3.size (fun k e => by have := (o1.lt k e).1; have := y3.below.size; omega)
          have h2 := hap2.1
          have e2 : ic z ++ ic [u] = ic (z ++ [u]) := by simp [ic]
          rw [e2] at h2
          obtain ⟨A2, c2, rfl, oz2, hn2, hm2, _⟩ := own_room2 h2
          clear hap2 h2 e2 o1 r1
          refine hK.out _ _ ⟨cell_in b5 K0, cell_in b5 K1, cell_in b5 C0⟩ (fun hHeld => ?_)
          clear hK K
          (try simp only [Act.put, List.setIfInBounds_toArray, List.set_cons_zero, List.set_cons_succ])
          refine wpAnyH_ready (rs := [17]) (by kernel_rfl) (by simp) ?_
          refine AllReadyH.cons (o := _) rfl (fun K hK => ?_) AllReadyH.nil
          go_simp
          go_at_call 26
          refine (leaveOk_at L L' A2 _ _ c2 (m + 1 + 1) p (z ++ [u]) w5 hp.out (by simp; omega) (by simp; omega) hn2 (rp.up b5) oz2.rd).mono ?_
          rw [HM.out]
          rintro e w' ⟨rfl, bl⟩
          have b6 := via b5 bl b5.size
          go_wp2_with fail
          refine hK.out _ _ ⟨cell_in b6 K0, cell_in b6 K1, cell_in b6 C0⟩ (fun hHeld => ?_)
          clear hK K
          (try simp only [Act.put, List.setIfInBounds_toArray, List.set_cons_zero, List.set_cons_succ])
          refine wpAnyH_take (i := 18) (oi := _) (v := ?_) rfl (by kernel_rfl) (by kernel_rfl) (by kernel_rfl) (fun _ _ _ h => h) (Or.inl ⟨by rfl, ?_⟩) (by assumption) ?_
          rotate_left
          · intro w hSw; (try dsimp only at hSw); go_simp; first | done | with_reducible rfl
          (try simp only [Act.put, List.setIfInBounds_toArray, List.set_cons_zero, List.set_cons_succ])
          refine wpAnyH_take (i := 19) (oi := _) (v := ?_) rfl (by kernel_rfl) (by kernel_rfl) (by kernel_rfl) (fun _ _ _ h => h) (Or.inl ⟨by rfl, ?_⟩) (by assumption) ?_
          rotate_left
          · intro w hSw; (try dsimp only at hSw); go_simp; first | done | with_reducible rfl
          (try simp only [Act.put, List.setIfInBounds_toArray, List.set_cons_zero, List.set_cons_succ])
          refine wpAnyH_ready (rs := [20]) (by kernel_rfl) (by simp) ?_
          refine AllReadyH.cons (o := _) rfl (fun K hK => ?_) AllReadyH.nil
          go_simp
          refine hK.out _ _ ⟨cell_in b6 K0, cell_in b6 K1, cell_in b6 C0⟩ (fun hHeld => ?_)
          clear hK K
          (try simp only [Act.put, List.setIfInBounds_toArray, List.set_cons_zero, List.set_cons_succ])
          refine wpAnyH_done (by kernel_rfl) ?_ _
          go_wp2
          go_ret
          exact ⟨rfl, via bb b6 bb.size⟩
        ·
          go_simp
          have bB := bA.alloc bA.size (.cells #[.int .i64 u] 3)
          refine hK.out _ _ ⟨cell_in bB K0, cell_in bB K1, cell_in bB C0⟩ (fun hHeld => ?_)
          clear hK K
          (try simp only [Act.put, List.setIfInBounds_toArray, List.set_cons_zero, List.set_cons_succ])
          have r0 : Row ((y3.val.alloc (.cells #[] 3)).alloc (.cells #[.int .i64 u] 3)) (y3.val.heap.size + 1) 3 [.int .i64 u] := (Row.new (y3.val.alloc (.cells #[] 3)) 3 #[.int .i64 u]).eq (by simp)
          have oE := (own_empty (e := 3) (size := 1) y3.val y3.val.heap.size (Nat.le_refl _)).alloc (.cells #[.int .i64 u] 3)
          refine wpAnyH_ready (rs := [11]) (by kernel_rfl) (by simp) ?_
          refine AllReadyH.cons (o := _) rfl (fun K hK => ?_) AllReadyH.nil
          refine step_append_any intElem rfl _ _ rfl y3.val.heap.size _ _ 0 [] rfl oE _ (m + 1) _ rfl (ic z) (by rw [ic_len]; omega) (ro.up bB) (fun h => by cases h) (ic_one _) (by omega) (by omega) (by simp; omega) ?_
          intro v1 w3 hap
          have b3 : Below w0.heap.size w0 w3 := bB.trans ((hap.below oE (by simp; omega)).mono y3.below.size)
          have r1 := (r0.kept hap.2.1 (fun e => by have : y3.val.heap.size + 1 = y3.val.heap.size := Option.some.inj e; omega)).rd
          have hy3 : y3.val.heap.size ≤ w3.heap.size := by have := hap.2.1.size; simp at this; omega
          have o1 := hap.1
          simp only [Nat.zero_add, List.nil_append] at o1
          clear hap oE r0
          refine hK.out _ _ ⟨cell_in b3 K0, cell_in b3 K1, cell_in b3 C0⟩ (fun hHeld => ?_)
          clear hK K
          (try simp only [Act.put, List.setIfInBounds_toArray, List.set_cons_zero, List.set_cons_succ])
          refine wpAnyH_ready (rs := [16]) (by kernel_rfl) (by simp) ?_
          refine AllReadyH.cons (o := _) rfl (fun K hK => ?_) AllReadyH.nil
          refine step_append_any intElem rfl _ _ rfl y3.val.heap.size w3.heap.size v1 (m + 1) (ic z) rfl o1 (some ⟨(y3.val.heap.size + 1), 0, none⟩) 1 1 rfl (ic [u]) rfl r1 (fun h => by cases h) (ic_one _) (by omega) (by omega) hy3 ?_
          intro v2 w5 hap2
          have b5 : Below w0.heap.size w0 w5 := b3.grown hap2.2.1 b3.size (fun k e => by have := (o1.lt k e).1; have := y3.below.size; omega)
          have h2 := hap2.1
          have e2 : ic z ++ ic [u] = ic (z ++ [u]) := by simp [ic]
          rw [e2] at h2
          obtain ⟨A2, c2, rfl, oz2, hn2, hm2, _⟩ := own_room2 h2
          clear hap2 h2 e2 o1 r1
          refine hK.out _ _ ⟨cell_in b5 K0, cell_in b5 K1, cell_in b5 C0⟩ (fun hHeld => ?_)
          clear hK K
          (try simp only [Act.put, List.setIfInBounds_toArray, List.set_cons_zero, List.set_cons_succ])
          refine wpAnyH_ready (rs := [17]) (by kernel_rfl) (by simp) ?_
          refine AllReadyH.cons (o := _) rfl (fun K hK => ?_) AllReadyH.nil
          go_simp
          go_at_call 26
          refine (leaveOk_at L L' A2 _ _ c2 (m + 1 + 1) p (z ++ [u]) w5 hp.out (by simp; omega) (by simp; omega) hn2 (rp.up b5) oz2.rd).mono ?_
          rw [HM.out]
          rintro e w' ⟨rfl, bl⟩
          have b6 := via b5 bl b5.size
          go_wp2_with fail
          refine hK.out _ _ ⟨cell_in b6 K0, cell_in b6 K1, cell_in b6 C0⟩ (fun hHeld => ?_)
          clear hK K
          (try simp only [Act.put, List.setIfInBounds_toArray, List.set_cons_zero, List.set_cons_succ])
          refine wpAnyH_take (i := 18) (oi := _) (v := ?_) rfl (by kernel_rfl) (by kernel_rfl) (by kernel_rfl) (fun _ _ _ h => h) (Or.inl ⟨by rfl, ?_⟩) (by assumption) ?_
          rotate_left
          · intro w hSw; (try dsimp only at hSw); go_simp; first | done | with_reducible rfl
          (try simp only [Act.put, List.setIfInBounds_toArray, List.set_cons_zero, List.set_cons_succ])
          refine wpAnyH_take (i := 19) (oi := _) (v := ?_) rfl (by kernel_rfl) (by kernel_rfl) (by kernel_rfl) (fun _ _ _ h => h) (Or.inl ⟨by rfl, ?_⟩) (by assumption) ?_
          rotate_left
          · intro w hSw; (try dsimp only at hSw); go_simp; first | done | with_reducible rfl
          (try simp only [Act.put, List.setIfInBounds_toArray, List.set_cons_zero, List.set_cons_succ])
          refine wpAnyH_ready (rs := [20]) (by kernel_rfl) (by simp) ?_
          refine AllReadyH.cons (o := _) rfl (fun K hK => ?_) AllReadyH.nil
          go_simp
          refine hK.out _ _ ⟨cell_in b6 K0, cell_in b6 K1, cell_in b6 C0⟩ (fun hHeld => ?_)
          clear hK K
          (try simp only [Act.put, List.setIfInBounds_toArray, List.set_cons_zero, List.set_cons_succ])
          refine wpAnyH_done (by kernel_rfl) ?_ _
          go_wp2
          go_ret
          exact ⟨rfl, via bb b6 bb.size⟩
      ·
        go_simp
        have bA := y3.below.alloc y3.below.size (.cells #[.int .i64 u] 3)
        refine hK.out _ _ ⟨cell_in bA K0, cell_in bA K1, cell_in bA C0⟩ (fun hHeld => ?_)
        clear hK K
        (try simp only [Act.put, List.setIfInBounds_toArray, List.set_cons_zero, List.set_cons_succ])
        refine wpAnyH_ready (rs := [9]) (by kernel_rfl) (by simp) ?_
        refine AllReadyH.cons (o := _) rfl (fun K hK => ?_) AllReadyH.nil
        go_simp
        have bB := bA.alloc bA.size (.cells #[] 3)
        refine hK.out _ _ ⟨cell_in bB K0, cell_in bB K1, cell_in bB C0⟩ (fun hHeld => ?_)
        clear hK K
        (try simp only [Act.put, List.setIfInBounds_toArray, List.set_cons_zero, List.set_cons_succ])
        have r0 := (Row.new y3.val 3 #[.int .i64 u]).alloc (.cells #[] 3)
        have oE : ((y3.val.alloc (.cells #[.int .i64 u] 3)).alloc (.cells #[] 3)).ownsRow y3.val.heap.size 3 1 (.slice (some ⟨y3.val.heap.size + 1, 0, none⟩) 0 0) 0 [] := by
          have := own_empty (e := 3) (size := 1) (y3.val.alloc (.cells #[.int .i64 u] 3)) y3.val.heap.size (by simp)
          rw [World.size_alloc] at this
          exact this
        refine wpAnyH_ready (rs := [11]) (by kernel_rfl) (by simp) ?_
        refine AllReadyH.cons (o := _) rfl (fun K hK => ?_) AllReadyH.nil
        refine step_append_any intElem rfl _ _ rfl y3.val.heap.size _ _ 0 [] rfl oE _ (m + 1) _ rfl (ic z) (by rw [ic_len]; omega) (ro.up bB) (fun h => by cases h) (ic_one _) (by omega) (by omega) (by simp; omega) ?_
        intro v1 w3 hap
        have b3 : Below w0.heap.size w0 w3 := bB.trans ((hap.below oE (by simp; omega)).mono y3.below.size)
        have r1 := (r0.kept hap.2.1 (fun e => by have : y3.val.heap.size = y3.val.heap.size + 1 := Option.some.inj e; omega)).rd
        have hy3 : y3.val.heap.size ≤ w3.heap.size := by have := hap.2.1.size; simp at this; omega
        have o1 := hap.1
        simp only [Nat.zero_add, List.nil_append] at o1
        clear hap oE r0
        refine hK.out _ _ ⟨cell_in b3 K0, cell_in b3 K1, cell_in b3 C0⟩ (fun hHeld => ?_)
        clear hK K
        (try simp only [Act.put, List.setIfInBounds_toArray, List.set_cons_zero, List.set_cons_succ])
        refine wpAnyH_ready (rs := [16]) (by kernel_rfl) (by simp) ?_
        refine AllReadyH.cons (o := _) rfl (fun K hK => ?_) AllReadyH.nil
        refine step_append_any intElem rfl _ _ rfl y3.val.heap.size w3.heap.size v1 (m + 1) (ic z) rfl o1 (some ⟨y3.val.heap.size, 0, none⟩) 1 1 rfl (ic [u]) rfl r1 (fun h => by cases h) (ic_one _) (by omega) (by omega) hy3 ?_
        intro v2 w5 hap2
        have b5 : Below w0.heap.size w0 w5 := b3.grown hap2.2.1 b3.size (fun k e => by have := (o1.lt k e).1; have := y3.below.size; omega)
        have h2 := hap2.1
        have e2 : ic z ++ ic [u] = ic (z ++ [u]) := by simp [ic]
        rw [e2] at h2
        obtain ⟨A2, c2, rfl, oz2, hn2, hm2, _⟩ := own_room2 h2
        clear hap2 h2 e2 o1 r1
        refine hK.out _ _ ⟨cell_in b5 K0, cell_in b5 K1, cell_in b5 C0⟩ (fun hHeld => ?_)
        clear hK K
        (try simp only [Act.put, List.setIfInBounds_toArray, List.set_cons_zero, List.set_cons_succ])
        refine wpAnyH_ready (rs := [17]) (by kernel_rfl) (by simp) ?_
        refine AllReadyH.cons (o := _) rfl (fun K hK => ?_) AllReadyH.nil
        go_simp
        go_at_call 26
        refine (leaveOk_at L L' A2 _ _ c2 (m + 1 + 1) p (z ++ [u]) w5 hp.out (by simp; omega) (by simp; omega) hn2 (rp.up b5) oz2.rd).mono ?_
        rw [HM.out]
        rintro e w' ⟨rfl, bl⟩
        have b6 := via b5 bl b5.size
        go_wp2_with fail
        refine hK.out _ _ ⟨cell_in b6 K0, cell_in b6 K1, cell_in b6 C0⟩ (fun hHeld => ?_)
        clear hK K
        (try simp only [Act.put, List.setIfInBounds_toArray, List.set_cons_zero, List.set_cons_succ])
        refine wpAnyH_take (i := 18) (oi := _) (v := ?_) rfl (by kernel_rfl) (by kernel_rfl) (by kernel_rfl) (fun _ _ _ h => h) (Or.inl ⟨by rfl, ?_⟩) (by assumption) ?_
        rotate_left
        · intro w hSw; (try dsimp only at hSw); go_simp; first | done | with_reducible rfl
        (try simp only [Act.put, List.setIfInBounds_toArray, List.set_cons_zero, List.set_cons_succ])
        refine wpAnyH_take (i := 19) (oi := _) (v := ?_) rfl (by kernel_rfl) (by kernel_rfl) (by kernel_rfl) (fun _ _ _ h => h) (Or.inl ⟨by rfl, ?_⟩) (by assumption) ?_
        rotate_left
        · intro w hSw; (try dsimp only at hSw); go_simp; first | done | with_reducible rfl
        (try simp only [Act.put, List.setIfInBounds_toArray, List.set_cons_zero, List.set_cons_succ])
        refine wpAnyH_ready (rs := [20]) (by kernel_rfl) (by simp) ?_
        refine AllReadyH.cons (o := _) rfl (fun K hK => ?_) AllReadyH.nil
        go_simp
        refine hK.out _ _ ⟨cell_in b6 K0, cell_in b6 K1, cell_in b6 C0⟩ (fun hHeld => ?_)
        clear hK K
        (try simp only [Act.put, List.setIfInBounds_toArray, List.set_cons_zero, List.set_cons_succ])
        refine wpAnyH_done (by kernel_rfl) ?_ _
        go_wp2
        go_ret
        exact ⟨rfl, via bb b6 bb.size⟩
    · generalize hok : leaveOk p z = ok at *
      have hcase : ok = false ∨ (ok = true ∧ z = []) := by
        cases ok
        · exact .inl rfl
        · right; refine ⟨rfl, ?_⟩
          cases z with
          | nil => rfl
          | cons a r => exact absurd ⟨rfl, by simp⟩ hs
      clear hs HL HM
      have HPV := hide (fun c c' w rp => pileValid_any L L' c c' p w hp.out rp)
      rcases hcase with rfl | ⟨rfl, rfl⟩
      · go_wp2_with fail
        have tb : (pileValid p == pileValid p) = true := by simp
        refine wp_region_held_drew (S := fun w' => w'.cell? ⟨gB, 0, none⟩ = some (.slice L p.1.length d) ∧ w'.cell? ⟨gB, 1, none⟩ = some (.slice L' p.2.length d')) (by kernel_rfl) ⟨K0 y2, K1 y2⟩ (fun hHeld => ?_)
        refine wpAnyH_take (i := 0) (oi := _) (v := ?_) rfl (by kernel_rfl) (by kernel_rfl) (by kernel_rfl) (fun _ _ _ h => h) (Or.inl ⟨by rfl, ?_⟩) (by assumption) ?_
        rotate_left
        · intro w hSw; (try dsimp only at hSw); go_simp; first | done | with_reducible rfl
        (try simp only [Act.put, List.setIfInBounds_toArray, List.set_cons_zero, List.set_cons_succ])
        refine wpAnyH_take (i := 2) (oi := _) (v := ?_) rfl (by kernel_rfl) (by kernel_rfl) (by kernel_rfl) (fun _ _ _ h => h) (Or.inl ⟨by rfl, ?_⟩) (by assumption) ?_
        rotate_left
        · intro w hSw; (try dsimp only at hSw); go_simp; first | done | with_reducible rfl
        (try simp only [Act.put, List.setIfInBounds_toArray, List.set_cons_zero, List.set_cons_succ])
        refine wpAnyH_ready (rs := [1]) (by kernel_rfl) (by simp) ?_
        refine AllReadyH.cons (o := _) rfl (fun K hK => ?_) AllReadyH.nil
        go_simp
        go_at_call 26
        refine (leaveOk_at L L' none _ _ 0 0 p [] _ hp.out (by simp) rfl (Nat.le_refl _) (rp.up (by first | exact Ext.below _ | exact (Ext.below _).drew | exact (Ext.below _).alloc (Ext.below _).size _ | exact ((Ext.below _).alloc (Ext.below _).size _).drew)) (.inl rfl)).mono ?_
        rw [HV.out]
        rintro e w' ⟨rfl, b⟩
        obtain ⟨y3, rfl⟩ := ext_any (by first | exact Ext.below _ | exact (Ext.below _).drew | exact (Ext.below _).alloc (Ext.below _).size _ | exact ((Ext.below _).alloc (Ext.below _).size _).drew) b (by first | exact (Ext.below _).size | exact ((Ext.below _).alloc (Ext.below _).size _).size)
        clear b
        generalize pileValid p = pv at *
        go_wp2_with fail
        refine hK.out _ _ ⟨K0 _, K1 _⟩ (fun hHeld => ?_)
        clear hK K
        (try simp only [Act.put, List.setIfInBounds_toArray, List.set_cons_zero, List.set_cons_succ])
        refine wpAnyH_ready (rs := [3]) (by kernel_rfl) (by simp) ?_
        refine AllReadyH.cons (o := _) rfl (fun K hK => ?_) AllReadyH.nil
        go_simp
        go_at_call 18
        refine (HPV.out _ _ _ (rp.up (by first | exact Ext.below _ | exact (Ext.below _).drew | exact (Ext.below _).alloc (Ext.below _).size _ | exact ((Ext.below _).alloc (Ext.below _).size _).drew))).mono ?_
        rintro e w' ⟨rfl, b⟩
        obtain ⟨y4, rfl⟩ := ext_any (by first | exact Ext.below _ | exact (Ext.below _).drew | exact (Ext.below _).alloc (Ext.below _).size _ | exact ((Ext.below _).alloc (Ext.below _).size _).drew) b (by first | exact (Ext.below _).size | exact ((Ext.below _).alloc (Ext.below _).size _).size)
        clear b
        go_wp2_with fail
        refine hK.out _ _ ⟨K0 _, K1 _⟩ (fun hHeld => ?_)
        clear hK K
        (try simp only [Act.put, List.setIfInBounds_toArray, List.set_cons_zero, List.set_cons_succ])
        refine wpAnyH_take (i := 4) (oi := _) (v := ?_) rfl (by kernel_rfl) (by kernel_rfl) (by kernel_rfl) (fun _ _ _ h => h) (Or.inl ⟨by rfl, ?_⟩) (by assumption) ?_
        rotate_left
        · intro w hSw; (try dsimp only at hSw); go_simp; first | done | with_reducible rfl
        (try simp only [Act.put, List.setIfInBounds_toArray, List.set_cons_zero, List.set_cons_succ])
        refine wpAnyH_take (i := 5) (oi := _) (v := ?_) rfl (by kernel_rfl) (by kernel_rfl) (by kernel_rfl) (fun _ _ _ h => h) (Or.inl ⟨by rfl, ?_⟩) (by assumption) ?_
        rotate_left
        · intro w hSw; (try dsimp only at hSw); go_simp; first | done | with_reducible rfl
        (try simp only [Act.put, List.setIfInBounds_toArray, List.set_cons_zero, List.set_cons_succ])
        refine wpAnyH_ready (rs := [6]) (by kernel_rfl) (by simp) ?_
        refine AllReadyH.cons (o := _) rfl (fun K hK => ?_) AllReadyH.nil
        go_simp
        go_at_call 20
        refine (alive_any _).mono ?_
        rintro e w' ⟨rfl, b⟩
        obtain ⟨y5, rfl⟩ := ext_any (by first | exact Ext.below _ | exact (Ext.below _).drew | exact (Ext.below _).alloc (Ext.below _).size _ | exact ((Ext.below _).alloc (Ext.below _).size _).drew) b (by first | exact (Ext.below _).size | exact ((Ext.below _).alloc (Ext.below _).size _).size)
        clear b
        go_wp2_with fail
        refine hK.out _ _ ⟨K0 _, K1 _⟩ (fun hHeld => ?_)
        clear hK K
        (try simp only [Act.put, List.setIfInBounds_toArray, List.set_cons_zero, List.set_cons_succ])
        refine wpAnyH_take (i := 7) (oi := _) (v := ?_) rfl (by kernel_rfl) (by kernel_rfl) (by kernel_rfl) (fun _ _ _ h => h) (Or.inl ⟨by rfl, ?_⟩) (by assumption) ?_
        rotate_left
        · intro w hSw; (try dsimp only at hSw); go_simp; first | done | with_reducible rfl
        (try simp only [Act.put, List.setIfInBounds_toArray, List.set_cons_zero, List.set_cons_succ])
        refine wpAnyH_ready (rs := [8]) (by kernel_rfl) (by simp) ?_
        refine AllReadyH.cons (o := _) rfl (fun K hK => ?_) AllReadyH.nil
        go_simp
        refine hK.out _ _ ⟨K0 _, K1 _⟩ (fun hHeld => ?_)
        clear hK K
        (try simp only [Act.put, List.setIfInBounds_toArray, List.set_cons_zero, List.set_cons_succ])
        refine wpAnyH_done (by kernel_rfl) ?_ _
        go_wp2
        go_ret
        exact ⟨rfl, via bb (Ext.below y5) bb.size⟩
      · go_wp2_with fail
        have tb : (pileValid p == pileValid p) = true := by simp
        refine wp_region_held_drew (S := fun w' => w'.cell? ⟨gB, 0, none⟩ = some (.slice L p.1.length d) ∧ w'.cell? ⟨gB, 1, none⟩ = some (.slice L' p.2.length d')) (by kernel_rfl) ⟨K0 y2, K1 y2⟩ (fun hHeld => ?_)
        refine wpAnyH_take (i := 0) (oi := _) (v := ?_) rfl (by kernel_rfl) (by kernel_rfl) (by kernel_rfl) (fun _ _ _ h => h) (Or.inl ⟨by rfl, ?_⟩) (by assumption) ?_
        rotate_left
        · intro w hSw; (try dsimp only at hSw); go_simp; first | done | with_reducible rfl
        (try simp only [Act.put, List.setIfInBounds_toArray, List.set_cons_zero, List.set_cons_succ])
        refine wpAnyH_take (i := 2) (oi := _) (v := ?_) rfl (by kernel_rfl) (by kernel_rfl) (by kernel_rfl) (fun _ _ _ h => h) (Or.inl ⟨by rfl, ?_⟩) (by assumption) ?_
        rotate_left
        · intro w hSw; (try dsimp only at hSw); go_simp; first | done | with_reducible rfl
        (try simp only [Act.put, List.setIfInBounds_toArray, List.set_cons_zero, List.set_cons_succ])
        refine wpAnyH_ready (rs := [1]) (by kernel_rfl) (by simp) ?_
        refine AllReadyH.cons (o := _) rfl (fun K hK => ?_) AllReadyH.nil
        go_simp
        go_at_call 26
        refine (leaveOk_at L L' none _ _ 0 0 p [] _ hp.out (by simp) rfl (Nat.le_refl _) (rp.up (by first | exact Ext.below _ | exact (Ext.below _).drew | exact (Ext.below _).alloc (Ext.below _).size _ | exact ((Ext.below _).alloc (Ext.below _).size _).drew)) (.inl rfl)).mono ?_
        rw [HV.out]
        rintro e w' ⟨rfl, b⟩
        obtain ⟨y3, rfl⟩ := ext_any (by first | exact Ext.below _ | exact (Ext.below _).drew | exact (Ext.below _).alloc (Ext.below _).size _ | exact ((Ext.below _).alloc (Ext.below _).size _).drew) b (by first | exact (Ext.below _).size | exact ((Ext.below _).alloc (Ext.below _).size _).size)
        clear b
        generalize pileValid p = pv at *
        go_wp2_with fail
        refine hK.out _ _ ⟨K0 _, K1 _⟩ (fun hHeld => ?_)
        clear hK K
        (try simp only [Act.put, List.setIfInBounds_toArray, List.set_cons_zero, List.set_cons_succ])
        refine wpAnyH_ready (rs := [3]) (by kernel_rfl) (by simp) ?_
        refine AllReadyH.cons (o := _) rfl (fun K hK => ?_) AllReadyH.nil
        go_simp
        go_at_call 18
        refine (HPV.out _ _ _ (rp.up (by first | exact Ext.below _ | exact (Ext.below _).drew | exact (Ext.below _).alloc (Ext.below _).size _ | exact ((Ext.below _).alloc (Ext.below _).size _).drew))).mono ?_
        rintro e w' ⟨rfl, b⟩
        obtain ⟨y4, rfl⟩ := ext_any (by first | exact Ext.below _ | exact (Ext.below _).drew | exact (Ext.below _).alloc (Ext.below _).size _ | exact ((Ext.below _).alloc (Ext.below _).size _).drew) b (by first | exact (Ext.below _).size | exact ((Ext.below _).alloc (Ext.below _).size _).size)
        clear b
        go_wp2_with fail
        refine hK.out _ _ ⟨K0 _, K1 _⟩ (fun hHeld => ?_)
        clear hK K
        (try simp only [Act.put, List.setIfInBounds_toArray, List.set_cons_zero, List.set_cons_succ])
        refine wpAnyH_take (i := 4) (oi := _) (v := ?_) rfl (by kernel_rfl) (by kernel_rfl) (by kernel_rfl) (fun _ _ _ h => h) (Or.inl ⟨by rfl, ?_⟩) (by assumption) ?_
        rotate_left
        · intro w hSw; (try dsimp only at hSw); go_simp; first | done | with_reducible rfl
        (try simp only [Act.put, List.setIfInBounds_toArray, List.set_cons_zero, List.set_cons_succ])
        refine wpAnyH_take (i := 5) (oi := _) (v := ?_) rfl (by kernel_rfl) (by kernel_rfl) (by kernel_rfl) (fun _ _ _ h => h) (Or.inl ⟨by rfl, ?_⟩) (by assumption) ?_
        rotate_left
        · intro w hSw; (try dsimp only at hSw); go_simp; first | done | with_reducible rfl
        (try simp only [Act.put, List.setIfInBounds_toArray, List.set_cons_zero, List.set_cons_succ])
        refine wpAnyH_ready (rs := [6]) (by kernel_rfl) (by simp) ?_
        refine AllReadyH.cons (o := _) rfl (fun K hK => ?_) AllReadyH.nil
        go_simp
        go_at_call 20
        refine (alive_any _).mono ?_
        rintro e w' ⟨rfl, b⟩
        obtain ⟨y5, rfl⟩ := ext_any (by first | exact Ext.below _ | exact (Ext.below _).drew | exact (Ext.below _).alloc (Ext.below _).size _ | exact ((Ext.below _).alloc (Ext.below _).size _).drew) b (by first | exact (Ext.below _).size | exact ((Ext.below _).alloc (Ext.below _).size _).size)
        clear b
        go_wp2_with fail
        refine hK.out _ _ ⟨K0 _, K1 _⟩ (fun hHeld => ?_)
        clear hK K
        (try simp only [Act.put, List.setIfInBounds_toArray, List.set_cons_zero, List.set_cons_succ])
        refine wpAnyH_take (i := 7) (oi := _) (v := ?_) rfl (by kernel_rfl) (by kernel_rfl) (by kernel_rfl) (fun _ _ _ h => h) (Or.inl ⟨by rfl, ?_⟩) (by assumption) ?_
        rotate_left
        · intro w hSw; (try dsimp only at hSw); go_simp; first | done | with_reducible rfl
        (try simp only [Act.put, List.setIfInBounds_toArray, List.set_cons_zero, List.set_cons_succ])
        refine wpAnyH_ready (rs := [8]) (by kernel_rfl) (by simp) ?_
        refine AllReadyH.cons (o := _) rfl (fun K hK => ?_) AllReadyH.nil
        go_simp
        refine hK.out _ _ ⟨K0 _, K1 _⟩ (fun hHeld => ?_)
        clear hK K
        (try simp only [Act.put, List.setIfInBounds_toArray, List.set_cons_zero, List.set_cons_succ])
        refine wpAnyH_done (by kernel_rfl) ?_ _
        go_wp2
        go_ret
        exact ⟨rfl, via bb (Ext.below y5) bb.size⟩
namespace FnLeaveOk
set_option maxRecDepth 100000 in
theorem lifted (os : Os) (started : os.Started) (H : Type) (enc : TypeId × Value → H) :
    ReturnsInHanded {} Tryd.checked os 5 .any (fun w args => (Rows.fnLeaveOkSpec.pre enc Tryd.prog Tryd.f5 [] false w args ∧ laidMetH Tryd.prog Rows.fnLeaveOkRow.laid w) ∧ sizedMet enc Tryd.prog Tryd.f5 (OpenSpec.ofChange Rows.fnLeaveOkSpec) false w args) (Rows.fnLeaveOkSpec.post enc Tryd.prog Tryd.f5 false true false false) := by
  refine returnsInHanded_of_change_and (C := Tryd.checked) (X := fun w _ => laidMetH Tryd.prog Rows.fnLeaveOkRow.laid w) (fun _ _ _ hh h => h.of_heap hh) own started (by kernel_rfl) Tryd.func5
    (ChangeSpec.witness_shaped (enc := enc) (C := Tryd.checked) (os := os) (X := fun w _ => laidMetH Tryd.prog Rows.fnLeaveOkRow.laid w) false (World.laidAll Tryd.prog os Rows.fnLeaveOkRow.laid) #[.slice none 0 0] 8 (World.laidAll_os _ _ _)
      (World.shaped_of_ZipB (by kernel_rfl) (by kernel_rfl)) (by kernel_rfl) (by kernel_rfl) (by kernel_rfl)
      (by rw [MakeChecks.laidMetH_plain _ _ _ (by kernel_rfl)]; exact laidMet_laidAll _ (by kernel_rfl) (by kernel_rfl))) ?_
  intro W base args ds gs before hval0 hW _ _ _ _
  have hval : ∀ (j : Nat) t v, Tryd.f5.params[j]? = some t → args[j]? = some v → Value.okWide Tryd.prog W .any base t v := hval0
  have hW' := hW
  obtain ⟨p, q, hA0, hV, rfl, hfz, hnd⟩ := hW
  have hA : DataW.TrodAll enc Tryd.prog W 0 (fun _ => true) true Tryd.f5.params.toList args.toList ds p := hA0
  rw [Tryd.params5] at hA hval
  obtain ⟨v0, vs0, d0, ds0, p0, q0, hargs, rfl, rfl, h0, r0⟩ := trodAll_cons hA
  obtain ⟨rfl, rfl, rfl⟩ := trodAll_nil r0
  obtain rfl : args = #[v0] := by cases args; simp_all
  obtain ⟨rfl, rfl⟩ := trodVars_none hV
  have lt0 : ∀ x ∈ p0, x.block < W.heap.size := by obtain ⟨m, hm⟩ := h0; exact DataW.trod_lt m _ _ _ hm
  obtain ⟨A0, n0, c0, z0, rfl, rfl, k0, m0, wf0, rd0⟩ := op_ints Tryd.underlying22 Tryd.underlying5 (by kernel_rfl) (hval 0 22 v0 rfl rfl) h0
  clear hA0 hval0
  refine (w_FnLeaveOk W A0 c0 z0 k0 m0 wf0 rd0).mono fun e W' ⟨he, bel⟩ => ?_
  subst he
  exact ⟨_, rfl, _, _, _, [], _, [], hW', trodAll_mk1 (shut_bool Tryd.underlying4 _), (trodAll_cons_mk (Below.trod laidOut (by kernel_rfl) (of_decide_eq_true (by kernel_rfl)) h0 bel lt0) trodAll_mk0), rfl, bel.frame _, fun h => by cases h⟩
theorem closed : joinedFacts Tryd.prog 5 Tryd.f5 Rows.fnLeaveOkSpec Rows.fnLeaveOkRow = true := by
  unfold joinedFacts
  rw [mayEnter, liftsFinal, progMake]
  kernel_rfl
theorem over : Rows.fnLeaveOkRow.holds Tryd.pinned (OpenSpec.ofChange Rows.fnLeaveOkSpec) :=
  OpenClaim.holds_of_wide 5 Tryd.f5 rfl rfl rfl rfl rfl rfl rfl ⟨rfl, rfl, rfl, rfl, rfl⟩ rfl rfl rfl rfl rfl (by kernel_rfl) Tryd.func5 closed
    (of_decide_eq_true (by kernel_rfl)) (by unfold Func.isWrapper; first | (rw [if_pos (by decide +kernel)]; kernel_rfl) | (rw [if_neg (by decide +kernel)]; exact ⟨rfl, rfl⟩))
    (fun os started H enc _ => lifted os started H enc)
set_option maxRecDepth 100000 in
theorem carded : Rows.FnLeaveOkCardSaid :=
  Claim7.holds_tied_plain_at .later [] _ true Rows.fnLeaveOkCard.stood.harness false over (fun _ h => by cases h) (by kernel_rfl) (fun _ h => by cases h) fnLeaveOk_row_tie rfl ⟨rfl, rfl⟩ mainIs rfl
    (fun f fn hf hfn => by
      obtain rfl : f = 5 := Option.some.inj ((show Tryd.prog.funcNamed Rows.fnLeaveOkRow.func = some 5 by kernel_rfl).symm.trans hf) |>.symm
      obtain rfl : fn = Tryd.f5 := (Option.some.inj (Tryd.func5.symm.trans hfn)).symm
      exact ⟨noLooks, fun j t ht => by
        rw [Tryd.params5] at ht
        have hm : t ∈ [22] := by simpa using Array.mem_of_getElem? ht
        have hall : ([22].all fun u => !Tryd.prog.wantsStandIn u) = true := by kernel_rfl
        exact (show Tryd.prog.wantsStandIn t = false by simpa using List.all_eq_true.1 hall t hm)⟩)
    (by kernel_rfl)
theorem proved : Rows.FnLeaveOkCardSaid := carded
end FnLeaveOk
end Go.Proofs.YtpiiefmfiipabaaDoor
