/- What is drawn from a code: piles with an order in which coils leave. No conditions but bounds on how often the reader was asked. -/
import Derived.Test.YtpiiefmfiipabaaDoorDrawV
namespace Go.Proofs.YtpiiefmfiipabaaDoor
open Go.ChangeShapes Go.WideShapes Go.ChangeAt Go.RowKit Go.Deep
/-- A pile and an order, drawn. -/
def LeaveDrawn (w : World) (g k : Nat) (e : Ending) (w' : World) : Prop :=
  ∃ (A : Option Addr) (c : Nat) (A' : Option Addr) (c' : Nat) (p : PL) (I : Option Addr) (ci : Nat) (z : List Int), e = .returned (.tuple #[.agg #[.slice A p.1.length c, .slice A' p.2.length c'], .slice I z.length ci]) ∧ p.1.length ≤ 6 ∧ p.2.length ≤ 6 ∧ z.length ≤ 100 ∧ z.length ≤ ci ∧ ci ≤ maxLen ∧ (I = none → z = []) ∧ Own w' w.heap.size 3 A (ic p.1) ∧ Own w' w.heap.size 3 A' (ic p.2) ∧ Own w' w.heap.size 3 I (ic z) ∧ DrawnTo w w' g k
theorem owns_mono {w : World} {B B' n size : Nat} {e : TypeId} {v : Value} {xs : List Value} (h : w.ownsRow B e size v n xs) (hB : B' ≤ B) : w.ownsRow B' e size v n xs := by
  obtain ⟨hl, h⟩ := h
  refine ⟨hl, ?_⟩
  rcases h with h | ⟨g, cap, cur, h1, h2, h3⟩
  · exact .inl h
  · exact .inr ⟨g, cap, cur, h1, by omega, h3⟩
theorem own_some {w : World} {B n : Nat} {e : TypeId} {v : Value} {xs : List Value} (h : w.ownsRow B e 1 v n xs) (hv : v ≠ .slice none 0 0) : ∃ b cap, v = .slice (some ⟨b, 0, none⟩) n cap ∧ B ≤ b ∧ b < w.heap.size ∧ n ≤ cap ∧ cap ≤ maxLen := by
  obtain ⟨_, h⟩ := h
  rcases h with ⟨h, _⟩ | ⟨g, cap, cur, rfl, h1, h2, h3, h4, _⟩
  · exact absurd h hv
  · exact ⟨g, cap, rfl, h1, lt_of_block h2, h3, h4⟩
theorem owns_take {w : World} {B b n cap k : Nat} {e : TypeId} {zs : List Int} (h : w.ownsRow B e 1 (.slice (some ⟨b, 0, none⟩) n cap) n (ic zs)) (hk : k ≤ n) : w.ownsRow B e 1 (.slice (some ⟨b, 0, none⟩) k cap) k (ic (zs.take k)) := by
  obtain ⟨hl, h⟩ := h
  rw [ic_len] at hl
  refine ⟨by rw [ic_len, List.length_take]; omega, ?_⟩
  rcases h with ⟨h, _⟩ | ⟨g, cap', cur, hv, h1, h2, h3, h4, h5, h6⟩
  · cases h
  · cases hv
    refine .inr ⟨b, cap, cur, rfl, h1, h2, by omega, h4, h5, ?_⟩
    have e1 : ic (zs.take k) = (ic zs).take k := by simp [ic, List.map_take]
    rw [e1, ← h6, List.take_take]
    congr 1
    omega
theorem rd_drop {w : World} {B b o : Nat} {zs : List Int} (h : Rd w B (some ⟨b, o, none⟩) (ic zs)) (k : Nat) : Rd w B (some ⟨b, o + k, none⟩) (ic (zs.drop k)) := by
  by_cases hk : k < zs.length
  · have hl := ic_len zs
    obtain ⟨b', o', hA, hb, hc⟩ := h.at (k := k) (by omega)
    cases hA
    refine .inr ⟨b, o + k, rfl, hb, fun j hj => ?_⟩
    rw [ic_len, List.length_drop] at hj
    have := hc (k + j) (by omega)
    rw [Nat.add_assoc, this]
    simp [ic]
  · left; rw [List.drop_of_length_le (by omega)]; rfl
theorem rd_drop0 {w : World} {B b : Nat} {zs : List Int} (h : Rd w B (some ⟨b, 0, none⟩) (ic zs)) (k : Nat) : Rd w B (some ⟨b, k, none⟩) (ic (zs.drop k)) := by
  have := rd_drop h k
  rwa [Nat.zero_add] at this
theorem own_of_some {w : World} {B n cap : Nat} {e : TypeId} {A : Option Addr} {xs : List Value} (h : w.ownsRow B e 1 (.slice A n cap) n xs) : Own w B e A xs := Own.of_row h
theorem grown_through {w1 wr w' : World} {B n size : Nat} {e : TypeId} {v : Value} {xs : List Value} {row : Option Nat} (h : w1.grownBy wr row) (ho : wr.ownsRow B e size v n xs) (hB : w1.heap.size ≤ B) (hg : wr.grownBy w' v.ownBlock) : w1.grownBy w' row :=
  ⟨hg.os.trans h.os, hg.tape.trans h.tape, hg.output.trans h.output, Nat.le_trans h.size hg.size, fun i hi hne => (hg.block i (Nat.lt_of_lt_of_le hi h.size) (fun e => by have := (ho.lt i e.symm).1; omega)).trans (h.block i hi hne)⟩
theorem Rdr.low {w w' : World} {g k B : Nat} (h : Rdr w g k) (hb : Below B w w') (hg : g < B) : Rdr w' g k := by
  obtain ⟨A, c, bs, j, h1, h2, h3, h4, q⟩ := h
  exact ⟨A, c, bs, j, h1, h2, h3, h4.below (hb.mono (by omega)), q.below hb hg⟩
/-- The state behind the loop: the order and the reader; nothing else that was there at w1 has turned. -/
structure StO (w1 wr : World) (g K : Nat) (v : Value) (n : Nat) (xs : List Value) : Prop where
  out : wr.ownsRow w1.heap.size 3 1 v n xs
  rdr : Rdr wr g K
  grown : w1.grownBy wr (some g)
section
variable {w1 wr w' : World} {g K K' : Nat} {v : Value} {n : Nat} {xs : List Value}
theorem StO.asked (h : StO w1 wr g K v n xs) (h0 : g < w1.heap.size) (hR : Rdr w' g K') (hG : wr.grownBy w' (some g)) : StO w1 w' g K' v n xs :=
  ⟨owns_grown h.out hG (fun b e e' => by have := (h.out.lt b e).1; injection e' with e'; omega), hR, grown_trans h.grown hG⟩
theorem StO.alloc (h : StO w1 wr g K v n xs) (o : Obj) : StO w1 (wr.alloc o) g K v n xs := ⟨h.out.alloc o, h.rdr.alloc o, grown_allocS h.grown o⟩
theorem StO.drewS (h : StO w1 wr g K v n xs) : StO w1 wr.drew g K v n xs := ⟨h.out, h.rdr.drew, grown_drewS h.grown⟩
theorem StO.app {v' : Value} {m : Nat} {news : List Value} (h : StO w1 wr g K v n xs) (h0 : g < w1.heap.size) (hap : Appd wr w' w1.heap.size 3 1 v v' n m xs news) : StO w1 w' g K v' (n + m) (xs ++ news) :=
  ⟨hap.1, h.rdr.low (hap.below h.out h.grown.size) h0, grown_through h.grown h.out (Nat.le_refl _) hap.2.1⟩
end
theorem three_new (w : World) (T : TypeId) (a b c x : Int) (h0 : 0 ≤ x) (h1 : x < 3) : ∃ u : Int, (w.alloc (.cells #[.int .i64 a, .int .i64 b, .int .i64 c] T)).cell? ⟨w.heap.size, x.toNat, none⟩ = some (.int .i64 u) := by
  obtain rfl | rfl | rfl : x = 0 ∨ x = 1 ∨ x = 2 := by omega
  · exact ⟨a, (Row.new w T #[.int .i64 a, .int .i64 b, .int .i64 c]).cell (j := 0) (by simp)⟩
  · exact ⟨b, (Row.new w T #[.int .i64 a, .int .i64 b, .int .i64 c]).cell (j := 1) (by simp)⟩
  · exact ⟨c, (Row.new w T #[.int .i64 a, .int .i64 b, .int .i64 c]).cell (j := 2) (by simp)⟩
theorem own_of_grown {W W' : World} {B b : Nat} {T : TypeId} {A : Option Addr} {xs : List Value} {v : Value} (h : Own W B T A xs) (hb : W.grownBy W' v.ownBlock) (hv : v.ownBlock = some b) (hg : b < B) : Own W' B T A xs := own_drawn h (hv ▸ hb) hg
set_option linter.unusedSimpArgs false in
set_option linter.unusedVariables false in
set_option maxHeartbeats 4000000 in
set_option maxRecDepth 100000 in
theorem leave_any (g k0' : Nat) (n : Int) (w : World) (hn : 0 ≤ n) (hn1 : n ≤ 1048576) (hk0 : k0' ≤ 1000000) (hR : Rdr w g k0') :
    Calls Tryd.prog 79 #[.pointer (some ⟨g, 0, none⟩), .int .i64 n] w (LeaveDrawn w g (k0' + 600)) := by
  have hgl := hR.lt
  go_enter Tryd.func79, Tryd.ntmps79
  go_wp2_with fail
  have q2 := Row.new w 25 #[.slice none 0 0, .slice none 0 0]
  have b0 := bel_one w (.cells #[.slice none 0 0, .slice none 0 0] 25)
  have hz2 := q2.lt
  replace hR := hR.up b0
  generalize w.alloc (.cells #[.slice none 0 0, .slice none 0 0] 25) = w0 at *
  refine (pile_any g _ _ _ (by omega) (by omega) (by omega) hR).mono ?_
  rintro e w2 ⟨L, d, L', d', p, rfl, h1, h2, oL, oL', hR', hG'⟩
  have hz4 := hG'.size
  replace q2 := (q2.kept hG' (by intro e; injection e with e; omega)).alloc (.cells #[.slice L p.1.length d, .slice L' p.2.length d'] 25)
  have q4 := Row.new w2 25 #[.slice L p.1.length d, .slice L' p.2.length d']
  have hG := grown_allocS (grown_trans (grown_of b0 (some g)) hG') (.cells #[.slice L p.1.length d, .slice L' p.2.length d'] 25)
  have HR := hide (hR'.alloc (.cells #[.slice L p.1.length d, .slice L' p.2.length d'] 25))
  have hp : small p := ⟨by omega, by omega⟩
  have oA := (oL.below (bel_one w2 (.cells #[.slice L p.1.length d, .slice L' p.2.length d'] 25))).mono (show w.heap.size + 1 ≤ _ by omega)
  have oA' := (oL'.below (bel_one w2 (.cells #[.slice L p.1.length d, .slice L' p.2.length d'] 25))).mono (show w.heap.size + 1 ≤ _ by omega)
  have m4 := two_cells q4
  have hle := ids_le p
  have HI := hide (coilIds_spec L L' d d' p (w2.alloc (.cells #[.slice L p.1.length d, .slice L' p.2.length d'] 25)) hp ⟨oA.rd, oA'.rd⟩)
  generalize coilIds p = ids at *
  clear hG' hR oL oL' hR' b0
  go_wp2_with fail
  clear m4
  have hgw2 : w2.heap.size < (w2.alloc (.cells #[.slice L p.1.length d, .slice L' p.2.length d'] 25)).heap.size := q4.lt
  generalize w2.alloc (.cells #[.slice L p.1.length d, .slice L' p.2.length d'] 25) = wa at *
  generalize w2.heap.size = gP at *
  refine HI.out.mono ?_
  rintro e w1 ⟨I, ci, rfl, oi, b1⟩
  have hz5 := b1.size
  replace HR := hide (HR.out.up b1)
  replace q2 := q2.after b1
  replace q4 := q4.after b1
  replace oA := oA.below b1
  replace oA' := oA'.below b1
  replace hG := grown_trans hG (grown_of b1 (some g))
  clear HI b1
  go_wp2_with fail
  go_loopw [8, 9, 10, 11] (fun v i _ _ wr => ∃ (k : Nat) (zs : List Int), k ≤ ids.length ∧ zs.length ≤ k ∧ i = .int .i64 k ∧ v ≠ .slice none 0 0 ∧ wr.ownsRow w1.heap.size 3 1 v zs.length (ic zs) ∧ w1.grownBy wr (some g) ∧ Hid (Rdr wr g (k0' + 60 + 2 * k))) (fun _ i _ _ _ => ids.length - (intOf i).toNat)
  case atStart => exact ⟨0, [], Nat.zero_le _, Nat.zero_le _, rfl, by simp, own_empty w1 w1.heap.size (Nat.le_refl _), grown_allocS (grown_self _ _) _, hide ((HR.out.alloc _).more (by omega))⟩
  case round =>
    obtain ⟨k, zs, hk, hzk, rfl, hv, hown, hGr, hRr⟩ := hrel
    clear HR
    by_cases hlt : k < ids.length
    · go_wp2_with fail
      refine (pick_any g _ _ _ (by omega) (by omega) (by omega) hRr.out).mono ?_
      rintro e w5 ⟨x1, rfl, hx0, hx1, hR5, hG5⟩
      have hown5 := owns_grown hown hG5 (fun b e e' => by have := (hown.lt b e).1; injection e' with e'; omega)
      have hG6 := grown_trans hGr hG5
      have HR5 := hide hR5
      clear hG5 hR5 hown hGr hRr
      by_cases hx : 0 < x1
      · have t1 : decide (x1 > 0) = true := by simpa using hx
        obtain ⟨b, cap, rfl, hb1, hb2, hc1, hc2⟩ := own_some hown5 hv
        unfold maxLen at hc2
        go_wp2_with fail
        refine (pick_any g _ _ _ (by omega) (by omega) (by omega) HR5.out).mono ?_
        rintro e w6 ⟨x2, rfl, hy0, hy1, hR7, hG7⟩
        have hown6 := owns_grown hown5 hG7 (fun b e e' => by have := (hown5.lt b e).1; injection e' with e'; omega)
        have hG8 := grown_trans hG6 hG7
        have HR7 := hide hR7
        have hb3 := hG7.size
        have hb2' : b < w6.heap.size := by omega
        clear hG7 hR7 hown5 hG6 HR5
        obtain ⟨at', rfl⟩ := Int.eq_ofNat_of_zero_le hy0
        have i1 : (at' : Int) ≤ (zs.length : Int) := by omega
        have i2 : (at' : Int) ≤ (cap : Int) := by omega
        have i3 : (zs.length : Int) ≤ (cap : Int) := by omega
        have oI := own_drawn oi hG8 (by omega)
        obtain ⟨bI, oo, rfl, hbI, hcI⟩ := oi.rd.int hlt
        obtain ⟨b', o', e', _, hc8⟩ := oI.rd.int hlt
        cases e'
        clear oI hcI
        generalize ids[k] = u at *
        by_cases hca : cap = at'
        · have hca' := hca.symm
          subst hca'
          have hzl : zs.length - at' = 0 := by omega
          have hzd : zs.drop at' = [] := List.drop_of_length_le (by omega)
          have hzl' := hide hzl
          clear hzl
          go_wp2_with (at_builtin; (refine wpList_append_any intElem rfl _ _ rfl w6.heap.size (w6.heap.size + 1) _ 0 [] rfl (own_empty w6 w6.heap.size (Nat.le_refl _)) _ 0 _ rfl [] rfl (.inl rfl) (fun _ => rfl) (fun _ h => by cases h) (by omega) (by omega) (by simp) ?_; intro v' w7 hap; have HA := hide hap; clear hap))
          have HA' : Appd (w6.alloc (.cells #[] 3)) w7 w6.heap.size 3 1 (.slice (some ⟨w6.heap.size, 0, none⟩) 0 0) v' 0 (zs.length - at') [] (ic (zs.drop at')) := (by rw [hzl'.out, hzd]; exact HA.out)
          clear HA
          obtain ⟨hr1, hr2, _⟩ := HA'
          simp only [Nat.zero_add, List.nil_append] at hr1
          obtain ⟨A7, c7, rfl, oR, _, _, hzR⟩ := own_room2 hr1
          have bl7 : Below w6.heap.size w6 w7 := (bel_one w6 (.cells #[] 3)).grown hr2 (by simp) (fun k e => by have : w6.heap.size = k := Option.some.inj e; omega)
          have hz7 := bl7.size
          have hown7 := owns_up hown6 bl7
          have hG9 := grown_trans hG8 (grown_of bl7 (some g))
          have HR9 := hide (HR7.out.up bl7)
          have hc9 := later bl7 (p := ⟨bI, oo + k, none⟩) (block_lt_of_cell hc8) hc8
          have hbI9 : bI < w7.heap.size := block_lt_of_cell hc9
          have hb8 := hG8.size
          clear hr1 hr2 hown6 hG8 HR7 bl7 hc8
          go_wp2_with fail
          refine wp_region_held_drew (S := fun w' => w'.cell? ⟨bI, oo + k, none⟩ = some (.int .i64 u)) (by kernel_rfl) hc9 (fun hHeld => ?_)
          refine wpAnyH_take (i := 0) (oi := _) (v := ?_) rfl (by kernel_rfl) (by kernel_rfl) (by kernel_rfl) (fun _ _ _ h => h) (Or.inl ⟨by rfl, ?_⟩) (by assumption) ?_
          rotate_left
          · intro w hSw; (try dsimp only at hSw); go_simp; first | done | with_reducible rfl
          (try simp only [Act.put, List.setIfInBounds_toArray, List.set_cons_zero, List.set_cons_succ])
          refine wpAnyH_take (i := 1) (oi := _) (v := ?_) rfl (by kernel_rfl) (by kernel_rfl) (by kernel_rfl) (fun _ _ _ h => h) (Or.inl ⟨by rfl, ?_⟩) (by assumption) ?_
          rotate_left
          · intro w hSw; (try dsimp only at hSw); go_simp; first | done | with_reducible rfl
          (try simp only [Act.put, List.setIfInBounds_toArray, List.set_cons_zero, List.set_cons_succ])
          refine wpAnyH_take (i := 2) (oi := _) (v := ?_) rfl (by kernel_rfl) (by kernel_rfl) (by kernel_rfl) (fun _ _ _ h => h) (Or.inl ⟨by rfl, ?_⟩) (by assumption) ?_
          rotate_left
          · intro w hSw; (try dsimp only at hSw); go_simp; first | done | with_reducible rfl
          (try simp only [Act.put, List.setIfInBounds_toArray, List.set_cons_zero, List.set_cons_succ])
          refine wpAnyH_take (i := 3) (oi := _) (v := ?_) rfl (by kernel_rfl) (by kernel_rfl) (by kernel_rfl) (fun _ _ _ h => h) (Or.inl ⟨by rfl, ?_⟩) (by assumption) ?_
          rotate_left
          · intro w hSw; (try dsimp only at hSw); go_simp; first | done | with_reducible rfl
          (try simp only [Act.put, List.setIfInBounds_toArray, List.set_cons_zero, List.set_cons_succ])
          refine wpAnyH_take (i := 4) (oi := _) (v := ?_) rfl (by kernel_rfl) (by kernel_rfl) (by kernel_rfl) (fun _ _ _ h => h) (Or.inl ⟨by rfl, ?_⟩) (by assumption) ?_
          rotate_left
          · intro w hSw; (try dsimp only at hSw); go_simp; first | done | with_reducible rfl
          (try simp only [Act.put, List.setIfInBounds_toArray, List.set_cons_zero, List.set_cons_succ])
          refine wpAnyH_take (i := 5) (oi := _) (v := ?_) rfl (by kernel_rfl) (by kernel_rfl) (by kernel_rfl) (fun _ _ _ h => h) (Or.inl ⟨by rfl, ?_⟩) (by assumption) ?_
          rotate_left
          · intro w hSw; (try dsimp only at hSw); go_simp; first | done | with_reducible rfl
          (try simp only [Act.put, List.setIfInBounds_toArray, List.set_cons_zero, List.set_cons_succ])
          refine wpAnyH_take (i := 6) (oi := _) (v := ?_) rfl (by kernel_rfl) (by kernel_rfl) (by kernel_rfl) (fun _ _ _ h => h) (Or.inl ⟨by rfl, ?_⟩) (by assumption) ?_
          rotate_left
          · intro w hSw; (try dsimp only at hSw); go_simp; first | done | with_reducible rfl
          (try simp only [Act.put, List.setIfInBounds_toArray, List.set_cons_zero, List.set_cons_succ])
          refine wpAnyH_take (i := 9) (oi := _) (v := ?_) rfl (by kernel_rfl) (by kernel_rfl) (by kernel_rfl) (fun _ _ _ h => h) (Or.inl ⟨by rfl, ?_⟩) (by assumption) ?_
          rotate_left
          · intro w hSw; (try dsimp only at hSw); go_simp; first | done | with_reducible rfl
          (try simp only [Act.put, List.setIfInBounds_toArray, List.set_cons_zero, List.set_cons_succ])
          refine wpAnyH_ready (rs := [7]) (by kernel_rfl) (by simp) ?_
          refine AllReadyH.cons (o := _) rfl (fun K hK => ?_) AllReadyH.nil
          go_simp
          have hc10 := later (bel_one w7 (.cells #[.int .i64 u] 3)).drew (p := ⟨bI, oo + k, none⟩) hbI9 hc9
          refine hK.out _ _ hc10 (fun hHeld => ?_)
          clear hK K
          (try simp only [Act.put, List.setIfInBounds_toArray, List.set_cons_zero, List.set_cons_succ])
          have hown8 := owns_take (owns_up (hown7.alloc (.cells #[.int .i64 u] 3)) (Below.refl _ _).drew) (k := at') (by omega)
          refine wpAnyH_ready (rs := [8]) (by kernel_rfl) (by simp) ?_
          refine AllReadyH.cons (o := _) rfl (fun K hK => ?_) AllReadyH.nil
          refine step_append_any intElem rfl _ _ rfl w1.heap.size (w7.heap.size + 1) _ at' (ic (zs.take at')) rfl hown8 (some ⟨w7.heap.size, 0, none⟩) 1 1 rfl (ic [u]) rfl ((((Row.new w7 3 #[.int .i64 u]).drew).rd).mono (by simp)) (fun h => by cases h) (ic_one _) (by omega) (by omega) (by simp; omega) ?_
          intro v9 w9 hap9
          have bl9 := hap9.below hown8 (by simp; omega)
          have hc11 := later bl9 (p := ⟨bI, oo + k, none⟩) hbI hc10
          have oR9 := own_drawn (g := b) (oR.below (bel_one w7 (.cells #[.int .i64 u] 3)).drew) hap9.2.1 hb2'
          have hG10 := grown_through (grown_drewS (grown_allocS hG9 (.cells #[.int .i64 u] 3))) hown8 (Nat.le_refl _) hap9.2.1
          have HR10 := hide ((HR9.out.alloc (.cells #[.int .i64 u] 3)).drew.low bl9 (by omega))
          have hz9 := hap9.2.1.size
          have hz9' : w7.heap.size + 1 ≤ w9.heap.size := by simpa using hz9
          refine hK.out _ _ hc11 (fun hHeld => ?_)
          clear hK K
          (try simp only [Act.put, List.setIfInBounds_toArray, List.set_cons_zero, List.set_cons_succ])
          refine wpAnyH_ready (rs := [10]) (by kernel_rfl) (by simp) ?_
          refine AllReadyH.cons (o := _) rfl (fun K hK => ?_) AllReadyH.nil
          refine step_append_any intElem rfl _ _ rfl w1.heap.size w9.heap.size v9 (at' + 1) (ic (zs.take at') ++ ic [u]) rfl hap9.1 A7 0 c7 rfl [] rfl (.inl rfl) (fun _ => rfl) (fun _ h => by cases h) (by omega) (by omega) (by omega) ?_
          intro v10 w10 hap10
          have bl10 := hap10.below hap9.1 (by omega)
          have hc12 := later bl10 (p := ⟨bI, oo + k, none⟩) hbI hc11
          have hG11 := grown_through hG10 hap9.1 (Nat.le_refl _) hap10.2.1
          have HR11 := hide (HR10.out.low bl10 (by omega))
          have hv10 : v10 ≠ .slice none 0 0 := fun e => by have h1 := (hap9.2.2.1 (hap10.2.2.1 e).1).1; cases h1
          have ho10 : w10.ownsRow w1.heap.size 3 1 v10 (zs.take at' ++ [u] ++ zs.drop at').length (ic (zs.take at' ++ [u] ++ zs.drop at')) := by
            have e1 : (zs.take at' ++ [u] ++ zs.drop at').length = at' + 1 + (zs.length - at') := by simp; omega
            have e2 : ic (zs.take at' ++ [u] ++ zs.drop at') = ic (zs.take at') ++ ic [u] ++ ic (zs.drop at') := by simp [ic]
            rw [e1, e2]; first | exact hap10.1 | (rw [hzl'.out, hzd]; exact hap10.1)
          clear hap9 hap10 bl9 bl10 hc9 hc10 hc11 hown7 hown8 oR oR9 hG9 hG10 HR9 HR10
          refine hK.out _ _ hc12 (fun hHeld => ?_)
          clear hK K
          (try simp only [Act.put, List.setIfInBounds_toArray, List.set_cons_zero, List.set_cons_succ])
          refine wpAnyH_ready (rs := [11]) (by kernel_rfl) (by simp) ?_
          refine AllReadyH.cons (o := _) rfl (fun K hK => ?_) AllReadyH.nil
          go_simp
          refine hK.out _ _ hc12 (fun hHeld => ?_)
          clear hK K
          (try simp only [Act.put, List.setIfInBounds_toArray, List.set_cons_zero, List.set_cons_succ])
          refine wpAnyH_done (by kernel_rfl) ?_ _
          go_wp2_with fail
          go_roundw
          case rel => exact ⟨k + 1, zs.take at' ++ [u] ++ zs.drop at', by omega, by simp; omega, by go_num, hv10, ho10, hG11, hide (HR11.out.more (by omega))⟩
          case measure => simp [intOf]; omega
        · obtain ⟨ex, rfl⟩ : ∃ ex, cap = at' + (ex + 1) := ⟨cap - at' - 1, by omega⟩
          clear hca
          have i4 : (at' : Int) ≤ (at' : Int) + ((ex : Int) + 1) := by omega
          go_wp2_with (at_builtin; (refine wpList_append_any intElem rfl _ _ rfl w6.heap.size (w6.heap.size + 1) _ 0 [] rfl (own_empty w6 w6.heap.size (Nat.le_refl _)) _ (zs.length - at') _ rfl (ic (zs.drop at')) (by rw [ic_len, List.length_drop]; omega) (by first | exact (rd_drop0 (((own_of_some hown6).below (bel_one _ _)).rd) at').mono (by simp) | exact .inl (by rw [List.drop_of_length_le (by omega)]; rfl)) (fun h => by first | cases h | omega) (ic_one _) (by omega) (by omega) (by simp) ?_; intro v' w7 hap; have HA := hide hap; clear hap))
          have HA' : Appd (w6.alloc (.cells #[] 3)) w7 w6.heap.size 3 1 (.slice (some ⟨w6.heap.size, 0, none⟩) 0 0) v' 0 (zs.length - at') [] (ic (zs.drop at')) := HA.out
          clear HA
          obtain ⟨hr1, hr2, _⟩ := HA'
          simp only [Nat.zero_add, List.nil_append] at hr1
          obtain ⟨A7, c7, rfl, oR, _, _, hzR⟩ := own_room2 hr1
          have bl7 : Below w6.heap.size w6 w7 := (bel_one w6 (.cells #[] 3)).grown hr2 (by simp) (fun k e => by have : w6.heap.size = k := Option.some.inj e; omega)
          have hz7 := bl7.size
          have hown7 := owns_up hown6 bl7
          have hG9 := grown_trans hG8 (grown_of bl7 (some g))
          have HR9 := hide (HR7.out.up bl7)
          have hc9 := later bl7 (p := ⟨bI, oo + k, none⟩) (block_lt_of_cell hc8) hc8
          have hbI9 : bI < w7.heap.size := block_lt_of_cell hc9
          have hb8 := hG8.size
          clear hr1 hr2 hown6 hG8 HR7 bl7 hc8
          go_wp2_with fail
          refine wp_region_held_drew (S := fun w' => w'.cell? ⟨bI, oo + k, none⟩ = some (.int .i64 u)) (by kernel_rfl) hc9 (fun hHeld => ?_)
          refine wpAnyH_take (i := 0) (oi := _) (v := ?_) rfl (by kernel_rfl) (by kernel_rfl) (by kernel_rfl) (fun _ _ _ h => h) (Or.inl ⟨by rfl, ?_⟩) (by assumption) ?_
          rotate_left
          · intro w hSw; (try dsimp only at hSw); go_simp; first | done | with_reducible rfl
          (try simp only [Act.put, List.setIfInBounds_toArray, List.set_cons_zero, List.set_cons_succ])
          refine wpAnyH_take (i := 1) (oi := _) (v := ?_) rfl (by kernel_rfl) (by kernel_rfl) (by kernel_rfl) (fun _ _ _ h => h) (Or.inl ⟨by rfl, ?_⟩) (by assumption) ?_
          rotate_left
          · intro w hSw; (try dsimp only at hSw); go_simp; first | done | with_reducible rfl
          (try simp only [Act.put, List.setIfInBounds_toArray, List.set_cons_zero, List.set_cons_succ])
          refine wpAnyH_take (i := 2) (oi := _) (v := ?_) rfl (by kernel_rfl) (by kernel_rfl) (by kernel_rfl) (fun _ _ _ h => h) (Or.inl ⟨by rfl, ?_⟩) (by assumption) ?_
          rotate_left
          · intro w hSw; (try dsimp only at hSw); go_simp; first | done | with_reducible rfl
          (try simp only [Act.put, List.setIfInBounds_toArray, List.set_cons_zero, List.set_cons_succ])
          refine wpAnyH_take (i := 3) (oi := _) (v := ?_) rfl (by kernel_rfl) (by kernel_rfl) (by kernel_rfl) (fun _ _ _ h => h) (Or.inl ⟨by rfl, ?_⟩) (by assumption) ?_
          rotate_left
          · intro w hSw; (try dsimp only at hSw); go_simp; first | done | with_reducible rfl
          (try simp only [Act.put, List.setIfInBounds_toArray, List.set_cons_zero, List.set_cons_succ])
          refine wpAnyH_take (i := 4) (oi := _) (v := ?_) rfl (by kernel_rfl) (by kernel_rfl) (by kernel_rfl) (fun _ _ _ h => h) (Or.inl ⟨by rfl, ?_⟩) (by assumption) ?_
          rotate_left
          · intro w hSw; (try dsimp only at hSw); go_simp; first | done | with_reducible rfl
          (try simp only [Act.put, List.setIfInBounds_toArray, List.set_cons_zero, List.set_cons_succ])
          refine wpAnyH_take (i := 5) (oi := _) (v := ?_) rfl (by kernel_rfl) (by kernel_rfl) (by kernel_rfl) (fun _ _ _ h => h) (Or.inl ⟨by rfl, ?_⟩) (by assumption) ?_
          rotate_left
          · intro w hSw; (try dsimp only at hSw); go_simp; first | done | with_reducible rfl
          (try simp only [Act.put, List.setIfInBounds_toArray, List.set_cons_zero, List.set_cons_succ])
          refine wpAnyH_take (i := 6) (oi := _) (v := ?_) rfl (by kernel_rfl) (by kernel_rfl) (by kernel_rfl) (fun _ _ _ h => h) (Or.inl ⟨by rfl, ?_⟩) (by assumption) ?_
          rotate_left
          · intro w hSw; (try dsimp only at hSw); go_simp; first | done | with_reducible rfl
          (try simp only [Act.put, List.setIfInBounds_toArray, List.set_cons_zero, List.set_cons_succ])
          refine wpAnyH_take (i := 9) (oi := _) (v := ?_) rfl (by kernel_rfl) (by kernel_rfl) (by kernel_rfl) (fun _ _ _ h => h) (Or.inl ⟨by rfl, ?_⟩) (by assumption) ?_
          rotate_left
          · intro w hSw; (try dsimp only at hSw); go_simp; first | done | with_reducible rfl
          (try simp only [Act.put, List.setIfInBounds_toArray, List.set_cons_zero, List.set_cons_succ])
          refine wpAnyH_ready (rs := [7]) (by kernel_rfl) (by simp) ?_
          refine AllReadyH.cons (o := _) rfl (fun K hK => ?_) AllReadyH.nil
          go_simp
          have hc10 := later (bel_one w7 (.cells #[.int .i64 u] 3)).drew (p := ⟨bI, oo + k, none⟩) hbI9 hc9
          refine hK.out _ _ hc10 (fun hHeld => ?_)
          clear hK K
          (try simp only [Act.put, List.setIfInBounds_toArray, List.set_cons_zero, List.set_cons_succ])
          have hown8 := owns_take (owns_up (hown7.alloc (.cells #[.int .i64 u] 3)) (Below.refl _ _).drew) (k := at') (by omega)
          refine wpAnyH_ready (rs := [8]) (by kernel_rfl) (by simp) ?_
          refine AllReadyH.cons (o := _) rfl (fun K hK => ?_) AllReadyH.nil
          refine step_append_any intElem rfl _ _ rfl w1.heap.size (w7.heap.size + 1) _ at' (ic (zs.take at')) rfl hown8 (some ⟨w7.heap.size, 0, none⟩) 1 1 rfl (ic [u]) rfl ((((Row.new w7 3 #[.int .i64 u]).drew).rd).mono (by simp)) (fun h => by cases h) (ic_one _) (by omega) (by omega) (by simp; omega) ?_
          intro v9 w9 hap9
          have bl9 := hap9.below hown8 (by simp; omega)
          have hc11 := later bl9 (p := ⟨bI, oo + k, none⟩) hbI hc10
          have oR9 := own_drawn (g := b) (oR.below (bel_one w7 (.cells #[.int .i64 u] 3)).drew) hap9.2.1 hb2'
          have hG10 := grown_through (grown_drewS (grown_allocS hG9 (.cells #[.int .i64 u] 3))) hown8 (Nat.le_refl _) hap9.2.1
          have HR10 := hide ((HR9.out.alloc (.cells #[.int .i64 u] 3)).drew.low bl9 (by omega))
          have hz9 := hap9.2.1.size
          have hz9' : w7.heap.size + 1 ≤ w9.heap.size := by simpa using hz9
          refine hK.out _ _ hc11 (fun hHeld => ?_)
          clear hK K
          (try simp only [Act.put, List.setIfInBounds_toArray, List.set_cons_zero, List.set_cons_succ])
          refine wpAnyH_ready (rs := [10]) (by kernel_rfl) (by simp) ?_
          refine AllReadyH.cons (o := _) rfl (fun K hK => ?_) AllReadyH.nil
          refine step_append_any intElem rfl _ _ rfl w1.heap.size w9.heap.size v9 (at' + 1) (ic (zs.take at') ++ ic [u]) rfl hap9.1 A7 (zs.length - at') c7 rfl (ic (zs.drop at')) (by rw [ic_len, List.length_drop]; omega) oR9.rd hzR (ic_one _) (by omega) (by omega) (by omega) ?_
          intro v10 w10 hap10
          have bl10 := hap10.below hap9.1 (by omega)
          have hc12 := later bl10 (p := ⟨bI, oo + k, none⟩) hbI hc11
          have hG11 := grown_through hG10 hap9.1 (Nat.le_refl _) hap10.2.1
          have HR11 := hide (HR10.out.low bl10 (by omega))
          have hv10 : v10 ≠ .slice none 0 0 := fun e => by have h1 := (hap9.2.2.1 (hap10.2.2.1 e).1).1; cases h1
          have ho10 : w10.ownsRow w1.heap.size 3 1 v10 (zs.take at' ++ [u] ++ zs.drop at').length (ic (zs.take at' ++ [u] ++ zs.drop at')) := by
            have e1 : (zs.take at' ++ [u] ++ zs.drop at').length = at' + 1 + (zs.length - at') := by simp; omega
            have e2 : ic (zs.take at' ++ [u] ++ zs.drop at') = ic (zs.take at') ++ ic [u] ++ ic (zs.drop at') := by simp [ic]
            rw [e1, e2]; first | exact hap10.1 | (rw [hzl'.out, hzd]; exact hap10.1)
          clear hap9 hap10 bl9 bl10 hc9 hc10 hc11 hown7 hown8 oR oR9 hG9 hG10 HR9 HR10
          refine hK.out _ _ hc12 (fun hHeld => ?_)
          clear hK K
          (try simp only [Act.put, List.setIfInBounds_toArray, List.set_cons_zero, List.set_cons_succ])
          refine wpAnyH_ready (rs := [11]) (by kernel_rfl) (by simp) ?_
          refine AllReadyH.cons (o := _) rfl (fun K hK => ?_) AllReadyH.nil
          go_simp
          refine hK.out _ _ hc12 (fun hHeld => ?_)
          clear hK K
          (try simp only [Act.put, List.setIfInBounds_toArray, List.set_cons_zero, List.set_cons_succ])
          refine wpAnyH_done (by kernel_rfl) ?_ _
          go_wp2_with fail
          go_roundw
          case rel => exact ⟨k + 1, zs.take at' ++ [u] ++ zs.drop at', by omega, by simp; omega, by go_num, hv10, ho10, hG11, hide (HR11.out.more (by omega))⟩
          case measure => simp [intOf]; omega
      · have t1 : decide (x1 > 0) = false := by simpa using hx
        have hx' := hide hx
        clear hx
        go_wp2_with fail
        go_roundw
        case rel => exact ⟨k + 1, zs, by omega, by omega, by go_num, hv, hown5, hG6, hide (HR5.out.more (by omega))⟩
        case measure => simp [intOf]; omega
    · obtain rfl : k = ids.length := by omega
      go_wp2_with fail
      refine (odd_any g _ _ _ (by omega) (by omega) (by omega) hRr.out).mono ?_
      rintro e w9 ⟨b0, rfl, hR', hG'⟩
      have hG2 := grown_trans hGr hG'
      have S : StO w1 w9 g (k0' + 300) _ zs.length (ic zs) :=
        ⟨owns_grown hown hG' (fun b e e' => by have := (hown.lt b e).1; injection e' with e'; omega), hR'.more (by omega), hG2⟩
      have HB := hide (fun (W : World) (h : w1.grownBy W (some g)) => And.intro (cell_kept (two_cells q4).1 (by omega) h) (cell_kept (two_cells q4).2.1 (by omega) h))
      clear hown hGr hRr hR' hG' hG2 oi
      cases b0
      ·
        obtain ⟨I9, c9, hv9, oO, hn9, hm9, hz9⟩ := own_room2 S.out
        have hGS := S.grown
        have q2s := q2.kept hGS (by intro e; injection e with e; omega)
        have oAs := own_drawn oA hGS (by omega)
        have oBs := own_drawn oA' hGS (by omega)
        have hGw := grown_trans hG hGS
        obtain ⟨c0, c1, f0, f1⟩ := two_cells q2s
        have p2 := two_set q2s (.slice L p.1.length d) (.slice L' p.2.length d')
        obtain ⟨k0, k1, _, _⟩ := two_cells p2
        have hpost : LeaveDrawn w g (k0' + 600) (.returned (.tuple #[.agg #[.slice L p.1.length d, .slice L' p.2.length d'], .slice I9 (zs).length c9])) _ := ⟨L, d, L', d', p, I9, c9, zs, rfl, h1, h2, by first | omega | (simp; omega), by first | omega | (simp; omega), hm9, fun h => List.eq_nil_of_length_eq_zero (by have := hz9 h; omega), (own_far (own_far oAs (p := ⟨w.heap.size, 0, none⟩) (by simp only; omega) (.slice L p.1.length d)) (p := ⟨w.heap.size, 1, none⟩) (by simp only; omega) (.slice L' p.2.length d')).mono (by omega), (own_far (own_far oBs (p := ⟨w.heap.size, 0, none⟩) (by simp only; omega) (.slice L p.1.length d)) (p := ⟨w.heap.size, 1, none⟩) (by simp only; omega) (.slice L' p.2.length d')).mono (by omega), (own_far (own_far (oO.mono (show w.heap.size + 1 ≤ _ by omega)) (p := ⟨w.heap.size, 0, none⟩) (by simp only; omega) (.slice L p.1.length d)) (p := ⟨w.heap.size, 1, none⟩) (by simp only; omega) (.slice L' p.2.length d')).mono (by omega), (S.rdr.two (by omega) (.slice L p.1.length d) (.slice L' p.2.length d')).more (by omega), grown_two hGw (Nat.le_refl _) _ _⟩
        have HP := hide hpost
        clear hpost
        subst hv9
        have m4 := HB.out _ S.grown
        go_wp2
        (try simp only [Exit.inBlock, Exit.then])
        refine bodyPost_ret (by simp [results, Tryd.results79, go_sem, k0, k1]; try rfl) rfl ?_
        exact HP.out
      · obtain ⟨b, cap, rfl, hb1, hb2, hc1, hc2⟩ := own_some S.out hv
        clear hv
        go_wp2_with fail
        refine wp_region_held_drew (S := fun w' => w'.cell? ⟨gP, 0, none⟩ = some (.slice L p.1.length d) ∧ w'.cell? ⟨gP, 1, none⟩ = some (.slice L' p.2.length d')) (by kernel_rfl) (HB.out w9 S.grown) (fun hHeld => ?_)
        refine wpAnyH_take (i := 0) (oi := _) (v := ?_) rfl (by kernel_rfl) (by kernel_rfl) (by kernel_rfl) (fun _ _ _ h => h) (Or.inl ⟨by rfl, ?_⟩) (by assumption) ?_
        rotate_left
        · intro w hSw; (try dsimp only at hSw); go_simp; first | done | with_reducible rfl
        (try simp only [Act.put, List.setIfInBounds_toArray, List.set_cons_zero, List.set_cons_succ])
        refine wpAnyH_take (i := 1) (oi := _) (v := ?_) rfl (by kernel_rfl) (by kernel_rfl) (by kernel_rfl) (fun _ _ _ h => h) (Or.inl ⟨by rfl, ?_⟩) (by assumption) ?_
        rotate_left
        · intro w hSw; (try dsimp only at hSw); go_simp; first | done | with_reducible rfl
        (try simp only [Act.put, List.setIfInBounds_toArray, List.set_cons_zero, List.set_cons_succ])
        refine wpAnyH_take (i := 2) (oi := _) (v := ?_) rfl (by kernel_rfl) (by kernel_rfl) (by kernel_rfl) (fun _ _ _ h => h) (Or.inl ⟨by rfl, ?_⟩) (by assumption) ?_
        rotate_left
        · intro w hSw; (try dsimp only at hSw); go_simp; first | done | with_reducible rfl
        (try simp only [Act.put, List.setIfInBounds_toArray, List.set_cons_zero, List.set_cons_succ])
        refine wpAnyH_take (i := 3) (oi := _) (v := ?_) rfl (by kernel_rfl) (by kernel_rfl) (by kernel_rfl) (fun _ _ _ h => h) (Or.inl ⟨by rfl, ?_⟩) (by assumption) ?_
        rotate_left
        · intro w hSw; (try dsimp only at hSw); go_simp; first | done | with_reducible rfl
        (try simp only [Act.put, List.setIfInBounds_toArray, List.set_cons_zero, List.set_cons_succ])
        refine wpAnyH_take (i := 4) (oi := _) (v := ?_) rfl (by kernel_rfl) (by kernel_rfl) (by kernel_rfl) (fun _ _ _ h => h) (Or.inl ⟨by rfl, ?_⟩) (by assumption) ?_
        rotate_left
        · intro w hSw; (try dsimp only at hSw); go_simp; first | done | with_reducible rfl
        (try simp only [Act.put, List.setIfInBounds_toArray, List.set_cons_zero, List.set_cons_succ])
        refine wpAnyH_take (i := 6) (oi := _) (v := ?_) rfl (by kernel_rfl) (by kernel_rfl) (by kernel_rfl) (fun _ _ _ h => h) (Or.inl ⟨by rfl, ?_⟩) (by assumption) ?_
        rotate_left
        · intro w hSw; (try dsimp only at hSw); go_simp; first | done | with_reducible rfl
        (try simp only [Act.put, List.setIfInBounds_toArray, List.set_cons_zero, List.set_cons_succ])
        refine wpAnyH_ready (rs := [5, 7]) (by kernel_rfl) (by simp) ?_
        refine AllReadyH.cons (o := _) rfl (fun K hK => ?_) (AllReadyH.cons (o := _) rfl (fun K hK => ?_) AllReadyH.nil)
        · go_simp
          have hs9 := S.grown.size
          have hu := three_new w9 3 0 98 (max (ids.length : Int) 1)
          replace S := (S.alloc (.cells #[.int .i64 0, .int .i64 98, .int .i64 (max (ids.length : Int) 1)] 3)).drewS
          refine hK.out _ _ (HB.out _ S.grown) (fun hHeld => ?_)
          clear hK K
          (try simp only [Act.put, List.setIfInBounds_toArray, List.set_cons_zero, List.set_cons_succ])
          refine wpAnyH_ready (rs := [7]) (by kernel_rfl) (by simp) ?_
          refine AllReadyH.cons (o := _) rfl (fun K hK => ?_) AllReadyH.nil
          go_simp
          go_at_call 82
          refine (pick_any g (k0' + 300) 3 _ (by omega) (by omega) (by omega) S.rdr).mono ?_
          rintro e w10 ⟨x, rfl, hx0, hx1, hR', hG'⟩
          obtain ⟨u, hu⟩ := hu x hx0 hx1
          have hu' := cell_kept (w := (w9.alloc (.cells #[.int .i64 0, .int .i64 98, .int .i64 (max (ids.length : Int) 1)] 3)).drew) hu (by omega) hG'
          replace S := S.asked (by omega) hR' hG'
          clear hR' hG' hu
          go_wp2_with fail
          refine hK.out _ _ (HB.out _ S.grown) (fun hHeld => ?_)
          clear hK K
          (try simp only [Act.put, List.setIfInBounds_toArray, List.set_cons_zero, List.set_cons_succ])
          refine wpAnyH_take (i := 8) (oi := _) (v := ?_) rfl (by kernel_rfl) (by kernel_rfl) (by kernel_rfl) (fun _ _ _ h => h) (Or.inl ⟨by rfl, ?_⟩) (by assumption) ?_
          rotate_left
          · intro w hSw; (try dsimp only at hSw); go_simp; first | done | with_reducible rfl
          (try simp only [Act.put, List.setIfInBounds_toArray, List.set_cons_zero, List.set_cons_succ])
          refine wpAnyH_ready (rs := [9]) (by kernel_rfl) (by simp) ?_
          refine AllReadyH.cons (o := _) rfl (fun K hK => ?_) AllReadyH.nil
          go_simp
          refine hK.out _ _ (HB.out _ S.grown) (fun hHeld => ?_)
          clear hK K
          (try simp only [Act.put, List.setIfInBounds_toArray, List.set_cons_zero, List.set_cons_succ])
          refine wpAnyH_ready (rs := [10]) (by kernel_rfl) (by simp) ?_
          refine AllReadyH.cons (o := _) rfl (fun K hK => ?_) AllReadyH.nil
          go_simp
          replace S := S.alloc (.cells #[.int .i64 u] 3)
          refine hK.out _ _ (HB.out _ S.grown) (fun hHeld => ?_)
          clear hK K
          (try simp only [Act.put, List.setIfInBounds_toArray, List.set_cons_zero, List.set_cons_succ])
          refine wpAnyH_ready (rs := [11]) (by kernel_rfl) (by simp) ?_
          refine AllReadyH.cons (o := _) rfl (fun K hK => ?_) AllReadyH.nil
          refine step_append_any intElem rfl _ _ rfl w1.heap.size (w10.heap.size + 1) _ zs.length (ic zs) rfl S.out (some ⟨w10.heap.size, 0, none⟩) 1 1 rfl (ic [u]) rfl (((Row.new w10 3 #[.int .i64 u]).rd).mono (by simp)) (fun h => by cases h) (ic_one _) (by omega) (by omega) S.grown.size ?_
          intro v9 w11 hap
          replace S := S.app (by omega) hap
          clear hap
          refine hK.out _ _ (HB.out _ S.grown) (fun hHeld => ?_)
          clear hK K
          (try simp only [Act.put, List.setIfInBounds_toArray, List.set_cons_zero, List.set_cons_succ])
          have e2 : ic zs ++ ic [u] = ic (zs ++ [u]) := by simp [ic]
          rw [e2] at S
          clear e2
          obtain ⟨I9, c9, hv9, oO, hn9, hm9, hz9⟩ := own_room2 S.out
          have hGS := S.grown
          have q2s := q2.kept hGS (by intro e; injection e with e; omega)
          have oAs := own_drawn oA hGS (by omega)
          have oBs := own_drawn oA' hGS (by omega)
          have hGw := grown_trans hG hGS
          obtain ⟨c0, c1, f0, f1⟩ := two_cells q2s
          have p2 := two_set q2s (.slice L p.1.length d) (.slice L' p.2.length d')
          obtain ⟨k0, k1, _, _⟩ := two_cells p2
          have hpost : LeaveDrawn w g (k0' + 600) (.returned (.tuple #[.agg #[.slice L p.1.length d, .slice L' p.2.length d'], .slice I9 (zs ++ [u]).length c9])) _ := ⟨L, d, L', d', p, I9, c9, zs ++ [u], rfl, h1, h2, by first | omega | (simp; omega), by first | omega | (simp; omega), hm9, fun h => List.eq_nil_of_length_eq_zero (by have := hz9 h; omega), (own_far (own_far oAs (p := ⟨w.heap.size, 0, none⟩) (by simp only; omega) (.slice L p.1.length d)) (p := ⟨w.heap.size, 1, none⟩) (by simp only; omega) (.slice L' p.2.length d')).mono (by omega), (own_far (own_far oBs (p := ⟨w.heap.size, 0, none⟩) (by simp only; omega) (.slice L p.1.length d)) (p := ⟨w.heap.size, 1, none⟩) (by simp only; omega) (.slice L' p.2.length d')).mono (by omega), (own_far (own_far (oO.mono (show w.heap.size + 1 ≤ _ by omega)) (p := ⟨w.heap.size, 0, none⟩) (by simp only; omega) (.slice L p.1.length d)) (p := ⟨w.heap.size, 1, none⟩) (by simp only; omega) (.slice L' p.2.length d')).mono (by omega), (S.rdr.two (by omega) (.slice L p.1.length d) (.slice L' p.2.length d')).more (by omega), grown_two hGw (Nat.le_refl _) _ _⟩
          have HP := hide hpost
          clear hpost
          refine wpAnyH_ready (rs := [12]) (by kernel_rfl) (by simp) ?_
          refine AllReadyH.cons (o := _) rfl (fun K hK => ?_) AllReadyH.nil
          go_simp
          have p4 := ((q4.kept hGS (by intro e; injection e with e; omega)).far (p := ⟨w.heap.size, 0, none⟩) (by simp only; omega) (.slice L p.1.length d)).far (p := ⟨w.heap.size, 1, none⟩) (by simp only; omega) (.slice L' p.2.length d')
          refine hK.out _ _ ⟨(two_cells p4).1, (two_cells p4).2.1⟩ (fun hHeld => ?_)
          clear hK K
          (try simp only [Act.put, List.setIfInBounds_toArray, List.set_cons_zero, List.set_cons_succ])
          refine wpAnyH_ready (rs := [13]) (by kernel_rfl) (by simp) ?_
          refine AllReadyH.cons (o := _) rfl (fun K hK => ?_) AllReadyH.nil
          go_simp
          refine hK.out _ _ ⟨(two_cells p4).1, (two_cells p4).2.1⟩ (fun hHeld => ?_)
          clear hK K
          (try simp only [Act.put, List.setIfInBounds_toArray, List.set_cons_zero, List.set_cons_succ])
          refine wpAnyH_done (by kernel_rfl) ?_ _
          clear c0 c1 f0 f1 hHeld HB
          go_wp2
          (try simp only [Exit.inBlock, Exit.then])
          refine bodyPost_ret (by simp [results, Tryd.results79, go_sem, k0, k1, hv9]; try rfl) rfl ?_
          first | exact HP.out | (rw [show (zs ++ [u]).length = zs.length + 1 by simp] at HP; exact HP.out)
        · go_simp
          go_at_call 82
          refine (pick_any g (k0' + 300) 3 _ (by omega) (by omega) (by omega) S.drewS.rdr).mono ?_
          rintro e w10 ⟨x, rfl, hx0, hx1, hR', hG'⟩
          replace S := S.drewS.asked (by omega) hR' hG'
          clear hR' hG'
          go_wp2_with fail
          refine hK.out _ _ (HB.out _ S.grown) (fun hHeld => ?_)
          clear hK K
          (try simp only [Act.put, List.setIfInBounds_toArray, List.set_cons_zero, List.set_cons_succ])
          obtain ⟨u, hu'⟩ := three_new w10 3 0 98 (max (ids.length : Int) 1) x hx0 hx1
          replace S := S.alloc (.cells #[.int .i64 0, .int .i64 98, .int .i64 (max (ids.length : Int) 1)] 3)
          refine wpAnyH_ready (rs := [5]) (by kernel_rfl) (by simp) ?_
          refine AllReadyH.cons (o := _) rfl (fun K hK => ?_) AllReadyH.nil
          go_simp
          generalize w10.alloc (.cells #[.int .i64 0, .int .i64 98, .int .i64 (max (ids.length : Int) 1)] 3) = w12 at *
          refine hK.out _ _ (HB.out _ S.grown) (fun hHeld => ?_)
          clear hK K
          (try simp only [Act.put, List.setIfInBounds_toArray, List.set_cons_zero, List.set_cons_succ])
          refine wpAnyH_take (i := 8) (oi := _) (v := ?_) rfl (by kernel_rfl) (by kernel_rfl) (by kernel_rfl) (fun _ _ _ h => h) (Or.inl ⟨by rfl, ?_⟩) (by assumption) ?_
          rotate_left
          · intro w hSw; (try dsimp only at hSw); go_simp; first | done | with_reducible rfl
          (try simp only [Act.put, List.setIfInBounds_toArray, List.set_cons_zero, List.set_cons_succ])
          refine wpAnyH_ready (rs := [9]) (by kernel_rfl) (by simp) ?_
          refine AllReadyH.cons (o := _) rfl (fun K hK => ?_) AllReadyH.nil
          go_simp
          refine hK.out _ _ (HB.out _ S.grown) (fun hHeld => ?_)
          clear hK K
          (try simp only [Act.put, List.setIfInBounds_toArray, List.set_cons_zero, List.set_cons_succ])
          refine wpAnyH_ready (rs := [10]) (by kernel_rfl) (by simp) ?_
          refine AllReadyH.cons (o := _) rfl (fun K hK => ?_) AllReadyH.nil
          go_simp
          replace S := S.alloc (.cells #[.int .i64 u] 3)
          refine hK.out _ _ (HB.out _ S.grown) (fun hHeld => ?_)
          clear hK K
          (try simp only [Act.put, List.setIfInBounds_toArray, List.set_cons_zero, List.set_cons_succ])
          refine wpAnyH_ready (rs := [11]) (by kernel_rfl) (by simp) ?_
          refine AllReadyH.cons (o := _) rfl (fun K hK => ?_) AllReadyH.nil
          refine step_append_any intElem rfl _ _ rfl w1.heap.size (w12.heap.size + 1) _ zs.length (ic zs) rfl S.out (some ⟨w12.heap.size, 0, none⟩) 1 1 rfl (ic [u]) rfl (((Row.new w12 3 #[.int .i64 u]).rd).mono (by simp)) (fun h => by cases h) (ic_one _) (by omega) (by omega) S.grown.size ?_
          intro v9 w11 hap
          replace S := S.app (by omega) hap
          clear hap
          refine hK.out _ _ (HB.out _ S.grown) (fun hHeld => ?_)
          clear hK K
          (try simp only [Act.put, List.setIfInBounds_toArray, List.set_cons_zero, List.set_cons_succ])
          have e2 : ic zs ++ ic [u] = ic (zs ++ [u]) := by simp [ic]
          rw [e2] at S
          clear e2
          obtain ⟨I9, c9, hv9, oO, hn9, hm9, hz9⟩ := own_room2 S.out
          have hGS := S.grown
          have q2s := q2.kept hGS (by intro e; injection e with e; omega)
          have oAs := own_drawn oA hGS (by omega)
          have oBs := own_drawn oA' hGS (by omega)
          have hGw := grown_trans hG hGS
          obtain ⟨c0, c1, f0, f1⟩ := two_cells q2s
          have p2 := two_set q2s (.slice L p.1.length d) (.slice L' p.2.length d')
          obtain ⟨k0, k1, _, _⟩ := two_cells p2
          have hpost : LeaveDrawn w g (k0' + 600) (.returned (.tuple #[.agg #[.slice L p.1.length d, .slice L' p.2.length d'], .slice I9 (zs ++ [u]).length c9])) _ := ⟨L, d, L', d', p, I9, c9, zs ++ [u], rfl, h1, h2, by first | omega | (simp; omega), by first | omega | (simp; omega), hm9, fun h => List.eq_nil_of_length_eq_zero (by have := hz9 h; omega), (own_far (own_far oAs (p := ⟨w.heap.size, 0, none⟩) (by simp only; omega) (.slice L p.1.length d)) (p := ⟨w.heap.size, 1, none⟩) (by simp only; omega) (.slice L' p.2.length d')).mono (by omega), (own_far (own_far oBs (p := ⟨w.heap.size, 0, none⟩) (by simp only; omega) (.slice L p.1.length d)) (p := ⟨w.heap.size, 1, none⟩) (by simp only; omega) (.slice L' p.2.length d')).mono (by omega), (own_far (own_far (oO.mono (show w.heap.size + 1 ≤ _ by omega)) (p := ⟨w.heap.size, 0, none⟩) (by simp only; omega) (.slice L p.1.length d)) (p := ⟨w.heap.size, 1, none⟩) (by simp only; omega) (.slice L' p.2.length d')).mono (by omega), (S.rdr.two (by omega) (.slice L p.1.length d) (.slice L' p.2.length d')).more (by omega), grown_two hGw (Nat.le_refl _) _ _⟩
          have HP := hide hpost
          clear hpost
          refine wpAnyH_ready (rs := [12]) (by kernel_rfl) (by simp) ?_
          refine AllReadyH.cons (o := _) rfl (fun K hK => ?_) AllReadyH.nil
          go_simp
          have p4 := ((q4.kept hGS (by intro e; injection e with e; omega)).far (p := ⟨w.heap.size, 0, none⟩) (by simp only; omega) (.slice L p.1.length d)).far (p := ⟨w.heap.size, 1, none⟩) (by simp only; omega) (.slice L' p.2.length d')
          refine hK.out _ _ ⟨(two_cells p4).1, (two_cells p4).2.1⟩ (fun hHeld => ?_)
          clear hK K
          (try simp only [Act.put, List.setIfInBounds_toArray, List.set_cons_zero, List.set_cons_succ])
          refine wpAnyH_ready (rs := [13]) (by kernel_rfl) (by simp) ?_
          refine AllReadyH.cons (o := _) rfl (fun K hK => ?_) AllReadyH.nil
          go_simp
          refine hK.out _ _ ⟨(two_cells p4).1, (two_cells p4).2.1⟩ (fun hHeld => ?_)
          clear hK K
          (try simp only [Act.put, List.setIfInBounds_toArray, List.set_cons_zero, List.set_cons_succ])
          refine wpAnyH_done (by kernel_rfl) ?_ _
          clear c0 c1 f0 f1 hHeld HB
          go_wp2
          (try simp only [Exit.inBlock, Exit.then])
          refine bodyPost_ret (by simp [results, Tryd.results79, go_sem, k0, k1, hv9]; try rfl) rfl ?_
          first | exact HP.out | (rw [show (zs ++ [u]).length = zs.length + 1 by simp] at HP; exact HP.out)
end Go.Proofs.YtpiiefmfiipabaaDoor
