/- Sheets, a jump and a round that is often right, drawn from a code, for the law of rounds. No conditions. -/
import Derived.Test.YtcdoopccmljaoaaDoorDrawB
import Derived.Test.YtcdoopccmljaoaaDoorRoundMost
namespace Go.Proofs.YtcdoopccmljaoaaDoor
open Go.ChangeShapes Go.WideShapes Go.ChangeAt Go.RowKit Go.Deep
theorem rd_dropB {w : World} {B b o : Nat} {zs : List Int} (h : Rd w B (some ⟨b, o, none⟩) (ic zs)) (k : Nat) : Rd w B (some ⟨b, o + k, none⟩) (ic (zs.drop k)) := by
  by_cases hk : k < zs.length
  · obtain ⟨b', o', hA, hb, hc⟩ := h.at (k := k) (by rw [ic_len]; exact hk)
    cases hA
    refine .inr ⟨b, o + k, rfl, hb, fun j hj => ?_⟩
    rw [ic_len, List.length_drop] at hj
    have := hc (k + j) (by rw [ic_len]; omega)
    rw [Nat.add_assoc, this, ic_get _ _ (by omega), ic_get _ _ (by rw [List.length_drop]; omega), List.getElem_drop]
  · left; rw [List.drop_of_length_le (by omega)]; rfl
theorem own_none {w : World} {B : Nat} {T : TypeId} {I : Option Addr} {r : List Int} (h : Own w B T I (ic r)) : I = none → r.length = 0 := by
  intro e
  rcases h with h | ⟨g, cs, h, _⟩
  · have := congrArg List.length h
    rw [ic_len] at this
    simpa using this
  · rw [e] at h; cases h
def slen : Value → Nat
  | .slice _ n _ => n
  | _ => 0
/-- The boxes while a round is changed. -/
structure OkS (w wr : World) (g gR gJ : Nat) (j k : Int) (A : Option Addr) (zs : List (Int × Int)) (I : Option Addr) (c : Nat) (r : List Int) (K : Nat) : Prop where
  rs : Row wr gR 32 [.int .i64 0, .int .i64 0]
  jb : Row wr gJ 32 [.int .i64 j, .int .i64 k]
  oL : Own wr w.heap.size 24 A (sc zs)
  oR : Own wr w.heap.size 3 I (ic r)
  room : r.length ≤ c
  nI : I = none → r.length = 0
  rd : Rdr wr g K
  gr : w.grownBy wr (some g)
  gl : g < w.heap.size
  lR : w.heap.size ≤ gR
  lJ : w.heap.size ≤ gJ
section
variable {w wr w' : World} {g gR gJ : Nat} {j k : Int} {A I I' : Option Addr} {zs : List (Int × Int)} {c c' : Nat} {r r' : List Int} {K K' : Nat}
theorem OkS.asked (h : OkS w wr g gR gJ j k A zs I c r K) (hR : Rdr w' g K') (hg : wr.grownBy w' (some g)) : OkS w w' g gR gJ j k A zs I c r K' := by
  have h1 := h.gl; have h2 := h.lR; have h3 := h.lJ
  exact ⟨h.rs.kept hg (by intro e; injection e with e; omega), h.jb.kept hg (by intro e; injection e with e; omega), own_keepB h.oL hg h1, own_keepB h.oR hg h1, h.room, h.nI, hR, grown_trans h.gr hg, h1, h2, h3⟩
theorem OkS.up (h : OkS w wr g gR gJ j k A zs I c r K) (hb : Below wr.heap.size wr w') : OkS w w' g gR gJ j k A zs I c r K :=
  ⟨h.rs.after hb, h.jb.after hb, h.oL.below hb, h.oR.below hb, h.room, h.nI, h.rd.up hb, grown_trans h.gr (bel_row hb), h.gl, h.lR, h.lJ⟩
theorem own_type {w w' : World} {B gI : Nat} {T T' : TypeId} {A : Option Addr} {xs ys : List Value} (h : Own w B T A xs) (hq : Row w gI T' ys) (hT : T ≠ T') (hb : w.grownBy w' (some gI)) : Own w' B T A xs := by
  rcases h with h | ⟨g', cs, rfl, hB, h1, h2⟩
  · exact .inl h
  · refine .inr ⟨g', cs, rfl, hB, ?_, h2⟩
    obtain ⟨cs', h3, _⟩ := hq
    rw [hb.block g' (lt_of_block h1) (fun e => by
      have := Option.some.inj e
      subst this
      rw [h1] at h3
      injection h3 with h3
      injection h3 with _ h3 _
      exact hT h3)]
    exact h1
theorem row_type {w w' : World} {gI gg : Nat} {T T' : TypeId} {xs ys : List Value} (h : Row w gg T xs) (hq : Row w gI T' ys) (hT : T ≠ T') (hb : w.grownBy w' (some gI)) : Row w' gg T xs :=
  h.kept hb (by
    intro e
    have := Option.some.inj e
    subst this
    obtain ⟨cs, h1, _⟩ := h
    obtain ⟨cs', h3, _⟩ := hq
    rw [h1] at h3
    injection h3 with h3
    injection h3 with _ h3 _
    exact hT h3)
theorem OkS.store {gI q : Nat} (h : OkS w wr g gR gJ j k A zs (some ⟨gI, 0, none⟩) c r K) (hB : w.heap.size ≤ gI) (u : Value) (hl : r'.length = r.length) (hrow : Row wr gI 3 (ic r)) (hrow2 : Row (wr.setCell ⟨gI, q, none⟩ u) gI 3 (ic r')) (hK : K ≤ K') : OkS w (wr.setCell ⟨gI, q, none⟩ u) g gR gJ j k A zs (some ⟨gI, 0, none⟩) c r' K' := by
  have hg := grown_set wr ⟨gI, q, none⟩ u
  have h1 := h.gl
  exact ⟨row_type h.rs hrow (by decide) hg, row_type h.jb hrow (by decide) hg, own_type h.oL hrow (by decide) hg, hrow2.own hB, by rw [hl]; exact h.room, (fun e => by cases e), (h.rd.kept hg (fun b e => by cases e; simp only; omega)).more hK, grown_store h.gr hB u, h1, h.lR, h.lJ⟩
theorem OkS.fresh (h : OkS w wr g gR gJ j k A zs I c r K) (o : Own wr w.heap.size 3 I' (ic r')) (h1 : r'.length ≤ c') (h3 : I' = none → r'.length = 0) : OkS w wr g gR gJ j k A zs I' c' r' K :=
  ⟨h.rs, h.jb, h.oL, o, h1, h3, h.rd, h.gr, h.gl, h.lR, h.lJ⟩
end
/-- Sheets, a jump and a round. -/
def RoundK (w : World) (g K : Nat) (e : Ending) (w' : World) : Prop :=
  ∃ (A : Option Addr) (c : Nat) (zs : List (Int × Int)) (j k : Int) (I : Option Addr) (ci : Nat) (r : List Int), e = .returned (.tuple #[.slice A zs.length c, .agg #[.int .i64 j, .int .i64 k], .slice I r.length ci]) ∧ zs.length ≤ 11 ∧ zs.length ≤ c ∧ c ≤ maxLen ∧ r.length ≤ 11 ∧ r.length ≤ ci ∧ (I = none → r.length = 0) ∧ Own w' w.heap.size 24 A (sc zs) ∧ Own w' w.heap.size 3 I (ic r) ∧ DrawnTo w w' g K
set_option linter.unusedSimpArgs false in
set_option linter.unusedVariables false in
set_option maxHeartbeats 4000000 in
set_option maxRecDepth 100000 in
theorem round_any (g K : Nat) (w : World) (hK : K ≤ 1000000) (hR : Rdr w g K) :
    Calls Tryd.prog 88 #[.pointer (some ⟨g, 0, none⟩)] w (RoundK w g (K + 100)) := by
  have hgl := hR.lt
  go_enter Tryd.func88, Tryd.ntmps88
  go_wp2_with fail
  have q2 := Row.new w 32 #[.int .i64 0, .int .i64 0]
  have b0 : Below w.heap.size w (w.alloc (.cells #[.int .i64 0, .int .i64 0] 32)) := by go_grown
  have hz2 := q2.lt
  have hz1 := b0.size
  replace hR := hR.up b0
  generalize w.alloc (.cells #[.int .i64 0, .int .i64 0] 32) = w0 at *
  refine (sheets_any g _ _ _ (by omega) (by omega) (by omega) hR).mono ?_
  rintro e w2 ⟨L, d, zs, rfl, h1, h2, h3, h4, oL, hn, hR2, hG2⟩
  have hz3 := hG2.size
  replace q2 := q2.kept hG2 (by intro e; injection e with e; omega)
  have gg := grown_trans (bel_row b0) hG2
  clear hR h4 hn
  go_wp2_with fail
  refine (jump_any g _ _ _ (by omega) (by omega) (by omega) hR2).mono ?_
  rintro e w3 ⟨a, b, rfl, ha, hb, hR3, hG3⟩
  have hz4 := hG3.size
  replace q2 := q2.kept hG3 (by intro e; injection e with e; omega)
  replace oL := own_keepB oL hG3 (by omega)
  replace gg := grown_trans gg hG3
  clear hR2 hG2 hG3
  have b4 : Below w3.heap.size w3 (w3.alloc (.cells #[.int .i64 a, .int .i64 b] 32)) := by go_grown
  have q4 := Row.new w3 32 #[.int .i64 a, .int .i64 b]
  replace q2 := q2.after b4
  replace oL := oL.below b4
  replace hR3 := hR3.up b4
  replace gg := grown_trans gg (bel_row b4)
  obtain ⟨m0, m1, _, _⟩ := two_cells q4
  have hz5 := q4.lt
  go_wp2_with fail
  clear m0 m1 b4
  generalize w3.alloc (.cells #[.int .i64 a, .int .i64 b] 32) = w4 at *
  refine (roundBest_spec L d zs a b w4 (by omega) oL.rd).mono ?_
  have hbs := best_short zs a b
  generalize roundBest zs a b = r0 at *
  rintro e w5 ⟨I, ci, rfl, oI, b5, hroom⟩
  have hz6 := b5.size
  have S : OkS w w5 g w.heap.size w3.heap.size a b L zs I ci r0 (K + 33) := ⟨q2.after b5, q4.after b5, (oL.mono (by omega)).below b5, oI.mono (by omega), hroom, own_none oI, (hR3.up b5).more (by omega), grown_trans gg (bel_row b5), hgl, Nat.le_refl _, by omega⟩
  clear q2 q4 oL oI hroom hR3 gg b5
  go_wp2_with fail
  go_loopw [7, 8] (fun v i wr => ∃ (q : Nat) (r : List Int) (I : Option Addr) (c : Nat), i = .int .i64 q ∧ v = .slice I r.length c ∧ q ≤ r.length + 1 ∧ r.length ≤ 11 ∧ OkS w wr g w.heap.size w3.heap.size a b L zs I c r (K + 33 + 3 * q)) (fun v i _ => slen v - (intOf i).toNat)
  case atStart => exact ⟨0, r0, I, ci, rfl, rfl, by omega, by omega, S⟩
  case round =>
    clear S
    obtain ⟨q, r, I, c, rfl, rfl, hq, hr, S⟩ := hrel
    by_cases hlt : q < r.length
    · go_wp2_with fail
      refine (pick_any g _ 8 _ (by omega) (by omega) (by omega) S.rd).mono ?_
      rintro e w6 ⟨x, rfl, hx0, hx8, hR6, hG6⟩
      replace S := S.asked hR6 hG6
      clear hR6 hG6
      have hne : ic r ≠ [] := by intro e; have := congrArg List.length e; rw [ic_len, List.length_nil] at this; omega
      obtain ⟨gI, rfl, hB, hrow⟩ := S.oR.row hne
      have hroom := S.room
      by_cases hx : x = 0
      · subst hx
        have i0 : (0 : Int) ≤ (q : Int) := by omega
        have i1 : (q : Int) ≤ (c : Int) := by omega
        have i2 : (q : Int) + 1 ≤ (r.length : Int) := by omega
        have i3 : (0 : Int) ≤ (q : Int) + 1 := by omega
        have i4 : (r.length : Int) ≤ (c : Int) := by omega
        have i5 : ((q : Int) + 1).toNat = q + 1 := by omega
        have i6 : IntKind.i64.wrap ((q : Int) + 1) = (q : Int) + 1 := by rw [IntKind.wrap_i64]; omega
        have rT := hrow.rd.take q
        have rD0 := rd_dropB hrow.rd (q + 1)
        rw [Nat.zero_add] at rD0
        have hlT : (r.take q).length = q := by rw [List.length_take]; omega
        have hlD : (r.drop (q + 1)).length = r.length - (q + 1) := List.length_drop
        clear hrow
        by_cases hc1 : c = q + 1
        · have hr1 : r.length = q + 1 := by omega
          subst hc1
          have i7 : (q : Int) ≤ (q : Int) + 1 := by omega
          have rD0' : Rd w6 w6.heap.size (some ⟨gI, 0, none⟩) (ic (r.drop (q + 1))) := .inl (by rw [List.drop_of_length_le (by omega)]; rfl)
          go_wp2_with fail
          refine wp_region_held_drew (S := fun _ => True) (by kernel_rfl) trivial (fun hHeld => ?_)
          refine wpAnyH_take (i := 1) (oi := _) (v := ?_) rfl (by kernel_rfl) (by kernel_rfl) (by kernel_rfl) (fun _ _ _ h => h) (Or.inl ⟨by rfl, ?_⟩) (by assumption) ?_
          rotate_left
          · intro w hSw; (try dsimp only at hSw); go_simp; first | done | with_reducible rfl
          (try simp only [Act.put, List.setIfInBounds_toArray, List.set_cons_zero, List.set_cons_succ])
          refine wpAnyH_take (i := 2) (oi := _) (v := ?_) rfl (by kernel_rfl) (by kernel_rfl) (by kernel_rfl) (fun _ _ _ h => h) (Or.inl ⟨by rfl, ?_⟩) (by assumption) ?_
          rotate_left
          · intro w hSw; (try dsimp only at hSw); go_simp; first | done | with_reducible rfl
          (try simp only [Act.put, List.setIfInBounds_toArray, List.set_cons_zero, List.set_cons_succ])
          refine wpAnyH_take (i := 3) (oi := _) (v := ?_) rfl (by kernel_rfl) (by kernel_rfl) (by kernel_rfl) (fun _ _ _ h => h) (Or.inl ⟨by rfl, ?_⟩) (by assumption) ?_
          rotate_left
          · intro w hSw; (try dsimp only at hSw); go_simp; first | done | with_reducible rfl
          (try simp only [Act.put, List.setIfInBounds_toArray, List.set_cons_zero, List.set_cons_succ])
          refine wpAnyH_take (i := 5) (oi := _) (v := ?_) rfl (by kernel_rfl) (by kernel_rfl) (by kernel_rfl) (fun _ _ _ h => h) (Or.inl ⟨by rfl, ?_⟩) (by assumption) ?_
          rotate_left
          · intro w hSw; (try dsimp only at hSw); go_simp; first | done | with_reducible rfl
          (try simp only [Act.put, List.setIfInBounds_toArray, List.set_cons_zero, List.set_cons_succ])
          refine wpAnyH_take (i := 6) (oi := _) (v := ?_) rfl (by kernel_rfl) (by kernel_rfl) (by kernel_rfl) (fun _ _ _ h => h) (Or.inl ⟨by rfl, ?_⟩) (by assumption) ?_
          rotate_left
          · intro w hSw; (try dsimp only at hSw); go_simp; first | done | with_reducible rfl
          (try simp only [Act.put, List.setIfInBounds_toArray, List.set_cons_zero, List.set_cons_succ])
          refine wpAnyH_take (i := 7) (oi := _) (v := ?_) rfl (by kernel_rfl) (by kernel_rfl) (by kernel_rfl) (fun _ _ _ h => h) (Or.inl ⟨by rfl, ?_⟩) (by assumption) ?_
          rotate_left
          · intro w hSw; (try dsimp only at hSw); go_simp; first | done | with_reducible rfl
          (try simp only [Act.put, List.setIfInBounds_toArray, List.set_cons_zero, List.set_cons_succ])
          refine wpAnyH_take (i := 8) (oi := _) (v := ?_) rfl (by kernel_rfl) (by kernel_rfl) (by kernel_rfl) (fun _ _ _ h => h) (Or.inl ⟨by rfl, ?_⟩) (by assumption) ?_
          rotate_left
          · intro w hSw; (try dsimp only at hSw); go_simp; first | done | with_reducible rfl
          (try simp only [Act.put, List.setIfInBounds_toArray, List.set_cons_zero, List.set_cons_succ])
          refine wpAnyH_ready (rs := [0]) (by kernel_rfl) (by simp) ?_
          refine AllReadyH.cons (o := _) rfl (fun K hK => ?_) AllReadyH.nil
          go_simp
          have bA : Below w6.heap.size w6 (w6.alloc (.cells #[] 3)).drew := by go_grown
          have oE := owns_below (own_empty (e := 3) (size := 1) w6 w6.heap.size (Nat.le_refl _)) (Below.refl _ _).drew
          refine hK.out _ _ trivial (fun hHeld => ?_)
          clear hK K
          (try simp only [Act.put, List.setIfInBounds_toArray, List.set_cons_zero, List.set_cons_succ])
          refine wpAnyH_ready (rs := [4]) (by kernel_rfl) (by simp) ?_
          refine AllReadyH.cons (o := _) rfl (fun K hK => ?_) AllReadyH.nil
          refine step_append_any intElem rfl _ _ rfl w6.heap.size _ _ 0 [] rfl oE (some ⟨gI, 0, none⟩) q _ rfl (ic (r.take q)) (by rw [ic_len, hlT]; omega) (rT.up bA) (fun h => by cases h) (ic_one _) (by omega) (by omega) (by simp) ?_
          intro v1 w7 hap
          have b7 := bA.trans (hap.below oE (by simp))
          have o7 := hap.1
          have z7 := b7.size
          clear hap oE
          refine hK.out _ _ trivial (fun hHeld => ?_)
          clear hK K
          (try simp only [Act.put, List.setIfInBounds_toArray, List.set_cons_zero, List.set_cons_succ])
          refine wpAnyH_ready (rs := [9]) (by kernel_rfl) (by simp) ?_
          refine AllReadyH.cons (o := _) rfl (fun K hK => ?_) AllReadyH.nil
          refine step_append_any intElem rfl _ _ rfl w6.heap.size w7.heap.size _ (0 + q) ([] ++ ic (r.take q)) rfl o7 (some ⟨gI, 0, none⟩) 0 _ rfl (ic (r.drop (q + 1))) (by rw [ic_len, hlD]; omega) (rD0'.up b7) (fun h => by cases h) (ic_one _) (by omega) (by omega) z7 ?_
          intro v2 w8 hap
          have b8 := b7.trans (hap.below o7 z7)
          have o8 := hap.1
          rw [show [] ++ ic (r.take q) ++ ic (r.drop (q + 1)) = ic (r.take q ++ r.drop (q + 1)) by simp [ic]] at o8
          clear hap o7
          obtain ⟨I8, c8, hv8, oR8, hc8, _, hn8⟩ := own_room2 o8
          subst hv8
          have hl8 : (r.take q ++ r.drop (q + 1)).length = 0 + q + 0 := by rw [List.length_append, hlT, hlD]; omega
          have hz8 := S.gr.size
          have S8 := (S.up b8).fresh (oR8.mono hz8) (by rw [hl8]; exact hc8) (fun h => by rw [hl8]; exact hn8 h)
          refine hK.out _ _ trivial (fun hHeld => ?_)
          clear hK K
          (try simp only [Act.put, List.setIfInBounds_toArray, List.set_cons_zero, List.set_cons_succ])
          refine wpAnyH_ready (rs := [10]) (by kernel_rfl) (by simp) ?_
          refine AllReadyH.cons (o := _) rfl (fun K hK => ?_) AllReadyH.nil
          go_simp
          refine hK.out _ _ trivial (fun hHeld => ?_)
          clear hK K
          (try simp only [Act.put, List.setIfInBounds_toArray, List.set_cons_zero, List.set_cons_succ])
          refine wpAnyH_done (by kernel_rfl) ?_ _
          go_wp2_with fail
          go_roundw
          case rel => exact ⟨q + 1, _, I8, c8, by go_num, by first | (rw [hl8]; done) | (rw [hl8]; congr 1; omega) | (rw [hl8, Nat.zero_add]; done), by omega, by omega, { S8 with rd := S8.rd.more (by omega) }⟩
          case measure => simp [intOf, slen]; omega
        · obtain ⟨e, he⟩ : ∃ e, c = q + 1 + (e + 1) := ⟨c - (q + 1) - 1, by omega⟩
          subst he
          have i7 : (q : Int) ≤ (q : Int) + 1 + ((e : Int) + 1) := by omega
          have i8 : (r.length : Int) ≤ (q : Int) + 1 + ((e : Int) + 1) := by omega
          have rD0' := rD0
          go_wp2_with fail
          refine wp_region_held_drew (S := fun _ => True) (by kernel_rfl) trivial (fun hHeld => ?_)
          refine wpAnyH_take (i := 1) (oi := _) (v := ?_) rfl (by kernel_rfl) (by kernel_rfl) (by kernel_rfl) (fun _ _ _ h => h) (Or.inl ⟨by rfl, ?_⟩) (by assumption) ?_
          rotate_left
          · intro w hSw; (try dsimp only at hSw); go_simp; first | done | with_reducible rfl
          (try simp only [Act.put, List.setIfInBounds_toArray, List.set_cons_zero, List.set_cons_succ])
          refine wpAnyH_take (i := 2) (oi := _) (v := ?_) rfl (by kernel_rfl) (by kernel_rfl) (by kernel_rfl) (fun _ _ _ h => h) (Or.inl ⟨by rfl, ?_⟩) (by assumption) ?_
          rotate_left
          · intro w hSw; (try dsimp only at hSw); go_simp; first | done | with_reducible rfl
          (try simp only [Act.put, List.setIfInBounds_toArray, List.set_cons_zero, List.set_cons_succ])
          refine wpAnyH_take (i := 3) (oi := _) (v := ?_) rfl (by kernel_rfl) (by kernel_rfl) (by kernel_rfl) (fun _ _ _ h => h) (Or.inl ⟨by rfl, ?_⟩) (by assumption) ?_
          rotate_left
          · intro w hSw; (try dsimp only at hSw); go_simp; first | done | with_reducible rfl
          (try simp only [Act.put, List.setIfInBounds_toArray, List.set_cons_zero, List.set_cons_succ])
          refine wpAnyH_take (i := 5) (oi := _) (v := ?_) rfl (by kernel_rfl) (by kernel_rfl) (by kernel_rfl) (fun _ _ _ h => h) (Or.inl ⟨by rfl, ?_⟩) (by assumption) ?_
          rotate_left
          · intro w hSw; (try dsimp only at hSw); go_simp; first | done | with_reducible rfl
          (try simp only [Act.put, List.setIfInBounds_toArray, List.set_cons_zero, List.set_cons_succ])
          refine wpAnyH_take (i := 6) (oi := _) (v := ?_) rfl (by kernel_rfl) (by kernel_rfl) (by kernel_rfl) (fun _ _ _ h => h) (Or.inl ⟨by rfl, ?_⟩) (by assumption) ?_
          rotate_left
          · intro w hSw; (try dsimp only at hSw); go_simp; first | done | with_reducible rfl
          (try simp only [Act.put, List.setIfInBounds_toArray, List.set_cons_zero, List.set_cons_succ])
          refine wpAnyH_take (i := 7) (oi := _) (v := ?_) rfl (by kernel_rfl) (by kernel_rfl) (by kernel_rfl) (fun _ _ _ h => h) (Or.inl ⟨by rfl, ?_⟩) (by assumption) ?_
          rotate_left
          · intro w hSw; (try dsimp only at hSw); go_simp; first | done | with_reducible rfl
          (try simp only [Act.put, List.setIfInBounds_toArray, List.set_cons_zero, List.set_cons_succ])
          refine wpAnyH_take (i := 8) (oi := _) (v := ?_) rfl (by kernel_rfl) (by kernel_rfl) (by kernel_rfl) (fun _ _ _ h => h) (Or.inl ⟨by rfl, ?_⟩) (by assumption) ?_
          rotate_left
          · intro w hSw; (try dsimp only at hSw); go_simp; first | done | with_reducible rfl
          (try simp only [Act.put, List.setIfInBounds_toArray, List.set_cons_zero, List.set_cons_succ])
          refine wpAnyH_ready (rs := [0]) (by kernel_rfl) (by simp) ?_
          refine AllReadyH.cons (o := _) rfl (fun K hK => ?_) AllReadyH.nil
          go_simp
          have bA : Below w6.heap.size w6 (w6.alloc (.cells #[] 3)).drew := by go_grown
          have oE := owns_below (own_empty (e := 3) (size := 1) w6 w6.heap.size (Nat.le_refl _)) (Below.refl _ _).drew
          refine hK.out _ _ trivial (fun hHeld => ?_)
          clear hK K
          (try simp only [Act.put, List.setIfInBounds_toArray, List.set_cons_zero, List.set_cons_succ])
          refine wpAnyH_ready (rs := [4]) (by kernel_rfl) (by simp) ?_
          refine AllReadyH.cons (o := _) rfl (fun K hK => ?_) AllReadyH.nil
          refine step_append_any intElem rfl _ _ rfl w6.heap.size _ _ 0 [] rfl oE (some ⟨gI, 0, none⟩) q _ rfl (ic (r.take q)) (by rw [ic_len, hlT]; omega) (rT.up bA) (fun h => by cases h) (ic_one _) (by omega) (by omega) (by simp) ?_
          intro v1 w7 hap
          have b7 := bA.trans (hap.below oE (by simp))
          have o7 := hap.1
          have z7 := b7.size
          clear hap oE
          refine hK.out _ _ trivial (fun hHeld => ?_)
          clear hK K
          (try simp only [Act.put, List.setIfInBounds_toArray, List.set_cons_zero, List.set_cons_succ])
          refine wpAnyH_ready (rs := [9]) (by kernel_rfl) (by simp) ?_
          refine AllReadyH.cons (o := _) rfl (fun K hK => ?_) AllReadyH.nil
          refine step_append_any intElem rfl _ _ rfl w6.heap.size w7.heap.size _ (0 + q) ([] ++ ic (r.take q)) rfl o7 (some ⟨gI, q + 1, none⟩) (r.length - (q + 1)) _ rfl (ic (r.drop (q + 1))) (by rw [ic_len, hlD]; omega) (rD0'.up b7) (fun h => by cases h) (ic_one _) (by omega) (by omega) z7 ?_
          intro v2 w8 hap
          have b8 := b7.trans (hap.below o7 z7)
          have o8 := hap.1
          rw [show [] ++ ic (r.take q) ++ ic (r.drop (q + 1)) = ic (r.take q ++ r.drop (q + 1)) by simp [ic]] at o8
          clear hap o7
          obtain ⟨I8, c8, hv8, oR8, hc8, _, hn8⟩ := own_room2 o8
          subst hv8
          have hl8 : (r.take q ++ r.drop (q + 1)).length = 0 + q + (r.length - (q + 1)) := by rw [List.length_append, hlT, hlD]; omega
          have hz8 := S.gr.size
          have S8 := (S.up b8).fresh (oR8.mono hz8) (by rw [hl8]; exact hc8) (fun h => by rw [hl8]; exact hn8 h)
          refine hK.out _ _ trivial (fun hHeld => ?_)
          clear hK K
          (try simp only [Act.put, List.setIfInBounds_toArray, List.set_cons_zero, List.set_cons_succ])
          refine wpAnyH_ready (rs := [10]) (by kernel_rfl) (by simp) ?_
          refine AllReadyH.cons (o := _) rfl (fun K hK => ?_) AllReadyH.nil
          go_simp
          refine hK.out _ _ trivial (fun hHeld => ?_)
          clear hK K
          (try simp only [Act.put, List.setIfInBounds_toArray, List.set_cons_zero, List.set_cons_succ])
          refine wpAnyH_done (by kernel_rfl) ?_ _
          go_wp2_with fail
          go_roundw
          case rel => exact ⟨q + 1, _, I8, c8, by go_num, by first | (rw [hl8]; done) | (rw [hl8]; congr 1; omega) | (rw [hl8, Nat.zero_add]; done), by omega, by omega, { S8 with rd := S8.rd.more (by omega) }⟩
          case measure => simp [intOf, slen]; omega
      · have t1 : (x == 0) = false := beq_false_of_ne hx
        clear hx
        go_wp2_with fail
        refine (pick_any g _ 20 _ (by omega) (by omega) (by omega) S.rd).mono ?_
        rintro e w7 ⟨y, rfl, hy0, hy8, hR7, hG7⟩
        replace S := S.asked hR7 hG7
        clear hR7 hG7 hrow
        obtain ⟨gI', e', hB', hrow⟩ := S.oR.row hne
        cases e'
        by_cases hy : y = 0
        · subst hy
          go_wp2_with fail
          refine (pick_any g _ ((zs.length : Int) + 1) _ (by omega) (by omega) (by omega) S.rd).mono ?_
          rintro e w8 ⟨z, rfl, hz0, hz8, hR8, hG8⟩
          replace S := S.asked hR8 hG8
          clear hR8 hG8 hrow
          obtain ⟨gI'', e', hB'', hrow⟩ := S.oR.row hne
          cases e'
          have c1 := hrow.cell (j := q) (by rw [ic_len]; exact hlt)
          have f1 := hrow.frozen q
          have hrow2 := hrow.set q (.int .i64 z)
          rw [show (ic r).set q (.int .i64 z) = ic (r.set q z) by simp [ic, List.map_set]] at hrow2
          have S2 := S.store hB (.int .i64 z) (List.length_set ..) hrow hrow2 (K' := K + 33 + 3 * (q + 1)) (by omega)
          clear S hrow hrow2
          go_wp2_with fail
          go_roundw
          case rel => exact ⟨q + 1, r.set q z, _, c, by go_num, by rw [List.length_set], by rw [List.length_set]; omega, by rw [List.length_set]; exact hr, S2⟩
          case measure => simp [intOf, slen]; omega
        · have t2 : (y == 0) = false := beq_false_of_ne hy
          clear hy
          go_wp2_with fail
          go_roundw
          case rel => exact ⟨q + 1, r, _, c, by go_num, rfl, by omega, hr, { S with rd := S.rd.more (by omega) }⟩
          case measure => simp [intOf, slen]; omega
    · obtain ⟨c0, c1, f0, f1⟩ := two_cells S.rs
      obtain ⟨d0, d1, _, _⟩ := two_cells S.jb
      go_wp2_with fail
      go_region
      have p2 := (two_set S.rs (.int .i64 a) (.int .i64 b)).drew
      obtain ⟨k0, k1, _, _⟩ := two_cells p2
      have g1 := grown_set wr ⟨w.heap.size, 0, none⟩ (.int .i64 a)
      have q1 := S.rs.set 0 (.int .i64 a)
      have g2 := grown_set (wr.setCell ⟨w.heap.size, 0, none⟩ (.int .i64 a)) ⟨w.heap.size, 1, none⟩ (.int .i64 b)
      have oL4 := (own_type (own_type S.oL S.rs (by decide) g1) q1 (by decide) g2).below (Below.refl _ _).drew
      have oR4 := (own_type (own_type S.oR S.rs (by decide) g1) q1 (by decide) g2).below (Below.refl _ _).drew
      have rd4 := ((S.rd.two (r := w.heap.size) hgl (.int .i64 a) (.int .i64 b)).drew).more (k' := K + 100) (by omega)
      have gr4 := grown_drewS (grown_store (grown_store S.gr (Nat.le_refl _) (.int .i64 a) (p := ⟨w.heap.size, 0, none⟩)) (Nat.le_refl _) (.int .i64 b) (p := ⟨w.heap.size, 1, none⟩))
      have hroom := S.room
      have hnI := S.nI
      clear S c0 c1 f0 f1 d0 d1 g1 g2 q1
      go_wp2
      refine bodyPost_ret (by simp [results, Tryd.results88, go_sem, k0, k1]; try rfl) rfl ?_
      exact ⟨L, d, zs, a, b, I, c, r, rfl, h1, h2, h3, hr, hroom, hnI, oL4, oR4, rd4, gr4⟩
/-- Sheets, a jump and a round, drawn from a code. -/
def RoundKFrom (w : World) (e : Ending) (w' : World) : Prop :=
  ∃ (A : Option Addr) (c : Nat) (zs : List (Int × Int)) (j k : Int) (I : Option Addr) (ci : Nat) (r : List Int), e = .returned (.tuple #[.slice A zs.length c, .agg #[.int .i64 j, .int .i64 k], .slice I r.length ci]) ∧ zs.length ≤ 11 ∧ zs.length ≤ c ∧ c ≤ maxLen ∧ r.length ≤ 11 ∧ r.length ≤ ci ∧ (I = none → r.length = 0) ∧ Own w' w.heap.size 24 A (sc zs) ∧ Own w' w.heap.size 3 I (ic r) ∧ Below w.heap.size w w'
set_option linter.unusedSimpArgs false in
set_option linter.unusedVariables false in
set_option maxRecDepth 100000 in
theorem drawRoundOk_any (A : Option Addr) (c : Nat) (bs : List Int) (w : World) (hkc : bs.length ≤ c) (hmc : c ≤ maxLen) (hbs : ∀ b ∈ bs, (Lit.int .u8 b).wf = true) (hrd : Rd w w.heap.size A (bc bs)) :
    Calls Tryd.prog 61 #[.slice A bs.length c] w (RoundKFrom w) := by
  have hB := hide hbs
  clear hbs
  go_enter Tryd.func61, Tryd.ntmps61
  go_wp2_with fail
  have q2 := Row.new w 32 #[.int .i64 0, .int .i64 0]
  have b0 : Below w.heap.size w (w.alloc (.cells #[.int .i64 0, .int .i64 0] 32)) := by go_grown
  have hz2 := q2.lt
  generalize w.alloc (.cells #[.int .i64 0, .int .i64 0] 32) = w0 at *
  refine (open_any A c bs w0 hkc hmc hB.out (hrd.up b0)).mono ?_
  rintro e w1 ⟨rfl, hR, bo⟩
  have hz1 := bo.size
  have hgl1 := hR.lt
  replace q2 := q2.after bo
  have bb := via b0 bo b0.size
  clear b0 bo hkc hmc hrd hB
  go_wp2_with fail
  refine (round_any w0.heap.size 0 w1 (by omega) hR).mono ?_
  rintro e w2 ⟨L, d, zs, a, b, I, ci, r, rfl, h1, h2, h3, h4, h5, h6, oL, oR, hR2, hG2⟩
  have hz3 := hG2.size
  replace q2 := q2.kept hG2 (by intro e; injection e with e; omega)
  replace bb := bb.trans (grown_low hG2 (by omega) (by omega))
  obtain ⟨c0, c1, f0, f1⟩ := two_cells q2
  have p2 := two_set q2 (.int .i64 a) (.int .i64 b)
  obtain ⟨k0, k1, _, _⟩ := two_cells p2
  have oL4 := own_keepB (own_keepB oL (grown_set _ ⟨w.heap.size, 0, none⟩ (.int .i64 a)) (by simp only; omega)) (grown_set _ ⟨w.heap.size, 1, none⟩ (.int .i64 b)) (by simp only; omega)
  have oR4 := own_keepB (own_keepB oR (grown_set _ ⟨w.heap.size, 0, none⟩ (.int .i64 a)) (by simp only; omega)) (grown_set _ ⟨w.heap.size, 1, none⟩ (.int .i64 b)) (by simp only; omega)
  have b4 := (bb.setCell (p := ⟨w.heap.size, 0, none⟩) (Nat.le_refl _) (.int .i64 a)).setCell (p := ⟨w.heap.size, 1, none⟩) (Nat.le_refl _) (.int .i64 b)
  clear hR hR2 hG2
  go_wp2
  refine bodyPost_ret (by simp [results, Tryd.results61, go_sem, k0, k1]; try rfl) rfl ?_
  exact ⟨L, d, zs, a, b, I, ci, r, rfl, h1, h2, h3, h4, h5, h6, oL4.mono (by omega), oR4.mono (by omega), b4⟩
end Go.Proofs.YtcdoopccmljaoaaDoor
