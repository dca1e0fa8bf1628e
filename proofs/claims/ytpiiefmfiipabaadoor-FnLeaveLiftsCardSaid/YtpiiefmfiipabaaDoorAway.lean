/- The program's liftAway: the first spot into which a coil can be lifted. No conditions but that the pile is valid. -/
import Derived.Test.YtpiiefmfiipabaaDoorCoilLift
import Derived.Test.YtpiiefmfiipabaaDoorCoilDig
import Derived.Test.YtpiiefmfiipabaaDoorLBox
import Derived.Test.YtpiiefmfiipabaaDoorPileRes
import Derived.Deep.RegionHeld3
namespace Go.Proofs.YtpiiefmfiipabaaDoor
open Go.ChangeShapes Go.WideShapes Go.ChangeAt Go.RowKit Go.Deep
theorem own_apart {W : World} {B : Nat} {T : TypeId} {A : Option Addr} {xs : List Value} (h : Own W B T A xs) {p : Addr} (hp : p.block < B) (u : Value) : Own (W.setCell p u) B T A xs := by
  rcases h with h | ⟨b, cs, rfl, hb, h1, h2⟩
  · exact .inl h
  · exact .inr ⟨b, cs, rfl, hb, by rw [heap_setCell_other W p b u (by omega)]; exact h1, h2⟩
theorem ownP_apart {W : World} {B : Nat} {A A' : Option Addr} {r : PL} (h : OwnP W B A A' r) {p : Addr} (hp : p.block < B) (u : Value) : OwnP (W.setCell p u) B A A' r := ⟨own_apart h.1 hp u, own_apart h.2.1 hp u, h.2.2⟩
theorem set_two {w : World} {g : Nat} {T : TypeId} {u v : Value} (q : Row w g T [u, v]) (a b : Value) : Row ((w.setCell ⟨g, 0, none⟩ a).setCell ⟨g, 1, none⟩ b) g T [a, b] := by
  have := (q.set 0 a).set 1 b
  simpa using this
theorem away_stored {w W : World} {X X' : Option Addr} {r : PL} {g g' B b0 : Nat} {u0 u1 x0 x1 x2 x3 : Value} (rp : Row W g 25 [u0, u1]) (rl : Row W g' 59 [x0, x1, x2, x3]) (hne : g ≠ g') (o : OwnP W B X X' r) (hg : g < B) (hg' : g' < B) (low : Below b0 w W) (h0 : b0 ≤ g) (h0' : b0 ≤ g')
    (a0 a1 v0 v1 v2 v3 : Value) (W' : World) (h : (((((W.setCell ⟨g, 0, none⟩ a0).setCell ⟨g, 1, none⟩ a1).setCell ⟨g', 0, none⟩ v0).setCell ⟨g', 1, none⟩ v1).setCell ⟨g', 2, none⟩ v2).setCell ⟨g', 3, none⟩ v3 = W') :
    Row W' g 25 [a0, a1] ∧ Row W' g' 59 [v0, v1, v2, v3] ∧ OwnP W' B X X' r ∧ Below b0 w W' := by
  subst h
  refine ⟨?_, ?_, ?_, ?_⟩
  · exact ((((set_two rp a0 a1).far (by simp only; omega) _).far (by simp only; omega) _).far (by simp only; omega) _).far (by simp only; omega) _
  · exact set4' (set4 ((rl.far (p := ⟨g, 0, none⟩) (by simp only; omega) a0).far (p := ⟨g, 1, none⟩) (by simp only; omega) a1) v0 v1) v2 v3
  · exact ownP_apart (ownP_apart (ownP_apart (ownP_apart (ownP_apart (ownP_apart o (by simp only; omega) _) (by simp only; omega) _) (by simp only; omega) _) (by simp only; omega) _) (by simp only; omega) _) (by simp only; omega) _
  · exact (((((low.setCell (by simp only; omega) _).setCell (by simp only; omega) _).setCell (by simp only; omega) _).setCell (by simp only; omega) _).setCell (by simp only; omega) _).setCell (by simp only; omega) _
theorem box_away (w : World) (a b c d e f : Value) (W : World) (h : ((((w.alloc (.cells #[a, b] 25)).alloc (.cells #[c, d] 31)).alloc (.cells #[e, f] 31)).alloc (.cells #[.slice none 0 0, .slice none 0 0] 25)).alloc (.cells #[.bool false, .int .i64 0, .bool false, .int .i64 0] 59) = W) :
    Below w.heap.size w W ∧ Row W w.heap.size 25 [a, b] ∧ Row W (w.heap.size + 1) 31 [c, d] ∧ Row W (w.heap.size + 1 + 1) 31 [e, f] ∧ Row W (w.heap.size + 1 + 1 + 1) 25 [.slice none 0 0, .slice none 0 0] ∧
      Row W (w.heap.size + 1 + 1 + 1 + 1) 59 [.bool false, .int .i64 0, .bool false, .int .i64 0] ∧ W.heap.size = w.heap.size + 1 + 1 + 1 + 1 + 1 := by
  subst h
  exact ⟨by go_grown, ((((Row.new _ _ _).alloc _).alloc _).alloc _).alloc _, ((((Row.new _ _ _).eq (by simp)).alloc _).alloc _).alloc _, (((Row.new _ _ _).eq (by simp)).alloc _).alloc _, ((Row.new _ _ _).eq (by simp)).alloc _, (Row.new _ _ _).eq (by simp), by simp⟩
def AwayOk (w : World) (p : PL) (fr : Bool × Int) (b : Int) (e : Ending) (w' : World) : Prop :=
  match awayTo p fr b with
  | some t => ∃ A c A' c', e = .returned (.tuple #[.agg #[.slice A (coilLift p (fr, (t.1, (t.2 : Int)))).1.1.length c, .slice A' (coilLift p (fr, (t.1, (t.2 : Int)))).1.2.length c'], .agg #[.bool fr.1, .int .i64 fr.2, .bool t.1, .int .i64 (t.2 : Int)], .bool true]) ∧ OwnP w' w.heap.size A A' (coilLift p (fr, (t.1, (t.2 : Int)))).1 ∧ Below w.heap.size w w'
  | none => ∃ (B : Option Addr) (m d : Nat) (B' : Option Addr) (m' d' : Nat), e = .returned (.tuple #[.agg #[.slice B m d, .slice B' m' d'], .agg #[.bool false, .int .i64 0, .bool false, .int .i64 0], .bool false]) ∧ Below w.heap.size w w'
theorem low_some {p : PL} {fr : Bool × Int} {b : Int} {k : Nat} (hk : k < p.1.length) (h : (coilLift p (fr, (false, (k : Int)))).2 = true) (hn : ∀ m, m < k → (coilLift p (fr, (false, (m : Int)))).2 = false) : awayTo p fr b = some (false, k) := by
  have : lowTo p fr = some k := find_range_some hk h hn
  unfold awayTo; rw [this]; rfl
theorem low_none {p : PL} {fr : Bool × Int} (hn : ∀ m, m < p.1.length → (coilLift p (fr, (false, (m : Int)))).2 = false) : lowTo p fr = none := find_range_none hn
theorem high_some {p : PL} {fr : Bool × Int} {b : Int} {k : Nat} (hl : lowTo p fr = none) (hk : k < p.2.length) (h : highP p fr b k = true) (hn : ∀ m, m < k → highP p fr b m = false) : awayTo p fr b = some (true, k) := by
  have : highTo p fr b = some k := find_range_some hk h hn
  unfold awayTo; rw [hl, this]; rfl
theorem high_none {p : PL} {fr : Bool × Int} {b : Int} (hn : ∀ m, m < p.2.length → highP p fr b m = false) : highTo p fr b = none := find_range_none hn
theorem away_none {p : PL} {fr : Bool × Int} {b : Int} (h1 : lowTo p fr = none) (h2 : highTo p fr b = none) : awayTo p fr b = none := by unfold awayTo; rw [h1, h2]; rfl
theorem upto_step {P : Nat → Prop} {m : Nat} (h : ∀ i, i < m → P i) (k : P m) : ∀ i, i < m + 1 → P i := fun i hi => by
  rcases Nat.lt_or_ge i m with h1 | h1
  · exact h i h1
  · rw [show i = m by omega]; exact k
theorem idx0 (w : World) : Sem.run Tryd.prog (Instr.index 100 (.agg #[.bool false, .bool true]) (.int .i64 0)) w = .ok (.bool false) w := by kernel_rfl
theorem idx1 (w : World) : Sem.run Tryd.prog (Instr.index 100 (.agg #[.bool false, .bool true]) (.int .i64 1)) w = .ok (.bool true) w := by kernel_rfl
set_option linter.unusedSimpArgs false in
set_option linter.unusedVariables false in
set_option maxHeartbeats 10000000 in
set_option maxRecDepth 100000 in
theorem liftAway_any (A A' : Option Addr) (c c' : Nat) (p : PL) (ft : Bool) (fk : Int) (bt : Bool) (b : Int) (w : World) (V : Vd p) (hb : 0 ≤ b ∧ b ≤ 100) (rp : RdP w w.heap.size A A' p) :
    Calls Tryd.prog 84 #[.agg #[.slice A p.1.length c, .slice A' p.2.length c'], .agg #[.bool ft, .int .i64 fk], .agg #[.bool bt, .int .i64 b]] w (AwayOk w p (ft, fk) b) := by
  have hp := small_vd V
  have hl6 := V.l6
  have hup := V.up
  go_enter Tryd.func84, Tryd.ntmps84
  go_wp2_with fail
  obtain ⟨b0, q0, q1, q2, q3, q4, hz0⟩ := box_away w (.slice A p.1.length c) (.slice A' p.2.length c') (.bool ft) (.int .i64 fk) (.bool bt) (.int .i64 b) _ rfl
  replace rp := rp.up b0
  generalize ((((w.alloc (.cells #[.slice A p.1.length c, .slice A' p.2.length c'] 25)).alloc (.cells #[.bool ft, .int .i64 fk] 31)).alloc (.cells #[.bool bt, .int .i64 b] 31)).alloc (.cells #[.slice none 0 0, .slice none 0 0] 25)).alloc (.cells #[.bool false, .int .i64 0, .bool false, .int .i64 0] 59) = w0 at *
  obtain ⟨K0, K1, _, _⟩ := q0.ext2
  obtain ⟨K2, K3, _, _⟩ := q1.ext2
  obtain ⟨K4, K5, _, _⟩ := q2.ext2
  clear q0 q1 q2
  go_loopw [16] (fun i wr => ∃ y : Ext w0, wr = y.val ∧ (i = .int .i64 0 ∨ (i = .int .i64 1 ∧ Hid (lowTo p (ft, fk) = none)) ∨ (i = .int .i64 2 ∧ Hid (lowTo p (ft, fk) = none) ∧ Hid (highTo p (ft, fk) b = none)))) (fun i _ => 2 - (intOf i).toNat)
  case atStart => exact ⟨Ext.base w0, rfl, .inl rfl⟩
  case round =>
    obtain ⟨y, rfl, h⟩ := hrel
    have I0 := idx0
    have I1 := idx1
    rcases h with rfl | ⟨rfl, hlow⟩ | ⟨rfl, hlow, hhigh⟩
    · go_wp2_with fail
      refine (row_low A A' _ _ _ _ _ _).mono ?_
      rintro e w' ⟨rfl, bl⟩
      obtain ⟨y2, rfl⟩ := ext_next bl
      clear bl
      go_wp2_with fail
      go_loopw [24] (fun j wr => ∃ (k : Nat) (z : Ext w0), k ≤ p.1.length ∧ j = .int .i64 k ∧ wr = z.val ∧ Hid (∀ m, m < k → (coilLift p ((ft, fk), (false, (m : Int)))).2 = false)) (fun j _ => p.1.length - (intOf j).toNat)
      case atStart => exact ⟨0, y2, Nat.zero_le _, rfl, rfl, hide (fun m h => absurd h (Nat.not_lt_zero _))⟩
      case round =>
        obtain ⟨k, z, hk, rfl, rfl, hN⟩ := hrel
        by_cases hlt : k < p.1.length
        ·
          have HC := hide (fun w rp => coilLift_any A A' c c' p ft fk false (k : Int) w hp rp)
          generalize hr : coilLift p ((ft, fk), (false, (k : Int))) = r at *
          obtain ⟨r, ok⟩ := r
          have HR := hide hr
          clear hr
          have hq := z.below.alloc z.below.size (.cells #[.bool ft, .int .i64 fk, .bool false, .int .i64 (k : Int)] 59)
          (try have j0 := cell_in hq K0); (try have j1 := cell_in hq K1); (try have j2 := cell_in hq K2); (try have j3 := cell_in hq K3); (try have j4 := cell_in hq K4); (try have j5 := cell_in hq K5); (try have j6 := cell_in hq K6); (try have j7 := cell_in hq K7); (try have j8 := cell_in hq K8); (try have j9 := cell_in hq K9); (try have j10 := cell_in hq K10); (try have j11 := cell_in hq K11); (try have j12 := cell_in hq K12); (try have j13 := cell_in hq K13); (try have j14 := cell_in hq K14); (try have j15 := cell_in hq K15)
          go_wp2_with fail
          (try clear j0); (try clear j1); (try clear j2); (try clear j3); (try clear j4); (try clear j5); (try clear j6); (try clear j7); (try clear j8); (try clear j9); (try clear j10); (try clear j11); (try clear j12); (try clear j13); (try clear j14); (try clear j15)
          have qL := Row.new z.val 59 #[.bool ft, .int .i64 fk, .bool false, .int .i64 (k : Int)]
          have hzL := z.below.size
          obtain ⟨z2, hz2⟩ := ext_to (x := z) (bel_one z.val (.cells #[.bool ft, .int .i64 fk, .bool false, .int .i64 (k : Int)] 59))
          rw [← hz2] at qL ⊢
          generalize z.val.heap.size = gL at *
          clear hq hz2
          refine (HC.out z2.val (rp.up z2.below)).mono ?_
          rintro e w4 ⟨X, x, X', x', rfl, o4, b4⟩
          have hz4 := b4.size
          have hL2 := qL.lt
          replace qL := (qL.after b4).alloc (.cells #[.slice X r.1.length x, .slice X' r.2.length x'] 25)
          have qX := Row.new w4 25 #[.slice X r.1.length x, .slice X' r.2.length x']
          have bX := via (via z2.below b4 z2.below.size) (bel_one w4 (.cells #[.slice X r.1.length x, .slice X' r.2.length x'] 25)) (by have := z2.below.size; omega)
          have oX := o4.below (bel_one w4 (.cells #[.slice X r.1.length x, .slice X' r.2.length x'] 25))
          clear o4 b4 HC
          cases ok
          · go_wp2_with fail
            go_roundw
            case rel => exact ⟨k + 1, ⟨_, bX⟩, by omega, by go_num, rfl, hide (upto_step hN.out (by rw [HR.out]))⟩
            case measure => simp [intOf]; omega
          · have hA := hide (show awayTo p (ft, fk) b = some (false, k) from (low_some hlt (by rw [HR.out]) hN.out))
            go_wp2_with fail
            clear K0 K1 K2 K3 K4 K5 I0 I1 rp hN hp V hlt hk
            generalize w4.alloc (.cells #[.slice X r.1.length x, .slice X' r.2.length x'] 25) = w5 at *
            generalize w4.heap.size = gX at *
            obtain ⟨l0, l1, l2, l3⟩ := qL.four
            obtain ⟨x0, x1⟩ := qX.boxed
            refine wp_region_held_drew (S := fun w' => w'.cell? ⟨gX, 0, none⟩ = some (.slice X r.1.length x) ∧ w'.cell? ⟨gX, 1, none⟩ = some (.slice X' r.2.length x') ∧ w'.cell? ⟨gL, 0, none⟩ = some (.bool ft) ∧ w'.cell? ⟨gL, 1, none⟩ = some (.int .i64 fk) ∧ w'.cell? ⟨gL, 2, none⟩ = some (.bool false) ∧ w'.cell? ⟨gL, 3, none⟩ = some (.int .i64 (k : Int))) (by kernel_rfl) ⟨x0, x1, l0, l1, l2, l3⟩ (fun hHeld => ?_)
            refine wpAnyH_take (i := 0) (oi := _) (v := ?_) rfl (by kernel_rfl) (by kernel_rfl) (by kernel_rfl) (fun _ _ _ h => h) (Or.inl ⟨by rfl, ?_⟩) (by assumption) ?_
            rotate_left
            · intro w hSw; (try dsimp only at hSw); go_simp; first | done | with_reducible rfl
            (try simp only [Act.put, List.setIfInBounds_toArray, List.set_cons_zero, List.set_cons_succ])
            refine wpAnyH_take (i := 1) (oi := _) (v := ?_) rfl (by kernel_rfl) (by kernel_rfl) (by kernel_rfl) (fun _ _ _ h => h) (Or.inl ⟨by rfl, ?_⟩) (by assumption) ?_
            rotate_left
            · intro w hSw; (try dsimp only at hSw); go_simp; first | done | with_reducible rfl
            (try simp only [Act.put, List.setIfInBounds_toArray, List.set_cons_zero, List.set_cons_succ])
            have qA := q3.after bX
            have qB := q4.after bX
            obtain ⟨e0, e1⟩ := qA.boxed
            have f0 := qA.frozen 0
            have f1 := qA.frozen 1
            obtain ⟨d0, d1, d2, d3⟩ := qB.four
            have g0 := qB.frozen 0
            have g1 := qB.frozen 1
            have g2 := qB.frozen 2
            have g3 := qB.frozen 3
            have xA := (qX.far (p := ⟨w.heap.size + 1 + 1 + 1, 0, none⟩) (by simp only; omega) (.slice X r.1.length x)).far (p := ⟨w.heap.size + 1 + 1 + 1, 1, none⟩) (by simp only; omega) (.slice X' r.2.length x')
            have lA := (qL.far (p := ⟨w.heap.size + 1 + 1 + 1, 0, none⟩) (by simp only; omega) (.slice X r.1.length x)).far (p := ⟨w.heap.size + 1 + 1 + 1, 1, none⟩) (by simp only; omega) (.slice X' r.2.length x')
            refine wpAnyH_ready (rs := [2]) (by kernel_rfl) (by simp) ?_
            refine AllReadyH.cons (o := _) rfl (fun K hK => ?_) AllReadyH.nil
            go_simp
            refine hK.out _ _ ⟨xA.drew.boxed.1, xA.drew.boxed.2, lA.drew.four.1, lA.drew.four.2.1, lA.drew.four.2.2.1, lA.drew.four.2.2.2⟩ (fun hHeld => ?_)
            clear hK K
            (try simp only [Act.put, List.setIfInBounds_toArray, List.set_cons_zero, List.set_cons_succ])
            obtain ⟨r1, r2, r3, r4⟩ := away_stored qA qB (by omega) oX (by omega) (by omega) (via b0 bX b0.size) (by omega) (by omega) (.slice X r.1.length x) (.slice X' r.2.length x') (.bool ft) (.int .i64 fk) (.bool false) (.int .i64 (k : Int)) _ rfl
            have xB := (((xA.far (p := ⟨w.heap.size + 1 + 1 + 1 + 1, 0, none⟩) (by simp only; omega) (.bool ft)).far (p := ⟨w.heap.size + 1 + 1 + 1 + 1, 1, none⟩) (by simp only; omega) (.int .i64 fk)).far (p := ⟨w.heap.size + 1 + 1 + 1 + 1, 2, none⟩) (by simp only; omega) (.bool false)).far (p := ⟨w.heap.size + 1 + 1 + 1 + 1, 3, none⟩) (by simp only; omega) (.int .i64 (k : Int))
            have lB := (((lA.far (p := ⟨w.heap.size + 1 + 1 + 1 + 1, 0, none⟩) (by simp only; omega) (.bool ft)).far (p := ⟨w.heap.size + 1 + 1 + 1 + 1, 1, none⟩) (by simp only; omega) (.int .i64 fk)).far (p := ⟨w.heap.size + 1 + 1 + 1 + 1, 2, none⟩) (by simp only; omega) (.bool false)).far (p := ⟨w.heap.size + 1 + 1 + 1 + 1, 3, none⟩) (by simp only; omega) (.int .i64 (k : Int))
            refine wpAnyH_ready (rs := [3]) (by kernel_rfl) (by simp) ?_
            refine AllReadyH.cons (o := _) rfl (fun K hK => ?_) AllReadyH.nil
            go_simp
            refine hK.out _ _ ⟨xB.drew.boxed.1, xB.drew.boxed.2, lB.drew.four.1, lB.drew.four.2.1, lB.drew.four.2.2.1, lB.drew.four.2.2.2⟩ (fun hHeld => ?_)
            clear hK K
            (try simp only [Act.put, List.setIfInBounds_toArray, List.set_cons_zero, List.set_cons_succ])
            refine wpAnyH_ready (rs := [4]) (by kernel_rfl) (by simp) ?_
            refine AllReadyH.cons (o := _) rfl (fun K hK => ?_) AllReadyH.nil
            go_simp
            refine hK.out _ _ ⟨xB.drew.boxed.1, xB.drew.boxed.2, lB.drew.four.1, lB.drew.four.2.1, lB.drew.four.2.2.1, lB.drew.four.2.2.2⟩ (fun hHeld => ?_)
            clear hK K
            (try simp only [Act.put, List.setIfInBounds_toArray, List.set_cons_zero, List.set_cons_succ])
            refine wpAnyH_done (by kernel_rfl) ?_ _
            obtain ⟨k0, k1⟩ := r1.drew.boxed
            obtain ⟨k2, k3, k4, k5⟩ := r2.drew.four
            clear e0 e1 f0 f1 d0 d1 d2 d3 g0 g1 g2 g3 x0 x1 l0 l1 l2 l3 hHeld
            go_wp2
            (try simp only [Exit.inBlock, Exit.then])
            refine bodyPost_ret (by simp [results, Tryd.results84, go_sem, k0, k1, k2, k3, k4, k5]; try rfl) rfl ?_
            unfold AwayOk
            rw [hA.out]
            simp only
            rw [HR.out]
            exact ⟨X, x, X', x', rfl, (r3.below (Below.refl _ _).drew).mono (by omega), r4.drew⟩
        · obtain rfl : k = p.1.length := by omega
          have hL := hide (low_none hN.out)
          go_wp2_with fail
          go_roundw
          case rel => exact ⟨z, rfl, .inr (.inl ⟨by go_num, hL⟩)⟩
          case measure => simp [intOf]
    · go_wp2_with fail
      refine (row_high A A' _ _ _ _ _ _).mono ?_
      rintro e w' ⟨rfl, bl⟩
      obtain ⟨y2, rfl⟩ := ext_next bl
      clear bl
      go_wp2_with fail
      go_loopw [24] (fun j wr => ∃ (k : Nat) (z : Ext w0), k ≤ p.2.length ∧ j = .int .i64 k ∧ wr = z.val ∧ Hid (∀ m, m < k → highP p (ft, fk) b m = false)) (fun j _ => p.2.length - (intOf j).toNat)
      case atStart => exact ⟨0, y2, Nat.zero_le _, rfl, rfl, hide (fun m h => absurd h (Nat.not_lt_zero _))⟩
      case round =>
        obtain ⟨k, z, hk, rfl, rfl, hN⟩ := hrel
        by_cases hlt : k < p.2.length
        · by_cases hs : (k : Int) = b ∨ (k : Int) = b - 1
          · have hno := hide (show highP p (ft, fk) b k = false by unfold highP; rcases hs with h | h <;> simp [h])
            rcases hs with h | h
            · have s1 : ((k : Int) == b) = true := by simp [h]
              clear h
              go_wp2_with fail
              go_roundw
              case rel => exact ⟨k + 1, z, by omega, by go_num, rfl, hide (upto_step hN.out hno.out)⟩
              case measure => simp [intOf]; omega
            · have s1 : ((k : Int) == b) = false := beq_false_of_ne (by omega)
              have s2 : ((k : Int) == b - 1) = true := by simp [h]
              clear h
              go_wp2_with fail
              go_roundw
              case rel => exact ⟨k + 1, z, by omega, by go_num, rfl, hide (upto_step hN.out hno.out)⟩
              case measure => simp [intOf]; omega
          · have s1 : ((k : Int) == b) = false := beq_false_of_ne (fun h => hs (.inl h))
            have s2 : ((k : Int) == b - 1) = false := beq_false_of_ne (fun h => hs (.inr h))
            have hat := hide (show highP p (ft, fk) b k = (coilLift p ((ft, fk), (true, (k : Int)))).2 by unfold highP; simp only [not_or] at hs; simp [hs.1, hs.2])
            clear hs
            have HC := hide (fun w rp => coilLift_any A A' c c' p ft fk true (k : Int) w hp rp)
            generalize hr : coilLift p ((ft, fk), (true, (k : Int))) = r at *
            obtain ⟨r, ok⟩ := r
            have HR := hide hr
            clear hr
            have hq := z.below.alloc z.below.size (.cells #[.bool ft, .int .i64 fk, .bool true, .int .i64 (k : Int)] 59)
            (try have j0 := cell_in hq K0); (try have j1 := cell_in hq K1); (try have j2 := cell_in hq K2); (try have j3 := cell_in hq K3); (try have j4 := cell_in hq K4); (try have j5 := cell_in hq K5); (try have j6 := cell_in hq K6); (try have j7 := cell_in hq K7); (try have j8 := cell_in hq K8); (try have j9 := cell_in hq K9); (try have j10 := cell_in hq K10); (try have j11 := cell_in hq K11); (try have j12 := cell_in hq K12); (try have j13 := cell_in hq K13); (try have j14 := cell_in hq K14); (try have j15 := cell_in hq K15)
            go_wp2_with fail
            (try clear j0); (try clear j1); (try clear j2); (try clear j3); (try clear j4); (try clear j5); (try clear j6); (try clear j7); (try clear j8); (try clear j9); (try clear j10); (try clear j11); (try clear j12); (try clear j13); (try clear j14); (try clear j15)
            have qL := Row.new z.val 59 #[.bool ft, .int .i64 fk, .bool true, .int .i64 (k : Int)]
            have hzL := z.below.size
            obtain ⟨z2, hz2⟩ := ext_to (x := z) (bel_one z.val (.cells #[.bool ft, .int .i64 fk, .bool true, .int .i64 (k : Int)] 59))
            rw [← hz2] at qL ⊢
            generalize z.val.heap.size = gL at *
            clear hq hz2
            refine (HC.out z2.val (rp.up z2.below)).mono ?_
            rintro e w4 ⟨X, x, X', x', rfl, o4, b4⟩
            have hz4 := b4.size
            have hL2 := qL.lt
            replace qL := (qL.after b4).alloc (.cells #[.slice X r.1.length x, .slice X' r.2.length x'] 25)
            have qX := Row.new w4 25 #[.slice X r.1.length x, .slice X' r.2.length x']
            have bX := via (via z2.below b4 z2.below.size) (bel_one w4 (.cells #[.slice X r.1.length x, .slice X' r.2.length x'] 25)) (by have := z2.below.size; omega)
            have oX := o4.below (bel_one w4 (.cells #[.slice X r.1.length x, .slice X' r.2.length x'] 25))
            clear o4 b4 HC
            cases ok
            · go_wp2_with fail
              go_roundw
              case rel => exact ⟨k + 1, ⟨_, bX⟩, by omega, by go_num, rfl, hide (upto_step hN.out (by rw [hat.out]))⟩
              case measure => simp [intOf]; omega
            · have hA := hide (show awayTo p (ft, fk) b = some (true, k) from (high_some hlow.out hlt (by rw [hat.out]) hN.out))
              go_wp2_with fail
              clear K0 K1 K2 K3 K4 K5 I0 I1 rp hN hp V hlt hk
              generalize w4.alloc (.cells #[.slice X r.1.length x, .slice X' r.2.length x'] 25) = w5 at *
              generalize w4.heap.size = gX at *
              obtain ⟨l0, l1, l2, l3⟩ := qL.four
              obtain ⟨x0, x1⟩ := qX.boxed
              refine wp_region_held_drew (S := fun w' => w'.cell? ⟨gX, 0, none⟩ = some (.slice X r.1.length x) ∧ w'.cell? ⟨gX, 1, none⟩ = some (.slice X' r.2.length x') ∧ w'.cell? ⟨gL, 0, none⟩ = some (.bool ft) ∧ w'.cell? ⟨gL, 1, none⟩ = some (.int .i64 fk) ∧ w'.cell? ⟨gL, 2, none⟩ = some (.bool true) ∧ w'.cell? ⟨gL, 3, none⟩ = some (.int .i64 (k : Int))) (by kernel_rfl) ⟨x0, x1, l0, l1, l2, l3⟩ (fun hHeld => ?_)
              refine wpAnyH_take (i := 0) (oi := _) (v := ?_) rfl (by kernel_rfl) (by kernel_rfl) (by kernel_rfl) (fun _ _ _ h => h) (Or.inl ⟨by rfl, ?_⟩) (by assumption) ?_
              rotate_left
              · intro w hSw; (try dsimp only at hSw); go_simp; first | done | with_reducible rfl
              (try simp only [Act.put, List.setIfInBounds_toArray, List.set_cons_zero, List.set_cons_succ])
              refine wpAnyH_take (i := 1) (oi := _) (v := ?_) rfl (by kernel_rfl) (by kernel_rfl) (by kernel_rfl) (fun _ _ _ h => h) (Or.inl ⟨by rfl, ?_⟩) (by assumption) ?_
              rotate_left
              · intro w hSw; (try dsimp only at hSw); go_simp; first | done | with_reducible rfl
              (try simp only [Act.put, List.setIfInBounds_toArray, List.set_cons_zero, List.set_cons_succ])
              have qA := q3.after bX
              have qB := q4.after bX
              obtain ⟨e0, e1⟩ := qA.boxed
              have f0 := qA.frozen 0
              have f1 := qA.frozen 1
              obtain ⟨d0, d1, d2, d3⟩ := qB.four
              have g0 := qB.frozen 0
              have g1 := qB.frozen 1
              have g2 := qB.frozen 2
              have g3 := qB.frozen 3
              have xA := (qX.far (p := ⟨w.heap.size + 1 + 1 + 1, 0, none⟩) (by simp only; omega) (.slice X r.1.length x)).far (p := ⟨w.heap.size + 1 + 1 + 1, 1, none⟩) (by simp only; omega) (.slice X' r.2.length x')
              have lA := (qL.far (p := ⟨w.heap.size + 1 + 1 + 1, 0, none⟩) (by simp only; omega) (.slice X r.1.length x)).far (p := ⟨w.heap.size + 1 + 1 + 1, 1, none⟩) (by simp only; omega) (.slice X' r.2.length x')
              refine wpAnyH_ready (rs := [2]) (by kernel_rfl) (by simp) ?_
              refine AllReadyH.cons (o := _) rfl (fun K hK => ?_) AllReadyH.nil
              go_simp
              refine hK.out _ _ ⟨xA.drew.boxed.1, xA.drew.boxed.2, lA.drew.four.1, lA.drew.four.2.1, lA.drew.four.2.2.1, lA.drew.four.2.2.2⟩ (fun hHeld => ?_)
              clear hK K
              (try simp only [Act.put, List.setIfInBounds_toArray, List.set_cons_zero, List.set_cons_succ])
              obtain ⟨r1, r2, r3, r4⟩ := away_stored qA qB (by omega) oX (by omega) (by omega) (via b0 bX b0.size) (by omega) (by omega) (.slice X r.1.length x) (.slice X' r.2.length x') (.bool ft) (.int .i64 fk) (.bool true) (.int .i64 (k : Int)) _ rfl
              have xB := (((xA.far (p := ⟨w.heap.size + 1 + 1 + 1 + 1, 0, none⟩) (by simp only; omega) (.bool ft)).far (p := ⟨w.heap.size + 1 + 1 + 1 + 1, 1, none⟩) (by simp only; omega) (.int .i64 fk)).far (p := ⟨w.heap.size + 1 + 1 + 1 + 1, 2, none⟩) (by simp only; omega) (.bool true)).far (p := ⟨w.heap.size + 1 + 1 + 1 + 1, 3, none⟩) (by simp only; omega) (.int .i64 (k : Int))
              have lB := (((lA.far (p := ⟨w.heap.size + 1 + 1 + 1 + 1, 0, none⟩) (by simp only; omega) (.bool ft)).far (p := ⟨w.heap.size + 1 + 1 + 1 + 1, 1, none⟩) (by simp only; omega) (.int .i64 fk)).far (p := ⟨w.heap.size + 1 + 1 + 1 + 1, 2, none⟩) (by simp only; omega) (.bool true)).far (p := ⟨w.heap.size + 1 + 1 + 1 + 1, 3, none⟩) (by simp only; omega) (.int .i64 (k : Int))
              refine wpAnyH_ready (rs := [3]) (by kernel_rfl) (by simp) ?_
              refine AllReadyH.cons (o := _) rfl (fun K hK => ?_) AllReadyH.nil
              go_simp
              refine hK.out _ _ ⟨xB.drew.boxed.1, xB.drew.boxed.2, lB.drew.four.1, lB.drew.four.2.1, lB.drew.four.2.2.1, lB.drew.four.2.2.2⟩ (fun hHeld => ?_)
              clear hK K
              (try simp only [Act.put, List.setIfInBounds_toArray, List.set_cons_zero, List.set_cons_succ])
              refine wpAnyH_ready (rs := [4]) (by kernel_rfl) (by simp) ?_
              refine AllReadyH.cons (o := _) rfl (fun K hK => ?_) AllReadyH.nil
              go_simp
              refine hK.out _ _ ⟨xB.drew.boxed.1, xB.drew.boxed.2, lB.drew.four.1, lB.drew.four.2.1, lB.drew.four.2.2.1, lB.drew.four.2.2.2⟩ (fun hHeld => ?_)
              clear hK K
              (try simp only [Act.put, List.setIfInBounds_toArray, List.set_cons_zero, List.set_cons_succ])
              refine wpAnyH_done (by kernel_rfl) ?_ _
              obtain ⟨k0, k1⟩ := r1.drew.boxed
              obtain ⟨k2, k3, k4, k5⟩ := r2.drew.four
              clear e0 e1 f0 f1 d0 d1 d2 d3 g0 g1 g2 g3 x0 x1 l0 l1 l2 l3 hHeld
              go_wp2
              (try simp only [Exit.inBlock, Exit.then])
              refine bodyPost_ret (by simp [results, Tryd.results84, go_sem, k0, k1, k2, k3, k4, k5]; try rfl) rfl ?_
              unfold AwayOk
              rw [hA.out]
              simp only
              rw [HR.out]
              exact ⟨X, x, X', x', rfl, (r3.below (Below.refl _ _).drew).mono (by omega), r4.drew⟩
        · obtain rfl : k = p.2.length := by omega
          have hH := hide (high_none hN.out)
          go_wp2_with fail
          go_roundw
          case rel => exact ⟨z, rfl, .inr (.inr ⟨by go_num, hlow, hH⟩)⟩
          case measure => simp [intOf]
    · have qA := q3.after y.below
      have qB := q4.after y.below
      obtain ⟨e0, e1⟩ := qA.boxed
      have f0 := qA.frozen 0
      have f1 := qA.frozen 1
      obtain ⟨d0, d1, d2, d3⟩ := qB.four
      have g0 := qB.frozen 0
      have g1 := qB.frozen 1
      have g2 := qB.frozen 2
      have g3 := qB.frozen 3
      obtain ⟨r1, r2, _, r4⟩ := away_stored (X := none) (X' := none) (r := ([], [])) (B := w.heap.size + 1 + 1 + 1 + 1 + 1) qA qB (by omega) (ownP_none _ _ none none) (by omega) (by omega) (via b0 y.below b0.size) (by omega) (by omega) (.slice A p.1.length c) (.slice A' p.2.length c') (.bool false) (.int .i64 0) (.bool false) (.int .i64 0) _ rfl
      obtain ⟨k0, k1⟩ := r1.boxed
      obtain ⟨k2, k3, k4, k5⟩ := r2.four
      have hA := hide (away_none hlow.out hhigh.out)
      go_wp2
      (try simp only [Exit.inBlock, Exit.then])
      refine bodyPost_ret (by simp [results, Tryd.results84, go_sem, k0, k1, k2, k3, k4, k5]; try rfl) rfl ?_
      unfold AwayOk
      rw [hA.out]
      exact ⟨_, _, _, _, _, _, rfl, r4⟩
end Go.Proofs.YtpiiefmfiipabaaDoor
