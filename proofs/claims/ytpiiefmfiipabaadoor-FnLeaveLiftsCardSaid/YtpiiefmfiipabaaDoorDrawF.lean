/- What is drawn from a code: piles with lifts. No conditions but bounds on how often the reader was asked. -/
import Derived.Test.YtpiiefmfiipabaaDoorDrawX
import Derived.Test.YtpiiefmfiipabaaDoorCoilLift
import Derived.Test.YtpiiefmfiipabaaDoorLiftKit
namespace Go.Proofs.YtpiiefmfiipabaaDoor
open Go.ChangeShapes Go.WideShapes Go.ChangeAt Go.RowKit Go.Deep
theorem liftElem : Elem 50 59 (.agg #[.bool false, .int .i64 0, .bool false, .int .i64 0]) 4 32 := ⟨Tryd.underlying50, by kernel_rfl, rfl, by decide, by decide⟩
theorem lc_one (ls : List LF) : ∀ u ∈ lc ls, u.oneCell' = true := by
  intro u hu
  simp only [lc, List.mem_flatMap, List.mem_cons, List.not_mem_nil, or_false] at hu
  obtain ⟨s, _, rfl | rfl | rfl | rfl⟩ := hu <;> rfl
/-- Block b is of element type T. -/
def TyB (W : World) (b : Nat) (T : TypeId) : Prop := ∃ cs fr, W.heap[b]? = some (.cells cs T fr)
theorem Row.ty {W : World} {g : Nat} {T : TypeId} {xs : List Value} (h : Row W g T xs) : TyB W g T := by
  obtain ⟨cs, h1, _⟩ := h
  exact ⟨cs, _, h1⟩
theorem owns_ty {W : World} {B n size : Nat} {e : TypeId} {v : Value} {xs : List Value} (h : W.ownsRow B e size v n xs) : ∀ b, v.ownBlock = some b → TyB W b e := by
  intro b hb
  obtain ⟨_, h⟩ := h
  rcases h with ⟨rfl, _⟩ | ⟨g, cap, cur, rfl, _, h3, _⟩
  · cases hb
  · have : g = b := Option.some.inj hb
    subst this
    exact ⟨cur, _, h3⟩
theorem ty_ne {W : World} {b b' : Nat} {T T' : TypeId} (h : TyB W b T) (h' : TyB W b' T') (hT : T ≠ T') : b ≠ b' := by
  rintro rfl
  obtain ⟨cs, fr, h⟩ := h
  obtain ⟨cs', fr', h'⟩ := h'
  rw [h] at h'
  injection h' with h'
  injection h' with _ h' _
  exact hT h'
theorem own_past {W W' : World} {B : Nat} {T T' : TypeId} {A : Option Addr} {xs : List Value} {row : Option Nat} (h : Own W B T A xs) (hg : W.grownBy W' row) (hr : ∀ b, row = some b → TyB W b T') (hT : T ≠ T') : Own W' B T A xs := by
  rcases h with h | ⟨g, cs, rfl, hB, h1, h2⟩
  · exact .inl h
  · refine .inr ⟨g, cs, rfl, hB, ?_, h2⟩
    rw [hg.block g (lt_of_block h1) (fun e => ty_ne (W := W) ⟨cs, _, h1⟩ (hr g e.symm) hT rfl)]; exact h1
theorem Row.past {W W' : World} {g : Nat} {T T' : TypeId} {xs : List Value} {row : Option Nat} (h : Row W g T xs) (hg : W.grownBy W' row) (hr : ∀ b, row = some b → TyB W b T') (hT : T ≠ T') : Row W' g T xs :=
  h.kept hg fun e => ty_ne h.ty (hr g e.symm) hT rfl
/-- A pile and lifts while they are drawn: the result's box, the pile's, the box of the pile that is lifted in, its rows, the lifts, the reader. -/
structure StF (w wr : World) (g gP gX K : Nat) (p q : PL) (L L' X X' : Option Addr) (d d' x x' : Nat) (v : Value) (ls : List LF) : Prop where
  res : Row wr w.heap.size 25 [.slice none 0 0, .slice none 0 0]
  bp : Row wr gP 25 [.slice L p.1.length d, .slice L' p.2.length d']
  bx : Row wr gX 25 [.slice X q.1.length x, .slice X' q.2.length x']
  o1 : Own wr (w.heap.size + 1) 3 L (ic p.1)
  o2 : Own wr (w.heap.size + 1) 3 L' (ic p.2)
  x1 : Own wr (w.heap.size + 1) 3 X (ic q.1)
  x2 : Own wr (w.heap.size + 1) 3 X' (ic q.2)
  out : wr.ownsRow (w.heap.size + 1) 59 4 v ls.length (lc ls)
  rdr : Rdr wr g K
  grown : w.grownBy wr (some g)
  lg : g < w.heap.size
  lp : w.heap.size < gP
  lx : gP < gX
section
variable {w wr w' : World} {g gP gX K K' : Nat} {p q r : PL} {L L' X X' Z Z' : Option Addr} {d d' x x' z z' : Nat} {v v' : Value} {ls : List LF}
theorem StF.asked (h : StF w wr g gP gX K p q L L' X X' d d' x x' v ls) (hR : Rdr w' g K') (hG : wr.grownBy w' (some g)) : StF w w' g gP gX K' p q L L' X X' d d' x x' v ls := by
  have h1 := h.lg; have h2 := h.lp; have h3 := h.lx
  exact ⟨h.res.kept hG (by intro e; injection e with e; omega), h.bp.kept hG (by intro e; injection e with e; omega), h.bx.kept hG (by intro e; injection e with e; omega), own_drawn h.o1 hG (by omega), own_drawn h.o2 hG (by omega), own_drawn h.x1 hG (by omega), own_drawn h.x2 hG (by omega),
    owns_grown h.out hG (fun b e e' => by have := (h.out.lt b e).1; injection e' with e'; omega), hR, grown_trans h.grown hG, h1, h2, h3⟩
theorem StF.up (h : StF w wr g gP gX K p q L L' X X' d d' x x' v ls) (hb : Below wr.heap.size wr w') : StF w w' g gP gX K p q L L' X X' d d' x x' v ls :=
  ⟨h.res.after hb, h.bp.after hb, h.bx.after hb, h.o1.below hb, h.o2.below hb, h.x1.below hb, h.x2.below hb, owns_up h.out hb, h.rdr.up hb, grown_trans h.grown (grown_of hb (some g)), h.lg, h.lp, h.lx⟩
theorem StF.alloc (h : StF w wr g gP gX K p q L L' X X' d d' x x' v ls) (o : Obj) : StF w (wr.alloc o) g gP gX K p q L L' X X' d d' x x' v ls := h.up (bel_one _ _)
theorem StF.drewS (h : StF w wr g gP gX K p q L L' X X' d d' x x' v ls) : StF w wr.drew g gP gX K p q L L' X X' d d' x x' v ls := h.up (Below.refl _ _).drew
theorem StF.more (h : StF w wr g gP gX K p q L L' X X' d d' x x' v ls) (hK : K ≤ K') : StF w wr g gP gX K' p q L L' X X' d d' x x' v ls :=
  ⟨h.res, h.bp, h.bx, h.o1, h.o2, h.x1, h.x2, h.out, h.rdr.more hK, h.grown, h.lg, h.lp, h.lx⟩
theorem StF.setX (h : StF w wr g gP gX K p q L L' X X' d d' x x' v ls) (z1 : Own wr (w.heap.size + 1) 3 Z (ic r.1)) (z2 : Own wr (w.heap.size + 1) 3 Z' (ic r.2)) :
    StF w ((wr.setCell ⟨gX, 0, none⟩ (.slice Z r.1.length z)).setCell ⟨gX, 1, none⟩ (.slice Z' r.2.length z')) g gP gX K p r L L' Z Z' d d' z z' v ls := by
  have h1 := h.lg; have h2 := h.lp; have h3 := h.lx
  have hx := h.bx
  have hx' := hx.set 0 (.slice Z r.1.length z)
  have T1 : 3 ≠ 25 := by decide
  have far : ∀ {A : Option Addr} {xs : List Value}, Own wr (w.heap.size + 1) 3 A xs → Own ((wr.setCell ⟨gX, 0, none⟩ (.slice Z r.1.length z)).setCell ⟨gX, 1, none⟩ (.slice Z' r.2.length z')) (w.heap.size + 1) 3 A xs :=
    fun o => own_farT (own_farT o (p := ⟨gX, 0, none⟩) hx T1 _) (p := ⟨gX, 1, none⟩) hx' T1 _
  refine ⟨(h.res.far (by simp only; omega) _).far (by simp only; omega) _, (h.bp.far (by simp only; omega) _).far (by simp only; omega) _, two_set hx _ _, far h.o1, far h.o2, far z1, far z2, ?_, (h.rdr.far (by simp only; omega) _).far (by simp only; omega) _, grown_store (grown_store h.grown (by simp only; omega) _) (by simp only; omega) _, h1, h2, h3⟩
  have s1 := owns_grown h.out (grown_set wr ⟨gX, 0, none⟩ (.slice Z r.1.length z)) (fun b e e' => ty_ne hx.ty (owns_ty h.out b e) (by decide) (Option.some.inj e'))
  exact owns_grown s1 (grown_set _ ⟨gX, 1, none⟩ (.slice Z' r.2.length z')) (fun b e e' => ty_ne hx'.ty (owns_ty s1 b e) (by decide) (Option.some.inj e'))
theorem StF.app (h : StF w wr g gP gX K p q L L' X X' d d' x x' v ls) (l : LF) (hap : Appd wr w' (w.heap.size + 1) 59 4 v v' ls.length 1 (lc ls) (lc [l])) : StF w w' g gP gX K p q L L' X X' d d' x x' v' (ls ++ [l]) := by
  have h1 := h.lg; have h2 := h.lp; have h3 := h.lx
  have hsz : w.heap.size + 1 ≤ wr.heap.size := by have := h.bp.lt; omega
  have hg := hap.2.1
  have ty := owns_ty h.out
  have T1 : 3 ≠ 59 := by decide
  have T2 : 25 ≠ 59 := by decide
  refine ⟨h.res.past hg ty T2, h.bp.past hg ty T2, h.bx.past hg ty T2, own_past h.o1 hg ty T1, own_past h.o2 hg ty T1, own_past h.x1 hg ty T1, own_past h.x2 hg ty T1, ?_, h.rdr.low (hap.below h.out hsz) (by omega), grown_through h.grown h.out (by omega) hg, h1, h2, h3⟩
  have e1 : (ls ++ [l]).length = ls.length + 1 := by simp
  rw [e1, lc_app]
  exact hap.1
end
theorem StF.setL {w wr : World} {g gP gX K : Nat} {p q : PL} {L L' X X' : Option Addr} {d d' x x' : Nat} {v : Value} {ls : List LF} {gl : Nat} (h : StF w wr g gP gX K p q L L' X X' d d' x x' v ls) (h1 : gX < gl) (ho : ∀ b, v.ownBlock = some b → b ≠ gl) {ys : List Value} (ql : Row wr gl 59 ys) (j : Nat) (u : Value) :
    StF w (wr.setCell ⟨gl, j, none⟩ u) g gP gX K p q L L' X X' d d' x x' v ls := by
  have e1 := h.lg; have e2 := h.lp; have e3 := h.lx
  have T1 : 3 ≠ 59 := by decide
  have far : ∀ {A : Option Addr} {xs : List Value}, Own wr (w.heap.size + 1) 3 A xs → Own (wr.setCell ⟨gl, j, none⟩ u) (w.heap.size + 1) 3 A xs := fun o => own_farT o (p := ⟨gl, j, none⟩) ql T1 _
  exact ⟨h.res.far (by simp only; omega) _, h.bp.far (by simp only; omega) _, h.bx.far (by simp only; omega) _, far h.o1, far h.o2, far h.x1, far h.x2, owns_grown h.out (grown_set wr ⟨gl, j, none⟩ u) (fun b e e' => ho b e (Option.some.inj e').symm), h.rdr.far (by simp only; omega) _, grown_store h.grown (by simp only; omega) _, e1, e2, e3⟩
theorem StF.setL4 {w wr : World} {g gP gX K : Nat} {p q : PL} {L L' X X' : Option Addr} {d d' x x' : Nat} {v : Value} {ls : List LF} {gl : Nat} (h : StF w wr g gP gX K p q L L' X X' d d' x x' v ls) (h1 : gX < gl) (ho : ∀ b, v.ownBlock = some b → b ≠ gl) {y0 y1 y2 y3 : Value} (ql : Row wr gl 59 [y0, y1, y2, y3]) (v0 v1 v2 v3 : Value) :
    StF w ((((wr.setCell ⟨gl, 0, none⟩ v0).setCell ⟨gl, 1, none⟩ v1).setCell ⟨gl, 2, none⟩ v2).setCell ⟨gl, 3, none⟩ v3) g gP gX K p q L L' X X' d d' x x' v ls ∧ Row ((((wr.setCell ⟨gl, 0, none⟩ v0).setCell ⟨gl, 1, none⟩ v1).setCell ⟨gl, 2, none⟩ v2).setCell ⟨gl, 3, none⟩ v3) gl 59 [v0, v1, v2, v3] := by
  have s1 := ql.set 0 v0
  have s2 := s1.set 1 v1
  have s3 := s2.set 2 v2
  have s4 := s3.set 3 v3
  exact ⟨(((h.setL h1 ho ql 0 v0).setL h1 ho s1 1 v1).setL h1 ho s2 2 v2).setL h1 ho s3 3 v3, by simpa using s4⟩
/-- A lift in its box, while it is drawn. -/
def LiftSt (w : World) (g gP gX K : Nat) (p q : PL) (L L' X X' : Option Addr) (d d' x x' : Nat) (v : Value) (ls : List LF) (u : Value) (wx : World) : Prop :=
  ∃ (gl : Nat) (a : Bool) (b : Int) (s : Bool) (t : Int), u = .pointer (some ⟨gl, 0, none⟩) ∧ gX < gl ∧ Row wx gl 59 [.bool a, .int .i64 b, .bool s, .int .i64 t] ∧ StF w wx g gP gX K p q L L' X X' d d' x x' v ls
/-- A pile and lifts, drawn. -/
def LiftsDrawn (w : World) (g k : Nat) (e : Ending) (w' : World) : Prop :=
  ∃ (A : Option Addr) (c : Nat) (A' : Option Addr) (c' : Nat) (p : PL) (I : Option Addr) (ci : Nat) (ls : List LF), e = .returned (.tuple #[.agg #[.slice A p.1.length c, .slice A' p.2.length c'], .slice I ls.length ci]) ∧ p.1.length ≤ 6 ∧ p.2.length ≤ 6 ∧ ls.length ≤ 50 ∧ Own w' w.heap.size 3 A (ic p.1) ∧ Own w' w.heap.size 3 A' (ic p.2) ∧ Own w' w.heap.size 59 I (lc ls) ∧ DrawnTo w w' g k
set_option linter.unusedSimpArgs false in
set_option linter.unusedVariables false in
set_option maxHeartbeats 3000000 in
set_option maxRecDepth 100000 in
theorem lifts_any (g k0 : Nat) (n : Int) (w : World) (hn : 0 ≤ n) (hn1 : n ≤ 1048576) (hk0 : k0 ≤ 1000000) (hR : Rdr w g k0) :
    Calls Tryd.prog 88 #[.pointer (some ⟨g, 0, none⟩), .int .i64 n] w (LiftsDrawn w g (k0 + 600)) := by
  have hgl := hR.lt
  go_enter Tryd.func88, Tryd.ntmps88
  go_wp2_with fail
  have q2 := Row.new w 25 #[.slice none 0 0, .slice none 0 0]
  have b0 := bel_one w (.cells #[.slice none 0 0, .slice none 0 0] 25)
  have hz2 := q2.lt
  replace hR := hR.up b0
  generalize w.alloc (.cells #[.slice none 0 0, .slice none 0 0] 25) = w0 at *
  refine (pile_any g _ _ _ (by omega) (by omega) (by omega) hR).mono ?_
  rintro e w2 ⟨L, d, L', d', p, rfl, h1, h2, oL, oL', hR', hG'⟩
  have hz4 := hG'.size
  have q4 := Row.new w2 25 #[.slice L p.1.length d, .slice L' p.2.length d']
  have S : StF w (((w2.alloc (.cells #[.slice L p.1.length d, .slice L' p.2.length d'] 25)).alloc (.cells #[] 59)).alloc (.cells #[.slice L p.1.length d, .slice L' p.2.length d'] 25)) g w2.heap.size (w2.heap.size + 1 + 1) (k0 + 60) p p L L' L L' d d' d d' (.slice (some ⟨w2.heap.size + 1, 0, none⟩) 0 0) [] := by
    have oE := own_empty (e := 59) (size := 4) (w2.alloc (.cells #[.slice L p.1.length d, .slice L' p.2.length d'] 25)) (w.heap.size + 1) (by simp; omega)
    rw [World.size_alloc] at oE
    have hb3 : Below w2.heap.size w2 (((w2.alloc (.cells #[.slice L p.1.length d, .slice L' p.2.length d'] 25)).alloc (.cells #[] 59)).alloc (.cells #[.slice L p.1.length d, .slice L' p.2.length d'] 25)) := by go_grown
    exact ⟨(q2.kept hG' (by intro e; injection e with e; omega)).after hb3, (q4.alloc _).alloc _, (Row.new _ _ _).eq (by simp), (oL.below hb3).mono (by omega), (oL'.below hb3).mono (by omega), (oL.below hb3).mono (by omega), (oL'.below hb3).mono (by omega), oE.alloc _, hR'.up hb3, grown_trans (grown_trans (grown_of b0 (some g)) hG') (grown_of hb3 (some g)), by omega, by omega, by omega⟩
  have m4 := two_cells q4
  have m5 := two_cells (q4.alloc (.cells #[] 59))
  clear hG' hR oL oL' hR' b0 q2 q4
  go_wp2_with fail
  clear m4 m5
  generalize ((w2.alloc (.cells #[.slice L p.1.length d, .slice L' p.2.length d'] 25)).alloc (.cells #[] 59)).alloc (.cells #[.slice L p.1.length d, .slice L' p.2.length d'] 25) = w3 at *
  generalize w2.heap.size = gP at *
  generalize hgX : gP + 1 + 1 = gX at *
  refine (pick_any g _ _ _ (by omega) (by omega) (by omega) S.rdr).mono ?_
  rintro e w4 ⟨x0, rfl, hx0, hx1, hR1, hG1⟩
  replace S := S.asked hR1 hG1
  clear hR1 hG1
  obtain ⟨m0, rfl⟩ := Int.eq_ofNat_of_zero_le hx0
  have hp : small p := ⟨by omega, by omega⟩
  go_wp2_with fail
  go_loopw [7, 9] (fun v i wr => ∃ (m : Nat) (q : PL) (X X' : Option Addr) (x x' : Nat) (ls : List LF), m ≤ 20 ∧ i = .int .i64 m ∧ small q ∧ ls.length + m ≤ 20 ∧ StF w wr g gP gX (k0 + 61 + 10 * (20 - m)) p q L L' X X' d d' x x' v ls) (fun _ i _ => (intOf i).toNat)
  case atStart => exact ⟨m0, p, L, L', d, d', [], by omega, rfl, hp, by simp; omega, S.more (by omega)⟩
  case round =>
    clear S hx0 hx1 hp
    obtain ⟨m, q, X, X', x, x', ls, hm, rfl, hq, hl, S⟩ := hrel
    by_cases hpos : 0 < m
    · obtain ⟨m, rfl⟩ : ∃ m', m = m' + 1 := ⟨m - 1, by omega⟩
      have t0 : decide (((m + 1 : Nat) : Int) > 0) = true := decide_eq_true (by omega)
      have t0' : decide ((m : Int) + 1 > 0) = true := decide_eq_true (by omega)
      have hs1 := S.lp
      have hs2 := S.lx
      have hs3 := S.bx.lt
      have hol : ∀ b, u7.ownBlock = some b → b < wr.heap.size := fun b e => (S.out.lt b e).2
      go_wp2_with fail
      go_cut [10] from 20 to 47 (fun u wx => LiftSt w g gP gX (k0 + 61 + 10 * (20 - (m + 1)) + 8) p q L L' X X' d d' x x' u7 ls u wx)
      case first =>
        refine wp_region_held_drew (S := fun w' => w'.cell? ⟨gP, 0, none⟩ = some (.slice L p.1.length d) ∧ w'.cell? ⟨gP, 1, none⟩ = some (.slice L' p.2.length d')) (by kernel_rfl) ⟨(two_cells S.bp).1, (two_cells S.bp).2.1⟩ (fun hHeld => ?_)
        have Sr := S
        replace S := S.drewS
        refine wpAnyH_take (i := 0) (oi := _) (v := ?_) rfl (by kernel_rfl) (by kernel_rfl) (by kernel_rfl) (fun _ _ _ h => h) (Or.inl ⟨by rfl, ?_⟩) (by assumption) ?_
        rotate_left
        · intro w hSw; (try dsimp only at hSw); go_simp; first | done | with_reducible rfl
        (try simp only [Act.put, List.setIfInBounds_toArray, List.set_cons_zero, List.set_cons_succ])
        refine wpAnyH_take (i := 1) (oi := _) (v := ?_) rfl (by kernel_rfl) (by kernel_rfl) (by kernel_rfl) (fun _ _ _ h => h) (Or.inl ⟨by rfl, ?_⟩) (by assumption) ?_
        rotate_left
        · intro w hSw; (try dsimp only at hSw); go_simp; first | done | with_reducible rfl
        (try simp only [Act.put, List.setIfInBounds_toArray, List.set_cons_zero, List.set_cons_succ])
        refine wpAnyH_take (i := 3) (oi := _) (v := ?_) rfl (by kernel_rfl) (by kernel_rfl) (by kernel_rfl) (fun _ _ _ h => h) (Or.inl ⟨by rfl, ?_⟩) (by assumption) ?_
        rotate_left
        · intro w hSw; (try dsimp only at hSw); go_simp; first | done | with_reducible rfl
        (try simp only [Act.put, List.setIfInBounds_toArray, List.set_cons_zero, List.set_cons_succ])
        refine wpAnyH_take (i := 4) (oi := _) (v := ?_) rfl (by kernel_rfl) (by kernel_rfl) (by kernel_rfl) (fun _ _ _ h => h) (Or.inl ⟨by rfl, ?_⟩) (by assumption) ?_
        rotate_left
        · intro w hSw; (try dsimp only at hSw); go_simp; first | done | with_reducible rfl
        (try simp only [Act.put, List.setIfInBounds_toArray, List.set_cons_zero, List.set_cons_succ])
        refine wpAnyH_ready (rs := [2, 7]) (by kernel_rfl) (by simp) ?_
        refine AllReadyH.cons (o := _) rfl (fun K hK => ?_) (AllReadyH.cons (o := _) rfl (fun K hK => ?_) AllReadyH.nil)
        ·
          go_simp
          go_at_call 74
          refine (spot_any g (k0 + 61 + 10 * (20 - (m + 1))) _ _ _ _ _ _ wr.drew (by omega) (by omega) S.rdr).mono ?_
          rintro e wa ⟨a, b, rfl, hbb, hR1, hG1⟩
          have hz1 := hG1.size
          replace S := S.asked hR1 hG1
          clear hR1
          go_wp2_with fail
          refine hK.out _ _ ⟨(two_cells S.bp).1, (two_cells S.bp).2.1⟩ (fun hHeld => ?_)
          clear hK K
          (try simp only [Act.put, List.setIfInBounds_toArray, List.set_cons_zero, List.set_cons_succ])
          refine wpAnyH_ready (rs := [5, 7]) (by kernel_rfl) (by simp) ?_
          refine AllReadyH.cons (o := _) rfl (fun K hK => ?_) (AllReadyH.cons (o := _) rfl (fun K hK => ?_) AllReadyH.nil)
          ·
            go_simp
            go_at_call 74
            refine (spot_any g (k0 + 61 + 10 * (20 - (m + 1)) + 4) _ _ _ _ _ _ _ (by omega) (by omega) S.rdr).mono ?_
            rintro e wa ⟨s, t, rfl, hbt, hR1, hG1⟩
            replace S := S.asked hR1 hG1
            clear hR1
            go_wp2_with fail
            refine hK.out _ _ ⟨(two_cells S.bp).1, (two_cells S.bp).2.1⟩ (fun hHeld => ?_)
            clear hK K
            (try simp only [Act.put, List.setIfInBounds_toArray, List.set_cons_zero, List.set_cons_succ])
            refine wpAnyH_take (i := 6) (oi := _) (v := ?_) rfl (by kernel_rfl) (by kernel_rfl) (by kernel_rfl) (fun _ _ _ h => h) (Or.inl ⟨by rfl, ?_⟩) (by assumption) ?_
            rotate_left
            · intro w hSw; (try dsimp only at hSw); go_simp; first | done | with_reducible rfl
            (try simp only [Act.put, List.setIfInBounds_toArray, List.set_cons_zero, List.set_cons_succ])
            refine wpAnyH_ready (rs := [7]) (by kernel_rfl) (by simp) ?_
            refine AllReadyH.cons (o := _) rfl (fun K hK => ?_) AllReadyH.nil
            go_simp
            have S0 := S.alloc (.cells #[.bool false, .int .i64 0, .bool false, .int .i64 0] 59)
            refine hK.out _ _ ⟨(two_cells S0.bp).1, (two_cells S0.bp).2.1⟩ (fun hHeld => ?_)
            clear hK K
            (try simp only [Act.put, List.setIfInBounds_toArray, List.set_cons_zero, List.set_cons_succ])
            refine wpAnyH_ready (rs := [8]) (by kernel_rfl) (by simp) ?_
            refine AllReadyH.cons (o := _) rfl (fun K hK => ?_) AllReadyH.nil
            go_simp
            have hgl1 := S.bx.lt
            have qn := Row.new wa 59 #[.bool a, .int .i64 b, .bool s, .int .i64 t]
            replace S := S.alloc (.cells #[.bool a, .int .i64 b, .bool s, .int .i64 t] 59)
            refine hK.out _ _ ⟨(two_cells S.bp).1, (two_cells S.bp).2.1⟩ (fun hHeld => ?_)
            clear hK K
            (try simp only [Act.put, List.setIfInBounds_toArray, List.set_cons_zero, List.set_cons_succ])
            refine wpAnyH_done (by kernel_rfl) ?_ _
            go_wp2_with fail
            go_meet
            exact ⟨_, a, b, s, t, rfl, hgl1, qn, S⟩
          ·
            go_simp
            have hgl1 := S.bx.lt
            have ho : ∀ b, u7.ownBlock = some b → b ≠ wa.heap.size := fun b e => by have := (S.out.lt b e).2; omega
            have ql := Row.new wa 59 #[.bool false, .int .i64 0, .bool false, .int .i64 0]
            replace S := S.alloc (.cells #[.bool false, .int .i64 0, .bool false, .int .i64 0] 59)
            refine hK.out _ _ ⟨(two_cells S.bp).1, (two_cells S.bp).2.1⟩ (fun hHeld => ?_)
            clear hK K
            (try simp only [Act.put, List.setIfInBounds_toArray, List.set_cons_zero, List.set_cons_succ])
            generalize hga : wa.heap.size = gA at *
            refine wpAnyH_ready (rs := [5]) (by kernel_rfl) (by simp) ?_
            refine AllReadyH.cons (o := _) rfl (fun K hK => ?_) AllReadyH.nil
            go_simp
            go_at_call 74
            refine (spot_any g (k0 + 61 + 10 * (20 - (m + 1)) + 4) _ _ _ _ _ _ _ (by omega) (by omega) S.rdr).mono ?_
            rintro e wa ⟨s, t, rfl, hbt, hR1, hG1⟩
            replace ql := ql.kept hG1 (by intro e; injection e with e; omega)
            replace S := S.asked hR1 hG1
            clear hR1
            go_wp2_with fail
            refine hK.out _ _ ⟨(two_cells S.bp).1, (two_cells S.bp).2.1⟩ (fun hHeld => ?_)
            clear hK K
            (try simp only [Act.put, List.setIfInBounds_toArray, List.set_cons_zero, List.set_cons_succ])
            refine wpAnyH_take (i := 6) (oi := _) (v := ?_) rfl (by kernel_rfl) (by kernel_rfl) (by kernel_rfl) (fun _ _ _ h => h) (Or.inl ⟨by rfl, ?_⟩) (by assumption) ?_
            rotate_left
            · intro w hSw; (try dsimp only at hSw); go_simp; first | done | with_reducible rfl
            (try simp only [Act.put, List.setIfInBounds_toArray, List.set_cons_zero, List.set_cons_succ])
            obtain ⟨d0, d1, d2, d3⟩ := ql.four
            have g0 := ql.frozen 0
            have g1 := ql.frozen 1
            have g2 := ql.frozen 2
            have g3 := ql.frozen 3
            refine wpAnyH_ready (rs := [8]) (by kernel_rfl) (by simp) ?_
            refine AllReadyH.cons (o := _) rfl (fun K hK => ?_) AllReadyH.nil
            go_simp
            obtain ⟨S4, q4⟩ := S.setL4 hgl1 ho ql (.bool a) (.int .i64 b) (.bool s) (.int .i64 t)
            replace S := S4
            refine hK.out _ _ ⟨(two_cells S.bp).1, (two_cells S.bp).2.1⟩ (fun hHeld => ?_)
            clear hK K
            (try simp only [Act.put, List.setIfInBounds_toArray, List.set_cons_zero, List.set_cons_succ])
            clear d0 d1 d2 d3 g0 g1 g2 g3
            refine wpAnyH_done (by kernel_rfl) ?_ _
            go_wp2_with fail
            go_meet
            exact ⟨_, a, b, s, t, rfl, hgl1, q4, S⟩
        ·
          go_simp
          have hgl1 := Sr.bx.lt
          have ho : ∀ b, u7.ownBlock = some b → b ≠ wr.heap.size := fun b e => by have := (Sr.out.lt b e).2; omega
          have ql := (Row.new wr 59 #[.bool false, .int .i64 0, .bool false, .int .i64 0]).drew
          replace S := (Sr.alloc (.cells #[.bool false, .int .i64 0, .bool false, .int .i64 0] 59)).drewS
          refine hK.out _ _ ⟨(two_cells S.bp).1, (two_cells S.bp).2.1⟩ (fun hHeld => ?_)
          clear hK K
          (try simp only [Act.put, List.setIfInBounds_toArray, List.set_cons_zero, List.set_cons_succ])
          refine wpAnyH_ready (rs := [2]) (by kernel_rfl) (by simp) ?_
          refine AllReadyH.cons (o := _) rfl (fun K hK => ?_) AllReadyH.nil
          go_simp
          go_at_call 74
          refine (spot_any g (k0 + 61 + 10 * (20 - (m + 1))) _ _ _ _ _ _ _ (by omega) (by omega) S.rdr).mono ?_
          rintro e wa ⟨a, b, rfl, hbb, hR1, hG1⟩
          replace ql := ql.kept hG1 (by intro e; injection e with e; omega)
          replace S := S.asked hR1 hG1
          clear hR1
          go_wp2_with fail
          refine hK.out _ _ ⟨(two_cells S.bp).1, (two_cells S.bp).2.1⟩ (fun hHeld => ?_)
          clear hK K
          (try simp only [Act.put, List.setIfInBounds_toArray, List.set_cons_zero, List.set_cons_succ])
          refine wpAnyH_ready (rs := [5]) (by kernel_rfl) (by simp) ?_
          refine AllReadyH.cons (o := _) rfl (fun K hK => ?_) AllReadyH.nil
          go_simp
          go_at_call 74
          refine (spot_any g (k0 + 61 + 10 * (20 - (m + 1)) + 4) _ _ _ _ _ _ _ (by omega) (by omega) S.rdr).mono ?_
          rintro e wa ⟨s, t, rfl, hbt, hR1, hG1⟩
          replace ql := ql.kept hG1 (by intro e; injection e with e; omega)
          replace S := S.asked hR1 hG1
          clear hR1
          go_wp2_with fail
          refine hK.out _ _ ⟨(two_cells S.bp).1, (two_cells S.bp).2.1⟩ (fun hHeld => ?_)
          clear hK K
          (try simp only [Act.put, List.setIfInBounds_toArray, List.set_cons_zero, List.set_cons_succ])
          refine wpAnyH_take (i := 6) (oi := _) (v := ?_) rfl (by kernel_rfl) (by kernel_rfl) (by kernel_rfl) (fun _ _ _ h => h) (Or.inl ⟨by rfl, ?_⟩) (by assumption) ?_
          rotate_left
          · intro w hSw; (try dsimp only at hSw); go_simp; first | done | with_reducible rfl
          (try simp only [Act.put, List.setIfInBounds_toArray, List.set_cons_zero, List.set_cons_succ])
          obtain ⟨d0, d1, d2, d3⟩ := ql.four
          have g0 := ql.frozen 0
          have g1 := ql.frozen 1
          have g2 := ql.frozen 2
          have g3 := ql.frozen 3
          refine wpAnyH_ready (rs := [8]) (by kernel_rfl) (by simp) ?_
          refine AllReadyH.cons (o := _) rfl (fun K hK => ?_) AllReadyH.nil
          go_simp
          obtain ⟨S4, q4⟩ := S.setL4 hgl1 ho ql (.bool a) (.int .i64 b) (.bool s) (.int .i64 t)
          replace S := S4
          refine hK.out _ _ ⟨(two_cells S.bp).1, (two_cells S.bp).2.1⟩ (fun hHeld => ?_)
          clear hK K
          (try simp only [Act.put, List.setIfInBounds_toArray, List.set_cons_zero, List.set_cons_succ])
          clear d0 d1 d2 d3 g0 g1 g2 g3
          refine wpAnyH_done (by kernel_rfl) ?_ _
          go_wp2_with fail
          go_meet
          exact ⟨_, a, b, s, t, rfl, hgl1, q4, S⟩
      case rest =>
        obtain ⟨gl, a, b, s, t, rfl, hgl2, ql, S⟩ := hcut
        have hT := (tiny_lift q ((a, b), (s, t))).small
        have HC := hide (fun w rq => coilLift_spec X X' x x' q a b s t w hq rq)
        generalize coilLift q ((a, b), (s, t)) = rv at *
        obtain ⟨r, ok⟩ := rv
        have mX := two_cells S.bx
        have mL := ql.four
        obtain ⟨c0, c1, _, _⟩ := mX
        obtain ⟨l0, l1, l2, l3⟩ := mL
        go_wp2_with fail
        clear c0 c1 l0 l1 l2 l3
        refine (HC.out wc ⟨S.x1.rd, S.x2.rd⟩).mono ?_
        rintro e wz ⟨Z, z, Z', z', rfl, oz, bz⟩
        have hsz : w.heap.size + 1 ≤ wc.heap.size := by have := S.bp.lt; have := S.lp; omega
        replace S := (S.up bz).alloc (.cells #[.slice Z r.1.length z, .slice Z' r.2.length z'] 25)
        replace ql := (ql.after bz).alloc (.cells #[.slice Z r.1.length z, .slice Z' r.2.length z'] 25)
        have qy := Row.new wz 25 #[.slice Z r.1.length z, .slice Z' r.2.length z']
        have oz1 := (oz.1.below (bel_one wz (.cells #[.slice Z r.1.length z, .slice Z' r.2.length z'] 25))).mono hsz
        have oz2 := (oz.2.1.below (bel_one wz (.cells #[.slice Z r.1.length z, .slice Z' r.2.length z'] 25))).mono hsz
        have hzz := bz.size
        have hlg := S.lg
        clear oz bz HC
        cases ok
        · go_wp2_with fail
          generalize wz.alloc (.cells #[.slice Z r.1.length z, .slice Z' r.2.length z'] 25) = wW at *
          refine (odd_any g (k0 + 61 + 10 * (20 - (m + 1)) + 8) 20 _ (by omega) (by omega) (by omega) S.rdr).mono ?_
          rintro e wo ⟨bo, rfl, hRo, hGo⟩
          replace S := S.asked hRo hGo
          replace ql := ql.kept hGo (by intro e; injection e with e; omega)
          replace qy := qy.kept hGo (by intro e; injection e with e; omega)
          replace oz1 := own_drawn oz1 hGo (by omega)
          replace oz2 := own_drawn oz2 hGo (by omega)
          clear hRo hGo
          cases bo
          · go_wp2_with fail
            go_roundw
            case rel => exact ⟨m, q, X, X', x, x', ls, by omega, by go_num, hq, by omega, S.more (by omega)⟩
            case measure => first | (simp [intOf]; done) | (simp [intOf]; omega)
          · obtain ⟨l0, l1, l2, l3⟩ := ql.four
            go_wp2_with (at_builtin; refine wpList_append_any liftElem rfl _ _ rfl (w.heap.size + 1) (wo.heap.size + 1) _ ls.length (lc ls) rfl (S.alloc (.cells #[.bool a, .int .i64 b, .bool s, .int .i64 t] 59)).out (some ⟨wo.heap.size, 0, none⟩) 1 1 rfl (lc [((a, b), (s, t))]) rfl (((Row.new wo 59 #[.bool a, .int .i64 b, .bool s, .int .i64 t]).rd).mono (by simp)) (fun h => by cases h) (lc_one _) (by omega) (by omega) (by have := S.bp.lt; have := S.lp; simp at *; omega) ?_; intro v9 w9 hap; have S9 := (S.alloc (.cells #[.bool a, .int .i64 b, .bool s, .int .i64 t] 59)).app ((a, b), (s, t)) hap; have y9 := two_cells ((qy.alloc (.cells #[.bool a, .int .i64 b, .bool s, .int .i64 t] 59)).past hap.2.1 (owns_ty (S.alloc (.cells #[.bool a, .int .i64 b, .bool s, .int .i64 t] 59)).out) (by decide)); have x9 := two_cells S9.bx; have ov1 := own_past (oz1.below (bel_one _ (.cells #[.bool a, .int .i64 b, .bool s, .int .i64 t] 59))) hap.2.1 (owns_ty (S.alloc (.cells #[.bool a, .int .i64 b, .bool s, .int .i64 t] 59)).out) (by decide); have ov2 := own_past (oz2.below (bel_one _ (.cells #[.bool a, .int .i64 b, .bool s, .int .i64 t] 59))) hap.2.1 (owns_ty (S.alloc (.cells #[.bool a, .int .i64 b, .bool s, .int .i64 t] 59)).out) (by decide); clear hap; obtain ⟨m0, m1, n0, n1⟩ := y9; obtain ⟨o0, o1, f0, f1⟩ := x9)
            go_roundw
            case rel => exact ⟨m, q, X, X', x, x', ls ++ [((a, b), (s, t))], by omega, by go_num, hq, by simp; omega, S9.more (by omega)⟩
            case measure => first | (simp [intOf]; done) | (simp [intOf]; omega)
        · obtain ⟨l0, l1, l2, l3⟩ := ql.four
          have rdn : Rd ((wz.alloc (.cells #[.slice Z r.1.length z, .slice Z' r.2.length z'] 25)).alloc (.cells #[.bool a, .int .i64 b, .bool s, .int .i64 t] 59)) (wz.heap.size + 1 + 1) (some ⟨wz.heap.size + 1, 0, none⟩) (lc [((a, b), (s, t))]) := (((Row.new (wz.alloc (.cells #[.slice Z r.1.length z, .slice Z' r.2.length z'] 25)) 59 #[.bool a, .int .i64 b, .bool s, .int .i64 t]).eq (by simp)).rd).mono (by simp)
          go_wp2_with (at_builtin; refine wpList_append_any liftElem rfl _ _ rfl (w.heap.size + 1) ((wz.heap.size + 1) + 1) _ ls.length (lc ls) rfl (S.alloc (.cells #[.bool a, .int .i64 b, .bool s, .int .i64 t] 59)).out (some ⟨(wz.heap.size + 1), 0, none⟩) 1 1 rfl (lc [((a, b), (s, t))]) rfl rdn (fun h => by cases h) (lc_one _) (by omega) (by omega) (by have := S.bp.lt; have := S.lp; simp at *; omega) ?_; intro v9 w9 hap; have S9 := (S.alloc (.cells #[.bool a, .int .i64 b, .bool s, .int .i64 t] 59)).app ((a, b), (s, t)) hap; have y9 := two_cells ((qy.alloc (.cells #[.bool a, .int .i64 b, .bool s, .int .i64 t] 59)).past hap.2.1 (owns_ty (S.alloc (.cells #[.bool a, .int .i64 b, .bool s, .int .i64 t] 59)).out) (by decide)); have x9 := two_cells S9.bx; have ov1 := own_past (oz1.below (bel_one _ (.cells #[.bool a, .int .i64 b, .bool s, .int .i64 t] 59))) hap.2.1 (owns_ty (S.alloc (.cells #[.bool a, .int .i64 b, .bool s, .int .i64 t] 59)).out) (by decide); have ov2 := own_past (oz2.below (bel_one _ (.cells #[.bool a, .int .i64 b, .bool s, .int .i64 t] 59))) hap.2.1 (owns_ty (S.alloc (.cells #[.bool a, .int .i64 b, .bool s, .int .i64 t] 59)).out) (by decide); clear hap; obtain ⟨m0, m1, n0, n1⟩ := y9; obtain ⟨o0, o1, f0, f1⟩ := x9)
          have SX := S9.setX (z := z) (z' := z') ov1 ov2
          go_roundw
          case rel => exact ⟨m, r, Z, Z', z, z', ls ++ [((a, b), (s, t))], by omega, by go_num, hT, by simp; omega, SX.more (by omega)⟩
          case measure => first | (simp [intOf]; done) | (simp [intOf]; omega)
    · obtain rfl : m = 0 := by omega
      obtain ⟨c0, c1, _, _⟩ := two_cells S.bp
      obtain ⟨e0, e1, f0, f1⟩ := two_cells S.res
      obtain ⟨I9, c9, hv9, oO, _⟩ := own_room2 S.out
      have s1 := S.lg
      have s2 := S.lp
      have p2 := two_set S.res (.slice L p.1.length d) (.slice L' p.2.length d')
      obtain ⟨r0, r1, _, _⟩ := two_cells p2
      have hpost : LiftsDrawn w g (k0 + 600) (.returned (.tuple #[.agg #[.slice L p.1.length d, .slice L' p.2.length d'], .slice I9 ls.length c9])) _ := ⟨L, d, L', d', p, I9, c9, ls, rfl, h1, h2, by omega, (own_far (own_far S.o1 (p := ⟨w.heap.size, 0, none⟩) (by simp only; omega) (.slice L p.1.length d)) (p := ⟨w.heap.size, 1, none⟩) (by simp only; omega) (.slice L' p.2.length d')).mono (by omega), (own_far (own_far S.o2 (p := ⟨w.heap.size, 0, none⟩) (by simp only; omega) (.slice L p.1.length d)) (p := ⟨w.heap.size, 1, none⟩) (by simp only; omega) (.slice L' p.2.length d')).mono (by omega), (own_far (own_far oO (p := ⟨w.heap.size, 0, none⟩) (by simp only; omega) (.slice L p.1.length d)) (p := ⟨w.heap.size, 1, none⟩) (by simp only; omega) (.slice L' p.2.length d')).mono (by omega), (S.rdr.two (by omega) (.slice L p.1.length d) (.slice L' p.2.length d')).more (by omega), grown_two S.grown (Nat.le_refl _) _ _⟩
      have HP := hide hpost
      clear hpost
      go_wp2
      (try simp only [Exit.inBlock, Exit.then])
      refine bodyPost_ret (by simp [results, Tryd.results88, go_sem, r0, r1, hv9]; try rfl) rfl ?_
      exact HP.out
end Go.Proofs.YtpiiefmfiipabaaDoor
