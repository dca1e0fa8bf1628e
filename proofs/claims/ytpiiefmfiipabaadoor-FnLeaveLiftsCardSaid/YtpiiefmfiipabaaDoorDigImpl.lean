/- The program's DigLifts. No conditions but bounds on lengths. -/
import Derived.Test.YtpiiefmfiipabaaDoorAway
import Derived.Test.YtpiiefmfiipabaaDoorCoilsOn
import Derived.Test.YtpiiefmfiipabaaDoorCoil
import Derived.Test.YtpiiefmfiipabaaDoorLiftKit
import Derived.Test.YtpiiefmfiipabaaDoorApp
namespace Go.Proofs.YtpiiefmfiipabaaDoor
open Go.ChangeShapes Go.WideShapes Go.ChangeAt Go.RowKit Go.Deep
theorem liftElemT : Elem 50 59 (.agg #[.bool false, .int .i64 0, .bool false, .int .i64 0]) 4 32 := ⟨Tryd.underlying50, by kernel_rfl, rfl, by decide, by decide⟩
theorem lc_oneT (ls : List LF) : ∀ u ∈ lc ls, u.oneCell' = true := by
  intro u hu
  simp only [lc, List.mem_flatMap, List.mem_cons, List.not_mem_nil, or_false] at hu
  obtain ⟨s, _, rfl | rfl | rfl | rfl⟩ := hu <;> rfl
/-- Block b is of element type T. -/
def IsT (W : World) (b : Nat) (T : TypeId) : Prop := ∃ cs fr, W.heap[b]? = some (.cells cs T fr)
theorem Row.isT {W : World} {g : Nat} {T : TypeId} {xs : List Value} (h : Row W g T xs) : IsT W g T := by
  obtain ⟨cs, h1, _⟩ := h
  exact ⟨cs, _, h1⟩
theorem owns_isT {W : World} {B n size : Nat} {e : TypeId} {v : Value} {xs : List Value} (h : W.ownsRow B e size v n xs) : ∀ b, v.ownBlock = some b → IsT W b e := by
  intro b hb
  obtain ⟨_, h⟩ := h
  rcases h with ⟨rfl, _⟩ | ⟨g, cap, cur, rfl, _, h3, _⟩
  · cases hb
  · have : g = b := Option.some.inj hb
    subst this
    exact ⟨cur, _, h3⟩
theorem isT_ne {W : World} {b b' : Nat} {T T' : TypeId} (h : IsT W b T) (h' : IsT W b' T') (hT : T ≠ T') : b ≠ b' := by
  rintro rfl
  obtain ⟨cs, fr, h⟩ := h
  obtain ⟨cs', fr', h'⟩ := h'
  rw [h] at h'
  injection h' with h'
  injection h' with _ h' _
  exact hT h'
theorem own_pastT {W W' : World} {B : Nat} {T T' : TypeId} {A : Option Addr} {xs : List Value} {row : Option Nat} (h : Own W B T A xs) (hg : W.grownBy W' row) (hr : ∀ b, row = some b → IsT W b T') (hT : T ≠ T') : Own W' B T A xs := by
  rcases h with h | ⟨g, cs, rfl, hB, h1, h2⟩
  · exact .inl h
  · refine .inr ⟨g, cs, rfl, hB, ?_, h2⟩
    rw [hg.block g (lt_of_block h1) (fun e => isT_ne (W := W) ⟨cs, _, h1⟩ (hr g e.symm) hT rfl)]; exact h1
theorem Row.pastT {W W' : World} {g : Nat} {T T' : TypeId} {xs : List Value} {row : Option Nat} (h : Row W g T xs) (hg : W.grownBy W' row) (hr : ∀ b, row = some b → IsT W b T') (hT : T ≠ T') : Row W' g T xs :=
  h.kept hg fun e => isT_ne h.isT (hr g e.symm) hT rfl
/-- What was there before the call, or is the call's own. -/
def RdE (w W : World) (A : Option Addr) (xs : List Value) : Prop := Rd W w.heap.size A xs ∨ Own W w.heap.size 3 A xs
theorem RdE.rd {w W : World} {A : Option Addr} {xs : List Value} (h : RdE w W A xs) (hz : w.heap.size ≤ W.heap.size) : Rd W W.heap.size A xs := by
  rcases h with h | h
  · exact h.mono hz
  · exact h.rd
/-- The state of a dig: the box of the pile, that of the spot, the pile's rows, the coils that lie on it, the lifts. -/
structure DgS (w wr : World) (gP gS : Nat) (q : PL) (X X' : Option Addr) (x x' : Nat) (st : Bool) (b : Int) (us : List Int) (U : Option Addr) (v : Value) (ls : List LF) : Prop where
  bp : Row wr gP 25 [.slice X q.1.length x, .slice X' q.2.length x']
  bs : Row wr gS 31 [.bool st, .int .i64 b]
  x1 : RdE w wr X (ic q.1)
  x2 : RdE w wr X' (ic q.2)
  u1 : Own wr w.heap.size 3 U (ic us)
  out : wr.ownsRow w.heap.size 59 4 v ls.length (lc ls)
  low : Below w.heap.size w wr
  lp : w.heap.size ≤ gP
section
variable {w wr w' : World} {gP gS : Nat} {q r : PL} {X X' Z Z' U : Option Addr} {x x' z z' : Nat} {st : Bool} {b : Int} {us : List Int} {v v' : Value} {ls : List LF}
theorem DgS.rd (h : DgS w wr gP gS q X X' x x' st b us U v ls) : RdP wr wr.heap.size X X' q := ⟨h.x1.rd h.low.size, h.x2.rd h.low.size⟩
theorem RdE.up {W W' : World} {A : Option Addr} {xs : List Value} (h : RdE w W A xs) (hz : w.heap.size ≤ W.heap.size) (hb : Below W.heap.size W W') : RdE w W' A xs := by
  rcases h with h | h
  · exact .inl (h.below (hb.mono hz))
  · exact .inr (h.below hb)
theorem DgS.up (h : DgS w wr gP gS q X X' x x' st b us U v ls) (hb : Below wr.heap.size wr w') : DgS w w' gP gS q X X' x x' st b us U v ls :=
  ⟨h.bp.after hb, h.bs.after hb, h.x1.up h.low.size hb, h.x2.up h.low.size hb, h.u1.below hb, owns_below h.out hb, via h.low hb h.low.size, h.lp⟩
theorem own_setT {W : World} {B : Nat} {T T' : TypeId} {A : Option Addr} {xs ys : List Value} (h : Own W B T A xs) {p : Addr} (q : Row W p.block T' ys) (hT : T ≠ T') (u : Value) : Own (W.setCell p u) B T A xs :=
  own_pastT h (grown_set W p u) (fun b e => by have : p.block = b := Option.some.inj e; exact this ▸ q.isT) hT
theorem DgS.setP (h : DgS w wr gP gS q X X' x x' st b us U v ls) (z1 : Own wr w.heap.size 3 Z (ic r.1)) (z2 : Own wr w.heap.size 3 Z' (ic r.2)) :
    DgS w ((wr.setCell ⟨gP, 0, none⟩ (.slice Z r.1.length z)).setCell ⟨gP, 1, none⟩ (.slice Z' r.2.length z')) gP gS r Z Z' z z' st b us U v ls := by
  have h1 := h.lp
  have hx := h.bp
  have hx' := hx.set 0 (.slice Z r.1.length z)
  have T1 : 3 ≠ 25 := by decide
  have far : ∀ {A : Option Addr} {xs : List Value}, Own wr w.heap.size 3 A xs → Own ((wr.setCell ⟨gP, 0, none⟩ (.slice Z r.1.length z)).setCell ⟨gP, 1, none⟩ (.slice Z' r.2.length z')) w.heap.size 3 A xs :=
    fun o => own_setT (own_setT o (p := ⟨gP, 0, none⟩) hx T1 _) (p := ⟨gP, 1, none⟩) hx' T1 _
  have hne : gS ≠ gP := isT_ne h.bs.isT hx.isT (by decide)
  have s1 := owns_grown h.out (grown_set wr ⟨gP, 0, none⟩ (.slice Z r.1.length z)) (fun b e e' => isT_ne hx.isT (owns_isT h.out b e) (by decide) (Option.some.inj e'))
  refine ⟨?_, (h.bs.far hne _).far hne _, .inr (far z1), .inr (far z2), far h.u1, ?_, (h.low.setCell (by simp only; omega) _).setCell (by simp only; omega) _, h1⟩
  · have := hx'.set 1 (.slice Z' r.2.length z')
    simpa using this
  · exact owns_grown s1 (grown_set _ ⟨gP, 1, none⟩ (.slice Z' r.2.length z')) (fun b e e' => isT_ne hx'.isT (owns_isT s1 b e) (by decide) (Option.some.inj e'))
theorem RdE.pastT {W W' : World} {A : Option Addr} {xs : List Value} {T' : TypeId} {row : Option Nat} (h : RdE w W A xs) (hb : Below w.heap.size W W') (hg : W.grownBy W' row) (hr : ∀ b, row = some b → IsT W b T') (hT : 3 ≠ T') : RdE w W' A xs := by
  rcases h with h | h
  · exact .inl (h.below hb)
  · exact .inr (own_pastT h hg hr hT)
theorem DgS.app (h : DgS w wr gP gS q X X' x x' st b us U v ls) (l : LF) (hap : Appd wr w' w.heap.size 59 4 v v' ls.length 1 (lc ls) (lc [l])) : DgS w w' gP gS q X X' x x' st b us U v' (ls ++ [l]) := by
  have hg := hap.2.1
  have ty := owns_isT h.out
  have T1 : 3 ≠ 59 := by decide
  have hb := hap.below h.out h.low.size
  refine ⟨h.bp.pastT hg ty (by decide), h.bs.pastT hg ty (by decide), h.x1.pastT hb hg ty T1, h.x2.pastT hb hg ty T1, own_pastT h.u1 hg ty T1, ?_, h.low.trans hb, h.lp⟩
  have e1 : (ls ++ [l]).length = ls.length + 1 := by simp
  rw [e1, lc_app]
  exact hap.1
end
theorem dig_fail {p q : PL} {b : Int} {u : Int} {us r : List Int} {ls : List LF} (h : digN b p us = (digN b q (u :: r)).map fun x => (x.1, ls ++ x.2)) (ha : awayTo q (findV q u) b = none) : digN b p us = none := by
  rw [h]; unfold digN; rw [ha]; rfl
theorem dig_step {p q : PL} {b : Int} {u : Int} {us r : List Int} {ls : List LF} {t : Bool × Nat} (h : digN b p us = (digN b q (u :: r)).map fun x => (x.1, ls ++ x.2)) (ha : awayTo q (findV q u) b = some t) :
    digN b p us = (digN b (coilLift q (findV q u, (t.1, (t.2 : Int)))).1 r).map fun x => (x.1, (ls ++ [(findV q u, (t.1, (t.2 : Int)))]) ++ x.2) := by
  rw [h]
  conv => lhs; unfold digN
  rw [ha]
  simp only [Option.map_map]
  congr 1
  funext x
  simp
theorem dig_done {p q : PL} {b : Int} {us : List Int} {ls : List LF} (h : digN b p us = (digN b q []).map fun x => (x.1, ls ++ x.2)) : digN b p us = some (q, ls) := by
  rw [h]; unfold digN; simp
/-- A row of lifts of the call's own, and whether it was found. -/
def DigOk (w : World) (p : PL) (id : Int) (e : Ending) (w' : World) : Prop :=
  ∃ I ci, e = .returned (.tuple #[.slice I (digLifts p id).1.length ci, .bool (digLifts p id).2]) ∧ Own w' w.heap.size 59 I (lc (digLifts p id).1) ∧ Below w.heap.size w w'
theorem digOk_no {w w' : World} {p : PL} {id : Int} {I : Option Addr} {ci : Nat} (h : digLifts p id = ([], false)) (hb : Below w.heap.size w w') : DigOk w p id (.returned (.tuple #[.slice I 0 ci, .bool false])) w' := by
  unfold DigOk; rw [h]; exact ⟨I, ci, rfl, .inl rfl, hb⟩
theorem dig_lifts {p q : PL} {id : Int} {s : Bool × Nat} {ls : List LF} (hf : coilFind p id = some s) (hd : digN (s.2 : Int) p (coilsOn p s.1 (s.2 : Int)) = some (q, ls)) : digLifts p id = (ls, true) := by
  unfold digLifts; rw [hf]; simp only; rw [hd]
theorem dig_lost {p : PL} {id : Int} {s : Bool × Nat} (hf : coilFind p id = some s) (hd : digN (s.2 : Int) p (coilsOn p s.1 (s.2 : Int)) = none) : digLifts p id = ([], false) := by
  unfold digLifts; rw [hf]; simp only; rw [hd]
set_option linter.unusedSimpArgs false in
set_option linter.unusedVariables false in
set_option maxHeartbeats 2000000 in
set_option maxRecDepth 100000 in
theorem digLifts_any (A A' : Option Addr) (c c' : Nat) (p : PL) (id : Int) (w : World) (hp : small p) (rp : RdP w w.heap.size A A' p) :
    Calls Tryd.prog 40 #[.agg #[.slice A p.1.length c, .slice A' p.2.length c'], .int .i64 id] w (DigOk w p id) := by
  go_enter Tryd.func40, Tryd.ntmps40
  go_wp2_with fail
  have q0 := Row.new w 25 #[.slice A p.1.length c, .slice A' p.2.length c']
  have b0 := bel_one w (.cells #[.slice A p.1.length c, .slice A' p.2.length c'] 25)
  have rp0 := rp.up b0
  have mm := q0.boxed
  generalize w.alloc (.cells #[.slice A p.1.length c, .slice A' p.2.length c'] 25) = w0 at *
  refine (coilFind_any A A' c c' p id w0 hp rp0).mono ?_
  unfold SpotOk
  cases hf : coilFind p id with
  | none =>
    have hno := hide (dig_no hf)
    rintro e w1 ⟨rfl, b1⟩
    have bb := via b0 b1 b0.size
    clear hf
    go_wp2
    go_returns
    exact digOk_no hno.out (by first | exact bb | (exact bb.alloc bb.size _))
  | some s =>
    obtain ⟨st, b⟩ := s
    have hfv : findV p id = (st, (b : Int)) := by unfold findV; rw [hf]; rfl
    rw [hfv]
    rintro e w1 ⟨rfl, b1⟩
    have hO := ons_of hf
    have V := hO.vd
    have hb6 : b < 100 := by
      obtain ⟨_, _, hin, _⟩ := find_iff.1 hf
      unfold inP rowOf at hin
      have := V.l6
      have := V.up
      split at hin <;> simp only at hin <;> omega
    have bb := (via b0 b1 b0.size).alloc (by have := b0.size; have := b1.size; omega) (.cells #[.bool st, .int .i64 (b : Int)] 31)
    have q1 := (q0.after b1).alloc (.cells #[.bool st, .int .i64 (b : Int)] 31)
    have qS := Row.new w1 31 #[.bool st, .int .i64 (b : Int)]
    have rp1 := (rp0.up b1).up (bel_one w1 (.cells #[.bool st, .int .i64 (b : Int)] 31))
    have hle := coilsOn_le (p := p) (top := st) (place := (b : Int))
    have HC := hide (fun w rp => coilsOn_any A A' c c' p st (b : Int) w hp rp)
    have hfs := hide hf
    have hos := hide hO
    obtain ⟨m0, m1⟩ := q1.boxed
    obtain ⟨n0, n1⟩ := qS.boxed
    clear hfv hf hO mm
    simp only
    go_wp2_with fail
    refine (HC.out _ rp1).mono ?_
    rintro e w2 ⟨U, cu, rfl, oU, b2⟩
    clear m0 m1 n0 n1
    have S : DgS w w2 w.heap.size w1.heap.size p A A' c c' st (b : Int) (coilsOn p st (b : Int)) U (.slice none 0 0) [] :=
      ⟨q1.after b2, qS.after b2, .inl (rp.1.below (via bb b2 bb.size)), .inl (rp.2.below (via bb b2 bb.size)), oU.mono bb.size, World.ownsRow_nil _ _ _ _, via bb b2 bb.size, Nat.le_refl _⟩
    have hN0 : digN (b : Int) p (coilsOn p st (b : Int)) = (digN (b : Int) p (coilsOn p st (b : Int))).map fun x => (x.1, [] ++ x.2) := by simp
    have HN0 := hide hN0
    clear hN0 q1 qS rp1 b2 bb oU HC
    generalize hus : coilsOn p st (b : Int) = us at *
    have HUS := hide hus
    clear hus
    go_wp2_with fail
    go_loopw [8, 28] (fun v i wr => ∃ (k : Nat) (q : PL) (X X' : Option Addr) (x x' : Nat) (ls : List LF), k ≤ us.length ∧ i = .int .i64 k ∧ ls.length ≤ k ∧ Hid (Ons q b (us.drop k)) ∧ DgS w wr w.heap.size w1.heap.size q X X' x x' st (b : Int) us U v ls ∧ Hid (digN (b : Int) p us = (digN (b : Int) q (us.drop k)).map fun x => (x.1, ls ++ x.2))) (fun _ i _ => us.length - (intOf i).toNat)
    case atStart => exact ⟨0, p, A, A', c, c', [], Nat.zero_le _, rfl, Nat.le_refl _, hos, S, HN0⟩
    case round =>
      clear S HN0 hos
      obtain ⟨k, q, X, X', x, x', ls, hk, rfl, hlk, hO, S, HN⟩ := hrel
      by_cases hlt : k < us.length
      · have hO := hO.out
        have hN := HN.out
        rw [List.drop_eq_getElem_cons hlt] at hO hN
        obtain ⟨bu, ou, rfl, _, hcu⟩ := (S.u1.rd).int hlt
        obtain ⟨j, oj, hj, hfj⟩ := hO.one
        have hz1 := S.low.size
        obtain ⟨m0, m1⟩ := S.bp.boxed
        have HF := hide (fun w rq => coilFind_any X X' x x' q us[k] w (small_vd hO.vd) rq)
        have HD := hide (fun ha => dig_fail hN ha)
        have HE := hide (fun t ha => dig_step (t := t) hN ha)
        have HX := hide (fun t ha => (hO.next oj hj (t := t) ha).1)
        have HY := hide (fun t ha => (away_some oj (t := t) ha).2.2.2.2)
        unfold SpotOk at HF
        rw [hfj] at HF HD HE
        have his : (coilFind q us[k]).isSome = true := by
          rw [find_isSome]
          have := (hO.vd.rng (true, j)).1
          exact ⟨hO.vd, by have := oj.hi; omega, (true, j), hj⟩
        rw [his] at HF
        generalize us[k] = u at *
        simp only at HF
        go_wp2_with fail
        refine (HF.out wr S.rd).mono ?_
        rintro e w3 ⟨rfl, b3⟩
        have S3 := (S.up b3).up (bel_one w3 (.cells #[.bool true, .int .i64 (j : Int)] 31))
        have qF := Row.new w3 31 #[.bool true, .int .i64 (j : Int)]
        have hz3 := b3.size
        clear m0 m1 S HF
        obtain ⟨m0, m1⟩ := S3.bp.boxed
        obtain ⟨m2, m3⟩ := S3.bs.boxed
        obtain ⟨m4, m5⟩ := qF.boxed
        go_wp2_with fail
        clear m0 m1 m2 m3 m4 m5
        have hzq := qF.lt
        generalize w3.alloc (.cells #[.bool true, .int .i64 (j : Int)] 31) = w3a at *
        generalize w3.heap.size = gF at *
        refine (liftAway_any X X' x x' q true (j : Int) st (b : Int) w3a hO.vd ⟨by omega, by omega⟩ S3.rd).mono ?_
        unfold AwayOk
        cases ha : awayTo q (true, (j : Int)) (b : Int) with
        | none =>
          rintro e w4 ⟨B0, n0, d0, B1, n1, d1, rfl, b4⟩
          have hno := hide (dig_lost hfs.out (by rw [HUS.out]; exact HD.out ha))
          have bb := (S3.up b4).low
          clear ha
          go_wp2
          (try simp only [Exit.inBlock, Exit.then])
          refine bodyPost_ret (results_tmp2 rfl _ _ _) rfl ?_
          exact digOk_no hno.out (via bb (bel_two _ _ _) bb.size)
        | some t =>
          rintro e w4 ⟨Z, z, Z', z', rfl, oz, b4⟩
          have hOn : Ons (coilLift q ((true, (j : Int)), (t.1, (t.2 : Int)))).1 b (us.drop (k + 1)) := by rw [HY.out t ha]; exact HX.out t ha
          have HOn := hide hOn
          have HNn := hide (HE.out t ha)
          clear HD HE HX HY ha hOn
          simp only at *
          generalize (coilLift q ((true, (j : Int)), (t.1, (t.2 : Int)))).1 = r at *
          obtain ⟨tt, tk⟩ := t
          simp only at *
          have S4 := (S3.up b4).up (bel_two w4 (.cells #[.slice Z r.1.length z, .slice Z' r.2.length z'] 25) (.cells #[.bool true, .int .i64 (j : Int), .bool tt, .int .i64 (tk : Int)] 59))
          have qX := (Row.new w4 25 #[.slice Z r.1.length z, .slice Z' r.2.length z']).alloc (.cells #[.bool true, .int .i64 (j : Int), .bool tt, .int .i64 (tk : Int)] 59)
          have qL : Row ((w4.alloc (.cells #[.slice Z r.1.length z, .slice Z' r.2.length z'] 25)).alloc (.cells #[.bool true, .int .i64 (j : Int), .bool tt, .int .i64 (tk : Int)] 59)) (w4.heap.size + 1) 59 [.bool true, .int .i64 (j : Int), .bool tt, .int .i64 (tk : Int)] := (Row.new (w4.alloc (.cells #[.slice Z r.1.length z, .slice Z' r.2.length z'] 25)) 59 #[.bool true, .int .i64 (j : Int), .bool tt, .int .i64 (tk : Int)]).eq (by simp)
          have hz4 := b4.size
          have hz3l := S3.low.size
          have oz1 := ((oz.1.below (bel_two w4 (.cells #[.slice Z r.1.length z, .slice Z' r.2.length z'] 25) (.cells #[.bool true, .int .i64 (j : Int), .bool tt, .int .i64 (tk : Int)] 59)))).mono hz3l
          have oz2 := ((oz.2.1.below (bel_two w4 (.cells #[.slice Z r.1.length z, .slice Z' r.2.length z'] 25) (.cells #[.bool true, .int .i64 (j : Int), .bool tt, .int .i64 (tk : Int)] 59)))).mono hz3l
          have S5 := S4.setP (z := z) (z' := z') oz1 oz2
          have hgP : w.heap.size < w3a.heap.size := S3.bp.lt
          have qL5 := (qL.far (p := ⟨w.heap.size, 0, none⟩) (by simp only; omega) (.slice Z r.1.length z)).far (p := ⟨w.heap.size, 1, none⟩) (by simp only; omega) (.slice Z' r.2.length z')
          have f0 := S4.bp.frozen 0
          have f1 := S4.bp.frozen 1
          obtain ⟨m0, m1⟩ := S4.bp.boxed
          obtain ⟨m2, m3⟩ := qX.boxed
          obtain ⟨l0, l1, l2, l3⟩ := qL5.four
          have hsz : ((((w4.alloc (.cells #[.slice Z r.1.length z, .slice Z' r.2.length z'] 25)).alloc (.cells #[.bool true, .int .i64 (j : Int), .bool tt, .int .i64 (tk : Int)] 59)).setCell ⟨w.heap.size, 0, none⟩ (.slice Z r.1.length z)).setCell ⟨w.heap.size, 1, none⟩ (.slice Z' r.2.length z')).heap.size = w4.heap.size + 1 + 1 := by simp
          have S6 := S5.up (bel_one _ (.cells #[.bool true, .int .i64 (j : Int), .bool tt, .int .i64 (tk : Int)] 59))
          have rdn := (Row.new ((((w4.alloc (.cells #[.slice Z r.1.length z, .slice Z' r.2.length z'] 25)).alloc (.cells #[.bool true, .int .i64 (j : Int), .bool tt, .int .i64 (tk : Int)] 59)).setCell ⟨w.heap.size, 0, none⟩ (.slice Z r.1.length z)).setCell ⟨w.heap.size, 1, none⟩ (.slice Z' r.2.length z')) 59 #[.bool true, .int .i64 (j : Int), .bool tt, .int .i64 (tk : Int)])
          rw [hsz] at rdn
          have rdn' := rdn.rd
          clear S3 S4 S5 qX qL oz oz1 oz2 b4
          go_wp2_with (at_builtin; refine wpList_append_any liftElemT rfl _ _ rfl w.heap.size _ _ ls.length (lc ls) rfl S6.out (some ⟨w4.heap.size + 1 + 1, 0, none⟩) 1 1 rfl (lc [((true, (j : Int)), (tt, (tk : Int)))]) rfl rdn' (fun h => by cases h) (lc_oneT _) (by omega) (by omega) S6.low.size ?_; intro v9 w9 hap; have S9 := S6.app ((true, (j : Int)), (tt, (tk : Int))) hap; clear hap)
          go_roundw
          case rel => exact ⟨k + 1, r, Z, Z', z, z', ls ++ [((true, (j : Int)), (tt, (tk : Int)))], by omega, by go_num, by simp; omega, HOn, S9, HNn⟩
          case measure => first | (simp [intOf]; done) | (simp [intOf]; omega)
      · obtain rfl : k = us.length := by omega
        have hN := HN.out
        rw [List.drop_length] at hN
        have hfin := hide (dig_lifts hfs.out (by rw [HUS.out]; exact dig_done hN))
        obtain ⟨I9, c9, hv9, oO, _⟩ := own_room2 S.out
        have hlow := S.low
        subst hv9
        clear hN HN S
        go_wp2
        (try simp only [Exit.inBlock, Exit.then])
        refine bodyPost_ret (results_tmp2 rfl _ _ _) rfl ?_
        unfold DigOk
        rw [hfin.out]
        exact ⟨I9, c9, rfl, oO, hlow⟩
end Go.Proofs.YtpiiefmfiipabaaDoor
