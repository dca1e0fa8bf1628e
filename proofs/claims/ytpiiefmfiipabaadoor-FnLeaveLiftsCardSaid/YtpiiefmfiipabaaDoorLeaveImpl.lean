/- The program's LeaveAll. No conditions but bounds on lengths. -/
import Derived.Test.YtpiiefmfiipabaaDoorDigImpl
import Derived.Test.YtpiiefmfiipabaaDoorCoilTake
import Derived.Test.YtpiiefmfiipabaaDoorLeave
import Derived.Test.YtpiiefmfiipabaaDoorLiftRun
namespace Go.Proofs.YtpiiefmfiipabaaDoor
open Go.ChangeShapes Go.WideShapes Go.ChangeAt Go.RowKit Go.Deep
/-- A pile in a box of the call's own that is stored anew: its rows were there before the call, or are the call's own. -/
structure LvS (w wr : World) (gP : Nat) (q : PL) (X X' : Option Addr) (x x' : Nat) : Prop where
  bp : Row wr gP 25 [.slice X q.1.length x, .slice X' q.2.length x']
  x1 : RdE w wr X (ic q.1)
  x2 : RdE w wr X' (ic q.2)
  low : Below w.heap.size w wr
  lp : w.heap.size ≤ gP
section
variable {w wr w' : World} {gP : Nat} {q r : PL} {X X' Z Z' : Option Addr} {x x' z z' : Nat}
theorem LvS.rd (h : LvS w wr gP q X X' x x') : RdP wr wr.heap.size X X' q := ⟨h.x1.rd h.low.size, h.x2.rd h.low.size⟩
theorem LvS.up (h : LvS w wr gP q X X' x x') (hb : Below wr.heap.size wr w') : LvS w w' gP q X X' x x' :=
  ⟨h.bp.after hb, h.x1.up h.low.size hb, h.x2.up h.low.size hb, via h.low hb h.low.size, h.lp⟩
theorem own_set2 {B : Nat} {T T' : TypeId} {A : Option Addr} {xs ys : List Value} (h : Own wr B T A xs) (hx : Row wr gP T' ys) (hT : T ≠ T') (u v : Value) :
    Own ((wr.setCell ⟨gP, 0, none⟩ u).setCell ⟨gP, 1, none⟩ v) B T A xs :=
  own_setT (own_setT h (p := ⟨gP, 0, none⟩) hx hT u) (p := ⟨gP, 1, none⟩) (hx.set 0 u) hT v
theorem LvS.set (h : LvS w wr gP q X X' x x') (z1 : Own wr w.heap.size 3 Z (ic r.1)) (z2 : Own wr w.heap.size 3 Z' (ic r.2)) :
    LvS w ((wr.setCell ⟨gP, 0, none⟩ (.slice Z r.1.length z)).setCell ⟨gP, 1, none⟩ (.slice Z' r.2.length z')) gP r Z Z' z z' := by
  have h1 := h.lp
  have hx := h.bp
  have hx' := hx.set 0 (.slice Z r.1.length z)
  have T1 : 3 ≠ 25 := by decide
  refine ⟨?_, .inr (own_set2 z1 hx T1 _ _), .inr (own_set2 z2 hx T1 _ _), (h.low.setCell (by simp only; omega) _).setCell (by simp only; omega) _, h1⟩
  have := hx'.set 1 (.slice Z' r.2.length z')
  simpa using this
end
theorem leave_no {p : PL} {z : List Int} (h : leaveOk p z = false) : leaveAll p z = (-1, false) := by rw [leaveAll, h]; rfl
theorem leave_fail {p q : PL} {u : Int} {r z : List Int} {n : Nat} (ho : leaveOk p z = true) (h : leaveN p z = (leaveN q (u :: r)).map (· + n)) (hd : (digLifts q u).2 = false) : leaveAll p z = (-1, false) := by
  rw [leaveAll, if_pos ho, h, leaveN, hd]; rfl
theorem leave_step {p q : PL} {u : Int} {r z : List Int} {n : Nat} (h : leaveN p z = (leaveN q (u :: r)).map (· + n)) (hd : (digLifts q u).2 = true) :
    leaveN p z = (leaveN (coilTake (liftN q (digLifts q u).1).1 (findV (liftN q (digLifts q u).1).1 u).1 (findV (liftN q (digLifts q u).1).1 u).2).1 r).map (· + (n + (digLifts q u).1.length)) := by
  rw [h, leaveN, if_pos hd, Option.map_map]
  congr 1
  funext x
  simp only [Function.comp]
  omega
theorem leave_done {p q : PL} {z : List Int} {n : Nat} (ho : leaveOk p z = true) (h : leaveN p z = (leaveN q []).map (· + n)) : leaveAll p z = ((n : Int), true) := by
  rw [leaveAll, if_pos ho, h, leaveN]; simp
theorem liftN_next {q r : PL} {l : LF} {t : List LF} {m : Nat} {ls : List LF} (h : liftN q ls = ((liftN r (l :: t)).1, m + (liftN r (l :: t)).2)) (hm : ls.length = m + 1 + t.length) (hn : (liftN q ls).2 = ls.length) :
    liftN q ls = ((liftN (coilLift r l).1 t).1, m + 1 + (liftN (coilLift r l).1 t).2) := by
  refine run_on h ?_
  cases hf : (coilLift r l).2
  · have := run_stop h hf
    rw [this] at hn
    simp only at hn
    omega
  · rfl
set_option linter.unusedSimpArgs false in
set_option linter.unusedVariables false in
set_option maxHeartbeats 4000000 in
set_option maxRecDepth 100000 in
theorem leaveAll_any (A A' B : Option Addr) (c c' d : Nat) (p : PL) (z : List Int) (w : World) (hp : small p) (hz : z.length ≤ 1099511627776) (hd : z.length ≤ d) (rp : RdP w w.heap.size A A' p) (rz : Rd w w.heap.size B (ic z)) :
    Calls Tryd.prog 57 #[.agg #[.slice A p.1.length c, .slice A' p.2.length c'], .slice B z.length d] w fun e w' => e = .returned (.tuple #[.int .i64 (leaveAll p z).1, .bool (leaveAll p z).2]) ∧ Below w.heap.size w w' := by
  go_enter Tryd.func57, Tryd.ntmps57
  go_wp2_with fail
  have q0 := Row.new w 25 #[.slice A p.1.length c, .slice A' p.2.length c']
  have b0 := bel_one w (.cells #[.slice A p.1.length c, .slice A' p.2.length c'] 25)
  have rp0 := rp.up b0
  have rz0 := rz.up b0
  have x10 : RdE w (w.alloc (.cells #[.slice A p.1.length c, .slice A' p.2.length c'] 25)) A (ic p.1) := .inl (rp.1.below b0)
  have x20 : RdE w (w.alloc (.cells #[.slice A p.1.length c, .slice A' p.2.length c'] 25)) A' (ic p.2) := .inl (rp.2.below b0)
  have mm := q0.boxed
  generalize w.alloc (.cells #[.slice A p.1.length c, .slice A' p.2.length c'] 25) = w0 at *
  refine (leaveOk_any A A' B c c' d p z w0 hp hz hd rp0 rz0).mono ?_
  rintro e w1 ⟨rfl, b1⟩
  cases hok : leaveOk p z
  · have hno := hide (leave_no hok)
    have bb := via b0 b1 b0.size
    clear hok
    go_wp2
    go_returns
    rw [hno.out]
    exact ⟨rfl, bb⟩
  · have S : LvS w w1 w.heap.size p A A' c c' := (LvS.mk q0 x10 x20 b0 (Nat.le_refl _)).up b1
    have hlen := leaveOk_len hok
    have V := (leaveOk_all.1 hok).1
    have HK := hide hok
    have HN : Hid (leaveN p z = (leaveN p (z.drop 0)).map (· + 0)) := hide (by simp)
    clear hok q0 x10 x20 b0 b1 rp0 rz0 mm
    go_wp2_with fail
    go_loopw [6, 21] (fun n0 i wr => ∃ (k n : Nat) (q : PL) (X X' : Option Addr) (x x' : Nat), k ≤ z.length ∧ i = .int .i64 k ∧ n0 = .int .i64 (n : Nat) ∧ n ≤ 2 * k ∧ Vd q ∧ LvS w wr w.heap.size q X X' x x' ∧ Hid (leaveN p z = (leaveN q (z.drop k)).map (· + n))) (fun _ i _ => z.length - (intOf i).toNat)
    case atStart => exact ⟨0, 0, p, A, A', c, c', Nat.zero_le _, rfl, rfl, Nat.le_refl _, V, S, HN⟩
    case round =>
      clear S HN V
      obtain ⟨k, n, q, X, X', x, x', hk, rfl, rfl, hnk, V, S, HN⟩ := hrel
      by_cases hlt : k < z.length
      · have hN := HN.out
        rw [List.drop_eq_getElem_cons hlt] at hN
        obtain ⟨bz, oz, rfl, _, hcz⟩ := (rz.below S.low).int hlt
        generalize z[k] = u at *
        have HD := hide (fun w rq => digLifts_any X X' x x' q u w (small_vd V) rq)
        unfold DigOk at HD
        have HF := hide (fun h => leave_fail HK.out hN h)
        have HO := hide (fun h => leave_step hN h)
        have HQ := hide (fun h => dig_out (p := q) (id := u) h)
        generalize digLifts q u = rv at *
        obtain ⟨ls, ok⟩ := rv
        simp only at *
        obtain ⟨m0, m1⟩ := S.bp.boxed
        have hz1 := S.low.size
        have i0 : (0 : Int) ≤ (k : Int) := by omega
        have i1 : (k : Int) < (z.length : Int) := by omega
        clear hN HN
        go_wp2_with fail
        refine (HD.out wr S.rd).mono ?_
        rintro e w3 ⟨I, ci, rfl, oI, b3⟩
        replace S := S.up b3
        replace oI := oI.mono hz1
        clear HD m0 m1 hcz b3 hz1
        cases ok
        · have hno := hide (HF.out rfl)
          have bb := S.low
          clear HF HO HQ
          go_wp2
          (try simp only [Exit.inBlock, Exit.then])
          refine bodyPost_ret (results_tmp2 rfl _ _ _) rfl ?_
          rw [hno.out]
          exact ⟨rfl, bb⟩
        · obtain ⟨s0, V1, V2, hn, hl2, hfs, _, hid, hu1, ht⟩ := HQ.out rfl
          have HNn := hide (HO.out rfl)
          have HVN : Hid (Vd (coilTake (liftN q ls).1 (findV (liftN q ls).1 u).1 (findV (liftN q ls).1 u).2).1) := hide (take_vd V2 _ _)
          have HL : Hid (liftN q ls = ((liftN q (ls.drop 0)).1, 0 + (liftN q (ls.drop 0)).2)) := hide (by simp)
          have Hn := hide hn
          have hfi : (coilFind (liftN q ls).1 u).isSome = true := by rw [hfs]; rfl
          have HFI := hide hfi
          clear HF HO HQ hn hfs hid ht hfi
          go_wp2_with fail
          go_loopw [35] (fun j wr => ∃ (m : Nat) (r : PL) (Y Y' : Option Addr) (y y' : Nat), m ≤ ls.length ∧ j = .int .i64 m ∧ Vd r ∧ LvS w wr w.heap.size r Y Y' y y' ∧ Own wr w.heap.size 59 I (lc ls) ∧ Hid (liftN q ls = ((liftN r (ls.drop m)).1, m + (liftN r (ls.drop m)).2))) (fun j _ => ls.length - (intOf j).toNat)
          case atStart => exact ⟨0, q, X, X', x, x', Nat.zero_le _, rfl, V, S, oI, HL⟩
          case round =>
            clear S oI HL V1
            obtain ⟨m, r, Y, Y', y, y', hm, rfl, VR, S, oI, HL⟩ := hrel
            by_cases hlm : m < ls.length
            · obtain ⟨bl, ol, rfl, _, c0, c1, c2, c3⟩ := oI.rd.lift hlm
              have hL := HL.out
              rw [List.drop_eq_getElem_cons hlm] at hL
              have hLn := liftN_next hL (by rw [List.length_drop]; omega) Hn.out
              generalize ls[m] = l at *
              obtain ⟨⟨a, b⟩, ⟨s, t⟩⟩ := l
              have VR' := lift_vd VR ((a, b), (s, t))
              have HC := hide (fun w rq => coilLift_any Y Y' y y' r a b s t w (small_vd VR) rq)
              generalize hr : coilLift r ((a, b), (s, t)) = rr at *
              obtain ⟨r', ok'⟩ := rr
              have HLn := hide hLn
              simp only at VR' HLn HC
              obtain ⟨m0, m1⟩ := (S.bp.alloc (.cells #[.bool a, .int .i64 b, .bool s, .int .i64 t] 59)).boxed
              have i2 : (0 : Int) ≤ (m : Int) := by omega
              have i3 : (m : Int) < (ls.length : Int) := by omega
              clear hL HL hLn hr
              go_wp2_with fail
              clear m0 m1 c0 c1 c2 c3
              replace S := S.up (bel_one wr (.cells #[.bool a, .int .i64 b, .bool s, .int .i64 t] 59))
              replace oI := oI.below (bel_one wr (.cells #[.bool a, .int .i64 b, .bool s, .int .i64 t] 59))
              have hz1 := S.low.size
              generalize wr.alloc (.cells #[.bool a, .int .i64 b, .bool s, .int .i64 t] 59) = w4 at *
              refine (HC.out w4 S.rd).mono ?_
              rintro e w5 ⟨J, cj, J', cj', rfl, oJ, b5⟩
              replace S := S.up b5
              replace oI := oI.below b5
              have oJ1 := oJ.1.mono hz1
              have oJ2 := oJ.2.1.mono hz1
              obtain ⟨m0, m1⟩ := S.bp.boxed
              have f0 := S.bp.frozen 0
              have f1 := S.bp.frozen 1
              have S2 := S.set (z := cj) (z' := cj') oJ1 oJ2
              have oI2 := own_set2 oI S.bp (by decide) (.slice J r'.1.length cj) (.slice J' r'.2.length cj')
              clear HC oJ b5 oI oJ1 oJ2
              go_wp2_with fail
              go_roundw
              case rel => exact ⟨m + 1, r', J, J', cj, cj', by omega, by go_num, VR', S2, oI2, HLn⟩
              case measure => first | (simp [intOf]; done) | (simp [intOf]; omega)
            · obtain rfl : m = ls.length := by omega
              have hL := HL.out
              rw [List.drop_length] at hL
              have hr : (liftN q ls).1 = r := by rw [hL]; rfl
              have HNn := hide HNn.out
              rw [hr] at HNn HVN HFI
              have HCF := hide (fun w rq => coilFind_any Y Y' y y' r u w (small_vd VR) rq)
              unfold SpotOk at HCF
              rw [HFI.out] at HCF
              generalize findV r u = sv at *
              obtain ⟨st, sk⟩ := sv
              simp only at HCF HNn HVN
              have HCT := hide (fun w rq => coilTake_any Y Y' y y' r st sk w (small_vd VR) rq)
              generalize coilTake r st sk = tv at *
              obtain ⟨r', un⟩ := tv
              simp only at HCT HNn HVN
              obtain ⟨m0, m1⟩ := S.bp.boxed
              clear hL HL hr HFI
              go_wp2_with fail
              refine (HCF.out wr S.rd).mono ?_
              rintro e w4 ⟨rfl, b4⟩
              replace S := (S.up b4).up (bel_one w4 (.cells #[.bool st, .int .i64 sk] 31))
              have qS := Row.new w4 31 #[.bool st, .int .i64 sk]
              clear m0 m1 HCF b4 oI
              obtain ⟨m0, m1⟩ := S.bp.boxed
              obtain ⟨m2, m3⟩ := qS.boxed
              have hz1 := S.low.size
              go_wp2_with fail
              clear m0 m1 m2 m3
              generalize w4.alloc (.cells #[.bool st, .int .i64 sk] 31) = w5 at *
              refine (HCT.out w5 S.rd).mono ?_
              rintro e w6 ⟨J, cj, J', cj', rfl, oJ, b6⟩
              replace S := S.up b6
              have oJ1 := oJ.1.mono hz1
              have oJ2 := oJ.2.1.mono hz1
              obtain ⟨m0, m1⟩ := S.bp.boxed
              have f0 := S.bp.frozen 0
              have f1 := S.bp.frozen 1
              have S2 := S.set (z := cj) (z' := cj') oJ1 oJ2
              clear HCT oJ b6 oJ1 oJ2
              go_wp2_with fail
              go_roundw
              case rel => exact ⟨k + 1, n + ls.length, r', J, J', cj, cj', by omega, by go_num, by go_num, by omega, HVN.out, S2, HNn⟩
              case measure => first | (simp [intOf]; done) | (simp [intOf]; omega)
      · obtain rfl : k = z.length := by omega
        have hN := HN.out
        rw [List.drop_length] at hN
        have hfin := hide (leave_done HK.out hN)
        have hlow := S.low
        clear hN HN S
        go_wp2
        (try simp only [Exit.inBlock, Exit.then])
        refine bodyPost_ret (results_tmp2 rfl _ _ _) rfl ?_
        rw [hfin.out]
        exact ⟨rfl, hlow⟩
end Go.Proofs.YtpiiefmfiipabaaDoor
