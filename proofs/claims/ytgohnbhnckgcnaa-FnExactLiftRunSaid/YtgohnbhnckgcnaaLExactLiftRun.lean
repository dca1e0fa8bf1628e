/- The program's LiftRun and the reference's agree: FnExactLiftRun returns true for every input. No conditions. -/
import Derived.Test.YtgohnbhnckgcnaaSeat
import Derived.Test.YtgohnbhnckgcnaaOps
import Derived.Test.YtgohnbhnckgcnaaOpsLifts
import Derived.Test.YtgohnbhnckgcnaaPileRes
import Derived.Test.YtgohnbhnckgcnaaLiftHeld
import Derived.Test.YtgohnbhnckgcnaaIntRes
namespace Go.Proofs.Ytgohnbhnckgcnaa
open Go.ChangeShapes Go.WideShapes Go.ChangeAt Go.RowKit Go.Deep
theorem szP_le {l : Int} {n n' : Nat} (hl : 0 ≤ l) : szP l n n' ≤ l := by
  unfold szP szI
  repeat' split
  all_goals omega
set_option maxHeartbeats 4000000 in
set_option maxRecDepth 100000 in
theorem w_FnExactLiftRun (w : World) (A A' : Option Addr) (c c' : Nat) (p : PL) (hk : p.1.length ≤ c) (hm : c ≤ maxLen) (hk' : p.2.length ≤ c') (hm' : c' ≤ maxLen) (rd : RdP w w.heap.size A A' p) (R : Option Addr) (d : Nat) (ls : List LF) (hkl : ls.length ≤ d) (hml : d ≤ maxLen) (rl : Rd w w.heap.size R (lc ls)) :
    Calls Try.prog 13 #[.agg #[.slice A p.1.length c, .slice A' p.2.length c'], .slice R ls.length d] w fun e w' => e = .returned (.bool true) ∧ Below w.heap.size w w' := by
  unfold maxLen at hm hm' hml
  generalize hL : szP 1048576 p.1.length p.2.length = M
  have HLL := hide hL
  have HS := hide (fun A A' L c c' d w hp hl rp rl => liftRun_spec A A' L c c' d p ls w hp hl rp rl)
  have HI := hide (fun A A' L c c' d w hp hl rp rl => liftRun_any A A' L c c' d p ls w hp hl rp rl)
  have HT := hide (tiny_run p ls)
  generalize liftRun p ls = rv at *
  obtain ⟨r, ok⟩ := rv
  go_enter Try.func13, Try.ntmps13
  go_wp2_with fail
  obtain ⟨b0, k0, k1, hz⟩ := box_one w 29 (.slice A p.1.length c) (.slice A' p.2.length c') _ rfl
  generalize w.alloc (.cells #[.slice A p.1.length c, .slice A' p.2.length c'] 29) = w0 at *
  have K0 := Ext.old k0
  have K1 := Ext.old k1
  clear k0 k1
  refine (szPile_any A A' c c' p.1.length p.2.length 1048576 w0 (by omega) (by omega) (by omega) (by omega)).mono ?_
  rintro e w1 ⟨rfl, hw1⟩
  rw [hL]
  obtain ⟨x1, rfl⟩ : ∃ y : Ext w0, w1 = y.val := ⟨⟨w1, hw1 ▸ bel_one _ _⟩, rfl⟩
  clear hw1 hL
  by_cases hn : M < 0
  · go_wp2
    go_ret
    exact ⟨rfl, via b0 (Ext.below _) b0.size⟩
  · have hn' : decide (M < 0) = false := decide_eq_false hn
    have hpz := szP_pos (l := 1048576) (n := p.1.length) (n' := p.2.length) (by omega) (by rw [HLL.out]; exact hn)
    have hM := szP_le (l := 1048576) (n := p.1.length) (n' := p.2.length) (by omega)
    rw [HLL.out] at hM
    have hp : small p := ⟨by omega, by omega⟩
    by_cases h2 : M < (ls.length : Int)
    · have t0 : decide (szL M ls.length < 0) = true := by rw [szL, if_pos h2]; rfl
      go_wp2_with (go_at_call 49; refine (szLiftS_any R ls.length d M _ (by omega) (by omega) (by omega)).mono ?_; rintro e w' ⟨rfl, rfl⟩)
      go_ret
      exact ⟨rfl, via b0 (Ext.below _) b0.size⟩
    · have t0 : decide (szL M ls.length < 0) = false := by rw [szL, if_neg h2]; simp; omega
      have hr := HT.out.small
      have hr1 : r.1.length ≤ 6 := HT.out.1
      have hr2 : r.2.length ≤ 6 := HT.out.2
      have rp0 := rd.up b0
      have rl0 := rl.up b0
      have hls : ls.length ≤ 1048576 := by omega
      go_wp2_with (go_at_call 49; refine (szLiftS_any R ls.length d M _ (by omega) (by omega) (by omega)).mono ?_; rintro e w' ⟨rfl, rfl⟩)
      refine (toPile_any A A' c c' p x1.val hp (rp0.up x1.below)).mono ?_
      rintro e w2 ⟨Z, z, Z', z', rfl, o2, b2⟩
      obtain ⟨x2, rfl⟩ := ext_any x1.below b2 x1.below.size
      go_wp2_with fail
      refine (toLiftS_any R d ls x2.val (by omega) (rl0.up x2.below)).mono ?_
      rintro e w3 ⟨rfl, q3, b3⟩
      obtain ⟨x3, rfl⟩ := ext_any x2.below b3 x2.below.size
      go_wp2_with fail
      refine (HS.out Z Z' _ z z' _ _ hp (by omega) (o2.rd.up b3) (q3.rd)).mono ?_
      rintro e w4 ⟨X, x, X', x', rfl, o4, b4⟩
      obtain ⟨x4, rfl⟩ := ext_any x3.below b4 x3.below.size
      have m0 := cell_in (x4.below.alloc x4.below.size (.cells #[.slice X r.1.length x, .slice X' r.2.length x'] 24)) K0
      have m1 := cell_in (x4.below.alloc x4.below.size (.cells #[.slice X r.1.length x, .slice X' r.2.length x'] 24)) K1
      have z34 := x3.below.size
      have qW := Row.new x4.val 24 #[.slice X r.1.length x, .slice X' r.2.length x']
      have oW := (o4.below (bel_one x4.val (.cells #[.slice X r.1.length x, .slice X' r.2.length x'] 24))).mono z34
      go_wp2_with fail
      clear m0 m1
      clear o4 b4 o2 q3 b3
      have bxW := x4.below.alloc x4.below.size (.cells #[.slice X r.1.length x, .slice X' r.2.length x'] 24)
      have hgW0 := x4.below.size
      generalize x4.val.alloc (.cells #[.slice X r.1.length x, .slice X' r.2.length x'] 24) = wW at *
      generalize x4.val.heap.size = gW at *
      obtain ⟨xW, rfl⟩ : ∃ u : Ext w0, wW = u.val := ⟨⟨_, bxW⟩, rfl⟩
      refine (toPile_any A A' c c' p xW.val hp (rp0.up xW.below)).mono ?_
      rintro e w5 ⟨Y, y, Y', y', rfl, oY, b5⟩
      have hWA := qW.lt
      have z0A := xW.below.size
      have lY := oY.lt
      have zA5 := b5.size
      have qY := Row.new w5 24 #[.slice Y p.1.length y, .slice Y' p.2.length y']
      have d5 := bel_one w5 (.cells #[.slice Y p.1.length y, .slice Y' p.2.length y'] 24)
      have qWb := (qW.after b5).after d5
      have oYb := oY.below d5
      have oWb := (oW.rd.below b5).below (d5.mono zA5)
      have b6 : Below w0.heap.size w0 (w5.alloc (.cells #[.slice Y p.1.length y, .slice Y' p.2.length y'] 24)) := via (via xW.below b5 z0A) d5 (by omega)
      have z56 := qY.lt
      have j0 := cell_in b6 K0
      have j1 := cell_in b6 K1
      go_wp2_with fail
      clear j0 j1
      generalize w5.alloc (.cells #[.slice Y p.1.length y, .slice Y' p.2.length y'] 24) = w6 at *
      generalize w5.heap.size = gY at *
      generalize xW.val.heap.size = hA at *
      have bw6 := via b0 b6 b0.size
      replace K0 := ext_lift b6 K0
      replace K1 := ext_lift b6 K1
      have rp6 := rp0.up b6
      have rl6 := rl0.up b6
      refine (toLiftS_any R d ls w6 (by omega) rl6).mono ?_
      rintro e w9 ⟨rfl, qM, b9⟩
      have z69 := qM.lt
      have oM0 : Own w9 w6.heap.size 60 (some ⟨w6.heap.size, 0, none⟩) (lc ls) := qM.own (Nat.le_refl _)
      have qY9 := qY.after b9
      have oY9 := oYb.below (b9.mono (by omega))
      have qW9 := qWb.after b9
      have oW9 := oWb.below (b9.mono (by omega))
      have rp9 := rp6.up b9
      have rl9 := rl6.up b9
      have bw9 := via bw6 b9 bw6.size
      replace K0 := ext_lift b9 K0
      replace K1 := ext_lift b9 K1
      obtain ⟨j4, j5⟩ := qY9.boxed
      clear d5 oY b5 oW qW qWb oWb qY oYb
      go_wp2_with fail
      clear j4 j5
      refine (HI.out Y Y' (some ⟨w6.heap.size, 0, none⟩) y y' ls.length w9 hp (by omega) oY9.rd qM.rd).mono ?_
      rintro e w10 ⟨G, g, G', g', rfl, oG0, b10⟩
      have z910 := b10.size
      have d10 := bel_one w10 (.cells #[.slice G r.1.length g, .slice G' r.2.length g'] 24)
      have qG := Row.new w10 24 #[.slice G r.1.length g, .slice G' r.2.length g']
      have lG0 := oG0.lt
      have dG : ∀ b, (ownB G (ic r.1) = some b ∨ ownB G' (ic r.2) = some b) → b ≠ w10.heap.size := fun b hb => by have := lG0 b hb; omega
      have oG := oG0.below d10
      have b7 : Below w9.heap.size w9 (w10.alloc (.cells #[.slice G r.1.length g, .slice G' r.2.length g'] 24)) := via b10 d10 z910
      have qWc := qW9.after b7
      have qYc := qY9.after b7
      have oYc := oY9.below (b7.mono (by omega))
      have oWc := oW9.below (b7.mono (by omega))
      have oM := oM0.below b7
      have bw7 := via bw9 b7 bw9.size
      have rp7 := rp9.up b7
      have rl7 := rl9.up b7
      have z67 := b7.size
      obtain ⟨j0, j1⟩ := qG.boxed
      obtain ⟨j2, j3⟩ := qWc.boxed
      go_wp2_with fail
      clear j0 j1 j2 j3
      clear d10 oG0 b10 lG0 qM oM0
      generalize w10.alloc (.cells #[.slice G r.1.length g, .slice G' r.2.length g'] 24) = w7 at *
      generalize w10.heap.size = gG at *
      replace K0 := ext_lift b7 K0
      replace K1 := ext_lift b7 K1
      obtain ⟨K4, K5, _, _⟩ := qYc.ext2
      obtain ⟨K6, K7, _, _⟩ := qWc.ext2
      obtain ⟨KG, KH, _, _⟩ := qG.ext2
      have oGr := oG.rd
      have oWr := oWc.mono (B' := w7.heap.size) (by omega)
      have oYr := oYc.rd
      have oMr := oM.rd
      obtain ⟨x7, hx7⟩ := ext_self w7
      rw [← hx7]
      clear hx7
      have tt := bne_int (ok : Int)
      go_wp2_with (go_at_call 19; refine (eqPile_same G G' X X' g g' x x' r _ hr ?_ ?_).mono ?_; exact oGr.up (by first | exact Ext.below _ | exact (Ext.below _).drew | exact (Ext.below _).alloc (Ext.below _).size _ | exact ((Ext.below _).alloc (Ext.below _).size _).drew); exact oWr.up (by first | exact Ext.below _ | exact (Ext.below _).drew | exact (Ext.below _).alloc (Ext.below _).size _ | exact ((Ext.below _).alloc (Ext.below _).size _).drew); rintro e wq ⟨rfl, bq⟩; obtain ⟨xq, rfl⟩ := ext_any (by first | exact Ext.below _ | exact (Ext.below _).drew | exact (Ext.below _).alloc (Ext.below _).size _ | exact ((Ext.below _).alloc (Ext.below _).size _).drew) bq (by first | exact (Ext.below _).size | exact ((Ext.below _).alloc (Ext.below _).size _).size); clear bq)
      go_region_held3 (fun w' => (w'.cell? ⟨gY, 0, none⟩ = some (.slice Y p.1.length y)) ∧ (w'.cell? ⟨gY, 1, none⟩ = some (.slice Y' p.2.length y')) ∧ (w'.cell? ⟨w.heap.size, 0, none⟩ = some (.slice A p.1.length c)) ∧ w'.cell? ⟨w.heap.size, 1, none⟩ = some (.slice A' p.2.length c'))
        (refine ⟨?_, ?_, ?_, ?_⟩ <;> with_reducible first | exact K4 _ | exact K5 _ | exact K0 _ | exact K1 _ | exact cell_in (Ext.below _).drew K4 | exact cell_in (Ext.below _).drew K5 | exact cell_in (Ext.below _).drew K0 | exact cell_in (Ext.below _).drew K1 | exact cell_in ((Ext.below _).alloc (Ext.below _).size _) K4 | exact cell_in ((Ext.below _).alloc (Ext.below _).size _) K5 | exact cell_in ((Ext.below _).alloc (Ext.below _).size _) K0 | exact cell_in ((Ext.below _).alloc (Ext.below _).size _) K1 | exact cell_in ((Ext.below _).alloc (Ext.below _).size _).drew K4 | exact cell_in ((Ext.below _).alloc (Ext.below _).size _).drew K5 | exact cell_in ((Ext.below _).alloc (Ext.below _).size _).drew K0 | exact cell_in ((Ext.below _).alloc (Ext.below _).size _).drew K1 | exact cell_in (((Ext.below _).setCell (Ext.below _).size _).setCell (Ext.below _).size _) K4 | exact cell_in (((Ext.below _).setCell (Ext.below _).size _).setCell (Ext.below _).size _) K5 | exact cell_in (((Ext.below _).setCell (Ext.below _).size _).setCell (Ext.below _).size _) K0 | exact cell_in (((Ext.below _).setCell (Ext.below _).size _).setCell (Ext.below _).size _) K1)
        (first
          | (go_at_call 24; refine (toPile_any A A' c c' p _ hp ?_).mono ?_; exact rp7.up (by first | exact Ext.below _ | exact (Ext.below _).drew | exact (Ext.below _).alloc (Ext.below _).size _ | exact ((Ext.below _).alloc (Ext.below _).size _).drew); rintro e w2 ⟨Z, z, Z', z', rfl, o2, b2⟩; obtain ⟨x2, rfl⟩ := ext_any (by first | exact Ext.below _ | exact (Ext.below _).drew | exact (Ext.below _).alloc (Ext.below _).size _ | exact ((Ext.below _).alloc (Ext.below _).size _).drew) b2 (by first | exact (Ext.below _).size | exact ((Ext.below _).alloc (Ext.below _).size _).size))
          | (go_at_call 19; refine (eqPile_same Y Y' Z Z' y y' z z' p _ hp ?_ ?_).mono ?_; exact oYr.up (by first | exact Ext.below _ | exact (Ext.below _).drew | exact (Ext.below _).alloc (Ext.below _).size _ | exact ((Ext.below _).alloc (Ext.below _).size _).drew); exact o2.rd; rintro e wa ⟨rfl, ba⟩; obtain ⟨xa, rfl⟩ := ext_any (by first | exact Ext.below _ | exact (Ext.below _).drew | exact (Ext.below _).alloc (Ext.below _).size _ | exact ((Ext.below _).alloc (Ext.below _).size _).drew) ba (by first | exact (Ext.below _).size | exact ((Ext.below _).alloc (Ext.below _).size _).size)))
      all_goals
        go_wp2_with fail
        refine (toLiftS_any R d ls xa.val (by omega) (rl7.up xa.below)).mono ?_
        rintro e wb ⟨rfl, qb, bb⟩
        obtain ⟨xb, rfl⟩ := ext_any xa.below bb xa.below.size
        go_wp2_with fail
        refine (eqLiftS_any (some ⟨w6.heap.size, 0, none⟩) _ ls.length ls.length ls xb.val (by omega) (oMr.up xb.below) qb.rd).mono ?_
        rintro e wc ⟨rfl, bc⟩
        obtain ⟨xc, rfl⟩ := ext_any xb.below bc xb.below.size
        have j4 := K4 xc
        have j5 := K5 xc
        go_wp2_with fail
        clear j4 j5
        refine (markPile_any Y Y' y y' hA p 1 xc.val hp (by omega) (by omega) (by omega) (oYc.below (xc.below.mono (by omega)))).mono ?_
        rintro e w11 ⟨rfl, _, t11⟩
        have zxa := xc.below.size
        have bb11 := t11.below (B := hA) (fun g hg => (lY g hg).1) (by omega)
        have bw11 := (via bw7 xc.below bw7.size).trans (bb11.mono (by omega))
        have qG11 := (qG.after xc.below).turned t11 (fun e => by have := lY _ (.inl e); omega) (fun e => by have := lY _ (.inr e); omega)
        have oG11 := (oG.below (xc.below.mono (by omega))).turned t11 (fun g hg e => by have := lY g (.inl e); omega) (fun g hg e => by have := lY g (.inr e); omega)
        have oM11 := own_turned (oM.below (xc.below.mono (by omega))) t11 (fun g hg e => by have := lY g (.inl e); omega) (fun g hg e => by have := lY g (.inr e); omega)
        have oW11 := (oWc.below (xc.below.mono (by omega))).below bb11
        have z711 := bb11.size
        have qW11 : Row w11 gW 24 [.slice X r.1.length x, .slice X' r.2.length x'] := (qWc.after xc.below).turned t11 (fun e => by have := lY _ (.inl e); omega) (fun e => by have := lY _ (.inr e); omega)
        have hgp : (ic r.1).length ≤ 6 ∧ (ic r.2).length ≤ 6 := ⟨by rw [ic_len]; exact hr1, by rw [ic_len]; exact hr2⟩
        replace K0 := Ext.old (later bb11 (by simp only; omega) (K0 xc))
        replace K1 := Ext.old (later bb11 (by simp only; omega) (K1 xc))
        clear K4 K5 KG KH oGr oWr oYr oMr K6 K7
        have e12 : (1 : Int) + (p.1.length : Int) + (p.2.length : Int) ≤ 1099511627776 := by omega
        have e13 : (0 : Int) ≤ 1 + (p.1.length : Int) + (p.2.length : Int) := by omega
        go_wp2_with fail
        refine (markLiftS_own (some ⟨w6.heap.size, 0, none⟩) ls.length w6.heap.size ls _ w11 hls e13 e12 oM11).mono ?_
        rintro e w12 ⟨rfl, oM12, g12⟩
        have hMb : ∀ b, ownB (some ⟨w6.heap.size, 0, none⟩) (lc ls) = some b → b = w6.heap.size := by
          intro b hb
          obtain ⟨_, a, ha, rfl⟩ := ownB_some hb
          cases ha; rfl
        have bb12 := oM11.mark_below (by omega) g12
        have bw12 := bw11.trans (bb12.mono (by omega))
        have qG12 := qG11.kept g12 (fun e => by have := hMb _ (by first | exact e | exact e.symm); omega)
        have oG12 := oG11.keep g12 (fun g' hg' e => by have := hMb _ (by first | exact e | exact e.symm); omega)
        have oW12 := oW11.below (bb12.mono (by omega))
        have qW12 := qW11.kept g12 (fun e => by have := hMb _ (by first | exact e | exact e.symm); omega)
        have z1112 := bb12.size
        replace K0 := Ext.old (later bb12 (by simp only; omega) (K0 (Ext.base w11)))
        replace K1 := Ext.old (later bb12 (by simp only; omega) (K1 (Ext.base w11)))
        have rp12 := rd.up bw12
        have rl12 := rl.up bw12
        obtain ⟨KG, KH, _, _⟩ := qG12.ext2
        obtain ⟨K6, K7, _, _⟩ := qW12.ext2
        have oGr := oG12.rd
        have oWr := oW12.mono (B' := w12.heap.size) (by omega)
        have t0 : decide (1 + (p.1.length : Int) + (p.2.length : Int) + 4 * (ls.length : Int) < 0) = false := by rw [decide_eq_false_iff_not]; omega
        obtain ⟨x12, hx12⟩ := ext_self w12
        rw [← hx12]
        clear hx12
        go_wp2_with (go_at_call 19; refine (eqPile_same G G' X X' g g' x x' r _ hr ?_ ?_).mono ?_; exact oGr.up (by first | exact Ext.below _ | exact (Ext.below _).drew | exact (Ext.below _).alloc (Ext.below _).size _ | exact ((Ext.below _).alloc (Ext.below _).size _).drew); exact oWr.up (by first | exact Ext.below _ | exact (Ext.below _).drew | exact (Ext.below _).alloc (Ext.below _).size _ | exact ((Ext.below _).alloc (Ext.below _).size _).drew); rintro e wq ⟨rfl, bq⟩; obtain ⟨xq, rfl⟩ := ext_any (by first | exact Ext.below _ | exact (Ext.below _).drew | exact (Ext.below _).alloc (Ext.below _).size _ | exact ((Ext.below _).alloc (Ext.below _).size _).drew) bq (by first | exact (Ext.below _).size | exact ((Ext.below _).alloc (Ext.below _).size _).size); clear bq)
        refine (markPile_any G G' g g' w9.heap.size r 1 xq.val hr (by omega) (by omega) (by omega) (oG12.below (xq.below.mono (by omega)))).mono ?_
        rintro e w13 ⟨rfl, oG13, t13⟩
        have zxq := xq.below.size
        have lG := oG12.lt
        have bb13 := Turned.below (B := w9.heap.size) t13 (fun g hg => (lG g hg).1) (by omega)
        have bw13 := (via bw12 xq.below bw12.size).trans (bb13.mono (by omega))
        have rp13 := rd.up bw13
        have rl13 := rl.up bw13
        have qG13 := (qG12.after xq.below).turned t13 (fun e => dG gG (.inl e) rfl) (fun e => dG gG (.inr e) rfl)
        have oW13 := (oW12.below (xq.below.mono (by omega))).below (bb13.mono (by omega))
        have qW13 : Row w13 gW 24 [.slice X r.1.length x, .slice X' r.2.length x'] := (qW12.after xq.below).turned t13 (fun e => by have := lG _ (.inl e); omega) (fun e => by have := lG _ (.inr e); omega)
        have z13 := bb13.size
        replace K0 := Ext.old (later bb13 (by simp only; omega) (K0 xq))
        replace K1 := Ext.old (later bb13 (by simp only; omega) (K1 xq))
        clear KG KH K6 K7 oGr oWr t0
        obtain ⟨KG, KH, _, _⟩ := qG13.ext2
        obtain ⟨K6, K7, _, _⟩ := qW13.ext2
        have oWr := oW13.mono (B' := w13.heap.size) (by omega)
        have oGr := oG13.rd
        have t1 : decide (1 + (r.1.length : Int) + (r.2.length : Int) < 0) = false := by rw [decide_eq_false_iff_not]; omega
        have t2 := bne_int (1 + (r.1.length : Int) + (r.2.length : Int))
        obtain ⟨x13, hx13⟩ := ext_self w13
        rw [← hx13]
        clear hx13
        go_wp2_with (go_at_call 21; refine (heldPile_ext G G' g g' r.1.length r.2.length 1 _ (by omega) (by omega) (by omega) (by omega) ?_).mono ?_; exact oGr.up (Ext.below _); rintro e wh ⟨rfl, bh⟩; obtain ⟨xh, rfl⟩ := ext_any (by first | exact Ext.below _ | exact (Ext.below _).drew | exact (Ext.below _).alloc (Ext.below _).size _ | exact ((Ext.below _).alloc (Ext.below _).size _).drew) bh (by first | exact (Ext.below _).size | exact ((Ext.below _).alloc (Ext.below _).size _).size); clear bh)
        refine (toPile_any A A' c c' p _ hp (rp13.up (by first | exact Ext.below _ | exact (Ext.below _).drew | exact (Ext.below _).alloc (Ext.below _).size _ | exact ((Ext.below _).alloc (Ext.below _).size _).drew))).mono ?_
        rintro e w2 ⟨Z9, z9, Z9', z9', rfl, o2, b2⟩
        obtain ⟨x2', rfl⟩ := ext_any (by first | exact Ext.below _ | exact (Ext.below _).drew | exact (Ext.below _).alloc (Ext.below _).size _ | exact ((Ext.below _).alloc (Ext.below _).size _).drew) b2 (by first | exact (Ext.below _).size | exact ((Ext.below _).alloc (Ext.below _).size _).size)
        go_wp2_with fail
        refine (toLiftS_any R d ls _ (by omega) (rl13.up (by first | exact Ext.below _ | exact (Ext.below _).drew | exact (Ext.below _).alloc (Ext.below _).size _ | exact ((Ext.below _).alloc (Ext.below _).size _).drew))).mono ?_
        rintro e w3 ⟨rfl, q3, b3⟩
        have o2r := o2.rd.up b3
        obtain ⟨x3', rfl⟩ := ext_any (by first | exact Ext.below _ | exact (Ext.below _).drew | exact (Ext.below _).alloc (Ext.below _).size _ | exact ((Ext.below _).alloc (Ext.below _).size _).drew) b3 (by first | exact (Ext.below _).size | exact ((Ext.below _).alloc (Ext.below _).size _).size)
        go_wp2_with fail
        refine (HI.out Z9 Z9' _ z9 z9' _ _ hp (by omega) o2r q3.rd).mono ?_
        rintro e w4 ⟨H, h, H', h', rfl, oH, b4⟩
        obtain ⟨x4', rfl⟩ := ext_any (by first | exact Ext.below _ | exact (Ext.below _).drew | exact (Ext.below _).alloc (Ext.below _).size _ | exact ((Ext.below _).alloc (Ext.below _).size _).drew) b4 (by first | exact (Ext.below _).size | exact ((Ext.below _).alloc (Ext.below _).size _).size)
        have qH := Row.new x4'.val 24 #[.slice H r.1.length h, .slice H' r.2.length h']
        have b14 : Below w13.heap.size w13 (x4'.val.alloc (.cells #[.slice H r.1.length h, .slice H' r.2.length h'] 24)) := x4'.below.alloc x4'.below.size _
        have oHr := (oH.below (bel_one x4'.val (.cells #[.slice H r.1.length h, .slice H' r.2.length h'] 24))).rd
        have qG14 := qG13.after b14
        have qW14 := qW13.after b14
        have bw14 := via bw13 b14 bw13.size
        have oG14 := oG13.below (b14.mono (by omega))
        have oW14 := oW13.below (b14.mono (by omega))
        have z14 := b14.size
        obtain ⟨j0, j1⟩ := qH.boxed
        obtain ⟨j2, j3⟩ := qW14.boxed
        go_wp2_with fail
        clear j0 j1 j2 j3
        clear KG KH oGr oWr K6 K7
        generalize x4'.val.alloc (.cells #[.slice H r.1.length h, .slice H' r.2.length h'] 24) = w14 at *
        obtain ⟨KG, KH, _, _⟩ := qG14.ext2
        obtain ⟨KI, KJ, _, _⟩ := qH.ext2
        obtain ⟨K6, K7, _, _⟩ := qW14.ext2
        have oGr := oG14.rd
        have oWr := oW14.mono (B' := w14.heap.size) (by omega)
        obtain ⟨x14, hx14⟩ := ext_self w14
        rw [← hx14]
        clear hx14
        go_wp2_with (first | (go_at_call 19; refine (eqPile_same H H' X X' h h' x x' r _ hr ?_ ?_).mono ?_; exact oHr.up (by first | exact Ext.below _ | exact (Ext.below _).drew | exact (Ext.below _).alloc (Ext.below _).size _ | exact ((Ext.below _).alloc (Ext.below _).size _).drew); exact oWr.up (by first | exact Ext.below _ | exact (Ext.below _).drew | exact (Ext.below _).alloc (Ext.below _).size _ | exact ((Ext.below _).alloc (Ext.below _).size _).drew); rintro e wq ⟨rfl, bq⟩; obtain ⟨xq, rfl⟩ := ext_any (by first | exact Ext.below _ | exact (Ext.below _).drew | exact (Ext.below _).alloc (Ext.below _).size _ | exact ((Ext.below _).alloc (Ext.below _).size _).drew) bq (by first | exact (Ext.below _).size | exact ((Ext.below _).alloc (Ext.below _).size _).size); clear bq) | (go_at_call 21; refine (heldPile_ext G G' g g' r.1.length r.2.length 1 _ (by omega) (by omega) (by omega) (by omega) ?_).mono ?_; exact oGr.up (Ext.below _); rintro e wh ⟨rfl, bh⟩; obtain ⟨xh2, rfl⟩ := ext_any (by first | exact Ext.below _ | exact (Ext.below _).drew | exact (Ext.below _).alloc (Ext.below _).size _ | exact ((Ext.below _).alloc (Ext.below _).size _).drew) bh (by first | exact (Ext.below _).size | exact ((Ext.below _).alloc (Ext.below _).size _).size); clear bh))
        go_ret
        exact ⟨rfl, via bw14 (Ext.below _) bw14.size⟩
namespace FnExactLiftRun
set_option maxRecDepth 100000 in
theorem lifted (os : Os) (started : os.Started) (H : Type) (enc : TypeId × Value → H) :
    ReturnsInHanded {} Try.checked os 13 .any (Rows.fnExactLiftRunSpec.pre6 enc Try.prog Try.f13 Rows.fnExactLiftRunRow.domain false) (Rows.fnExactLiftRunSpec.post enc Try.prog Try.f13 false true false false) := by
  refine returnsInHanded_of_change (C := Try.checked) own started (by kernel_rfl) Try.func13
    (ChangeSpec.witness6 (enc := enc) (C := Try.checked) false ⟨#[], #[.agg #[.slice none 0 0, .slice none 0 0], .slice none 0 0], []⟩ 8 (by kernel_rfl) (by kernel_rfl) (by kernel_rfl) (by kernel_rfl)) ?_
  intro W base args ds gs before hval0 hW hcnd _
  have hval : ∀ (j : Nat) t v, Try.f13.params[j]? = some t → args[j]? = some v → Value.okWide Try.prog W .any base t v := hval0
  have hW' := hW
  obtain ⟨p, q, hA0, hV, rfl, hfz, hnd⟩ := hW
  have hA : DataW.TrodAll enc Try.prog W 0 (fun _ => true) true Try.f13.params.toList args.toList ds p := hA0
  rw [Try.params13] at hA hval
  obtain ⟨v0, vs0, d0, ds0, p0, q0, hargs, rfl, rfl, h0, r0⟩ := trodAll_cons hA
  obtain ⟨v1, vs1, d1, ds1, p1, q1, rfl, rfl, rfl, h1, r1⟩ := trodAll_cons r0
  obtain ⟨rfl, rfl, rfl⟩ := trodAll_nil r1
  obtain rfl : args = #[v0, v1] := by cases args; simp_all
  obtain ⟨rfl, rfl⟩ := trodVars_none hV
  have lt0 : ∀ x ∈ p0, x.block < W.heap.size := by obtain ⟨m, hm⟩ := h0; exact DataW.trod_lt m _ _ _ hm
  have lt1 : ∀ x ∈ p1, x.block < W.heap.size := by obtain ⟨m, hm⟩ := h1; exact DataW.trod_lt m _ _ _ hm
  obtain ⟨A0, n0, c0, z0, A0', n0', c0', z0', rfl, rfl, rfl, k0, m0, k0', m0', rd0⟩ := op_pile Try.underlying29 (by kernel_rfl) (by kernel_rfl) Try.underlying22 Try.underlying22 Try.underlying3 (by kernel_rfl) (hval 0 29 v0 rfl rfl) h0
  obtain ⟨A1, n1, c1, z1, rfl, rfl, l1, m1, rd1⟩ := op_lifts Try.underlying63 Try.underlying57 (by kernel_rfl) (by kernel_rfl) Try.underlying40 (by kernel_rfl) (by kernel_rfl) Try.underlying4 Try.underlying3 (hval 1 63 v1 rfl rfl) h1
  clear hA0 hval0
  refine (w_FnExactLiftRun W A0 A0' c0 c0' (z0, z0') k0 m0 k0' m0' rd0 A1 c1 z1 l1 m1 rd1).mono fun e W' ⟨he, bel⟩ => ?_
  subst he
  exact ⟨_, rfl, _, _, _, [], _, [], hW', trodAll_mk1 (shut_bool Try.underlying4 _), (trodAll_cons_mk (Below.trod laidOut (by kernel_rfl) (of_decide_eq_true (by kernel_rfl)) h0 bel lt0) (trodAll_cons_mk (Below.trod laidOut (by kernel_rfl) (of_decide_eq_true (by kernel_rfl)) h1 bel lt1) trodAll_mk0)), rfl, bel.frame _, fun h => by cases h⟩
theorem closed : joinedFacts Try.prog 13 Try.f13 Rows.fnExactLiftRunSpec Rows.fnExactLiftRunRow = true := by
  unfold joinedFacts
  rw [mayEnter, liftsFinal, progMake]
  kernel_rfl
theorem over : Rows.fnExactLiftRunRow.holds Try.pinned (OpenSpec.ofChange Rows.fnExactLiftRunSpec) :=
  OpenClaim.holds_of_wide 13 Try.f13 rfl rfl rfl rfl rfl rfl rfl ⟨rfl, rfl, rfl, rfl, rfl⟩ rfl rfl rfl rfl rfl (by kernel_rfl) Try.func13 closed
    (of_decide_eq_true (by kernel_rfl)) (by unfold Func.isWrapper; first | (rw [if_pos (by decide +kernel)]; kernel_rfl) | (rw [if_neg (by decide +kernel)]; exact ⟨rfl, rfl⟩))
    (fun os started H enc _ => lifted os started H enc)
theorem proved : Rows.FnExactLiftRunSaid := over
end FnExactLiftRun
end Go.Proofs.Ytgohnbhnckgcnaa
