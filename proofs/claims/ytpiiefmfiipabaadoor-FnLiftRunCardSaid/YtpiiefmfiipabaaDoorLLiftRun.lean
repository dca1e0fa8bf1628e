/- No coil is lost or doubled, and none ever hangs in the air: FnLiftRun returns true for every input. No conditions. -/
import Derived.Test.YtpiiefmfiipabaaDoorSeatC
import Derived.Test.YtpiiefmfiipabaaDoorDrawG
import Derived.Test.YtpiiefmfiipabaaDoorAlive
import Derived.Test.YtpiiefmfiipabaaDoorLBox
import Derived.Test.YtpiiefmfiipabaaDoorLawsP
import Derived.Test.YtpiiefmfiipabaaDoorLiftRun
import Derived.Test.YtpiiefmfiipabaaDoorCoilIds
import Derived.Test.YtpiiefmfiipabaaDoorCoilLaws
namespace Go.Proofs.YtpiiefmfiipabaaDoor
open Go.ChangeShapes Go.WideShapes Go.ChangeAt Go.RowKit Go.Deep
/-- The lifts of a list from m on, up to n, in the other direction. -/
def backL (ls : List LF) (n m : Nat) : List LF := (((ls.take n).drop m).map swp).reverse
theorem backL_all (ls : List LF) (n : Nat) : backL ls n n = [] := by
  unfold backL
  rw [List.drop_of_length_le (by rw [List.length_take]; omega)]; rfl
theorem backL_step {ls : List LF} {n m : Nat} (hm : m < n) (hn : n ≤ ls.length) : backL ls n m = backL ls n (m + 1) ++ [swp (ls[m]'(by omega))] := by
  have hl : m < (ls.take n).length := by rw [List.length_take]; omega
  unfold backL
  rw [List.drop_eq_getElem_cons hl, List.map_cons, List.reverse_cons, List.getElem_take]
theorem backL_len (ls : List LF) (n m : Nat) : (backL ls n m).length ≤ n := by
  unfold backL; simp; omega
theorem run_back {p : PL} {ls : List LF} (hv : pileValid p = true) (h40 : ls.length ≤ 40) : pileValid (liftRun p ls).1 = true ∧ coilIds (liftRun p ls).1 = coilIds p ∧ (liftRun p ls).2 ≤ ls.length ∧ liftRun (liftRun p ls).1 (backL ls (liftRun p ls).2 0) = (p, (liftRun p ls).2) := by
  have V := (vd_iff p).1 hv
  rw [run_good hv h40]
  have hle := liftN_le p ls
  have hv' := (vd_iff _).2 (liftN_vd V ls)
  refine ⟨hv', liftN_ids V ls, hle, ?_⟩
  rw [run_good hv' (Nat.le_trans (backL_len _ _ _) (by omega))]
  unfold backL
  rw [List.drop_zero]
  exact liftN_back ls
theorem ext_appd {w0 W w' : World} {e : TypeId} {size n m : Nat} {v v' : Value} {xs news : List Value} (hW : Below w0.heap.size w0 W) (hz : w0.heap.size ≤ W.heap.size) (ho : W.ownsRow w0.heap.size e size v n xs) (hap : Appd W w' w0.heap.size e size v v' n m xs news) : ∃ y : Ext w0, w' = y.val :=
  ⟨⟨w', hW.trans (hap.below ho hz)⟩, rfl⟩
set_option linter.unusedSimpArgs false in
set_option linter.unusedVariables false in
set_option maxHeartbeats 4000000 in
set_option maxRecDepth 100000 in
theorem w_FnLiftRun (w : World) (A : Option Addr) (c : Nat) (bs : List Int) (hkc : bs.length ≤ c) (hmc : c ≤ maxLen) (hbs : ∀ b ∈ bs, (Lit.int .u8 b).wf = true) (hrd : Rd w w.heap.size A (bc bs)) :
    Calls Tryd.prog 12 #[.slice A bs.length c] w fun e w' => e = .returned (.bool true) ∧ Below w.heap.size w w' := by
  have hB := hide hbs
  clear hbs
  by_cases hl : 1048576 < bs.length
  · go_enter Tryd.func12, Tryd.ntmps12
    go_wp2
    go_ret
    exact ⟨rfl, Below.refl _ _⟩
  · go_enter Tryd.func12, Tryd.ntmps12
    go_wp2_with fail
    refine (drawLiftRun_any A c bs w hkc hmc hB.out hrd).mono ?_
    rintro e w1 ⟨L, d, L', d', p, I, ci, ls, rfl, h1, h2, h3, oL, oL', ol, b1⟩
    clear hl hkc hmc hrd
    have rp : RdP w1 w1.heap.size L L' p := ⟨oL.rd, oL'.rd⟩
    have rl := ol.rd
    have hp := hide (show small p from ⟨by omega, by omega⟩)
    go_wp2_with fail
    obtain ⟨b0, k0, k1, hz0⟩ := box_one w1 25 (.slice L p.1.length d) (.slice L' p.2.length d') _ rfl
    replace rp := rp.up b0
    replace rl := rl.up b0
    have bb := via b1 b0 b1.size
    clear oL oL' ol b1
    generalize w1.alloc (.cells #[.slice L p.1.length d, .slice L' p.2.length d'] 25) = w0 at *
    have K0 := Ext.old k0
    have K1 := Ext.old k1
    clear hz0 k0 k1 b0
    generalize w1.heap.size = gB at *
    have HI := hide (fun c c' e w rp rl => liftRun_any L L' I c c' e p ls w hp.out (by omega) rp rl)
    have HS := hide (fun c c' e w rp rl => liftRun_spec L L' I c c' e p ls w hp.out (by omega) rp rl)
    have HT := hide (tiny_run p ls).small
    have H0 := hide (fun h => run_bad (p := p) (ls := ls) h)
    have H1 := hide (fun h h' => run_back (p := p) (ls := ls) h h')
    generalize liftRun p ls = rv at *
    obtain ⟨r, n⟩ := rv
    obtain ⟨x0, hx0⟩ := ext_self w0
    rw [← hx0]
    clear hx0
    refine (HI.out _ _ _ _ (rp.up (Ext.below _)) (rl.up (Ext.below _))).mono ?_
    rintro e w' ⟨X, cx, X', cx', rfl, orx, b⟩
    obtain ⟨y, rfl⟩ := ext_next b
    clear b
    have hq := y.below.alloc y.below.size (.cells #[.slice X r.1.length cx, .slice X' r.2.length cx'] 25)
    (try have j0 := cell_in hq K0); (try have j1 := cell_in hq K1); (try have j2 := cell_in hq K2); (try have j3 := cell_in hq K3); (try have j4 := cell_in hq K4); (try have j5 := cell_in hq K5); (try have j6 := cell_in hq K6); (try have j7 := cell_in hq K7); (try have j8 := cell_in hq K8); (try have j9 := cell_in hq K9); (try have j10 := cell_in hq K10); (try have j11 := cell_in hq K11); (try have j12 := cell_in hq K12); (try have j13 := cell_in hq K13); (try have j14 := cell_in hq K14); (try have j15 := cell_in hq K15)
    go_wp2_with fail
    (try clear j0); (try clear j1); (try clear j2); (try clear j3); (try clear j4); (try clear j5); (try clear j6); (try clear j7); (try clear j8); (try clear j9); (try clear j10); (try clear j11); (try clear j12); (try clear j13); (try clear j14); (try clear j15)
    obtain ⟨bq, bp, qq, hzq, hlq⟩ := box_in y 25 #[.slice X r.1.length cx, .slice X' r.2.length cx'] _ rfl
    clear hq
    (try replace K0 := ext_lift bq K0); (try replace K1 := ext_lift bq K1); (try replace K2 := ext_lift bq K2); (try replace K3 := ext_lift bq K3); (try replace K4 := ext_lift bq K4); (try replace K5 := ext_lift bq K5); (try replace K6 := ext_lift bq K6); (try replace K7 := ext_lift bq K7); (try replace K8 := ext_lift bq K8); (try replace K9 := ext_lift bq K9); (try replace K10 := ext_lift bq K10); (try replace K11 := ext_lift bq K11); (try replace K12 := ext_lift bq K12); (try replace K13 := ext_lift bq K13); (try replace K14 := ext_lift bq K14); (try replace K15 := ext_lift bq K15)
    (try replace rp := rp.up bq); (try replace rx := rx.up bq); (try replace ry := ry.up bq); (try replace rz := rz.up bq); (try replace rl := rl.up bq); (try replace ro := ro.up bq)
    (try have rx := orx.rd.up bp)
    (try clear orx)
    generalize y.val.alloc (.cells #[.slice X r.1.length cx, .slice X' r.2.length cx'] 25) = wx at *
    generalize y.val.heap.size = gwx at *
    replace bb := via bb bq bb.size
    obtain ⟨K4, K5, fK4, fK5⟩ := qq.ext2
    clear bq bp qq hzq hlq
    obtain ⟨x0, hx0⟩ := ext_self wx
    rw [← hx0]
    clear hx0
    refine (HS.out _ _ _ _ (rp.up (Ext.below _)) (rl.up (Ext.below _))).mono ?_
    rintro e w' ⟨Y, cy, Y', cy', rfl, ory, b⟩
    obtain ⟨y2, rfl⟩ := ext_next b
    clear b
    have hq := y2.below.alloc y2.below.size (.cells #[.slice Y r.1.length cy, .slice Y' r.2.length cy'] 25)
    (try have j0 := cell_in hq K0); (try have j1 := cell_in hq K1); (try have j2 := cell_in hq K2); (try have j3 := cell_in hq K3); (try have j4 := cell_in hq K4); (try have j5 := cell_in hq K5); (try have j6 := cell_in hq K6); (try have j7 := cell_in hq K7); (try have j8 := cell_in hq K8); (try have j9 := cell_in hq K9); (try have j10 := cell_in hq K10); (try have j11 := cell_in hq K11); (try have j12 := cell_in hq K12); (try have j13 := cell_in hq K13); (try have j14 := cell_in hq K14); (try have j15 := cell_in hq K15)
    go_wp2_with fail
    (try clear j0); (try clear j1); (try clear j2); (try clear j3); (try clear j4); (try clear j5); (try clear j6); (try clear j7); (try clear j8); (try clear j9); (try clear j10); (try clear j11); (try clear j12); (try clear j13); (try clear j14); (try clear j15)
    obtain ⟨bq, bp, qq, hzq, hlq⟩ := box_in y2 25 #[.slice Y r.1.length cy, .slice Y' r.2.length cy'] _ rfl
    clear hq
    (try replace K0 := ext_lift bq K0); (try replace K1 := ext_lift bq K1); (try replace K2 := ext_lift bq K2); (try replace K3 := ext_lift bq K3); (try replace K4 := ext_lift bq K4); (try replace K5 := ext_lift bq K5); (try replace K6 := ext_lift bq K6); (try replace K7 := ext_lift bq K7); (try replace K8 := ext_lift bq K8); (try replace K9 := ext_lift bq K9); (try replace K10 := ext_lift bq K10); (try replace K11 := ext_lift bq K11); (try replace K12 := ext_lift bq K12); (try replace K13 := ext_lift bq K13); (try replace K14 := ext_lift bq K14); (try replace K15 := ext_lift bq K15)
    (try replace rp := rp.up bq); (try replace rx := rx.up bq); (try replace ry := ry.up bq); (try replace rz := rz.up bq); (try replace rl := rl.up bq); (try replace ro := ro.up bq)
    (try have ry := ory.rd.up bp)
    (try clear ory)
    generalize y2.val.alloc (.cells #[.slice Y r.1.length cy, .slice Y' r.2.length cy'] 25) = wy at *
    generalize y2.val.heap.size = gwy at *
    replace bb := via bb bq bb.size
    obtain ⟨K6, K7, fK6, fK7⟩ := qq.ext2
    clear bq bp qq hzq hlq
    obtain ⟨x0, hx0⟩ := ext_self wy
    rw [← hx0]
    clear hx0
    refine (samePile_same X X' Y Y' _ _ _ _ r _ HT.out (rx.up (Ext.below _)) (ry.up (Ext.below _))).mono ?_
    rintro e w' ⟨rfl, b⟩
    obtain ⟨y3, rfl⟩ := ext_next b
    clear b
    clear HI HS
    have tt := bne_int (n : Int)
    go_wp2_with fail
    refine (pileValid_spec L L' _ _ p _ hp.out (rp.up (Ext.below _))).mono ?_
    rintro e w' ⟨rfl, b⟩
    obtain ⟨y4, rfl⟩ := ext_next b
    clear b
    by_cases hgood : pileValid p = true ∧ ls.length ≤ 40
    · obtain ⟨hv, h40⟩ := hgood
      obtain ⟨hv1, hids, hnl, hback⟩ := H1.out hv h40
      rw [hv]
      have t40 : decide ((ls.length : Int) > 40) = false := decide_eq_false (by omega)
      have t40' : decide (40 < ls.length) = false := decide_eq_false (by omega)
      have HV := hide hv1
      have HBK := hide hback
      clear hv hv1 hback H0 H1
      have HX := hide (fun c c' w rp => coilIds_any X X' c c' r w HT.out rp)
      rw [hids] at HX
      have HP := hide (fun c c' w rp => coilIds_any L L' c c' p w hp.out rp)
      have hle := ids_le p
      generalize coilIds p = zs at *
      clear hids K6 K7 ry
      have bE := (Ext.below y4).alloc (Ext.below y4).size (.cells #[] 59)
      have oE := own_empty (e := 59) (size := 4) y4.val wy.heap.size (Ext.below y4).size
      go_wp2_with fail
      go_loopw [9, 10] (fun v i wr => ∃ (m : Nat) (y : Ext wy), m ≤ n ∧ i = .int .i64 ((m : Int) - 1) ∧ wr = y.val ∧ y.val.ownsRow wy.heap.size 59 4 v (backL ls n m).length (lc (backL ls n m))) (fun _ i _ => (intOf i + 1).toNat)
      case atStart => exact ⟨n, ⟨_, bE⟩, Nat.le_refl _, rfl, rfl, by rw [backL_all]; exact oE⟩
      case round =>
        clear oE bE
        obtain ⟨m, y, hm, hi, rfl, hown⟩ := hrel
        by_cases hpos : 0 < m
        · obtain ⟨m, rfl⟩ : ∃ m', m = m' + 1 := ⟨m - 1, by omega⟩
          have e1 : (((m + 1 : Nat) : Int)) - 1 = (m : Int) := by omega
          rw [e1] at hi
          subst hi
          have hlt : m < ls.length := by omega
          obtain ⟨b, o, rfl, _, c0, c1, c2, c3⟩ := rl.lift hlt
          have C0 := Ext.old c0
          have C1 := Ext.old c1
          have C2 := Ext.old c2
          have C3 := Ext.old c3
          have hst := hide (backL_step (ls := ls) (n := n) (m := m) (by omega) hnl)
          have hbl := backL_len ls n (m + 1)
          generalize ls[m] = l at *
          obtain ⟨⟨a, q⟩, ⟨s, t⟩⟩ := l
          have i0 : (0 : Int) ≤ (m : Int) := by omega
          have i1 : (m : Int) < (ls.length : Int) := by omega
          clear c0 c1 c2 c3 e1
          go_wp2_with fail
          refine wp_region_held_drew (S := fun w' => w'.cell? ⟨b, o + m * 4, none⟩ = some (.bool a) ∧ w'.cell? ⟨b, o + m * 4 + 1, none⟩ = some (.int .i64 q) ∧ w'.cell? ⟨b, o + m * 4 + 2, none⟩ = some (.bool s) ∧ w'.cell? ⟨b, o + m * 4 + 3, none⟩ = some (.int .i64 t)) (by kernel_rfl) ⟨C0 y, C1 y, C2 y, C3 y⟩ (fun hHeld => ?_)
          refine wpAnyH_take (i := 0) (oi := _) (v := ?_) rfl (by kernel_rfl) (by kernel_rfl) (by kernel_rfl) (fun _ _ _ h => h) (Or.inl ⟨by rfl, ?_⟩) (by assumption) ?_
          rotate_left
          · intro w hSw; (try dsimp only at hSw); go_simp; first | done | with_reducible rfl
          (try simp only [Act.put, List.setIfInBounds_toArray, List.set_cons_zero, List.set_cons_succ])
          refine wpAnyH_take (i := 1) (oi := _) (v := ?_) rfl (by kernel_rfl) (by kernel_rfl) (by kernel_rfl) (fun _ _ _ h => h) (Or.inl ⟨by rfl, ?_⟩) (by assumption) ?_
          rotate_left
          · intro w hSw; (try dsimp only at hSw); go_simp; first | done | with_reducible rfl
          (try simp only [Act.put, List.setIfInBounds_toArray, List.set_cons_zero, List.set_cons_succ])
          refine wpAnyH_take (i := 2) (oi := _) (v := ?_) rfl (by kernel_rfl) (by kernel_rfl) (by kernel_rfl) (fun _ _ _ h => h) (Or.inl ⟨by rfl, ?_⟩) (by assumption) ?_
          rotate_left
          · intro w hSw; (try dsimp only at hSw); go_simp; first | done | with_reducible rfl
          (try simp only [Act.put, List.setIfInBounds_toArray, List.set_cons_zero, List.set_cons_succ])
          refine wpAnyH_take (i := 3) (oi := _) (v := ?_) rfl (by kernel_rfl) (by kernel_rfl) (by kernel_rfl) (fun _ _ _ h => h) (Or.inl ⟨by rfl, ?_⟩) (by assumption) ?_
          rotate_left
          · intro w hSw; (try dsimp only at hSw); go_simp; first | done | with_reducible rfl
          (try simp only [Act.put, List.setIfInBounds_toArray, List.set_cons_zero, List.set_cons_succ])
          refine wpAnyH_take (i := 4) (oi := _) (v := ?_) rfl (by kernel_rfl) (by kernel_rfl) (by kernel_rfl) (fun _ _ _ h => h) (Or.inl ⟨by rfl, ?_⟩) (by assumption) ?_
          rotate_left
          · intro w hSw; (try dsimp only at hSw); go_simp; first | done | with_reducible rfl
          (try simp only [Act.put, List.setIfInBounds_toArray, List.set_cons_zero, List.set_cons_succ])
          refine wpAnyH_take (i := 5) (oi := _) (v := ?_) rfl (by kernel_rfl) (by kernel_rfl) (by kernel_rfl) (fun _ _ _ h => h) (Or.inl ⟨by rfl, ?_⟩) (by assumption) ?_
          rotate_left
          · intro w hSw; (try dsimp only at hSw); go_simp; first | done | with_reducible rfl
          (try simp only [Act.put, List.setIfInBounds_toArray, List.set_cons_zero, List.set_cons_succ])
          refine wpAnyH_take (i := 6) (oi := _) (v := ?_) rfl (by kernel_rfl) (by kernel_rfl) (by kernel_rfl) (fun _ _ _ h => h) (Or.inl ⟨by rfl, ?_⟩) (by assumption) ?_
          rotate_left
          · intro w hSw; (try dsimp only at hSw); go_simp; first | done | with_reducible rfl
          (try simp only [Act.put, List.setIfInBounds_toArray, List.set_cons_zero, List.set_cons_succ])
          refine wpAnyH_take (i := 7) (oi := _) (v := ?_) rfl (by kernel_rfl) (by kernel_rfl) (by kernel_rfl) (fun _ _ _ h => h) (Or.inl ⟨by rfl, ?_⟩) (by assumption) ?_
          rotate_left
          · intro w hSw; (try dsimp only at hSw); go_simp; first | done | with_reducible rfl
          (try simp only [Act.put, List.setIfInBounds_toArray, List.set_cons_zero, List.set_cons_succ])
          refine wpAnyH_take (i := 8) (oi := _) (v := ?_) rfl (by kernel_rfl) (by kernel_rfl) (by kernel_rfl) (fun _ _ _ h => h) (Or.inl ⟨by rfl, ?_⟩) (by assumption) ?_
          rotate_left
          · intro w hSw; (try dsimp only at hSw); go_simp; first | done | with_reducible rfl
          (try simp only [Act.put, List.setIfInBounds_toArray, List.set_cons_zero, List.set_cons_succ])
          refine wpAnyH_take (i := 9) (oi := _) (v := ?_) rfl (by kernel_rfl) (by kernel_rfl) (by kernel_rfl) (fun _ _ _ h => h) (Or.inl ⟨by rfl, ?_⟩) (by assumption) ?_
          rotate_left
          · intro w hSw; (try dsimp only at hSw); go_simp; first | done | with_reducible rfl
          (try simp only [Act.put, List.setIfInBounds_toArray, List.set_cons_zero, List.set_cons_succ])
          refine wpAnyH_take (i := 10) (oi := _) (v := ?_) rfl (by kernel_rfl) (by kernel_rfl) (by kernel_rfl) (fun _ _ _ h => h) (Or.inl ⟨by rfl, ?_⟩) (by assumption) ?_
          rotate_left
          · intro w hSw; (try dsimp only at hSw); go_simp; first | done | with_reducible rfl
          (try simp only [Act.put, List.setIfInBounds_toArray, List.set_cons_zero, List.set_cons_succ])
          refine wpAnyH_take (i := 11) (oi := _) (v := ?_) rfl (by kernel_rfl) (by kernel_rfl) (by kernel_rfl) (fun _ _ _ h => h) (Or.inl ⟨by rfl, ?_⟩) (by assumption) ?_
          rotate_left
          · intro w hSw; (try dsimp only at hSw); go_simp; first | done | with_reducible rfl
          (try simp only [Act.put, List.setIfInBounds_toArray, List.set_cons_zero, List.set_cons_succ])
          refine wpAnyH_ready (rs := [12]) (by kernel_rfl) (by simp) ?_
          refine AllReadyH.cons (o := _) rfl (fun K hK => ?_) AllReadyH.nil
          go_simp
          have bq := (y.below.alloc y.below.size (.cells #[.bool s, .int .i64 t, .bool a, .int .i64 q] 59)).drew
          have hzq := y.below.size
          refine hK.out _ _ ⟨cell_in bq C0, cell_in bq C1, cell_in bq C2, cell_in bq C3⟩ (fun hHeld => ?_)
          clear hK K
          (try simp only [Act.put, List.setIfInBounds_toArray, List.set_cons_zero, List.set_cons_succ])
          have hown2 := owns_up (hown.alloc (.cells #[.bool s, .int .i64 t, .bool a, .int .i64 q] 59)) (Below.refl _ _).drew
          refine wpAnyH_ready (rs := [13]) (by kernel_rfl) (by simp) ?_
          refine AllReadyH.cons (o := _) rfl (fun K hK => ?_) AllReadyH.nil
          refine step_append_any liftElem rfl _ _ rfl wy.heap.size (y.val.heap.size + 1) _ (backL ls n (m + 1)).length (lc (backL ls n (m + 1))) rfl hown2 (some ⟨y.val.heap.size, 0, none⟩) 1 1 rfl (lc [swp ((a, q), (s, t))]) rfl (((Row.new y.val 59 #[.bool s, .int .i64 t, .bool a, .int .i64 q]).drew.rd).mono (by simp)) (fun h => by cases h) (lc_one _) (by omega) (by omega) (by simp; omega) ?_
          intro v9 w9 hap
          have b9 := bq.trans (hap.below hown2 (by simp; omega))
          have ho9 : w9.ownsRow wy.heap.size 59 4 v9 (backL ls n m).length (lc (backL ls n m)) := by
            rw [hst.out, lc_app, List.length_append]
            exact hap.1
          clear hap hown2 hown
          refine hK.out _ _ ⟨cell_in b9 C0, cell_in b9 C1, cell_in b9 C2, cell_in b9 C3⟩ (fun hHeld => ?_)
          clear hK K
          (try simp only [Act.put, List.setIfInBounds_toArray, List.set_cons_zero, List.set_cons_succ])
          refine wpAnyH_ready (rs := [14]) (by kernel_rfl) (by simp) ?_
          refine AllReadyH.cons (o := _) rfl (fun K hK => ?_) AllReadyH.nil
          go_simp
          refine hK.out _ _ ⟨cell_in b9 C0, cell_in b9 C1, cell_in b9 C2, cell_in b9 C3⟩ (fun hHeld => ?_)
          clear hK K
          (try simp only [Act.put, List.setIfInBounds_toArray, List.set_cons_zero, List.set_cons_succ])
          refine wpAnyH_done (by kernel_rfl) ?_ _
          go_wp2_with fail
          go_roundw
          case rel => exact ⟨m, ⟨w9, b9⟩, by omega, by go_num, rfl, ho9⟩
          case measure => first | (simp [intOf]; done) | (simp [intOf]; omega)
        · obtain rfl : m = 0 := by omega
          have e1 : (((0 : Nat) : Int)) - 1 = -1 := rfl
          rw [e1] at hi
          subst hi
          obtain ⟨A9, c9, hv9, oB, _⟩ := own_room2 hown
          have hbl := backL_len ls n 0
          have rB := oB.rd
          subst hv9
          clear hown oB
          go_wp2_with fail
          refine (liftRun_any X X' A9 _ _ c9 r (backL ls n 0) _ HT.out (by omega) (rx.up (Ext.below _)) rB).mono ?_
          rw [HBK.out]
          rintro e w' ⟨Z, cz, Z', cz', rfl, orz, b⟩
          obtain ⟨y5, rfl⟩ := ext_next b
          clear b
          have hq := y5.below.alloc y5.below.size (.cells #[.slice Z p.1.length cz, .slice Z' p.2.length cz'] 25)
          (try have j0 := cell_in hq K0); (try have j1 := cell_in hq K1); (try have j2 := cell_in hq K2); (try have j3 := cell_in hq K3); (try have j4 := cell_in hq K4); (try have j5 := cell_in hq K5); (try have j6 := cell_in hq K6); (try have j7 := cell_in hq K7); (try have j8 := cell_in hq K8); (try have j9 := cell_in hq K9); (try have j10 := cell_in hq K10); (try have j11 := cell_in hq K11); (try have j12 := cell_in hq K12); (try have j13 := cell_in hq K13); (try have j14 := cell_in hq K14); (try have j15 := cell_in hq K15)
          go_wp2_with fail
          (try clear j0); (try clear j1); (try clear j2); (try clear j3); (try clear j4); (try clear j5); (try clear j6); (try clear j7); (try clear j8); (try clear j9); (try clear j10); (try clear j11); (try clear j12); (try clear j13); (try clear j14); (try clear j15)
          obtain ⟨bq, bp, qq, hzq, hlq⟩ := box_in y5 25 #[.slice Z p.1.length cz, .slice Z' p.2.length cz'] _ rfl
          clear hq
          (try replace K0 := ext_lift bq K0); (try replace K1 := ext_lift bq K1); (try replace K2 := ext_lift bq K2); (try replace K3 := ext_lift bq K3); (try replace K4 := ext_lift bq K4); (try replace K5 := ext_lift bq K5); (try replace K6 := ext_lift bq K6); (try replace K7 := ext_lift bq K7); (try replace K8 := ext_lift bq K8); (try replace K9 := ext_lift bq K9); (try replace K10 := ext_lift bq K10); (try replace K11 := ext_lift bq K11); (try replace K12 := ext_lift bq K12); (try replace K13 := ext_lift bq K13); (try replace K14 := ext_lift bq K14); (try replace K15 := ext_lift bq K15)
          (try replace rp := rp.up bq); (try replace rx := rx.up bq); (try replace ry := ry.up bq); (try replace rz := rz.up bq); (try replace rl := rl.up bq); (try replace ro := ro.up bq)
          (try have rz := orz.rd.up bp)
          (try clear orz)
          generalize y5.val.alloc (.cells #[.slice Z p.1.length cz, .slice Z' p.2.length cz'] 25) = wz at *
          generalize y5.val.heap.size = gwz at *
          replace bb := via bb bq bb.size
          obtain ⟨K8, K9, fK8, fK9⟩ := qq.ext2
          clear bq bp qq hzq hlq
          obtain ⟨x0, hx0⟩ := ext_self wz
          rw [← hx0]
          clear hx0
          have t2 : ((n : Int) == (n : Int)) = true := by simp
          refine wp_region_held_drew (S := fun w' => w'.cell? ⟨gB, 0, none⟩ = some (.slice L p.1.length d) ∧ w'.cell? ⟨gB, 1, none⟩ = some (.slice L' p.2.length d') ∧ w'.cell? ⟨gwx, 0, none⟩ = some (.slice X r.1.length cx) ∧ w'.cell? ⟨gwx, 1, none⟩ = some (.slice X' r.2.length cx') ∧ w'.cell? ⟨gwz, 0, none⟩ = some (.slice Z p.1.length cz) ∧ w'.cell? ⟨gwz, 1, none⟩ = some (.slice Z' p.2.length cz')) (by kernel_rfl) ⟨K0 x0, K1 x0, K4 x0, K5 x0, K8 x0, K9 x0⟩ (fun hHeld => ?_)
          refine wpAnyH_take (i := 0) (oi := _) (v := ?_) rfl (by kernel_rfl) (by kernel_rfl) (by kernel_rfl) (fun _ _ _ h => h) (Or.inl ⟨by rfl, ?_⟩) (by assumption) ?_
          rotate_left
          · intro w hSw; (try dsimp only at hSw); go_simp; first | done | with_reducible rfl
          (try simp only [Act.put, List.setIfInBounds_toArray, List.set_cons_zero, List.set_cons_succ])
          refine wpAnyH_ready (rs := [1]) (by kernel_rfl) (by simp) ?_
          refine AllReadyH.cons (o := _) rfl (fun K hK => ?_) AllReadyH.nil
          go_simp
          go_at_call 18
          refine (pileValid_any X X' _ _ r _ HT.out (rx.up (by first | exact Ext.below _ | exact (Ext.below _).drew | exact (Ext.below _).alloc (Ext.below _).size _ | exact ((Ext.below _).alloc (Ext.below _).size _).drew))).mono ?_
          rw [HV.out]
          rintro e w' ⟨rfl, b⟩
          obtain ⟨y6, rfl⟩ := ext_any (by first | exact Ext.below _ | exact (Ext.below _).drew | exact (Ext.below _).alloc (Ext.below _).size _ | exact ((Ext.below _).alloc (Ext.below _).size _).drew) b (by first | exact (Ext.below _).size | exact ((Ext.below _).alloc (Ext.below _).size _).size)
          clear b
          go_wp2_with fail
          refine hK.out _ _ ⟨K0 _, K1 _, K4 _, K5 _, K8 _, K9 _⟩ (fun hHeld => ?_)
          clear hK K
          (try simp only [Act.put, List.setIfInBounds_toArray, List.set_cons_zero, List.set_cons_succ])
          refine wpAnyH_take (i := 2) (oi := _) (v := ?_) rfl (by kernel_rfl) (by kernel_rfl) (by kernel_rfl) (fun _ _ _ h => h) (Or.inl ⟨by rfl, ?_⟩) (by assumption) ?_
          rotate_left
          · intro w hSw; (try dsimp only at hSw); go_simp; first | done | with_reducible rfl
          (try simp only [Act.put, List.setIfInBounds_toArray, List.set_cons_zero, List.set_cons_succ])
          refine wpAnyH_take (i := 3) (oi := _) (v := ?_) rfl (by kernel_rfl) (by kernel_rfl) (by kernel_rfl) (fun _ _ _ h => h) (Or.inl ⟨by rfl, ?_⟩) (by assumption) ?_
          rotate_left
          · intro w hSw; (try dsimp only at hSw); go_simp; first | done | with_reducible rfl
          (try simp only [Act.put, List.setIfInBounds_toArray, List.set_cons_zero, List.set_cons_succ])
          refine wpAnyH_take (i := 5) (oi := _) (v := ?_) rfl (by kernel_rfl) (by kernel_rfl) (by kernel_rfl) (fun _ _ _ h => h) (Or.inl ⟨by rfl, ?_⟩) (by assumption) ?_
          rotate_left
          · intro w hSw; (try dsimp only at hSw); go_simp; first | done | with_reducible rfl
          (try simp only [Act.put, List.setIfInBounds_toArray, List.set_cons_zero, List.set_cons_succ])
          refine wpAnyH_ready (rs := [4]) (by kernel_rfl) (by simp) ?_
          refine AllReadyH.cons (o := _) rfl (fun K hK => ?_) AllReadyH.nil
          go_simp
          go_at_call 47
          refine (HX.out _ _ _ (rx.up (by first | exact Ext.below _ | exact (Ext.below _).drew | exact (Ext.below _).alloc (Ext.below _).size _ | exact ((Ext.below _).alloc (Ext.below _).size _).drew))).mono ?_
          rintro e w' ⟨I1, c1, rfl, oi, b⟩
          obtain ⟨y7, rfl⟩ := ext_any (by first | exact Ext.below _ | exact (Ext.below _).drew | exact (Ext.below _).alloc (Ext.below _).size _ | exact ((Ext.below _).alloc (Ext.below _).size _).drew) b (by first | exact (Ext.below _).size | exact ((Ext.below _).alloc (Ext.below _).size _).size)
          clear b
          go_wp2_with fail
          refine hK.out _ _ ⟨K0 _, K1 _, K4 _, K5 _, K8 _, K9 _⟩ (fun hHeld => ?_)
          clear hK K
          (try simp only [Act.put, List.setIfInBounds_toArray, List.set_cons_zero, List.set_cons_succ])
          refine wpAnyH_ready (rs := [6]) (by kernel_rfl) (by simp) ?_
          refine AllReadyH.cons (o := _) rfl (fun K hK => ?_) AllReadyH.nil
          go_simp
          go_at_call 47
          refine (HP.out _ _ _ (rp.up (by first | exact Ext.below _ | exact (Ext.below _).drew | exact (Ext.below _).alloc (Ext.below _).size _ | exact ((Ext.below _).alloc (Ext.below _).size _).drew))).mono ?_
          rintro e w' ⟨J, cj, rfl, oj, b⟩
          have oi := oi.rd.up b
          obtain ⟨y8, rfl⟩ := ext_any (by first | exact Ext.below _ | exact (Ext.below _).drew | exact (Ext.below _).alloc (Ext.below _).size _ | exact ((Ext.below _).alloc (Ext.below _).size _).drew) b (by first | exact (Ext.below _).size | exact ((Ext.below _).alloc (Ext.below _).size _).size)
          clear b
          go_wp2_with fail
          refine hK.out _ _ ⟨K0 _, K1 _, K4 _, K5 _, K8 _, K9 _⟩ (fun hHeld => ?_)
          clear hK K
          (try simp only [Act.put, List.setIfInBounds_toArray, List.set_cons_zero, List.set_cons_succ])
          refine wpAnyH_ready (rs := [7]) (by kernel_rfl) (by simp) ?_
          refine AllReadyH.cons (o := _) rfl (fun K hK => ?_) AllReadyH.nil
          go_simp
          go_at_call 30
          refine (sameInts_any I1 J c1 cj zs zs y8.val (by omega) oi oj.rd).mono ?_
          rintro e w' ⟨rfl, dr⟩
          rw [decide_eq_true (rfl : zs = zs)]
          obtain ⟨y9, rfl⟩ := ext_next (dr.below _)
          clear dr oi oj
          go_wp2_with fail
          refine hK.out _ _ ⟨K0 _, K1 _, K4 _, K5 _, K8 _, K9 _⟩ (fun hHeld => ?_)
          clear hK K
          (try simp only [Act.put, List.setIfInBounds_toArray, List.set_cons_zero, List.set_cons_succ])
          refine wpAnyH_take (i := 8) (oi := _) (v := ?_) rfl (by kernel_rfl) (by kernel_rfl) (by kernel_rfl) (fun _ _ _ h => h) (Or.inl ⟨by rfl, ?_⟩) (by assumption) ?_
          rotate_left
          · intro w hSw; (try dsimp only at hSw); go_simp; first | done | with_reducible rfl
          (try simp only [Act.put, List.setIfInBounds_toArray, List.set_cons_zero, List.set_cons_succ])
          refine wpAnyH_take (i := 9) (oi := _) (v := ?_) rfl (by kernel_rfl) (by kernel_rfl) (by kernel_rfl) (fun _ _ _ h => h) (Or.inl ⟨by rfl, ?_⟩) (by assumption) ?_
          rotate_left
          · intro w hSw; (try dsimp only at hSw); go_simp; first | done | with_reducible rfl
          (try simp only [Act.put, List.setIfInBounds_toArray, List.set_cons_zero, List.set_cons_succ])
          refine wpAnyH_take (i := 10) (oi := _) (v := ?_) rfl (by kernel_rfl) (by kernel_rfl) (by kernel_rfl) (fun _ _ _ h => h) (Or.inl ⟨by rfl, ?_⟩) (by assumption) ?_
          rotate_left
          · intro w hSw; (try dsimp only at hSw); go_simp; first | done | with_reducible rfl
          (try simp only [Act.put, List.setIfInBounds_toArray, List.set_cons_zero, List.set_cons_succ])
          refine wpAnyH_take (i := 11) (oi := _) (v := ?_) rfl (by kernel_rfl) (by kernel_rfl) (by kernel_rfl) (fun _ _ _ h => h) (Or.inl ⟨by rfl, ?_⟩) (by assumption) ?_
          rotate_left
          · intro w hSw; (try dsimp only at hSw); go_simp; first | done | with_reducible rfl
          (try simp only [Act.put, List.setIfInBounds_toArray, List.set_cons_zero, List.set_cons_succ])
          refine wpAnyH_ready (rs := [12]) (by kernel_rfl) (by simp) ?_
          refine AllReadyH.cons (o := _) rfl (fun K hK => ?_) AllReadyH.nil
          go_simp
          go_at_call 35
          refine (samePile_same Z Z' L L' _ _ _ _ p _ hp.out (rz.up (by first | exact Ext.below _ | exact (Ext.below _).drew | exact (Ext.below _).alloc (Ext.below _).size _ | exact ((Ext.below _).alloc (Ext.below _).size _).drew)) (rp.up (by first | exact Ext.below _ | exact (Ext.below _).drew | exact (Ext.below _).alloc (Ext.below _).size _ | exact ((Ext.below _).alloc (Ext.below _).size _).drew))).mono ?_
          rintro e w' ⟨rfl, b⟩
          obtain ⟨y10, rfl⟩ := ext_any (by first | exact Ext.below _ | exact (Ext.below _).drew | exact (Ext.below _).alloc (Ext.below _).size _ | exact ((Ext.below _).alloc (Ext.below _).size _).drew) b (by first | exact (Ext.below _).size | exact ((Ext.below _).alloc (Ext.below _).size _).size)
          clear b
          go_wp2_with fail
          refine hK.out _ _ ⟨K0 _, K1 _, K4 _, K5 _, K8 _, K9 _⟩ (fun hHeld => ?_)
          clear hK K
          (try simp only [Act.put, List.setIfInBounds_toArray, List.set_cons_zero, List.set_cons_succ])
          refine wpAnyH_take (i := 13) (oi := _) (v := ?_) rfl (by kernel_rfl) (by kernel_rfl) (by kernel_rfl) (fun _ _ _ h => h) (Or.inl ⟨by rfl, ?_⟩) (by assumption) ?_
          rotate_left
          · intro w hSw; (try dsimp only at hSw); go_simp; first | done | with_reducible rfl
          (try simp only [Act.put, List.setIfInBounds_toArray, List.set_cons_zero, List.set_cons_succ])
          refine wpAnyH_take (i := 14) (oi := _) (v := ?_) rfl (by kernel_rfl) (by kernel_rfl) (by kernel_rfl) (fun _ _ _ h => h) (Or.inl ⟨by rfl, ?_⟩) (by assumption) ?_
          rotate_left
          · intro w hSw; (try dsimp only at hSw); go_simp; first | done | with_reducible rfl
          (try simp only [Act.put, List.setIfInBounds_toArray, List.set_cons_zero, List.set_cons_succ])
          refine wpAnyH_take (i := 15) (oi := _) (v := ?_) rfl (by kernel_rfl) (by kernel_rfl) (by kernel_rfl) (fun _ _ _ h => h) (Or.inl ⟨by rfl, ?_⟩) (by assumption) ?_
          rotate_left
          · intro w hSw; (try dsimp only at hSw); go_simp; first | done | with_reducible rfl
          (try simp only [Act.put, List.setIfInBounds_toArray, List.set_cons_zero, List.set_cons_succ])
          refine wpAnyH_take (i := 16) (oi := _) (v := ?_) rfl (by kernel_rfl) (by kernel_rfl) (by kernel_rfl) (fun _ _ _ h => h) (Or.inl ⟨by rfl, ?_⟩) (by assumption) ?_
          rotate_left
          · intro w hSw; (try dsimp only at hSw); go_simp; first | done | with_reducible rfl
          (try simp only [Act.put, List.setIfInBounds_toArray, List.set_cons_zero, List.set_cons_succ])
          refine wpAnyH_take (i := 17) (oi := _) (v := ?_) rfl (by kernel_rfl) (by kernel_rfl) (by kernel_rfl) (fun _ _ _ h => h) (Or.inl ⟨by rfl, ?_⟩) (by assumption) ?_
          rotate_left
          · intro w hSw; (try dsimp only at hSw); go_simp; first | done | with_reducible rfl
          (try simp only [Act.put, List.setIfInBounds_toArray, List.set_cons_zero, List.set_cons_succ])
          refine wpAnyH_take (i := 18) (oi := _) (v := ?_) rfl (by kernel_rfl) (by kernel_rfl) (by kernel_rfl) (fun _ _ _ h => h) (Or.inl ⟨by rfl, ?_⟩) (by assumption) ?_
          rotate_left
          · intro w hSw; (try dsimp only at hSw); go_simp; first | done | with_reducible rfl
          (try simp only [Act.put, List.setIfInBounds_toArray, List.set_cons_zero, List.set_cons_succ])
          refine wpAnyH_ready (rs := [19]) (by kernel_rfl) (by simp) ?_
          refine AllReadyH.cons (o := _) rfl (fun K hK => ?_) AllReadyH.nil
          go_simp
          refine hK.out _ _ ⟨K0 _, K1 _, K4 _, K5 _, K8 _, K9 _⟩ (fun hHeld => ?_)
          clear hK K
          (try simp only [Act.put, List.setIfInBounds_toArray, List.set_cons_zero, List.set_cons_succ])
          refine wpAnyH_done (by kernel_rfl) ?_ _
          go_wp2
          go_ret
          exact ⟨rfl, via bb (Ext.below y10) bb.size⟩
    · have hbad : pileValid p = false ∨ 40 < ls.length := by
        cases hv : pileValid p
        · exact .inl rfl
        · right; have : ¬ ls.length ≤ 40 := fun h => hgood ⟨hv, h⟩; omega
      have e0 := H0.out hbad
      obtain ⟨rfl, rfl⟩ : r = ([], []) ∧ n = 0 := by
        injection e0 with a b
        exact ⟨a, b⟩
      have K4' : ∀ x : Ext wy, x.val.cell? ⟨gwx, 0, none⟩ = some (.slice X 0 cx) := K4
      clear H0 H1 e0 hgood K4
      rcases hbad with hv | h40
      · rw [hv]
        clear hv
        go_wp2_with (go_at_call 20; refine (alive_any _).mono ?_; rintro e w' ⟨rfl, b2⟩)
        go_ret
        have bx := via bb (Ext.below y4) bb.size
        exact ⟨rfl, via bx b2 bx.size⟩
      · have t40 : decide ((ls.length : Int) > 40) = true := decide_eq_true (by omega)
        have t40' : decide (40 < ls.length) = true := decide_eq_true h40
        clear h40
        cases pileValid p
        · go_wp2_with (go_at_call 20; refine (alive_any _).mono ?_; rintro e w' ⟨rfl, b2⟩)
          go_ret
          have bx := via bb (Ext.below y4) bb.size
          exact ⟨rfl, via bx b2 bx.size⟩
        · go_wp2_with (go_at_call 20; refine (alive_any _).mono ?_; rintro e w' ⟨rfl, b2⟩)
          go_ret
          have bx := via bb (Ext.below y4) bb.size
          exact ⟨rfl, via bx b2 bx.size⟩
namespace FnLiftRun
set_option maxRecDepth 100000 in
theorem lifted (os : Os) (started : os.Started) (H : Type) (enc : TypeId × Value → H) :
    ReturnsInHanded {} Tryd.checked os 12 .any (fun w args => (Rows.fnLiftRunSpec.pre enc Tryd.prog Tryd.f12 [] false w args ∧ laidMetH Tryd.prog Rows.fnLiftRunRow.laid w) ∧ sizedMet enc Tryd.prog Tryd.f12 (OpenSpec.ofChange Rows.fnLiftRunSpec) false w args) (Rows.fnLiftRunSpec.post enc Tryd.prog Tryd.f12 false true false false) := by
  refine returnsInHanded_of_change_and (C := Tryd.checked) (X := fun w _ => laidMetH Tryd.prog Rows.fnLiftRunRow.laid w) (fun _ _ _ hh h => h.of_heap hh) own started (by kernel_rfl) Tryd.func12
    (ChangeSpec.witness_shaped (enc := enc) (C := Tryd.checked) (os := os) (X := fun w _ => laidMetH Tryd.prog Rows.fnLiftRunRow.laid w) false (World.laidAll Tryd.prog os Rows.fnLiftRunRow.laid) #[.slice none 0 0] 8 (World.laidAll_os _ _ _)
      (World.shaped_of_ZipB (by kernel_rfl) (by kernel_rfl)) (by kernel_rfl) (by kernel_rfl) (by kernel_rfl)
      (by rw [MakeChecks.laidMetH_plain _ _ _ (by kernel_rfl)]; exact laidMet_laidAll _ (by kernel_rfl) (by kernel_rfl))) ?_
  intro W base args ds gs before hval0 hW _ _ _ _
  have hval : ∀ (j : Nat) t v, Tryd.f12.params[j]? = some t → args[j]? = some v → Value.okWide Tryd.prog W .any base t v := hval0
  have hW' := hW
  obtain ⟨p, q, hA0, hV, rfl, hfz, hnd⟩ := hW
  have hA : DataW.TrodAll enc Tryd.prog W 0 (fun _ => true) true Tryd.f12.params.toList args.toList ds p := hA0
  rw [Tryd.params12] at hA hval
  obtain ⟨v0, vs0, d0, ds0, p0, q0, hargs, rfl, rfl, h0, r0⟩ := trodAll_cons hA
  obtain ⟨rfl, rfl, rfl⟩ := trodAll_nil r0
  obtain rfl : args = #[v0] := by cases args; simp_all
  obtain ⟨rfl, rfl⟩ := trodVars_none hV
  have lt0 : ∀ x ∈ p0, x.block < W.heap.size := by obtain ⟨m, hm⟩ := h0; exact DataW.trod_lt m _ _ _ hm
  obtain ⟨A0, n0, c0, z0, rfl, rfl, k0, m0, wf0, rd0⟩ := op_ints Tryd.underlying22 Tryd.underlying5 (by kernel_rfl) (hval 0 22 v0 rfl rfl) h0
  clear hA0 hval0
  refine (w_FnLiftRun W A0 c0 z0 k0 m0 wf0 rd0).mono fun e W' ⟨he, bel⟩ => ?_
  subst he
  exact ⟨_, rfl, _, _, _, [], _, [], hW', trodAll_mk1 (shut_bool Tryd.underlying4 _), (trodAll_cons_mk (Below.trod laidOut (by kernel_rfl) (of_decide_eq_true (by kernel_rfl)) h0 bel lt0) trodAll_mk0), rfl, bel.frame _, fun h => by cases h⟩
theorem closed : joinedFacts Tryd.prog 12 Tryd.f12 Rows.fnLiftRunSpec Rows.fnLiftRunRow = true := by
  unfold joinedFacts
  rw [mayEnter, liftsFinal, progMake]
  kernel_rfl
theorem over : Rows.fnLiftRunRow.holds Tryd.pinned (OpenSpec.ofChange Rows.fnLiftRunSpec) :=
  OpenClaim.holds_of_wide 12 Tryd.f12 rfl rfl rfl rfl rfl rfl rfl ⟨rfl, rfl, rfl, rfl, rfl⟩ rfl rfl rfl rfl rfl (by kernel_rfl) Tryd.func12 closed
    (of_decide_eq_true (by kernel_rfl)) (by unfold Func.isWrapper; first | (rw [if_pos (by decide +kernel)]; kernel_rfl) | (rw [if_neg (by decide +kernel)]; exact ⟨rfl, rfl⟩))
    (fun os started H enc _ => lifted os started H enc)
set_option maxRecDepth 100000 in
theorem carded : Rows.FnLiftRunCardSaid :=
  Claim7.holds_tied_plain_at .later [] _ true Rows.fnLiftRunCard.stood.harness false over (fun _ h => by cases h) (by kernel_rfl) (fun _ h => by cases h) fnLiftRun_row_tie rfl ⟨rfl, rfl⟩ mainIs rfl
    (fun f fn hf hfn => by
      obtain rfl : f = 12 := Option.some.inj ((show Tryd.prog.funcNamed Rows.fnLiftRunRow.func = some 12 by kernel_rfl).symm.trans hf) |>.symm
      obtain rfl : fn = Tryd.f12 := (Option.some.inj (Tryd.func12.symm.trans hfn)).symm
      exact ⟨noLooks, fun j t ht => by
        rw [Tryd.params12] at ht
        have hm : t ∈ [22] := by simpa using Array.mem_of_getElem? ht
        have hall : ([22].all fun u => !Tryd.prog.wantsStandIn u) = true := by kernel_rfl
        exact (show Tryd.prog.wantsStandIn t = false by simpa using List.all_eq_true.1 hall t hm)⟩)
    (by kernel_rfl)
theorem proved : Rows.FnLiftRunCardSaid := carded
end FnLiftRun
end Go.Proofs.YtpiiefmfiipabaaDoor
