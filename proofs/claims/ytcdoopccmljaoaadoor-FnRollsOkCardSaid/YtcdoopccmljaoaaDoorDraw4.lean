/- What is drawn from a code: passes of a rolling. No conditions but bounds on how often the reader was asked. -/
import Derived.Test.YtcdoopccmljaoaaDoorDraw2
import Derived.Test.YtcdoopccmljaoaaDoorApp
import Derived.Test.YtcdoopccmljaoaaDoorRollPlain
namespace Go.Proofs.YtcdoopccmljaoaaDoor
open Go.ChangeShapes Go.WideShapes Go.ChangeAt Go.RowKit Go.Deep
set_option maxHeartbeats 1600000 in
set_option maxRecDepth 100000 in
theorem drawRollsOk_any (A : Option Addr) (c : Nat) (bs : List Int) (w : World) (hkc : bs.length ≤ c) (hmc : c ≤ maxLen) (hbs : ∀ b ∈ bs, (Lit.int .u8 b).wf = true) (hrd : Rd w w.heap.size A (bc bs)) :
    Calls Tryd.prog 52 #[.slice A bs.length c] w fun e w' => ∃ (f t p : Int) (L : Option Addr) (d : Nat) (zs : List Int), e = .returned (.tuple #[.int .i64 f, .int .i64 t, .int .i64 p, .slice L zs.length d]) ∧ (1 ≤ f ∧ f ≤ 410) ∧ (0 ≤ t ∧ t ≤ 410) ∧ (1 ≤ p ∧ p ≤ 120) ∧ zs.length ≤ 7 ∧ Own w' w.heap.size 3 L (ic zs) ∧ Below w.heap.size w w' := by
  go_enter Tryd.func52, Tryd.ntmps52
  go_wp2_with fail
  have hB := hide hbs
  clear hbs
  refine (open_any A c bs w hkc hmc hB.out hrd).mono ?_
  rintro e w1 ⟨rfl, hR, bo⟩
  have HO := hide bo
  go_wp2_with fail
  refine (thick_any w.heap.size _ _ (by omega) hR).mono ?_
  rintro e w2 ⟨f, t, p, rfl, hf, ht, hp, hR', hG⟩
  have hgl := hR'.lt
  have hgl1 := hR.lt
  have HG := hide (grown_trans hG (grown_of (show Below w2.heap.size w2 (w2.alloc (.cells #[] 3)) by go_grown) (some w.heap.size)))
  have HR := hide (hR'.alloc (.cells #[] 3))
  have o0 := own_empty (e := 3) (size := 1) w2 w1.heap.size hG.size
  clear hR hR' hG bo
  go_wp2_with fail
  generalize (Value.slice (some ⟨w2.heap.size, 0, none⟩) 0 0) = v0 at *
  generalize w2.alloc (.cells #[] 3) = w3 at *
  refine (pick_any _ _ _ _ (by omega) (by omega) (by omega) HR.out).mono ?_
  rintro e w4 ⟨x, rfl, hax, hbx, hR', hG'⟩
  have o1 := owns_grown o0 hG' (fun b hb e => by injection e with e; have := (o0.lt b hb).1; omega)
  replace HR := hide hR'
  replace HG := hide (grown_trans HG.out hG')
  clear hR' hG' o0
  go_wp2_with fail
  go_loopw [10, 11, 12, 13] (fun v a i _ wr => ∃ (m : Nat) (at_ : Int) (zs : List Int), i = .int .i64 m ∧ zs.length + m ≤ 7 ∧ a = .int .i64 at_ ∧ (1 ≤ at_ ∧ at_ ≤ 410) ∧ wr.ownsRow w1.heap.size 3 1 v zs.length (ic zs) ∧ Rdr wr w.heap.size (7 + zs.length) ∧ w1.grownBy wr (some w.heap.size)) (fun _ _ i _ _ => (intOf i).toNat)
  case atStart => exact ⟨x.toNat, f, [], by rw [Int.toNat_of_nonneg hax], by simp; omega, rfl, hf, o1, HR.out, HG.out⟩
  case round =>
    clear HR HG o1
    obtain ⟨m, a, zs, rfl, hzm, rfl, ha, hown, hR, hG⟩ := hrel
    have HR := hide hR
    have HG := hide hG
    clear hR hG
    by_cases hm : 0 < m
    · by_cases hpos : 0 < rollLeast a p
      · have hv := rollLeast_valid (f := a) (p := p) (by omega)
        have hb := rollLeast_bd hv.1 hv.2
        generalize hL : rollLeast a p = l at *
        clear hv
        go_wp2_with (go_at_call 34; refine (rollLeast_spec _ _ _).mono ?_; rintro e w' ⟨rfl, rfl⟩)
        refine (pick_any _ _ _ _ (by omega) (by omega) (by omega) HR.out).mono ?_
        rintro e w5 ⟨x1, rfl, ha1, hb1, hR', hG'⟩
        replace hown := owns_grown hown hG' (fun b hb e => by injection e with e; have := (hown.lt b hb).1; omega)
        replace HR := hide hR'
        replace HG := hide (grown_trans HG.out hG')
        clear hR' hG' hL
        have hz5 := HG.out.size
        have hzz := HO.out.size
        go_wp2_with (at_builtin; refine wpList_append_any intElem rfl _ _ rfl w1.heap.size (w5.heap.size + 1) _ zs.length (ic zs) rfl (hown.alloc _) (some ⟨w5.heap.size, 0, none⟩) 1 1 rfl (ic [l + x1]) rfl (((Row.new w5 3 #[.int .i64 (l + x1)]).rd).mono (by simp)) (fun h => by cases h) (ic_one _) (by omega) (by omega) (by have := HR.out.lt; simp; omega) ?_; intro v' w4 hap; have HA := hide hap; clear hap)
        go_roundw
        case rel =>
          obtain ⟨ho, hg, _⟩ := HA.out
          have hg0 := grown_trans HG.out (grown_of (show Below w5.heap.size w5 (w5.alloc (.cells #[.int .i64 (l + x1)] 3)) by go_grown) (some w.heap.size))
          refine ⟨m - 1, l + x1, zs ++ [l + x1], by go_num, by simp; omega, rfl, by omega, by simpa [ic] using ho, ?_, ?_⟩
          · exact (((HR.out.alloc _).kept hg fun b hb => by have := (hown.lt b hb).1; omega)).more (by simp; omega)
          · exact grown_own hg0 hg fun b hb => (hown.lt b hb).1
        case measure => simp [intOf]; omega
      · go_wp2_with (go_at_call 34; refine (rollLeast_spec _ _ _).mono ?_; rintro e w' ⟨rfl, rfl⟩)
        go_roundw
        case rel => exact ⟨m - 1, a, zs, by go_num, by omega, rfl, ha, hown, HR.out, HG.out⟩
        case measure => simp [intOf]; omega
    · go_wp2_with fail
      refine (pick_any _ _ _ _ (by omega) (by omega) (by omega) HR.out).mono ?_
      rintro e w5 ⟨x1, rfl, ha1, hb1, hR', hG'⟩
      replace hown := owns_grown hown hG' (fun b hb e => by injection e with e; have := (hown.lt b hb).1; omega)
      have hg5 := grown_trans HG.out hG'
      obtain ⟨L, d, rfl, oL⟩ := own_shape hown
      have bL : Below w.heap.size w w5 := HO.out.trans (grown_low hg5 (Nat.le_refl _) HO.out.size)
      clear hG' hR' HG HR
      by_cases h0 : 0 < x1
      · go_wp2
        go_returns
        exact ⟨f, a, p, L, d, zs, rfl, hf, by omega, hp, by omega, oL.mono (by omega), bL⟩
      · go_wp2
        go_returns
        exact ⟨f, t, p, L, d, zs, rfl, hf, ht, hp, by omega, oL.mono (by omega), bL⟩
end Go.Proofs.YtcdoopccmljaoaaDoor
