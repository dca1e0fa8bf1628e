/- What is drawn from a code: thicknesses, jumps, numbers. No conditions but bounds on how often the reader was asked. -/
import Derived.Test.YtcdoopccmljaoaaDoorReader
import Derived.Test.YtcdoopccmljaoaaDoorInts
namespace Go.Proofs.YtcdoopccmljaoaaDoor
open Go.ChangeShapes Go.WideShapes Go.ChangeAt Go.RowKit Go.Deep
theorem div_bd {x y : Int} (h0 : 0 ≤ x) (h1 : 1 ≤ y) : 0 ≤ x / y ∧ x / y ≤ x := ⟨Int.ediv_nonneg h0 (by omega), Int.ediv_le_self _ h0⟩
/-- The reader was asked; nothing else that was there has turned. -/
def DrawnTo (w w' : World) (g k : Nat) : Prop := Rdr w' g k ∧ w.grownBy w' (some g)
theorem DrawnTo.more {w w' : World} {g k k' : Nat} (h : DrawnTo w w' g k) (hk : k ≤ k') : DrawnTo w w' g k' := ⟨h.1.more hk, h.2⟩
theorem grown_self (w : World) (row : Option Nat) : w.grownBy w row := World.grownBy.refl _ _
def OddOk (w : World) (g k : Nat) (e : Ending) (w' : World) : Prop := ∃ b : Bool, e = .returned (.bool b) ∧ DrawnTo w w' g k
theorem odd_any (g k : Nat) (n : Int) (w : World) (hn : 0 ≤ n) (hn1 : n ≤ 1048576) (hk : k ≤ 1048576) (hR : Rdr w g k) :
    Calls Tryd.prog 102 #[.pointer (some ⟨g, 0, none⟩), .int .i64 n] w (OddOk w g (k + 1)) := by
  have HR := hide hR
  have HG := hide (grown_self w (some g))
  clear hR
  by_cases h : 0 < n
  · go_enter Tryd.func102, Tryd.ntmps102
    go_wp2_with (go_at_call 74; refine (pick_any g _ _ _ (by omega) (by omega) (by omega) HR.out).mono ?_; rintro e w' ⟨x, rfl, hx0, hx1, hR', hG'⟩; replace HR := hide hR'; replace HG := hide (grown_trans HG.out hG'); clear hR' hG')
    go_ret
    exact ⟨_, rfl, HR.out, HG.out⟩
  · have t0 : decide (n > 0) = false := by simp; omega
    go_enter Tryd.func102, Tryd.ntmps102
    go_wp2
    go_ret
    exact ⟨_, rfl, HR.out.more (by omega), HG.out⟩
theorem thick_any (g k : Nat) (w : World) (hk : k ≤ 1048000) (hR : Rdr w g k) :
    Calls Tryd.prog 79 #[.pointer (some ⟨g, 0, none⟩)] w fun e w' => ∃ f t p : Int, e = .returned (.tuple #[.int .i64 f, .int .i64 t, .int .i64 p]) ∧ (1 ≤ f ∧ f ≤ 410) ∧ (0 ≤ t ∧ t ≤ 410) ∧ (1 ≤ p ∧ p ≤ 120) ∧ DrawnTo w w' g (k + 6) := by
  have HR := hide hR
  have HG := hide (grown_self w (some g))
  clear hR
  go_enter Tryd.func79, Tryd.ntmps79
  go_wp2_with fail
  refine (pick_any g _ _ _ (by omega) (by omega) (by omega) HR.out).mono ?_
  rintro e w' ⟨x1, rfl, hax1, hbx1, hR', hG'⟩
  replace HR := hide hR'
  replace HG := hide (grown_trans HG.out hG')
  clear hR' hG'
  go_wp2_with fail
  refine (pick_any g _ _ _ (by omega) (by omega) (by omega) HR.out).mono ?_
  rintro e w' ⟨x2, rfl, hax2, hbx2, hR', hG'⟩
  replace HR := hide hR'
  replace HG := hide (grown_trans HG.out hG')
  clear hR' hG'
  go_wp2_with fail
  generalize hF : 1 + x1 + x2 / 19 * 210 = F
  have hF1 : 1 ≤ F ∧ F ≤ 410 := by omega
  clear hF hax1 hbx1 hax2 hbx2
  refine (pick_any g _ _ _ (by omega) (by omega) (by omega) HR.out).mono ?_
  rintro e w' ⟨x3, rfl, hax3, hbx3, hR', hG'⟩
  replace HR := hide hR'
  replace HG := hide (grown_trans HG.out hG')
  clear hR' hG'
  go_wp2_with fail
  refine (pick_any g _ _ _ (by omega) (by omega) (by omega) HR.out).mono ?_
  rintro e w' ⟨x4, rfl, hax4, hbx4, hR', hG'⟩
  replace HR := hide hR'
  replace HG := hide (grown_trans HG.out hG')
  clear hR' hG'
  have hd := div_bd (y := 1 + x4) hax3 (by omega)
  go_wp2_with fail
  refine (pick_any g _ _ _ (by omega) (by omega) (by omega) HR.out).mono ?_
  rintro e w' ⟨x5, rfl, hax5, hbx5, hR', hG'⟩
  replace HR := hide hR'
  replace HG := hide (grown_trans HG.out hG')
  clear hR' hG'
  go_wp2_with fail
  refine (pick_any g _ _ _ (by omega) (by omega) (by omega) HR.out).mono ?_
  rintro e w' ⟨x6, rfl, hax6, hbx6, hR', hG'⟩
  replace HR := hide hR'
  replace HG := hide (grown_trans HG.out hG')
  clear hR' hG'
  go_wp2
  go_returns
  refine ⟨_, _, _, rfl, hF1, ⟨by omega, by omega⟩, ⟨by omega, by omega⟩, HR.out, HG.out⟩
theorem drawRollMay_any (A : Option Addr) (c : Nat) (bs : List Int) (w : World) (hkc : bs.length ≤ c) (hmc : c ≤ maxLen) (hbs : ∀ b ∈ bs, (Lit.int .u8 b).wf = true) (hrd : Rd w w.heap.size A (bc bs)) :
    Calls Tryd.prog 23 #[.slice A bs.length c] w fun e w' => ∃ f t p : Int, e = .returned (.tuple #[.int .i64 f, .int .i64 t, .int .i64 p]) ∧ (1 ≤ f ∧ f ≤ 410) ∧ (0 ≤ t ∧ t ≤ 410) ∧ (1 ≤ p ∧ p ≤ 120) ∧ Below w.heap.size w w' := by
  go_enter Tryd.func23, Tryd.ntmps23
  go_wp2_with fail
  have hB := hide hbs
  clear hbs
  refine (open_any A c bs w hkc hmc hB.out hrd).mono ?_
  rintro e w1 ⟨rfl, hR, bo⟩
  have HR := hide hR
  have HG := hide (grown_self w1 (some w.heap.size))
  have HO := hide bo
  clear hR bo
  go_wp2_with fail
  refine (thick_any w.heap.size _ _ (by omega) HR.out).mono ?_
  rintro e w2 ⟨f, t, p, rfl, hf, ht, hp, hR, hG⟩
  go_wp2
  go_returns
  exact ⟨f, t, p, rfl, hf, ht, hp, HO.out.trans (grown_low hG (Nat.le_refl _) HO.out.size)⟩
theorem drawRollsFew_any (A : Option Addr) (c : Nat) (bs : List Int) (w : World) (hkc : bs.length ≤ c) (hmc : c ≤ maxLen) (hbs : ∀ b ∈ bs, (Lit.int .u8 b).wf = true) (hrd : Rd w w.heap.size A (bc bs)) :
    Calls Tryd.prog 44 #[.slice A bs.length c] w fun e w' => ∃ f t p : Int, e = .returned (.tuple #[.int .i64 f, .int .i64 t, .int .i64 p]) ∧ (1 ≤ f ∧ f ≤ 410) ∧ (0 ≤ t ∧ t ≤ 410) ∧ (1 ≤ p ∧ p ≤ 120) ∧ Below w.heap.size w w' := by
  go_enter Tryd.func44, Tryd.ntmps44
  go_wp2_with fail
  have hB := hide hbs
  clear hbs
  refine (open_any A c bs w hkc hmc hB.out hrd).mono ?_
  rintro e w1 ⟨rfl, hR, bo⟩
  have HR := hide hR
  have HG := hide (grown_self w1 (some w.heap.size))
  have HO := hide bo
  clear hR bo
  go_wp2_with fail
  refine (thick_any w.heap.size _ _ (by omega) HR.out).mono ?_
  rintro e w2 ⟨f, t, p, rfl, hf, ht, hp, hR, hG⟩
  go_wp2
  go_returns
  exact ⟨f, t, p, rfl, hf, ht, hp, HO.out.trans (grown_low hG (Nat.le_refl _) HO.out.size)⟩
theorem drawRollsFor_any (A : Option Addr) (c : Nat) (bs : List Int) (w : World) (hkc : bs.length ≤ c) (hmc : c ≤ maxLen) (hbs : ∀ b ∈ bs, (Lit.int .u8 b).wf = true) (hrd : Rd w w.heap.size A (bc bs)) :
    Calls Tryd.prog 47 #[.slice A bs.length c] w fun e w' => ∃ f t p : Int, e = .returned (.tuple #[.int .i64 f, .int .i64 t, .int .i64 p]) ∧ (1 ≤ f ∧ f ≤ 410) ∧ (0 ≤ t ∧ t ≤ 410) ∧ (1 ≤ p ∧ p ≤ 120) ∧ Below w.heap.size w w' := by
  go_enter Tryd.func47, Tryd.ntmps47
  go_wp2_with fail
  have hB := hide hbs
  clear hbs
  refine (open_any A c bs w hkc hmc hB.out hrd).mono ?_
  rintro e w1 ⟨rfl, hR, bo⟩
  have HR := hide hR
  have HG := hide (grown_self w1 (some w.heap.size))
  have HO := hide bo
  clear hR bo
  go_wp2_with fail
  refine (thick_any w.heap.size _ _ (by omega) HR.out).mono ?_
  rintro e w2 ⟨f, t, p, rfl, hf, ht, hp, hR, hG⟩
  go_wp2
  go_returns
  exact ⟨f, t, p, rfl, hf, ht, hp, HO.out.trans (grown_low hG (Nat.le_refl _) HO.out.size)⟩
end Go.Proofs.YtcdoopccmljaoaaDoor
