/- What is drawn from a code: thicknesses, jumps, numbers. No conditions but bounds on how often the reader was asked. -/
import Derived.Test.YtpiiefmfiipabaaDoorReader
import Derived.Test.YtpiiefmfiipabaaDoorInts
namespace Go.Proofs.YtpiiefmfiipabaaDoor
open Go.ChangeShapes Go.WideShapes Go.ChangeAt Go.RowKit Go.Deep
theorem div_bd {x y : Int} (h0 : 0 ≤ x) (h1 : 1 ≤ y) : 0 ≤ x / y ∧ x / y ≤ x := ⟨Int.ediv_nonneg h0 (by omega), Int.ediv_le_self _ h0⟩
/-- The reader was asked; nothing else that was there has turned. -/
def DrawnTo (w w' : World) (g k : Nat) : Prop := Rdr w' g k ∧ w.grownBy w' (some g)
theorem DrawnTo.more {w w' : World} {g k k' : Nat} (h : DrawnTo w w' g k) (hk : k ≤ k') : DrawnTo w w' g k' := ⟨h.1.more hk, h.2⟩
theorem grown_self (w : World) (row : Option Nat) : w.grownBy w row := World.grownBy.refl _ _
def OddOk (w : World) (g k : Nat) (e : Ending) (w' : World) : Prop := ∃ b : Bool, e = .returned (.bool b) ∧ DrawnTo w w' g k
theorem odd_any (g k : Nat) (n : Int) (w : World) (hn : 0 ≤ n) (hn1 : n ≤ 1048576) (hk : k ≤ 1048576) (hR : Rdr w g k) :
    Calls Tryd.prog 87 #[.pointer (some ⟨g, 0, none⟩), .int .i64 n] w (OddOk w g (k + 1)) := by
  have HR := hide hR
  have HG := hide (grown_self w (some g))
  clear hR
  by_cases h : 0 < n
  · go_enter Tryd.func87, Tryd.ntmps87
    go_wp2_with (go_at_call 82; refine (pick_any g _ _ _ (by omega) (by omega) (by omega) HR.out).mono ?_; rintro e w' ⟨x, rfl, hx0, hx1, hR', hG'⟩; replace HR := hide hR'; replace HG := hide (grown_trans HG.out hG'); clear hR' hG')
    go_ret
    exact ⟨_, rfl, HR.out, HG.out⟩
  · have t0 : decide (n > 0) = false := by simp; omega
    go_enter Tryd.func87, Tryd.ntmps87
    go_wp2
    go_ret
    exact ⟨_, rfl, HR.out.more (by omega), HG.out⟩
end Go.Proofs.YtpiiefmfiipabaaDoor
