/- Rows of sheets drawn from a code, for the laws. No conditions. -/
import Derived.Test.YtcdoopccmljaoaaDoorDraw3
namespace Go.Proofs.YtcdoopccmljaoaaDoor
open Go.ChangeShapes Go.WideShapes Go.ChangeAt Go.RowKit Go.Deep
/-- A row of sheets, drawn from a code. -/
def SheetsFrom (w : World) (e : Ending) (w' : World) : Prop :=
  ∃ (A : Option Addr) (c : Nat) (zs : List (Int × Int)), e = .returned (.slice A zs.length c) ∧ zs.length ≤ 11 ∧ zs.length ≤ c ∧ c ≤ maxLen ∧ Bnd zs ∧ Own w' w.heap.size 24 A (sc zs) ∧ (A = none → zs = []) ∧ Below w.heap.size w w'
theorem drawSheetsValid_any (A : Option Addr) (c : Nat) (bs : List Int) (w : World) (hkc : bs.length ≤ c) (hmc : c ≤ maxLen) (hbs : ∀ b ∈ bs, (Lit.int .u8 b).wf = true) (hrd : Rd w w.heap.size A (bc bs)) :
    Calls Tryd.prog 41 #[.slice A bs.length c] w (SheetsFrom w) := by
  have hB := hide hbs
  clear hbs
  go_enter Tryd.func41, Tryd.ntmps41
  go_wp2_with fail
  refine (open_any A c bs w hkc hmc hB.out hrd).mono ?_
  rintro e w1 ⟨rfl, hR, bo⟩
  go_wp2_with fail
  refine (sheets_any w.heap.size _ _ _ (by omega) (by omega) (by omega) hR).mono ?_
  rintro e w2 ⟨L, d, zs, rfl, h1, h2, h3, h4, oL, hn, hR', hG'⟩
  go_wp2
  go_ret
  exact ⟨L, d, zs, rfl, h1, h2, h3, h4, oL.mono bo.size, hn, bo.trans (grown_low hG' (Nat.le_refl _) bo.size)⟩
theorem sheetsValid_at (A : Option Addr) (c n : Nat) (zs : List (Int × Int)) (w : World) (hl : zs.length = n) (hn : n ≤ 1099511627776) (hr : Rd w w.heap.size A (sc zs)) :
    Calls Tryd.prog 42 #[.slice A n c] w fun e w' => e = .returned (.bool (sheetsValid zs)) ∧ Below w.heap.size w w' := by
  subst hl; exact sheetsValid_any A c zs w hn hr
end Go.Proofs.YtcdoopccmljaoaaDoor
