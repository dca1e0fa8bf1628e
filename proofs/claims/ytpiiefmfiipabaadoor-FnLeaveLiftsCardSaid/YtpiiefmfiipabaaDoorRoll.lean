/- What the small rolling functions compute, the program's and the reference's, for every argument. No conditions. -/
import Derived.Test.YtpiiefmfiipabaaDoorRows
import Derived.Test.YtpiiefmfiipabaaDoorLib
import Derived.WalkLawsBesides

import Derived.LoopTactic
namespace Go.Proofs.YtpiiefmfiipabaaDoor
open Go.ChangeShapes Go.WideShapes Go.ChangeAt Go.RowKit Go.Deep

def inR (n lo hi : Int) : Bool := decide (lo ≤ n) && decide (n ≤ hi)
theorem inR_iff {n lo hi : Int} : inR n lo hi = true ↔ lo ≤ n ∧ n ≤ hi := by simp [inR]
theorem inR_not {n lo hi : Int} : ¬ inR n lo hi = true ↔ n < lo ∨ hi < n := by rw [inR_iff]; omega
theorem inR_false {n lo hi : Int} : inR n lo hi = false ↔ n < lo ∨ hi < n := by rw [← inR_not]; simp
theorem inR_mk {n lo hi : Int} (h1 : lo ≤ n) (h2 : n ≤ hi) : inR n lo hi = true := inR_iff.2 ⟨h1, h2⟩
theorem ret_bool {a b : Bool} (h : a = b) : Ending.returned (.bool a) = Ending.returned (.bool b) := by rw [h]
theorem notF {b : Bool} (h : (!b) = false) : b = true := by simpa using h
theorem notT {b : Bool} (h : (!b) = true) : b = false := by simpa using h
theorem ret_int {a b : Int} (h : a = b) : Ending.returned (.int .i64 a) = Ending.returned (.int .i64 b) := by rw [h]

theorem within_any (n lo hi : Int) (w : World) :
    Calls Tryd.prog 67 #[.int .i64 n, .int .i64 lo, .int .i64 hi] w fun e w' => e = .returned (.bool (inR n lo hi)) ∧ w = w' := by
  by_cases h : lo ≤ n
  · go_enter Tryd.func67, Tryd.ntmps67
    go_wp2
    go_ret
    simp [inR, h]
  · go_enter Tryd.func67, Tryd.ntmps67
    go_wp2
    go_ret
    simp [inR]; omega
theorem l1In_any (n lo hi : Int) (w : World) :
    Calls Tryd.prog 70 #[.int .i64 n, .int .i64 lo, .int .i64 hi] w fun e w' => e = .returned (.bool (inR n lo hi)) ∧ w = w' := by
  by_cases h : lo ≤ n
  · go_enter Tryd.func70, Tryd.ntmps70
    go_wp2
    go_ret
    simp [inR, h]
  · go_enter Tryd.func70, Tryd.ntmps70
    go_wp2
    go_ret
    simp [inR]; omega




end Go.Proofs.YtpiiefmfiipabaaDoor
