/- Rows of lifts in a law: the budget and the copy. No conditions. -/
import Derived.Test.YtpiiefmfiipabaaDoorLiftRun
namespace Go.Proofs.YtpiiefmfiipabaaDoor
open Go.ChangeShapes Go.WideShapes Go.ChangeAt Go.RowKit Go.Deep
def szL (l : Int) (n : Nat) : Int := if l < (n : Int) then -1 else l - (n : Int)
def l0 : LF := ((false, 0), (false, 0))
def lfill (ls : List LF) (k : Nat) : List LF := ls.take k ++ List.replicate (ls.length - k) l0
theorem lfill_len (ls : List LF) (k : Nat) (h : k ≤ ls.length) : (lfill ls k).length = ls.length := by simp [lfill]; omega
theorem lfill_all (ls : List LF) : lfill ls ls.length = ls := by simp [lfill]
theorem lc_app (xs ys : List LF) : lc (xs ++ ys) = lc xs ++ lc ys := by simp [lc]
theorem lfill_set (ls : List LF) (k : Nat) (h : k < ls.length) : ((((lc (lfill ls k)).set (k * 4) (.bool ls[k].1.1)).set (k * 4 + 1) (.int .i64 ls[k].1.2)).set (k * 4 + 2) (.bool ls[k].2.1)).set (k * 4 + 3) (.int .i64 ls[k].2.2) = lc (lfill ls (k + 1)) := by
  have e2 : ls.length - k = (ls.length - (k + 1)) + 1 := by omega
  have e : (lc (ls.take k)).length = k * 4 := by rw [lc_len, List.length_take]; omega
  have e3 : lc (lfill ls k) = lc (ls.take k) ++ (Value.bool false :: Value.int .i64 0 :: Value.bool false :: Value.int .i64 0 :: lc (List.replicate (ls.length - (k + 1)) l0)) := by
    rw [lfill, lc_app, e2, List.replicate_succ]; rfl
  rw [e3, List.set_append_right _ _ (by omega), e, Nat.sub_self, List.set_cons_zero, List.set_append_right _ _ (by omega), e, show k * 4 + 1 - k * 4 = 1 by omega,
    List.set_append_right _ _ (by omega), e, show k * 4 + 2 - k * 4 = 2 by omega, List.set_append_right _ _ (by omega), e, show k * 4 + 3 - k * 4 = 3 by omega]
  simp only [List.set_cons_succ, List.set_cons_zero]
  rw [lfill, lc_app, List.take_succ_eq_append_getElem h, lc_app, List.append_assoc]
  rfl
end Go.Proofs.YtpiiefmfiipabaaDoor
