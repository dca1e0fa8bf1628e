/- Rows of lifts marked by a law. No conditions but bounds on lengths. -/
import Derived.Test.YtgohnbhnckgcnaaLiftEq
import Derived.Maps.AppendAt
namespace Go.Proofs.Ytgohnbhnckgcnaa
open Go.ChangeShapes Go.WideShapes Go.ChangeAt Go.RowKit Go.Deep
theorem lc_set (zs : List LF) (k : Nat) (h : k < zs.length) (a s : Bool) (b t : Int) : ((((lc zs).set (k * 4) (.bool a)).set (k * 4 + 1) (.int .i64 b)).set (k * 4 + 2) (.bool s)).set (k * 4 + 3) (.int .i64 t) = lc (zs.set k ((a, b), (s, t))) := by
  have e : (lc (zs.take k)).length = k * 4 := by rw [lc_len, List.length_take]; omega
  have ez : zs = zs.take k ++ zs[k] :: zs.drop (k + 1) := by rw [← List.drop_eq_getElem_cons h, List.take_append_drop]
  have e3 : lc zs = lc (zs.take k) ++ (Value.bool zs[k].1.1 :: Value.int .i64 zs[k].1.2 :: Value.bool zs[k].2.1 :: Value.int .i64 zs[k].2.2 :: lc (zs.drop (k + 1))) := by
    conv => lhs; rw [ez, lc_app]
    rfl
  rw [e3, List.set_append_right _ _ (by omega), e, Nat.sub_self, List.set_cons_zero, List.set_append_right _ _ (by omega), e, show k * 4 + 1 - k * 4 = 1 by omega,
    List.set_append_right _ _ (by omega), e, show k * 4 + 2 - k * 4 = 2 by omega, List.set_append_right _ _ (by omega), e, show k * 4 + 3 - k * 4 = 3 by omega]
  simp only [List.set_cons_succ, List.set_cons_zero]
  rw [List.set_eq_take_append_cons_drop, if_pos h, lc_app]
  rfl
set_option maxHeartbeats 1600000 in
theorem markLiftS_any (g c : Nat) (ls : List LF) (k0 : Int) (w : World) (hn : ls.length ≤ 1048576) (h0 : 0 ≤ k0) (h1 : k0 ≤ 1099511627776) (q : Row w g 60 (lc ls)) :
    Calls Try.prog 54 #[.slice (some ⟨g, 0, none⟩) ls.length c, .int .i64 k0] w fun e w' => ∃ zs : List LF, e = .returned (.int .i64 (k0 + 4 * (ls.length : Int))) ∧ zs.length = ls.length ∧ Row w' g 60 (lc zs) ∧ w.grownBy w' (some g) := by
  go_enter Try.func54, Try.ntmps54
  go_wp2
  go_loopw [1, 5] (fun v i wr => ∃ (k : Nat) (zs : List LF), k ≤ ls.length ∧ i = .int .i64 k ∧ v = .int .i64 (k0 + 4 * (k : Int)) ∧ zs.length = ls.length ∧ Row wr g 60 (lc zs) ∧ w.grownBy wr (some g)) (fun _ i _ => ls.length - (intOf i).toNat)
  case atStart => exact ⟨0, ls, Nat.zero_le _, rfl, by simp, rfl, q, World.grownBy.refl _ _⟩
  case round =>
    obtain ⟨k, zs, hk, rfl, rfl, hz, q4, hg⟩ := hrel
    by_cases hlt : k < ls.length
    · have hlen := lc_len zs
      have d1 := q4.cell (j := k * 4) (by omega)
      have d2 := q4.cell (j := k * 4 + 1) (by omega)
      have d3 := q4.cell (j := k * 4 + 2) (by omega)
      have d4 := q4.cell (j := k * 4 + 3) (by omega)
      have f1 := q4.frozen (k * 4)
      have f2 := q4.frozen (k * 4 + 1)
      have f3 := q4.frozen (k * 4 + 2)
      have f4 := q4.frozen (k * 4 + 3)
      have hzk : k < zs.length := by omega
      go_wp2_with fail
      go_roundw
      case rel =>
        refine ⟨k + 1, zs.set k (((k0 + 4 * (k : Int)) % 3 == 0, k0 + 4 * (k : Int) + 1), ((k0 + 4 * (k : Int) + 1 + 1) % 3 == 0, k0 + 4 * (k : Int) + 1 + 1 + 1)), by omega, by go_num, by go_num, by simpa using hz, ?_, ?_⟩
        rotate_left
        · exact (((hg.trans (grown_set _ ⟨g, k * 4, none⟩ _)).trans (grown_set _ ⟨g, k * 4 + 1, none⟩ _)).trans (grown_set _ ⟨g, k * 4 + 2, none⟩ _)).trans (grown_set _ ⟨g, k * 4 + 2 + 1, none⟩ _)
        · rw [← lc_set zs k hzk]
          exact (((q4.set (k * 4) _).set (k * 4 + 1) _).set (k * 4 + 2) _).set (k * 4 + 3) _
      case measure => simp [intOf]; omega
    · obtain rfl : k = ls.length := by omega
      go_wp2
      go_ret
      exact ⟨zs, rfl, hz, q4, hg⟩
end Go.Proofs.Ytgohnbhnckgcnaa
