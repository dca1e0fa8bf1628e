/- The laws' helper over lists of lifts: equal lists. No conditions but bounds on lengths. -/
import Derived.Test.YtpiiefmfiipabaaDoorLiftKit
namespace Go.Proofs.YtpiiefmfiipabaaDoor
open Go.ChangeShapes Go.WideShapes Go.ChangeAt Go.RowKit Go.Deep
set_option linter.unusedSimpArgs false in
set_option maxHeartbeats 1600000 in
theorem sameLifts_same (A B : Option Addr) (c d : Nat) (ls : List LF) (w : World) (hn : ls.length ≤ 1099511627776) (hx : Rd w w.heap.size A (lc ls)) (hy : Rd w w.heap.size B (lc ls)) :
    Calls Tryd.prog 42 #[.slice A ls.length c, .slice B ls.length d] w fun e w' => e = .returned (.bool true) ∧ Below w.heap.size w w' := by
  have b1 : ((ls.length : Int) != (ls.length : Int)) = false := by simp
  go_enter Tryd.func42, Tryd.ntmps42
  go_wp2
  go_loopw [5] (fun i wr => ∃ k : Nat, k ≤ ls.length ∧ i = .int .i64 k ∧ Drew w wr) (fun i _ => ls.length - (intOf i).toNat)
  case atStart => exact ⟨0, Nat.zero_le _, rfl, Drew.refl w⟩
  case round =>
    obtain ⟨k, hk, rfl, hdr⟩ := hrel
    by_cases hlt : k < ls.length
    · obtain ⟨b, o, rfl, _, c1, c2, c3, c4⟩ := hx.lift hlt
      obtain ⟨b', o', rfl, _, d1, d2, d3, d4⟩ := hy.lift hlt
      obtain ⟨q, rfl⟩ := hdr
      generalize ls[k] = l at *
      obtain ⟨⟨a, p⟩, ⟨s, t⟩⟩ := l
      have i0 : (0 : Int) ≤ (k : Int) := by omega
      have i1 : (k : Int) < (ls.length : Int) := by omega
      go_wp2
      go_quiet (fail)
      go_wp2
      go_roundw
      case rel => exact ⟨k + 1, by omega, by go_num, by first | exact Drew.more _ _ | exact ⟨_, rfl⟩⟩
      case measure => first | (simp [intOf]; done) | (simp [intOf]; omega)
    · go_wp2
      go_ret
      exact ⟨rfl, hdr.below _⟩
end Go.Proofs.YtpiiefmfiipabaaDoor
