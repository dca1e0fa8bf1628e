/- The laws' helpers over piles: equal piles, ascending numbers. No conditions but bounds on lengths. -/
import Derived.Test.YtpiiefmfiipabaaDoorPileLaw
import Derived.Test.YtpiiefmfiipabaaDoorHas
namespace Go.Proofs.YtpiiefmfiipabaaDoor
open Go.ChangeShapes Go.WideShapes Go.ChangeAt Go.RowKit Go.Deep
theorem samePile_any (A A' B B' : Option Addr) (c c' d d' : Nat) (p q : PL) (w : World) (hp : small p) (rp : RdP w w.heap.size A A' p) (rq : RdP w w.heap.size B B' q) :
    Calls Tryd.prog 35 #[.agg #[.slice A p.1.length c, .slice A' p.2.length c'], .agg #[.slice B q.1.length d, .slice B' q.2.length d']] w fun e w' => e = .returned (.bool (decide (p = q))) ∧ Below w.heap.size w w' := by
  go_enter Tryd.func35, Tryd.ntmps35
  go_wp2_with fail
  have b0 := bel_two w (.cells #[.slice A p.1.length c, .slice A' p.2.length c'] 25) (.cells #[.slice B q.1.length d, .slice B' q.2.length d'] 25)
  refine (sameInts_any _ _ _ _ p.1 q.1 _ hp.1 (rp.up b0).1 (rq.up b0).1).mono ?_
  rintro e w1 ⟨rfl, k, rfl⟩
  by_cases h1 : p.1 = q.1
  · rw [decide_eq_true h1]
    have H1 := hide h1
    clear h1
    go_wp2_with fail
    refine (sameInts_any _ _ _ _ p.2 q.2 _ hp.2 ((rp.up b0).2.up (Drew.below ⟨k, rfl⟩ _)) ((rq.up b0).2.up (Drew.below ⟨k, rfl⟩ _))).mono ?_
    rintro e w2 ⟨rfl, dr⟩
    have b2 := (b0.trans (Drew.below ⟨k, rfl⟩ _)).trans (dr.below _)
    by_cases h2 : p.2 = q.2
    · have H2 := hide (show decide (p = q) = true from decide_eq_true (Prod.ext H1.out h2))
      rw [decide_eq_true h2]
      clear h2
      go_wp2
      go_ret
      exact ⟨ret_bool H2.out.symm, b2⟩
    · have H2 := hide (show decide (p = q) = false from decide_eq_false fun e => h2 (by rw [e]))
      rw [decide_eq_false h2]
      clear h2
      go_wp2
      go_ret
      exact ⟨ret_bool H2.out.symm, b2⟩
  · have H2 := hide (show decide (p = q) = false from decide_eq_false fun e => h1 (by rw [e]))
    rw [decide_eq_false h1]
    clear h1
    go_wp2
    go_ret
    exact ⟨ret_bool H2.out.symm, b0.trans (Drew.below ⟨k, rfl⟩ _)⟩
theorem samePile_same (A A' B B' : Option Addr) (c c' d d' : Nat) (p : PL) (w : World) (hp : small p) (rp : RdP w w.heap.size A A' p) (rq : RdP w w.heap.size B B' p) :
    Calls Tryd.prog 35 #[.agg #[.slice A p.1.length c, .slice A' p.2.length c'], .agg #[.slice B p.1.length d, .slice B' p.2.length d']] w fun e w' => e = .returned (.bool true) ∧ Below w.heap.size w w' :=
  (samePile_any A A' B B' c c' d d' p p w hp rp rq).mono fun _ _ ⟨he, hb⟩ => ⟨by rw [he]; simp, hb⟩
theorem ascend_any (A : Option Addr) (c : Nat) (zs : List Int) (w : World) (hn : zs.length ≤ 1099511627776) (hp : zs.Pairwise (· < ·)) (hr : Rd w w.heap.size A (ic zs)) :
    Calls Tryd.prog 61 #[.slice A zs.length c] w fun e w' => e = .returned (.bool true) ∧ Below w.heap.size w w' := by
  have HP := hide hp
  clear hp
  go_enter Tryd.func61, Tryd.ntmps61
  go_wp2
  go_loopw [3] (fun i wr => ∃ m : Nat, (m < zs.length ∨ m = 0) ∧ i = .int .i64 ((m : Int) + 1) ∧ Drew w wr) (fun i _ => zs.length - (intOf i).toNat)
  case atStart => exact ⟨0, .inr rfl, rfl, Drew.refl w⟩
  case round =>
    obtain ⟨m, hm, rfl, hdr⟩ := hrel
    by_cases hlt : m + 1 < zs.length
    · obtain ⟨b, o, rfl, _, hc⟩ := hr.int (k := m) (by omega)
      obtain ⟨b', o', hB, _, hc'⟩ := hr.int (k := m + 1) hlt
      cases hB
      obtain ⟨q, rfl⟩ := hdr
      have hlt' : zs[m] < zs[m + 1] := List.pairwise_iff_getElem.1 HP.out m (m + 1) (by omega) hlt (by omega)
      generalize zs[m] = x at *
      generalize zs[m + 1] = y at *
      have i0 : (0 : Int) ≤ (m : Int) := by omega
      have i1 : (m : Int) < (zs.length : Int) := by omega
      have i2 : (m : Int) + 1 < (zs.length : Int) := by omega
      have t1 : decide (x ≥ y) = false := by simp; omega
      go_wp2
      go_quiet (fail)
      go_wp2
      go_roundw
      case rel => exact ⟨m + 1, .inl hlt, by go_num, by first | exact Drew.more _ _ | exact ⟨_, rfl⟩⟩
      case measure => simp [intOf]; omega
    · go_wp2
      go_ret
      exact ⟨rfl, hdr.below _⟩
end Go.Proofs.YtpiiefmfiipabaaDoor
