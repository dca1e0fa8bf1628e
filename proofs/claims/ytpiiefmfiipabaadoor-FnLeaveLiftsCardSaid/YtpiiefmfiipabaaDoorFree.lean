/- The reference's l6Free: the first free spot. No conditions but on lengths. -/
import Derived.Test.YtpiiefmfiipabaaDoorCoilDig
import Derived.Test.YtpiiefmfiipabaaDoorHas
import Derived.Test.YtpiiefmfiipabaaDoorLBox
namespace Go.Proofs.YtpiiefmfiipabaaDoor
open Go.ChangeShapes Go.WideShapes Go.ChangeAt Go.RowKit Go.Deep
/-- Is it this place? -/
def isAt (k b : Int) : Bool := decide (k = b)
def freeV (x : PL) (b : Int) : Bool × Int := ((freeTo x b).map fun s => (s.1, (s.2 : Int))).getD (false, 0)
theorem has_one (B : Option Addr) (d : Nat) (b k : Int) (w : World) (hr : Rd w w.heap.size B (ic [b])) :
    Calls Tryd.prog 71 #[.slice B 1 d, .int .i64 k] w fun e w' => e = .returned (.bool (isAt k b)) ∧ w = w' :=
  (has_any B d [b] k w (by simp) hr).mono fun _ _ ⟨he, hw⟩ => ⟨by rw [he]; simp [isAt], hw⟩
theorem free_low {x : PL} {b : Int} {k : Nat} (hk : k < x.1.length) (h0 : x.1[k] = 0) (hb : ¬ (k : Int) = b) (hn : ∀ m, m < k → lowFreeP x b m = false) : freeTo x b = some (false, k) := by
  have : (List.range x.1.length).find? (lowFreeP x b) = some k := find_range_some hk (by simp [lowFreeP, List.getD_eq_getElem?_getD, List.getElem?_eq_getElem hk, h0, hb]) hn
  unfold freeTo; rw [this]; rfl
theorem low_at {x : PL} {b : Int} {k : Nat} (hk : k < x.1.length) : lowFreeP x b k = (decide (x.1[k] = 0) && decide ((k : Int) ≠ b)) := by
  simp [lowFreeP, List.getD_eq_getElem?_getD, List.getElem?_eq_getElem hk]
theorem high_at {x : PL} {b : Int} {k : Nat} (hk : k < x.2.length) (hl : k + 1 < x.1.length) : highFreeP x b k = (decide (x.2[k] = 0) && (decide (0 < x.1[k]'(by omega)) && (decide (0 < x.1[k + 1]) && (decide ((k : Int) ≠ b) && decide ((k : Int) + 1 ≠ b))))) := by
  simp [highFreeP, List.getD_eq_getElem?_getD, List.getElem?_eq_getElem hk, List.getElem?_eq_getElem hl, List.getElem?_eq_getElem (show k < x.1.length by omega)]
theorem free_high {x : PL} {b : Int} {k : Nat} (hl : ∀ m, m < x.1.length → lowFreeP x b m = false) (hk : k < x.2.length) (h : highFreeP x b k = true) (hn : ∀ m, m < k → highFreeP x b m = false) : freeTo x b = some (true, k) := by
  have h1 : (List.range x.1.length).find? (lowFreeP x b) = none := find_range_none hl
  have h2 : (List.range x.2.length).find? (highFreeP x b) = some k := find_range_some hk h hn
  unfold freeTo; rw [h1, h2]; rfl
theorem free_none {x : PL} {b : Int} (hl : ∀ m, m < x.1.length → lowFreeP x b m = false) (hh : ∀ m, m < x.2.length → highFreeP x b m = false) : freeTo x b = none := by
  have h1 : (List.range x.1.length).find? (lowFreeP x b) = none := find_range_none hl
  have h2 : (List.range x.2.length).find? (highFreeP x b) = none := find_range_none hh
  unfold freeTo; rw [h1, h2]; rfl
theorem upto_more {P : Nat → Prop} {m : Nat} (h : ∀ i, i < m → P i) (k : P m) : ∀ i, i < m + 1 → P i := fun i hi => by
  rcases Nat.lt_or_ge i m with h1 | h1
  · exact h i h1
  · rw [show i = m by omega]; exact k
theorem put_two {w : World} {g : Nat} {T : TypeId} {u v : Value} (q : Row w g T [u, v]) (a b : Value) : Row ((w.setCell ⟨g, 0, none⟩ a).setCell ⟨g, 1, none⟩ b) g T [a, b] := by
  have := (q.set 0 a).set 1 b
  simpa using this
set_option linter.unusedSimpArgs false in
set_option linter.unusedVariables false in
set_option maxHeartbeats 2000000 in
set_option maxRecDepth 100000 in
theorem l6Free_any (A A' B : Option Addr) (c c' d : Nat) (x : PL) (b : Int) (w : World) (h6 : x.1.length ≤ 6) (hup : x.2.length + 1 = x.1.length) (rp : RdP w w.heap.size A A' x) (rb : Rd w w.heap.size B (ic [b])) :
    Calls Tryd.prog 85 #[.agg #[.slice A x.1.length c, .slice A' x.2.length c'], .slice B 1 d] w fun e w' => e = .returned (.tuple #[.agg #[.bool (freeV x b).1, .int .i64 (freeV x b).2], .bool (freeTo x b).isSome]) ∧ Below w.heap.size w w' := by
  go_enter Tryd.func85, Tryd.ntmps85
  go_wp2_with fail
  have q0 := (Row.new w 25 #[.slice A x.1.length c, .slice A' x.2.length c']).alloc (.cells #[.bool false, .int .i64 0] 31)
  have q1 : Row ((w.alloc (.cells #[.slice A x.1.length c, .slice A' x.2.length c'] 25)).alloc (.cells #[.bool false, .int .i64 0] 31)) (w.heap.size + 1) 31 [.bool false, .int .i64 0] := (Row.new (w.alloc (.cells #[.slice A x.1.length c, .slice A' x.2.length c'] 25)) 31 #[.bool false, .int .i64 0]).eq (by simp)
  have b0 := bel_two w (.cells #[.slice A x.1.length c, .slice A' x.2.length c'] 25) (.cells #[.bool false, .int .i64 0] 31)
  have hz0 : ((w.alloc (.cells #[.slice A x.1.length c, .slice A' x.2.length c'] 25)).alloc (.cells #[.bool false, .int .i64 0] 31)).heap.size = w.heap.size + 1 + 1 := by simp
  replace rp := rp.up b0
  replace rb := rb.up b0
  generalize (w.alloc (.cells #[.slice A x.1.length c, .slice A' x.2.length c'] 25)).alloc (.cells #[.bool false, .int .i64 0] 31) = w0 at *
  obtain ⟨K0, K1, _, _⟩ := q0.ext2
  clear q0
  obtain ⟨x0, hx0⟩ := ext_self w0
  rw [← hx0]
  clear hx0
  go_loopw [6] (fun i wr => ∃ (k : Nat) (y : Ext w0), k ≤ x.1.length ∧ i = .int .i64 k ∧ wr = y.val ∧ Hid (∀ m, m < k → lowFreeP x b m = false)) (fun i _ => x.1.length - (intOf i).toNat)
  case atStart => exact ⟨0, x0, Nat.zero_le _, rfl, rfl, hide (fun m h => absurd h (Nat.not_lt_zero _))⟩
  case round =>
    obtain ⟨k, y, hk, rfl, rfl, hN⟩ := hrel
    by_cases hlt : k < x.1.length
    · obtain ⟨bl, o, rfl, _, hc⟩ := rp.1.int hlt
      have C0 := Ext.old hc
      have HL := hide (low_at (x := x) (b := b) hlt)
      have HF := hide (fun h0 hb => free_low (x := x) (b := b) hlt h0 hb hN.out)
      generalize x.1[k] = u at *
      clear hc
      by_cases h0 : u = 0
      · subst h0
        by_cases hb : (k : Int) = b
        · have t1 : isAt (k : Int) b = true := decide_eq_true hb
          have HL' := hide (show lowFreeP x b k = false by rw [HL.out]; simp [hb])
          clear HL HF hb
          go_wp2_with (go_at_call 71; refine (has_one B d b _ _ (rb.up (Ext.below _))).mono ?_; rintro e w' ⟨rfl, rfl⟩)
          go_roundw
          case rel => exact ⟨k + 1, y, by omega, by go_num, rfl, hide (upto_more hN.out HL'.out)⟩
          case measure => simp [intOf]; omega
        · have t1 : isAt (k : Int) b = false := decide_eq_false hb
          have HG := hide (HF.out (by first | rfl | trivial) hb)
          clear HL HF hb
          have hF := hide HG.out
          have qS := q1.after y.below
          obtain ⟨e0, e1⟩ := qS.boxed
          have f0 := qS.frozen 0
          have f1 := qS.frozen 1
          have p2 := put_two qS (.bool false) (.int .i64 (k : Int))
          obtain ⟨m0, m1⟩ := p2.boxed
          have b4 := ((via b0 y.below b0.size).setCell (p := ⟨w.heap.size + 1, 0, none⟩) (by simp only; omega) (.bool false)).setCell (p := ⟨w.heap.size + 1, 1, none⟩) (by simp only; omega) (.int .i64 (k : Int))
          go_wp2_with (go_at_call 71; refine (has_one B d b _ _ (rb.up (Ext.below _))).mono ?_; rintro e w' ⟨rfl, rfl⟩)
          (try simp only [Exit.inBlock, Exit.then])
          refine bodyPost_ret (by simp [results, Tryd.results85, go_sem, m0, m1]; try rfl) rfl ?_
          refine ⟨by unfold freeV; rw [hF.out]; rfl, ?_⟩
          exact b4
      · have t0 : (u == 0) = false := beq_false_of_ne h0
        have HL' := hide (show lowFreeP x b k = false by rw [HL.out]; simp [h0])
        clear HL HF h0
        go_wp2_with (go_at_call 71; refine (has_one B d b _ _ (rb.up (Ext.below _))).mono ?_; rintro e w' ⟨rfl, rfl⟩)
        go_roundw
        case rel => exact ⟨k + 1, y, by omega, by go_num, rfl, hide (upto_more hN.out HL'.out)⟩
        case measure => simp [intOf]; omega
    · obtain rfl : k = x.1.length := by omega
      have hLow := hN
      go_wp2_with fail
      go_loopw [7] (fun i wr => ∃ (k : Nat) (y : Ext w0), k ≤ x.2.length ∧ i = .int .i64 k ∧ wr = y.val ∧ Hid (∀ m, m < k → highFreeP x b m = false)) (fun i _ => x.2.length - (intOf i).toNat)
      case atStart => exact ⟨0, y, Nat.zero_le _, rfl, rfl, hide (fun m h => absurd h (Nat.not_lt_zero _))⟩
      case round =>
        clear hk hlt hN
        obtain ⟨k, y, hk, rfl, rfl, hN⟩ := hrel
        by_cases hlt : k < x.2.length
        · have hl1 : k + 1 < x.1.length := by omega
          obtain ⟨bh, oh, rfl, _, hch⟩ := rp.2.int hlt
          obtain ⟨bl, o, rfl, _, hc⟩ := rp.1.int (k := k) (by omega)
          obtain ⟨bl', o', hA, _, hc'⟩ := rp.1.int (k := k + 1) hl1
          cases hA
          have C0 := Ext.old hch
          have C1 := Ext.old hc
          have C2 := Ext.old hc'
          have HL := hide (high_at (x := x) (b := b) hlt hl1)
          have HF := hide (fun h => free_high (x := x) (b := b) hLow.out hlt h hN.out)
          have i0 : (k : Int) < (x.1.length : Int) := by omega
          have i1 : (k : Int) + 1 < (x.1.length : Int) := by omega
          generalize x.2[k] = u at *
          generalize x.1[k + 1] = v' at *
          generalize x.1[k]'(by omega) = v at *
          clear hc hc' hch
          by_cases h0 : u = 0
          · subst h0
            by_cases h1 : 0 < v
            · have t1 : decide (v > 0) = true := by simpa using h1
              by_cases h2 : 0 < v'
              · have t2 : decide (v' > 0) = true := by simpa using h2
                by_cases h3 : (k : Int) = b
                · have t3 : isAt (k : Int) b = true := decide_eq_true h3
                  have HL' := hide (show highFreeP x b k = false by rw [HL.out]; simp [h3])
                  clear HL HF h3
                  go_wp2_with (go_at_call 71; refine (has_one B d b _ _ (rb.up (Ext.below _))).mono ?_; rintro e w' ⟨rfl, rfl⟩)
                  go_roundw
                  case rel => exact ⟨k + 1, y, by omega, by go_num, rfl, hide (upto_more hN.out HL'.out)⟩
                  case measure => simp [intOf]; omega
                · have t3 : isAt (k : Int) b = false := decide_eq_false h3
                  by_cases h4 : (k : Int) + 1 = b
                  · have t4 : isAt ((k : Int) + 1) b = true := decide_eq_true h4
                    have HL' := hide (show highFreeP x b k = false by rw [HL.out]; simp [h4])
                    clear HL HF h4 h3
                    go_wp2_with (go_at_call 71; refine (has_one B d b _ _ (rb.up (Ext.below _))).mono ?_; rintro e w' ⟨rfl, rfl⟩)
                    go_roundw
                    case rel => exact ⟨k + 1, y, by omega, by go_num, rfl, hide (upto_more hN.out HL'.out)⟩
                    case measure => simp [intOf]; omega
                  · have t4 : isAt ((k : Int) + 1) b = false := decide_eq_false h4
                    have HG := hide (HF.out (by rw [HL.out]; simp [h1, h2, h3, h4]))
                    clear HL HF h3 h4
                    have hF := hide HG.out
                    have qS := q1.after y.below
                    obtain ⟨e0, e1⟩ := qS.boxed
                    have f0 := qS.frozen 0
                    have f1 := qS.frozen 1
                    have p2 := put_two qS (.bool true) (.int .i64 (k : Int))
                    obtain ⟨m0, m1⟩ := p2.boxed
                    have b4 := ((via b0 y.below b0.size).setCell (p := ⟨w.heap.size + 1, 0, none⟩) (by simp only; omega) (.bool true)).setCell (p := ⟨w.heap.size + 1, 1, none⟩) (by simp only; omega) (.int .i64 (k : Int))
                    go_wp2_with (go_at_call 71; refine (has_one B d b _ _ (rb.up (Ext.below _))).mono ?_; rintro e w' ⟨rfl, rfl⟩)
                    (try simp only [Exit.inBlock, Exit.then])
                    refine bodyPost_ret (by simp [results, Tryd.results85, go_sem, m0, m1]; try rfl) rfl ?_
                    refine ⟨by unfold freeV; rw [hF.out]; rfl, ?_⟩
                    exact b4
              · have t2 : decide (v' > 0) = false := by simpa using h2
                have HL' := hide (show highFreeP x b k = false by rw [HL.out]; simp [h2])
                clear HL HF h2
                go_wp2_with (go_at_call 71; refine (has_one B d b _ _ (rb.up (Ext.below _))).mono ?_; rintro e w' ⟨rfl, rfl⟩)
                go_roundw
                case rel => exact ⟨k + 1, y, by omega, by go_num, rfl, hide (upto_more hN.out HL'.out)⟩
                case measure => simp [intOf]; omega
            · have t1 : decide (v > 0) = false := by simpa using h1
              have HL' := hide (show highFreeP x b k = false by rw [HL.out]; simp [h1])
              clear HL HF h1
              go_wp2_with (go_at_call 71; refine (has_one B d b _ _ (rb.up (Ext.below _))).mono ?_; rintro e w' ⟨rfl, rfl⟩)
              go_roundw
              case rel => exact ⟨k + 1, y, by omega, by go_num, rfl, hide (upto_more hN.out HL'.out)⟩
              case measure => simp [intOf]; omega
          · have t0 : (u == 0) = false := beq_false_of_ne h0
            have HL' := hide (show highFreeP x b k = false by rw [HL.out]; simp [h0])
            clear HL HF h0
            go_wp2_with (go_at_call 71; refine (has_one B d b _ _ (rb.up (Ext.below _))).mono ?_; rintro e w' ⟨rfl, rfl⟩)
            go_roundw
            case rel => exact ⟨k + 1, y, by omega, by go_num, rfl, hide (upto_more hN.out HL'.out)⟩
            case measure => simp [intOf]; omega
        · obtain rfl : k = x.2.length := by omega
          have hF := hide (free_none hLow.out hN.out)
          have qS := q1.after y.below
          obtain ⟨e0, e1⟩ := qS.boxed
          have f0 := qS.frozen 0
          have f1 := qS.frozen 1
          have p2 := put_two qS (.bool false) (.int .i64 0)
          obtain ⟨m0, m1⟩ := p2.boxed
          have b4 := ((via b0 y.below b0.size).setCell (p := ⟨w.heap.size + 1, 0, none⟩) (by simp only; omega) (.bool false)).setCell (p := ⟨w.heap.size + 1, 1, none⟩) (by simp only; omega) (.int .i64 0)
          go_wp2_with (go_at_call 71; refine (has_one B d b _ _ (rb.up (Ext.below _))).mono ?_; rintro e w' ⟨rfl, rfl⟩)
          (try simp only [Exit.inBlock, Exit.then])
          refine bodyPost_ret (by simp [results, Tryd.results85, go_sem, m0, m1]; try rfl) rfl ?_
          refine ⟨by unfold freeV; rw [hF.out]; rfl, ?_⟩
          exact b4
end Go.Proofs.YtpiiefmfiipabaaDoor
