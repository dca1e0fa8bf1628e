/- CoilFind, CoilAt and their helpers, the program's and the reference's. No conditions but bounds on lengths. -/
import Derived.Test.YtpiiefmfiipabaaDoorPileValid
import Derived.Test.YtpiiefmfiipabaaDoorCoilDig
namespace Go.Proofs.YtpiiefmfiipabaaDoor
open Go.ChangeShapes Go.WideShapes Go.ChangeAt Go.RowKit Go.Deep
theorem find_no {p : PL} {id : Int} (h : ¬ (pileValid p = true ∧ 1 ≤ id)) : coilFind p id = none := by
  unfold coilFind; rw [if_neg]; simpa using h
theorem find_low {p : PL} {id : Int} (h : pileValid p = true) (h1 : 1 ≤ id) (h2 : id ∈ p.1) : coilFind p id = some (false, p.1.idxOf id) := by
  unfold coilFind; rw [if_pos (by simp [h, h1]), if_pos h2]
theorem find_high {p : PL} {id : Int} (h : pileValid p = true) (h1 : 1 ≤ id) (h2 : id ∉ p.1) (h3 : id ∈ p.2) : coilFind p id = some (true, p.2.idxOf id) := by
  unfold coilFind; rw [if_pos (by simp [h, h1]), if_neg h2, if_pos h3]
theorem find_none {p : PL} {id : Int} (h2 : id ∉ p.1) (h3 : id ∉ p.2) : coilFind p id = none := by
  unfold coilFind; rw [if_neg h2, if_neg h3]; simp
/-- Neither row has the coil ahead of place k. -/
def NF (p : PL) (id : Int) (k : Nat) : Prop := ∀ j, j < k → p.1[j]? ≠ some id ∧ p.2[j]? ≠ some id
theorem nf_take {z : List Int} {id : Int} {k : Nat} (h : ∀ j, j < k → z[j]? ≠ some id) : id ∉ z.take k := by
  intro hm
  obtain ⟨j, hj⟩ := List.mem_iff_getElem?.1 hm
  rw [List.getElem?_take] at hj
  split at hj
  · rename_i hk; exact h j hk hj
  · cases hj
theorem idxOf_at {z : List Int} {id : Int} {k : Nat} (hk : k < z.length) (he : z[k] = id) (h : ∀ j, j < k → z[j]? ≠ some id) : id ∈ z ∧ z.idxOf id = k := by
  have hm : id ∈ z := he ▸ List.getElem_mem hk
  have := idx_hit hk (by rw [he]; exact nf_take h)
  rw [he, idx, if_pos hm] at this
  exact ⟨hm, by omega⟩
/-- In a valid pile no coil is in both rows. -/
theorem rows_apart {p : PL} {id : Int} {k : Nat} (hv : pileValid p = true) (h1 : 1 ≤ id) (hk : k < p.2.length) (he : p.2[k] = id) : id ∉ p.1 := by
  have h := ((pileValid_iff p).1 hv).2.1 (p.1.length + k) (by simp; omega)
  have e : (p.1 ++ p.2).getD (p.1.length + k) 0 = id := by
    rw [List.getD, List.getElem?_append_right (by omega), show p.1.length + k - p.1.length = k by omega, List.getElem?_eq_getElem hk, he]; rfl
  simp only [idOk, e, Bool.and_eq_true, Bool.or_eq_true, decide_eq_true_eq] at h
  intro hm
  rcases h.2 with h0 | h0
  · omega
  · exact h0 (by rw [List.take_append, List.mem_append]; left; rw [List.take_of_length_le (by omega)]; exact hm)
theorem find_at_low {p : PL} {id : Int} {k : Nat} (hv : pileValid p = true) (h1 : 1 ≤ id) (hk : k < p.1.length) (he : p.1[k] = id) (h : NF p id k) : coilFind p id = some (false, k) := by
  obtain ⟨hm, hi⟩ := idxOf_at hk he fun j hj => (h j hj).1
  rw [find_low hv h1 hm, hi]
theorem find_at_high {p : PL} {id : Int} {k : Nat} (hv : pileValid p = true) (h1 : 1 ≤ id) (hk : k < p.2.length) (he : p.2[k] = id) (h : NF p id k) : coilFind p id = some (true, k) := by
  obtain ⟨hm, hi⟩ := idxOf_at hk he fun j hj => (h j hj).2
  rw [find_high hv h1 (rows_apart hv h1 hk he) hm, hi]
theorem find_end {p : PL} {id : Int} {k : Nat} (h : NF p id k) (h1 : p.1.length ≤ k) (h2 : p.2.length ≤ k) : coilFind p id = none := by
  have key : ∀ z : List Int, z.length ≤ k → (∀ j, j < k → z[j]? ≠ some id) → id ∉ z := by
    intro z hz hn
    have := nf_take hn
    rwa [List.take_of_length_le hz] at this
  exact find_none (key _ h1 fun j hj => (h j hj).1) (key _ h2 fun j hj => (h j hj).2)
theorem nf_succ {p : PL} {id : Int} {k : Nat} (h : NF p id k) (hk : k < p.1.length) (h1 : ¬ p.1[k] = id) (h2 : p.2[k]? ≠ some id) : NF p id (k + 1) :=
  upto_succ h ⟨by rw [List.getElem?_eq_getElem hk]; simpa using h1, h2⟩
/-- A call that hands back a spot and whether there is one. -/
def SpotOk (w : World) (p : PL) (id : Int) (e : Ending) (w' : World) : Prop :=
  e = .returned (.tuple #[.agg #[.bool (findV p id).1, .int .i64 (findV p id).2], .bool (coilFind p id).isSome]) ∧ Below w.heap.size w w'
theorem spotOk_some {w w' : World} {p : PL} {id : Int} {t : Bool} {k : Nat} (h : coilFind p id = some (t, k)) (hb : Below w.heap.size w w') :
    SpotOk w p id (.returned (.tuple #[.agg #[.bool t, .int .i64 k], .bool true])) w' := by
  refine ⟨?_, hb⟩; simp [findV, h]
theorem spotOk_none {w w' : World} {p : PL} {id : Int} (h : coilFind p id = none) (hb : Below w.heap.size w w') :
    SpotOk w p id (.returned (.tuple #[.agg #[.bool false, .int .i64 0], .bool false])) w' := by
  refine ⟨?_, hb⟩; simp [findV, h]

set_option maxRecDepth 100000 in
theorem coilFind_any (A A' : Option Addr) (c c' : Nat) (p : PL) (id : Int) (w : World) (hp : small p) (rp : RdP w w.heap.size A A' p) :
    Calls Tryd.prog 24 #[.agg #[.slice A p.1.length c, .slice A' p.2.length c'], .int .i64 id] w (SpotOk w p id) := by
  have hE := hide hp
  obtain ⟨hp1, hp2⟩ := hp
  go_enter Tryd.func24, Tryd.ntmps24
  go_wp2_with fail
  have b0 := bel_two w (.cells #[.slice A p.1.length c, .slice A' p.2.length c'] 25) (.cells #[.bool false, .int .i64 0] 31)
  have q0 : Row ((w.alloc (.cells #[.slice A p.1.length c, .slice A' p.2.length c'] 25)).alloc (.cells #[.bool false, .int .i64 0] 31)) w.heap.size 25 [.slice A p.1.length c, .slice A' p.2.length c'] := (Row.new _ _ _).alloc _
  have q1 : Row ((w.alloc (.cells #[.slice A p.1.length c, .slice A' p.2.length c'] 25)).alloc (.cells #[.bool false, .int .i64 0] 31)) (w.heap.size + 1) 31 [.bool false, .int .i64 0] := (Row.new _ _ _).eq (by simp)
  generalize (w.alloc (.cells #[.slice A p.1.length c, .slice A' p.2.length c'] 25)).alloc (.cells #[.bool false, .int .i64 0] 31) = w0 at *
  refine (pileValid_any A A' c c' p w0 hE.out (rp.up b0)).mono ?_
  rintro e w1 ⟨rfl, b1⟩
  have bb := via b0 b1 b0.size
  have rp1 := rp.up bb
  have q1' := q1.after b1
  obtain ⟨k0, k1⟩ := (q0.after b1).boxed
  obtain ⟨k2, k3⟩ := q1'.boxed
  have f2 := q1'.frozen 0
  have f3 := q1'.frozen 1
  clear q0 q1 b1 b0
  cases hv : pileValid p
  · have HF := hide (find_no (p := p) (id := id) (by simp [hv]))
    go_wp2
    have e1 := (q1'.set 0 (.bool false)).set 1 (.int .i64 0)
    have e5 : Below w.heap.size w ((w1.setCell ⟨w.heap.size + 1, 0, none⟩ (.bool false)).setCell ⟨w.heap.size + 1, 1, none⟩ (.int .i64 0)) := (bb.setCell (by simp) _).setCell (by simp) _
    generalize (w1.setCell ⟨w.heap.size + 1, 0, none⟩ (.bool false)).setCell ⟨w.heap.size + 1, 1, none⟩ (.int .i64 0) = wz at *
    simp only [List.set_cons_zero, List.set_cons_succ] at e1
    obtain ⟨k5, k6⟩ := e1.boxed
    refine bodyPost_ret (by simp [results, Tryd.results24, go_sem, k5, k6]; try rfl) rfl ?_
    exact spotOk_none HF.out e5
  · by_cases h1 : 1 ≤ id
    · by_cases m1 : id ∈ p.1
      · have HF := hide (find_low hv h1 m1)
        have HI := hide (show idx p.1 id = (p.1.idxOf id : Int) by rw [idx, if_pos m1])
        have t0 : decide ((p.1.idxOf id : Int) ≥ 0) = true := by simp
        clear hv
        go_wp2_with (go_at_call 78; refine (index_any _ _ _ _ _ (by omega) rp1.1).mono ?_; rintro e w' ⟨rfl, rfl⟩; rw [HI.out])
        have e1 := (q1'.set 0 (.bool false)).set 1 (.int .i64 (p.1.idxOf id : Int))
        have e5 : Below w.heap.size w ((w1.setCell ⟨w.heap.size + 1, 0, none⟩ (.bool false)).setCell ⟨w.heap.size + 1, 1, none⟩ (.int .i64 (p.1.idxOf id : Int))) := (bb.setCell (by simp) _).setCell (by simp) _
        generalize (w1.setCell ⟨w.heap.size + 1, 0, none⟩ (.bool false)).setCell ⟨w.heap.size + 1, 1, none⟩ (.int .i64 (p.1.idxOf id : Int)) = wz at *
        simp only [List.set_cons_zero, List.set_cons_succ] at e1
        obtain ⟨k5, k6⟩ := e1.boxed
        refine bodyPost_ret (by simp [results, Tryd.results24, go_sem, k5, k6]; try rfl) rfl ?_
        exact spotOk_some HF.out e5
      · have HI := hide (show idx p.1 id = -1 by rw [idx, if_neg m1])
        by_cases m2 : id ∈ p.2
        · have HF := hide (find_high hv h1 m1 m2)
          have HJ := hide (show idx p.2 id = (p.2.idxOf id : Int) by rw [idx, if_pos m2])
          have t0 : decide ((p.2.idxOf id : Int) ≥ 0) = true := by simp
          clear hv
          go_wp2_with fail
          refine (index_any _ _ _ _ _ (by omega) rp1.1).mono ?_
          rintro e w' ⟨rfl, rfl⟩
          rw [HI.out]
          go_wp2_with fail
          refine (index_any _ _ _ _ _ (by omega) rp1.2).mono ?_
          rintro e w' ⟨rfl, rfl⟩
          rw [HJ.out]
          go_wp2
          have e1 := (q1'.set 0 (.bool true)).set 1 (.int .i64 (p.2.idxOf id : Int))
          have e5 : Below w.heap.size w ((w1.setCell ⟨w.heap.size + 1, 0, none⟩ (.bool true)).setCell ⟨w.heap.size + 1, 1, none⟩ (.int .i64 (p.2.idxOf id : Int))) := (bb.setCell (by simp) _).setCell (by simp) _
          generalize (w1.setCell ⟨w.heap.size + 1, 0, none⟩ (.bool true)).setCell ⟨w.heap.size + 1, 1, none⟩ (.int .i64 (p.2.idxOf id : Int)) = wz at *
          simp only [List.set_cons_zero, List.set_cons_succ] at e1
          obtain ⟨k5, k6⟩ := e1.boxed
          refine bodyPost_ret (by simp [results, Tryd.results24, go_sem, k5, k6]; try rfl) rfl ?_
          exact spotOk_some HF.out e5
        · have HF := hide (find_none m1 m2)
          have HJ := hide (show idx p.2 id = -1 by rw [idx, if_neg m2])
          clear hv
          go_wp2_with fail
          refine (index_any _ _ _ _ _ (by omega) rp1.1).mono ?_
          rintro e w' ⟨rfl, rfl⟩
          rw [HI.out]
          go_wp2_with fail
          refine (index_any _ _ _ _ _ (by omega) rp1.2).mono ?_
          rintro e w' ⟨rfl, rfl⟩
          rw [HJ.out]
          go_wp2
          have e1 := (q1'.set 0 (.bool false)).set 1 (.int .i64 0)
          have e5 : Below w.heap.size w ((w1.setCell ⟨w.heap.size + 1, 0, none⟩ (.bool false)).setCell ⟨w.heap.size + 1, 1, none⟩ (.int .i64 0)) := (bb.setCell (by simp) _).setCell (by simp) _
          generalize (w1.setCell ⟨w.heap.size + 1, 0, none⟩ (.bool false)).setCell ⟨w.heap.size + 1, 1, none⟩ (.int .i64 0) = wz at *
          simp only [List.set_cons_zero, List.set_cons_succ] at e1
          obtain ⟨k5, k6⟩ := e1.boxed
          refine bodyPost_ret (by simp [results, Tryd.results24, go_sem, k5, k6]; try rfl) rfl ?_
          exact spotOk_none HF.out e5
    · have HF := hide (find_no (p := p) (id := id) (fun h => h1 h.2))
      clear hv
      go_wp2
      have e1 := (q1'.set 0 (.bool false)).set 1 (.int .i64 0)
      have e5 : Below w.heap.size w ((w1.setCell ⟨w.heap.size + 1, 0, none⟩ (.bool false)).setCell ⟨w.heap.size + 1, 1, none⟩ (.int .i64 0)) := (bb.setCell (by simp) _).setCell (by simp) _
      generalize (w1.setCell ⟨w.heap.size + 1, 0, none⟩ (.bool false)).setCell ⟨w.heap.size + 1, 1, none⟩ (.int .i64 0) = wz at *
      simp only [List.set_cons_zero, List.set_cons_succ] at e1
      obtain ⟨k5, k6⟩ := e1.boxed
      refine bodyPost_ret (by simp [results, Tryd.results24, go_sem, k5, k6]; try rfl) rfl ?_
      exact spotOk_none HF.out e5
set_option maxHeartbeats 1600000 in
set_option maxRecDepth 100000 in
theorem coilFind_spec (A A' : Option Addr) (c c' : Nat) (p : PL) (id : Int) (w : World) (hp : small p) (rp : RdP w w.heap.size A A' p) :
    Calls Tryd.prog 63 #[.agg #[.slice A p.1.length c, .slice A' p.2.length c'], .int .i64 id] w (SpotOk w p id) := by
  have hE := hide hp
  obtain ⟨hp1, hp2⟩ := hp
  go_enter Tryd.func63, Tryd.ntmps63
  go_wp2_with fail
  have b0 := bel_two w (.cells #[.slice A p.1.length c, .slice A' p.2.length c'] 25) (.cells #[.bool false, .int .i64 0] 31)
  have q0 : Row ((w.alloc (.cells #[.slice A p.1.length c, .slice A' p.2.length c'] 25)).alloc (.cells #[.bool false, .int .i64 0] 31)) w.heap.size 25 [.slice A p.1.length c, .slice A' p.2.length c'] := (Row.new _ _ _).alloc _
  have q1 : Row ((w.alloc (.cells #[.slice A p.1.length c, .slice A' p.2.length c'] 25)).alloc (.cells #[.bool false, .int .i64 0] 31)) (w.heap.size + 1) 31 [.bool false, .int .i64 0] := (Row.new _ _ _).eq (by simp)
  generalize (w.alloc (.cells #[.slice A p.1.length c, .slice A' p.2.length c'] 25)).alloc (.cells #[.bool false, .int .i64 0] 31) = w0 at *
  go_loopw [6] (fun i wr => ∃ k : Nat, k ≤ p.1.length ∧ i = .int .i64 k ∧ Hid (NF p id k) ∧ Below w0.heap.size w0 wr) (fun i _ => p.1.length - (intOf i).toNat)
  case atStart => exact ⟨0, Nat.zero_le _, rfl, fun j hj => absurd hj (Nat.not_lt_zero _), Below.refl _ _⟩
  case round =>
    obtain ⟨k, hk, rfl, HN, hbel⟩ := hrel
    have hbw := via b0 hbel b0.size
    have q0r := q0.after hbel
    have q1r := q1.after hbel
    obtain ⟨k0, k1⟩ := q0r.boxed
    obtain ⟨k2, k3⟩ := q1r.boxed
    have f2 := q1r.frozen 0
    have f3 := q1r.frozen 1
    have rpr := rp.up hbw
    by_cases hlt : k < p.1.length
    · by_cases h1 : 1 ≤ id
      · have t0 : decide (id > 0) = true := by simp; omega
        have t1 : decide (0 < id) = true := by simp; omega
        have t2 : decide ((k : Int) < (p.1.length : Int)) = true := by simp; omega
        go_wp2_with fail
        refine (pileValid_spec A A' c c' p wr hE.out rpr).mono ?_
        rintro e w1 ⟨rfl, b1⟩
        have bb := via hbw b1 hbw.size
        have bz := via hbel b1 hbel.size
        have q0s := q0r.after b1
        have q1s := q1r.after b1
        clear k0 k1 k2 k3 f2 f3 q0r q1r
        obtain ⟨k0, k1⟩ := q0s.boxed
        obtain ⟨k2, k3⟩ := q1s.boxed
        have f2 := q1s.frozen 0
        have f3 := q1s.frozen 1
        have rps := rpr.up b1
        cases hv : pileValid p
        · have HF := hide (find_no (p := p) (id := id) (by simp [hv]))
          go_wp2
          have e1 := (q1s.set 0 (.bool false)).set 1 (.int .i64 0)
          have e5 : Below w.heap.size w ((w1.setCell ⟨w.heap.size + 1, 0, none⟩ (.bool false)).setCell ⟨w.heap.size + 1, 1, none⟩ (.int .i64 0)) := (bb.setCell (by simp) _).setCell (by simp) _
          generalize (w1.setCell ⟨w.heap.size + 1, 0, none⟩ (.bool false)).setCell ⟨w.heap.size + 1, 1, none⟩ (.int .i64 0) = wz at *
          simp only [List.set_cons_zero, List.set_cons_succ] at e1
          obtain ⟨k5, k6⟩ := e1.boxed
          refine bodyPost_ret (by simp [results, Tryd.results63, go_sem, k5, k6]; try rfl) rfl ?_
          exact spotOk_none HF.out e5
        · obtain ⟨z1, z2, z3⟩ := pileValid_size hv
          obtain ⟨b, o, hA, _, hc⟩ := rps.1.int hlt
          subst hA
          by_cases he : p.1[k] = id
          · have HF := hide (find_at_low hv h1 hlt he HN.out)
            have t3 : (p.1[k] == id) = true := by simp [he]
            clear he hv
            go_wp2
            have e1 := (q1s.set 0 (.bool false)).set 1 (.int .i64 (k : Int))
            have e5 : Below w.heap.size w ((w1.setCell ⟨w.heap.size + 1, 0, none⟩ (.bool false)).setCell ⟨w.heap.size + 1, 1, none⟩ (.int .i64 (k : Int))) := (bb.setCell (by simp) _).setCell (by simp) _
            generalize (w1.setCell ⟨w.heap.size + 1, 0, none⟩ (.bool false)).setCell ⟨w.heap.size + 1, 1, none⟩ (.int .i64 (k : Int)) = wz at *
            simp only [List.set_cons_zero, List.set_cons_succ] at e1
            obtain ⟨k5, k6⟩ := e1.boxed
            refine bodyPost_ret (by simp [results, Tryd.results63, go_sem, k5, k6]; try rfl) rfl ?_
            exact spotOk_some HF.out e5
          · have t3 : (p.1[k] == id) = false := by simp [he]
            by_cases hlt2 : k < p.2.length
            · obtain ⟨b', o', hA', _, hc'⟩ := rps.2.int hlt2
              subst hA'
              by_cases he2 : p.2[k] = id
              · have HF := hide (find_at_high hv h1 hlt2 he2 HN.out)
                have t4 : (p.2[k] == id) = true := by simp [he2]
                clear he he2 hv
                go_wp2
                have e1 := (q1s.set 0 (.bool true)).set 1 (.int .i64 (k : Int))
                have e5 : Below w.heap.size w ((w1.setCell ⟨w.heap.size + 1, 0, none⟩ (.bool true)).setCell ⟨w.heap.size + 1, 1, none⟩ (.int .i64 (k : Int))) := (bb.setCell (by simp) _).setCell (by simp) _
                generalize (w1.setCell ⟨w.heap.size + 1, 0, none⟩ (.bool true)).setCell ⟨w.heap.size + 1, 1, none⟩ (.int .i64 (k : Int)) = wz at *
                simp only [List.set_cons_zero, List.set_cons_succ] at e1
                obtain ⟨k5, k6⟩ := e1.boxed
                refine bodyPost_ret (by simp [results, Tryd.results63, go_sem, k5, k6]; try rfl) rfl ?_
                exact spotOk_some HF.out e5
              · have HY := hide (nf_succ HN.out hlt he (by rw [List.getElem?_eq_getElem hlt2]; simpa using he2))
                have t4 : (p.2[k] == id) = false := by simp [he2]
                clear he he2 hv
                go_wp2
                go_roundw
                case rel => exact ⟨k + 1, by omega, by go_num, HY, bz⟩
                case measure => simp [intOf]; omega
            · have HY := hide (nf_succ HN.out hlt he (by rw [List.getElem?_eq_none (by omega)]; simp))
              have t4 : decide ((k : Int) < (p.2.length : Int)) = false := by simp; omega
              clear he hv
              go_wp2
              go_roundw
              case rel => exact ⟨k + 1, by omega, by go_num, HY, bz⟩
              case measure => simp [intOf]; omega
      · have HF := hide (find_no (p := p) (id := id) (fun h => h1 h.2))
        have t0 : decide (id > 0) = false := by simp; omega
        have t1 : decide (0 < id) = false := by simp; omega
        go_wp2
        have e1 := (q1r.set 0 (.bool false)).set 1 (.int .i64 0)
        have e5 : Below w.heap.size w ((wr.setCell ⟨w.heap.size + 1, 0, none⟩ (.bool false)).setCell ⟨w.heap.size + 1, 1, none⟩ (.int .i64 0)) := (hbw.setCell (by simp) _).setCell (by simp) _
        generalize (wr.setCell ⟨w.heap.size + 1, 0, none⟩ (.bool false)).setCell ⟨w.heap.size + 1, 1, none⟩ (.int .i64 0) = wz at *
        simp only [List.set_cons_zero, List.set_cons_succ] at e1
        obtain ⟨k5, k6⟩ := e1.boxed
        refine bodyPost_ret (by simp [results, Tryd.results63, go_sem, k5, k6]; try rfl) rfl ?_
        exact spotOk_none HF.out e5
    · have t2 : decide ((k : Int) < (p.1.length : Int)) = false := by simp; omega
      by_cases h2 : p.2.length ≤ k
      · have HF := hide (find_end HN.out (by omega) h2)
        go_wp2
        have e1 := (q1r.set 0 (.bool false)).set 1 (.int .i64 0)
        have e5 : Below w.heap.size w ((wr.setCell ⟨w.heap.size + 1, 0, none⟩ (.bool false)).setCell ⟨w.heap.size + 1, 1, none⟩ (.int .i64 0)) := (hbw.setCell (by simp) _).setCell (by simp) _
        generalize (wr.setCell ⟨w.heap.size + 1, 0, none⟩ (.bool false)).setCell ⟨w.heap.size + 1, 1, none⟩ (.int .i64 0) = wz at *
        simp only [List.set_cons_zero, List.set_cons_succ] at e1
        obtain ⟨k5, k6⟩ := e1.boxed
        refine bodyPost_ret (by simp [results, Tryd.results63, go_sem, k5, k6]; try rfl) rfl ?_
        exact spotOk_none HF.out e5
      · have HF := hide (find_no (p := p) (id := id) (fun h => by have := pileValid_size h.1; omega))
        go_wp2
        have e1 := (q1r.set 0 (.bool false)).set 1 (.int .i64 0)
        have e5 : Below w.heap.size w ((wr.setCell ⟨w.heap.size + 1, 0, none⟩ (.bool false)).setCell ⟨w.heap.size + 1, 1, none⟩ (.int .i64 0)) := (hbw.setCell (by simp) _).setCell (by simp) _
        generalize (wr.setCell ⟨w.heap.size + 1, 0, none⟩ (.bool false)).setCell ⟨w.heap.size + 1, 1, none⟩ (.int .i64 0) = wz at *
        simp only [List.set_cons_zero, List.set_cons_succ] at e1
        obtain ⟨k5, k6⟩ := e1.boxed
        refine bodyPost_ret (by simp [results, Tryd.results63, go_sem, k5, k6]; try rfl) rfl ?_
        exact spotOk_none HF.out e5
end Go.Proofs.YtpiiefmfiipabaaDoor
