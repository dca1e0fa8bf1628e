/- Slabs and a furnace, drawn from a code, for the law of the best way to share. No conditions. -/
import Derived.Test.YtcdoopccmljaoaaDoorDrawC
namespace Go.Proofs.YtcdoopccmljaoaaDoor
open Go.ChangeShapes Go.WideShapes Go.ChangeAt Go.RowKit Go.Deep
theorem own_keepD {w w' : World} {B g : Nat} {T : TypeId} {A : Option Addr} {xs : List Value} (h : Own w B T A xs) (hb : w.grownBy w' (some g)) (hg : g < B) : Own w' B T A xs := by
  rcases h with h | ⟨g', cs, rfl, hB, h1, h2⟩
  · exact .inl h
  · refine .inr ⟨g', cs, rfl, hB, ?_, h2⟩
    rw [hb.block g' (lt_of_block h1) (fun e => by have := Option.some.inj e; omega)]; exact h1
set_option linter.unusedSimpArgs false in
set_option linter.unusedVariables false in
set_option maxRecDepth 100000 in
set_option maxHeartbeats 1600000 in
theorem furnace_any (g k : Nat) (n : Int) (w : World) (hn : 0 ≤ n) (hn1 : n ≤ 1048576) (hk : k ≤ 1048000) (hR : Rdr w g k) :
    Calls Tryd.prog 93 #[.pointer (some ⟨g, 0, none⟩), .int .i64 n] w fun e w' => ∃ a b : Int, e = .returned (.agg #[.int .i64 a, .int .i64 b]) ∧ DrawnTo w w' g (k + 3) := by
  go_enter Tryd.func93, Tryd.ntmps93
  go_wp2_with fail
  have hgl := hR.lt
  have q0 := Row.new w 65 #[.int .i64 0, .int .i64 0]
  have HR := hide (hR.alloc (.cells #[.int .i64 0, .int .i64 0] 65))
  have HG := hide (grown_of (show Below w.heap.size w (w.alloc (.cells #[.int .i64 0, .int .i64 0] 65)) by go_grown) (some g))
  generalize w.alloc (.cells #[.int .i64 0, .int .i64 0] 65) = w0 at *
  clear hR
  refine (odd_any g _ n w0 hn hn1 (by omega) HR.out).mono ?_
  rintro e w1 ⟨b, rfl, hR', hG'⟩
  have q1 := q0.kept hG' (by intro e; injection e with e; omega)
  replace HR := hide hR'
  replace HG := hide (grown_trans HG.out hG')
  clear hR' hG' q0
  cases b
  · go_wp2_with fail
    refine (pick_any _ _ _ _ (by omega) (by omega) (by omega) HR.out).mono ?_
    rintro e w' ⟨x1, rfl, hax1, hbx1, hR', hG'⟩
    have q2 := (q1).kept hG' (by intro e; injection e with e; omega)
    replace HR := hide hR'
    replace HG := hide (grown_trans HG.out hG')
    clear hR' hG' q1
    go_wp2_with fail
    refine (pick_any _ _ _ _ (by omega) (by omega) (by omega) HR.out).mono ?_
    rintro e w' ⟨x2, rfl, hax2, hbx2, hR', hG'⟩
    have q3 := (q2).kept hG' (by intro e; injection e with e; omega)
    replace HR := hide hR'
    replace HG := hide (grown_trans HG.out hG')
    clear hR' hG' q2
    obtain ⟨k0, k1, f0, f1⟩ := two_cells q3
    have q4 := two_set q3 (.int .i64 (1 + x1)) (.int .i64 (x2))
    have HR4 := hide (HR.out.two (r := w.heap.size) hgl (.int .i64 (1 + x1)) (.int .i64 (x2)))
    have HG4 := hide (grown_two HG.out (Nat.le_refl _) (.int .i64 (1 + x1)) (.int .i64 (x2)))
    go_wp2
    obtain ⟨k0, k1, _, _⟩ := two_cells q4
    refine bodyPost_ret (by simp [results, Tryd.results93, go_sem, k0, k1]; try rfl) rfl ?_
    exact ⟨1 + x1, x2, rfl, HR4.out.more (by omega), HG4.out⟩
  · go_wp2_with fail
    have qS := Row.new w1 65 #[.int .i64 0, .int .i64 0, .int .i64 9, .int .i64 0, .int .i64 2, .int .i64 (-1), .int .i64 2, .int .i64 100]
    have q2 := q1.alloc (.cells #[.int .i64 0, .int .i64 0, .int .i64 9, .int .i64 0, .int .i64 2, .int .i64 (-1), .int .i64 2, .int .i64 100] 65)
    replace HR := hide (HR.out.alloc (.cells #[.int .i64 0, .int .i64 0, .int .i64 9, .int .i64 0, .int .i64 2, .int .i64 (-1), .int .i64 2, .int .i64 100] 65))
    replace HG := hide (grown_trans HG.out (grown_of (show Below w1.heap.size w1 (w1.alloc (.cells #[.int .i64 0, .int .i64 0, .int .i64 9, .int .i64 0, .int .i64 2, .int .i64 (-1), .int .i64 2, .int .i64 100] 65)) by go_grown) (some g)))
    have hz := q1.lt
    generalize w1.alloc (.cells #[.int .i64 0, .int .i64 0, .int .i64 9, .int .i64 0, .int .i64 2, .int .i64 (-1), .int .i64 2, .int .i64 100] 65) = w2 at *
    generalize w1.heap.size = gS at *
    refine (pick_any _ _ _ _ (by omega) (by omega) (by omega) HR.out).mono ?_
    rintro e w' ⟨x, rfl, hax, hbx, hR', hG'⟩
    replace HR := hide hR'
    replace HG := hide (grown_trans HG.out hG')
    have q3 := q2.kept hG' (by intro e; injection e with e; omega)
    have qT := qS.kept hG' (by intro e; injection e with e; omega)
    clear hR' hG' q2 qS q1
    obtain ⟨k0, k1, f0, f1⟩ := two_cells q3
    have m0 := qT.cell (j := 0) (by simp)
    have m1 := qT.cell (j := 1) (by simp)
    have m2 := qT.cell (j := 2) (by simp)
    have m3 := qT.cell (j := 3) (by simp)
    have m4 := qT.cell (j := 4) (by simp)
    have m5 := qT.cell (j := 5) (by simp)
    have m6 := qT.cell (j := 6) (by simp)
    have m7 := qT.cell (j := 7) (by simp)
    simp at m0 m1 m2 m3 m4 m5 m6 m7
    obtain rfl | rfl | rfl | rfl : x = 0 ∨ x = 1 ∨ x = 2 ∨ x = 3 := by omega
    ·
      have q4 := two_set q3 (.int .i64 (0)) (.int .i64 (0))
      have HR4 := hide (HR.out.two (r := w.heap.size) hgl (.int .i64 (0)) (.int .i64 (0)))
      have HG4 := hide (grown_two HG.out (Nat.le_refl _) (.int .i64 (0)) (.int .i64 (0)))
      go_wp2
      obtain ⟨k0, k1, _, _⟩ := two_cells q4
      refine bodyPost_ret (by simp [results, Tryd.results93, go_sem, k0, k1]; try rfl) rfl ?_
      exact ⟨0, 0, rfl, HR4.out.more (by omega), HG4.out⟩
    ·
      have q4 := two_set q3 (.int .i64 (9)) (.int .i64 (0))
      have HR4 := hide (HR.out.two (r := w.heap.size) hgl (.int .i64 (9)) (.int .i64 (0)))
      have HG4 := hide (grown_two HG.out (Nat.le_refl _) (.int .i64 (9)) (.int .i64 (0)))
      go_wp2
      obtain ⟨k0, k1, _, _⟩ := two_cells q4
      refine bodyPost_ret (by simp [results, Tryd.results93, go_sem, k0, k1]; try rfl) rfl ?_
      exact ⟨9, 0, rfl, HR4.out.more (by omega), HG4.out⟩
    ·
      have q4 := two_set q3 (.int .i64 (2)) (.int .i64 (-1))
      have HR4 := hide (HR.out.two (r := w.heap.size) hgl (.int .i64 (2)) (.int .i64 (-1)))
      have HG4 := hide (grown_two HG.out (Nat.le_refl _) (.int .i64 (2)) (.int .i64 (-1)))
      go_wp2
      obtain ⟨k0, k1, _, _⟩ := two_cells q4
      refine bodyPost_ret (by simp [results, Tryd.results93, go_sem, k0, k1]; try rfl) rfl ?_
      exact ⟨2, -1, rfl, HR4.out.more (by omega), HG4.out⟩
    ·
      have q4 := two_set q3 (.int .i64 (2)) (.int .i64 (100))
      have HR4 := hide (HR.out.two (r := w.heap.size) hgl (.int .i64 (2)) (.int .i64 (100)))
      have HG4 := hide (grown_two HG.out (Nat.le_refl _) (.int .i64 (2)) (.int .i64 (100)))
      go_wp2
      obtain ⟨k0, k1, _, _⟩ := two_cells q4
      refine bodyPost_ret (by simp [results, Tryd.results93, go_sem, k0, k1]; try rfl) rfl ?_
      exact ⟨2, 100, rfl, HR4.out.more (by omega), HG4.out⟩
/-- Slabs of the call's own, and a furnace. -/
def SplitFrom (w : World) (e : Ending) (w' : World) : Prop :=
  ∃ (L : Option Addr) (d : Nat) (zs : List (Int × Int)) (a b : Int), e = .returned (.tuple #[.slice L zs.length d, .agg #[.int .i64 a, .int .i64 b]]) ∧ zs.length ≤ 11 ∧ Rd w' w'.heap.size L (sc zs) ∧ Below w.heap.size w w'
set_option linter.unusedSimpArgs false in
set_option linter.unusedVariables false in
set_option maxRecDepth 100000 in
theorem drawSplitBest_any (A : Option Addr) (c : Nat) (bs : List Int) (w : World) (hkc : bs.length ≤ c) (hmc : c ≤ maxLen) (hbs : ∀ b ∈ bs, (Lit.int .u8 b).wf = true) (hrd : Rd w w.heap.size A (bc bs)) :
    Calls Tryd.prog 68 #[.slice A bs.length c] w (SplitFrom w) := by
  have hB := hide hbs
  clear hbs
  go_enter Tryd.func68, Tryd.ntmps68
  go_wp2_with fail
  have q0 := Row.new w 65 #[.int .i64 0, .int .i64 0]
  have b0 : Below w.heap.size w (w.alloc (.cells #[.int .i64 0, .int .i64 0] 65)) := by go_grown
  generalize w.alloc (.cells #[.int .i64 0, .int .i64 0] 65) = w0 at *
  refine (open_any A c bs w0 hkc hmc hB.out (hrd.up b0)).mono ?_
  rintro e w1 ⟨rfl, hR, bo⟩
  have q1 := q0.after bo
  have hz := q0.lt
  go_wp2_with fail
  refine (charges_any w0.heap.size _ _ _ (by omega) (by omega) (by omega) hR).mono ?_
  rintro e w2 ⟨L, d, zs, rfl, hl, oL, hR2, hG2⟩
  have q2 := q1.kept hG2 (by intro e; injection e with e; omega)
  have hz1 := bo.size
  have hz2 := hG2.size
  go_wp2_with fail
  refine (furnace_any w0.heap.size _ _ _ (by omega) (by omega) (by omega) hR2).mono ?_
  rintro e w3 ⟨x, y, rfl, hR3, hG3⟩
  have q3 := q2.kept hG3 (by intro e; injection e with e; omega)
  have oL3 := own_keepD oL hG3 (by have := hR.lt; omega)
  have bb := via b0 ((bo.trans (grown_low hG2 (Nat.le_refl _) bo.size)).trans (grown_low hG3 (Nat.le_refl _) (by omega))) b0.size
  obtain ⟨k0, k1, f0, f1⟩ := two_cells q3
  have q4 := two_set q3 (.int .i64 x) (.int .i64 y)
  have oL4 := own_keepD (own_keepD oL3 (grown_set _ ⟨w.heap.size, 0, none⟩ (.int .i64 x)) (by simp only; omega)) (grown_set _ ⟨w.heap.size, 1, none⟩ (.int .i64 y)) (by simp only; omega)
  have b4 := (bb.setCell (p := ⟨w.heap.size, 0, none⟩) (Nat.le_refl _) (.int .i64 x)).setCell (p := ⟨w.heap.size, 1, none⟩) (Nat.le_refl _) (.int .i64 y)
  clear hkc hmc hrd hB hR hR2 hR3 hG2 hG3 bo
  go_wp2
  obtain ⟨k0, k1, _, _⟩ := two_cells q4
  refine bodyPost_ret (by simp [results, Tryd.results68, go_sem, k0, k1]; try rfl) rfl ?_
  exact ⟨L, d, zs, x, y, rfl, hl, oL4.rd, b4⟩
end Go.Proofs.YtcdoopccmljaoaaDoor
