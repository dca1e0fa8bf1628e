/- Draws that hand on another draw, for the laws. No conditions. -/
import Derived.Test.YtpiiefmfiipabaaDoorDrawT
namespace Go.Proofs.YtpiiefmfiipabaaDoor
open Go.ChangeShapes Go.WideShapes Go.ChangeAt Go.RowKit Go.Deep
set_option linter.unusedSimpArgs false in
set_option linter.unusedVariables false in
theorem drawCoilTake_any (A : Option Addr) (c : Nat) (bs : List Int) (w : World) (hkc : bs.length ≤ c) (hmc : c ≤ maxLen) (hbs : ∀ b ∈ bs, (Lit.int .u8 b).wf = true) (hrd : Rd w w.heap.size A (bc bs)) :
    Calls Tryd.prog 33 #[.slice A bs.length c] w (CoilAtFrom w) := by
  have hB := hide hbs
  clear hbs
  go_enter Tryd.func33, Tryd.ntmps33
  go_wp2_with fail
  have q2 := (Row.new w 25 #[.slice none 0 0, .slice none 0 0]).alloc (.cells #[.bool false, .int .i64 0] 31)
  have q3 : Row ((w.alloc (.cells #[.slice none 0 0, .slice none 0 0] 25)).alloc (.cells #[.bool false, .int .i64 0] 31)) (w.heap.size + 1) 31 [.bool false, .int .i64 0] := (Row.new (w.alloc (.cells #[.slice none 0 0, .slice none 0 0] 25)) 31 #[.bool false, .int .i64 0]).eq (by simp)
  have b0 := bel_two w (.cells #[.slice none 0 0, .slice none 0 0] 25) (.cells #[.bool false, .int .i64 0] 31)
  have hz2 := q3.lt
  generalize (w.alloc (.cells #[.slice none 0 0, .slice none 0 0] 25)).alloc (.cells #[.bool false, .int .i64 0] 31) = w0 at *
  refine (drawCoilAt_any A c bs w0 hkc hmc hB.out (hrd.up b0)).mono ?_
  rintro e w1 ⟨L, d, L', d', p, b, z, rfl, h1, h2, hz, o1, o2, bo⟩
  replace q2 := q2.after bo
  replace q3 := q3.after bo
  have bz := via b0 bo b0.size
  have p3 := (q3.far (p := ⟨w.heap.size, 0, none⟩) (by simp only; omega) (.slice L p.1.length d)).far (p := ⟨w.heap.size, 1, none⟩) (by simp only; omega) (.slice L' p.2.length d')
  have p2 := ((two_set q2 (.slice L p.1.length d) (.slice L' p.2.length d')).far (p := ⟨w.heap.size + 1, 0, none⟩) (by simp only; omega) (.bool b)).far (p := ⟨w.heap.size + 1, 1, none⟩) (by simp only; omega) (.int .i64 z)
  have r3 := two_set p3 (.bool b) (.int .i64 z)
  have e1 := own_far (own_far (own_far (own_far o1 (p := ⟨w.heap.size, 0, none⟩) (by simp only; omega) (.slice L p.1.length d)) (p := ⟨w.heap.size, 1, none⟩) (by simp only; omega) (.slice L' p.2.length d')) (p := ⟨w.heap.size + 1, 0, none⟩) (by simp only; omega) (.bool b)) (p := ⟨w.heap.size + 1, 1, none⟩) (by simp only; omega) (.int .i64 z)
  have e2 := own_far (own_far (own_far (own_far o2 (p := ⟨w.heap.size, 0, none⟩) (by simp only; omega) (.slice L p.1.length d)) (p := ⟨w.heap.size, 1, none⟩) (by simp only; omega) (.slice L' p.2.length d')) (p := ⟨w.heap.size + 1, 0, none⟩) (by simp only; omega) (.bool b)) (p := ⟨w.heap.size + 1, 1, none⟩) (by simp only; omega) (.int .i64 z)
  have b4 := (((bz.setCell (p := ⟨w.heap.size, 0, none⟩) (Nat.le_refl _) (.slice L p.1.length d)).setCell (p := ⟨w.heap.size, 1, none⟩) (Nat.le_refl _) (.slice L' p.2.length d')).setCell (p := ⟨w.heap.size + 1, 0, none⟩) (by simp only; omega) (.bool b)).setCell (p := ⟨w.heap.size + 1, 1, none⟩) (by simp only; omega) (.int .i64 z)
  obtain ⟨c0, c1, f0, f1⟩ := two_cells q2
  obtain ⟨d0, d1, g0, g1⟩ := two_cells p3
  obtain ⟨k0, k1, _, _⟩ := two_cells p2
  obtain ⟨k2, k3, _, _⟩ := two_cells r3
  go_wp2
  refine bodyPost_ret (by simp [results, Tryd.results33, go_sem, k0, k1, k2, k3]; try rfl) rfl ?_
  exact ⟨L, d, L', d', p, b, z, rfl, h1, h2, hz, e1.mono (by omega), e2.mono (by omega), b4⟩
set_option linter.unusedSimpArgs false in
set_option linter.unusedVariables false in
theorem drawCoilsOn_any (A : Option Addr) (c : Nat) (bs : List Int) (w : World) (hkc : bs.length ≤ c) (hmc : c ≤ maxLen) (hbs : ∀ b ∈ bs, (Lit.int .u8 b).wf = true) (hrd : Rd w w.heap.size A (bc bs)) :
    Calls Tryd.prog 28 #[.slice A bs.length c] w (CoilAtFrom w) := by
  have hB := hide hbs
  clear hbs
  go_enter Tryd.func28, Tryd.ntmps28
  go_wp2_with fail
  have q2 := (Row.new w 25 #[.slice none 0 0, .slice none 0 0]).alloc (.cells #[.bool false, .int .i64 0] 31)
  have q3 : Row ((w.alloc (.cells #[.slice none 0 0, .slice none 0 0] 25)).alloc (.cells #[.bool false, .int .i64 0] 31)) (w.heap.size + 1) 31 [.bool false, .int .i64 0] := (Row.new (w.alloc (.cells #[.slice none 0 0, .slice none 0 0] 25)) 31 #[.bool false, .int .i64 0]).eq (by simp)
  have b0 := bel_two w (.cells #[.slice none 0 0, .slice none 0 0] 25) (.cells #[.bool false, .int .i64 0] 31)
  have hz2 := q3.lt
  generalize (w.alloc (.cells #[.slice none 0 0, .slice none 0 0] 25)).alloc (.cells #[.bool false, .int .i64 0] 31) = w0 at *
  refine (drawCoilAt_any A c bs w0 hkc hmc hB.out (hrd.up b0)).mono ?_
  rintro e w1 ⟨L, d, L', d', p, b, z, rfl, h1, h2, hz, o1, o2, bo⟩
  replace q2 := q2.after bo
  replace q3 := q3.after bo
  have bz := via b0 bo b0.size
  have p3 := (q3.far (p := ⟨w.heap.size, 0, none⟩) (by simp only; omega) (.slice L p.1.length d)).far (p := ⟨w.heap.size, 1, none⟩) (by simp only; omega) (.slice L' p.2.length d')
  have p2 := ((two_set q2 (.slice L p.1.length d) (.slice L' p.2.length d')).far (p := ⟨w.heap.size + 1, 0, none⟩) (by simp only; omega) (.bool b)).far (p := ⟨w.heap.size + 1, 1, none⟩) (by simp only; omega) (.int .i64 z)
  have r3 := two_set p3 (.bool b) (.int .i64 z)
  have e1 := own_far (own_far (own_far (own_far o1 (p := ⟨w.heap.size, 0, none⟩) (by simp only; omega) (.slice L p.1.length d)) (p := ⟨w.heap.size, 1, none⟩) (by simp only; omega) (.slice L' p.2.length d')) (p := ⟨w.heap.size + 1, 0, none⟩) (by simp only; omega) (.bool b)) (p := ⟨w.heap.size + 1, 1, none⟩) (by simp only; omega) (.int .i64 z)
  have e2 := own_far (own_far (own_far (own_far o2 (p := ⟨w.heap.size, 0, none⟩) (by simp only; omega) (.slice L p.1.length d)) (p := ⟨w.heap.size, 1, none⟩) (by simp only; omega) (.slice L' p.2.length d')) (p := ⟨w.heap.size + 1, 0, none⟩) (by simp only; omega) (.bool b)) (p := ⟨w.heap.size + 1, 1, none⟩) (by simp only; omega) (.int .i64 z)
  have b4 := (((bz.setCell (p := ⟨w.heap.size, 0, none⟩) (Nat.le_refl _) (.slice L p.1.length d)).setCell (p := ⟨w.heap.size, 1, none⟩) (Nat.le_refl _) (.slice L' p.2.length d')).setCell (p := ⟨w.heap.size + 1, 0, none⟩) (by simp only; omega) (.bool b)).setCell (p := ⟨w.heap.size + 1, 1, none⟩) (by simp only; omega) (.int .i64 z)
  obtain ⟨c0, c1, f0, f1⟩ := two_cells q2
  obtain ⟨d0, d1, g0, g1⟩ := two_cells p3
  obtain ⟨k0, k1, _, _⟩ := two_cells p2
  obtain ⟨k2, k3, _, _⟩ := two_cells r3
  go_wp2
  refine bodyPost_ret (by simp [results, Tryd.results28, go_sem, k0, k1, k2, k3]; try rfl) rfl ?_
  exact ⟨L, d, L', d', p, b, z, rfl, h1, h2, hz, e1.mono (by omega), e2.mono (by omega), b4⟩
end Go.Proofs.YtpiiefmfiipabaaDoor
