/- Piles with an order in which coils leave, drawn from a code, for the laws. No conditions. -/
import Derived.Test.YtpiiefmfiipabaaDoorDrawX
namespace Go.Proofs.YtpiiefmfiipabaaDoor
open Go.ChangeShapes Go.WideShapes Go.ChangeAt Go.RowKit Go.Deep
/-- A pile and an order, drawn from a code. -/
def LeaveFrom (w : World) (e : Ending) (w' : World) : Prop :=
  ∃ (A : Option Addr) (c : Nat) (A' : Option Addr) (c' : Nat) (p : PL) (I : Option Addr) (ci : Nat) (z : List Int), e = .returned (.tuple #[.agg #[.slice A p.1.length c, .slice A' p.2.length c'], .slice I z.length ci]) ∧ p.1.length ≤ 6 ∧ p.2.length ≤ 6 ∧ z.length ≤ 100 ∧ z.length ≤ ci ∧ ci ≤ maxLen ∧ (I = none → z = []) ∧ Own w' w.heap.size 3 A (ic p.1) ∧ Own w' w.heap.size 3 A' (ic p.2) ∧ Own w' w.heap.size 3 I (ic z) ∧ Below w.heap.size w w'
set_option linter.unusedSimpArgs false in
set_option linter.unusedVariables false in
theorem drawLeaveOk_any (A : Option Addr) (c : Nat) (bs : List Int) (w : World) (hkc : bs.length ≤ c) (hmc : c ≤ maxLen) (hbs : ∀ b ∈ bs, (Lit.int .u8 b).wf = true) (hrd : Rd w w.heap.size A (bc bs)) :
    Calls Tryd.prog 25 #[.slice A bs.length c] w (LeaveFrom w) := by
  have hB := hide hbs
  clear hbs
  go_enter Tryd.func25, Tryd.ntmps25
  go_wp2_with fail
  have q2 := Row.new w 25 #[.slice none 0 0, .slice none 0 0]
  have b0 := bel_one w (.cells #[.slice none 0 0, .slice none 0 0] 25)
  have hz2 := q2.lt
  generalize w.alloc (.cells #[.slice none 0 0, .slice none 0 0] 25) = w0 at *
  refine (open_any A c bs w0 hkc hmc hB.out (hrd.up b0)).mono ?_
  rintro e w1 ⟨rfl, hR, bo⟩
  have hz1 := bo.size
  have hgl1 := hR.lt
  replace q2 := q2.after bo
  go_wp2_with fail
  refine (leave_any w0.heap.size _ _ _ (by omega) (by omega) (by omega) hR).mono ?_
  rintro e w2 ⟨L, d, L', d', p, I, ci, z, rfl, h1, h2, h3, h4, h5, h6, o1, o2, o3, hR', hG'⟩
  have hz4 := hG'.size
  replace q2 := q2.kept hG' (by intro e; injection e with e; omega)
  have bz := via b0 (bo.trans (grown_low hG' (Nat.le_refl _) bo.size)) b0.size
  have p2 := two_set q2 (.slice L p.1.length d) (.slice L' p.2.length d')
  have e1 := own_far (own_far o1 (p := ⟨w.heap.size, 0, none⟩) (by simp only; omega) (.slice L p.1.length d)) (p := ⟨w.heap.size, 1, none⟩) (by simp only; omega) (.slice L' p.2.length d')
  have e2 := own_far (own_far o2 (p := ⟨w.heap.size, 0, none⟩) (by simp only; omega) (.slice L p.1.length d)) (p := ⟨w.heap.size, 1, none⟩) (by simp only; omega) (.slice L' p.2.length d')
  have e3 := own_far (own_far o3 (p := ⟨w.heap.size, 0, none⟩) (by simp only; omega) (.slice L p.1.length d)) (p := ⟨w.heap.size, 1, none⟩) (by simp only; omega) (.slice L' p.2.length d')
  have b4 := (bz.setCell (p := ⟨w.heap.size, 0, none⟩) (Nat.le_refl _) (.slice L p.1.length d)).setCell (p := ⟨w.heap.size, 1, none⟩) (Nat.le_refl _) (.slice L' p.2.length d')
  obtain ⟨c0, c1, f0, f1⟩ := two_cells q2
  obtain ⟨k0, k1, _, _⟩ := two_cells p2
  go_wp2
  refine bodyPost_ret (by simp [results, Tryd.results25, go_sem, k0, k1]; try rfl) rfl ?_
  exact ⟨L, d, L', d', p, I, ci, z, rfl, h1, h2, h3, h4, h5, h6, e1.mono (by omega), e2.mono (by omega), e3.mono (by omega), b4⟩
set_option linter.unusedSimpArgs false in
set_option linter.unusedVariables false in
theorem drawLeaveLifts_any (A : Option Addr) (c : Nat) (bs : List Int) (w : World) (hkc : bs.length ≤ c) (hmc : c ≤ maxLen) (hbs : ∀ b ∈ bs, (Lit.int .u8 b).wf = true) (hrd : Rd w w.heap.size A (bc bs)) :
    Calls Tryd.prog 53 #[.slice A bs.length c] w (LeaveFrom w) := by
  have hB := hide hbs
  clear hbs
  go_enter Tryd.func53, Tryd.ntmps53
  go_wp2_with fail
  have q2 := Row.new w 25 #[.slice none 0 0, .slice none 0 0]
  have b0 := bel_one w (.cells #[.slice none 0 0, .slice none 0 0] 25)
  have hz2 := q2.lt
  generalize w.alloc (.cells #[.slice none 0 0, .slice none 0 0] 25) = w0 at *
  refine (open_any A c bs w0 hkc hmc hB.out (hrd.up b0)).mono ?_
  rintro e w1 ⟨rfl, hR, bo⟩
  have hz1 := bo.size
  have hgl1 := hR.lt
  replace q2 := q2.after bo
  go_wp2_with fail
  refine (leave_any w0.heap.size _ _ _ (by omega) (by omega) (by omega) hR).mono ?_
  rintro e w2 ⟨L, d, L', d', p, I, ci, z, rfl, h1, h2, h3, h4, h5, h6, o1, o2, o3, hR', hG'⟩
  have hz4 := hG'.size
  replace q2 := q2.kept hG' (by intro e; injection e with e; omega)
  have bz := via b0 (bo.trans (grown_low hG' (Nat.le_refl _) bo.size)) b0.size
  have p2 := two_set q2 (.slice L p.1.length d) (.slice L' p.2.length d')
  have e1 := own_far (own_far o1 (p := ⟨w.heap.size, 0, none⟩) (by simp only; omega) (.slice L p.1.length d)) (p := ⟨w.heap.size, 1, none⟩) (by simp only; omega) (.slice L' p.2.length d')
  have e2 := own_far (own_far o2 (p := ⟨w.heap.size, 0, none⟩) (by simp only; omega) (.slice L p.1.length d)) (p := ⟨w.heap.size, 1, none⟩) (by simp only; omega) (.slice L' p.2.length d')
  have e3 := own_far (own_far o3 (p := ⟨w.heap.size, 0, none⟩) (by simp only; omega) (.slice L p.1.length d)) (p := ⟨w.heap.size, 1, none⟩) (by simp only; omega) (.slice L' p.2.length d')
  have b4 := (bz.setCell (p := ⟨w.heap.size, 0, none⟩) (Nat.le_refl _) (.slice L p.1.length d)).setCell (p := ⟨w.heap.size, 1, none⟩) (Nat.le_refl _) (.slice L' p.2.length d')
  obtain ⟨c0, c1, f0, f1⟩ := two_cells q2
  obtain ⟨k0, k1, _, _⟩ := two_cells p2
  go_wp2
  refine bodyPost_ret (by simp [results, Tryd.results53, go_sem, k0, k1]; try rfl) rfl ?_
  exact ⟨L, d, L', d', p, I, ci, z, rfl, h1, h2, h3, h4, h5, h6, e1.mono (by omega), e2.mono (by omega), e3.mono (by omega), b4⟩
set_option linter.unusedSimpArgs false in
set_option linter.unusedVariables false in
theorem drawLeaveAll_any (A : Option Addr) (c : Nat) (bs : List Int) (w : World) (hkc : bs.length ≤ c) (hmc : c ≤ maxLen) (hbs : ∀ b ∈ bs, (Lit.int .u8 b).wf = true) (hrd : Rd w w.heap.size A (bc bs)) :
    Calls Tryd.prog 56 #[.slice A bs.length c] w (LeaveFrom w) := by
  have hB := hide hbs
  clear hbs
  go_enter Tryd.func56, Tryd.ntmps56
  go_wp2_with fail
  have q2 := Row.new w 25 #[.slice none 0 0, .slice none 0 0]
  have b0 := bel_one w (.cells #[.slice none 0 0, .slice none 0 0] 25)
  have hz2 := q2.lt
  generalize w.alloc (.cells #[.slice none 0 0, .slice none 0 0] 25) = w0 at *
  refine (open_any A c bs w0 hkc hmc hB.out (hrd.up b0)).mono ?_
  rintro e w1 ⟨rfl, hR, bo⟩
  have hz1 := bo.size
  have hgl1 := hR.lt
  replace q2 := q2.after bo
  go_wp2_with fail
  refine (leave_any w0.heap.size _ _ _ (by omega) (by omega) (by omega) hR).mono ?_
  rintro e w2 ⟨L, d, L', d', p, I, ci, z, rfl, h1, h2, h3, h4, h5, h6, o1, o2, o3, hR', hG'⟩
  have hz4 := hG'.size
  replace q2 := q2.kept hG' (by intro e; injection e with e; omega)
  have bz := via b0 (bo.trans (grown_low hG' (Nat.le_refl _) bo.size)) b0.size
  have p2 := two_set q2 (.slice L p.1.length d) (.slice L' p.2.length d')
  have e1 := own_far (own_far o1 (p := ⟨w.heap.size, 0, none⟩) (by simp only; omega) (.slice L p.1.length d)) (p := ⟨w.heap.size, 1, none⟩) (by simp only; omega) (.slice L' p.2.length d')
  have e2 := own_far (own_far o2 (p := ⟨w.heap.size, 0, none⟩) (by simp only; omega) (.slice L p.1.length d)) (p := ⟨w.heap.size, 1, none⟩) (by simp only; omega) (.slice L' p.2.length d')
  have e3 := own_far (own_far o3 (p := ⟨w.heap.size, 0, none⟩) (by simp only; omega) (.slice L p.1.length d)) (p := ⟨w.heap.size, 1, none⟩) (by simp only; omega) (.slice L' p.2.length d')
  have b4 := (bz.setCell (p := ⟨w.heap.size, 0, none⟩) (Nat.le_refl _) (.slice L p.1.length d)).setCell (p := ⟨w.heap.size, 1, none⟩) (Nat.le_refl _) (.slice L' p.2.length d')
  obtain ⟨c0, c1, f0, f1⟩ := two_cells q2
  obtain ⟨k0, k1, _, _⟩ := two_cells p2
  go_wp2
  refine bodyPost_ret (by simp [results, Tryd.results56, go_sem, k0, k1]; try rfl) rfl ?_
  exact ⟨L, d, L', d', p, I, ci, z, rfl, h1, h2, h3, h4, h5, h6, e1.mono (by omega), e2.mono (by omega), e3.mono (by omega), b4⟩
end Go.Proofs.YtpiiefmfiipabaaDoor
