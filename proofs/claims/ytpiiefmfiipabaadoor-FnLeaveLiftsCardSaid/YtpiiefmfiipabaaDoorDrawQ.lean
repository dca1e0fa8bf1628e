/- Piles drawn from a code, for the laws. No conditions. -/
import Derived.Test.YtpiiefmfiipabaaDoorDrawP
namespace Go.Proofs.YtpiiefmfiipabaaDoor
open Go.ChangeShapes Go.WideShapes Go.ChangeAt Go.RowKit Go.Deep
/-- A pile, drawn from a code. -/
def PileFrom (w : World) (e : Ending) (w' : World) : Prop :=
  ∃ (A : Option Addr) (c : Nat) (A' : Option Addr) (c' : Nat) (p : PL), e = .returned (.agg #[.slice A p.1.length c, .slice A' p.2.length c']) ∧ p.1.length ≤ 6 ∧ p.2.length ≤ 6 ∧ Own w' w.heap.size 3 A (ic p.1) ∧ Own w' w.heap.size 3 A' (ic p.2) ∧ Below w.heap.size w w'
theorem drawPileValid_any (A : Option Addr) (c : Nat) (bs : List Int) (w : World) (hkc : bs.length ≤ c) (hmc : c ≤ maxLen) (hbs : ∀ b ∈ bs, (Lit.int .u8 b).wf = true) (hrd : Rd w w.heap.size A (bc bs)) :
    Calls Tryd.prog 17 #[.slice A bs.length c] w (PileFrom w) := by
  have hB := hide hbs
  clear hbs
  go_enter Tryd.func17, Tryd.ntmps17
  go_wp2_with fail
  have q0 := Row.new w 25 #[.slice none 0 0, .slice none 0 0]
  have b0 := bel_one w (.cells #[.slice none 0 0, .slice none 0 0] 25)
  have hz := q0.lt
  generalize w.alloc (.cells #[.slice none 0 0, .slice none 0 0] 25) = w0 at *
  refine (open_any A c bs w0 hkc hmc hB.out (hrd.up b0)).mono ?_
  rintro e w1 ⟨rfl, hR, bo⟩
  have q1 := q0.after bo
  go_wp2_with fail
  refine (pile_any w0.heap.size _ _ _ (by omega) (by omega) (by omega) hR).mono ?_
  rintro e w2 ⟨L, d, L', d', p, rfl, h1, h2, oL, oL', hR', hG'⟩
  have hz1 := bo.size
  have q2 := q1.kept hG' (by intro e; injection e with e; omega)
  have bb := via b0 (bo.trans (grown_low hG' (Nat.le_refl _) bo.size)) b0.size
  obtain ⟨m0, m1, f0, f1⟩ := two_cells q2
  have q4 := two_set q2 (.slice L p.1.length d) (.slice L' p.2.length d')
  have b4 := (bb.setCell (p := ⟨w.heap.size, 0, none⟩) (Nat.le_refl _) (.slice L p.1.length d)).setCell (p := ⟨w.heap.size, 1, none⟩) (Nat.le_refl _) (.slice L' p.2.length d')
  have o1 := own_far (own_far oL (p := ⟨w.heap.size, 0, none⟩) (by simp only; omega) (.slice L p.1.length d)) (p := ⟨w.heap.size, 1, none⟩) (by simp only; omega) (.slice L' p.2.length d')
  have o2 := own_far (own_far oL' (p := ⟨w.heap.size, 0, none⟩) (by simp only; omega) (.slice L p.1.length d)) (p := ⟨w.heap.size, 1, none⟩) (by simp only; omega) (.slice L' p.2.length d')
  go_wp2
  obtain ⟨k0, k1, _, _⟩ := two_cells q4
  refine bodyPost_ret (by simp [results, Tryd.results17, go_sem, k0, k1]; try rfl) rfl ?_
  exact ⟨L, d, L', d', p, rfl, h1, h2, o1.mono (by omega), o2.mono (by omega), b4⟩
theorem drawCoilIds_any (A : Option Addr) (c : Nat) (bs : List Int) (w : World) (hkc : bs.length ≤ c) (hmc : c ≤ maxLen) (hbs : ∀ b ∈ bs, (Lit.int .u8 b).wf = true) (hrd : Rd w w.heap.size A (bc bs)) :
    Calls Tryd.prog 59 #[.slice A bs.length c] w (PileFrom w) := by
  have hB := hide hbs
  clear hbs
  go_enter Tryd.func59, Tryd.ntmps59
  go_wp2_with fail
  have q0 := Row.new w 25 #[.slice none 0 0, .slice none 0 0]
  have b0 := bel_one w (.cells #[.slice none 0 0, .slice none 0 0] 25)
  have hz := q0.lt
  generalize w.alloc (.cells #[.slice none 0 0, .slice none 0 0] 25) = w0 at *
  refine (open_any A c bs w0 hkc hmc hB.out (hrd.up b0)).mono ?_
  rintro e w1 ⟨rfl, hR, bo⟩
  have q1 := q0.after bo
  go_wp2_with fail
  refine (pile_any w0.heap.size _ _ _ (by omega) (by omega) (by omega) hR).mono ?_
  rintro e w2 ⟨L, d, L', d', p, rfl, h1, h2, oL, oL', hR', hG'⟩
  have hz1 := bo.size
  have q2 := q1.kept hG' (by intro e; injection e with e; omega)
  have bb := via b0 (bo.trans (grown_low hG' (Nat.le_refl _) bo.size)) b0.size
  obtain ⟨m0, m1, f0, f1⟩ := two_cells q2
  have q4 := two_set q2 (.slice L p.1.length d) (.slice L' p.2.length d')
  have b4 := (bb.setCell (p := ⟨w.heap.size, 0, none⟩) (Nat.le_refl _) (.slice L p.1.length d)).setCell (p := ⟨w.heap.size, 1, none⟩) (Nat.le_refl _) (.slice L' p.2.length d')
  have o1 := own_far (own_far oL (p := ⟨w.heap.size, 0, none⟩) (by simp only; omega) (.slice L p.1.length d)) (p := ⟨w.heap.size, 1, none⟩) (by simp only; omega) (.slice L' p.2.length d')
  have o2 := own_far (own_far oL' (p := ⟨w.heap.size, 0, none⟩) (by simp only; omega) (.slice L p.1.length d)) (p := ⟨w.heap.size, 1, none⟩) (by simp only; omega) (.slice L' p.2.length d')
  go_wp2
  obtain ⟨k0, k1, _, _⟩ := two_cells q4
  refine bodyPost_ret (by simp [results, Tryd.results59, go_sem, k0, k1]; try rfl) rfl ?_
  exact ⟨L, d, L', d', p, rfl, h1, h2, o1.mono (by omega), o2.mono (by omega), b4⟩
theorem drawPileEmpty_any (A : Option Addr) (c : Nat) (bs : List Int) (w : World) (hkc : bs.length ≤ c) (hmc : c ≤ maxLen) (hbs : ∀ b ∈ bs, (Lit.int .u8 b).wf = true) (hrd : Rd w w.heap.size A (bc bs)) :
    Calls Tryd.prog 44 #[.slice A bs.length c] w fun e w' => ∃ x : Int, e = .returned (.int .i64 x) ∧ (-1 ≤ x ∧ x ≤ 8) ∧ Below w.heap.size w w' := by
  have hB := hide hbs
  clear hbs
  go_enter Tryd.func44, Tryd.ntmps44
  go_wp2_with fail
  refine (open_any A c bs w hkc hmc hB.out hrd).mono ?_
  rintro e w1 ⟨rfl, hR, bo⟩
  go_wp2_with fail
  refine (pick_any w.heap.size _ _ _ (by omega) (by omega) (by omega) hR).mono ?_
  rintro e w2 ⟨x, rfl, hx0, hx1, hR', hG'⟩
  go_wp2
  go_ret
  exact ⟨x - 1, rfl, ⟨by omega, by omega⟩, bo.trans (grown_low hG' (Nat.le_refl _) bo.size)⟩
end Go.Proofs.YtpiiefmfiipabaaDoor
