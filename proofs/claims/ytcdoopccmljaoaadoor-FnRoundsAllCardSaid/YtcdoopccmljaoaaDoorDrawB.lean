/- Sheets and a jump, drawn from a code, for the laws of rounds. No conditions. -/
import Derived.Test.YtcdoopccmljaoaaDoorDrawS
namespace Go.Proofs.YtcdoopccmljaoaaDoor
open Go.ChangeShapes Go.WideShapes Go.ChangeAt Go.RowKit Go.Deep
/-- A row of sheets and a jump, drawn from a code. -/
def RoundFrom (w : World) (e : Ending) (w' : World) : Prop :=
  ∃ (A : Option Addr) (c : Nat) (zs : List (Int × Int)) (j k : Int), e = .returned (.tuple #[.slice A zs.length c, .agg #[.int .i64 j, .int .i64 k]]) ∧ zs.length ≤ 11 ∧ zs.length ≤ c ∧ c ≤ maxLen ∧ (-1 ≤ j ∧ j ≤ 401) ∧ (-1 ≤ k ∧ k ≤ 401) ∧ Own w' w.heap.size 24 A (sc zs) ∧ (A = none → zs = []) ∧ Below w.heap.size w w'
theorem own_keepB {w w' : World} {B g : Nat} {T : TypeId} {A : Option Addr} {xs : List Value} (h : Own w B T A xs) (hb : w.grownBy w' (some g)) (hg : g < B) : Own w' B T A xs := by
  rcases h with h | ⟨g', cs, rfl, hB, h1, h2⟩
  · exact .inl h
  · refine .inr ⟨g', cs, rfl, hB, ?_, h2⟩
    rw [hb.block g' (lt_of_block h1) (fun e => by have := Option.some.inj e; omega)]; exact h1
set_option linter.unusedSimpArgs false in
set_option linter.unusedVariables false in
set_option maxRecDepth 100000 in
theorem drawRoundBest_any (A : Option Addr) (c : Nat) (bs : List Int) (w : World) (hkc : bs.length ≤ c) (hmc : c ≤ maxLen) (hbs : ∀ b ∈ bs, (Lit.int .u8 b).wf = true) (hrd : Rd w w.heap.size A (bc bs)) :
    Calls Tryd.prog 57 #[.slice A bs.length c] w (RoundFrom w) := by
  have hB := hide hbs
  clear hbs
  go_enter Tryd.func57, Tryd.ntmps57
  go_wp2_with fail
  have q2 := Row.new w 32 #[.int .i64 0, .int .i64 0]
  have b0 : Below w.heap.size w (w.alloc (.cells #[.int .i64 0, .int .i64 0] 32)) := by go_grown
  have hz2 := q2.lt
  generalize w.alloc (.cells #[.int .i64 0, .int .i64 0] 32) = w0 at *
  refine (open_any A c bs w0 hkc hmc hB.out (hrd.up b0)).mono ?_
  rintro e w1 ⟨rfl, hR, bo⟩
  have hz1 := bo.size
  have hgl1 := hR.lt
  replace q2 := q2.after bo
  have bb := via b0 bo b0.size
  clear b0 bo hkc hmc hrd hB
  go_wp2_with fail
  refine (sheets_any w0.heap.size _ _ _ (by omega) (by omega) (by omega) hR).mono ?_
  rintro e w2 ⟨L, d, zs, rfl, h1, h2, h3, h4, oL, hn, hR2, hG2⟩
  have hz3 := hG2.size
  replace q2 := q2.kept hG2 (by intro e; injection e with e; omega)
  replace bb := bb.trans (grown_low hG2 (by omega) (by omega))
  clear hR
  go_wp2_with fail
  refine (jump_any w0.heap.size _ _ _ (by omega) (by omega) (by omega) hR2).mono ?_
  rintro e w3 ⟨a, b, rfl, ha, hb, hR3, hG3⟩
  have hz4 := hG3.size
  replace q2 := q2.kept hG3 (by intro e; injection e with e; omega)
  replace bb := bb.trans (grown_low hG3 (by omega) (by omega))
  have oL3 := own_keepB oL hG3 (by omega)
  obtain ⟨c0, c1, f0, f1⟩ := two_cells q2
  have p2 := two_set q2 (.int .i64 a) (.int .i64 b)
  obtain ⟨k0, k1, _, _⟩ := two_cells p2
  have oL4 := own_keepB (own_keepB oL3 (grown_set _ ⟨w.heap.size, 0, none⟩ (.int .i64 a)) (by simp only; omega)) (grown_set _ ⟨w.heap.size, 1, none⟩ (.int .i64 b)) (by simp only; omega)
  have b4 := (bb.setCell (p := ⟨w.heap.size, 0, none⟩) (Nat.le_refl _) (.int .i64 a)).setCell (p := ⟨w.heap.size, 1, none⟩) (Nat.le_refl _) (.int .i64 b)
  clear hR2 hR3
  go_wp2
  refine bodyPost_ret (by simp [results, Tryd.results57, go_sem, k0, k1]; try rfl) rfl ?_
  exact ⟨L, d, zs, a, b, rfl, h1, h2, h3, ha, hb, oL4.mono (by omega), hn, b4⟩
set_option linter.unusedSimpArgs false in
set_option linter.unusedVariables false in
set_option maxRecDepth 100000 in
theorem drawRoundMost_any (A : Option Addr) (c : Nat) (bs : List Int) (w : World) (hkc : bs.length ≤ c) (hmc : c ≤ maxLen) (hbs : ∀ b ∈ bs, (Lit.int .u8 b).wf = true) (hrd : Rd w w.heap.size A (bc bs)) :
    Calls Tryd.prog 54 #[.slice A bs.length c] w (RoundFrom w) := by
  have hB := hide hbs
  clear hbs
  go_enter Tryd.func54, Tryd.ntmps54
  go_wp2_with fail
  have q2 := Row.new w 32 #[.int .i64 0, .int .i64 0]
  have b0 : Below w.heap.size w (w.alloc (.cells #[.int .i64 0, .int .i64 0] 32)) := by go_grown
  have hz2 := q2.lt
  have hz3 : w.heap.size < (w.alloc (.cells #[.int .i64 0, .int .i64 0] 32)).heap.size := by simp
  generalize w.alloc (.cells #[.int .i64 0, .int .i64 0] 32) = w0 at *
  refine (drawRoundBest_any A c bs w0 hkc hmc hB.out (hrd.up b0)).mono ?_
  rintro e w1 ⟨L, d, zs, a, b, rfl, h1, h2, h3, ha, hb, oL, hn, b1⟩
  replace q2 := q2.after b1
  have bb := via b0 b1 b0.size
  obtain ⟨c0, c1, f0, f1⟩ := two_cells q2
  have p2 := two_set q2 (.int .i64 a) (.int .i64 b)
  obtain ⟨k0, k1, _, _⟩ := two_cells p2
  have oL4 := own_keepB (own_keepB oL (grown_set _ ⟨w.heap.size, 0, none⟩ (.int .i64 a)) (by simp only; omega)) (grown_set _ ⟨w.heap.size, 1, none⟩ (.int .i64 b)) (by simp only; omega)
  have b4 := (bb.setCell (p := ⟨w.heap.size, 0, none⟩) (Nat.le_refl _) (.int .i64 a)).setCell (p := ⟨w.heap.size, 1, none⟩) (Nat.le_refl _) (.int .i64 b)
  clear hkc hmc hrd hB b1
  go_wp2
  refine bodyPost_ret (by simp [results, Tryd.results54, go_sem, k0, k1]; try rfl) rfl ?_
  exact ⟨L, d, zs, a, b, rfl, h1, h2, h3, ha, hb, oL4.mono (by omega), hn, b4⟩
end Go.Proofs.YtcdoopccmljaoaaDoor
