/- Sheets and a jump, drawn from a code, for the law of all rounds. No conditions. -/
import Derived.Test.YtcdoopccmljaoaaDoorDrawB
namespace Go.Proofs.YtcdoopccmljaoaaDoor
open Go.ChangeShapes Go.WideShapes Go.ChangeAt Go.RowKit Go.Deep
set_option linter.unusedSimpArgs false in
set_option linter.unusedVariables false in
set_option maxRecDepth 100000 in
theorem drawRoundsAll_any (A : Option Addr) (c : Nat) (bs : List Int) (w : World) (hkc : bs.length ≤ c) (hmc : c ≤ maxLen) (hbs : ∀ b ∈ bs, (Lit.int .u8 b).wf = true) (hrd : Rd w w.heap.size A (bc bs)) :
    Calls Tryd.prog 64 #[.slice A bs.length c] w (RoundFrom w) := by
  have hB := hide hbs
  clear hbs
  go_enter Tryd.func64, Tryd.ntmps64
  go_wp2_with fail
  have q2 := Row.new w 32 #[.int .i64 0, .int .i64 0]
  have b0 : Below w.heap.size w (w.alloc (.cells #[.int .i64 0, .int .i64 0] 32)) := by go_grown
  have hz2 := q2.lt
  have hz3 : w.heap.size < (w.alloc (.cells #[.int .i64 0, .int .i64 0] 32)).heap.size := by simp
  generalize w.alloc (.cells #[.int .i64 0, .int .i64 0] 32) = w0 at *
  refine (drawRoundBest_any A c bs w0 hkc hmc hB.out (hrd.up b0)).mono ?_
  rintro e w1 ⟨L, d, zs, a, b, rfl, h1, h2, h3, ha, hb, oL, hn, b1⟩
  replace q2 := q2.after b1
  have bb := via b0 b1 b0.size
  obtain ⟨c0, c1, f0, f1⟩ := two_cells q2
  have p2 := two_set q2 (.int .i64 a) (.int .i64 b)
  obtain ⟨k0, k1, _, _⟩ := two_cells p2
  have oL4 := own_keepB (own_keepB oL (grown_set _ ⟨w.heap.size, 0, none⟩ (.int .i64 a)) (by simp only; omega)) (grown_set _ ⟨w.heap.size, 1, none⟩ (.int .i64 b)) (by simp only; omega)
  have b4 := (bb.setCell (p := ⟨w.heap.size, 0, none⟩) (Nat.le_refl _) (.int .i64 a)).setCell (p := ⟨w.heap.size, 1, none⟩) (Nat.le_refl _) (.int .i64 b)
  clear hkc hmc hrd hB b1
  go_wp2
  refine bodyPost_ret (by simp [results, Tryd.results64, go_sem, k0, k1]; try rfl) rfl ?_
  exact ⟨L, d, zs, a, b, rfl, h1, h2, h3, ha, hb, oL4.mono (by omega), hn, b4⟩
end Go.Proofs.YtcdoopccmljaoaaDoor
