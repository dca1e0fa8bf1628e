/- A law's argument: a list of lifts. No conditions. -/
import Derived.Test.YtgohnbhnckgcnaaOpsLift
import Derived.Test.YtgohnbhnckgcnaaLiftRun
namespace Go.Proofs.Ytgohnbhnckgcnaa
open Go.ChangeShapes Go.WideShapes Go.ChangeAt Go.RowKit Go.Deep
section
variable {H : Type} {enc : TypeId × Value → H} {P : Program} {w : World} {spare : Nat → Bool} {held : Bool}
theorem op_lifts {r : Reach} {b0 : Nat} {t e sp : TypeId} {f0 f1 g0 g1 : Field} {v : Value} {d : DataW H} {ps : List MemPlace} (ht : P.underlying t = some (.slice e)) (hs : P.underlying e = some (.struct #[f0, f1]))
    (hC4 : P.cellsOf e = 4) (hC : (f0.offset == 0 && f1.offset == 2 && f0.type == sp && f1.type == sp) = true) (hsp : P.underlying sp = some (.struct #[g0, g1])) (hone : oneCellFields P #[g0, g1] = true) (hC2 : P.cellsOf sp = 2)
    (hbo : P.underlying g0.type = some .bool) (hin : P.underlying g1.type = some (.int .i64)) (hval : Value.okWide P w r b0 t v) (hd : DataW.Trod enc P w 0 spare held t v d ps) :
    ∃ (A : Option Addr) (n c : Nat) (z : List LF), v = .slice A n c ∧ z.length = n ∧ n ≤ c ∧ c ≤ maxLen ∧ Rd w w.heap.size A (lc z) := by
  obtain ⟨A, n, c, rfl⟩ := okWide_slice ht hval
  obtain ⟨fuel, hf⟩ := hd
  rcases open_slice ht (x := (d, ps)) (by simpa [Value.cells] using hf) with ⟨hcs, _⟩ | ⟨a, len, cap, m, q, D, Pl, hcs, _, hl, hm, hmm, _, hi⟩
  · simp at hcs
    obtain ⟨rfl, rfl, rfl⟩ := hcs
    exact ⟨none, 0, 0, [], rfl, rfl, Nat.le_refl _, by simp [maxLen], .inl rfl⟩
  · simp at hcs
    obtain ⟨rfl, rfl, rfl⟩ := hcs
    have hnm : n ≤ m := by rw [hmm]; split <;> omega
    have hex : ∀ i, i < n → ∃ l : LF, w.cell? (a.add (i * 4)) = some (.bool l.1.1) ∧ w.cell? (a.add (i * 4 + 1)) = some (.int .i64 l.1.2) ∧ w.cell? (a.add (i * 4 + 2)) = some (.bool l.2.1) ∧ w.cell? (a.add (i * 4 + 3)) = some (.int .i64 l.2.2) := by
      intro i hin'
      obtain ⟨cs', hc, ht'⟩ := hi i (by omega)
      rw [hC4] at hc
      obtain ⟨_, hcl, hat⟩ := World.cells?_some hc
      match cs', hcl, hat, ht' with
      | [c0, c1, c2, c3], _, hat, ht' =>
        obtain ⟨x0, x1, x2, x3, rfl, rfl, rfl, rfl⟩ := four_spots hs hC hsp hone hC2 hbo hin rfl ht'
        have a0 := hat 0 (by decide)
        have a1 := hat 1 (by decide)
        have a2 := hat 2 (by decide)
        have a3 := hat 3 (by decide)
        rw [add_add] at a0 a1 a2 a3
        exact ⟨((x0, x1), (x2, x3)), by simpa using a0, by simpa using a1, by simpa using a2, by simpa using a3⟩
    obtain ⟨F, hF⟩ := choose_lt hex
    refine ⟨some a, n, c, (List.range n).map F, rfl, by simp, hl, hm, ?_⟩
    by_cases h0' : n = 0
    · subst h0'; exact .inl (by simp [lc])
    · obtain ⟨b, o, spot⟩ := a
      have g0 := (hF 0 (by omega)).1
      have hspot : spot = none := by simpa [Addr.add] using World.cell?_spot g0
      subst hspot
      have hb : b < w.heap.size := by simpa [Addr.add] using block_lt_of_cell g0
      refine .inr ⟨b, o, rfl, hb, fun j hj => ?_⟩
      have hlen := lc_len ((List.range n).map F)
      have hjn : j / 4 < n := by simp at hlen; omega
      obtain ⟨s0, s1, s2, s3⟩ := lc_get ((List.range n).map F) (j / 4) (by simpa using hjn)
      have := hF (j / 4) hjn
      rw [add_plain, add_plain, add_plain, add_plain] at this
      rw [← List.getElem?_eq_getElem hj]
      have hm4 : j % 4 = 0 ∨ j % 4 = 1 ∨ j % 4 = 2 ∨ j % 4 = 3 := by omega
      rcases hm4 with e | e | e | e
      · have ej : j / 4 * 4 = j := by omega
        rw [ej] at s0 this
        rw [this.1, s0]; simp
      · have ej : j / 4 * 4 + 1 = j := by omega
        rw [ej] at s1 this
        rw [this.2.1, s1]; simp
      · have ej : j / 4 * 4 + 2 = j := by omega
        rw [ej] at s2 this
        rw [this.2.2.1, s2]; simp
      · have ej : j / 4 * 4 + 3 = j := by omega
        rw [ej] at s3 this
        rw [this.2.2.2, s3]; simp
end
end Go.Proofs.Ytgohnbhnckgcnaa
