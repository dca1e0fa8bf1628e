/- A law's arguments: lifts, lists of lifts. No conditions. -/
import Derived.Test.YtgohnbhnckgcnaaOps
import Derived.Test.YtgohnbhnckgcnaaCoilMath
namespace Go.Proofs.Ytgohnbhnckgcnaa
open Go.ChangeShapes Go.WideShapes Go.ChangeAt Go.RowKit Go.Deep
section
variable {H : Type} {enc : TypeId × Value → H} {P : Program} {w : World} {spare : Nat → Bool} {held : Bool}
/-- Two spots in a row of four cells. -/
theorem four_spots {t sp : TypeId} {f0 f1 g0 g1 : Field} {cs : List Value} {fuel : Nat} {x : DataW H × List MemPlace} (hs : P.underlying t = some (.struct #[f0, f1]))
    (hC : (f0.offset == 0 && f1.offset == 2 && f0.type == sp && f1.type == sp) = true) (hsp : P.underlying sp = some (.struct #[g0, g1])) (hone : oneCellFields P #[g0, g1] = true) (hC2 : P.cellsOf sp = 2)
    (hb : P.underlying g0.type = some .bool) (hi : P.underlying g1.type = some (.int .i64)) {c0 c1 c2 c3 : Value} (hcs : cs = [c0, c1, c2, c3]) (h : DataW.trod enc P w 0 spare held fuel t cs = some x) :
    ∃ (a : Bool) (b : Int) (s : Bool) (u : Int), c0 = .bool a ∧ c1 = .int .i64 b ∧ c2 = .bool s ∧ c3 = .int .i64 u := by
  subst hcs
  simp only [Bool.and_eq_true, beq_iff_eq] at hC
  obtain ⟨⟨⟨o0, o1⟩, t0⟩, t1⟩ := hC
  obtain ⟨y0, y1, n, _, _, h0, h1⟩ := trod_struct2 hs h
  rw [t0, o0, hC2] at h0
  rw [t1, o1, hC2] at h1
  obtain ⟨p0, p1⟩ := hone_of hone 0 g0 rfl
  obtain ⟨p2, p3⟩ := hone_of hone 1 g1 rfl
  obtain ⟨z0, z1, m, _, _, e0, e1⟩ := trod_struct2 hsp h0
  obtain ⟨z2, z3, m', _, _, e2, e3⟩ := trod_struct2 hsp h1
  rw [p0, p1] at e0 e2
  rw [p2, p3] at e1 e3
  obtain ⟨a, ea, _⟩ := DataW.trod_bool hb e0
  obtain ⟨b, eb, _⟩ := DataW.trod_int hi e1
  obtain ⟨s, es, _⟩ := DataW.trod_bool hb e2
  obtain ⟨u, eu, _⟩ := DataW.trod_int hi e3
  simp at ea eb es eu
  exact ⟨a, b, s, u, ea, eb, es, eu⟩
theorem op_lift {r : Reach} {b0 : Nat} {t sp : TypeId} {f0 f1 g0 g1 : Field} {v : Value} {d : DataW H} {ps : List MemPlace} (hs : P.underlying t = some (.struct #[f0, f1]))
    (hC4 : P.cellsOf t = 4) (hC : (f0.offset == 0 && f1.offset == 2 && f0.type == sp && f1.type == sp) = true) (hsp : P.underlying sp = some (.struct #[g0, g1])) (hone : oneCellFields P #[g0, g1] = true) (hC2 : P.cellsOf sp = 2)
    (hb : P.underlying g0.type = some .bool) (hi : P.underlying g1.type = some (.int .i64)) (hval : Value.okWide P w r b0 t v) (hd : DataW.Trod enc P w 0 spare held t v d ps) :
    ∃ (a : Bool) (b : Int) (s : Bool) (u : Int), v = .agg #[.bool a, .int .i64 b, .bool s, .int .i64 u] := by
  obtain ⟨cs, rfl, hsz⟩ := okWide_struct hs hval
  obtain ⟨fuel, hf⟩ := hd
  have hl : cs.toList.length = 4 := by simp [hsz, hC4]
  match e : cs.toList, hl with
  | [c0, c1, c2, c3], _ =>
    obtain ⟨a, b, s, u, rfl, rfl, rfl, rfl⟩ := four_spots hs hC hsp hone hC2 hb hi (by simpa [Value.cells] using e) hf
    exact ⟨a, b, s, u, by rw [show cs = #[.bool a, .int .i64 b, .bool s, .int .i64 u] from Array.toList_inj.1 e]⟩
end
end Go.Proofs.Ytgohnbhnckgcnaa
