/- The laws' helpers over spots and lifts, and words for a law's walk. No conditions but bounds on lengths. -/
import Derived.Test.YtgohnbhnckgcnaaBoxes
import Derived.Test.YtgohnbhnckgcnaaPileLaw
namespace Go.Proofs.Ytgohnbhnckgcnaa
open Go.ChangeShapes Go.WideShapes Go.ChangeAt Go.RowKit Go.Deep
theorem ext_lift {w0 w6 : World} (b : Below w0.heap.size w0 w6) {p : Addr} {v : Value} (K : ∀ x : Ext w0, x.val.cell? p = some v) : ∀ x : Ext w6, x.val.cell? p = some v := fun x => K ⟨x.val, via b x.below b.size⟩
theorem cell_in {w0 w6 : World} (b : Below w0.heap.size w0 w6) {p : Addr} {v : Value} (K : ∀ x : Ext w0, x.val.cell? p = some v) : w6.cell? p = some v := K ⟨w6, b⟩
theorem held_of {w0 : World} {p : Addr} {v : Value} (K : ∀ x : Ext w0, x.val.cell? p = some v) : ∀ W : World, Below w0.heap.size w0 W → W.cell? p = some v := fun W h => K ⟨W, h⟩
theorem bne_int (a : Int) : (a != a) = false := by simp
theorem bne_bool (a : Bool) : (a != a) = false := by simp
theorem toSpot_any (t : Bool) (k : Int) (w : World) : Calls Try.prog 30 #[.agg #[.bool t, .int .i64 k]] w fun e w' => e = .returned (.agg #[.bool t, .int .i64 k]) ∧ Below w.heap.size w w' := by
  go_enter Try.func30, Try.ntmps30
  go_wp2
  refine bodyPost_ret (by simp [results, Try.results30, go_sem]; try rfl) rfl ?_
  exact ⟨rfl, by go_grown⟩
theorem eqSpot_any (t : Bool) (k : Int) (w : World) : Calls Try.prog 28 #[.agg #[.bool t, .int .i64 k], .agg #[.bool t, .int .i64 k]] w fun e w' => e = .returned (.bool true) ∧ Below w.heap.size w w' := by
  go_enter Try.func28, Try.ntmps28
  go_wp2
  go_ret
  exact ⟨rfl, by go_grown⟩
theorem set4 {w : World} {g : Nat} {T : TypeId} {u0 u1 u2 u3 : Value} (q : Row w g T [u0, u1, u2, u3]) (a b : Value) : Row ((w.setCell ⟨g, 0, none⟩ a).setCell ⟨g, 1, none⟩ b) g T [a, b, u2, u3] := by
  simpa using (q.set 0 a).set 1 b
theorem set4' {w : World} {g : Nat} {T : TypeId} {u0 u1 u2 u3 : Value} (q : Row w g T [u0, u1, u2, u3]) (a b : Value) : Row ((w.setCell ⟨g, 2, none⟩ a).setCell ⟨g, 3, none⟩ b) g T [u0, u1, a, b] := by
  simpa using (q.set 2 a).set 3 b
theorem ret_four {P : Program} {f : Func} {Q : Ending → World → Prop} {a : Act} {w W : World} {r : Nat} {T : TypeId} {u0 u1 u2 u3 v0 v1 v2 v3 : Value} (q : Row W r T [u0, u1, u2, u3]) (hr : w.heap.size ≤ r) (hb : Below w.heap.size w W)
    (h : ∀ W' : World, W'.cell? ⟨r, 0, none⟩ = some v0 → W'.cell? ⟨r, 1, none⟩ = some v1 → W'.cell? ⟨r, 2, none⟩ = some v2 → W'.cell? ⟨r, 3, none⟩ = some v3 → Below w.heap.size w W' → bodyPost P f Q Exit.ret a W') :
    bodyPost P f Q Exit.ret a ((((W.setCell ⟨r, 0, none⟩ v0).setCell ⟨r, 1, none⟩ v1).setCell ⟨r, 2, none⟩ v2).setCell ⟨r, 3, none⟩ v3) := by
  have q2 := set4' (set4 q v0 v1) v2 v3
  obtain ⟨k0, k1, k2, k3⟩ := q2.four
  exact h _ k0 k1 k2 k3 ((((hb.setCell hr _).setCell hr _).setCell hr _).setCell hr _)
theorem toLift_any (a : Bool) (b : Int) (s : Bool) (t : Int) (w : World) : Calls Try.prog 47 #[.agg #[.bool a, .int .i64 b, .bool s, .int .i64 t]] w fun e w' => e = .returned (.agg #[.bool a, .int .i64 b, .bool s, .int .i64 t]) ∧ Below w.heap.size w w' := by
  go_enter Try.func47, Try.ntmps47
  go_wp2_with fail
  have b0 : Below w.heap.size w (((w.alloc (.cells #[.bool a, .int .i64 b, .bool s, .int .i64 t] 57)).alloc (.cells #[.bool false, .int .i64 0, .bool false, .int .i64 0] 60)).alloc (.cells #[.bool false, .int .i64 0, .bool false, .int .i64 0] 60)) := by go_grown
  have q0 : Row (((w.alloc (.cells #[.bool a, .int .i64 b, .bool s, .int .i64 t] 57)).alloc (.cells #[.bool false, .int .i64 0, .bool false, .int .i64 0] 60)).alloc (.cells #[.bool false, .int .i64 0, .bool false, .int .i64 0] 60)) w.heap.size 57 [.bool a, .int .i64 b, .bool s, .int .i64 t] := ((Row.new _ _ _).alloc _).alloc _
  have q1 : Row (((w.alloc (.cells #[.bool a, .int .i64 b, .bool s, .int .i64 t] 57)).alloc (.cells #[.bool false, .int .i64 0, .bool false, .int .i64 0] 60)).alloc (.cells #[.bool false, .int .i64 0, .bool false, .int .i64 0] 60)) (w.heap.size + 1) 60 [.bool false, .int .i64 0, .bool false, .int .i64 0] := ((Row.new _ _ _).alloc _).eq (by simp)
  have q2 : Row (((w.alloc (.cells #[.bool a, .int .i64 b, .bool s, .int .i64 t] 57)).alloc (.cells #[.bool false, .int .i64 0, .bool false, .int .i64 0] 60)).alloc (.cells #[.bool false, .int .i64 0, .bool false, .int .i64 0] 60)) (w.heap.size + 1 + 1) 60 [.bool false, .int .i64 0, .bool false, .int .i64 0] := (Row.new _ _ _).eq (by simp)
  generalize ((w.alloc (.cells #[.bool a, .int .i64 b, .bool s, .int .i64 t] 57)).alloc (.cells #[.bool false, .int .i64 0, .bool false, .int .i64 0] 60)).alloc (.cells #[.bool false, .int .i64 0, .bool false, .int .i64 0] 60) = w0 at *
  refine (toSpot_any a b w0).mono ?_
  rintro e w1 ⟨rfl, b1⟩
  have q0a := q0.after b1
  have q1a := q1.after b1
  have q2a := q2.after b1
  have ba := via b0 b1 b0.size
  clear b1 q0 q1 q2
  obtain ⟨k0, k1, k2, k3⟩ := q2a.four
  obtain ⟨m0, m1, m2, m3⟩ := q0a.four
  have f0 := q2a.frozen 0
  have f1 := q2a.frozen 1
  go_wp2_with fail
  have q0b := (q0a.far (p := ⟨w.heap.size + 1 + 1, 0, none⟩) (by simp only; omega) (.bool a)).far (p := ⟨w.heap.size + 1 + 1, 1, none⟩) (by simp only; omega) (.int .i64 b)
  have q1b := (q1a.far (p := ⟨w.heap.size + 1 + 1, 0, none⟩) (by simp only; omega) (.bool a)).far (p := ⟨w.heap.size + 1 + 1, 1, none⟩) (by simp only; omega) (.int .i64 b)
  have q2b := set4 q2a (.bool a) (.int .i64 b)
  have bb := (ba.setCell (p := ⟨w.heap.size + 1 + 1, 0, none⟩) (by simp only; omega) (.bool a)).setCell (p := ⟨w.heap.size + 1 + 1, 1, none⟩) (by simp only; omega) (.int .i64 b)
  generalize (w1.setCell ⟨w.heap.size + 1 + 1, 0, none⟩ (.bool a)).setCell ⟨w.heap.size + 1 + 1, 1, none⟩ (.int .i64 b) = w2 at *
  clear k0 k1 k2 k3 m0 m1 m2 m3 f0 f1 q0a q1a q2a ba
  refine (toSpot_any s t w2).mono ?_
  rintro e w3 ⟨rfl, b3⟩
  have q1a := q1b.after b3
  have q2a := q2b.after b3
  have ba := via bb b3 bb.size
  clear b3 q0b q1b q2b bb
  obtain ⟨k0, k1, k2, k3⟩ := q2a.four
  obtain ⟨m0, m1, m2, m3⟩ := q1a.four
  have f0 := q2a.frozen 2
  have f1 := q2a.frozen 3
  have f4 := q1a.frozen 0
  have f5 := q1a.frozen 1
  have f6 := q1a.frozen 2
  have f7 := q1a.frozen 3
  go_wp2
  have q1b := (q1a.far (p := ⟨w.heap.size + 1 + 1, 2, none⟩) (by simp only; omega) (.bool s)).far (p := ⟨w.heap.size + 1 + 1, 3, none⟩) (by simp only; omega) (.int .i64 t)
  have bb := (ba.setCell (p := ⟨w.heap.size + 1 + 1, 2, none⟩) (by simp only; omega) (.bool s)).setCell (p := ⟨w.heap.size + 1 + 1, 3, none⟩) (by simp only; omega) (.int .i64 t)
  refine ret_four (w := w) q1b (by omega) bb ?_
  intro wz k5 k6 k7 k8 bz
  refine bodyPost_ret (by simp [results, Try.results47, go_sem, k5, k6, k7, k8]; try rfl) rfl ?_
  exact ⟨rfl, bz⟩
end Go.Proofs.Ytgohnbhnckgcnaa
