/- What is drawn from a code: speeds, sheets, jumps. No conditions but bounds on how often the reader was asked. -/
import Derived.Test.YtcdoopccmljaoaaDoorDraw1
namespace Go.Proofs.YtcdoopccmljaoaaDoor
open Go.ChangeShapes Go.WideShapes Go.ChangeAt Go.RowKit Go.Deep
theorem mul_bd2 {x y a b : Int} (h0 : 0 ≤ x) (h1 : x ≤ a) (h2 : 0 ≤ y) (h3 : y ≤ b) : 0 ≤ x * y ∧ x * y ≤ a * b :=
  ⟨Int.mul_nonneg h0 h2, Int.mul_le_mul h1 h3 h2 (by omega)⟩
theorem grown_of {w w' : World} (h : Below w.heap.size w w') (row : Option Nat) : w.grownBy w' row := ⟨h.os, h.tape, h.output, h.size, fun i hi _ => h.block i hi⟩
theorem grown_store {w W : World} {row : Option Nat} (h : w.grownBy W row) {p : Addr} (hp : w.heap.size ≤ p.block) (u : Value) : w.grownBy (W.setCell p u) row := by
  refine ⟨h.os, h.tape, h.output, ?_, fun i hi hne => ?_⟩
  · have := (grown_set W p u).size; have := h.size; omega
  · rw [heap_setCell_other W p i u (by omega)]; exact h.block i hi hne
theorem Rdr.kept {w w' : World} {g k : Nat} {row : Option Nat} (h : Rdr w g k) (hb : w.grownBy w' row) (hne : ∀ b, row = some b → g < b) : Rdr w' g k := by
  have hlt := h.lt
  obtain ⟨A, c, bs, j, h1, h2, h3, h4, q⟩ := h
  refine ⟨A, c, bs, j, h1, h2, h3, h4.below (B := g) ?_, q.kept hb fun e => by have := hne g e.symm; omega⟩
  exact (Below.refl g w).grown hb (by omega) fun b hk => by have := hne b hk; omega
theorem grown_own {w W W' : World} {row row' : Option Nat} (h : w.grownBy W row) (h' : W.grownBy W' row') (hne : ∀ b, row' = some b → w.heap.size ≤ b) : w.grownBy W' row :=
  ⟨h'.os.trans h.os, h'.tape.trans h.tape, h'.output.trans h.output, Nat.le_trans h.size h'.size, fun i hi hn => (h'.block i (Nat.lt_of_lt_of_le hi h.size) (fun e => by have := hne i e.symm; omega)).trans (h.block i hi hn)⟩
theorem grown_drewS {w W : World} {row : Option Nat} (h : w.grownBy W row) : w.grownBy W.drew row := ⟨h.os, h.tape, h.output, h.size, h.block⟩
theorem grown_allocS {w W : World} {row : Option Nat} (h : w.grownBy W row) (o : Obj) : w.grownBy (W.alloc o) row := grown_own h (grown_of (show Below W.heap.size W (W.alloc o) by go_grown) none) fun b hb => by cases hb
theorem Rd.kept {w w' : World} {B : Nat} {A : Option Addr} {xs : List Value} {row : Option Nat} (h : Rd w B A xs) (hB : B ≤ w.heap.size) (hb : w.grownBy w' row) (hne : ∀ b o s, A = some ⟨b, o, s⟩ → some b ≠ row) : Rd w' B A xs := by
  rcases h with h | ⟨b, o, rfl, hlt, hc⟩
  · exact .inl h
  · refine .inr ⟨b, o, rfl, hlt, fun j hj => ?_⟩
    rw [← hc j hj]
    simp only [World.cell?, hb.block b (by omega) (hne _ _ _ rfl)]
/-- An old cell of another block than the reader's, in every later world. -/
theorem cell_kept {w w' : World} {b o g : Nat} {v : Value} (hc : w.cell? ⟨b, o, none⟩ = some v) (hb : b ≠ g) (hg : w.grownBy w' (some g)) : w'.cell? ⟨b, o, none⟩ = some v := by
  rw [← hc]
  simp only [World.cell?, hg.block b (block_lt_of_cell hc) (by simpa using hb)]
/-- One of two numbers. -/
def oneOf (a b x : Int) : Int := if x = 0 then a else b
theorem two_new (w : World) (T : TypeId) (a b x : Int) (h0 : 0 ≤ x) (h1 : x < 2) : (w.alloc (.cells #[.int .i64 a, .int .i64 b] T)).cell? ⟨w.heap.size, x.toNat, none⟩ = some (.int .i64 (oneOf a b x)) := by
  obtain rfl | rfl : x = 0 ∨ x = 1 := by omega
  · exact (Row.new w T #[.int .i64 a, .int .i64 b]).cell (j := 0) (by simp)
  · exact (Row.new w T #[.int .i64 a, .int .i64 b]).cell (j := 1) (by simp)
theorem two_old {w w' : World} {T : TypeId} {g : Nat} {a b : Int} (x : Int) (h0 : 0 ≤ x) (h1 : x < 2) (hg : w.heap.size ≠ g) (hG : (w.alloc (.cells #[.int .i64 a, .int .i64 b] T)).drew.grownBy w' (some g)) : w'.cell? ⟨w.heap.size, x.toNat, none⟩ = some (.int .i64 (oneOf a b x)) :=
  cell_kept (w := (w.alloc (.cells #[.int .i64 a, .int .i64 b] T)).drew) (two_new w T a b x h0 h1) hg hG
theorem two_cells {w : World} {g : Nat} {T : TypeId} {u v : Value} (q : Row w g T [u, v]) : w.cell? ⟨g, 0, none⟩ = some u ∧ w.cell? ⟨g, 1, none⟩ = some v ∧ w.frozen? ⟨g, 0, none⟩ = false ∧ w.frozen? ⟨g, 1, none⟩ = false :=
  ⟨q.cell (j := 0) (by simp), q.cell (j := 1) (by simp), q.frozen 0, q.frozen 1⟩
theorem two_set {w : World} {g : Nat} {T : TypeId} {u v : Value} (q : Row w g T [u, v]) (a b : Value) : Row ((w.setCell ⟨g, 0, none⟩ a).setCell ⟨g, 1, none⟩ b) g T [a, b] := by
  simpa using (q.set 0 a).set 1 b
theorem grown_two {w W : World} {row : Option Nat} (h : w.grownBy W row) {g : Nat} (hg : w.heap.size ≤ g) (a b : Value) : w.grownBy ((W.setCell ⟨g, 0, none⟩ a).setCell ⟨g, 1, none⟩ b) row := grown_store (grown_store h hg _) hg _
theorem Rdr.two {w : World} {g k r : Nat} (h : Rdr w g k) (hr : g < r) (a b : Value) : Rdr ((w.setCell ⟨r, 0, none⟩ a).setCell ⟨r, 1, none⟩ b) g k := (h.far (p := ⟨r, 0, none⟩) hr a).far (p := ⟨r, 1, none⟩) hr b
theorem drawSpeedOut_any (A : Option Addr) (c : Nat) (bs : List Int) (w : World) (hkc : bs.length ≤ c) (hmc : c ≤ maxLen) (hbs : ∀ b ∈ bs, (Lit.int .u8 b).wf = true) (hrd : Rd w w.heap.size A (bc bs)) :
    Calls Tryd.prog 29 #[.slice A bs.length c] w fun e w' => ∃ s f t : Int, e = .returned (.tuple #[.int .i64 s, .int .i64 f, .int .i64 t]) ∧ (-6000 ≤ s ∧ s ≤ 6000) ∧ (1 ≤ f ∧ f ≤ 410) ∧ (0 ≤ t ∧ t ≤ 410) ∧ Below w.heap.size w w' := by
  go_enter Tryd.func29, Tryd.ntmps29
  go_wp2_with fail
  have hB := hide hbs
  clear hbs
  refine (open_any A c bs w hkc hmc hB.out hrd).mono ?_
  rintro e w1 ⟨rfl, hR, bo⟩
  have HR := hide hR
  have HG := hide (grown_self w1 (some w.heap.size))
  have HO := hide bo
  clear hR bo
  go_wp2_with fail
  refine (thick_any w.heap.size _ _ (by omega) HR.out).mono ?_
  rintro e w2 ⟨f, t, p, rfl, hf, ht, _, hR, hG⟩
  replace HR := hide hR
  replace HG := hide (grown_trans HG.out hG)
  clear hR hG
  go_wp2_with fail
  refine (pick_any _ _ _ _ (by omega) (by omega) (by omega) HR.out).mono ?_
  rintro e w' ⟨x1, rfl, hax1, hbx1, hR', hG'⟩
  replace HR := hide hR'
  replace HG := hide (grown_trans HG.out hG')
  clear hR' hG'
  go_wp2_with fail
  refine (pick_any _ _ _ _ (by omega) (by omega) (by omega) HR.out).mono ?_
  rintro e w' ⟨x2, rfl, hax2, hbx2, hR', hG'⟩
  replace HR := hide hR'
  replace HG := hide (grown_trans HG.out hG')
  clear hR' hG'
  have hm := mul_bd2 (a := 255) (b := 4) hax1 (by omega) (show 0 ≤ 1 + x2 by omega) (by omega)
  go_wp2_with fail
  refine (pick_any _ _ _ _ (by omega) (by omega) (by omega) HR.out).mono ?_
  rintro e w' ⟨x3, rfl, hax3, hbx3, hR', hG'⟩
  replace HR := hide hR'
  replace HG := hide (grown_trans HG.out hG')
  clear hR' hG'
  go_wp2
  go_returns
  exact ⟨_, f, t, rfl, ⟨by omega, by omega⟩, hf, ht, HO.out.trans (grown_low HG.out (Nat.le_refl _) HO.out.size)⟩
theorem drawSpeedSafe_any (A : Option Addr) (c : Nat) (bs : List Int) (w : World) (hkc : bs.length ≤ c) (hmc : c ≤ maxLen) (hbs : ∀ b ∈ bs, (Lit.int .u8 b).wf = true) (hrd : Rd w w.heap.size A (bc bs)) :
    Calls Tryd.prog 38 #[.slice A bs.length c] w fun e w' => ∃ s f t : Int, e = .returned (.tuple #[.int .i64 s, .int .i64 f, .int .i64 t]) ∧ (-6000 ≤ s ∧ s ≤ 6000) ∧ (1 ≤ f ∧ f ≤ 410) ∧ (0 ≤ t ∧ t ≤ 410) ∧ Below w.heap.size w w' := by
  go_enter Tryd.func38, Tryd.ntmps38
  go_wp2_with fail
  have hB := hide hbs
  clear hbs
  refine (open_any A c bs w hkc hmc hB.out hrd).mono ?_
  rintro e w1 ⟨rfl, hR, bo⟩
  have HR := hide hR
  have HG := hide (grown_self w1 (some w.heap.size))
  have HO := hide bo
  clear hR bo
  go_wp2_with fail
  refine (thick_any w.heap.size _ _ (by omega) HR.out).mono ?_
  rintro e w2 ⟨f, t, p, rfl, hf, ht, _, hR, hG⟩
  replace HR := hide hR
  replace HG := hide (grown_trans HG.out hG)
  clear hR hG
  go_wp2_with fail
  refine (pick_any _ _ _ _ (by omega) (by omega) (by omega) HR.out).mono ?_
  rintro e w' ⟨x1, rfl, hax1, hbx1, hR', hG'⟩
  replace HR := hide hR'
  replace HG := hide (grown_trans HG.out hG')
  clear hR' hG'
  go_wp2_with fail
  refine (pick_any _ _ _ _ (by omega) (by omega) (by omega) HR.out).mono ?_
  rintro e w' ⟨x2, rfl, hax2, hbx2, hR', hG'⟩
  replace HR := hide hR'
  replace HG := hide (grown_trans HG.out hG')
  clear hR' hG'
  have hm := mul_bd2 (a := 255) (b := 20) hax1 (by omega) (show 0 ≤ 1 + x2 by omega) (by omega)
  go_wp2_with fail
  refine (pick_any _ _ _ _ (by omega) (by omega) (by omega) HR.out).mono ?_
  rintro e w' ⟨x3, rfl, hax3, hbx3, hR', hG'⟩
  replace HR := hide hR'
  replace HG := hide (grown_trans HG.out hG')
  clear hR' hG'
  go_wp2
  go_returns
  exact ⟨_, f, t, rfl, ⟨by omega, by omega⟩, hf, ht, HO.out.trans (grown_low HG.out (Nat.le_refl _) HO.out.size)⟩
theorem drawRollLeast_any (A : Option Addr) (c : Nat) (bs : List Int) (w : World) (hkc : bs.length ≤ c) (hmc : c ≤ maxLen) (hbs : ∀ b ∈ bs, (Lit.int .u8 b).wf = true) (hrd : Rd w w.heap.size A (bc bs)) :
    Calls Tryd.prog 32 #[.slice A bs.length c] w fun e w' => ∃ f p : Int, e = .returned (.tuple #[.int .i64 f, .int .i64 p]) ∧ (1 ≤ f ∧ f ≤ 410) ∧ (1 ≤ p ∧ p ≤ 120) ∧ Below w.heap.size w w' := by
  go_enter Tryd.func32, Tryd.ntmps32
  go_wp2_with fail
  have hB := hide hbs
  clear hbs
  refine (open_any A c bs w hkc hmc hB.out hrd).mono ?_
  rintro e w1 ⟨rfl, hR, bo⟩
  have HR := hide hR
  have HG := hide (grown_self w1 (some w.heap.size))
  have HO := hide bo
  clear hR bo
  go_wp2_with fail
  refine (thick_any w.heap.size _ _ (by omega) HR.out).mono ?_
  rintro e w2 ⟨f, t, p, rfl, hf, _, hp, hR, hG⟩
  go_wp2
  go_returns
  exact ⟨f, p, rfl, hf, hp, HO.out.trans (grown_low hG (Nat.le_refl _) HO.out.size)⟩
theorem jump_any (g k : Nat) (n : Int) (w : World) (hn : 0 ≤ n) (hn1 : n ≤ 1048576) (hk : k ≤ 1048000) (hR : Rdr w g k) :
    Calls Tryd.prog 80 #[.pointer (some ⟨g, 0, none⟩), .int .i64 n] w fun e w' => ∃ a b : Int, e = .returned (.agg #[.int .i64 a, .int .i64 b]) ∧ (-1 ≤ a ∧ a ≤ 401) ∧ (-1 ≤ b ∧ b ≤ 401) ∧ DrawnTo w w' g (k + 3) := by
  go_enter Tryd.func80, Tryd.ntmps80
  go_wp2_with fail
  have hgl := hR.lt
  have q0 := Row.new w 32 #[.int .i64 0, .int .i64 0]
  have HR := hide (hR.alloc (.cells #[.int .i64 0, .int .i64 0] 32))
  have HG := hide (grown_of (show Below w.heap.size w (w.alloc (.cells #[.int .i64 0, .int .i64 0] 32)) by go_grown) (some g))
  generalize w.alloc (.cells #[.int .i64 0, .int .i64 0] 32) = w0 at *
  clear hR
  refine (odd_any g _ n w0 hn hn1 (by omega) HR.out).mono ?_
  rintro e w1 ⟨b, rfl, hR', hG'⟩
  have q1 := q0.kept hG' (by intro e; injection e with e; omega)
  replace HR := hide hR'
  replace HG := hide (grown_trans HG.out hG')
  clear hR' hG' q0
  cases b
  · go_wp2_with fail
    refine (pick_any _ _ _ _ (by omega) (by omega) (by omega) HR.out).mono ?_
    rintro e w' ⟨x1, rfl, hax1, hbx1, hR', hG'⟩
    replace HR := hide hR'
    replace HG := hide (grown_trans HG.out hG')
    have q2 := q1.kept hG' (by intro e; injection e with e; omega)
    clear hR' hG'
    go_wp2_with fail
    refine (pick_any _ _ _ _ (by omega) (by omega) (by omega) HR.out).mono ?_
    rintro e w' ⟨x2, rfl, hax2, hbx2, hR', hG'⟩
    replace HR := hide hR'
    replace HG := hide (grown_trans HG.out hG')
    have q3 := q2.kept hG' (by intro e; injection e with e; omega)
    clear hR' hG'
    obtain ⟨k0, k1, f0, f1⟩ := two_cells q3
    have q4 := two_set q3 (.int .i64 x1) (.int .i64 x2)
    have HR4 := hide (HR.out.two (r := w.heap.size) hgl (.int .i64 x1) (.int .i64 x2))
    have HG4 := hide (grown_two HG.out (Nat.le_refl _) (.int .i64 x1) (.int .i64 x2))
    go_wp2
    obtain ⟨k0, k1, _, _⟩ := two_cells q4
    refine bodyPost_ret (by simp [results, Tryd.results80, go_sem, k0, k1]; try rfl) rfl ?_
    exact ⟨x1, x2, rfl, ⟨by omega, by omega⟩, ⟨by omega, by omega⟩, HR4.out, HG4.out⟩
  · go_wp2_with fail
    have qS := Row.new w1 32 #[.int .i64 (-1), .int .i64 0, .int .i64 0, .int .i64 401]
    have q2 := q1.alloc (.cells #[.int .i64 (-1), .int .i64 0, .int .i64 0, .int .i64 401] 32)
    replace HR := hide (HR.out.alloc (.cells #[.int .i64 (-1), .int .i64 0, .int .i64 0, .int .i64 401] 32))
    replace HG := hide (grown_trans HG.out (grown_of (show Below w1.heap.size w1 (w1.alloc (.cells #[.int .i64 (-1), .int .i64 0, .int .i64 0, .int .i64 401] 32)) by go_grown) (some g)))
    have hz := q1.lt
    generalize w1.alloc (.cells #[.int .i64 (-1), .int .i64 0, .int .i64 0, .int .i64 401] 32) = w2 at *
    generalize w1.heap.size = gS at *
    refine (pick_any _ _ _ _ (by omega) (by omega) (by omega) HR.out).mono ?_
    rintro e w' ⟨x, rfl, hax, hbx, hR', hG'⟩
    replace HR := hide hR'
    replace HG := hide (grown_trans HG.out hG')
    have q3 := q2.kept hG' (by intro e; injection e with e; omega)
    have qT := qS.kept hG' (by intro e; injection e with e; omega)
    clear hR' hG' q2 qS q1
    obtain ⟨k0, k1, f0, f1⟩ := two_cells q3
    have m0 := qT.cell (j := 0) (by simp)
    have m1 := qT.cell (j := 1) (by simp)
    have m2 := qT.cell (j := 2) (by simp)
    have m3 := qT.cell (j := 3) (by simp)
    simp at m0 m1 m2 m3
    obtain rfl | rfl : x = 0 ∨ x = 1 := by omega
    · have q4 := two_set q3 (.int .i64 (-1)) (.int .i64 0)
      have HR4 := hide (HR.out.two (r := w.heap.size) hgl (.int .i64 (-1)) (.int .i64 0))
      have HG4 := hide (grown_two HG.out (Nat.le_refl _) (.int .i64 (-1)) (.int .i64 0))
      go_wp2
      obtain ⟨k0, k1, _, _⟩ := two_cells q4
      refine bodyPost_ret (by simp [results, Tryd.results80, go_sem, k0, k1]; try rfl) rfl ?_
      exact ⟨-1, 0, rfl, ⟨by omega, by omega⟩, ⟨by omega, by omega⟩, HR4.out.more (by omega), HG4.out⟩
    · have q4 := two_set q3 (.int .i64 0) (.int .i64 401)
      have HR4 := hide (HR.out.two (r := w.heap.size) hgl (.int .i64 0) (.int .i64 401))
      have HG4 := hide (grown_two HG.out (Nat.le_refl _) (.int .i64 0) (.int .i64 401))
      go_wp2
      obtain ⟨k0, k1, _, _⟩ := two_cells q4
      refine bodyPost_ret (by simp [results, Tryd.results80, go_sem, k0, k1]; try rfl) rfl ?_
      exact ⟨0, 401, rfl, ⟨by omega, by omega⟩, ⟨by omega, by omega⟩, HR4.out.more (by omega), HG4.out⟩
theorem drawJumpValid_any (A : Option Addr) (c : Nat) (bs : List Int) (w : World) (hkc : bs.length ≤ c) (hmc : c ≤ maxLen) (hbs : ∀ b ∈ bs, (Lit.int .u8 b).wf = true) (hrd : Rd w w.heap.size A (bc bs)) :
    Calls Tryd.prog 26 #[.slice A bs.length c] w fun e w' => ∃ a b : Int, e = .returned (.agg #[.int .i64 a, .int .i64 b]) ∧ (-1 ≤ a ∧ a ≤ 401) ∧ (-1 ≤ b ∧ b ≤ 401) ∧ Below w.heap.size w w' := by
  have hB := hide hbs
  clear hbs
  go_enter Tryd.func26, Tryd.ntmps26
  go_wp2_with fail
  have q0 := Row.new w 32 #[.int .i64 0, .int .i64 0]
  have b0 : Below w.heap.size w (w.alloc (.cells #[.int .i64 0, .int .i64 0] 32)) := by go_grown
  generalize w.alloc (.cells #[.int .i64 0, .int .i64 0] 32) = w0 at *
  refine (open_any A c bs w0 hkc hmc hB.out (hrd.up b0)).mono ?_
  rintro e w1 ⟨rfl, hR, bo⟩
  have q1 := q0.after bo
  have hz := q0.lt
  go_wp2_with fail
  refine (jump_any w0.heap.size _ _ _ (by omega) (by omega) (by omega) hR).mono ?_
  rintro e w2 ⟨x, y, rfl, hx, hy, hR', hG'⟩
  have q2 := q1.kept hG' (by intro e; injection e with e; omega)
  have bb := via b0 (bo.trans (grown_low hG' (Nat.le_refl _) bo.size)) b0.size
  obtain ⟨k0, k1, f0, f1⟩ := two_cells q2
  have q4 := two_set q2 (.int .i64 x) (.int .i64 y)
  have b4 := (bb.setCell (p := ⟨w.heap.size, 0, none⟩) (Nat.le_refl _) (.int .i64 x)).setCell (p := ⟨w.heap.size, 1, none⟩) (Nat.le_refl _) (.int .i64 y)
  go_wp2
  obtain ⟨k0, k1, _, _⟩ := two_cells q4
  refine bodyPost_ret (by simp [results, Tryd.results26, go_sem, k0, k1]; try rfl) rfl ?_
  exact ⟨x, y, rfl, hx, hy, b4⟩
theorem drawSheetValid_any (A : Option Addr) (c : Nat) (bs : List Int) (w : World) (hkc : bs.length ≤ c) (hmc : c ≤ maxLen) (hbs : ∀ b ∈ bs, (Lit.int .u8 b).wf = true) (hrd : Rd w w.heap.size A (bc bs)) :
    Calls Tryd.prog 19 #[.slice A bs.length c] w fun e w' => ∃ a b : Int, e = .returned (.agg #[.int .i64 a, .int .i64 b]) ∧ (-1 ≤ a ∧ a ≤ 1000) ∧ (-1 ≤ b ∧ b ≤ 1000) ∧ Below w.heap.size w w' := by
  have hB := hide hbs
  clear hbs
  go_enter Tryd.func19, Tryd.ntmps19
  go_wp2_with fail
  have q0 := Row.new w 24 #[.int .i64 0, .int .i64 0]
  have b0 : Below w.heap.size w (w.alloc (.cells #[.int .i64 0, .int .i64 0] 24)) := by go_grown
  generalize w.alloc (.cells #[.int .i64 0, .int .i64 0] 24) = w0 at *
  refine (open_any A c bs w0 hkc hmc hB.out (hrd.up b0)).mono ?_
  rintro e w1 ⟨rfl, hR, bo⟩
  have q1 := q0.after bo
  have hz := q0.lt
  have HR := hide hR
  have HG := hide (grown_self w1 (some w0.heap.size))
  clear hR
  go_wp2_with fail
  refine (pick_any _ _ _ _ (by omega) (by omega) (by omega) HR.out).mono ?_
  rintro e w' ⟨x1, rfl, hax1, hbx1, hR', hG'⟩
  replace HR := hide hR'
  replace HG := hide (grown_trans HG.out hG')
  have q2 := q1.kept hG' (by intro e; injection e with e; omega)
  clear hR' hG'
  go_wp2_with fail
  refine (pick_any _ _ _ _ (by omega) (by omega) (by omega) HR.out).mono ?_
  rintro e w' ⟨x2, rfl, hax2, hbx2, hR', hG'⟩
  replace HR := hide hR'
  replace HG := hide (grown_trans HG.out hG')
  have q3 := q2.kept hG' (by intro e; injection e with e; omega)
  clear hR' hG'
  go_wp2_with fail
  refine (pick_any _ _ _ _ (by omega) (by omega) (by omega) HR.out).mono ?_
  rintro e w' ⟨x3, rfl, hax3, hbx3, hR', hG'⟩
  replace HR := hide hR'
  replace HG := hide (grown_trans HG.out hG')
  have q5 := q3.kept hG' (by intro e; injection e with e; omega)
  clear hR' hG'
  have hm := mul_bd2 (a := 209) (b := 2) hax2 (by omega) hax3 (by omega)
  have bb := via b0 (bo.trans (grown_low HG.out (Nat.le_refl _) bo.size)) b0.size
  obtain ⟨k0, k1, f0, f1⟩ := two_cells q5
  have q4 := two_set q5 (.int .i64 x1) (.int .i64 (x2 * x3))
  have b4 := (bb.setCell (p := ⟨w.heap.size, 0, none⟩) (Nat.le_refl _) (.int .i64 x1)).setCell (p := ⟨w.heap.size, 1, none⟩) (Nat.le_refl _) (.int .i64 (x2 * x3))
  go_wp2
  obtain ⟨k0, k1, _, _⟩ := two_cells q4
  refine bodyPost_ret (by simp [results, Tryd.results19, go_sem, k0, k1]; try rfl) rfl ?_
  exact ⟨x1, x2 * x3, rfl, ⟨by omega, by omega⟩, ⟨by omega, by omega⟩, b4⟩
end Go.Proofs.YtcdoopccmljaoaaDoor
