/- What is drawn from a code: piles. No conditions but bounds on how often the reader was asked. -/
import Derived.Test.YtpiiefmfiipabaaDoorDraw2
import Derived.Test.YtpiiefmfiipabaaDoorApp
import Derived.Test.YtpiiefmfiipabaaDoorCoilCopy
namespace Go.Proofs.YtpiiefmfiipabaaDoor
open Go.ChangeShapes Go.WideShapes Go.ChangeAt Go.RowKit Go.Deep
theorem ic_set (zs : List Int) (j : Nat) (x : Int) : (ic zs).set j (.int .i64 x) = ic (zs.set j x) := by simp [ic]
theorem owns_set {w : World} {B b n cap k : Nat} {e : TypeId} {xs : List Value} (h : w.ownsRow B e 1 (.slice (some ⟨b, 0, none⟩) n cap) n xs) (u : Value) : (w.setCell ⟨b, k, none⟩ u).ownsRow B e 1 (.slice (some ⟨b, 0, none⟩) n cap) n (xs.set k u) := by
  obtain ⟨hl, h⟩ := h
  refine ⟨by simpa using hl, ?_⟩
  rcases h with ⟨h, _⟩ | ⟨g, cap', cur, hv, h1, h2, h3, h4, h5, h6⟩
  · cases h
  · cases hv
    refine .inr ⟨b, cap, cur.setIfInBounds k u, rfl, h1, by rw [heap_setCell_same w b k _ e u h2], h3, h4, by simpa using h5, ?_⟩
    rw [Array.toList_setIfInBounds, List.take_set, h6]
theorem owns_far {w : World} {B n size : Nat} {e : TypeId} {v : Value} {xs : List Value} (h : w.ownsRow B e size v n xs) {p : Addr} (hp : v.ownBlock ≠ some p.block) (u : Value) : (w.setCell p u).ownsRow B e size v n xs :=
  owns_grown h (grown_set w p u) fun b hb e => hp (by rw [hb]; injection e with e; rw [e])
theorem owns_up {w w' : World} {B n size : Nat} {e : TypeId} {v : Value} {xs : List Value} (h : w.ownsRow B e size v n xs) (hb : Below w.heap.size w w') : w'.ownsRow B e size v n xs :=
  owns_grown h (grown_of hb none) fun _ _ e => by cases e
/-- An empty pile of m + 1 places, its rows known whole. -/
def PE (w : World) (m : Nat) (e : Ending) (w' : World) : Prop :=
  ∃ a1 a2, e = .returned (.agg #[.slice (some ⟨a1, 0, none⟩) (m + 1) (m + 1), .slice (some ⟨a2, 0, none⟩) m m]) ∧ w'.ownsRow w.heap.size 3 1 (.slice (some ⟨a1, 0, none⟩) (m + 1) (m + 1)) (m + 1) (ic (zs (m + 1))) ∧
    w'.ownsRow w.heap.size 3 1 (.slice (some ⟨a2, 0, none⟩) m m) m (ic (zs m)) ∧ a1 ≠ a2 ∧ Below w.heap.size w w'
theorem own_zs (W : World) (B n : Nat) (h : B ≤ W.heap.size) (hn : n ≤ 1048576) : (W.alloc (.cells (madeCells #[.int .i64 0] n) 3)).ownsRow B 3 1 (.slice (some ⟨W.heap.size, 0, none⟩) n n) n (ic (zs n)) := by
  have := own_full (e := 3) (size := 1) W B n (madeCells #[.int .i64 0] n) h (by unfold maxLen; omega) (by simp [madeCells])
  rw [← ic_zs] at this
  exact this
theorem pe_rows (w : World) (o : Obj) (n n' : Nat) (hn : n ≤ 1048576) (hn' : n' ≤ 1048576) :
    (((w.alloc o).alloc (.cells (madeCells #[.int .i64 0] n) 3)).alloc (.cells (madeCells #[.int .i64 0] n') 3)).ownsRow w.heap.size 3 1 (.slice (some ⟨w.heap.size + 1, 0, none⟩) n n) n (ic (zs n)) ∧
    (((w.alloc o).alloc (.cells (madeCells #[.int .i64 0] n) 3)).alloc (.cells (madeCells #[.int .i64 0] n') 3)).ownsRow w.heap.size 3 1 (.slice (some ⟨w.heap.size + 1 + 1, 0, none⟩) n' n') n' (ic (zs n')) := by
  constructor
  · have := (own_zs (w.alloc o) w.heap.size n (by simp) hn).alloc (.cells (madeCells #[.int .i64 0] n') 3)
    rw [World.size_alloc] at this
    exact this
  · have := own_zs ((w.alloc o).alloc (.cells (madeCells #[.int .i64 0] n) 3)) w.heap.size n' (by simp; omega) hn'
    rw [World.size_alloc, World.size_alloc] at this
    exact this
theorem pe_any (m : Nat) (w : World) (hm : m ≤ 5) : Calls Tryd.prog 46 #[.int .i64 (1 + (m : Int))] w (PE w m) := by
  have hv : inR (1 + (m : Int)) 1 6 = true := inR_mk (by omega) (by omega)
  have hmk := run_make_row' (P := Tryd.prog) 23 3 (.int .i64 0) 8 Tryd.underlying23 intInfo rfl .i64 .i64 (m + 1) (by omega) (by omega)
  have hmk2 := run_make_row' (P := Tryd.prog) 23 3 (.int .i64 0) 8 Tryd.underlying23 intInfo rfl .i64 .i64 m (by omega) (by omega)
  rw [show ((m + 1 : Nat) : Int) = 1 + (m : Int) by omega] at hmk
  have e1 : 1 + (m : Int) - 1 = (m : Int) := by omega
  go_enter Tryd.func46, Tryd.ntmps46
  go_wp2_with (go_at_call 70; refine (l1In_any _ _ _ _).mono ?_; rintro e w' ⟨rfl, rfl⟩)
  go_region
  · go_wp2
    go_returns
    exact ⟨w.heap.size + 1, w.heap.size + 1 + 1, rfl, (pe_rows _ _ _ _ (by omega) (by omega)).1, (pe_rows _ _ _ _ (by omega) (by omega)).2, by omega, by go_grown⟩
  · go_wp2
    go_returns
    exact ⟨w.heap.size + 1 + 1, w.heap.size + 1, rfl, (pe_rows _ _ _ _ (by omega) (by omega)).2, (pe_rows _ _ _ _ (by omega) (by omega)).1, by omega, by go_grown⟩
/-- A pile of the call's own, drawn. -/
def PileDrawn (w : World) (g k : Nat) (e : Ending) (w' : World) : Prop :=
  ∃ (A : Option Addr) (c : Nat) (A' : Option Addr) (c' : Nat) (p : PL), e = .returned (.agg #[.slice A p.1.length c, .slice A' p.2.length c']) ∧ p.1.length ≤ 6 ∧ p.2.length ≤ 6 ∧ Own w' w.heap.size 3 A (ic p.1) ∧ Own w' w.heap.size 3 A' (ic p.2) ∧ DrawnTo w w' g k
/-- A pile while it is drawn: its box at gB, its rows at a1 and a2, the result's box at w.heap.size. -/
structure StP (w wr : World) (g gB a1 a2 m K : Nat) (lo hi : List Int) : Prop where
  res : Row wr w.heap.size 25 [.slice none 0 0, .slice none 0 0]
  box : Row wr gB 25 [.slice (some ⟨a1, 0, none⟩) (m + 1) (m + 1), .slice (some ⟨a2, 0, none⟩) m m]
  own1 : wr.ownsRow (w.heap.size + 1) 3 1 (.slice (some ⟨a1, 0, none⟩) (m + 1) (m + 1)) (m + 1) (ic lo)
  own2 : wr.ownsRow (w.heap.size + 1) 3 1 (.slice (some ⟨a2, 0, none⟩) m m) m (ic hi)
  rdr : Rdr wr g K
  grown : w.grownBy wr (some g)
/-- How its blocks lie. -/
structure Lie (w : World) (g gB a1 a2 : Nat) : Prop where
  g0 : g < w.heap.size
  b1 : w.heap.size < a1
  b2 : w.heap.size < a2
  bB : w.heap.size < gB
  n12 : a1 ≠ a2
  n1 : a1 < gB
  n2 : a2 < gB
section
variable {w wr w' : World} {g gB a1 a2 m K K' : Nat} {lo hi : List Int}
theorem StP.asked (h : StP w wr g gB a1 a2 m K lo hi) (l : Lie w g gB a1 a2) (hR : Rdr w' g K') (hG : wr.grownBy w' (some g)) : StP w w' g gB a1 a2 m K' lo hi := by
  have := l.g0; have := l.b1; have := l.b2; have := l.bB
  exact ⟨h.res.kept hG (by intro e; injection e with e; omega), h.box.kept hG (by intro e; injection e with e; omega),
    owns_grown h.own1 hG (fun b hb e => by injection hb with hb; injection e with e; simp only at hb; omega), owns_grown h.own2 hG (fun b hb e => by injection hb with hb; injection e with e; simp only at hb; omega), hR, grown_trans h.grown hG⟩
theorem StP.low (h : StP w wr g gB a1 a2 m K lo hi) (l : Lie w g gB a1 a2) (j : Nat) (x : Int) : StP w (wr.setCell ⟨a1, j, none⟩ (.int .i64 x)) g gB a1 a2 m K (lo.set j x) hi := by
  have := l.g0; have := l.b1; have := l.b2; have := l.bB; have := l.n1; have := l.n12
  refine ⟨h.res.far (by simp only; omega) _, h.box.far (by simp only; omega) _, ?_, owns_far h.own2 (by intro e; injection e with e; simp only at e; omega) _, h.rdr.far (by simp only; omega) _, grown_store h.grown (by simp only; omega) _⟩
  have := owns_set (k := j) h.own1 (.int .i64 x)
  rwa [ic_set] at this
theorem StP.high (h : StP w wr g gB a1 a2 m K lo hi) (l : Lie w g gB a1 a2) (j : Nat) (x : Int) : StP w (wr.setCell ⟨a2, j, none⟩ (.int .i64 x)) g gB a1 a2 m K lo (hi.set j x) := by
  have := l.g0; have := l.b1; have := l.b2; have := l.bB; have := l.n2; have := l.n12
  refine ⟨h.res.far (by simp only; omega) _, h.box.far (by simp only; omega) _, owns_far h.own1 (by intro e; injection e with e; simp only at e; omega) _, ?_, h.rdr.far (by simp only; omega) _, grown_store h.grown (by simp only; omega) _⟩
  have := owns_set (k := j) h.own2 (.int .i64 x)
  rwa [ic_set] at this
theorem StP.alloc (h : StP w wr g gB a1 a2 m K lo hi) (o : Obj) : StP w (wr.alloc o) g gB a1 a2 m K lo hi :=
  ⟨h.res.alloc o, h.box.alloc o, h.own1.alloc o, h.own2.alloc o, h.rdr.alloc o, grown_allocS h.grown o⟩
theorem StP.drewS (h : StP w wr g gB a1 a2 m K lo hi) : StP w wr.drew g gB a1 a2 m K lo hi := ⟨h.res, h.box, h.own1, h.own2, h.rdr.drew, grown_drewS h.grown⟩
theorem own_far {W : World} {B : Nat} {T : TypeId} {A : Option Addr} {xs : List Value} (h : Own W B T A xs) {p : Addr} (hp : p.block < B) (u : Value) : Own (W.setCell p u) B T A xs := by
  rcases h with h | ⟨b, cs, rfl, hb, h1, h2⟩
  · exact .inl h
  · exact .inr ⟨b, cs, rfl, hb, by rw [heap_setCell_other W p b u (by omega)]; exact h1, h2⟩
theorem own_farT {W : World} {B : Nat} {T T' : TypeId} {A : Option Addr} {xs ys : List Value} (h : Own W B T A xs) {p : Addr} (q : Row W p.block T' ys) (hT : T ≠ T') (u : Value) : Own (W.setCell p u) B T A xs := by
  rcases h with h | ⟨b, cs, rfl, hb, h1, h2⟩
  · exact .inl h
  · refine .inr ⟨b, cs, rfl, hb, ?_, h2⟩
    rw [heap_setCell_other W p b u ?_]
    · exact h1
    · intro e
      obtain ⟨cs', q1, _⟩ := q
      rw [e, q1] at h1
      injection h1 with h1
      injection h1 with _ h1 _
      exact hT h1.symm
/-- A drawn pile is laid into the result's box. -/
theorem pile_retD {W : World} {r : Nat} {I I' : Option Addr} {ci ci' : Nat} {p : PL} {u v : Value} (q : Row W r 25 [u, v]) (hr : w.heap.size ≤ r) (o : Own W (r + 1) 3 I (ic p.1)) (o' : Own W (r + 1) 3 I' (ic p.2)) (hR : Rdr W g K) (hg : g < r) (hG : w.grownBy W (some g)) (W' : World)
    (h : (W.setCell ⟨r, 0, none⟩ (.slice I p.1.length ci)).setCell ⟨r, 1, none⟩ (.slice I' p.2.length ci') = W') :
    W'.cell? ⟨r, 0, none⟩ = some (.slice I p.1.length ci) ∧ W'.cell? ⟨r, 1, none⟩ = some (.slice I' p.2.length ci') ∧ (Own W' w.heap.size 3 I (ic p.1) ∧ Own W' w.heap.size 3 I' (ic p.2)) ∧ DrawnTo w W' g K := by
  subst h
  have q2 := two_set q (.slice I p.1.length ci) (.slice I' p.2.length ci')
  obtain ⟨k0, k1, _, _⟩ := two_cells q2
  refine ⟨k0, k1, ⟨?_, ?_⟩, hR.two hg _ _, grown_two hG hr _ _⟩
  · exact (own_far (own_far o (by simp only; omega) _) (by simp only; omega) _).mono (by omega)
  · exact (own_far (own_far o' (by simp only; omega) _) (by simp only; omega) _).mono (by omega)
theorem StP.len (h : StP w wr g gB a1 a2 m K lo hi) : lo.length = m + 1 ∧ hi.length = m := by
  have h1 := h.own1.1
  have h2 := h.own2.1
  rw [ic_len] at h1 h2
  omega
end
set_option linter.unusedSimpArgs false in
set_option maxHeartbeats 4000000 in
set_option maxRecDepth 100000 in
theorem pile_any (g k : Nat) (n : Int) (w : World) (hn : 0 ≤ n) (hn1 : n ≤ 1048576) (hk : k ≤ 1048000) (hR : Rdr w g k) :
    Calls Tryd.prog 65 #[.pointer (some ⟨g, 0, none⟩), .int .i64 n] w (PileDrawn w g (k + 60)) := by
  have hgl := hR.lt
  go_enter Tryd.func65, Tryd.ntmps65
  go_wp2_with fail
  have q4 := Row.new w 25 #[.slice none 0 0, .slice none 0 0]
  have HR := hide (hR.alloc (.cells #[.slice none 0 0, .slice none 0 0] 25))
  have HG := hide (grown_of (bel_one w (.cells #[.slice none 0 0, .slice none 0 0] 25)) (some g))
  have hz0 := q4.lt
  clear hR
  generalize w.alloc (.cells #[.slice none 0 0, .slice none 0 0] 25) = w0 at *
  refine (pick_any _ _ _ _ (by omega) (by omega) (by omega) HR.out).mono ?_
  rintro e w1 ⟨x, rfl, hax, hbx, hR', hG'⟩
  replace q4 := q4.kept hG' (by intro e; injection e with e; omega)
  replace HR := hide hR'
  replace HG := hide (grown_trans HG.out hG')
  have hz1 := hG'.size
  clear hR' hG'
  obtain ⟨m, rfl⟩ : ∃ m : Nat, x = (m : Int) := ⟨x.toNat, by omega⟩
  go_wp2_with fail
  refine (pe_any m w1 (by omega)).mono ?_
  rintro e w2 ⟨a1, a2, rfl, o1, o2, h12, b2⟩
  replace q4 := q4.after b2
  replace HR := hide (HR.out.up b2)
  replace HG := hide (grown_trans HG.out (grown_of b2 (some g)))
  have l1 := o1.lt a1 rfl
  have l2 := o2.lt a2 rfl
  have hz2 := b2.size
  go_wp2_with fail
  have S0 : StP w (w2.alloc (.cells #[.slice (some ⟨a1, 0, none⟩) (m + 1) (m + 1), .slice (some ⟨a2, 0, none⟩) m m] 25)) g w2.heap.size a1 a2 m (k + 1) (zs (m + 1)) (zs m) :=
    ⟨q4.alloc _, Row.new w2 _ _, ⟨o1.1, (o1.alloc _).2.imp id fun ⟨g, c, u, h1, h2, h3⟩ => ⟨g, c, u, h1, by omega, h3⟩⟩, ⟨o2.1, (o2.alloc _).2.imp id fun ⟨g, c, u, h1, h2, h3⟩ => ⟨g, c, u, h1, by omega, h3⟩⟩, HR.out.alloc _, grown_trans HG.out (grown_of (bel_one _ _) _)⟩
  have L : Lie w g w2.heap.size a1 a2 := ⟨hgl, by omega, by omega, by omega, h12, l1.2, l2.2⟩
  clear q4 o1 o2 HR HG b2 h12 l1 l2
  generalize w2.alloc (.cells #[.slice (some ⟨a1, 0, none⟩) (m + 1) (m + 1), .slice (some ⟨a2, 0, none⟩) m m] 25) = w3 at *
  generalize w2.heap.size = gB at *
  refine (pick_any _ _ _ _ (by omega) (by omega) (by omega) S0.rdr).mono ?_
  rintro e w4 ⟨often, rfl, hao, hbo, hR', hG'⟩
  replace S0 := S0.asked L hR' hG'
  clear hR' hG'
  go_wp2_with fail
  go_loopw [6, 8] (fun i kk wr => ∃ (id : Int) (j : Nat) (lo : List Int), i = .int .i64 id ∧ kk = .int .i64 j ∧ j ≤ m + 1 ∧ (0 ≤ id ∧ id ≤ 5 * j) ∧ StP w wr g gB a1 a2 m (k + 2 + 2 * j) lo (zs m)) (fun _ kk _ => m + 1 - (intOf kk).toNat)
  case atStart => exact ⟨0, 0, zs (m + 1), rfl, rfl, by omega, ⟨by omega, by omega⟩, S0⟩
  case round =>
    clear S0
    obtain ⟨id, j, lo, rfl, rfl, hj, hid, S⟩ := hrel
    obtain ⟨k0, k1, _, _⟩ := two_cells S.box
    by_cases hlt : j < m + 1
    · have i1 : (j : Int) < (m : Int) + 1 := by omega
      go_wp2_with fail
      refine (pick_any _ _ _ _ (by omega) (by omega) (by omega) S.rdr).mono ?_
      rintro e w5 ⟨x1, rfl, ha1, hb1, hR', hG'⟩
      replace S := S.asked L hR' hG'
      clear hR' hG' k0 k1
      go_wp2_with fail
      refine (pick_any _ _ _ _ (by omega) (by omega) (by omega) S.rdr).mono ?_
      rintro e w6 ⟨x2, rfl, ha2, hb2, hR', hG'⟩
      replace S := S.asked L hR' hG'
      clear hR' hG'
      obtain ⟨k0, k1, _, _⟩ := two_cells S.box
      have hl := S.len
      obtain ⟨gq, hq, _, q1⟩ := (Own.of_row S.own1).row (by intro e; have := ic_len lo; rw [e] at this; simp at this; omega)
      cases hq
      have c1 := q1.cell (j := j) (by rw [ic_len]; omega)
      have f1 := q1.frozen j
      have S2 := S.low L j (id + 1 + x1)
      by_cases hb : x2 < 1 + often + 1
      · go_wp2
        go_roundw
        case rel => exact ⟨id + 1 + x1, j + 1, lo.set j (id + 1 + x1), rfl, by go_num, by omega, ⟨by omega, by omega⟩, by rw [show k + 2 + 2 * (j + 1) = k + 2 + 2 * j + 1 + 1 by omega]; exact S2⟩
        case measure => simp [intOf]; omega
      · go_wp2
        go_roundw
        case rel => exact ⟨id + 1 + x1, j + 1, lo, rfl, by go_num, by omega, ⟨by omega, by omega⟩, by rw [show k + 2 + 2 * (j + 1) = k + 2 + 2 * j + 1 + 1 by omega]; exact S⟩
        case measure => simp [intOf]; omega
    · have i1 : ¬ (j : Int) < (m : Int) + 1 := by omega
      obtain rfl : j = m + 1 := by omega
      go_wp2_with fail
      go_loopw [6, 9] (fun i kk wr => ∃ (id : Int) (j : Nat) (hi : List Int), i = .int .i64 id ∧ kk = .int .i64 j ∧ j ≤ m ∧ (0 ≤ id ∧ id ≤ 5 * (m + 1) + 5 * j) ∧ StP w wr g gB a1 a2 m (k + 20 + 2 * j) lo hi) (fun _ kk _ => m - (intOf kk).toNat)
      case atStart => exact ⟨id, 0, zs m, rfl, rfl, by omega, ⟨by omega, by omega⟩, ⟨S.res, S.box, S.own1, S.own2, S.rdr.more (by omega), S.grown⟩⟩
      case round =>
        clear S hid k0 k1 i1 hlt hj
        obtain ⟨id, j, hi, rfl, rfl, hj, hid, S⟩ := hrel
        obtain ⟨k0, k1, _, _⟩ := two_cells S.box
        by_cases hlt : j < m
        · have i1 : (j : Int) < (m : Int) := by omega
          go_wp2_with fail
          refine (pick_any _ _ _ _ (by omega) (by omega) (by omega) S.rdr).mono ?_
          rintro e w5 ⟨x1, rfl, ha1, hb1, hR', hG'⟩
          replace S := S.asked L hR' hG'
          clear hR' hG' k0 k1
          obtain ⟨k0, k1, _, _⟩ := two_cells S.box
          have hl := S.len
          obtain ⟨gq, hq, _, q1⟩ := (Own.of_row S.own1).row (by intro e; have := ic_len lo; rw [e] at this; simp at this; omega)
          cases hq
          have c1 := q1.cell (j := j) (by rw [ic_len]; omega)
          have c2 := q1.cell (j := j + 1) (by rw [ic_len]; omega)
          rw [ic_get lo j (by omega)] at c1
          rw [ic_get lo (j + 1) (by omega)] at c2
          generalize lo[j] = u at *
          generalize lo[j + 1] = v at *
          have NX := hide (fun (wz : World) (hz : List Int) (T : StP w wz g gB a1 a2 m (k + 20 + 2 * j + 1) lo hz) => (⟨T.res, T.box, T.own1, T.own2, T.rdr.more (by omega), T.grown⟩ : StP w wz g gB a1 a2 m (k + 20 + 2 * (j + 1)) lo hz))
          have NX2 := hide (fun (wz : World) (hz : List Int) (T : StP w wz g gB a1 a2 m (k + 20 + 2 * j + 1 + 1) lo hz) => (⟨T.res, T.box, T.own1, T.own2, T.rdr.more (by omega), T.grown⟩ : StP w wz g gB a1 a2 m (k + 20 + 2 * (j + 1)) lo hz))
          by_cases hu : 0 < u
          · by_cases hv : 0 < v
            · go_wp2_with fail
              refine (pick_any _ _ _ _ (by omega) (by omega) (by omega) S.rdr).mono ?_
              rintro e w6 ⟨x2, rfl, ha2, hb2, hR', hG'⟩
              replace S := S.asked L hR' hG'
              clear hR' hG' k0 k1 c1 c2 q1
              obtain ⟨k0, k1, _, _⟩ := two_cells S.box
              obtain ⟨gq, hq, _, q2⟩ := (Own.of_row S.own2).row (by intro e; have := ic_len hi; rw [e] at this; simp at this; omega)
              cases hq
              have c1 := q2.cell (j := j) (by rw [ic_len]; omega)
              have f1 := q2.frozen j
              have S2 := S.high L j (id + 1 + x1)
              by_cases hb : x2 < 1 + often
              · go_wp2
                go_roundw
                case rel => exact ⟨id + 1 + x1, j + 1, hi.set j (id + 1 + x1), rfl, by go_num, by omega, ⟨by omega, by omega⟩, NX2.out _ _ S2⟩
                case measure => simp [intOf]; omega
              · go_wp2
                go_roundw
                case rel => exact ⟨id + 1 + x1, j + 1, hi, rfl, by go_num, by omega, ⟨by omega, by omega⟩, NX2.out _ _ S⟩
                case measure => simp [intOf]; omega
            · have tv : decide (v > 0) = false := by simp; omega
              go_wp2
              go_roundw
              case rel => exact ⟨id + 1 + x1, j + 1, hi, rfl, by go_num, by omega, ⟨by omega, by omega⟩, NX.out _ _ S⟩
              case measure => simp [intOf]; omega
          · have tu : decide (u > 0) = false := by simp; omega
            go_wp2
            go_roundw
            case rel => exact ⟨id + 1 + x1, j + 1, hi, rfl, by go_num, by omega, ⟨by omega, by omega⟩, NX.out _ _ S⟩
            case measure => simp [intOf]; omega
        · have i1 : ¬ (j : Int) < (m : Int) := by omega
          go_wp2_with fail
          refine (odd_any g _ n _ hn hn1 (by omega) S.rdr).mono ?_
          rintro e w5 ⟨b, rfl, hR', hG'⟩
          replace S := S.asked L hR' hG'
          clear hR' hG' k0 k1 hlt i1
          have hl := S.len
          cases b
          · obtain ⟨k0, k1, _, _⟩ := two_cells S.box
            obtain ⟨m0, m1, f0, f1⟩ := two_cells S.res
            obtain ⟨r0, r1, oR, dR⟩ := pile_retD (ci := m + 1) (ci' := m) (p := (lo, hi)) S.res (Nat.le_refl _) (Own.of_row S.own1) (Own.of_row S.own2) S.rdr hgl S.grown _ rfl
            simp only [hl.1, hl.2] at r0 r1
            go_wp2
            refine bodyPost_ret (by simp [results, Tryd.results65, go_sem, r0, r1]; try rfl) rfl ?_
            exact ⟨some ⟨a1, 0, none⟩, m + 1, some ⟨a2, 0, none⟩, m, (lo, hi), by simp only [hl.1, hl.2], (show lo.length ≤ 6 by omega), (show hi.length ≤ 6 by omega), (by simp only [hl.1, hl.2] at oR; exact oR.1), (by simp only [hl.1, hl.2] at oR; exact oR.2), (by simp only [hl.1, hl.2] at dR; exact dR.more (by omega))⟩
          · go_wp2_with fail
            refine (pick_any _ _ _ _ (by omega) (by omega) (by omega) S.rdr).mono ?_
            rintro e w6 ⟨x2, rfl, ha2, hb2, hR', hG'⟩
            replace S := S.asked L hR' hG'
            clear hR' hG'
            obtain rfl | rfl | rfl | rfl : x2 = 0 ∨ x2 = 1 ∨ x2 = 2 ∨ x2 = 3 := by omega
            · obtain ⟨k0, k1, f2, f3⟩ := two_cells S.box
              have hw6 := S.res.lt
              have HC := hide (fun (W : World) (h : w6.grownBy W (some g)) => cell_kept k0 (by have := L.bB; omega) h)
              have i0 : (0 : Int) < (m : Int) + 1 := by omega
              have hG0 := grown_self w6 (some g)
              go_wp2
              refine wp_region_held_drew (S := fun w' => w'.cell? ⟨gB, 0, none⟩ = some (.slice (some ⟨a1, 0, none⟩) (m + 1) (m + 1))) (by kernel_rfl) (HC.out _ (by repeat (first | assumption | apply grown_drewS | apply grown_allocS))) (fun hHeld => ?_)
              refine wpAnyH_take (i := 0) (oi := _) (v := ?_) rfl (by kernel_rfl) (by kernel_rfl) (by kernel_rfl) (fun _ _ _ h => h) (Or.inl ⟨by rfl, ?_⟩) (by assumption) ?_
              rotate_left
              · intro w hSw; (try dsimp only at hSw); go_simp; first | done | with_reducible rfl
              (try simp only [Act.put, List.setIfInBounds_toArray, List.set_cons_zero, List.set_cons_succ])
              refine wpAnyH_take (i := 1) (oi := _) (v := ?_) rfl (by kernel_rfl) (by kernel_rfl) (by kernel_rfl) (fun _ _ _ h => h) (Or.inl ⟨by rfl, ?_⟩) (by assumption) ?_
              rotate_left
              · intro w hSw; (try dsimp only at hSw); go_simp; first | done | with_reducible rfl
              (try simp only [Act.put, List.setIfInBounds_toArray, List.set_cons_zero, List.set_cons_succ])
              refine wpAnyH_take (i := 3) (oi := _) (v := ?_) rfl (by kernel_rfl) (by kernel_rfl) (by kernel_rfl) (fun _ _ _ h => h) (Or.inl ⟨by rfl, ?_⟩) (by assumption) ?_
              rotate_left
              · intro w hSw; (try dsimp only at hSw); go_simp; first | done | with_reducible rfl
              (try simp only [Act.put, List.setIfInBounds_toArray, List.set_cons_zero, List.set_cons_succ])
              refine wpAnyH_ready (rs := [2, 4]) (by kernel_rfl) (by simp) ?_
              refine AllReadyH.cons (o := _) rfl (fun K hK => ?_) (AllReadyH.cons (o := _) rfl (fun K hK => ?_) AllReadyH.nil)
              · go_simp
                refine hK.out _ _ (HC.out _ (by repeat (first | assumption | apply grown_drewS | apply grown_allocS))) (fun hHeld => ?_)
                clear hK K
                (try simp only [Act.put, List.setIfInBounds_toArray, List.set_cons_zero, List.set_cons_succ])
                refine wpAnyH_ready (rs := [4]) (by kernel_rfl) (by simp) ?_
                refine AllReadyH.cons (o := _) rfl (fun K hK => ?_) AllReadyH.nil
                (go_simp; go_at_call 82; refine (pick_any g (k + 20 + 2 * j + 1 + 1) 2 _ (by omega) (by omega) (by omega) (by first | exact S.rdr | exact S.rdr.drew | exact (S.rdr.alloc _).drew)).mono ?_; rintro e w' ⟨x, rfl, hx0, hx1, hR', hG'⟩; have hcx := two_old x hx0 hx1 (by omega) hG'; have HR6 := hide hR'; clear hR'; have hG1 := grown_trans (show w6.grownBy _ (some g) by repeat (first | assumption | apply grown_drewS | apply grown_allocS)) hG'; go_wp2_with fail)
                refine hK.out _ _ (HC.out _ hG1) (fun hHeld => ?_)
                clear hK K
                (try simp only [Act.put, List.setIfInBounds_toArray, List.set_cons_zero, List.set_cons_succ])
                refine wpAnyH_take (i := 5) (oi := _) (v := ?_) rfl (by kernel_rfl) (by kernel_rfl) (by kernel_rfl) (fun _ _ _ h => h) (Or.inl ⟨by rfl, ?_⟩) (by assumption) ?_
                rotate_left
                · intro w hSw; (try dsimp only at hSw); go_simp; first | done | with_reducible rfl
                (try simp only [Act.put, List.setIfInBounds_toArray, List.set_cons_zero, List.set_cons_succ])
                refine wpAnyH_ready (rs := [6]) (by kernel_rfl) (by simp) ?_
                refine AllReadyH.cons (o := _) rfl (fun K hK => ?_) AllReadyH.nil
                go_simp
                refine hK.out _ _ (HC.out _ hG1) (fun hHeld => ?_)
                clear hK K
                (try simp only [Act.put, List.setIfInBounds_toArray, List.set_cons_zero, List.set_cons_succ])
                refine wpAnyH_take (i := 7) (oi := _) (v := ?_) rfl (by kernel_rfl) (by kernel_rfl) (by kernel_rfl) (fun _ _ _ h => h) (Or.inl ⟨by rfl, ?_⟩) (by assumption) ?_
                rotate_left
                · intro w hSw; (try dsimp only at hSw); go_simp; first | done | with_reducible rfl
                (try simp only [Act.put, List.setIfInBounds_toArray, List.set_cons_zero, List.set_cons_succ])
                have SA := ((S.alloc (.cells #[.int .i64 (-1), .int .i64 100] 3)).drewS).asked L HR6.out hG'
                obtain ⟨gq, hq, _, q1⟩ := (Own.of_row SA.own1).row (by intro e; have := ic_len lo; rw [e] at this; simp at this; omega)
                cases hq
                have c1 := q1.cell (j := 0) (by rw [ic_len]; omega)
                have f1 := q1.frozen 0
                have SB := SA.low L 0 (oneOf (-1) 100 x)
                obtain ⟨u0, u1, _, _⟩ := two_cells SB.box
                obtain ⟨m0, m1, f4, f5⟩ := two_cells SB.res
                refine wpAnyH_ready (rs := [8]) (by kernel_rfl) (by simp) ?_
                refine AllReadyH.cons (o := _) rfl (fun K hK => ?_) AllReadyH.nil
                go_simp
                refine hK.out _ _ u0 (fun hHeld => ?_)
                clear hK K
                (try simp only [Act.put, List.setIfInBounds_toArray, List.set_cons_zero, List.set_cons_succ])
                refine wpAnyH_done (by kernel_rfl) ?_ _
                have hlB := SB.len
                obtain ⟨r0, r1, oR, dR⟩ := pile_retD (ci := m + 1) (ci' := m) (p := (lo.set 0 (oneOf (-1) 100 x), hi)) SB.res (Nat.le_refl _) (Own.of_row SB.own1) (Own.of_row SB.own2) SB.rdr hgl SB.grown _ rfl
                simp only [hlB.1, hlB.2] at r0 r1 oR dR
                clear c1 f1 HC hHeld
                go_wp2
                refine bodyPost_ret (by simp [results, Tryd.results65, go_sem, r0, r1]; try rfl) rfl ?_
                exact ⟨some ⟨a1, 0, none⟩, m + 1, some ⟨a2, 0, none⟩, m, (lo.set 0 (oneOf (-1) 100 x), hi), by simp only [hlB.1, hlB.2], (show (lo.set 0 (oneOf (-1) 100 x)).length ≤ 6 by omega), (show hi.length ≤ 6 by omega), oR.1, oR.2, dR.more (by omega)⟩
              · (go_simp; go_at_call 82; refine (pick_any g (k + 20 + 2 * j + 1 + 1) 2 _ (by omega) (by omega) (by omega) (by first | exact S.rdr | exact S.rdr.drew | exact (S.rdr.alloc _).drew)).mono ?_; rintro e w' ⟨x, rfl, hx0, hx1, hR', hG'⟩; have hcn := fun W : World => two_new W 3 (-1) 100 x hx0 hx1; have HR6 := hide hR'; clear hR'; have hG1 := grown_trans (show w6.grownBy _ (some g) by repeat (first | assumption | apply grown_drewS | apply grown_allocS)) hG'; go_wp2_with fail)
                refine hK.out _ _ (HC.out _ hG1) (fun hHeld => ?_)
                clear hK K
                (try simp only [Act.put, List.setIfInBounds_toArray, List.set_cons_zero, List.set_cons_succ])
                refine wpAnyH_ready (rs := [2]) (by kernel_rfl) (by simp) ?_
                refine AllReadyH.cons (o := _) rfl (fun K hK => ?_) AllReadyH.nil
                go_simp
                refine hK.out _ _ (HC.out _ (by repeat (first | assumption | apply grown_drewS | apply grown_allocS))) (fun hHeld => ?_)
                clear hK K
                (try simp only [Act.put, List.setIfInBounds_toArray, List.set_cons_zero, List.set_cons_succ])
                refine wpAnyH_take (i := 5) (oi := _) (v := ?_) rfl (by kernel_rfl) (by kernel_rfl) (by kernel_rfl) (fun _ _ _ h => h) (Or.inl ⟨by rfl, ?_⟩) (by assumption) ?_
                rotate_left
                · intro w hSw; (try dsimp only at hSw); go_simp; first | done | with_reducible rfl
                (try simp only [Act.put, List.setIfInBounds_toArray, List.set_cons_zero, List.set_cons_succ])
                refine wpAnyH_ready (rs := [6]) (by kernel_rfl) (by simp) ?_
                refine AllReadyH.cons (o := _) rfl (fun K hK => ?_) AllReadyH.nil
                go_simp
                refine hK.out _ _ (HC.out _ (by repeat (first | assumption | apply grown_drewS | apply grown_allocS))) (fun hHeld => ?_)
                clear hK K
                (try simp only [Act.put, List.setIfInBounds_toArray, List.set_cons_zero, List.set_cons_succ])
                refine wpAnyH_take (i := 7) (oi := _) (v := ?_) rfl (by kernel_rfl) (by kernel_rfl) (by kernel_rfl) (fun _ _ _ h => h) (Or.inl ⟨by rfl, ?_⟩) (by assumption) ?_
                rotate_left
                · intro w hSw; (try dsimp only at hSw); go_simp; first | done | with_reducible rfl
                (try simp only [Act.put, List.setIfInBounds_toArray, List.set_cons_zero, List.set_cons_succ])
                have SA := (S.drewS.asked L HR6.out hG').alloc (.cells #[.int .i64 (-1), .int .i64 100] 3)
                obtain ⟨gq, hq, _, q1⟩ := (Own.of_row SA.own1).row (by intro e; have := ic_len lo; rw [e] at this; simp at this; omega)
                cases hq
                have c1 := q1.cell (j := 0) (by rw [ic_len]; omega)
                have f1 := q1.frozen 0
                have SB := SA.low L 0 (oneOf (-1) 100 x)
                obtain ⟨u0, u1, _, _⟩ := two_cells SB.box
                obtain ⟨m0, m1, f4, f5⟩ := two_cells SB.res
                refine wpAnyH_ready (rs := [8]) (by kernel_rfl) (by simp) ?_
                refine AllReadyH.cons (o := _) rfl (fun K hK => ?_) AllReadyH.nil
                go_simp
                refine hK.out _ _ u0 (fun hHeld => ?_)
                clear hK K
                (try simp only [Act.put, List.setIfInBounds_toArray, List.set_cons_zero, List.set_cons_succ])
                refine wpAnyH_done (by kernel_rfl) ?_ _
                have hlB := SB.len
                obtain ⟨r0, r1, oR, dR⟩ := pile_retD (ci := m + 1) (ci' := m) (p := (lo.set 0 (oneOf (-1) 100 x), hi)) SB.res (Nat.le_refl _) (Own.of_row SB.own1) (Own.of_row SB.own2) SB.rdr hgl SB.grown _ rfl
                simp only [hlB.1, hlB.2] at r0 r1 oR dR
                clear c1 f1 HC hHeld
                go_wp2
                refine bodyPost_ret (by simp [results, Tryd.results65, go_sem, r0, r1]; try rfl) rfl ?_
                exact ⟨some ⟨a1, 0, none⟩, m + 1, some ⟨a2, 0, none⟩, m, (lo.set 0 (oneOf (-1) 100 x), hi), by simp only [hlB.1, hlB.2], (show (lo.set 0 (oneOf (-1) 100 x)).length ≤ 6 by omega), (show hi.length ≤ 6 by omega), oR.1, oR.2, dR.more (by omega)⟩
            · obtain ⟨k0, k1, f2, f3⟩ := two_cells S.box
              have hw6 := S.res.lt
              go_wp2_with (at_builtin; refine wpList_append_any intElem rfl _ _ rfl (w.heap.size + 1) (w6.heap.size + 1) _ m (ic hi) rfl (S.own2.alloc _) (some ⟨w6.heap.size, 0, none⟩) 1 1 rfl (ic [0]) rfl (((Row.new w6 3 #[.int .i64 0]).rd).mono (by simp)) (fun h => by cases h) (ic_one _) (by omega) (by omega) (by simp; omega) ?_; intro v' w7 hap; obtain ⟨A2, c2, hv2, _⟩ := own_room2 hap.1; subst hv2; have q5 := (S.box.alloc (.cells #[.int .i64 0] 3)).kept hap.2.1 (by intro e; injection e with e; have := L.n2; simp only at e; omega); have q4 := (S.res.alloc (.cells #[.int .i64 0] 3)).kept hap.2.1 (by intro e; injection e with e; have := L.b2; simp only at e; omega); have q6 := q5.set 1 (.slice A2 (m + 1) c2); have q7 := q4.far (p := ⟨gB, 1, none⟩) (by have := L.bB; simp only; omega) (.slice A2 (m + 1) c2); simp only [List.set_cons_succ, List.set_cons_zero] at q6; obtain ⟨_, e1, _, e3⟩ := two_cells q5; obtain ⟨d0, d1, _, _⟩ := two_cells q6; obtain ⟨m0, m1, f0, f1⟩ := two_cells q7; have HA := hide hap; clear hap)
              obtain ⟨ho, hg, _⟩ := HA.out
              have oL := Own.of_row (owns_grown (S.own1.alloc (.cells #[.int .i64 0] 3)) hg (by intro b hb e; injection hb with hb; injection e with e; have := L.n12; simp only at hb e; omega))
              have oH := Own.of_row ho
              rw [show ic hi ++ ic [0] = ic (hi ++ [0]) by simp [ic]] at oH
              have hR7 := ((S.rdr.alloc (.cells #[.int .i64 0] 3)).kept hg (by intro b hb; injection hb with hb; have := L.b2; simp only at hb; omega)).far (p := ⟨gB, 1, none⟩) (by have := L.bB; simp only; omega) (.slice A2 (m + 1) c2)
              have hG7 := grown_store (grown_own (grown_allocS S.grown (.cells #[.int .i64 0] 3)) hg (by intro b hb; injection hb with hb; have := L.b2; simp only at hb; omega)) (p := ⟨gB, 1, none⟩) (by have := L.bB; simp only; omega) (.slice A2 (m + 1) c2)
              obtain ⟨r0, r1, oR, dR⟩ := pile_retD (ci := m + 1) (ci' := c2) (p := (lo, hi ++ [0])) q7 (Nat.le_refl _) (own_farT oL q5 (by decide) _) (own_farT oH q5 (by decide) _) hR7 hgl hG7 _ rfl
              have hl2 : (hi ++ [0]).length = m + 1 := by simp; omega
              simp only [hl.1, hl2] at r0 r1 oR dR
              refine bodyPost_ret (by simp [results, Tryd.results65, go_sem, r0, r1]; try rfl) rfl ?_
              exact ⟨some ⟨a1, 0, none⟩, m + 1, A2, c2, (lo, hi ++ [0]), by simp only [hl.1, hl2], (show lo.length ≤ 6 by omega), (show (hi ++ [0]).length ≤ 6 by omega), oR.1, oR.2, dR.more (by omega)⟩
            ·
              have q4 := (S.res.alloc (.cells #[.int .i64 5, .int .i64 0] 3)).alloc (.cells #[.int .i64 6] 3)
              have o1 := (own_full (e := 3) (size := 1) w6 (w.heap.size + 1) 2 #[.int .i64 5, .int .i64 0] (by have := S.res.lt; omega) (by simp [maxLen]) rfl).alloc (.cells #[.int .i64 6] 3)
              have o2 := own_full (e := 3) (size := 1) (w6.alloc (.cells #[.int .i64 5, .int .i64 0] 3)) (w.heap.size + 1) 1 #[.int .i64 6] (by have := S.res.lt; simp; omega) (by simp [maxLen]) rfl
              rw [World.size_alloc] at o2
              have hR2 := (S.rdr.alloc (.cells #[.int .i64 5, .int .i64 0] 3)).alloc (.cells #[.int .i64 6] 3)
              have hG2 := grown_allocS (grown_allocS S.grown (.cells #[.int .i64 5, .int .i64 0] 3)) (.cells #[.int .i64 6] 3)
              obtain ⟨m0, m1, f0, f1⟩ := two_cells q4
              obtain ⟨r0, r1, oR, dR⟩ := pile_retD (ci := 2) (ci' := 1) (p := ([5, 0], [6])) q4 (Nat.le_refl _) (Own.of_row o1) (Own.of_row o2) hR2 hgl hG2 _ rfl
              simp only [List.length_cons, List.length_nil, Nat.zero_add] at r0 r1
              go_wp2
              refine bodyPost_ret (by simp [results, Tryd.results65, go_sem, r0, r1]; try rfl) rfl ?_
              exact ⟨some ⟨w6.heap.size, 0, none⟩, 2, some ⟨w6.heap.size + 1, 0, none⟩, 1, ([5, 0], [6]), rfl, by simp, by simp, oR.1, oR.2, dR.more (by omega)⟩
            ·
              have q4 := (S.res.alloc (.cells #[.int .i64 5, .int .i64 5] 3)).alloc (.cells #[.int .i64 0] 3)
              have o1 := (own_full (e := 3) (size := 1) w6 (w.heap.size + 1) 2 #[.int .i64 5, .int .i64 5] (by have := S.res.lt; omega) (by simp [maxLen]) rfl).alloc (.cells #[.int .i64 0] 3)
              have o2 := own_full (e := 3) (size := 1) (w6.alloc (.cells #[.int .i64 5, .int .i64 5] 3)) (w.heap.size + 1) 1 #[.int .i64 0] (by have := S.res.lt; simp; omega) (by simp [maxLen]) rfl
              rw [World.size_alloc] at o2
              have hR2 := (S.rdr.alloc (.cells #[.int .i64 5, .int .i64 5] 3)).alloc (.cells #[.int .i64 0] 3)
              have hG2 := grown_allocS (grown_allocS S.grown (.cells #[.int .i64 5, .int .i64 5] 3)) (.cells #[.int .i64 0] 3)
              obtain ⟨m0, m1, f0, f1⟩ := two_cells q4
              obtain ⟨r0, r1, oR, dR⟩ := pile_retD (ci := 2) (ci' := 1) (p := ([5, 5], [0])) q4 (Nat.le_refl _) (Own.of_row o1) (Own.of_row o2) hR2 hgl hG2 _ rfl
              simp only [List.length_cons, List.length_nil, Nat.zero_add] at r0 r1
              go_wp2
              refine bodyPost_ret (by simp [results, Tryd.results65, go_sem, r0, r1]; try rfl) rfl ?_
              exact ⟨some ⟨w6.heap.size, 0, none⟩, 2, some ⟨w6.heap.size + 1, 0, none⟩, 1, ([5, 5], [0]), rfl, by simp, by simp, oR.1, oR.2, dR.more (by omega)⟩
end Go.Proofs.YtpiiefmfiipabaaDoor
