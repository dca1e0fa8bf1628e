/- The laws' helpers over piles: copied, compared, marked, held, sized. No conditions but bounds on lengths. -/
import Derived.Test.YtgohnbhnckgcnaaPile
namespace Go.Proofs.Ytgohnbhnckgcnaa
open Go.ChangeShapes Go.WideShapes Go.ChangeAt Go.RowKit Go.Deep

/-- A pile that reads. -/
def RdP (w : World) (B : Nat) (A A' : Option Addr) (p : PL) : Prop := Rd w B A (ic p.1) ∧ Rd w B A' (ic p.2)
theorem RdP.up {w w' : World} {A A' : Option Addr} {p : PL} (h : RdP w w.heap.size A A' p) (hb : Below w.heap.size w w') : RdP w' w'.heap.size A A' p := ⟨h.1.up hb, h.2.up hb⟩
theorem RdP.below {w w' : World} {B : Nat} {A A' : Option Addr} {p : PL} (h : RdP w B A A' p) (hb : Below B w w') : RdP w' B A A' p := ⟨h.1.below hb, h.2.below hb⟩
theorem RdP.mono {w : World} {B B' : Nat} {A A' : Option Addr} {p : PL} (h : RdP w B A A' p) (hB : B ≤ B') : RdP w B' A A' p := ⟨h.1.mono hB, h.2.mono hB⟩
theorem OwnP.rd {w : World} {B : Nat} {A A' : Option Addr} {p : PL} (h : OwnP w B A A' p) : RdP w w.heap.size A A' p := ⟨h.1.rd, h.2.1.rd⟩
theorem OwnP.below {w w' : World} {B : Nat} {A A' : Option Addr} {p : PL} (h : OwnP w B A A' p) (hb : Below w.heap.size w w') : OwnP w' B A A' p := ⟨h.1.below hb, h.2.1.below hb, h.2.2⟩
theorem bel_two (w : World) (o o' : Obj) : Below w.heap.size w ((w.alloc o).alloc o') := by go_grown
theorem bel_one (w : World) (o : Obj) : Below w.heap.size w (w.alloc o) := by go_grown
def small (p : PL) : Prop := p.1.length ≤ 1099511627776 ∧ p.2.length ≤ 1099511627776

theorem eqPile_any (A A' B B' : Option Addr) (c c' d d' : Nat) (p q : PL) (w : World) (hp : small p) (rp : RdP w w.heap.size A A' p) (rq : RdP w w.heap.size B B' q) :
    Calls Try.prog 19 #[.agg #[.slice A p.1.length c, .slice A' p.2.length c'], .agg #[.slice B q.1.length d, .slice B' q.2.length d']] w fun e w' => e = .returned (.bool (decide (p = q))) ∧ Below w.heap.size w w' := by
  go_enter Try.func19, Try.ntmps19
  go_wp2_with fail
  have b0 := bel_two w (.cells #[.slice A p.1.length c, .slice A' p.2.length c'] 24) (.cells #[.slice B q.1.length d, .slice B' q.2.length d'] 24)
  refine (eqIntS_any _ _ _ _ p.1 q.1 _ hp.1 (rp.up b0).1 (rq.up b0).1).mono ?_
  rintro e w1 ⟨rfl, k, rfl⟩
  by_cases h1 : p.1 = q.1
  · rw [decide_eq_true h1]
    have H1 := hide h1
    clear h1
    go_wp2_with fail
    refine (eqIntS_any _ _ _ _ p.2 q.2 _ hp.2 ((rp.up b0).2.up (Drew.below ⟨k, rfl⟩ _)) ((rq.up b0).2.up (Drew.below ⟨k, rfl⟩ _))).mono ?_
    rintro e w2 ⟨rfl, dr⟩
    have b2 := (b0.trans (Drew.below ⟨k, rfl⟩ _)).trans (dr.below _)
    by_cases h2 : p.2 = q.2
    · have H2 := hide (show decide (p = q) = true from decide_eq_true (Prod.ext H1.out h2))
      rw [decide_eq_true h2]
      clear h2
      go_wp2
      go_ret
      exact ⟨ret_bool H2.out.symm, b2⟩
    · have H2 := hide (show decide (p = q) = false from decide_eq_false fun e => h2 (by rw [e]))
      rw [decide_eq_false h2]
      clear h2
      go_wp2
      go_ret
      exact ⟨ret_bool H2.out.symm, b2⟩
  · have H2 := hide (show decide (p = q) = false from decide_eq_false fun e => h1 (by rw [e]))
    rw [decide_eq_false h1]
    clear h1
    go_wp2
    go_ret
    exact ⟨ret_bool H2.out.symm, b0.trans (Drew.below ⟨k, rfl⟩ _)⟩
theorem ownB_len {A : Option Addr} {xs ys : List Value} (h : xs.length = ys.length) : ownB A xs = ownB A ys := by
  cases xs with
  | nil => cases ys with
    | nil => rfl
    | cons => simp at h
  | cons => cases ys with
    | nil => simp at h
    | cons => rfl
theorem Own.keep {w w' : World} {B : Nat} {T : TypeId} {A : Option Addr} {xs : List Value} {row : Option Nat} (h : Own w B T A xs) (hb : w.grownBy w' row) (hg : ∀ g, ownB A xs = some g → row ≠ some g) : Own w' B T A xs := by
  by_cases hx : xs = []
  · exact .inl hx
  · refine h.kept hb fun g o s e => ?_
    have := hg g (by rw [ownB_cons _ hx, e]; rfl)
    exact fun e => this e.symm
theorem OwnP.keep {w w' : World} {B : Nat} {A A' : Option Addr} {p : PL} {row : Option Nat} (h : OwnP w B A A' p) (hb : w.grownBy w' row) (hg : ∀ g, B ≤ g → row ≠ some g) : OwnP w' B A A' p := by
  have key : ∀ {A : Option Addr} {z : List Int}, Own w B 3 A (ic z) → ∀ g, ownB A (ic z) = some g → row ≠ some g := by
    intro A z h g e
    obtain ⟨hx, a, rfl, ha⟩ := ownB_some e
    obtain ⟨g', e', hB, _⟩ := h.row hx
    cases e'
    cases ha
    exact hg _ hB
  exact ⟨h.1.keep hb (key h.1), h.2.1.keep hb (key h.2.1), h.2.2⟩
/-- Two rows turned, one after the other. -/
def Turned (w w' : World) (a b : Option Nat) : Prop := ∃ wm, w.grownBy wm a ∧ wm.grownBy w' b
theorem OwnP.lt {w : World} {B : Nat} {A A' : Option Addr} {p : PL} (h : OwnP w B A A' p) : ∀ g, (ownB A (ic p.1) = some g ∨ ownB A' (ic p.2) = some g) → B ≤ g ∧ g < w.heap.size := by
  have key : ∀ {A : Option Addr} {z : List Int}, Own w B 3 A (ic z) → ∀ g, ownB A (ic z) = some g → B ≤ g ∧ g < w.heap.size := by
    intro A z h g e
    obtain ⟨hx, a, rfl, ha⟩ := ownB_some e
    obtain ⟨g', e', hB, hr⟩ := h.row hx
    cases e'
    cases ha
    exact ⟨hB, hr.lt⟩
  intro g hg
  rcases hg with hg | hg
  · exact key h.1 g hg
  · exact key h.2.1 g hg
theorem Turned.below {w w' : World} {B : Nat} {A A' : Option Addr} {p : PL} (t : Turned w w' (ownB A (ic p.1)) (ownB A' (ic p.2))) (h : ∀ g, (ownB A (ic p.1) = some g ∨ ownB A' (ic p.2) = some g) → B ≤ g) (hB : B ≤ w.heap.size) : Below B w w' := by
  obtain ⟨wm, g1, g2⟩ := t
  exact ((Below.refl B w).grown g1 hB fun k hk => h k (.inl hk)).grown g2 (by have := g1.size; omega) fun k hk => h k (.inr hk)
theorem Row.turned {w w' : World} {g : Nat} {T : TypeId} {xs : List Value} {a b : Option Nat} (h : Row w g T xs) (t : Turned w w' a b) (ha : a ≠ some g) (hb : b ≠ some g) : Row w' g T xs := by
  obtain ⟨wm, g1, g2⟩ := t
  exact (h.kept g1 fun e => ha e.symm).kept g2 fun e => hb e.symm
theorem OwnP.turned {w w' : World} {B : Nat} {A A' : Option Addr} {p : PL} {a b : Option Nat} (h : OwnP w B A A' p) (t : Turned w w' a b) (ha : ∀ g, B ≤ g → a ≠ some g) (hb : ∀ g, B ≤ g → b ≠ some g) : OwnP w' B A A' p := by
  obtain ⟨wm, g1, g2⟩ := t
  exact (h.keep g1 ha).keep g2 hb
theorem Row.boxed {w : World} {g : Nat} {T : TypeId} {u v : Value} (h : Row w g T [u, v]) : w.cell? ⟨g, 0, none⟩ = some u ∧ w.cell? ⟨g, 1, none⟩ = some v := ⟨h.cell (j := 0) (by simp), h.cell (j := 1) (by simp)⟩
def markP (k : Int) (p : PL) : PL := (marks k p.1.length, marks (k + (p.1.length : Int)) p.2.length)
theorem bel_grown {w w' : World} {row : Option Nat} (h : Below w.heap.size w w') : w.grownBy w' row := ⟨h.os, h.tape, h.output, h.size, fun i hi _ => h.block i hi⟩
theorem markPile_any (A A' : Option Addr) (c c' B : Nat) (p : PL) (k0 : Int) (w : World) (hp : small p) (h0 : 0 ≤ k0) (h1 : k0 ≤ 1048576) (hs : p.1.length ≤ 1048576) (op : OwnP w B A A' p) :
    Calls Try.prog 20 #[.agg #[.slice A p.1.length c, .slice A' p.2.length c'], .int .i64 k0] w fun e w' => e = .returned (.int .i64 (k0 + (p.1.length : Int) + (p.2.length : Int))) ∧ OwnP w' B A A' (markP k0 p) ∧ Turned w w' (ownB A (ic p.1)) (ownB A' (ic p.2)) := by
  go_enter Try.func20, Try.ntmps20
  go_wp2_with fail
  have b0 := bel_one w (.cells #[.slice A p.1.length c, .slice A' p.2.length c'] 24)
  have op0 := op.below b0
  have c0 : (w.alloc (.cells #[.slice A p.1.length c, .slice A' p.2.length c'] 24)).cell? ⟨w.heap.size, 1, none⟩ = some (.slice A' p.2.length c') := by simp [go_sem]
  have hz : (w.alloc (.cells #[.slice A p.1.length c, .slice A' p.2.length c'] 24)).heap.size = w.heap.size + 1 := by simp
  generalize w.alloc (.cells #[.slice A p.1.length c, .slice A' p.2.length c'] 24) = w0 at *
  refine (markIntS_any _ _ B p.1 k0 _ hp.1 (by omega) (by omega) op0.1).mono ?_
  rintro e w1 ⟨rfl, o1, g1⟩
  have o2 : Own w1 B 3 A' (ic p.2) := op0.2.1.keep g1 fun g e1 e2 => op0.2.2 _ _ e2 e1 rfl
  have c1 : w1.cell? ⟨w.heap.size, 1, none⟩ = some (.slice A' p.2.length c') := by
    have hb : w1.heap[w.heap.size]? = w0.heap[w.heap.size]? := g1.block _ (by omega) fun e => by
      obtain ⟨hx, a, rfl, ha⟩ := ownB_some e.symm
      obtain ⟨g', e', _, hr⟩ := op.1.row hx
      cases e'
      have := hr.lt
      simp only at ha; omega
    rw [← c0]; simp only [World.cell?, hb]
  clear op0 c0
  go_wp2_with fail
  refine (markIntS_any _ _ B p.2 _ _ hp.2 (by omega) (by omega) o2).mono ?_
  rintro e w2 ⟨rfl, o3, g2⟩
  have ha : ∀ g g', ownB A (ic (marks k0 p.1.length)) = some g → ownB A' (ic (marks (k0 + (p.1.length : Int)) p.2.length)) = some g' → g ≠ g' := by
    rw [ownB_len (A := A) (xs := ic (marks k0 p.1.length)) (ys := ic p.1) (by simp [ic_len, marks_len]), ownB_len (A := A') (xs := ic (marks _ p.2.length)) (ys := ic p.2) (by simp [ic_len, marks_len])]
    exact op.2.2
  have o4 : Own w2 B 3 A (ic (marks k0 p.1.length)) := o1.keep g2 fun g e1 e2 => op.2.2 g g (by rw [← ownB_len (A := A) (xs := ic (marks k0 p.1.length)) (ys := ic p.1) (by simp [ic_len, marks_len])]; exact e1) e2 rfl
  have T := hide (show OwnP w2 B A A' (markP k0 p) ∧ Turned w w2 (ownB A (ic p.1)) (ownB A' (ic p.2)) from ⟨⟨o4, o3, ha⟩, w1, grown_trans (bel_grown b0) g1, g2⟩)
  clear o4 o3 ha g1 g2 o1 o2 c1 b0 op
  go_wp2
  go_ret
  exact ⟨rfl, T.out⟩
theorem heldPile_any (A A' : Option Addr) (c c' : Nat) (n n' : Nat) (k0 : Int) (w : World) (h0 : 0 ≤ k0) (h1 : k0 ≤ 1048576) (hs : n ≤ 1048576) (hs' : n' ≤ 1048576) (rp : RdP w w.heap.size A A' (marks k0 n, marks (k0 + (n : Int)) n')) :
    Calls Try.prog 21 #[.agg #[.slice A n c, .slice A' n' c'], .int .i64 k0] w fun e w' => e = .returned (.int .i64 (k0 + (n : Int) + (n' : Int))) ∧ w.alloc (.cells #[.slice A n c, .slice A' n' c'] 24) = w' := by
  go_enter Try.func21, Try.ntmps21
  go_wp2_with fail
  have b0 := bel_one w (.cells #[.slice A n c, .slice A' n' c'] 24)
  refine (heldIntS_any _ _ _ k0 _ (by omega) (by omega) (by omega) (rp.up b0).1).mono ?_
  rintro e w' ⟨rfl, rfl⟩
  go_wp2_with fail
  refine (heldIntS_any _ _ _ _ _ (by omega) (by omega) (by omega) (rp.up b0).2).mono ?_
  rintro e w' ⟨rfl, rfl⟩
  clear rp b0
  go_wp2
  go_ret
  exact ⟨rfl, rfl⟩
def szI (l : Int) (n : Nat) : Int := if l - (n : Int) < 0 then -1 else l - (n : Int)
theorem szI_lt (l : Int) (n : Nat) : szI l n < 0 ↔ l < (n : Int) := by unfold szI; split <;> omega
theorem szI_le {l : Int} (h : 0 ≤ l) (n : Nat) : -1 ≤ szI l n ∧ szI l n ≤ l := by unfold szI; split <;> omega
def szP (l : Int) (n n' : Nat) : Int := if szI l n < 0 then -1 else szI (szI l n) n'
theorem szP_pos {l : Int} {n n' : Nat} (hl : 0 ≤ l) (h : ¬ szP l n n' < 0) : (n : Int) ≤ l ∧ (n' : Int) ≤ l := by
  unfold szP at h
  split at h
  · omega
  · have h1 := szI_lt l n
    have h2 := szI_lt (szI l n) n'
    have h3 := szI_le hl n
    omega
theorem szIntS_any (A : Option Addr) (c n : Nat) (l : Int) (w : World) (hn : n ≤ 9223372036854775807) (h0 : 0 ≤ l) (h1 : l ≤ 1099511627776) :
    Calls Try.prog 64 #[.slice A n c, .int .i64 l] w fun e w' => e = .returned (.int .i64 (szI l n)) ∧ w = w' := by
  by_cases h : l - (n : Int) < 0
  · have HS := hide (show szI l n = -1 by rw [szI, if_pos h])
    go_enter Try.func64, Try.ntmps64
    go_wp2
    go_ret
    exact ⟨ret_int HS.out.symm, rfl⟩
  · have HS := hide (show szI l n = l - (n : Int) by rw [szI, if_neg h])
    go_enter Try.func64, Try.ntmps64
    go_wp2
    go_ret
    exact ⟨ret_int HS.out.symm, rfl⟩
theorem szPile_any (A A' : Option Addr) (c c' n n' : Nat) (l : Int) (w : World) (hn : n ≤ 9223372036854775807) (hn' : n' ≤ 9223372036854775807) (h0 : 0 ≤ l) (h1 : l ≤ 1099511627776) :
    Calls Try.prog 22 #[.agg #[.slice A n c, .slice A' n' c'], .int .i64 l] w fun e w' => e = .returned (.int .i64 (szP l n n')) ∧ w.alloc (.cells #[.slice A n c, .slice A' n' c'] 29) = w' := by
  have hl := szI_le h0 n
  by_cases h : szI l n < 0
  · have HS := hide (show szP l n n' = -1 by rw [szP, if_pos h])
    go_enter Try.func22, Try.ntmps22
    go_wp2_with (go_at_call 64; refine (szIntS_any _ _ _ _ _ (by omega) (by omega) (by omega)).mono ?_; rintro e w' ⟨rfl, rfl⟩)
    go_ret
    exact ⟨ret_int HS.out.symm, rfl⟩
  · have hl2 := szI_le (show 0 ≤ szI l n by omega) n'
    have HS := hide (show szP l n n' = szI (szI l n) n' by rw [szP, if_neg h])
    by_cases h2 : szI (szI l n) n' < 0
    · have HT := hide (show szI (szI l n) n' = -1 by omega)
      go_enter Try.func22, Try.ntmps22
      go_wp2_with (go_at_call 64; refine (szIntS_any _ _ _ _ _ (by omega) (by omega) (by omega)).mono ?_; rintro e w' ⟨rfl, rfl⟩)
      go_ret
      exact ⟨ret_int (by rw [HS.out, HT.out]), rfl⟩
    · go_enter Try.func22, Try.ntmps22
      go_wp2_with (go_at_call 64; refine (szIntS_any _ _ _ _ _ (by omega) (by omega) (by omega)).mono ?_; rintro e w' ⟨rfl, rfl⟩)
      go_ret
      exact ⟨ret_int HS.out.symm, rfl⟩
theorem toPile_any (A A' : Option Addr) (c c' : Nat) (p : PL) (w : World) (hp : small p) (rp : RdP w w.heap.size A A' p) :
    Calls Try.prog 24 #[.agg #[.slice A p.1.length c, .slice A' p.2.length c']] w (PileOk w p) := by
  go_enter Try.func24, Try.ntmps24
  go_wp2_with fail
  have b0 : Below w.heap.size w (((w.alloc (.cells #[.slice A p.1.length c, .slice A' p.2.length c'] 29)).alloc (.cells #[.slice none 0 0, .slice none 0 0] 24)).alloc (.cells #[.slice none 0 0, .slice none 0 0] 24)) := by go_grown
  have r0 : Row (((w.alloc (.cells #[.slice A p.1.length c, .slice A' p.2.length c'] 29)).alloc (.cells #[.slice none 0 0, .slice none 0 0] 24)).alloc (.cells #[.slice none 0 0, .slice none 0 0] 24)) w.heap.size 29 [.slice A p.1.length c, .slice A' p.2.length c'] := ((Row.new _ _ _).alloc _).alloc _
  have r1 : Row (((w.alloc (.cells #[.slice A p.1.length c, .slice A' p.2.length c'] 29)).alloc (.cells #[.slice none 0 0, .slice none 0 0] 24)).alloc (.cells #[.slice none 0 0, .slice none 0 0] 24)) (w.heap.size + 1) 24 [.slice none 0 0, .slice none 0 0] := ((Row.new _ _ _).alloc _).eq (by simp)
  have r2 : Row (((w.alloc (.cells #[.slice A p.1.length c, .slice A' p.2.length c'] 29)).alloc (.cells #[.slice none 0 0, .slice none 0 0] 24)).alloc (.cells #[.slice none 0 0, .slice none 0 0] 24)) (w.heap.size + 1 + 1) 24 [.slice none 0 0, .slice none 0 0] := (Row.new _ _ _).eq (by simp)
  have hz : (((w.alloc (.cells #[.slice A p.1.length c, .slice A' p.2.length c'] 29)).alloc (.cells #[.slice none 0 0, .slice none 0 0] 24)).alloc (.cells #[.slice none 0 0, .slice none 0 0] 24)).heap.size = w.heap.size + 1 + 1 + 1 := by simp
  generalize (((w.alloc (.cells #[.slice A p.1.length c, .slice A' p.2.length c'] 29)).alloc (.cells #[.slice none 0 0, .slice none 0 0] 24)).alloc (.cells #[.slice none 0 0, .slice none 0 0] 24)) = w0 at *
  have rp0 := rp.up b0
  refine (toIntS_any A c p.1 _ hp.1 rp0.1).mono ?_
  rintro e w1 ⟨rfl, s1, b1⟩
  rw [hz] at s1
  have bb1 := via b0 b1 b0.size
  have z1 : w.heap.size + 1 + 1 + 1 < w1.heap.size := s1.lt
  have r0' := r0.after b1
  have r1' := r1.after b1
  have r2' := r2.after b1
  have rp1 := rp0.up b1
  clear r0 r1 r2 b1 rp0
  have k0 := r0'.cell (j := 1) (by simp)
  have k1 := r2'.cell (j := 0) (by simp)
  have f1 := r2'.frozen 0
  simp only [List.getElem_cons_succ, List.getElem_cons_zero] at k0 k1
  rw [hz]
  go_wp2_with fail
  have g2 := r2'.set 0 (.slice (some ⟨w.heap.size + 1 + 1 + 1, 0, none⟩) p.1.length p.1.length)
  have g1 := r1'.far (p := ⟨w.heap.size + 1 + 1, 0, none⟩) (by simp) (.slice (some ⟨w.heap.size + 1 + 1 + 1, 0, none⟩) p.1.length p.1.length)
  have g3 := s1.far (p := ⟨w.heap.size + 1 + 1, 0, none⟩) (by simp) (.slice (some ⟨w.heap.size + 1 + 1 + 1, 0, none⟩) p.1.length p.1.length)
  have bb2 := bb1.setCell (p := ⟨w.heap.size + 1 + 1, 0, none⟩) (by simp; omega) (.slice (some ⟨w.heap.size + 1 + 1 + 1, 0, none⟩) p.1.length p.1.length)
  have z2 : w.heap.size + 1 + 1 + 1 < (w1.setCell ⟨w.heap.size + 1 + 1, 0, none⟩ (.slice (some ⟨w.heap.size + 1 + 1 + 1, 0, none⟩) p.1.length p.1.length)).heap.size := by simpa [World.setCell] using z1
  generalize w1.setCell ⟨w.heap.size + 1 + 1, 0, none⟩ (.slice (some ⟨w.heap.size + 1 + 1 + 1, 0, none⟩) p.1.length p.1.length) = w2 at *
  clear k0 k1 f1 r0' r1' r2' s1 rp1
  refine (toIntS_any A' c' p.2 _ hp.2 (rp.up bb2).2).mono ?_
  rintro e w3 ⟨rfl, s3, b3⟩
  have bb3 := via bb2 b3 bb2.size
  have h1 := g1.after b3
  have h2 := g2.after b3
  have h3 := g3.after b3
  simp only [List.set_cons_zero] at h2
  clear g1 g2 g3
  have k1 := h1.cell (j := 0) (by simp)
  have k2 := h1.cell (j := 1) (by simp)
  have k3 := h2.cell (j := 0) (by simp)
  have k4 := h2.cell (j := 1) (by simp)
  have f1 := h1.frozen 0
  have f2 := h1.frozen 1
  have f3 := h2.frozen 1
  simp only [List.getElem_cons_succ, List.getElem_cons_zero] at k1 k2 k3 k4
  go_wp2
  have e1 := ((h1.far (p := ⟨w.heap.size + 1 + 1, 1, none⟩) (by simp) (.slice (some ⟨w2.heap.size, 0, none⟩) p.2.length p.2.length)).set 0 (.slice (some ⟨w.heap.size + 1 + 1 + 1, 0, none⟩) p.1.length p.1.length)).set 1 (.slice (some ⟨w2.heap.size, 0, none⟩) p.2.length p.2.length)
  have e3 : Row (((w3.setCell ⟨w.heap.size + 1 + 1, 1, none⟩ (.slice (some ⟨w2.heap.size, 0, none⟩) p.2.length p.2.length)).setCell ⟨w.heap.size + 1, 0, none⟩ (.slice (some ⟨w.heap.size + 1 + 1 + 1, 0, none⟩) p.1.length p.1.length)).setCell ⟨w.heap.size + 1, 1, none⟩ (.slice (some ⟨w2.heap.size, 0, none⟩) p.2.length p.2.length)) (w.heap.size + 1 + 1 + 1) 3 (ic p.1) := ((h3.far (by simp) _).far (by simp only; omega) _).far (by simp only; omega) _
  have e4 : Row (((w3.setCell ⟨w.heap.size + 1 + 1, 1, none⟩ (.slice (some ⟨w2.heap.size, 0, none⟩) p.2.length p.2.length)).setCell ⟨w.heap.size + 1, 0, none⟩ (.slice (some ⟨w.heap.size + 1 + 1 + 1, 0, none⟩) p.1.length p.1.length)).setCell ⟨w.heap.size + 1, 1, none⟩ (.slice (some ⟨w2.heap.size, 0, none⟩) p.2.length p.2.length)) w2.heap.size 3 (ic p.2) := ((s3.far (by simp only; omega) _).far (by simp only; omega) _).far (by simp only; omega) _
  have e5 : Below w.heap.size w (((w3.setCell ⟨w.heap.size + 1 + 1, 1, none⟩ (.slice (some ⟨w2.heap.size, 0, none⟩) p.2.length p.2.length)).setCell ⟨w.heap.size + 1, 0, none⟩ (.slice (some ⟨w.heap.size + 1 + 1 + 1, 0, none⟩) p.1.length p.1.length)).setCell ⟨w.heap.size + 1, 1, none⟩ (.slice (some ⟨w2.heap.size, 0, none⟩) p.2.length p.2.length)) := ((bb3.setCell (by simp only; omega) _).setCell (by simp only; omega) _).setCell (by simp only; omega) _
  generalize (((w3.setCell ⟨w.heap.size + 1 + 1, 1, none⟩ (.slice (some ⟨w2.heap.size, 0, none⟩) p.2.length p.2.length)).setCell ⟨w.heap.size + 1, 0, none⟩ (.slice (some ⟨w.heap.size + 1 + 1 + 1, 0, none⟩) p.1.length p.1.length)).setCell ⟨w.heap.size + 1, 1, none⟩ (.slice (some ⟨w2.heap.size, 0, none⟩) p.2.length p.2.length)) = w4 at *
  simp only [List.set_cons_zero, List.set_cons_succ] at e1
  have k5 := e1.cell (j := 0) (by simp)
  have k6 := e1.cell (j := 1) (by simp)
  simp only [List.getElem_cons_succ, List.getElem_cons_zero] at k5 k6
  refine bodyPost_ret (by simp [results, Try.results24, go_sem, k5, k6]; try rfl) rfl ?_
  exact pileOk_rows e3 e4 (by omega) (by omega) (by omega) rfl rfl e5
end Go.Proofs.Ytgohnbhnckgcnaa
