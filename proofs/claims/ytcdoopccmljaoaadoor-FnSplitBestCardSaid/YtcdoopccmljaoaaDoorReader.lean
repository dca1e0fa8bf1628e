/- The reader of a code: opened, and a number drawn from it. No conditions but bounds on how often it was asked. -/
import Derived.Test.YtcdoopccmljaoaaDoorRows
import Derived.Test.YtcdoopccmljaoaaDoorLib
import Derived.Test.YtcdoopccmljaoaaDoorExt
import Derived.WalkLawsBesides
import Derived.LoopTactic
import Derived.Deep.RegionHeld3
namespace Go.Proofs.YtcdoopccmljaoaaDoor
open Go.ChangeShapes Go.WideShapes Go.ChangeAt Go.RowKit Go.Deep

/-- The cells of bytes. -/
def bc (bs : List Int) : List Value := bs.map (Value.int .u8)
theorem bc_len (bs : List Int) : (bc bs).length = bs.length := by simp [bc]
theorem bc_get (bs : List Int) (k : Nat) (h : k < bs.length) : (bc bs)[k]'(by rw [bc_len]; exact h) = .int .u8 bs[k] := by simp [bc]
theorem Rd.byte {w : World} {B : Nat} {A : Option Addr} {bs : List Int} (h : Rd w B A (bc bs)) {k : Nat} (hk : k < bs.length) :
    ∃ b o, A = some ⟨b, o, none⟩ ∧ b < B ∧ w.cell? ⟨b, o + k, none⟩ = some (.int .u8 bs[k]) := by
  obtain ⟨b, o, hA, hb, hc⟩ := h.at (k := k) (by rw [bc_len]; exact hk)
  exact ⟨b, o, hA, hb, by rw [hc k (by rw [bc_len]; exact hk), bc_get bs k hk]⟩
theorem Rd.bytes_take {w : World} {B : Nat} {A : Option Addr} {bs : List Int} (h : Rd w B A (bc bs)) (k : Nat) : Rd w B A (bc (bs.take k)) := by
  rcases h with h | ⟨b, o, hA, hb, hc⟩
  · have : bs = [] := by simpa [bc] using h
    subst this; exact .inl (by simp [bc])
  · refine .inr ⟨b, o, hA, hb, fun j hj => ?_⟩
    have h1 : j < (bc bs).length := by rw [bc_len] at hj ⊢; simp at hj; omega
    rw [hc j h1]
    simp [bc]
/-- Block g holds a reader that was asked at most k times; its code lies below it. -/
def Rdr (w : World) (g k : Nat) : Prop :=
  ∃ (A : Option Addr) (c : Nat) (bs : List Int) (j : Nat), j ≤ k ∧ bs.length ≤ 2000 ∧ (∀ b ∈ bs, 0 ≤ b ∧ b < 256) ∧ Rd w g A (bc bs) ∧ Row w g 95 [.slice A bs.length c, .int .i64 (j : Int)]
theorem Rdr.lt {w : World} {g k : Nat} (h : Rdr w g k) : g < w.heap.size := by
  obtain ⟨_, _, _, _, _, _, _, _, q⟩ := h
  exact q.lt
theorem Rdr.up {w w' : World} {g k : Nat} (h : Rdr w g k) (hb : Below w.heap.size w w') : Rdr w' g k := by
  have hlt := h.lt
  obtain ⟨A, c, bs, j, h1, h2, h3, h4, q⟩ := h
  exact ⟨A, c, bs, j, h1, h2, h3, h4.below (hb.mono (by omega)), q.after hb⟩
theorem Rdr.alloc {w : World} {g k : Nat} (h : Rdr w g k) (o : Obj) : Rdr (w.alloc o) g k := h.up (by go_grown)
theorem Rdr.drew {w : World} {g k : Nat} (h : Rdr w g k) : Rdr w.drew g k := h.up (by go_grown)
theorem Rdr.drews {w : World} {g k : Nat} (h : Rdr w g k) (q : Nat) : Rdr (w.drewN q) g k := h
theorem grown_drews {w w' : World} {row : Option Nat} (h : w.grownBy w' row) (q : Nat) : w.grownBy (w'.drewN q) row := ⟨h.os, h.tape, h.output, h.size, h.block⟩
theorem Rdr.more {w : World} {g k k' : Nat} (h : Rdr w g k) (hk : k ≤ k') : Rdr w g k' := by
  obtain ⟨A, c, bs, j, h1, h2, h3, h4, q⟩ := h
  exact ⟨A, c, bs, j, by omega, h2, h3, h4, q⟩
theorem Rdr.far {w : World} {g k : Nat} (h : Rdr w g k) {p : Addr} (hp : g < p.block) (u : Value) : Rdr (w.setCell p u) g k := by
  obtain ⟨A, c, bs, j, h1, h2, h3, h4, q⟩ := h
  refine ⟨A, c, bs, j, h1, h2, h3, h4.below (B := g) ?_, q.far (by omega) u⟩
  exact (Below.refl g w).setCell (by omega) u
/-- The world behind a draw: only the reader's block is turned, below it nothing. -/
theorem grown_low {w w' : World} {g B : Nat} (h : w.grownBy w' (some g)) (hg : B ≤ g) (hB : B ≤ w.heap.size) : Below B w w' :=
  (Below.refl B w).grown h hB fun k hk => by cases hk; exact hg
theorem open_any (A : Option Addr) (c : Nat) (bs : List Int) (w : World) (hk : bs.length ≤ c) (hm : c ≤ maxLen) (hb : ∀ b ∈ bs, (Lit.int .u8 b).wf = true) (hr : Rd w w.heap.size A (bc bs)) :
    Calls Tryd.prog 73 #[.slice A bs.length c] w fun e w' => e = .returned (.pointer (some ⟨w.heap.size, 0, none⟩)) ∧ Rdr w' w.heap.size 0 ∧ Below w.heap.size w w' := by
  have hb' : ∀ b ∈ bs, 0 ≤ b ∧ b < 256 := by
    intro b h
    have := hb b h
    simp [Lit.wf, IntKind.min, IntKind.max, IntKind.signed, IntKind.bits] at this
    omega
  have HB := hide hb'
  clear hb hb'
  unfold maxLen at hm
  by_cases hl : 2000 < bs.length
  · have h1 : (2000 : Int) ≤ (c : Int) := by omega
    go_enter Tryd.func73, Tryd.ntmps73
    go_wp2
    go_ret
    refine ⟨rfl, ⟨A, c, bs.take 2000, 0, Nat.le_refl _, by simp; omega, fun b h => HB.out b (List.mem_of_mem_take h), (hr.bytes_take 2000).below (by go_grown), ?_⟩, by go_grown⟩
    have := Row.new w 95 #[.slice A 2000 c, .int .i64 0]
    rw [List.length_take, Nat.min_eq_left (by omega)]
    simpa using this
  · go_enter Tryd.func73, Tryd.ntmps73
    go_wp2
    go_ret
    refine ⟨rfl, ⟨A, c, bs, 0, Nat.le_refl _, by omega, HB.out, hr.below (by go_grown), ?_⟩, by go_grown⟩
    have := Row.new w 95 #[.slice A bs.length c, .int .i64 0]
    simpa using this
theorem bits_xor_i64 (a b : Nat) (ha : a < 4611686018427387904) (hb : b < 4611686018427387904) : bits .xor .i64 (a : Int) (b : Int) = ((a ^^^ b : Nat) : Int) := by
  have hx : a ^^^ b < 2 ^ 62 := Nat.xor_lt_two_pow (by omega) (by omega)
  have h1 : (BitVec.ofInt 64 (a : Int)).toNat = a := by
    rw [BitVec.ofInt_natCast, BitVec.toNat_ofNat]; exact Nat.mod_eq_of_lt (by omega)
  have h2 : (BitVec.ofInt 64 (b : Int)).toNat = b := by
    rw [BitVec.ofInt_natCast, BitVec.toNat_ofNat]; exact Nat.mod_eq_of_lt (by omega)
  show IntKind.i64.wrap ((BitVec.ofInt 64 (a : Int) ^^^ BitVec.ofInt 64 (b : Int)).toNat : Int) = _
  rw [BitVec.toNat_xor, h1, h2]
  rw [IntKind.wrap_i64]
  omega
theorem xorShift_pos (X : Int) (h0 : 0 ≤ X) (h1 : X ≤ 1000000000) : 0 ≤ bits .xor .i64 X (X / 64) := by
  obtain ⟨a, rfl⟩ := Int.eq_ofNat_of_zero_le h0
  have d : ((a : Int) / (64 : Int)) = ((a / 64 : Nat) : Int) := by omega
  rw [d, bits_xor_i64 _ _ (by omega) (by omega)]
  omega
theorem pick_any (g k : Nat) (n : Int) (w : World) (hn : 1 ≤ n) (hn1 : n ≤ 1048576) (hk : k ≤ 1048576) (hR : Rdr w g k) :
    Calls Tryd.prog 74 #[.pointer (some ⟨g, 0, none⟩), .int .i64 n] w fun e w' => ∃ x : Int, e = .returned (.int .i64 x) ∧ 0 ≤ x ∧ x < n ∧ Rdr w' g (k + 1) ∧ w.grownBy w' (some g) := by
  obtain ⟨A, c, bs, j, h1, h2, h3, h4, q⟩ := hR
  obtain ⟨c0, c1⟩ := (⟨q.cell (j := 0) (by simp), q.cell (j := 1) (by simp)⟩ : w.cell? ⟨g, 0, none⟩ = some (.slice A bs.length c) ∧ w.cell? ⟨g, 1, none⟩ = some (.int .i64 (j : Int)))
  have f1 := q.frozen 1
  have q2 : Row (w.setCell ⟨g, 1, none⟩ (.int .i64 ((j : Int) + 1))) g 95 [.slice A bs.length c, .int .i64 ((j : Int) + 1)] := by simpa using q.set 1 (.int .i64 ((j : Int) + 1))
  have bel : Below g w (w.setCell ⟨g, 1, none⟩ (.int .i64 ((j : Int) + 1))) := (Below.refl g w).setCell (by simp) _
  have hr2 := h4.below bel
  have hR2 : Rdr (w.setCell ⟨g, 1, none⟩ (.int .i64 ((j : Int) + 1))) g (k + 1) := ⟨A, c, bs, j + 1, by omega, h2, h3, hr2, by simpa using q2⟩
  have hG := grown_set w ⟨g, 1, none⟩ (.int .i64 ((j : Int) + 1))
  have HR := hide hR2
  have HG := hide hG
  have H3 := hide h3
  obtain ⟨d0, d1⟩ := (⟨q2.cell (j := 0) (by simp), q2.cell (j := 1) (by simp)⟩ : (w.setCell ⟨g, 1, none⟩ (.int .i64 ((j : Int) + 1))).cell? ⟨g, 0, none⟩ = some (.slice A bs.length c) ∧ (w.setCell ⟨g, 1, none⟩ (.int .i64 ((j : Int) + 1))).cell? ⟨g, 1, none⟩ = some (.int .i64 ((j : Int) + 1)))
  clear hR2 hG h3 bel q2 q
  have tn : decide (n < 1) = false := by simp; omega
  by_cases hz : bs.length = 0
  · rw [hz] at c0 d0
    go_enter Tryd.func74, Tryd.ntmps74
    go_wp2
    go_ret
    exact ⟨0, rfl, by omega, by omega, HR.out, HG.out⟩
  · have tz : (((bs.length : Nat) : Int) == 0) = false := beq_false_of_ne (by omega)
    by_cases hlt : j < bs.length
    · obtain ⟨b, o, rfl, hb, hc⟩ := hr2.byte hlt
      have hv := H3.out _ (List.getElem_mem hlt)
      generalize bs[j] = v at *
      have m0 : 0 ≤ v % n := Int.emod_nonneg _ (by omega)
      have m1 : v % n < n := Int.emod_lt_of_pos _ (by omega)
      go_enter Tryd.func74, Tryd.ntmps74
      go_wp2
      go_ret
      exact ⟨_, rfl, m0, m1, HR.out, HG.out⟩
    · have hlp : 0 < bs.length := by omega
      have i1 : j % bs.length < bs.length := Nat.mod_lt _ hlp
      have i2 : (j * 7 + 3) % bs.length < bs.length := Nat.mod_lt _ hlp
      obtain ⟨b, o, rfl, hb, hc⟩ := hr2.byte i1
      obtain ⟨b', o', hA, hb', hc'⟩ := hr2.byte i2
      cases hA
      have hv := H3.out _ (List.getElem_mem i1)
      have hu := H3.out _ (List.getElem_mem i2)
      generalize bs[j % bs.length] = v at *
      generalize bs[(j * 7 + 3) % bs.length] = u at *
      obtain ⟨m1, e1, a0, a1⟩ : ∃ m : Nat, (j : Int).tmod (bs.length : Int) = (m : Int) ∧ m = j % bs.length ∧ m < bs.length :=
        ⟨j % bs.length, by rw [Int.tmod_eq_emod_of_nonneg (by omega), Int.natCast_emod], rfl, i1⟩
      obtain ⟨m2, e2, a2, a3⟩ : ∃ m : Nat, ((j : Int) * 7 + 3).tmod (bs.length : Int) = (m : Int) ∧ m = (j * 7 + 3) % bs.length ∧ m < bs.length :=
        ⟨(j * 7 + 3) % bs.length, by rw [Int.tmod_eq_emod_of_nonneg (by omega), Int.natCast_emod]; rfl, rfl, i2⟩
      obtain ⟨m3, e3, a4⟩ : ∃ m : Nat, (j : Int).tdiv (bs.length : Int) = (m : Int) ∧ m ≤ j :=
        ⟨j / bs.length, by rw [Int.tdiv_eq_ediv_of_nonneg (by omega), Int.natCast_ediv], Nat.div_le_self _ _⟩
      rw [← a0] at hc
      rw [← a2] at hc'
      have b0 : (0 : Int) ≤ (m1 : Int) := by omega
      have b1 : (m1 : Int) < (bs.length : Int) := by omega
      have b2 : (0 : Int) ≤ (m2 : Int) := by omega
      have b3 : (m2 : Int) < (bs.length : Int) := by omega
      clear a0 a2 i1 i2 h4 hr2 hb hb'
      go_enter Tryd.func74, Tryd.ntmps74
      go_wp2
      go_quiet (fail)
      clear hc hc' c0 c1 d0 d1 f1
      generalize hX : v * 131 + u * 1117 + (j : Int) * 29 + (m3 : Int) * 53 = X
      have x0 : 0 ≤ X := by omega
      have x1 : X ≤ 1000000000 := by omega
      clear hX
      have x2 := xorShift_pos X x0 x1
      go_wp2
      go_ret
      refine ⟨_, rfl, Int.emod_nonneg _ (by omega), Int.emod_lt_of_pos _ (by omega), ?_, ?_⟩
      · exact HR.out.drews _
      · exact grown_drews HG.out _
end Go.Proofs.YtcdoopccmljaoaaDoor
