/- When the last slab leaves a furnace, the program's and the reference's. Conditions: valid slabs and a valid furnace. -/
import Derived.Test.YtcdoopccmljaoaaDoorPassS
namespace Go.Proofs.YtcdoopccmljaoaaDoor
open Go.ChangeShapes Go.WideShapes Go.ChangeAt Go.RowKit Go.Deep
theorem passEnd_zero {R : Nat} {z : Int} {zs : List (Int × Int)} (h : zs.length = 0) : passEnd R z zs = 0 := by unfold passEnd; rw [if_pos h]
theorem passEnd_last {R n : Nat} {z : Int} {zs : List (Int × Int)} (h : zs.length = n + 1) : passEnd R z zs = ((passUp R z zs zs.length).getD n (0, 0)).2 := by
  unfold passEnd; rw [if_neg (by omega), h, Nat.add_sub_cancel]
theorem Rd.pairD {w : World} {B : Nat} {A : Option Addr} {zs : List (Int × Int)} (h : Rd w B A (sc zs)) {k : Nat} (hk : k < zs.length) :
    ∃ b o, A = some ⟨b, o, none⟩ ∧ b < B ∧ w.cell? ⟨b, o + k * 2, none⟩ = some (.int .i64 (zs.getD k (0, 0)).1) ∧ w.cell? ⟨b, o + k * 2 + 1, none⟩ = some (.int .i64 (zs.getD k (0, 0)).2) := by
  obtain ⟨b, o, h1, h2, h3, h4⟩ := h.pair hk
  have e : zs.getD k (0, 0) = zs[k] := by rw [List.getD_eq_getElem?_getD, List.getElem?_eq_getElem hk]; rfl
  rw [e]; exact ⟨b, o, h1, h2, h3, h4⟩
set_option linter.unusedSimpArgs false in
set_option linter.unusedVariables false in
set_option maxRecDepth 100000 in
theorem passEnd_any (A : Option Addr) (c : Nat) (zs : List (Int × Int)) (R : Nat) (z : Int) (w : World) (hv : chargesValid zs = true) (hf : furnaceValid (R : Int) z = true) (hr : Rd w w.heap.size A (sc zs)) :
    Calls Tryd.prog 72 #[.slice A zs.length c, .agg #[.int .i64 (R : Int), .int .i64 z]] w fun e w' => e = .returned (.int .i64 (passEnd R z zs)) ∧ Below w.heap.size w w' := by
  obtain ⟨hl8, _⟩ := charges_at hv
  have HP := hide (fun w hr => passTimes_any A c zs R z w hv hf hr)
  have HPL := passUp_len R z zs zs.length
  go_enter Tryd.func72, Tryd.ntmps72
  have qF := Row.new w 65 #[.int .i64 (R : Int), .int .i64 z]
  have b0 : Below w.heap.size w (w.alloc (.cells #[.int .i64 (R : Int), .int .i64 z] 65)) := by go_grown
  replace hr := hr.up b0
  go_wp2_with fail
  generalize w.alloc (.cells #[.int .i64 (R : Int), .int .i64 z] 65) = w1 at *
  refine (chargesValid_any A c zs w1 (by omega) hr).mono ?_
  rw [hv]
  rintro e w2 ⟨rfl, b1⟩
  replace qF := qF.after b1
  replace hr := hr.up b1
  replace b0 := via b0 b1 b0.size
  obtain ⟨k0, k1, _, _⟩ := pcells qF
  clear b1
  go_wp2_with fail
  refine (furnaceValid_any (R : Int) z w2).mono ?_
  rw [hf]
  rintro e w3 ⟨rfl, hw3⟩
  have b1 : Below w2.heap.size w2 w3 := by rw [← hw3]; go_grown
  replace qF := qF.after b1
  replace hr := hr.up b1
  replace b0 := via b0 b1 b0.size
  clear b1 hw3 k0 k1
  obtain ⟨k0, k1, _, _⟩ := pcells qF
  by_cases h0 : zs.length = 0
  · have he := hide (passEnd_zero (R := R) (z := z) h0)
    have t0 : ((zs.length : Int) == 0) = true := by rw [h0]; rfl
    go_wp2
    go_ret
    exact ⟨ret_int he.out.symm, b0⟩
  · obtain ⟨n, hn⟩ : ∃ n, zs.length = n + 1 := ⟨zs.length - 1, by omega⟩
    have hn8 : n ≤ 7 := by omega
    have he := hide (passEnd_last (R := R) (z := z) hn)
    have t0 : ((n : Int) + 1 == 0) = false := beq_false_of_ne (by omega)
    rw [hn] at HPL he HP
    rw [hn]
    generalize passUp R z zs (n + 1) = P at *
    clear hn
    go_wp2_with fail
    refine (HP.out w3 hr).mono ?_
    rintro e w4 ⟨Ap, cp, rfl, rp, b4⟩
    obtain ⟨b, o, rfl, _, _, c4⟩ := rp.pairD (k := n) (by omega)
    have hb := via b0 b4 b0.size
    generalize P.getD n (0, 0) = x at *
    have i0 : (0 : Int) ≤ (n : Int) := by omega
    have i1 : (n : Int) < (n : Int) + 1 := by omega
    rw [HPL]
    go_wp2
    go_ret
    exact ⟨ret_int he.out.symm, hb⟩
set_option linter.unusedSimpArgs false in
set_option linter.unusedVariables false in
set_option maxRecDepth 100000 in
theorem passEnd_spec (A : Option Addr) (c : Nat) (zs : List (Int × Int)) (R : Nat) (z : Int) (w : World) (hv : chargesValid zs = true) (hf : furnaceValid (R : Int) z = true) (hr : Rd w w.heap.size A (sc zs)) :
    Calls Tryd.prog 108 #[.slice A zs.length c, .agg #[.int .i64 (R : Int), .int .i64 z]] w fun e w' => e = .returned (.int .i64 (passEnd R z zs)) ∧ Below w.heap.size w w' := by
  obtain ⟨hl8, _⟩ := charges_at hv
  have HP := hide (fun w hr => passTimes_spec A c zs R z w hv hf hr)
  have HPL := passUp_len R z zs zs.length
  go_enter Tryd.func108, Tryd.ntmps108
  have qF := Row.new w 65 #[.int .i64 (R : Int), .int .i64 z]
  have b0 : Below w.heap.size w (w.alloc (.cells #[.int .i64 (R : Int), .int .i64 z] 65)) := by go_grown
  replace hr := hr.up b0
  go_wp2_with fail
  generalize w.alloc (.cells #[.int .i64 (R : Int), .int .i64 z] 65) = w1 at *
  refine (chargesValid_spec A c zs w1 (by omega) hr).mono ?_
  rw [hv]
  rintro e w2 ⟨rfl, b1⟩
  replace qF := qF.after b1
  replace hr := hr.up b1
  replace b0 := via b0 b1 b0.size
  obtain ⟨k0, k1, _, _⟩ := pcells qF
  clear b1
  go_wp2_with fail
  refine (furnaceValid_spec (R : Int) z w2).mono ?_
  rw [hf]
  rintro e w3 ⟨rfl, hw3⟩
  have b1 : Below w2.heap.size w2 w3 := by rw [← hw3]; go_grown
  replace qF := qF.after b1
  replace hr := hr.up b1
  replace b0 := via b0 b1 b0.size
  clear b1 hw3 k0 k1
  obtain ⟨k0, k1, _, _⟩ := pcells qF
  go_wp2_with fail
  refine (HP.out w3 hr).mono ?_
  rintro e w4 ⟨Ap, cp, rfl, rp, b4⟩
  by_cases h0 : zs.length = 0
  · have he := hide (passEnd_zero (R := R) (z := z) h0)
    rw [HPL, h0]
    have hb := via b0 b4 b0.size
    go_wp2
    go_ret
    exact ⟨ret_int he.out.symm, hb⟩
  · obtain ⟨n, hn⟩ : ∃ n, zs.length = n + 1 := ⟨zs.length - 1, by omega⟩
    have hn8 : n ≤ 7 := by omega
    have he := hide (passEnd_last (R := R) (z := z) hn)
    rw [hn] at HPL
    rw [hn] at he rp
    rw [hn]
    generalize passUp R z zs (n + 1) = P at *
    obtain ⟨b, o, rfl, _, _, c4⟩ := rp.pairD (k := n) (by omega)
    have hb := via b0 b4 b0.size
    generalize P.getD n (0, 0) = x at *
    have i0 : (0 : Int) ≤ (n : Int) := by omega
    have i1 : (n : Int) < (n : Int) + 1 := by omega
    rw [HPL]
    go_wp2
    go_ret
    exact ⟨ret_int he.out.symm, hb⟩
end Go.Proofs.YtcdoopccmljaoaaDoor
