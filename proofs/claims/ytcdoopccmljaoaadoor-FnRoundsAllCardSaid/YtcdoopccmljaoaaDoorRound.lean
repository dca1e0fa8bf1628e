/- What follows and RoundOk compute, the program's and the reference's. No conditions but valid sheets, indices in range and bounds on lengths. -/
import Derived.Test.YtcdoopccmljaoaaDoorSheets
import Derived.Test.YtcdoopccmljaoaaDoorHas
namespace Go.Proofs.YtcdoopccmljaoaaDoor
open Go.ChangeShapes Go.WideShapes Go.ChangeAt Go.RowKit Go.Deep

/-- Sheet i of a list. -/
def sh (zs : List (Int × Int)) (i : Nat) : Int × Int := zs.getD i (0, 0)
theorem sh_get {zs : List (Int × Int)} {i : Nat} (h : i < zs.length) : zs[i] = sh zs i := by simp [sh, h]
def mayFol (zs : List (Int × Int)) (j k : Int) (a b : Nat) : Bool := jumpMay (sh zs a).1 (sh zs a).2 (sh zs b).1 (sh zs b).2 j k
/-- In a round sheet b can be directly behind sheet a. -/
def fol (zs : List (Int × Int)) (j k : Int) (a b : Nat) : Bool := mayFol zs j k a b && (decide ((sh zs b).1 < (sh zs a).1) || decide (a < b))
theorem Rd.sheet {w : World} {B : Nat} {A : Option Addr} {zs : List (Int × Int)} (h : Rd w B A (sc zs)) {i : Nat} (hi : i < zs.length) :
    ∃ b o, A = some ⟨b, o, none⟩ ∧ b < B ∧ w.cell? ⟨b, o + i * 2, none⟩ = some (.int .i64 (sh zs i).1) ∧ w.cell? ⟨b, o + i * 2 + 1, none⟩ = some (.int .i64 (sh zs i).2) := by
  have := h.pair hi
  rwa [sh_get hi] at this
/-- Two sheets of one list. -/
theorem Rd.sheets {w : World} {B : Nat} {A : Option Addr} {zs : List (Int × Int)} (h : Rd w B A (sc zs)) {x y : Nat} (hx : x < zs.length) (hy : y < zs.length) :
    ∃ b o, A = some ⟨b, o, none⟩ ∧ b < B ∧ (w.cell? ⟨b, o + x * 2, none⟩ = some (.int .i64 (sh zs x).1) ∧ w.cell? ⟨b, o + x * 2 + 1, none⟩ = some (.int .i64 (sh zs x).2)) ∧
      (w.cell? ⟨b, o + y * 2, none⟩ = some (.int .i64 (sh zs y).1) ∧ w.cell? ⟨b, o + y * 2 + 1, none⟩ = some (.int .i64 (sh zs y).2)) := by
  obtain ⟨b, o, hA, hb, h1⟩ := h.sheet hx
  obtain ⟨b', o', hA', _, h2⟩ := h.sheet hy
  rw [hA] at hA'
  injection hA' with e
  injection e with e1 e2
  subst e1 e2
  exact ⟨b, o, hA, hb, h1, h2⟩

set_option maxHeartbeats 800000 in
theorem follows_any (A : Option Addr) (c : Nat) (zs : List (Int × Int)) (j k : Int) (x y : Nat) (w : World) (hx : x < zs.length) (hy : y < zs.length) (hr : Rd w w.heap.size A (sc zs)) :
    Calls Tryd.prog 84 #[.slice A zs.length c, .agg #[.int .i64 j, .int .i64 k], .int .i64 (x : Int), .int .i64 (y : Int)] w fun e w' => e = .returned (.bool (fol zs j k x y)) ∧ Below w.heap.size w w' := by
  obtain ⟨b, o, hA, hb, ⟨c1, c2⟩, c3, c4⟩ := hr.sheets hx hy
  subst hA
  clear hr
  have hB := (Below.refl w.heap.size w).alloc (Nat.le_refl _) (.cells #[.int .i64 j, .int .i64 k] 32)
  have d1 := Ext.old (later hB (p := ⟨b, o + x * 2, none⟩) hb c1)
  have d2 := Ext.old (later hB (p := ⟨b, o + x * 2 + 1, none⟩) hb c2)
  have d3 := Ext.old (later hB (p := ⟨b, o + y * 2, none⟩) hb c3)
  have d4 := Ext.old (later hB (p := ⟨b, o + y * 2 + 1, none⟩) hb c4)
  have d5 := Ext.old (w := w.alloc (.cells #[.int .i64 j, .int .i64 k] 32)) (b := w.heap.size) (o := 0) (v := .int .i64 j) (by simp [go_sem])
  have d6 := Ext.old (w := w.alloc (.cells #[.int .i64 j, .int .i64 k] 32)) (b := w.heap.size) (o := 1) (v := .int .i64 k) (by simp [go_sem])
  clear c1 c2 c3 c4
  have i0 : (0 : Int) ≤ (x : Int) := by omega
  have i1 : (x : Int) < (zs.length : Int) := by omega
  have i2 : (0 : Int) ≤ (y : Int) := by omega
  have i3 : (y : Int) < (zs.length : Int) := by omega
  cases hm : jumpMay (sh zs x).1 (sh zs x).2 (sh zs y).1 (sh zs y).2 j k
  · have HF := hide (show fol zs j k x y = false by simp [fol, mayFol, hm])
    go_enter Tryd.func84, Tryd.ntmps84
    go_wp2
    refine wp_region_ext (by kernel_rfl) (by kernel_rfl) ?_
    repeat (go_big_quiet_step ((go_at_call 36; refine ext_of (v := .bool false) ?_ (jumpMay_any _ _ _ _ _ _ _); simp [hm])))
    refine wpQuiet_nil ?_
    intro _ hw'
    obtain ⟨⟨wn, hbn⟩, hw''⟩ := hw'
    subst hw''
    have hbw := via hB hbn hB.size
    go_wp2
    go_ret
    exact ⟨ret_bool HF.out.symm, hbw⟩
  · by_cases hw : (sh zs y).1 < (sh zs x).1
    · have hd : decide ((sh zs y).1 < (sh zs x).1) = true := by simpa using hw
      have HF := hide (show fol zs j k x y = true by simp [fol, mayFol, hm, hw])
      clear hw
      go_enter Tryd.func84, Tryd.ntmps84
      go_wp2
      refine wp_region_ext (by kernel_rfl) (by kernel_rfl) ?_
      repeat (go_big_quiet_step ((go_at_call 36; refine ext_of (v := .bool true) ?_ (jumpMay_any _ _ _ _ _ _ _); simp [hm])))
      refine wpQuiet_nil ?_
      intro _ hw'
      obtain ⟨⟨wn, hbn⟩, hw''⟩ := hw'
      subst hw''
      have hbw := via hB hbn hB.size
      go_wp2
      go_ret
      exact ⟨ret_bool HF.out.symm, hbw⟩
    · have hd : decide ((sh zs y).1 < (sh zs x).1) = false := by simpa using hw
      have HF := hide (show fol zs j k x y = decide ((x : Int) < (y : Int)) by simp [fol, mayFol, hm, hw])
      clear hw
      go_enter Tryd.func84, Tryd.ntmps84
      go_wp2
      refine wp_region_ext (by kernel_rfl) (by kernel_rfl) ?_
      repeat (go_big_quiet_step ((go_at_call 36; refine ext_of (v := .bool true) ?_ (jumpMay_any _ _ _ _ _ _ _); simp [hm])))
      refine wpQuiet_nil ?_
      intro _ hw'
      obtain ⟨⟨wn, hbn⟩, hw''⟩ := hw'
      subst hw''
      have hbw := via hB hbn hB.size
      go_wp2
      go_ret
      exact ⟨ret_bool (by rw [HF.out]; simp), hbw⟩
set_option maxHeartbeats 800000 in
theorem l5After_any (A : Option Addr) (c : Nat) (zs : List (Int × Int)) (j k : Int) (x y : Nat) (w : World) (hx : x < zs.length) (hy : y < zs.length) (hr : Rd w w.heap.size A (sc zs)) :
    Calls Tryd.prog 86 #[.slice A zs.length c, .agg #[.int .i64 j, .int .i64 k], .int .i64 (x : Int), .int .i64 (y : Int)] w fun e w' => e = .returned (.bool (fol zs j k x y)) ∧ Below w.heap.size w w' := by
  obtain ⟨b, o, hA, hb, ⟨c1, c2⟩, c3, c4⟩ := hr.sheets hx hy
  subst hA
  clear hr
  have hB := (Below.refl w.heap.size w).alloc (Nat.le_refl _) (.cells #[.int .i64 j, .int .i64 k] 32)
  have d1 := Ext.old (later hB (p := ⟨b, o + x * 2, none⟩) hb c1)
  have d2 := Ext.old (later hB (p := ⟨b, o + x * 2 + 1, none⟩) hb c2)
  have d3 := Ext.old (later hB (p := ⟨b, o + y * 2, none⟩) hb c3)
  have d4 := Ext.old (later hB (p := ⟨b, o + y * 2 + 1, none⟩) hb c4)
  have d5 := Ext.old (w := w.alloc (.cells #[.int .i64 j, .int .i64 k] 32)) (b := w.heap.size) (o := 0) (v := .int .i64 j) (by simp [go_sem])
  have d6 := Ext.old (w := w.alloc (.cells #[.int .i64 j, .int .i64 k] 32)) (b := w.heap.size) (o := 1) (v := .int .i64 k) (by simp [go_sem])
  clear c1 c2 c3 c4
  have i0 : (0 : Int) ≤ (x : Int) := by omega
  have i1 : (x : Int) < (zs.length : Int) := by omega
  have i2 : (0 : Int) ≤ (y : Int) := by omega
  have i3 : (y : Int) < (zs.length : Int) := by omega
  cases hm : jumpMay (sh zs x).1 (sh zs x).2 (sh zs y).1 (sh zs y).2 j k
  · have HF := hide (show fol zs j k x y = false by simp [fol, mayFol, hm])
    go_enter Tryd.func86, Tryd.ntmps86
    go_wp2
    refine wp_region_ext (by kernel_rfl) (by kernel_rfl) ?_
    repeat (go_big_quiet_step ((go_at_call 37; refine ext_of (v := .bool false) ?_ (jumpMay_spec _ _ _ _ _ _ _); simp [hm])))
    refine wpQuiet_nil ?_
    intro _ hw'
    obtain ⟨⟨wn, hbn⟩, hw''⟩ := hw'
    subst hw''
    have hbw := via hB hbn hB.size
    go_wp2
    go_ret
    exact ⟨ret_bool HF.out.symm, hbw⟩
  · by_cases hw : (sh zs y).1 < (sh zs x).1
    · have hd : decide ((sh zs y).1 < (sh zs x).1) = true := by simpa using hw
      have HF := hide (show fol zs j k x y = true by simp [fol, mayFol, hm, hw])
      clear hw
      go_enter Tryd.func86, Tryd.ntmps86
      go_wp2
      refine wp_region_ext (by kernel_rfl) (by kernel_rfl) ?_
      repeat (go_big_quiet_step ((go_at_call 37; refine ext_of (v := .bool true) ?_ (jumpMay_spec _ _ _ _ _ _ _); simp [hm])))
      refine wpQuiet_nil ?_
      intro _ hw'
      obtain ⟨⟨wn, hbn⟩, hw''⟩ := hw'
      subst hw''
      have hbw := via hB hbn hB.size
      go_wp2
      go_ret
      exact ⟨ret_bool HF.out.symm, hbw⟩
    · have hd : decide ((sh zs y).1 < (sh zs x).1) = false := by simpa using hw
      have HF := hide (show fol zs j k x y = decide ((x : Int) < (y : Int)) by simp [fol, mayFol, hm, hw])
      clear hw
      go_enter Tryd.func86, Tryd.ntmps86
      go_wp2
      refine wp_region_ext (by kernel_rfl) (by kernel_rfl) ?_
      repeat (go_big_quiet_step ((go_at_call 37; refine ext_of (v := .bool true) ?_ (jumpMay_spec _ _ _ _ _ _ _); simp [hm])))
      refine wpQuiet_nil ?_
      intro _ hw'
      obtain ⟨⟨wn, hbn⟩, hw''⟩ := hw'
      subst hw''
      have hbw := via hB hbn hB.size
      go_wp2
      go_ret
      exact ⟨ret_bool (by rw [HF.out]; simp), hbw⟩

/-- What RoundOk asks at place i. -/
def okAt (zs : List (Int × Int)) (j k : Int) (r : List Int) (i : Nat) : Bool :=
  inR (r.getD i 0) 0 ((zs.length : Int) - 1) && (decide (i = 0) || fol zs j k (r.getD (i - 1) 0).toNat (r.getD i 0).toNat)
def roundOk (zs : List (Int × Int)) (j k : Int) (r : List Int) : Bool := sheetsValid zs && (jumpValid j k && (List.range r.length).all (okAt zs j k r))
section
variable {zs : List (Int × Int)} {j k : Int} {r : List Int}
theorem roundOk_no {i : Nat} (h : i < r.length) (ho : okAt zs j k r i = false) : roundOk zs j k r = false := by
  cases e : roundOk zs j k r
  · rfl
  · simp only [roundOk, Bool.and_eq_true, List.all_eq_true, List.mem_range] at e
    rw [e.2.2 i h] at ho; cases ho
theorem roundOk_yes (h1 : sheetsValid zs = true) (h2 : jumpValid j k = true) (h : ∀ i, i < r.length → okAt zs j k r i = true) : roundOk zs j k r = true := by
  simp only [roundOk, Bool.and_eq_true, List.all_eq_true, List.mem_range]
  exact ⟨h1, h2, h⟩
theorem ok_succ {m : Nat} (h : ∀ i, i < m → okAt zs j k r i = true) (h' : okAt zs j k r m = true) : ∀ i, i < m + 1 → okAt zs j k r i = true := by
  intro i hi
  rcases Nat.lt_succ_iff_lt_or_eq.1 hi with h1 | h1
  · exact h i h1
  · rw [h1]; exact h'
/-- The order in which sheets stand in a round. -/
def Bef (zs : List (Int × Int)) (a b : Nat) : Prop := (sh zs b).1 < (sh zs a).1 ∨ ((sh zs b).1 = (sh zs a).1 ∧ a < b)
theorem Bef.trans {a b c : Nat} (h : Bef zs a b) (h' : Bef zs b c) : Bef zs a c := by unfold Bef at *; omega
theorem Bef.irrefl {a : Nat} : ¬ Bef zs a a := by unfold Bef; omega
theorem mayFol_wide {a b : Nat} (h : mayFol zs j k a b = true) : (sh zs b).1 ≤ (sh zs a).1 := by
  simp only [mayFol, jumpMay, Bool.and_eq_true, inR_iff] at h
  omega
theorem fol_bef {a b : Nat} (h : fol zs j k a b = true) : Bef zs a b := by
  simp only [fol, Bool.and_eq_true, Bool.or_eq_true, decide_eq_true_eq] at h
  have := mayFol_wide h.1
  unfold Bef; omega
theorem ok_fol {i : Nat} (h : okAt zs j k r (i + 1) = true) : fol zs j k (r.getD i 0).toNat (r.getD (i + 1) 0).toNat = true := by
  simpa [okAt] using (Bool.and_eq_true_iff.1 h).2
theorem ok_bef (d : Nat) : ∀ i, (∀ t, i < t → t ≤ i + d + 1 → okAt zs j k r t = true) → Bef zs (r.getD i 0).toNat (r.getD (i + d + 1) 0).toNat := by
  induction d with
  | zero => intro i h; exact fol_bef (ok_fol (h (i + 1) (by omega) (by omega)))
  | succ d ih =>
    intro i h
    exact (ih i (fun t h1 h2 => h t h1 (by omega))).trans (fol_bef (ok_fol (h (i + d + 1 + 1) (by omega) (by omega))))
theorem ok_apart {m : Nat} (hm : m < r.length) (h : ∀ i, i < m → okAt zs j k r i = true) (hin : r[m] ∈ r.take m) : okAt zs j k r m = false := by
  cases e : okAt zs j k r m
  · rfl
  · obtain ⟨i, hi, he⟩ := List.mem_iff_getElem.1 hin
    have hi' : i < m := by simp at hi; omega
    rw [List.getElem_take] at he
    have := ok_bef (zs := zs) (j := j) (k := k) (r := r) (m - i - 1) i (fun t h1 h2 => by
      rcases Nat.lt_or_ge t m with h3 | h3
      · exact h t h3
      · rw [show t = m by omega]; exact e)
    rw [show i + (m - i - 1) + 1 = m by omega] at this
    have e1 : r.getD i 0 = r.getD m 0 := by simp [List.getD, List.getElem?_eq_getElem (show i < r.length by omega), List.getElem?_eq_getElem hm, he]
    rw [e1] at this
    exact absurd this Bef.irrefl
end

set_option maxHeartbeats 1600000 in
theorem roundOk_any (A A' : Option Addr) (c c' : Nat) (zs : List (Int × Int)) (j k : Int) (r : List Int) (w : World) (hn : zs.length ≤ 1099511627776) (hn' : r.length ≤ 1099511627776) (hr : Rd w w.heap.size A (sc zs)) (hr' : Rd w w.heap.size A' (ic r)) (hc' : r.length ≤ c') :
    Calls Tryd.prog 60 #[.slice A zs.length c, .agg #[.int .i64 j, .int .i64 k], .slice A' r.length c'] w fun e w' => e = .returned (.bool (roundOk zs j k r)) ∧ Below w.heap.size w w' := by
  go_enter Tryd.func60, Tryd.ntmps60
  go_wp2_with fail
  have hW0 : Below w.heap.size w (w.alloc (.cells #[.int .i64 j, .int .i64 k] 32)) := by go_grown
  have hz0 : w.heap.size < (w.alloc (.cells #[.int .i64 j, .int .i64 k] 32)).heap.size := by simp
  have s0 : (w.alloc (.cells #[.int .i64 j, .int .i64 k] 32)).cell? ⟨w.heap.size, 0, none⟩ = some (.int .i64 j) := by simp [go_sem]
  have s1 : (w.alloc (.cells #[.int .i64 j, .int .i64 k] 32)).cell? ⟨w.heap.size, 1, none⟩ = some (.int .i64 k) := by simp [go_sem]
  generalize w.alloc (.cells #[.int .i64 j, .int .i64 k] 32) = w0 at *
  refine (sheetsValid_any _ _ zs w0 hn (hr.up hW0)).mono ?_
  rintro e w1 ⟨rfl, b1⟩
  have bw1 := via hW0 b1 (by omega)
  have t0 := later b1 (p := ⟨w.heap.size, 0, none⟩) hz0 s0
  have t1 := later b1 (p := ⟨w.heap.size, 1, none⟩) hz0 s1
  clear s0 s1
  cases hsv : sheetsValid zs
  · have HF := hide (show roundOk zs j k r = false by simp [roundOk, hsv])
    go_wp2
    go_ret
    exact ⟨ret_bool HF.out.symm, bw1⟩
  · go_wp2_with fail
    refine (jumpValid_any j k w1).mono ?_
    rintro e w' ⟨rfl, hw2⟩
    have bw2 : Below w.heap.size w w' := by rw [← hw2]; have := bw1.size; go_grown
    have u0 : w'.cell? ⟨w.heap.size, 0, none⟩ = some (.int .i64 j) := by rw [← hw2, World.cell?_alloc_past _ _ _ (by have := b1.size; omega)]; exact t0
    have u1 : w'.cell? ⟨w.heap.size, 1, none⟩ = some (.int .i64 k) := by rw [← hw2, World.cell?_alloc_past _ _ _ (by have := b1.size; omega)]; exact t1
    have hz2 : w.heap.size < w'.heap.size := by rw [← hw2]; have := b1.size; simp; omega
    clear hw2 t0 t1 b1 bw1 hW0 hz0
    cases hjv : jumpValid j k
    · have HF := hide (show roundOk zs j k r = false by simp [roundOk, hjv])
      go_wp2
      go_ret
      exact ⟨ret_bool HF.out.symm, bw2⟩
    · have HV := hide hsv
      have HJ := hide hjv
      clear hsv hjv
      go_wp2
      go_loopw [7, 8, 19] (fun _ _ i wr => ∃ m : Nat, m ≤ r.length ∧ i = .int .i64 m ∧ Hid (∀ i, i < m → okAt zs j k r i = true) ∧ Below w'.heap.size w' wr) (fun _ _ i _ => r.length - (intOf i).toNat)
      case atStart => exact ⟨0, Nat.zero_le _, rfl, fun i hi => absurd hi (Nat.not_lt_zero _), Below.refl _ _⟩
      case round =>
        obtain ⟨m, hm, rfl, HT, hbel⟩ := hrel
        have hbz := hbel.size
        have hbw := bw2.trans (hbel.mono (by omega))
        by_cases hlt : m < r.length
        · obtain ⟨b, o, hA', hb, hc⟩ := hr'.int hlt
          have hrr := hr'.up hbw
          have hrs := hr.up hbw
          subst hA'
          have c1 := later hbw (p := ⟨b, o + m, none⟩) hb hc
          have hgm : r.getD m 0 = r[m] := by simp [List.getD, List.getElem?_eq_getElem hlt]
          by_cases hin : inR r[m] 0 ((zs.length : Int) - 1) = true
          · have hib := inR_iff.1 hin
            obtain ⟨y, hy⟩ := Int.eq_ofNat_of_zero_le hib.1
            have hyl : y < zs.length := by omega
            have hlen : (r.take m).length = m := by rw [List.length_take]; omega
            have HA := hide (fun h => ok_apart (zs := zs) (j := j) (k := k) hlt HT.out h)
            have hOK : okAt zs j k r m = (decide (m = 0) || fol zs j k (r.getD (m - 1) 0).toNat y) := by
              unfold okAt; rw [hgm, hin, hy]; simp
            rw [hy] at c1 hin HA
            have HC := hide (contains_at (some ⟨b, o, none⟩) c' m (r.take m) (y : Int) wr hlen (by omega) (hrr.take m))
            have hcb : (0 : Int) ≤ (m : Int) := by omega
            have hcd : (m : Int) ≤ (c' : Int) := by omega
            by_cases hmem : (y : Int) ∈ r.take m
            · have HF := hide (roundOk_no hlt (HA.out hmem))
              rw [decide_eq_true hmem] at HC
              clear hmem hin hc hy hib hgm hOK
              have hin' : inR (y : Int) 0 ((zs.length : Int) - 1) = true := inR_mk (by omega) (by omega)
              go_wp2_with (first | (go_at_call 75; refine (within_any _ _ _ _).mono ?_; rintro e w' ⟨rfl, rfl⟩) | (go_at_call 87; refine Calls.mono HC.out ?_; rintro e w' ⟨rfl, rfl⟩))
              go_ret
              exact ⟨ret_bool HF.out.symm, hbw⟩
            · rw [decide_eq_false hmem] at HC
              have hin' : inR (y : Int) 0 ((zs.length : Int) - 1) = true := inR_mk (by omega) (by omega)
              have HN := hide hmem
              clear hmem
              by_cases hm0 : m = 0
              · have hd : decide ((0 : Int) < (m : Int)) = false := by rw [decide_eq_false_iff_not]; omega
                have hd2 : decide (0 < m) = false := by rw [decide_eq_false_iff_not]; omega
                have HY := hide (ok_succ HT.out (by rw [hOK, hm0]; rfl))
                clear hm0 hin hc hy hib hgm hOK HA
                go_wp2_with (first | (go_at_call 75; refine (within_any _ _ _ _).mono ?_; rintro e w' ⟨rfl, rfl⟩) | (go_at_call 87; refine Calls.mono HC.out ?_; rintro e w' ⟨rfl, rfl⟩))
                refine wp_region_ext (by kernel_rfl) (by kernel_rfl) ?_
                repeat (go_big_quiet_step (fail))
                refine wpQuiet_nil ?_
                intro _ hw'
                obtain ⟨⟨wn, hbn⟩, hw''⟩ := hw'
                subst hw''
                have hbw3 := via hbel hbn hbz
                go_wp2
                go_roundw
                case rel => exact ⟨m + 1, by omega, by go_num, HY, hbw3⟩
                case measure => simp [intOf]; omega
              · have hd : decide ((0 : Int) < (m : Int)) = true := by rw [decide_eq_true_eq]; omega
                have hd2 : decide (0 < m) = true := by rw [decide_eq_true_eq]; omega
                have hp := HT.out (m - 1) (by omega)
                have hg1 : r.getD (m - 1) 0 = r[m - 1]'(by omega) := by simp [List.getD, List.getElem?_eq_getElem (show m - 1 < r.length by omega)]
                have hpi := inR_iff.1 (Bool.and_eq_true_iff.1 hp).1
                obtain ⟨x, hx⟩ := Int.eq_ofNat_of_zero_le hpi.1
                have hxl : x < zs.length := by omega
                rw [hx, Int.toNat_natCast] at hOK
                obtain ⟨b2, o2, hA2, _, hc2⟩ := hrr.int (k := m - 1) (by omega)
                injection hA2 with e2
                injection e2 with e2 e3
                subst e2 e3
                rw [← hg1, hx] at hc2
                have d1 := Ext.old hc2
                have d2 := Ext.old (later hbel (p := ⟨w.heap.size, 0, none⟩) hz2 u0)
                have d3 := Ext.old (later hbel (p := ⟨w.heap.size, 1, none⟩) hz2 u1)
                have v0 : IntKind.i64.wrap ((m : Int) - 1) = (m : Int) - 1 := IntWalk.i64_in _ (by omega)
                have v1 : (0 : Int) ≤ (m : Int) - 1 := by omega
                have v2 : (m : Int) - 1 < (r.length : Int) := by omega
                have v3 : ((m : Int) - 1).toNat = m - 1 := by omega
                have HFO := hide (fun X : Ext wr => follows_any A c zs j k x y X.val hxl hyl (hrs.up X.below))
                cases hf : fol zs j k x y
                · have HF := hide (roundOk_no (zs := zs) (j := j) (k := k) hlt (by rw [hOK, hf]; simp [hm0]))
                  have HFE := hide hf
                  clear hm0 hin hc hy hib hgm hOK HA hp hg1 hpi hx hc2 hf hrr hrs
                  go_wp2_with (first | (go_at_call 75; refine (within_any _ _ _ _).mono ?_; rintro e w' ⟨rfl, rfl⟩) | (go_at_call 87; refine Calls.mono HC.out ?_; rintro e w' ⟨rfl, rfl⟩))
                  refine wp_region_ext (by kernel_rfl) (by kernel_rfl) ?_
                  repeat (go_big_quiet_step ((go_at_call 84; refine ext_of (v := .bool false) (congrArg Value.bool HFE.out) (HFO.out _))))
                  refine wpQuiet_nil ?_
                  intro _ hw'
                  obtain ⟨⟨wn, hbn⟩, hw''⟩ := hw'
                  subst hw''
                  have hbw3 := via hbel hbn hbz
                  go_wp2
                  go_ret
                  exact ⟨ret_bool HF.out.symm, bw2.trans (hbw3.mono (by omega))⟩
                · have HY := hide (ok_succ HT.out (by rw [hOK, hf]; simp))
                  have HFE := hide hf
                  clear hm0 hin hc hy hib hgm hOK HA hp hg1 hpi hx hc2 hf hrr hrs
                  go_wp2_with (first | (go_at_call 75; refine (within_any _ _ _ _).mono ?_; rintro e w' ⟨rfl, rfl⟩) | (go_at_call 87; refine Calls.mono HC.out ?_; rintro e w' ⟨rfl, rfl⟩))
                  refine wp_region_ext (by kernel_rfl) (by kernel_rfl) ?_
                  repeat (go_big_quiet_step ((go_at_call 84; refine ext_of (v := .bool true) (congrArg Value.bool HFE.out) (HFO.out _))))
                  refine wpQuiet_nil ?_
                  intro _ hw'
                  obtain ⟨⟨wn, hbn⟩, hw''⟩ := hw'
                  subst hw''
                  have hbw3 := via hbel hbn hbz
                  go_wp2
                  go_roundw
                  case rel => exact ⟨m + 1, by omega, by go_num, HY, hbw3⟩
                  case measure => simp [intOf]; omega
          · have HF := hide (roundOk_no (zs := zs) (j := j) (k := k) hlt (by simp only [okAt, List.getD, List.getElem?_eq_getElem hlt, Option.getD_some, Bool.eq_false_iff.2 hin, Bool.false_and]))
            have hin' := Bool.eq_false_iff.2 hin
            clear hin hc
            go_wp2_with (go_at_call 75; refine (within_any _ _ _ _).mono ?_; rintro e w' ⟨rfl, rfl⟩)
            go_ret
            exact ⟨ret_bool HF.out.symm, hbw⟩
        · have HE := hide (roundOk_yes (r := r) HV.out HJ.out (by have := HT.out; rwa [show m = r.length by omega] at this))
          go_wp2
          go_ret
          exact ⟨ret_bool HE.out.symm, hbw⟩
set_option maxHeartbeats 1600000 in
theorem roundOk_spec (A A' : Option Addr) (c c' : Nat) (zs : List (Int × Int)) (j k : Int) (r : List Int) (w : World) (hn : zs.length ≤ 1099511627776) (hn' : r.length ≤ 1099511627776) (hr : Rd w w.heap.size A (sc zs)) (hr' : Rd w w.heap.size A' (ic r)) (_hc' : r.length ≤ c') :
    Calls Tryd.prog 62 #[.slice A zs.length c, .agg #[.int .i64 j, .int .i64 k], .slice A' r.length c'] w fun e w' => e = .returned (.bool (roundOk zs j k r)) ∧ Below w.heap.size w w' := by
  go_enter Tryd.func62, Tryd.ntmps62
  go_wp2_with fail
  have hW0 : Below w.heap.size w (w.alloc (.cells #[.int .i64 j, .int .i64 k] 32)) := by go_grown
  have hz0 : w.heap.size < (w.alloc (.cells #[.int .i64 j, .int .i64 k] 32)).heap.size := by simp
  have s0 : (w.alloc (.cells #[.int .i64 j, .int .i64 k] 32)).cell? ⟨w.heap.size, 0, none⟩ = some (.int .i64 j) := by simp [go_sem]
  have s1 : (w.alloc (.cells #[.int .i64 j, .int .i64 k] 32)).cell? ⟨w.heap.size, 1, none⟩ = some (.int .i64 k) := by simp [go_sem]
  generalize w.alloc (.cells #[.int .i64 j, .int .i64 k] 32) = w0 at *
  refine (sheetsValid_spec _ _ zs w0 hn (hr.up hW0)).mono ?_
  rintro e w1 ⟨rfl, b1⟩
  have bw1 := via hW0 b1 (by omega)
  have t0 := later b1 (p := ⟨w.heap.size, 0, none⟩) hz0 s0
  have t1 := later b1 (p := ⟨w.heap.size, 1, none⟩) hz0 s1
  clear s0 s1
  cases hsv : sheetsValid zs
  · have HF := hide (show roundOk zs j k r = false by simp [roundOk, hsv])
    go_wp2
    go_ret
    exact ⟨ret_bool HF.out.symm, bw1⟩
  · go_wp2_with fail
    refine (jumpValid_spec j k w1).mono ?_
    rintro e w' ⟨rfl, hw2⟩
    have bw2 : Below w.heap.size w w' := by rw [← hw2]; have := bw1.size; go_grown
    have u0 : w'.cell? ⟨w.heap.size, 0, none⟩ = some (.int .i64 j) := by rw [← hw2, World.cell?_alloc_past _ _ _ (by have := b1.size; omega)]; exact t0
    have u1 : w'.cell? ⟨w.heap.size, 1, none⟩ = some (.int .i64 k) := by rw [← hw2, World.cell?_alloc_past _ _ _ (by have := b1.size; omega)]; exact t1
    have hz2 : w.heap.size < w'.heap.size := by rw [← hw2]; have := b1.size; simp; omega
    clear hw2 t0 t1 b1 bw1 hW0 hz0
    cases hjv : jumpValid j k
    · have HF := hide (show roundOk zs j k r = false by simp [roundOk, hjv])
      go_wp2
      go_ret
      exact ⟨ret_bool HF.out.symm, bw2⟩
    · have HV := hide hsv
      have HJ := hide hjv
      clear hsv hjv
      go_wp2
      go_loopw [7] (fun i wr => ∃ m : Nat, m ≤ r.length ∧ i = .int .i64 m ∧ Hid (∀ i, i < m → okAt zs j k r i = true) ∧ Below w'.heap.size w' wr) (fun i _ => r.length - (intOf i).toNat)
      case atStart => exact ⟨0, Nat.zero_le _, rfl, fun i hi => absurd hi (Nat.not_lt_zero _), Below.refl _ _⟩
      case round =>
        obtain ⟨m, hm, rfl, HT, hbel⟩ := hrel
        have hbz := hbel.size
        have hbw := bw2.trans (hbel.mono (by omega))
        by_cases hlt : m < r.length
        · obtain ⟨b, o, hA', hb, hc⟩ := hr'.int hlt
          have hrr := hr'.up hbw
          have hrs := hr.up hbw
          subst hA'
          have c1 := later hbw (p := ⟨b, o + m, none⟩) hb hc
          have hgm : r.getD m 0 = r[m] := by simp [List.getD, List.getElem?_eq_getElem hlt]
          by_cases hin : inR r[m] 0 ((zs.length : Int) - 1) = true
          · have hib := inR_iff.1 hin
            obtain ⟨y, hy⟩ := Int.eq_ofNat_of_zero_le hib.1
            have hyl : y < zs.length := by omega
            have hOK : okAt zs j k r m = (decide (m = 0) || fol zs j k (r.getD (m - 1) 0).toNat y) := by
              unfold okAt; rw [hgm, hin, hy]; simp
            rw [hy] at c1 hin
            have hin' : inR (y : Int) 0 ((zs.length : Int) - 1) = true := inR_mk (by omega) (by omega)
            by_cases hm0 : m = 0
            · have hd : decide ((0 : Int) < (m : Int)) = false := by rw [decide_eq_false_iff_not]; omega
              have hd2 : decide (0 < m) = false := by rw [decide_eq_false_iff_not]; omega
              have HY := hide (ok_succ HT.out (by rw [hOK, hm0]; rfl))
              clear hm0 hin hc hy hib hgm hOK
              go_wp2_with (go_at_call 76; refine (l1In_any _ _ _ _).mono ?_; rintro e w' ⟨rfl, rfl⟩)
              refine wp_region_ext (by kernel_rfl) (by kernel_rfl) ?_
              repeat (go_big_quiet_step (fail))
              refine wpQuiet_nil ?_
              intro _ hw'
              obtain ⟨⟨wn, hbn⟩, hw''⟩ := hw'
              subst hw''
              have hbw3 := via hbel hbn hbz
              go_wp2
              go_roundw
              case rel => exact ⟨m + 1, by omega, by go_num, HY, hbw3⟩
              case measure => simp [intOf]; omega
            · have hd : decide ((0 : Int) < (m : Int)) = true := by rw [decide_eq_true_eq]; omega
              have hd2 : decide (0 < m) = true := by rw [decide_eq_true_eq]; omega
              have hp := HT.out (m - 1) (by omega)
              have hg1 : r.getD (m - 1) 0 = r[m - 1]'(by omega) := by simp [List.getD, List.getElem?_eq_getElem (show m - 1 < r.length by omega)]
              have hpi := inR_iff.1 (Bool.and_eq_true_iff.1 hp).1
              obtain ⟨x, hx⟩ := Int.eq_ofNat_of_zero_le hpi.1
              have hxl : x < zs.length := by omega
              rw [hx, Int.toNat_natCast] at hOK
              obtain ⟨b2, o2, hA2, _, hc2⟩ := hrr.int (k := m - 1) (by omega)
              injection hA2 with e2
              injection e2 with e2 e3
              subst e2 e3
              rw [← hg1, hx] at hc2
              obtain ⟨bs, os, hAs, hbs, ⟨g1, g2⟩, g3, g4⟩ := hrs.sheets hxl hyl
              subst hAs
              have d1 := Ext.old hc2
              have d2 := Ext.old (later hbel (p := ⟨w.heap.size, 0, none⟩) hz2 u0)
              have d3 := Ext.old (later hbel (p := ⟨w.heap.size, 1, none⟩) hz2 u1)
              have d4 := Ext.old g1
              have d5 := Ext.old g2
              have d6 := Ext.old g3
              have d7 := Ext.old g4
              have d8 := Ext.old c1
              clear g1 g2 g3 g4
              have v0 : IntKind.i64.wrap ((m : Int) - 1) = (m : Int) - 1 := IntWalk.i64_in _ (by omega)
              have v1 : (0 : Int) ≤ (m : Int) - 1 := by omega
              have v2 : (m : Int) - 1 < (r.length : Int) := by omega
              have v3 : ((m : Int) - 1).toNat = m - 1 := by omega
              have v4 : (0 : Int) ≤ (m : Int) := by omega
              have v5 : (m : Int) < (r.length : Int) := by omega
              have v6 : (x : Int) < (zs.length : Int) := by omega
              have v7 : (y : Int) < (zs.length : Int) := by omega
              have v8 : (0 : Int) ≤ (x : Int) := by omega
              have v9 : (0 : Int) ≤ (y : Int) := by omega
              cases hm1 : jumpMay (sh zs x).1 (sh zs x).2 (sh zs y).1 (sh zs y).2 j k
              · have HF := hide (roundOk_no (zs := zs) (j := j) (k := k) hlt (by rw [hOK]; simp [hm0, fol, mayFol, hm1]))
                have HME := hide hm1
                clear hm0 hin hc hy hib hgm hOK hp hg1 hpi hx hc2 hm1 hrr hrs
                go_wp2_with (go_at_call 76; refine (l1In_any _ _ _ _).mono ?_; rintro e w' ⟨rfl, rfl⟩)
                refine wp_region_ext (by kernel_rfl) (by kernel_rfl) ?_
                repeat (go_big_quiet_step ((go_at_call 37; refine ext_of (v := .bool false) (congrArg Value.bool HME.out) (jumpMay_spec _ _ _ _ _ _ _))))
                refine wpQuiet_nil ?_
                intro _ hw'
                obtain ⟨⟨wn, hbn⟩, hw''⟩ := hw'
                subst hw''
                have hbw3 := via hbel hbn hbz
                go_wp2
                go_ret
                exact ⟨ret_bool HF.out.symm, bw2.trans (hbw3.mono (by omega))⟩
              · have hwd := mayFol_wide (zs := zs) (j := j) (k := k) (a := x) (b := y) hm1
                have HME := hide hm1
                by_cases heq : (sh zs x).1 = (sh zs y).1
                · have e1 : ((sh zs x).1 == (sh zs y).1) = true := by simp [heq]
                  by_cases hxy : x < y
                  · have e2 : decide ((y : Int) ≤ (x : Int)) = false := by rw [decide_eq_false_iff_not]; omega
                    have e3 : decide (y ≤ x) = false := by rw [decide_eq_false_iff_not]; omega
                    have HY := hide (ok_succ HT.out (by rw [hOK]; simp [fol, mayFol, hm1, hxy]))
                    clear hm0 hin hc hy hib hgm hOK hp hg1 hpi hx hc2 hm1 hrr hrs heq hwd
                    go_wp2_with (go_at_call 76; refine (l1In_any _ _ _ _).mono ?_; rintro e w' ⟨rfl, rfl⟩)
                    refine wp_region_ext (by kernel_rfl) (by kernel_rfl) ?_
                    repeat (go_big_quiet_step ((go_at_call 37; refine ext_of (v := .bool true) (congrArg Value.bool HME.out) (jumpMay_spec _ _ _ _ _ _ _))))
                    refine wpQuiet_nil ?_
                    intro _ hw'
                    obtain ⟨⟨wn, hbn⟩, hw''⟩ := hw'
                    subst hw''
                    have hbw3 := via hbel hbn hbz
                    go_wp2
                    go_roundw
                    case rel => exact ⟨m + 1, by omega, by go_num, HY, hbw3⟩
                    case measure => simp [intOf]; omega
                  · have e2 : decide ((y : Int) ≤ (x : Int)) = true := by rw [decide_eq_true_eq]; omega
                    have e3 : decide (y ≤ x) = true := by rw [decide_eq_true_eq]; omega
                    have HF := hide (roundOk_no (zs := zs) (j := j) (k := k) hlt (by rw [hOK]; simp [hm0, fol, mayFol, hxy, heq]))
                    clear hm0 hin hc hy hib hgm hOK hp hg1 hpi hx hc2 hm1 hrr hrs heq hwd
                    go_wp2_with (go_at_call 76; refine (l1In_any _ _ _ _).mono ?_; rintro e w' ⟨rfl, rfl⟩)
                    refine wp_region_ext (by kernel_rfl) (by kernel_rfl) ?_
                    repeat (go_big_quiet_step ((go_at_call 37; refine ext_of (v := .bool true) (congrArg Value.bool HME.out) (jumpMay_spec _ _ _ _ _ _ _))))
                    refine wpQuiet_nil ?_
                    intro _ hw'
                    obtain ⟨⟨wn, hbn⟩, hw''⟩ := hw'
                    subst hw''
                    have hbw3 := via hbel hbn hbz
                    go_wp2
                    go_ret
                    exact ⟨ret_bool HF.out.symm, bw2.trans (hbw3.mono (by omega))⟩
                · have e1 : ((sh zs x).1 == (sh zs y).1) = false := by simp [heq]
                  have HY := hide (ok_succ HT.out (by rw [hOK]; simp [fol, mayFol, hm1]; omega))
                  clear hm0 hin hc hy hib hgm hOK hp hg1 hpi hx hc2 hm1 hrr hrs heq hwd
                  go_wp2_with (go_at_call 76; refine (l1In_any _ _ _ _).mono ?_; rintro e w' ⟨rfl, rfl⟩)
                  refine wp_region_ext (by kernel_rfl) (by kernel_rfl) ?_
                  repeat (go_big_quiet_step ((go_at_call 37; refine ext_of (v := .bool true) (congrArg Value.bool HME.out) (jumpMay_spec _ _ _ _ _ _ _))))
                  refine wpQuiet_nil ?_
                  intro _ hw'
                  obtain ⟨⟨wn, hbn⟩, hw''⟩ := hw'
                  subst hw''
                  have hbw3 := via hbel hbn hbz
                  go_wp2
                  go_roundw
                  case rel => exact ⟨m + 1, by omega, by go_num, HY, hbw3⟩
                  case measure => simp [intOf]; omega
          · have HF := hide (roundOk_no (zs := zs) (j := j) (k := k) hlt (by simp only [okAt, List.getD, List.getElem?_eq_getElem hlt, Option.getD_some, Bool.eq_false_iff.2 hin, Bool.false_and]))
            have hin' := Bool.eq_false_iff.2 hin
            clear hin hc
            go_wp2_with (go_at_call 76; refine (l1In_any _ _ _ _).mono ?_; rintro e w' ⟨rfl, rfl⟩)
            go_ret
            exact ⟨ret_bool HF.out.symm, hbw⟩
        · have HE := hide (roundOk_yes (r := r) HV.out HJ.out (by have := HT.out; rwa [show m = r.length by omega] at this))
          go_wp2
          go_ret
          exact ⟨ret_bool HE.out.symm, hbw⟩
end Go.Proofs.YtcdoopccmljaoaaDoor
