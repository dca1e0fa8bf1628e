/- What RollsOk, RollsFor and RollsFew compute, the program's and the reference's, for every argument. No conditions but a bound on the list's length. -/
import Derived.Test.YtcdoopccmljaoaaDoorInts
import Derived.OwnWalk
import Derived.Laws.AppendOwn
namespace Go.Proofs.YtcdoopccmljaoaaDoor
open Go.ChangeShapes Go.WideShapes Go.ChangeAt Go.RowKit Go.Deep

/-- Where the passes lead; none if one of them cannot be rolled. -/
def rollTo (p : Int) : Int → List Int → Option Int
  | f, [] => some f
  | f, z :: r => if rollMay f z p = true then rollTo p z r else none
def rollsOk (f wd p : Int) (zs : List Int) : Bool := rollMay f f p && decide (rollTo p f zs = some wd)
theorem rollMay_iff {f t p : Int} : rollMay f t p = true ↔ (1 ≤ f ∧ f ≤ 400) ∧ (1 ≤ t ∧ t ≤ f) ∧ (1 ≤ p ∧ p ≤ 60) ∧ f * (100 - p) ≤ 100 * t := by
  simp only [rollMay, Bool.and_eq_true, decide_eq_true_eq, inR_iff]
theorem rollTo_snoc (p : Int) : ∀ (zs : List Int) (f z : Int), rollTo p f (zs ++ [z]) = (rollTo p f zs).bind fun m => if rollMay m z p = true then some z else none
  | [], f, z => by simp [rollTo]
  | y :: r, f, z => by
    simp only [List.cons_append, rollTo]
    split
    · exact rollTo_snoc p r y z
    · rfl
theorem rollTo_app (p : Int) : ∀ (zs ys : List Int) (f : Int), rollTo p f (zs ++ ys) = (rollTo p f zs).bind fun m => rollTo p m ys
  | [], ys, f => by simp [rollTo]
  | y :: r, ys, f => by
    simp only [List.cons_append, rollTo]
    split
    · exact rollTo_app p r ys y
    · rfl
theorem rollTo_bd (p : Int) : ∀ (zs : List Int) (f m : Int), 1 ≤ f → f ≤ 400 → rollTo p f zs = some m → 1 ≤ m ∧ m ≤ f
  | [], f, m, h1, _, h => by simp [rollTo] at h; omega
  | y :: r, f, m, h1, h2, h => by
    simp only [rollTo] at h
    split at h
    · rename_i hr
      have hr := rollMay_iff.1 hr
      have := rollTo_bd p r y m (by omega) (by omega) h
      omega
    · cases h
theorem take_get (zs : List Int) (k : Nat) (h : k < zs.length) : zs = zs.take k ++ (zs[k] :: zs.drop (k + 1)) := by
  rw [← List.drop_eq_getElem_cons h, List.take_append_drop]
theorem rollTo_ok {p f0 m : Int} {zs : List Int} {k : Nat} (h : k < zs.length) (e : rollTo p f0 (zs.take k) = some m) (hr : rollMay m zs[k] p = true) : rollTo p f0 (zs.take (k + 1)) = some zs[k] := by
  rw [List.take_succ_eq_append_getElem h, rollTo_snoc, e]; simp [hr]
theorem rollTo_no {p f0 m : Int} {zs : List Int} {k : Nat} (h : k < zs.length) (e : rollTo p f0 (zs.take k) = some m) (hr : rollMay m zs[k] p = false) : rollTo p f0 zs = none := by
  rw [take_get zs k h, rollTo_app, e]; simp [rollTo, hr]
theorem rollsOk_no {p f0 wd : Int} {zs : List Int} (h : rollTo p f0 zs = none) : rollsOk f0 wd p zs = false := by simp [rollsOk, h]
theorem rollsOk_yes {p f0 wd m : Int} {zs : List Int} (h : rollTo p f0 zs = some m) (hs : rollMay f0 f0 p = true) : rollsOk f0 wd p zs = decide (m = wd) := by simp [rollsOk, h, hs]
theorem rollsOk_valid {p f0 wd : Int} {zs : List Int} (h : rollsOk f0 wd p zs = true) : inR f0 1 400 = true ∧ inR wd 1 400 = true ∧ inR p 1 60 = true := by
  simp only [rollsOk, Bool.and_eq_true, decide_eq_true_eq] at h
  obtain ⟨h1, h2⟩ := (rollMay_self f0 p).1 h.1
  have hb := inR_iff.1 h1
  have := rollTo_bd p zs f0 wd hb.1 hb.2 h.2
  exact ⟨h1, inR_mk (by omega) (by omega), h2⟩

theorem rollsOk_any (f0 wd p : Int) (A : Option Addr) (c : Nat) (zs : List Int) (w : World) (hn : zs.length ≤ 1099511627776) (hr : Rd w w.heap.size A (ic zs)) :
    Calls Tryd.prog 51 #[.int .i64 f0, .int .i64 wd, .int .i64 p, .slice A zs.length c] w fun e w' => e = .returned (.bool (rollsOk f0 wd p zs)) ∧ w = w' := by
  by_cases hv : inR f0 1 400 = true ∧ inR wd 1 400 = true ∧ inR p 1 60 = true
  · have HS := hide ((rollMay_self f0 p).2 ⟨hv.1, hv.2.2⟩)
    obtain ⟨hv1, hv2, hv3⟩ := hv
    go_enter Tryd.func51, Tryd.ntmps51
    go_wp2_with (go_at_call 75; refine (within_any _ _ _ _).mono ?_; rintro e w' ⟨rfl, rfl⟩)
    go_loop [0, 10, 26] (fun m _ i => ∃ (k : Nat) (x : Int), k ≤ zs.length ∧ i = .int .i64 k ∧ m = .int .i64 x ∧ Hid (rollTo p f0 (zs.take k) = some x)) (fun _ _ i => zs.length - (intOf i).toNat)
    case atStart => exact ⟨0, f0, Nat.zero_le _, rfl, rfl, by simp [Hid, rollTo]⟩
    case round =>
      obtain ⟨k, m, hk, rfl, rfl, HT⟩ := hrel
      by_cases hlt : k < zs.length
      · obtain ⟨b, o, hA, _, hc⟩ := hr.int hlt
        subst hA
        cases hm : rollMay m zs[k] p
        · have HF := hide (rollsOk_no (wd := wd) (rollTo_no hlt HT.out hm))
          go_wp2_with (go_at_call 24; refine (rollMay_any _ _ _ _).mono ?_; rintro e w' ⟨rfl, rfl⟩)
          go_ret
          exact ⟨ret_bool HF.out.symm, rfl⟩
        · have HY := hide (rollTo_ok hlt HT.out hm)
          go_wp2_with (go_at_call 24; refine (rollMay_any _ _ _ _).mono ?_; rintro e w' ⟨rfl, rfl⟩)
          go_round
          case rel => exact ⟨k + 1, zs[k], by omega, by go_num, rfl, HY⟩
          case measure => simp [intOf]; omega
      · have e := HT.out
        rw [List.take_of_length_le (by omega)] at e
        have HE := hide (rollsOk_yes (wd := wd) e HS.out)
        clear e
        go_wp2
        go_ret
        refine ⟨ret_bool ?_, rfl⟩
        rw [HE.out]; first | rfl | exact Bool.eq_iff_iff.2 (by simp)
  · have hf : rollsOk f0 wd p zs = false := by
      cases e : rollsOk f0 wd p zs
      · rfl
      · exact absurd (rollsOk_valid e) hv
    have HF := hide hf
    clear hf
    go_enter Tryd.func51, Tryd.ntmps51
    go_wp2_with (go_at_call 75; refine (within_any _ _ _ _).mono ?_; rintro e w' ⟨rfl, rfl⟩)
    all_goals first
      | exact (hv ⟨by assumption, by assumption, notF (by assumption)⟩).elim
      | (go_ret; exact ⟨ret_bool HF.out.symm, rfl⟩)
theorem rollsOk_spec (f0 wd p : Int) (A : Option Addr) (c : Nat) (zs : List Int) (w : World) (hn : zs.length ≤ 1099511627776) (hr : Rd w w.heap.size A (ic zs)) :
    Calls Tryd.prog 53 #[.int .i64 f0, .int .i64 wd, .int .i64 p, .slice A zs.length c] w fun e w' => e = .returned (.bool (rollsOk f0 wd p zs)) ∧ w = w' := by
  cases hs : rollMay f0 f0 p
  · have HF := hide (show rollsOk f0 wd p zs = false by simp [rollsOk, hs])
    go_enter Tryd.func53, Tryd.ntmps53
    go_wp2_with (go_at_call 25; refine (rollMay_spec _ _ _ _).mono ?_; rintro e w' ⟨rfl, rfl⟩)
    go_ret
    exact ⟨ret_bool HF.out.symm, rfl⟩
  · have HS := hide hs
    go_enter Tryd.func53, Tryd.ntmps53
    go_wp2_with (go_at_call 25; refine (rollMay_spec _ _ _ _).mono ?_; rintro e w' ⟨rfl, rfl⟩)
    clear hs
    go_loop [0, 9] (fun m i => ∃ (k : Nat) (x : Int), k ≤ zs.length ∧ i = .int .i64 k ∧ m = .int .i64 x ∧ Hid (rollTo p f0 (zs.take k) = some x)) (fun _ i => zs.length - (intOf i).toNat)
    case atStart => exact ⟨0, f0, Nat.zero_le _, rfl, rfl, by simp [Hid, rollTo]⟩
    case round =>
      obtain ⟨k, m, hk, rfl, rfl, HT⟩ := hrel
      by_cases hlt : k < zs.length
      · obtain ⟨b, o, hA, _, hc⟩ := hr.int hlt
        subst hA
        cases hm : rollMay m zs[k] p
        · have HF := hide (rollsOk_no (wd := wd) (rollTo_no hlt HT.out hm))
          go_wp2_with (go_at_call 25; refine (rollMay_spec _ _ _ _).mono ?_; rintro e w' ⟨rfl, rfl⟩)
          go_ret
          exact ⟨ret_bool HF.out.symm, rfl⟩
        · have HY := hide (rollTo_ok hlt HT.out hm)
          go_wp2_with (go_at_call 25; refine (rollMay_spec _ _ _ _).mono ?_; rintro e w' ⟨rfl, rfl⟩)
          go_round
          case rel => exact ⟨k + 1, zs[k], by omega, by go_num, rfl, HY⟩
          case measure => simp [intOf]; omega
      · have e := HT.out
        rw [List.take_of_length_le (by omega)] at e
        have HE := hide (rollsOk_yes (wd := wd) e HS.out)
        clear e
        go_wp2
        go_ret
        refine ⟨ret_bool ?_, rfl⟩
        rw [HE.out]; first | rfl | exact Bool.eq_iff_iff.2 (by simp)

/-- The passes to a wanted thickness; none if it cannot be reached. -/
def rollsForN : Nat → Int → Int → Int → Option (List Int)
  | 0, _, _, _ => some []
  | n + 1, f, wd, p => if wd < f then (if max (rollLeast f p) wd = f then none else (rollsForN n (max (rollLeast f p) wd) wd p).map (max (rollLeast f p) wd :: ·)) else some []
/-- .. at a fuel that suffices. -/
def rollsForF (f wd p : Int) : Option (List Int) := rollsForN 400 f wd p
def forOk (f wd p : Int) : Prop := inR f 1 400 = true ∧ inR wd 1 f = true ∧ inR p 1 60 = true
instance (s f t : Int) : Decidable (forOk s f t) := inferInstanceAs (Decidable (_ ∧ _ ∧ _))
def rollsFor (f wd p : Int) : Option (List Int) := if forOk f wd p then rollsForF f wd p else none
theorem rollLeast_bd {f p : Int} (h1 : inR f 1 400 = true) (h2 : inR p 1 60 = true) : 1 ≤ rollLeast f p ∧ rollLeast f p ≤ f := by
  have b1 := inR_iff.1 h1
  have b2 := inR_iff.1 h2
  rw [rollLeast, if_pos ⟨h1, h2⟩]
  have m1 : f * (100 - p) ≤ f * 99 := Int.mul_le_mul_of_nonneg_left (by omega) (by omega)
  have m2 : 1 * 1 ≤ f * (100 - p) := Int.mul_le_mul (by omega) (by omega) (by omega) (by omega)
  omega
/-- Fuel beyond the distance does not matter. -/
theorem rollsForN_fuel (wd p : Int) (hp : inR p 1 60 = true) (hw : 1 ≤ wd) : ∀ (n m : Nat) (f : Int), f ≤ 400 → f - wd ≤ n → f - wd ≤ m → rollsForN n f wd p = rollsForN m f wd p
  | 0, 0, _, _, _, _ => rfl
  | 0, m + 1, f, _, h1, _ => by rw [rollsForN, rollsForN, if_neg (by omega)]
  | n + 1, 0, f, _, _, h2 => by rw [rollsForN, rollsForN, if_neg (by omega)]
  | n + 1, m + 1, f, hf, h1, h2 => by
    rw [rollsForN, rollsForN]
    split
    · rename_i hlt
      have hb := rollLeast_bd (f := f) (inR_mk (by omega) hf) hp
      split
      · rfl
      · rw [rollsForN_fuel wd p hp hw n m _ (by omega) (by omega) (by omega)]
    · rfl
/-- One step, at a fuel that suffices. -/
theorem rollsFor_end {f wd p : Int} (h : ¬ wd < f) : rollsForF f wd p = some [] := by rw [rollsForF, rollsForN, if_neg h]
theorem rollsFor_none {f wd p : Int} (h : wd < f) (e : max (rollLeast f p) wd = f) : rollsForF f wd p = none := by rw [rollsForF, rollsForN, if_pos h, if_pos e]
theorem rollsFor_step {f wd p : Int} (h1 : inR f 1 400 = true) (hp : inR p 1 60 = true) (hw : 1 ≤ wd) (h : wd < f) (e : ¬ max (rollLeast f p) wd = f) :
    rollsForF f wd p = (rollsForF (max (rollLeast f p) wd) wd p).map (max (rollLeast f p) wd :: ·) := by
  have hb := rollLeast_bd h1 hp
  have b1 := inR_iff.1 h1
  rw [rollsForF, rollsForF, rollsForN, if_pos h, if_neg e, rollsForN_fuel wd p hp hw 399 400 _ (by omega) (by omega) (by omega)]

/-- A call that hands back a list and whether there is one, in memory of its own. -/
def ListOk (w : World) (z : List Int) (ok : Bool) (e : Ending) (w' : World) : Prop :=
  ∃ A c, e = .returned (.tuple #[.slice A z.length c, .bool ok]) ∧ Own w' w.heap.size 3 A (ic z) ∧ Below w.heap.size w w'

/-- What an append of one number to a row of the call's own leaves. -/
theorem app_keep {w wr w' : World} {u v' : Value} {o : Obj} {ys : List Int} {x : Int} (hbel : Below w.heap.size w wr) (hown : wr.ownsRow w.heap.size 3 1 u ys.length (ic ys))
    (hown' : w'.ownsRow w.heap.size 3 1 v' (ys.length + 1) (ic ys ++ [.int .i64 x])) (hg : (wr.alloc o).grownBy w' u.ownBlock) :
    w'.ownsRow w.heap.size 3 1 v' (ys ++ [x]).length (ic (ys ++ [x])) ∧ Below w.heap.size w w' := by
  refine ⟨by simpa [ic] using hown', ?_⟩
  refine (hbel.alloc hbel.size o).grown hg (by have := hbel.size; simp; omega) fun k hk => ?_
  exact (hown.lt k hk).1
theorem own_shape {w : World} {B T n size : Nat} {v : Value} {xs : List Value} (h : w.ownsRow B T size v n xs) : ∃ A c, v = .slice A n c ∧ Own w B T A xs := by
  have h0 := h
  obtain ⟨hl, h⟩ := h
  rcases h with ⟨rfl, rfl⟩ | ⟨g, cap, cur, rfl, _⟩
  · exact ⟨none, 0, rfl, .inl (List.eq_nil_of_length_eq_zero (by simpa using hl))⟩
  · exact ⟨_, _, rfl, Own.of_row h0⟩
theorem listOk_some {w w' : World} {r : Option (List Int)} {v : Value} {zs : List Int} (hr : r = some zs) (h : w'.ownsRow w.heap.size 3 1 v zs.length (ic zs)) (hb : Below w.heap.size w w') :
    ListOk w (r.getD []) r.isSome (.returned (.tuple #[v, .bool true])) w' := by
  subst hr
  obtain ⟨A, c, rfl, ho⟩ := own_shape h
  exact ⟨A, c, rfl, ho, hb⟩
theorem listOk_none {w w' : World} {r : Option (List Int)} {A : Option Addr} {c : Nat} (hr : r = none) (hb : Below w.heap.size w w') :
    ListOk w (r.getD []) r.isSome (.returned (.tuple #[.slice A 0 c, .bool false])) w' := by
  subst hr
  exact ⟨A, c, rfl, .inl rfl, hb⟩
theorem one_news (w : World) (x : Int) (T : TypeId) : ∀ j u, [Value.int .i64 x][j]? = some u → (w.alloc (.cells #[.int .i64 x] T)).cell? ((⟨w.heap.size, 0, none⟩ : Addr).add j) = some u := by
  intro j u hj
  match j, hj with
  | 0, hj => simp at hj; subst hj; simp [Addr.add]
theorem one_cell (x : Int) : ∀ u ∈ [Value.int .i64 x], u.oneCell' = true := by intro u hu; simp at hu; subst hu; rfl

set_option maxHeartbeats 800000 in
set_option maxRecDepth 100000 in
theorem rollsFor_any (f0 wd p : Int) (w : World) :
    Calls Tryd.prog 48 #[.int .i64 f0, .int .i64 wd, .int .i64 p] w (ListOk w ((rollsFor f0 wd p).getD []) (rollsFor f0 wd p).isSome) := by
  by_cases hv : forOk f0 wd p
  · obtain ⟨hv1, hv2, hv3⟩ := hv
    have HS := hide (show rollsFor f0 wd p = rollsForF f0 wd p by rw [rollsFor, if_pos ⟨hv1, hv2, hv3⟩])
    obtain ⟨b1, b1'⟩ := inR_iff.1 hv1
    obtain ⟨b2, b2'⟩ := inR_iff.1 hv2
    obtain ⟨i0, hi, hz0, hz1, hz2⟩ := info_parts intInfo
    have hs0 : rollMay f0 f0 p = true := (rollMay_self f0 p).2 ⟨hv1, hv3⟩
    go_enter Tryd.func48, Tryd.ntmps48
    go_wp2_with (go_at_call 75; refine (within_any _ _ _ _).mono ?_; rintro e w' ⟨rfl, rfl⟩)
    go_loopw [0, 8, 9] (fun f v _ wr => ∃ (x : Int) (ys : List Int), f = .int .i64 x ∧ wd ≤ x ∧ x + (ys.length : Int) ≤ f0 ∧ wr.ownsRow w.heap.size 3 1 v ys.length (ic ys) ∧ Below w.heap.size w wr ∧ Hid (rollsForF f0 wd p = (rollsForF x wd p).map (ys ++ ·))) (fun f _ _ _ => (intOf f).toNat)
    case atStart => exact ⟨f0, [], rfl, by omega, by simp, World.ownsRow_nil _ _ _ _, Below.refl _ _, by simp [Hid]⟩
    case round =>
      obtain ⟨x, ys, rfl, hx1, hx2, hown, hbel, HR⟩ := hrel
      have hxin : inR x 1 400 = true := inR_mk (by omega) (by omega)
      obtain ⟨l1, l2⟩ := rollLeast_bd hxin hv3
      by_cases hlt : wd < x
      · by_cases hle : rollLeast x p < wd
        · have e0 : max (rollLeast x p) wd = wd := by omega
          have es := rollsFor_step hxin hv3 b2 hlt (by omega)
          rw [e0] at es
          have ES := hide es
          clear e0 es
          go_wp2_with (first | (go_at_call 33; refine (rollLeast_any _ _ _).mono ?_; rintro e w' ⟨rfl, rfl⟩) | (at_builtin; refine wpList_append_own _ rfl _ _ 45 rfl w.heap.size 3 i0 (.int .i64 0) 1 8 Tryd.underlying45 hi hz0 hz1 hz2 rfl (by decide) _ _ _ rfl (hown.alloc _) ⟨wr.heap.size, 0, none⟩ 1 1 [.int .i64 (wd)] rfl rfl (one_news _ _ _) (one_cell _) (by unfold maxLen; omega) (by omega) (by have := hbel.size; simp; omega) ?_; intro v' w1 hown' hgrow _; obtain ⟨ho2, hb2⟩ := app_keep hbel hown hown' hgrow; clear hown' hgrow hown hbel))
          go_roundw
          case rel => exact ⟨wd, ys ++ [wd], rfl, by omega, by simp; omega, ho2, hb2, by unfold Hid; rw [HR.out, ES.out]; simp [Function.comp_def]⟩
          case measure => simp [intOf]; omega
        · have e0 : max (rollLeast x p) wd = rollLeast x p := by omega
          by_cases heq : rollLeast x p = x
          · have HN := hide (show rollsFor f0 wd p = none by rw [HS.out, HR.out, rollsFor_none hlt (by omega)]; rfl)
            clear e0
            have l3 : x ≤ rollLeast x p := by omega
            have hbz := hbel.size
            clear heq
            go_wp2_with (go_at_call 33; refine (rollLeast_any _ _ _).mono ?_; rintro e w' ⟨rfl, rfl⟩)
            all_goals first
              | (go_ret2; exact listOk_none HN.out (by go_grown))
              | (exfalso; omega)
          · have es := rollsFor_step hxin hv3 b2 hlt (by omega)
            rw [e0] at es
            have ES := hide es
            have l3 : rollLeast x p < x := by omega
            clear e0 es heq
            go_wp2_with (first | (go_at_call 33; refine (rollLeast_any _ _ _).mono ?_; rintro e w' ⟨rfl, rfl⟩) | (at_builtin; refine wpList_append_own _ rfl _ _ 45 rfl w.heap.size 3 i0 (.int .i64 0) 1 8 Tryd.underlying45 hi hz0 hz1 hz2 rfl (by decide) _ _ _ rfl (hown.alloc _) ⟨wr.heap.size, 0, none⟩ 1 1 [.int .i64 (rollLeast x p)] rfl rfl (one_news _ _ _) (one_cell _) (by unfold maxLen; omega) (by omega) (by have := hbel.size; simp; omega) ?_; intro v' w1 hown' hgrow _; obtain ⟨ho2, hb2⟩ := app_keep hbel hown hown' hgrow; clear hown' hgrow hown hbel))
            go_roundw
            case rel => exact ⟨rollLeast x p, ys ++ [rollLeast x p], rfl, by omega, by simp; omega, ho2, hb2, by unfold Hid; rw [HR.out, ES.out]; simp [Function.comp_def]⟩
            case measure => simp [intOf]; omega
      · have HN := hide (show rollsFor f0 wd p = some ys by rw [HS.out, HR.out, rollsFor_end hlt]; simp)
        go_wp2
        go_ret2
        exact listOk_some HN.out hown hbel
  · have HN := hide (show rollsFor f0 wd p = none by rw [rollsFor, if_neg hv])
    have hs0 : rollMay f0 f0 p = true ↔ _ := rollMay_self f0 p
    have HS0 := hide hs0
    clear hs0
    go_enter Tryd.func48, Tryd.ntmps48
    go_wp2_with (go_at_call 75; refine (within_any _ _ _ _).mono ?_; rintro e w' ⟨rfl, rfl⟩)
    all_goals first
      | exact (hv ⟨by assumption, by assumption, notF (by assumption)⟩).elim
      | exact (hv ⟨(HS0.out.1 (by assumption)).1, notF (by assumption), (HS0.out.1 (by assumption)).2⟩).elim
      | (go_ret2; exact listOk_none HN.out (by go_grown))
set_option maxHeartbeats 800000 in
set_option maxRecDepth 100000 in
theorem rollsFor_spec (f0 wd p : Int) (w : World) :
    Calls Tryd.prog 49 #[.int .i64 f0, .int .i64 wd, .int .i64 p] w (ListOk w ((rollsFor f0 wd p).getD []) (rollsFor f0 wd p).isSome) := by
  by_cases hv : forOk f0 wd p
  · obtain ⟨hv1, hv2, hv3⟩ := hv
    have HS := hide (show rollsFor f0 wd p = rollsForF f0 wd p by rw [rollsFor, if_pos ⟨hv1, hv2, hv3⟩])
    obtain ⟨b1, b1'⟩ := inR_iff.1 hv1
    obtain ⟨b2, b2'⟩ := inR_iff.1 hv2
    obtain ⟨i0, hi, hz0, hz1, hz2⟩ := info_parts intInfo
    have hs0 : rollMay f0 f0 p = true := (rollMay_self f0 p).2 ⟨hv1, hv3⟩
    go_enter Tryd.func49, Tryd.ntmps49
    go_wp2_with (first | (go_at_call 25; refine (rollMay_spec _ _ _ _).mono ?_; rintro e w' ⟨rfl, rfl⟩) | (go_at_call 76; refine (l1In_any _ _ _ _).mono ?_; rintro e w' ⟨rfl, rfl⟩))
    go_loopw [0, 8, 9] (fun f v _ wr => ∃ (x : Int) (ys : List Int), f = .int .i64 x ∧ wd ≤ x ∧ x + (ys.length : Int) ≤ f0 ∧ wr.ownsRow w.heap.size 3 1 v ys.length (ic ys) ∧ Below w.heap.size w wr ∧ Hid (rollsForF f0 wd p = (rollsForF x wd p).map (ys ++ ·))) (fun f _ _ _ => (intOf f).toNat)
    case atStart => exact ⟨f0, [], rfl, by omega, by simp, World.ownsRow_made w #[] 0 (Nat.le_refl _) (Nat.zero_le _) rfl, by go_grown, by simp [Hid]⟩
    case round =>
      obtain ⟨x, ys, rfl, hx1, hx2, hown, hbel, HR⟩ := hrel
      have hxin : inR x 1 400 = true := inR_mk (by omega) (by omega)
      obtain ⟨l1, l2⟩ := rollLeast_bd hxin hv3
      by_cases hlt : wd < x
      · by_cases hle : rollLeast x p < wd
        · have e0 : max (rollLeast x p) wd = wd := by omega
          have es := rollsFor_step hxin hv3 b2 hlt (by omega)
          rw [e0] at es
          have ES := hide es
          clear e0 es
          go_wp2_with (first | (go_at_call 34; refine (rollLeast_spec _ _ _).mono ?_; rintro e w' ⟨rfl, rfl⟩) | (at_builtin; refine wpList_append_own _ rfl _ _ 45 rfl w.heap.size 3 i0 (.int .i64 0) 1 8 Tryd.underlying45 hi hz0 hz1 hz2 rfl (by decide) _ _ _ rfl (hown.alloc _) ⟨wr.heap.size, 0, none⟩ 1 1 [.int .i64 (wd)] rfl rfl (one_news _ _ _) (one_cell _) (by unfold maxLen; omega) (by omega) (by have := hbel.size; simp; omega) ?_; intro v' w1 hown' hgrow _; obtain ⟨ho2, hb2⟩ := app_keep hbel hown hown' hgrow; clear hown' hgrow hown hbel))
          go_roundw
          case rel => exact ⟨wd, ys ++ [wd], rfl, by omega, by simp; omega, ho2, hb2, by unfold Hid; rw [HR.out, ES.out]; simp [Function.comp_def]⟩
          case measure => simp [intOf]; omega
        · have e0 : max (rollLeast x p) wd = rollLeast x p := by omega
          by_cases heq : rollLeast x p = x
          · have HN := hide (show rollsFor f0 wd p = none by rw [HS.out, HR.out, rollsFor_none hlt (by omega)]; rfl)
            clear e0
            have l3 : x ≤ rollLeast x p := by omega
            have hbz := hbel.size
            clear heq
            go_wp2_with (go_at_call 34; refine (rollLeast_spec _ _ _).mono ?_; rintro e w' ⟨rfl, rfl⟩)
            all_goals first
              | (go_ret2; exact listOk_none HN.out (by go_grown))
              | (exfalso; omega)
          · have es := rollsFor_step hxin hv3 b2 hlt (by omega)
            rw [e0] at es
            have ES := hide es
            have l3 : rollLeast x p < x := by omega
            clear e0 es heq
            go_wp2_with (first | (go_at_call 34; refine (rollLeast_spec _ _ _).mono ?_; rintro e w' ⟨rfl, rfl⟩) | (at_builtin; refine wpList_append_own _ rfl _ _ 45 rfl w.heap.size 3 i0 (.int .i64 0) 1 8 Tryd.underlying45 hi hz0 hz1 hz2 rfl (by decide) _ _ _ rfl (hown.alloc _) ⟨wr.heap.size, 0, none⟩ 1 1 [.int .i64 (rollLeast x p)] rfl rfl (one_news _ _ _) (one_cell _) (by unfold maxLen; omega) (by omega) (by have := hbel.size; simp; omega) ?_; intro v' w1 hown' hgrow _; obtain ⟨ho2, hb2⟩ := app_keep hbel hown hown' hgrow; clear hown' hgrow hown hbel))
            go_roundw
            case rel => exact ⟨rollLeast x p, ys ++ [rollLeast x p], rfl, by omega, by simp; omega, ho2, hb2, by unfold Hid; rw [HR.out, ES.out]; simp [Function.comp_def]⟩
            case measure => simp [intOf]; omega
      · have HN := hide (show rollsFor f0 wd p = some ys by rw [HS.out, HR.out, rollsFor_end hlt]; simp)
        go_wp2
        go_ret2
        exact listOk_some HN.out hown hbel
  · have HN := hide (show rollsFor f0 wd p = none by rw [rollsFor, if_neg hv])
    have hs0 : rollMay f0 f0 p = true ↔ _ := rollMay_self f0 p
    have HS0 := hide hs0
    clear hs0
    go_enter Tryd.func49, Tryd.ntmps49
    go_wp2_with (first | (go_at_call 25; refine (rollMay_spec _ _ _ _).mono ?_; rintro e w' ⟨rfl, rfl⟩) | (go_at_call 76; refine (l1In_any _ _ _ _).mono ?_; rintro e w' ⟨rfl, rfl⟩))
    all_goals first
      | exact (hv ⟨by assumption, by assumption, notF (by assumption)⟩).elim
      | exact (hv ⟨(HS0.out.1 (by assumption)).1, notF (by assumption), (HS0.out.1 (by assumption)).2⟩).elim
      | (go_ret2; exact listOk_none HN.out (by go_grown))

/-- How many passes there are; -1 if none lead there. -/
def rollsFew (f wd p : Int) : Int := match rollsFor f wd p with
  | some zs => (zs.length : Int)
  | none => -1
def IntBelow (n : Int) (w : World) (e : Ending) (w' : World) : Prop := e = .returned (.int .i64 n) ∧ Below w.heap.size w w'
theorem rollsFew_any (f0 wd p : Int) (w : World) : Calls Tryd.prog 45 #[.int .i64 f0, .int .i64 wd, .int .i64 p] w (IntBelow (rollsFew f0 wd p) w) := by
  have H := hide (rollsFor_any f0 wd p w)
  cases hr : rollsFor f0 wd p with
  | none =>
    have HN := hide (show rollsFew f0 wd p = -1 by rw [rollsFew, hr])
    have HR := hide hr
    clear hr
    go_enter Tryd.func45, Tryd.ntmps45
    go_wp2_with fail
    refine Calls.mono H.out ?_
    rintro e w' ⟨A, c, rfl, ho, hb⟩
    rw [HR.out]
    simp only [Option.isSome_none, Option.getD_none, List.length_nil]
    go_wp2
    go_ret
    exact ⟨ret_int HN.out.symm, hb⟩
  | some zs =>
    have HN := hide (show rollsFew f0 wd p = (zs.length : Int) by rw [rollsFew, hr])
    have HR := hide hr
    clear hr
    go_enter Tryd.func45, Tryd.ntmps45
    go_wp2_with fail
    refine Calls.mono H.out ?_
    rintro e w' ⟨A, c, rfl, ho, hb⟩
    rw [HR.out]
    simp only [Option.isSome_some, Option.getD_some]
    go_wp2
    go_ret
    exact ⟨ret_int HN.out.symm, hb⟩
theorem rollsFew_spec (f0 wd p : Int) (w : World) : Calls Tryd.prog 46 #[.int .i64 f0, .int .i64 wd, .int .i64 p] w (IntBelow (rollsFew f0 wd p) w) := by
  have H := hide (rollsFor_spec f0 wd p w)
  cases hr : rollsFor f0 wd p with
  | none =>
    have HN := hide (show rollsFew f0 wd p = -1 by rw [rollsFew, hr])
    have HR := hide hr
    clear hr
    go_enter Tryd.func46, Tryd.ntmps46
    go_wp2_with fail
    refine Calls.mono H.out ?_
    rintro e w' ⟨A, c, rfl, ho, hb⟩
    rw [HR.out]
    simp only [Option.isSome_none, Option.getD_none, List.length_nil]
    go_wp2
    go_ret
    exact ⟨ret_int HN.out.symm, hb⟩
  | some zs =>
    have HN := hide (show rollsFew f0 wd p = (zs.length : Int) by rw [rollsFew, hr])
    have HR := hide hr
    clear hr
    go_enter Tryd.func46, Tryd.ntmps46
    go_wp2_with fail
    refine Calls.mono H.out ?_
    rintro e w' ⟨A, c, rfl, ho, hb⟩
    rw [HR.out]
    simp only [Option.isSome_some, Option.getD_some]
    go_wp2
    go_ret
    exact ⟨ret_int HN.out.symm, hb⟩
end Go.Proofs.YtcdoopccmljaoaaDoor
