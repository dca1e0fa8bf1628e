/- Whether a pile is valid: the program's PileValid and the reference's compute the same. No conditions but bounds on lengths. -/
import Derived.Test.YtpiiefmfiipabaaDoorConcat
import Derived.Test.YtpiiefmfiipabaaDoorPileLaw
import Derived.Deep.CutRange
namespace Go.Proofs.YtpiiefmfiipabaaDoor
open Go.ChangeShapes Go.WideShapes Go.ChangeAt Go.RowKit Go.Deep
theorem Rd.isNone {w : World} {B : Nat} {A : Option Addr} {z : List Int} (h : Rd w B A (ic z)) (hA : A = none) : z = [] := by
  rcases h with h | ⟨b, o, h, _⟩
  · simpa [ic] using h
  · rw [hA] at h; cases h
theorem own_room {w : World} {B T n size : Nat} {v : Value} {xs : List Value} (h : w.ownsRow B T size v n xs) : ∃ A c, v = .slice A n c ∧ Own w B T A xs ∧ n ≤ c ∧ c ≤ maxLen := by
  have h0 := h
  obtain ⟨hl, h⟩ := h
  rcases h with ⟨rfl, rfl⟩ | ⟨g, cap, cur, rfl, _, _, hn, hm, _⟩
  · exact ⟨none, 0, rfl, .inl (List.eq_nil_of_length_eq_zero (by simpa using hl)), Nat.le_refl _, Nat.zero_le _⟩
  · exact ⟨_, _, rfl, Own.of_row h0, hn, hm⟩
theorem idOk_at {z : List Int} {k : Nat} (h : k < z.length) : idOk z k = (inR z[k] 0 99 && (decide (z[k] = 0) || decide (z[k] ∉ z.take k))) := by
  simp [idOk, List.getD, List.getElem?_eq_getElem h]
theorem hiOk_at {p : PL} {k : Nat} (hs : p.2.length + 1 = p.1.length) (h : k < p.2.length) : hiOk p k = (decide (p.2[k] = 0) || (decide (p.1[k] ≠ 0) && decide (p.1[k + 1] ≠ 0))) := by
  simp [hiOk, List.getD, List.getElem?_eq_getElem h, List.getElem?_eq_getElem (show k < p.1.length by omega), List.getElem?_eq_getElem (show k + 1 < p.1.length by omega)]
theorem hi_nonneg {p : PL} {z : List Int} (hz : p.1 ++ p.2 = z) (h : ∀ j, j < z.length → idOk z j = true) {k : Nat} (hk : k < p.2.length) : 0 ≤ p.2[k] := by
  subst hz
  have := h (p.1.length + k) (by simp; omega)
  simp only [idOk, Bool.and_eq_true] at this
  have h1 := (inR_iff.1 this.1).1
  have e : (p.1 ++ p.2).getD (p.1.length + k) 0 = p.2[k] := by
    rw [List.getD, List.getElem?_append_right (by omega), show p.1.length + k - p.1.length = k by omega, List.getElem?_eq_getElem hk]; rfl
  rwa [e] at h1
theorem upto_succ {P : Nat → Prop} {m : Nat} (h : ∀ i, i < m → P i) (k : P m) : ∀ i, i < m + 1 → P i := fun i hi => by
  rcases Nat.lt_succ_iff_lt_or_eq.1 hi with h' | rfl
  · exact h i h'
  · exact k
theorem sizeOk_yes {p : PL} (h : sizeOk p = true) : 1 ≤ p.1.length ∧ p.1.length ≤ 6 ∧ p.2.length + 1 = p.1.length := by
  simp only [sizeOk, Bool.and_eq_true, inR_iff, decide_eq_true_eq] at h; omega

set_option maxRecDepth 100000 in
theorem pileValid_any (A A' : Option Addr) (c c' : Nat) (p : PL) (w : World) (hp : small p) (rp : RdP w w.heap.size A A' p) :
    Calls Tryd.prog 18 #[.agg #[.slice A p.1.length c, .slice A' p.2.length c']] w fun e w' => e = .returned (.bool (pileValid p)) ∧ Below w.heap.size w w' := by
  obtain ⟨hp1, hp2⟩ := hp
  cases hs : sizeOk p
  · have HF := hide (pileValid_noSize hs)
    have hs' := hs
    simp only [sizeOk, Bool.and_eq_false_iff, decide_eq_false_iff_not] at hs'
    by_cases h1 : inR (p.1.length : Int) 1 6 = true
    · have h2 : ((p.2.length : Int) != (p.1.length : Int) - 1) = true := by
        rcases hs' with h | h
        · rw [h1] at h; cases h
        · simpa using h
      clear hs hs'
      go_enter Tryd.func18, Tryd.ntmps18
      go_wp2_with (go_at_call 67; refine (within_any _ _ _ _).mono ?_; rintro e w' ⟨rfl, rfl⟩)
      go_ret
      exact ⟨ret_bool HF.out.symm, by go_grown⟩
    · have h1' := Bool.eq_false_iff.2 h1
      clear hs hs' h1
      go_enter Tryd.func18, Tryd.ntmps18
      go_wp2_with (go_at_call 67; refine (within_any _ _ _ _).mono ?_; rintro e w' ⟨rfl, rfl⟩)
      go_ret
      exact ⟨ret_bool HF.out.symm, by go_grown⟩
  · obtain ⟨z1, z2, z3⟩ := sizeOk_yes hs
    have h1 : inR (p.1.length : Int) 1 6 = true := inR_mk (by omega) (by omega)
    have h2 : ((p.2.length : Int) != (p.1.length : Int) - 1) = false := by simp; omega
    have HS := hide hs
    clear hs
    go_enter Tryd.func18, Tryd.ntmps18
    go_wp2_with (go_at_call 67; refine (within_any _ _ _ _).mono ?_; rintro e w' ⟨rfl, rfl⟩)
    have b0 := bel_two w (.cells #[.slice A p.1.length c, .slice A' p.2.length c'] 25) (.cells #[.slice A p.1.length c, .slice A' p.2.length c'] 23)
    have c0 : ((w.alloc (.cells #[.slice A p.1.length c, .slice A' p.2.length c'] 25)).alloc (.cells #[.slice A p.1.length c, .slice A' p.2.length c'] 23)).cell? ⟨w.heap.size + 1, 0, none⟩ = some (.slice A p.1.length c) := by simp [go_sem]
    have c1 : ((w.alloc (.cells #[.slice A p.1.length c, .slice A' p.2.length c'] 25)).alloc (.cells #[.slice A p.1.length c, .slice A' p.2.length c'] 23)).cell? ⟨w.heap.size + 1, 1, none⟩ = some (.slice A' p.2.length c') := by simp [go_sem]
    have d0 : ((w.alloc (.cells #[.slice A p.1.length c, .slice A' p.2.length c'] 25)).alloc (.cells #[.slice A p.1.length c, .slice A' p.2.length c'] 23)).cell? ⟨w.heap.size, 0, none⟩ = some (.slice A p.1.length c) := by simp [go_sem]
    have d1 : ((w.alloc (.cells #[.slice A p.1.length c, .slice A' p.2.length c'] 25)).alloc (.cells #[.slice A p.1.length c, .slice A' p.2.length c'] 23)).cell? ⟨w.heap.size, 1, none⟩ = some (.slice A' p.2.length c') := by simp [go_sem]
    generalize (w.alloc (.cells #[.slice A p.1.length c, .slice A' p.2.length c'] 25)).alloc (.cells #[.slice A p.1.length c, .slice A' p.2.length c'] 23) = w0 at *
    have rp0 := rp.up b0
    refine (concat_two _ _ A A' c c' p.1 p.2 w0 (by omega) (by omega) c0 c1 rp0.1 rp0.2 rp0.1.isNone rp0.2.isNone).mono ?_
    rintro e w1 ⟨v, rfl, own1, b1⟩
    obtain ⟨I, ci, rfl, oi, hci, hcm⟩ := own_room own1
    have bb := via b0 b1 b0.size
    have e0 := later (p := ⟨w.heap.size, 0, none⟩) b1 (block_lt_of_cell d0) d0
    have e1 := later (p := ⟨w.heap.size, 1, none⟩) b1 (block_lt_of_cell d1) d1
    have ri := oi.rd
    have rp1 := rp0.up b1
    have hzl : (p.1 ++ p.2).length ≤ 11 := by simp; omega
    have HP := hide (rfl : p.1 ++ p.2 = p.1 ++ p.2)
    have HV := hide ((pileValid_iff p).2)
    have HNI := hide (fun i h => pileValid_noId (p := p) (i := i) h)
    generalize hz : p.1 ++ p.2 = z at *
    have HZ := hide hz
    clear hz HP c0 c1 d0 d1 own1 oi b1 rp0 b0 rp h1 h2 hcm
    go_wp2
    go_loop [4, 5, 31] (fun _ _ i => ∃ k : Nat, k ≤ z.length ∧ i = .int .i64 k ∧ Hid (∀ j, j < k → idOk z j = true)) (fun _ _ i => z.length - (intOf i).toNat)
    case atStart => exact ⟨0, Nat.zero_le _, rfl, fun j hj => absurd hj (Nat.not_lt_zero _)⟩
    case round =>
      obtain ⟨k, hk, rfl, HT⟩ := hrel
      by_cases hlt : k < z.length
      · obtain ⟨b, o, hA, _, hc⟩ := ri.int hlt
        subst hA
        have HI := hide (idOk_at hlt)
        cases hin : inR z[k] 0 99
        · have HF := hide (HNI.out k hlt (by rw [HI.out, hin]; rfl))
          go_wp2_with (go_at_call 67; refine (within_any _ _ _ _).mono ?_; rintro e w' ⟨rfl, rfl⟩)
          go_ret
          exact ⟨ret_bool HF.out.symm, bb⟩
        · by_cases h0 : z[k] = 0
          · have HY := hide (upto_succ HT.out (by rw [HI.out, hin, h0]; rfl))
            have t0 : (z[k] != 0) = false := by simp [h0]
            clear h0
            go_wp2_with (go_at_call 67; refine (within_any _ _ _ _).mono ?_; rintro e w' ⟨rfl, rfl⟩)
            go_round
            case rel => exact ⟨k + 1, by omega, by go_num, HY⟩
            case measure => simp [intOf]; omega
          · have t0 : (z[k] != 0) = true := by simp [h0]
            have htk : (z.take k).length = k := by simp; omega
            have rt := ri.take k
            by_cases hm : z[k] ∈ z.take k
            · have HF := hide (HNI.out k hlt (by rw [HI.out, hin]; simp [h0, hm]))
              have HM := hide (show decide (z[k] ∈ z.take k) = true from decide_eq_true hm)
              clear h0 hm
              go_wp2_with (first | (go_at_call 67; refine (within_any _ _ _ _).mono ?_; rintro e w' ⟨rfl, rfl⟩) | (go_at_call 69; refine (contains_at _ _ _ _ _ _ htk (by omega) rt).mono ?_; rintro e w' ⟨rfl, rfl⟩; rw [HM.out]))
              go_ret
              exact ⟨ret_bool HF.out.symm, bb⟩
            · have HY := hide (upto_succ HT.out (by rw [HI.out, hin]; simp [h0, hm]))
              have HM := hide (show decide (z[k] ∈ z.take k) = false from decide_eq_false hm)
              clear h0 hm
              go_wp2_with (first | (go_at_call 67; refine (within_any _ _ _ _).mono ?_; rintro e w' ⟨rfl, rfl⟩) | (go_at_call 69; refine (contains_at _ _ _ _ _ _ htk (by omega) rt).mono ?_; rintro e w' ⟨rfl, rfl⟩; rw [HM.out]))
              go_round
              case rel => exact ⟨k + 1, by omega, by go_num, HY⟩
              case measure => simp [intOf]; omega
      · have hkz : k = z.length := by omega
        subst hkz
        go_wp2
        go_loop [6, 7, 54] (fun _ _ i => ∃ k : Nat, k ≤ p.2.length ∧ i = .int .i64 k ∧ Hid (∀ j, j < k → hiOk p j = true)) (fun _ _ i => p.2.length - (intOf i).toNat)
        case atStart => exact ⟨0, Nat.zero_le _, rfl, fun j hj => absurd hj (Nat.not_lt_zero _)⟩
        case round =>
          obtain ⟨k, hk, rfl, HK⟩ := hrel
          by_cases hlt : k < p.2.length
          · obtain ⟨b, o, hA, _, hc⟩ := rp1.2.int hlt
            have hka : k < p.1.length := by omega
            have hkb : k + 1 < p.1.length := by omega
            obtain ⟨ba, oa, hA1, _, hca⟩ := rp1.1.int hka
            obtain ⟨bb', ob, hA2, _, hcb⟩ := rp1.1.int hkb
            subst hA hA1
            injection hA2 with hA2
            injection hA2 with h3 h4
            subst h3 h4
            have i1 : (k : Int) < (p.1.length : Int) := by omega
            have i2 : (k : Int) + 1 < (p.1.length : Int) := by omega
            have i3 : (0 : Int) ≤ (k : Int) + 1 := by omega
            have i4 : ((k : Int) + 1).toNat = k + 1 := by omega
            have HO := hide (hiOk_at z3 hlt)
            by_cases h0 : p.2[k] = 0
            · have HY := hide (upto_succ HK.out (by rw [HO.out, h0]; rfl))
              have t0 : (p.2[k] != 0) = false := by simp [h0]
              clear h0
              go_wp2
              go_round
              case rel => exact ⟨k + 1, by omega, by go_num, HY⟩
              case measure => simp [intOf]; omega
            · have t0 : (p.2[k] != 0) = true := by simp [h0]
              by_cases ha : p.1[k] = 0
              · have HF := hide (pileValid_noHi (p := p) (k := k) hlt (by rw [HO.out]; simp [h0, ha]))
                have t1 : (p.1[k] == 0) = true := by simp [ha]
                clear h0 ha
                go_wp2
                go_ret
                exact ⟨ret_bool HF.out.symm, bb⟩
              · have t1 : (p.1[k] == 0) = false := by simp [ha]
                by_cases hb : p.1[k + 1] = 0
                · have HF := hide (pileValid_noHi (p := p) (k := k) hlt (by rw [HO.out]; simp [h0, hb]))
                  have t2 : (p.1[k + 1] == 0) = true := by simp [hb]
                  clear h0 ha hb
                  go_wp2
                  go_ret
                  exact ⟨ret_bool HF.out.symm, bb⟩
                · have HY := hide (upto_succ HK.out (by rw [HO.out]; simp [h0, ha, hb]))
                  have t2 : (p.1[k + 1] == 0) = false := by simp [hb]
                  clear h0 ha hb
                  go_wp2
                  go_round
                  case rel => exact ⟨k + 1, by omega, by go_num, HY⟩
                  case measure => simp [intOf]; omega
          · have hkp : k = p.2.length := by omega
            subst hkp
            have HE := hide (HV.out ⟨⟨⟨z1, z2⟩, z3⟩, HT.out, HK.out⟩)
            go_wp2
            go_ret
            exact ⟨ret_bool HE.out.symm, bb⟩
set_option maxHeartbeats 1600000 in
set_option maxRecDepth 100000 in
theorem pileValid_spec (A A' : Option Addr) (c c' : Nat) (p : PL) (w : World) (hp : small p) (rp : RdP w w.heap.size A A' p) :
    Calls Tryd.prog 19 #[.agg #[.slice A p.1.length c, .slice A' p.2.length c']] w fun e w' => e = .returned (.bool (pileValid p)) ∧ Below w.heap.size w w' := by
  obtain ⟨hp1, hp2⟩ := hp
  cases hs : sizeOk p
  · have HF := hide (pileValid_noSize hs)
    have hs' := hs
    simp only [sizeOk, Bool.and_eq_false_iff, decide_eq_false_iff_not] at hs'
    by_cases h1 : inR (p.1.length : Int) 1 6 = true
    · have h2 : ((p.2.length : Int) != (p.1.length : Int) - 1) = true := by
        rcases hs' with h | h
        · rw [h1] at h; cases h
        · simpa using h
      clear hs hs'
      go_enter Tryd.func19, Tryd.ntmps19
      go_wp2_with (go_at_call 70; refine (l1In_any _ _ _ _).mono ?_; rintro e w' ⟨rfl, rfl⟩)
      go_ret
      exact ⟨ret_bool HF.out.symm, by go_grown⟩
    · have h1' := Bool.eq_false_iff.2 h1
      clear hs hs' h1
      go_enter Tryd.func19, Tryd.ntmps19
      go_wp2_with (go_at_call 70; refine (l1In_any _ _ _ _).mono ?_; rintro e w' ⟨rfl, rfl⟩)
      go_ret
      exact ⟨ret_bool HF.out.symm, by go_grown⟩
  · obtain ⟨z1, z2, z3⟩ := sizeOk_yes hs
    have h1 : inR (p.1.length : Int) 1 6 = true := inR_mk (by omega) (by omega)
    have h2 : ((p.2.length : Int) != (p.1.length : Int) - 1) = false := by simp; omega
    have HS := hide hs
    clear hs
    go_enter Tryd.func19, Tryd.ntmps19
    go_wp2_with (go_at_call 70; refine (l1In_any _ _ _ _).mono ?_; rintro e w' ⟨rfl, rfl⟩)
    have b0 := bel_one w (.cells #[.slice A p.1.length c, .slice A' p.2.length c'] 25)
    have d0 : (w.alloc (.cells #[.slice A p.1.length c, .slice A' p.2.length c'] 25)).cell? ⟨w.heap.size, 0, none⟩ = some (.slice A p.1.length c) := by simp [go_sem]
    have d1 : (w.alloc (.cells #[.slice A p.1.length c, .slice A' p.2.length c'] 25)).cell? ⟨w.heap.size, 1, none⟩ = some (.slice A' p.2.length c') := by simp [go_sem]
    generalize w.alloc (.cells #[.slice A p.1.length c, .slice A' p.2.length c'] 25) = w0 at *
    have ho := own_fresh w0 w.heap.size b0.size
    have bf := bel_fresh w0
    have bz := via b0 bf b0.size
    have rp0 := (rp.up b0).up bf
    have HD0 := hide (fun W (h : Below w0.heap.size w0 W) => later (p := ⟨w.heap.size, 0, none⟩) h (block_lt_of_cell d0) d0)
    have HD1 := hide (fun W (h : Below w0.heap.size w0 W) => later (p := ⟨w.heap.size, 1, none⟩) h (block_lt_of_cell d1) d1)
    have f0 : (w0.alloc (.cells #[] 3)).cell? ⟨w.heap.size, 0, none⟩ = some (.slice A p.1.length c) := HD0.out _ (bel_alloc _ _)
    have f1 : (w0.alloc (.cells #[] 3)).cell? ⟨w.heap.size, 1, none⟩ = some (.slice A' p.2.length c') := HD1.out _ (bel_alloc _ _)
    go_cut [3] from 21 (fun v wx => wx.ownsRow w0.heap.size 3 1 v (p.1 ++ p.2).length (ic (p.1 ++ p.2)) ∧ Below w0.heap.size w0 wx)
    case first =>
      go_region_law (first
        | (refine step_append_rd rfl (.tmp 21) (.tmp 23) rfl w0.heap.size _ _ [] p.1 (by simp [Act.eval]) (own_fresh w0 w0.heap.size (Nat.le_refl _)) A _ c (by simp [Act.eval]) rfl rp0.1 rp0.1.isNone (by simp) (by omega) bf.size ?_
           intro v1 w1 hap1
           have bb1 := bf.trans (hap1.below (own_fresh w0 w0.heap.size (Nat.le_refl _)) bf.size)
           have ho1 := hide hap1.1
           have g0 := HD0.out w1 bb1
           have g1 := HD1.out w1 bb1
           clear hap1)
        | (refine step_append_rd rfl (.tmp 24) (.tmp 26) rfl w0.heap.size _ _ ([] ++ p.1) p.2 (by simp [Act.eval]) ho1.out A' _ c' (by simp [Act.eval]) rfl ((rp.up b0).2.up bb1) ((rp.up b0).2.up bb1).isNone (by simp; omega) (by omega) bb1.size ?_
           intro v2 w2 hap2
           have bb2 := bb1.trans (hap2.below ho1.out bb1.size)
           have ho2 := hide hap2.1
           clear hap2))
      all_goals (go_wp2_with fail; go_meet; exact ⟨by have := ho2.out; simpa using this, bb2⟩)
    case rest =>
      obtain ⟨own1, b1⟩ := hcut
      have own1' := (show _ from own1)
      obtain ⟨I, ci, rfl, oi, hci, hcm⟩ := own_room own1
      have bb := via b0 b1 b0.size
      have e0 := HD0.out _ b1
      have e1 := HD1.out _ b1
      have ri := oi.rd
      have rp1 := (rp.up b0).up b1
      have hzl : (p.1 ++ p.2).length ≤ 11 := by simp; omega
      have HV := hide ((pileValid_iff p).2)
      have HNI := hide (fun i h => pileValid_noId (p := p) (i := i) h)
      generalize hz : p.1 ++ p.2 = z at *
      have HZ := hide hz
      clear hz d0 d1 own1 own1' oi b1 b0 rp h1 h2 hcm HD0 HD1 f0 f1 ho bf bz rp0
      go_wp2
      go_loopw [4] (fun i wr => ∃ k : Nat, k ≤ z.length ∧ i = .int .i64 k ∧ Hid (∀ j, j < k → idOk z j = true) ∧ Below wc.heap.size wc wr) (fun i _ => z.length - (intOf i).toNat)
      case atStart => exact ⟨0, Nat.zero_le _, rfl, fun j hj => absurd hj (Nat.not_lt_zero _), Below.refl _ _⟩
      case round =>
        obtain ⟨k, hk, rfl, HT, hbel⟩ := hrel
        have hbz := hbel.size
        have hbw := via bb hbel bb.size
        by_cases hlt : k < z.length
        · obtain ⟨b, o, hA, _, hc⟩ := ri.int hlt
          subst hA
          have x1 := Ext.old (later hbel (p := ⟨b, o + k, none⟩) (block_lt_of_cell hc) hc)
          have i0 : (0 : Int) ≤ (k : Int) := by omega
          have i1 : (k : Int) < (z.length : Int) := by omega
          have HI := hide (idOk_at hlt)
          have htk : (z.take k).length = k := by simp; omega
          have HR := hide (fun X : Ext wr => ((ri.take k).up hbel).up X.below)
          cases hin : inR z[k] 0 99
          · have HF := hide (HNI.out k hlt (by rw [HI.out, hin]; rfl))
            have HE := hide hin
            clear hin hc
            go_wp2
            refine wp_region_ext (by kernel_rfl) (by kernel_rfl) ?_
            repeat (go_big_quiet_step ((go_at_call 70; refine ext_same (v := .bool false) (congrArg Value.bool HE.out) (l1In_any _ _ _ _))))
            refine wpQuiet_nil ?_
            intro _ hw'
            obtain ⟨⟨wn, hbn⟩, hw''⟩ := hw'
            subst hw''
            have hbw3 := via hbw hbn hbw.size
            go_wp2
            go_ret
            exact ⟨ret_bool HF.out.symm, hbw3⟩
          · have hnn := (inR_iff.1 hin).1
            have HE := hide hin
            by_cases h0 : z[k] = 0
            · have HY := hide (upto_succ HT.out (by rw [HI.out, hin, h0]; rfl))
              have t0 : decide (z[k] > 0) = false := by simp [h0]
              have t1 : decide (0 < z[k]) = false := by simp [h0]
              clear hin hc h0 hnn
              go_wp2
              refine wp_region_ext (by kernel_rfl) (by kernel_rfl) ?_
              repeat (go_big_quiet_step ((go_at_call 70; refine ext_same (v := .bool true) (congrArg Value.bool HE.out) (l1In_any _ _ _ _))))
              refine wpQuiet_nil ?_
              intro _ hw'
              obtain ⟨⟨wn, hbn⟩, hw''⟩ := hw'
              subst hw''
              have hbw3 := via hbel hbn hbz
              go_wp2
              go_roundw
              case rel => exact ⟨k + 1, by omega, by go_num, HY, hbw3⟩
              case measure => simp [intOf]; omega
            · have t0 : decide (z[k] > 0) = true := by simp; omega
              have t1 : decide (0 < z[k]) = true := by simp; omega
              by_cases hm : z[k] ∈ z.take k
              · have HF := hide (HNI.out k hlt (by rw [HI.out, hin]; simp [h0, hm]))
                have HM := hide (show decide (z[k] ∈ z.take k) = true from decide_eq_true hm)
                clear hin hc h0 hnn hm
                go_wp2
                refine wp_region_ext (by kernel_rfl) (by kernel_rfl) ?_
                repeat (go_big_quiet_step (first | (go_at_call 70; refine ext_same (v := .bool true) (congrArg Value.bool HE.out) (l1In_any _ _ _ _)) | (go_at_call 71; refine ext_same (v := .bool true) (congrArg Value.bool HM.out) (has_at _ _ _ _ _ _ htk (by omega) (HR.out _)))))
                refine wpQuiet_nil ?_
                intro _ hw'
                obtain ⟨⟨wn, hbn⟩, hw''⟩ := hw'
                subst hw''
                have hbw3 := via hbw hbn hbw.size
                go_wp2
                go_ret
                exact ⟨ret_bool HF.out.symm, hbw3⟩
              · have HY := hide (upto_succ HT.out (by rw [HI.out, hin]; simp [h0, hm]))
                have HM := hide (show decide (z[k] ∈ z.take k) = false from decide_eq_false hm)
                clear hin hc h0 hnn hm
                go_wp2
                refine wp_region_ext (by kernel_rfl) (by kernel_rfl) ?_
                repeat (go_big_quiet_step (first | (go_at_call 70; refine ext_same (v := .bool true) (congrArg Value.bool HE.out) (l1In_any _ _ _ _)) | (go_at_call 71; refine ext_same (v := .bool false) (congrArg Value.bool HM.out) (has_at _ _ _ _ _ _ htk (by omega) (HR.out _)))))
                refine wpQuiet_nil ?_
                intro _ hw'
                obtain ⟨⟨wn, hbn⟩, hw''⟩ := hw'
                subst hw''
                have hbw3 := via hbel hbn hbz
                go_wp2
                go_roundw
                case rel => exact ⟨k + 1, by omega, by go_num, HY, hbw3⟩
                case measure => simp [intOf]; omega
        · have hkz : k = z.length := by omega
          subst hkz
          have e0' := later hbel (p := ⟨w.heap.size, 0, none⟩) (block_lt_of_cell e0) e0
          have e1' := later hbel (p := ⟨w.heap.size, 1, none⟩) (block_lt_of_cell e1) e1
          have rp2 := rp1.up hbel
          go_wp2
          go_loop [5] (fun i => ∃ k : Nat, k ≤ p.2.length ∧ i = .int .i64 k ∧ Hid (∀ j, j < k → hiOk p j = true)) (fun i => p.2.length - (intOf i).toNat)
          case atStart => exact ⟨0, Nat.zero_le _, rfl, fun j hj => absurd hj (Nat.not_lt_zero _)⟩
          case round =>
            obtain ⟨k, hk, rfl, HK⟩ := hrel
            by_cases hlt : k < p.2.length
            · obtain ⟨b, o, hA, _, hc⟩ := rp2.2.int hlt
              have hka : k < p.1.length := by omega
              have hkb : k + 1 < p.1.length := by omega
              obtain ⟨ba, oa, hA1, _, hca⟩ := rp2.1.int hka
              obtain ⟨bb', ob, hA2, _, hcb⟩ := rp2.1.int hkb
              subst hA hA1
              injection hA2 with hA2
              injection hA2 with h3 h4
              subst h3 h4
              have i1 : (k : Int) < (p.1.length : Int) := by omega
              have i2 : (k : Int) + 1 < (p.1.length : Int) := by omega
              have i3 : (0 : Int) ≤ (k : Int) + 1 := by omega
              have i4 : ((k : Int) + 1).toNat = k + 1 := by omega
              have hnn := hi_nonneg HZ.out HT.out hlt
              have HO := hide (hiOk_at z3 hlt)
              by_cases h0 : p.2[k] = 0
              · have HY := hide (upto_succ HK.out (by rw [HO.out, h0]; rfl))
                have t0 : decide (p.2[k] > 0) = false := by simp [h0]
                have t1 : decide (0 < p.2[k]) = false := by simp [h0]
                clear h0 hnn
                go_wp2
                go_round
                case rel => exact ⟨k + 1, by omega, by go_num, HY⟩
                case measure => simp [intOf]; omega
              · have t0 : decide (p.2[k] > 0) = true := by simp; omega
                have t0' : decide (0 < p.2[k]) = true := by simp; omega
                by_cases ha : p.1[k] = 0
                · have HF := hide (pileValid_noHi (p := p) (k := k) hlt (by rw [HO.out]; simp [h0, ha]))
                  have t1 : (p.1[k] == 0) = true := by simp [ha]
                  clear h0 ha hnn
                  go_wp2
                  go_ret
                  exact ⟨ret_bool HF.out.symm, hbw⟩
                · have t1 : (p.1[k] == 0) = false := by simp [ha]
                  by_cases hb : p.1[k + 1] = 0
                  · have HF := hide (pileValid_noHi (p := p) (k := k) hlt (by rw [HO.out]; simp [h0, hb]))
                    have t2 : (p.1[k + 1] == 0) = true := by simp [hb]
                    clear h0 ha hb hnn
                    go_wp2
                    go_ret
                    exact ⟨ret_bool HF.out.symm, hbw⟩
                  · have HY := hide (upto_succ HK.out (by rw [HO.out]; simp [h0, ha, hb]))
                    have t2 : (p.1[k + 1] == 0) = false := by simp [hb]
                    clear h0 ha hb hnn
                    go_wp2
                    go_round
                    case rel => exact ⟨k + 1, by omega, by go_num, HY⟩
                    case measure => simp [intOf]; omega
            · have hkp : k = p.2.length := by omega
              subst hkp
              have HE := hide (HV.out ⟨⟨⟨z1, z2⟩, z3⟩, HT.out, HK.out⟩)
              go_wp2
              go_ret
              exact ⟨ret_bool HE.out.symm, hbw⟩
end Go.Proofs.YtpiiefmfiipabaaDoor
