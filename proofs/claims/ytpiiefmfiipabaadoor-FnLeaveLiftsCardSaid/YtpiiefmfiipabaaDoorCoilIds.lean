/- CoilIds, the program's and the reference's. No conditions but bounds on lengths. -/
import Derived.Test.YtpiiefmfiipabaaDoorCoil
import Derived.Test.YtpiiefmfiipabaaDoorListKit
import Derived.Test.YtpiiefmfiipabaaDoorBoxes
import Derived.Test.YtpiiefmfiipabaaDoorSort
import Derived.Sort.OwnSortedInts
namespace Go.Proofs.YtpiiefmfiipabaaDoor
open Go.ChangeShapes Go.WideShapes Go.ChangeAt Go.RowKit Go.Deep
def srt (z : List Int) : List Int := z.mergeSort fun x y => decide (x ≤ y)
theorem srt_len (z : List Int) : (srt z).length = z.length := List.length_mergeSort _
theorem srt_ids {p : PL} (V : Vd p) : srt (some0 (p.1 ++ p.2)) = coilIds p := by
  refine ids_perm V (List.mergeSort_perm _ _) ?_
  have hw := List.pairwise_mergeSort (le := fun a b : Int => decide (a ≤ b)) (by intro a b c; simp; omega) (by intro a b; simp; omega) (some0 (p.1 ++ p.2))
  exact hw.imp fun h => by simpa using h
theorem sort_own {B : Nat} (v : Value) (z : List Int) (w : World) (hown : w.ownsRow B 3 1 v z.length (ic z)) (hz : z.length ≤ 1048576) :
    Calls Tryd.prog 86 #[v] w fun e w' => e = .returned (.tuple #[]) ∧ w'.ownsRow B 3 1 v (srt z).length (ic (srt z)) ∧ w.grownBy w' v.ownBlock := by
  rw [srt_len]
  obtain ⟨hl, h⟩ := hown
  rcases h with ⟨rfl, hx⟩ | ⟨g, cap, cur, rfl, hg, hb, hn, hm, hc, ht⟩
  · obtain rfl : z = [] := by simpa [ic] using hx
    refine (sort_int_none none 0 w).mono ?_
    rintro e w' ⟨rfl, rfl⟩
    have e : srt ([] : List Int) = [] := List.eq_nil_of_length_eq_zero (srt_len [])
    rw [e]
    exact ⟨rfl, ⟨rfl, .inl ⟨rfl, rfl⟩⟩, World.grownBy.refl _ _⟩
  · have ht' : cur.toList.take z.length = z.map (Value.int .i64) := by rw [Nat.mul_one] at ht; exact ht
    refine (sort_int g 0 cap z w (holds_of_blockI hb ht') (lt_of_block hb) (by omega)).mono ?_
    rintro e w' ⟨rfl, n, os, rfl⟩
    exact ⟨rfl, ownsRow_sortedI (srt_len z) hg hb hn hm hc, grownBy_sortedI _⟩
theorem some0_snoc {z : List Int} {k : Nat} (h : k < z.length) : some0 (z.take (k + 1)) = some0 (z.take k) ++ (if z[k] = 0 then [] else [z[k]]) := by
  unfold some0
  rw [List.take_succ_eq_append_getElem h, List.filter_append]
  by_cases h0 : z[k] = 0 <;> simp [h0]
theorem some0_le (z : List Int) (k : Nat) : (some0 (z.take k)).length ≤ k := Nat.le_trans (List.length_filter_le _ _) (by rw [List.length_take]; omega)
set_option maxHeartbeats 1600000 in
theorem coilIds_any (A A' : Option Addr) (c c' : Nat) (p : PL) (w : World) (hp : small p) (rp : RdP w w.heap.size A A' p) :
    Calls Tryd.prog 47 #[.agg #[.slice A p.1.length c, .slice A' p.2.length c']] w (IntsOk w (coilIds p)) := by
  have hE := hide hp
  go_enter Tryd.func47, Tryd.ntmps47
  go_wp2_with fail
  obtain ⟨b0, k0, k1, hzz⟩ := box_one w 25 (.slice A p.1.length c) (.slice A' p.2.length c') _ rfl
  generalize w.alloc (.cells #[.slice A p.1.length c, .slice A' p.2.length c'] 25) = w0 at *
  have K0 := Ext.old k0
  have K1 := Ext.old k1
  have RP := hide (fun x : Ext w0 => (rp.up b0).up x.below)
  obtain ⟨x0, hx0⟩ := ext_self w0
  rw [← hx0]
  clear hx0 k0 k1 hzz
  cases hv : pileValid p
  · have HF := hide (ids_no (p := p) (fun V => by rw [(vd_iff p).2 V] at hv; cases hv))
    go_wp2_with (go_at_call 18; refine (pileValid_any A A' c c' p _ hE.out (RP.out _)).mono ?_; rintro e w' ⟨rfl, b⟩; rw [hv]; obtain ⟨x, rfl⟩ := ext_next b; clear b)
    go_ret
    rw [HF.out]
    exact intsOk_nil (via b0 (Ext.below _) b0.size)
  · have HS := hide (srt_ids ((vd_iff p).1 hv))
    obtain ⟨z1, z2, z3⟩ := pileValid_size hv
    have HV := hide hv
    clear hv
    go_wp2_with (go_at_call 18; refine (pileValid_any A A' c c' p _ hE.out (RP.out _)).mono ?_; rintro e w' ⟨rfl, b⟩; rw [HV.out]; obtain ⟨x, rfl⟩ := ext_next b; clear b)
    have rx := (RP.out x).up (bel_one x.val (.cells #[.slice A p.1.length c, .slice A' p.2.length c'] 23))
    refine (concat_two _ _ A A' c c' p.1 p.2 _ (by omega) (by omega) (by simp [go_sem]) (by simp [go_sem]) rx.1 rx.2 rx.1.isNone rx.2.isNone).mono ?_
    rintro e w1 ⟨v, rfl, own1, b1⟩
    obtain ⟨I, ci, rfl, oi, _, _⟩ := own_room own1
    have bw := via b0 (via x.below (via (bel_one _ _) b1 (by simp)) x.below.size) b0.size
    have ri := oi.rd
    have hzl : (p.1 ++ p.2).length ≤ 11 := by simp; omega
    generalize p.1 ++ p.2 = zz at *
    clear own1 oi b1 rx K0 K1 RP
    go_wp2
    go_loopw [3, 5, 16] (fun v _ i wr => ∃ (k : Nat) (y : Ext w1), k ≤ zz.length ∧ i = .int .i64 k ∧ wr = y.val ∧ y.val.ownsRow w1.heap.size 3 1 v (some0 (zz.take k)).length (ic (some0 (zz.take k)))) (fun _ _ i _ => zz.length - (intOf i).toNat)
    case atStart => exact ⟨0, Ext.base w1, Nat.zero_le _, rfl, rfl, by simpa [some0, ic] using World.ownsRow_nil _ _ _ _⟩
    case round =>
      obtain ⟨k, xr, hk, rfl, rfl, hown⟩ := hrel
      by_cases hlt : k < zz.length
      · obtain ⟨b, o, hA, _, hc⟩ := ri.int hlt
        subst hA
        have hc := Ext.old hc
        have hst := some0_snoc hlt
        have hle := some0_le zz k
        by_cases h0 : zz[k] = 0
        · rw [if_pos h0, List.append_nil] at hst
          have HY := hide hst
          have t0 : (zz[k] != 0) = false := by simp [h0]
          clear h0 hst
          go_wp2
          go_roundw
          case rel => exact ⟨k + 1, xr, by omega, by go_num, rfl, by rw [HY.out]; exact hown⟩
          case measure => simp [intOf]; omega
        · rw [if_neg h0] at hst
          have HY := hide hst
          have t0 : (zz[k] != 0) = true := by simp [h0]
          clear h0 hst
          go_wp2_with (at_builtin; refine wpList_append_rd rfl _ _ rfl w1.heap.size _ _ (some0 (zz.take k)) [zz[k]] rfl (hown.alloc _) _ _ _ rfl rfl (rd_one _ _ _) (fun h => by cases h) (by omega) (by simp) (by have := xr.below.size; simp; omega) ?_; intro v' w' hap; have hap' := hide hap; clear hap)
          obtain ⟨yy, rfl, ho⟩ := ext_app (xr.below.alloc xr.below.size _) (hown.alloc _) hap'.out
          go_roundw
          case rel => exact ⟨k + 1, yy, by omega, by go_num, rfl, by rw [HY.out]; exact ho⟩
          case measure => simp [intOf]; omega
      · obtain rfl : k = zz.length := by omega
        rw [List.take_length] at hown
        have hle : (some0 zz).length ≤ 11 := Nat.le_trans (List.length_filter_le _ _) hzl
        go_wp2_with (go_at_call 86; refine (sort_own _ (some0 zz) _ hown (by omega)).mono ?_; rintro e w' ⟨rfl, ho, hg⟩)
        go_ret
        rw [← HS.out]
        have hb := xr.below.grown hg xr.below.size fun k hk => (hown.lt k hk).1
        exact intsOk_of ho bw.size (via bw hb bw.size)
/-- The ids up to m that are found. -/
def idsTo (p : PL) (m : Nat) : List Int := ((List.range m).map fun k : Nat => (k : Int) + 1).filter fun id => (coilFind p id).isSome
theorem idsTo_all (p : PL) : idsTo p 99 = coilIds p := rfl
theorem idsTo_succ (p : PL) (m : Nat) : idsTo p (m + 1) = idsTo p m ++ (if (coilFind p ((m : Int) + 1)).isSome = true then [(m : Int) + 1] else []) := by
  unfold idsTo
  rw [List.range_succ, List.map_append, List.filter_append]
  by_cases h : (coilFind p ((m : Int) + 1)).isSome = true <;> simp [h]
theorem idsTo_le (p : PL) (m : Nat) : (idsTo p m).length ≤ m := Nat.le_trans (List.length_filter_le _ _) (by simp)
set_option maxRecDepth 100000 in
set_option maxHeartbeats 1600000 in
theorem coilIds_spec (A A' : Option Addr) (c c' : Nat) (p : PL) (w : World) (hp : small p) (rp : RdP w w.heap.size A A' p) :
    Calls Tryd.prog 60 #[.agg #[.slice A p.1.length c, .slice A' p.2.length c']] w (IntsOk w (coilIds p)) := by
  have hE := hide hp
  go_enter Tryd.func60, Tryd.ntmps60
  go_wp2_with fail
  obtain ⟨b0, k0, k1, hzz⟩ := box_one w 25 (.slice A p.1.length c) (.slice A' p.2.length c') _ rfl
  generalize w.alloc (.cells #[.slice A p.1.length c, .slice A' p.2.length c'] 25) = w0 at *
  have K0 := Ext.old k0
  have K1 := Ext.old k1
  have RP := hide (fun x : Ext w0 => (rp.up b0).up x.below)
  obtain ⟨x0, hx0⟩ : ∃ x : Ext w0, x.val = w0.alloc (.cells #[] 3) := ⟨⟨_, bel_alloc _ _⟩, rfl⟩
  have hown : x0.val.ownsRow w0.heap.size 3 1 (.slice (some ⟨w0.heap.size, 0, none⟩) 0 0) ([] : List Int).length (ic []) := by rw [hx0]; exact World.ownsRow_made w0 #[] 0 (Nat.le_refl _) (Nat.zero_le _) rfl
  rw [← hx0, ← hzz]
  clear hx0 k0 k1 hzz
  go_loopw [3, 4, 5, 6] (fun v i _ _ wr => ∃ (m : Nat) (y : Ext w0), m ≤ 99 ∧ i = .int .i64 ((m : Int) + 1) ∧ wr = y.val ∧ y.val.ownsRow w0.heap.size 3 1 v (idsTo p m).length (ic (idsTo p m))) (fun _ i _ _ _ => (100 - intOf i).toNat)
  case atStart => exact ⟨0, x0, Nat.zero_le _, rfl, rfl, hown⟩
  case round =>
    obtain ⟨m, xr, hm, rfl, rfl, hown⟩ := hrel
    by_cases hlt : m < 99
    · have hst := idsTo_succ p m
      have hle := idsTo_le p m
      have HC := hide (fun c c' w hp rp => coilFind_spec A A' c c' p ((m : Int) + 1) w hp rp)
      unfold SpotOk at HC
      generalize (findV p ((m : Int) + 1)).1 = ft at *
      generalize (findV p ((m : Int) + 1)).2 = fk at *
      generalize (coilFind p ((m : Int) + 1)).isSome = fo at *
      cases fo
      · rw [if_neg (by simp), List.append_nil] at hst
        have HY := hide hst
        clear hst
        go_wp2_with (go_at_call 63; refine (HC.out c c' _ hE.out (RP.out _)).mono ?_; rintro e w' ⟨rfl, b⟩; have hown := owns_below hown b; obtain ⟨x, rfl⟩ := ext_next b; clear b)
        go_roundw
        case rel => exact ⟨m + 1, ⟨_, x.below.alloc x.below.size _⟩, by omega, by go_num, rfl, by rw [HY.out]; exact hown.alloc _⟩
        case measure => simp [intOf]; omega
      · rw [if_pos rfl] at hst
        have HY := hide hst
        clear hst
        go_wp2_with (first
          | (go_at_call 63; refine (HC.out c c' _ hE.out (RP.out _)).mono ?_; rintro e w' ⟨rfl, b⟩; have hown := owns_below hown b; obtain ⟨x, rfl⟩ := ext_next b; clear b)
          | (at_builtin; have rd1 := rd_one (x.val.alloc (.cells #[.bool ft, .int .i64 fk] 31)) ((m : Int) + 1) 3; rw [World.size_alloc x.val] at rd1; (refine wpList_append_rd rfl _ _ rfl w0.heap.size _ _ (idsTo p m) [(m : Int) + 1] rfl ((hown.alloc _).alloc _) _ _ _ rfl rfl rd1 (fun h => by cases h) (by omega) (by simp) (by have := x.below.size; rw [World.size_alloc, World.size_alloc]; omega) ?_; intro v' w' hap; have hap' := hide hap; clear hap)))
        obtain ⟨yy, rfl, ho⟩ := ext_app ((x.below.alloc x.below.size _).alloc (by have := x.below.size; simp; omega) _) ((hown.alloc _).alloc _) hap'.out
        go_roundw
        case rel => exact ⟨m + 1, yy, by omega, by go_num, rfl, by rw [HY.out]; exact ho⟩
        case measure => simp [intOf]; omega
    · obtain rfl : m = 99 := by omega
      have HF := hide (idsTo_all p)
      go_wp2
      go_ret
      rw [← HF.out]
      exact intsOk_of hown b0.size (via b0 (Ext.below _) b0.size)
end Go.Proofs.YtpiiefmfiipabaaDoor
