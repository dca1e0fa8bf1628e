/- The laws' helpers over rows of rows of numbers: compared, marked, held. No conditions but bounds on lengths. -/
import Derived.Test.YtcdoopccmljaoaaDoorRoundsSpec
namespace Go.Proofs.YtcdoopccmljaoaaDoor
open Go.ChangeShapes Go.WideShapes Go.ChangeAt Go.RowKit Go.Deep
theorem Rd.bxs {w : World} {B : Nat} {A : Option Addr} {ts : List Bx} (h : Rd w B A (bvs ts)) {k : Nat} (hk : k < ts.length) : ∃ b o, A = some ⟨b, o, none⟩ ∧ b < B ∧ w.cell? ⟨b, o + k, none⟩ = some (bv ts[k]) := by
  obtain ⟨b, o, hA, hb, hc⟩ := h.at (k := k) (by rw [bvs_len]; exact hk)
  exact ⟨b, o, hA, hb, by rw [hc k (by rw [bvs_len]; exact hk)]; simp [bvs]⟩
theorem rd_apart {w w' : World} {B : Nat} {A : Option Addr} {xs : List Value} {row : Option Nat} (h : Rd w B A xs) (hB : B ≤ w.heap.size) (hb : w.grownBy w' row) (hne : ∀ b o s, A = some ⟨b, o, s⟩ → some b ≠ row) : Rd w' B A xs := by
  rcases h with h | ⟨b, o, rfl, hlt, hc⟩
  · exact .inl h
  · refine .inr ⟨b, o, rfl, hlt, fun j hj => ?_⟩
    rw [← hc j hj]
    simp only [World.cell?, hb.block b (by omega) (hne _ _ _ rfl)]
theorem brs_get {ts us : List Bx} (e : brs ts = brs us) (k : Nat) (h : k < ts.length) (h' : k < us.length) : ts[k].2.2 = us[k].2.2 := by
  have h1 : (brs ts)[k]'(by rw [brs_len]; exact h) = ts[k].2.2 := by simp [brs]
  have h2 : (brs us)[k]'(by rw [brs_len]; exact h') = us[k].2.2 := by simp [brs]
  rw [← h1, ← h2]
  simp only [e]
set_option linter.unusedVariables false in
theorem sameLists_any (A A' : Option Addr) (c d : Nat) (ts us : List Bx) (w : World) (hn : ts.length ≤ 1048576) (hs : ∀ t ∈ ts, t.2.2.length ≤ 1048576) (e : brs ts = brs us) (hx : Rd w w.heap.size A (bvs ts)) (hy : Rd w w.heap.size A' (bvs us)) (bx : Bxs w 0 ts) (bu : Bxs w 0 us) :
    Calls Tryd.prog 66 #[.slice A ts.length c, .slice A' us.length d] w fun e w' => e = .returned (.bool true) ∧ Below w.heap.size w w' := by
  have hlen : ts.length = us.length := by rw [← brs_len, e, brs_len]
  have b1 : ((ts.length : Int) != (us.length : Int)) = false := by simp [hlen]
  have HE := hide (brs_get e)
  have HL := hide hlen
  have HS := hide hs
  clear hlen e hs
  go_enter Tryd.func66, Tryd.ntmps66
  go_wp2
  go_loopw [5] (fun i wr => ∃ k : Nat, k ≤ ts.length ∧ i = .int .i64 k ∧ Below w.heap.size w wr) (fun i _ => ts.length - (intOf i).toNat)
  case atStart => exact ⟨0, Nat.zero_le _, rfl, Below.refl _ _⟩
  case round =>
    obtain ⟨k, hk, rfl, hbel⟩ := hrel
    have hbz := hbel.size
    by_cases hlt : k < ts.length
    · have hky : k < us.length := by have := HL.out; omega
      obtain ⟨b, o, hA, hb, hc⟩ := hx.bxs hlt
      obtain ⟨b', o', hA', hb', hc'⟩ := hy.bxs hky
      subst hA hA'
      have C0 := Ext.old (later hbel (p := ⟨b, o + k, none⟩) hb hc)
      have C1 := Ext.old (later hbel (p := ⟨b', o' + k, none⟩) hb' hc')
      have e1 := HE.out k hlt hky
      have h1 := (bx ts[k] (List.getElem_mem hlt)).2
      have h2 := (bu us[k] (List.getElem_mem hky)).2
      have h3 := HS.out ts[k] (List.getElem_mem hlt)
      have i0 : (0 : Int) ≤ (k : Int) := by omega
      have i1 : (k : Int) < (ts.length : Int) := by omega
      have i2 : (k : Int) < (us.length : Int) := by omega
      clear hc hc'
      obtain ⟨⟨g1, c1, l1⟩, hT⟩ : ∃ t, t = ts[k] := ⟨_, rfl⟩
      obtain ⟨⟨g2, c2, l2⟩, hU⟩ : ∃ t, t = us[k] := ⟨_, rfl⟩
      rw [← hT] at C0 e1 h1 h3
      rw [← hU] at C1 e1 h2
      simp only [bv] at C0 C1 e1 h1 h2 h3
      have HF : Hid (∀ x : Ext wr, Calls Tryd.prog 50 #[.slice (some ⟨g1, 0, none⟩) l1.length c1, .slice (some ⟨g2, 0, none⟩) l2.length c2] x.val fun e w' => e = .returned (.bool true) ∧ Below x.val.heap.size x.val w') := hide fun x =>
        (sameInts_any (some ⟨g1, 0, none⟩) (some ⟨g2, 0, none⟩) c1 c2 l1 l2 x.val (by omega) (h1.after (via hbel x.below hbz)).rd (h2.after (via hbel x.below hbz)).rd).mono fun _ _ ⟨he, hd⟩ => ⟨by rw [he, decide_eq_true e1], hd.below _⟩
      clear e1 h1 h2 h3 hT hU
      go_wp2_with fail
      refine wp_region_ext (by kernel_rfl) (by kernel_rfl) ?_
      repeat (go_big_quiet_step ((go_at_call 50; with_reducible exact ext_of rfl (HF.out _))))
      refine wpQuiet_nil ?_
      intro _ hw'
      obtain ⟨x1, hx1⟩ := hw'
      subst hx1
      have b9 := via hbel x1.below hbz
      clear C0 C1 HF
      go_wp2_with fail
      go_roundw
      case rel => first | exact ⟨k + 1, by omega, by go_num, b9⟩ | exact ⟨k + 1, by omega, by go_num⟩
      case measure => simp [intOf]; omega
    · obtain rfl : k = ts.length := by omega
      go_wp2
      go_ret
      exact ⟨rfl, hbel⟩
/-- How many numbers the first i rows have. -/
def off (ts : List Bx) (i : Nat) : Nat := ((ts.take i).map fun t => t.2.2.length).sum
theorem off_zero (ts : List Bx) : off ts 0 = 0 := rfl
theorem off_succ {ts : List Bx} {i : Nat} (h : i < ts.length) : off ts (i + 1) = off ts i + ts[i].2.2.length := by
  unfold off
  rw [List.take_succ_eq_append_getElem h, List.map_append, List.sum_append]; rfl
theorem off_le {ts : List Bx} {m : Nat} (h : ∀ t ∈ ts, t.2.2.length ≤ m) : ∀ i, i ≤ ts.length → off ts i ≤ i * m
  | 0, _ => by simp [off_zero]
  | i + 1, hi => by
    rw [off_succ hi, Nat.succ_mul]
    have := off_le h i (by omega)
    have := h ts[i] (List.getElem_mem hi)
    omega
/-- The rows hold the numbers k0, k0 + 1, .. -/
def Marked (w : World) (k0 : Int) (ts : List Bx) : Prop := ∀ i (h : i < ts.length), Row w ts[i].1 3 (ic (marks (k0 + (off ts i : Int)) ts[i].2.2.length))
theorem Marked.up {w w' : World} {k0 : Int} {ts : List Bx} (h : Marked w k0 ts) (hb : Below w.heap.size w w') : Marked w' k0 ts := fun i hi => (h i hi).after hb
theorem nodup_ne {ts : List Bx} (h : (ts.map (·.1)).Nodup) {i j : Nat} (hi : i < ts.length) (hj : j < ts.length) (hij : i ≠ j) : ts[i].1 ≠ ts[j].1 := by
  rw [List.nodup_iff_pairwise_ne, List.pairwise_map] at h
  have h := List.pairwise_iff_getElem.1 h
  rcases Nat.lt_or_gt_of_ne hij with h1 | h1
  · exact h i j hi hj h1
  · exact fun e => h j i hj hi h1 e.symm
/-! ### Few rounds of few sheets -/
section
variable {zs : List (Int × Int)} {j k : Int}
theorem allN_len : ∀ (f : Nat) (rest : List Nat), (allN zs j k f rest).length ≤ f
  | 0, _ => by simp [allN]
  | f + 1, rest => by
    unfold allN
    split
    · simp
    · rw [List.length_cons]; have := allN_len f (leftOf zs j k rest); omega
theorem allN_row : ∀ (f : Nat) (rest : List Nat), ∀ r ∈ allN zs j k f rest, r.length ≤ rest.length
  | 0, _, r, h => by simp [allN] at h
  | f + 1, rest, r, h => by
    unfold allN at h
    split at h
    · cases h
    · rw [List.mem_cons] at h
      rcases h with rfl | h
      · rw [roundOf, List.length_map]
        have := best_le (pickSh zs rest) j k
        rwa [pick_len] at this
      · exact Nat.le_trans (allN_row f _ r h) (List.length_filter_le _ _)
theorem rounds_small {ts : List Bx} (e : brs ts = roundsAll zs j k) : ts.length ≤ 9 ∧ ∀ t ∈ ts, t.2.2.length ≤ 9 := by
  unfold roundsAll at e
  split at e
  · rename_i h
    simp only [Bool.and_eq_true] at h
    have h9 := sheets_nine h.1
    refine ⟨?_, fun t ht => ?_⟩
    · have := congrArg List.length e
      rw [brs_len, List.length_map] at this
      have := allN_len (zs := zs) (j := j) (k := k) zs.length (List.range zs.length)
      omega
    · have hm : t.2.2 ∈ brs ts := List.mem_map.2 ⟨t, ht, rfl⟩
      rw [e] at hm
      obtain ⟨r, hr, hr2⟩ := List.mem_map.1 hm
      rw [← hr2, asInt_len]
      have := allN_row _ _ r hr
      rw [List.length_range] at this
      omega
  · have := congrArg List.length e
    rw [brs_len] at this
    have ht : ts = [] := List.eq_nil_of_length_eq_zero this
    subst ht
    exact ⟨by simp, fun t h => by cases h⟩
end
theorem ListsOk.room {w w' : World} {zss : List (List Int)} {e : Ending} (h : ListsOk w zss e w') : ∃ A c ts, e = .returned (.slice A ts.length c) ∧ brs ts = zss ∧ Own w' w.heap.size 45 A (bvs ts) ∧ Bxs w' w.heap.size ts ∧ (∀ t ∈ ts, t.2.2.length ≤ t.2.1) ∧ Below w.heap.size w w' := by
  obtain ⟨A, c, ts, rfl, rfl, h1, h2, h3, h4, h5, h6⟩ := h
  exact ⟨A, c, ts, by rw [brs_len], rfl, h1, h2, h5, h6⟩
theorem ListsOk.len {w w' : World} {zss : List (List Int)} {e : Ending} (h : ListsOk w zss e w') : ∃ A c ts, e = .returned (.slice A ts.length c) ∧ brs ts = zss ∧ Own w' w.heap.size 45 A (bvs ts) ∧ Bxs w' w.heap.size ts ∧ (ts.map (·.1)).Nodup ∧ (∀ t ∈ ts, ∀ b o s, A = some ⟨b, o, s⟩ → b ≠ t.1) ∧ Below w.heap.size w w' := by
  obtain ⟨A, c, ts, rfl, rfl, h1, h2, h3, h4, _, h5⟩ := h
  exact ⟨A, c, ts, by rw [brs_len], rfl, h1, h2, h3, fun t ht b o s e => h4 t ht b (by rw [e]; rfl), h5⟩
theorem ListsRd.len {w w' : World} {zss : List (List Int)} {e : Ending} (h : ListsRd w zss e w') : ∃ A c ts, e = .returned (.slice A ts.length c) ∧ brs ts = zss ∧ Own w' w.heap.size 45 A (bvs ts) ∧ Bxs w' w.heap.size ts ∧ Below w.heap.size w w' := by
  obtain ⟨A, c, ts, rfl, rfl, h⟩ := h
  exact ⟨A, c, ts, by rw [brs_len], rfl, h⟩
theorem Bxs.below {w w' : World} {B C : Nat} {ts : List Bx} (h : Bxs w B ts) (hl : ∀ t ∈ ts, t.1 < C) (hb : Below C w w') : Bxs w' B ts := fun t ht => ⟨(h t ht).1, (h t ht).2.below hb (hl t ht)⟩
theorem Bxs.lt {w : World} {B : Nat} {ts : List Bx} (h : Bxs w B ts) : ∀ t ∈ ts, t.1 < w.heap.size := fun t ht => (h t ht).2.lt
end Go.Proofs.YtcdoopccmljaoaaDoor
