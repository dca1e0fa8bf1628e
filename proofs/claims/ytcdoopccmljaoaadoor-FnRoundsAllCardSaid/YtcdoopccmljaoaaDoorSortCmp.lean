/- The sort of indices by which longest rounds are reckoned: its comparison, and what it leaves. No conditions but valid sheets. -/
import Derived.Test.YtcdoopccmljaoaaDoorSortF
import Derived.Test.YtcdoopccmljaoaaDoorRoundSort
import Derived.Test.YtcdoopccmljaoaaDoorLongSpec
import Derived.Sort.OwnSortedInts
import Derived.Deep.RegionHeld3
namespace Go.Proofs.YtcdoopccmljaoaaDoor
open Go.ChangeShapes Go.WideShapes Go.ChangeAt Go.RowKit Go.Deep Go.Sort
theorem sheet_wide {zs : List (Int × Int)} (h : sheetsValid zs = true) {i : Nat} (hi : i < zs.length) : 0 ≤ (sh zs i).1 ∧ (sh zs i).1 ≤ 1000 := by
  unfold sheetsValid at h
  simp only [Bool.and_eq_true, decide_eq_true_eq] at h
  have := List.all_eq_true.1 h.2 zs[i] (List.getElem_mem hi)
  rw [sh_get hi] at this
  unfold sheetValid at this
  simp only [Bool.and_eq_true] at this
  have := inR_iff.1 this.1
  omega
theorem cmpOr_any (g : Nat) (x y : Int) (w : World) (h0 : w.cell? ⟨g, 0, none⟩ = some (.int .i64 x)) (h1 : w.cell? ⟨g, 1, none⟩ = some (.int .i64 y)) :
    Calls Tryd.prog 105 #[.slice (some ⟨g, 0, none⟩) 2 2] w fun e w' => e = .returned (.int .i64 (if x ≠ 0 then x else y)) ∧ w = w' := by
  by_cases hx : x = 0
  · subst hx
    by_cases hy : y = 0
    · subst hy
      go_enter Tryd.func105, Tryd.ntmps105
      go_wp2
      go_loop [8] (fun i => ∃ q : Nat, q ≤ 2 ∧ i = .int .i64 q) (fun i => 2 - (intOf i).toNat)
      case atStart => exact ⟨0, by omega, rfl⟩
      case round =>
        obtain ⟨q, hq, rfl⟩ := hrel
        rcases (show q = 0 ∨ q = 1 ∨ q = 2 by omega) with rfl | rfl | rfl
        · go_wp2
          go_round
          case rel => exact ⟨1, by omega, by go_num⟩
          case measure => simp [intOf]
        · go_wp2
          go_round
          case rel => exact ⟨2, by omega, by go_num⟩
          case measure => simp [intOf]
        · go_wp2
          go_ret
          exact ⟨rfl, rfl⟩
    · have t1 : (y != 0) = true := by simpa using hy
      have hf : (if (0 : Int) ≠ 0 then (0 : Int) else y) = y := by simp
      rw [hf]
      clear hf hy
      go_enter Tryd.func105, Tryd.ntmps105
      go_wp2
      go_loop [8] (fun i => ∃ q : Nat, q ≤ 1 ∧ i = .int .i64 q) (fun i => 2 - (intOf i).toNat)
      case atStart => exact ⟨0, by omega, rfl⟩
      case round =>
        obtain ⟨q, hq, rfl⟩ := hrel
        rcases (show q = 0 ∨ q = 1 by omega) with rfl | rfl
        · go_wp2
          go_round
          case rel => exact ⟨1, by omega, by go_num⟩
          case measure => simp [intOf]
        · go_wp2
          go_ret
          exact ⟨rfl, rfl⟩
  · have t1 : (x != 0) = true := by simpa using hx
    rw [if_pos hx]
    clear hx
    go_enter Tryd.func105, Tryd.ntmps105
    go_wp2
    go_loop [8] (fun i => i = .int .i64 0) (fun i => 2 - (intOf i).toNat)
    case atStart => rfl
    case round =>
      obtain rfl := hrel
      go_wp2
      go_ret
      exact ⟨rfl, rfl⟩
theorem cf_eq {zs : List (Int × Int)} {n : Nat} (x y : Fin n) : cfW zs n x y = if (sh zs x.val).1 - (sh zs y.val).1 ≠ 0 then (sh zs x.val).1 - (sh zs y.val).1 else (y.val : Int) - (x.val : Int) := rfl
set_option linter.unusedSimpArgs false in
set_option linter.unusedVariables false in
set_option maxHeartbeats 2000000 in
set_option maxRecDepth 100000 in
theorem cmpW_any (gL : Nat) (A : Option Addr) (c : Nat) (zs : List (Int × Int)) (x y : Fin zs.length) (W : World) (hv : sheetsValid zs = true) (hb : W.cell? ⟨gL, 0, none⟩ = some (.slice A zs.length c)) (hr : Rd W W.heap.size A (sc zs)) :
    Calls Tryd.prog 104 #[.int .i64 (x.val : Int), .int .i64 (y.val : Int), .pointer (some ⟨gL, 0, none⟩)] W fun e w' => e = .returned (.int .i64 (cfW zs zs.length x y)) ∧ ∃ q os', w' = grow (W.drewN q) os' := by
  have hw1 := sheet_wide hv x.isLt
  have hw2 := sheet_wide hv y.isLt
  have h9 := sheets_nine hv
  obtain ⟨b, o, hA, _, ⟨c1, _⟩, c3, _⟩ := hr.sheets x.isLt y.isLt
  subst hA
  have HC := hide (cf_eq (zs := zs) x y)
  have hx := x.isLt
  have hy := y.isLt
  clear hr hv
  generalize cfW zs zs.length x y = cv at *
  generalize x.val = xv at *
  generalize y.val = yv at *
  generalize (sh zs xv).1 = p at *
  generalize (sh zs yv).1 = r at *
  have i0 : (0 : Int) ≤ (xv : Int) := by omega
  have i1 : (xv : Int) < (zs.length : Int) := by omega
  have i2 : (0 : Int) ≤ (yv : Int) := by omega
  have i3 : (yv : Int) < (zs.length : Int) := by omega
  have e1 : IntKind.i64.wrap (p - r) = p - r := by rw [IntKind.wrap_i64]; omega
  have e2 : IntKind.i64.wrap ((yv : Int) - (xv : Int)) = (yv : Int) - (xv : Int) := by rw [IntKind.wrap_i64]; omega
  go_enter Tryd.func104, Tryd.ntmps104
  go_wp2_with fail
  refine wp_region_held_drew (S := fun w' => w'.cell? ⟨gL, 0, none⟩ = some (.slice (some ⟨b, o, none⟩) zs.length c) ∧ w'.cell? ⟨b, o + xv * 2, none⟩ = some (.int .i64 p) ∧ w'.cell? ⟨b, o + yv * 2, none⟩ = some (.int .i64 r)) (by kernel_rfl) ⟨hb, c1, c3⟩ (fun hHeld => ?_)
  refine wpAnyH_take (i := 0) (oi := _) (v := ?_) rfl (by kernel_rfl) (by kernel_rfl) (by kernel_rfl) (fun _ _ _ h => h) (Or.inl ⟨by rfl, ?_⟩) (by assumption) ?_
  rotate_left
  · intro w hSw; (try dsimp only at hSw); go_simp; first | done | with_reducible rfl
  (try simp only [Act.put, List.setIfInBounds_toArray, List.set_cons_zero, List.set_cons_succ])
  refine wpAnyH_take (i := 1) (oi := _) (v := ?_) rfl (by kernel_rfl) (by kernel_rfl) (by kernel_rfl) (fun _ _ _ h => h) (Or.inl ⟨by rfl, ?_⟩) (by assumption) ?_
  rotate_left
  · intro w hSw; (try dsimp only at hSw); go_simp; first | done | with_reducible rfl
  (try simp only [Act.put, List.setIfInBounds_toArray, List.set_cons_zero, List.set_cons_succ])
  refine wpAnyH_take (i := 2) (oi := _) (v := ?_) rfl (by kernel_rfl) (by kernel_rfl) (by kernel_rfl) (fun _ _ _ h => h) (Or.inl ⟨by rfl, ?_⟩) (by assumption) ?_
  rotate_left
  · intro w hSw; (try dsimp only at hSw); go_simp; first | done | with_reducible rfl
  (try simp only [Act.put, List.setIfInBounds_toArray, List.set_cons_zero, List.set_cons_succ])
  refine wpAnyH_take (i := 3) (oi := _) (v := ?_) rfl (by kernel_rfl) (by kernel_rfl) (by kernel_rfl) (fun _ _ _ h => h) (Or.inl ⟨by rfl, ?_⟩) (by assumption) ?_
  rotate_left
  · intro w hSw; (try dsimp only at hSw); go_simp; first | done | with_reducible rfl
  (try simp only [Act.put, List.setIfInBounds_toArray, List.set_cons_zero, List.set_cons_succ])
  refine wpAnyH_take (i := 4) (oi := _) (v := ?_) rfl (by kernel_rfl) (by kernel_rfl) (by kernel_rfl) (fun _ _ _ h => h) (Or.inl ⟨by rfl, ?_⟩) (by assumption) ?_
  rotate_left
  · intro w hSw; (try dsimp only at hSw); go_simp; first | done | with_reducible rfl
  (try simp only [Act.put, List.setIfInBounds_toArray, List.set_cons_zero, List.set_cons_succ])
  refine wpAnyH_take (i := 5) (oi := _) (v := ?_) rfl (by kernel_rfl) (by kernel_rfl) (by kernel_rfl) (fun _ _ _ h => h) (Or.inl ⟨by rfl, ?_⟩) (by assumption) ?_
  rotate_left
  · intro w hSw; (try dsimp only at hSw); go_simp; first | done | with_reducible rfl
  (try simp only [Act.put, List.setIfInBounds_toArray, List.set_cons_zero, List.set_cons_succ])
  refine wpAnyH_take (i := 6) (oi := _) (v := ?_) rfl (by kernel_rfl) (by kernel_rfl) (by kernel_rfl) (fun _ _ _ h => h) (Or.inl ⟨by rfl, ?_⟩) (by assumption) ?_
  rotate_left
  · intro w hSw; (try dsimp only at hSw); go_simp; first | done | with_reducible rfl
  (try simp only [Act.put, List.setIfInBounds_toArray, List.set_cons_zero, List.set_cons_succ])
  refine wpAnyH_take (i := 7) (oi := _) (v := ?_) rfl (by kernel_rfl) (by kernel_rfl) (by kernel_rfl) (fun _ _ _ h => h) (Or.inl ⟨by rfl, ?_⟩) (by assumption) ?_
  rotate_left
  · intro w hSw; (try dsimp only at hSw); go_simp; first | done | with_reducible rfl
  (try simp only [Act.put, List.setIfInBounds_toArray, List.set_cons_zero, List.set_cons_succ])
  refine wpAnyH_take (i := 8) (oi := _) (v := ?_) rfl (by kernel_rfl) (by kernel_rfl) (by kernel_rfl) (fun _ _ _ h => h) (Or.inl ⟨by rfl, ?_⟩) (by assumption) ?_
  rotate_left
  · intro w hSw; (try dsimp only at hSw); go_simp; first | done | with_reducible rfl
  (try simp only [Act.put, List.setIfInBounds_toArray, List.set_cons_zero, List.set_cons_succ])
  refine wpAnyH_take (i := 9) (oi := _) (v := ?_) rfl (by kernel_rfl) (by kernel_rfl) (by kernel_rfl) (fun _ _ _ h => h) (Or.inl ⟨by rfl, ?_⟩) (by assumption) ?_
  rotate_left
  · intro w hSw; (try dsimp only at hSw); go_simp; first | done | with_reducible rfl
  (try simp only [Act.put, List.setIfInBounds_toArray, List.set_cons_zero, List.set_cons_succ])
  refine wpAnyH_take (i := 10) (oi := _) (v := ?_) rfl (by kernel_rfl) (by kernel_rfl) (by kernel_rfl) (fun _ _ _ h => h) (Or.inl ⟨by rfl, ?_⟩) (by assumption) ?_
  rotate_left
  · intro w hSw; (try dsimp only at hSw); go_simp; first | done | with_reducible rfl
  (try simp only [Act.put, List.setIfInBounds_toArray, List.set_cons_zero, List.set_cons_succ])
  refine wpAnyH_take (i := 11) (oi := _) (v := ?_) rfl (by kernel_rfl) (by kernel_rfl) (by kernel_rfl) (fun _ _ _ h => h) (Or.inl ⟨by rfl, ?_⟩) (by assumption) ?_
  rotate_left
  · intro w hSw; (try dsimp only at hSw); go_simp; first | done | with_reducible rfl
  (try simp only [Act.put, List.setIfInBounds_toArray, List.set_cons_zero, List.set_cons_succ])
  refine wpAnyH_take (i := 12) (oi := _) (v := ?_) rfl (by kernel_rfl) (by kernel_rfl) (by kernel_rfl) (fun _ _ _ h => h) (Or.inl ⟨by rfl, ?_⟩) (by assumption) ?_
  rotate_left
  · intro w hSw; (try dsimp only at hSw); go_simp; first | done | with_reducible rfl
  (try simp only [Act.put, List.setIfInBounds_toArray, List.set_cons_zero, List.set_cons_succ])
  refine wpAnyH_take (i := 13) (oi := _) (v := ?_) rfl (by kernel_rfl) (by kernel_rfl) (by kernel_rfl) (fun _ _ _ h => h) (Or.inl ⟨by rfl, ?_⟩) (by assumption) ?_
  rotate_left
  · intro w hSw; (try dsimp only at hSw); go_simp; first | done | with_reducible rfl
  (try simp only [Act.put, List.setIfInBounds_toArray, List.set_cons_zero, List.set_cons_succ])
  refine wpAnyH_ready (rs := [14]) (by kernel_rfl) (by simp) ?_
  refine AllReadyH.cons (o := _) rfl (fun K hK => ?_) AllReadyH.nil
  go_simp
  have bq : Below W.heap.size W (W.drew.alloc (.cells #[.int .i64 (p - r), .int .i64 ((yv : Int) - (xv : Int))] 3)) := by go_grown
  have k0 := (bq.cell (p := ⟨gL, 0, none⟩) (block_lt_of_cell hb)).trans hb
  have k1 := (bq.cell (p := ⟨b, o + xv * 2, none⟩) (block_lt_of_cell c1)).trans c1
  have k2 := (bq.cell (p := ⟨b, o + yv * 2, none⟩) (block_lt_of_cell c3)).trans c3
  have h0 : (W.drew.alloc (.cells #[.int .i64 (p - r), .int .i64 ((yv : Int) - (xv : Int))] 3)).cell? ⟨W.heap.size, 0, none⟩ = some (.int .i64 (p - r)) := by simp [go_sem]
  have h1 : (W.drew.alloc (.cells #[.int .i64 (p - r), .int .i64 ((yv : Int) - (xv : Int))] 3)).cell? ⟨W.heap.size, 1, none⟩ = some (.int .i64 ((yv : Int) - (xv : Int))) := by simp [go_sem]
  refine hK.out _ _ ⟨k0, k1, k2⟩ (fun hHeld => ?_)
  clear hK K
  (try simp only [Act.put, List.setIfInBounds_toArray, List.set_cons_zero, List.set_cons_succ])
  refine wpAnyH_ready (rs := [15]) (by kernel_rfl) (by simp) ?_
  refine AllReadyH.cons (o := _) rfl (fun K hK => ?_) AllReadyH.nil
  go_simp
  go_at_call 105
  refine (cmpOr_any W.heap.size (p - r) ((yv : Int) - (xv : Int)) _ h0 h1).mono ?_
  rintro e w' ⟨rfl, rfl⟩
  rw [← HC.out]
  go_wp2_with fail
  refine hK.out _ _ ⟨k0, k1, k2⟩ (fun hHeld => ?_)
  clear hK K
  (try simp only [Act.put, List.setIfInBounds_toArray, List.set_cons_zero, List.set_cons_succ])
  refine wpAnyH_ready (rs := [16]) (by kernel_rfl) (by simp) ?_
  refine AllReadyH.cons (o := _) rfl (fun K hK => ?_) AllReadyH.nil
  go_simp
  refine hK.out _ _ ⟨k0, k1, k2⟩ (fun hHeld => ?_)
  clear hK K
  (try simp only [Act.put, List.setIfInBounds_toArray, List.set_cons_zero, List.set_cons_succ])
  refine wpAnyH_done (by kernel_rfl) ?_ _
  go_wp2
  go_ret
  refine ⟨rfl, 1, #[.cells #[.int .i64 (p - r), .int .i64 ((yv : Int) - (xv : Int))] 3], ?_⟩
  rw [show (W.alloc (.cells #[.int .i64 (p - r), .int .i64 ((yv : Int) - (xv : Int))] 3)).drew = (W.drewN 1).alloc (.cells #[.int .i64 (p - r), .int .i64 ((yv : Int) - (xv : Int))] 3) from rfl]
  exact alloc_eq_grow _ _
theorem heap_sortedG {α : Type} [Inhabited α] (enc : α → Value) {w : World} {g n : Nat} {os : Array Obj} {cur : Array Value} {e : TypeId} {fr : Nat × Nat} (d : Array α) (hb : w.heap[g]? = some (.cells cur e fr)) :
    (grow (putRow enc (Sort.ahead w n) g 0 d) os).heap[g]? = some (.cells (putCells enc 0 d cur) e fr) := by
  have hg : g < w.heap.size := (Array.getElem?_eq_some_iff.1 hb).1
  rw [heap_grow_old _ _ (by simpa using hg)]
  simp [putRow, mapBlock, Sort.ahead, Array.getElem?_modify, hb, onCells]
theorem grownBy_sortedG {α : Type} [Inhabited α] (enc : α → Value) {w : World} {g n : Nat} {os : Array Obj} (d : Array α) : w.grownBy (grow (putRow enc (Sort.ahead w n) g 0 d) os) (some g) := by
  refine ⟨rfl, rfl, rfl, by simp, fun k hk hne => ?_⟩
  rw [heap_grow_old _ _ (by simpa using hk)]
  have : g ≠ k := fun e => hne (by rw [e])
  simp [putRow, mapBlock, Sort.ahead, Array.getElem?_modify, this]
theorem row_sortedG {α : Type} [Inhabited α] (enc : α → Value) {w : World} {g n : Nat} {os : Array Obj} {T : TypeId} {xs : List Value} (q : Row w g T xs) (ys : List α) (hl : ys.length = xs.length) : Row (grow (putRow enc (Sort.ahead w n) g 0 ys.toArray) os) g T (ys.map enc) := by
  obtain ⟨cs, h1, h2⟩ := q
  refine ⟨_, heap_sortedG enc _ h1, fun j hj => ?_⟩
  rw [List.length_map] at hj
  have hc := h2 j (by omega)
  have hcs : j < cs.size := (Array.getElem?_eq_some_iff.1 hc).1
  simp [putCells, hj, hcs]
set_option maxRecDepth 100000 in
theorem sortW_any (gL : Nat) (A : Option Addr) (c B G cap : Nat) (zs : List (Int × Int)) (w : World) (hv : sheetsValid zs = true) (hn : 0 < zs.length) (hq : Row w G 3 (nc (List.range zs.length))) (hb : w.cell? ⟨gL, 0, none⟩ = some (.slice A zs.length c)) (hgL : gL < G) (hr : Rd w B A (sc zs)) (hB : B ≤ G) :
    Calls Tryd.prog 103 #[.slice (some ⟨G, 0, none⟩) zs.length cap, .func (.func 104) #[] #[.pointer (some ⟨gL, 0, none⟩)]] w fun e w' => e = .returned (.tuple #[]) ∧ ∃ o : List Nat, Ord zs o ∧ Row w' G 3 (nc o) ∧ w.grownBy w' (some G) := by
  haveI : Inhabited (Fin zs.length) := ⟨⟨0, hn⟩⟩
  have h9 := sheets_nine hv
  have hG := hq.lt
  have eg : ∀ args w, (callFunc 104 args).run Tryd.prog w = .ok (.enter 104 args) w := enters_of Tryd.func104 (by kernel_rfl) rfl
  have hsz : (List.finRange zs.length).toArray.size = zs.length := by simp
  have hH : Holds (fun x : Fin zs.length => Value.int .i64 (x.val : Int)) w G 0 (List.finRange zs.length).toArray := by
    intro j hj
    rw [hsz] at hj
    refine ⟨?_, hq.frozen _⟩
    have := hq.cell (j := j) (by rw [nc_len, List.length_range]; exact hj)
    rw [nc_get (by rw [List.length_range]; exact hj)] at this
    rw [Nat.zero_add, this]
    simp [hj]
  have hcmp : CmpLays1 Tryd.prog 104 #[.pointer (some ⟨gL, 0, none⟩)] (fun x : Fin zs.length => Value.int .i64 (x.val : Int)) (cfW zs zs.length) G 0 (List.finRange zs.length).toArray.size w := by
    intro m os dk _ x y
    have hg : w.grownBy (sortWorld (fun x : Fin zs.length => Value.int .i64 (x.val : Int)) w G 0 m dk os) (some G) := grownBy_sortedG _ dk
    have hbl : Below G w (sortWorld (fun x : Fin zs.length => Value.int .i64 (x.val : Int)) w G 0 m dk os) := (Below.refl G w).grown hg (by omega) (fun k hk => by cases hk; exact Nat.le_refl _)
    exact cmpW_any gL A c zs x y _ hv ((hbl.cell (p := ⟨gL, 0, none⟩) hgL).trans hb) ((hr.below (hbl.mono hB)).mono (by have := hg.size; omega))
  have hS := Any.slices_SortFunc_total sortFL (fun x : Fin zs.length => Value.int .i64 (x.val : Int)) (fun _ => rfl) (cfW zs zs.length) (swoW zs zs.length) 104 #[.pointer (some ⟨gL, 0, none⟩)] G 0 cap (List.finRange zs.length).toArray w eg hcmp hH hG (by rw [hsz]; omega) totW
  change Calls Tryd.prog 103 _ _ _ at hS
  rw [hsz] at hS
  refine hS.mono ?_
  rintro e w' ⟨rfl, m, os, rfl⟩
  refine ⟨rfl, ordOf zs zs.length (List.finRange zs.length), ord_sorted rfl, ?_, grownBy_sortedG _ _⟩
  have := row_sortedG (fun x : Fin zs.length => Value.int .i64 (x.val : Int)) (n := m) (os := os) hq ((List.finRange zs.length).mergeSort fun x y => !(ltOf (cfW zs zs.length)) y x) (by rw [List.length_mergeSort, List.length_finRange, nc_len, List.length_range])
  unfold nc ordOf ic
  rw [List.map_map, List.map_map]
  exact this
end Go.Proofs.YtcdoopccmljaoaaDoor
