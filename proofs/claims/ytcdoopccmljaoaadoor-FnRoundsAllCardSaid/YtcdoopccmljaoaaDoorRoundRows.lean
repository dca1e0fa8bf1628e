/- Rows of rows of numbers, each in a block of its own; what the program's DeleteFunc leaves of a row. No conditions but bounds on lengths. -/
import Derived.Test.YtcdoopccmljaoaaDoorDelF
import Derived.Test.YtcdoopccmljaoaaDoorRoundImpl
import Derived.Sort.OwnSortedInts
namespace Go.Proofs.YtcdoopccmljaoaaDoor
open Go.ChangeShapes Go.WideShapes Go.ChangeAt Go.RowKit Go.Deep Go.Sort
/-- A row of numbers in a block: the block, its room, the numbers. -/
abbrev Bx := Nat × Nat × List Int
def bv (t : Bx) : Value := .slice (some ⟨t.1, 0, none⟩) t.2.2.length t.2.1
def bvs (ts : List Bx) : List Value := ts.map bv
def brs (ts : List Bx) : List (List Int) := ts.map (·.2.2)
/-- Rows from block B on. -/
def Bxs (w : World) (B : Nat) (ts : List Bx) : Prop := ∀ t ∈ ts, B ≤ t.1 ∧ Row w t.1 3 (ic t.2.2)
section
variable {w w' : World} {B : Nat} {ts : List Bx}
theorem bvs_len (ts : List Bx) : (bvs ts).length = ts.length := by simp [bvs]
theorem brs_len (ts : List Bx) : (brs ts).length = ts.length := by simp [brs]
theorem bvs_snoc (ts : List Bx) (t : Bx) : bvs (ts ++ [t]) = bvs ts ++ [bv t] := by simp [bvs]
theorem brs_snoc (ts : List Bx) (t : Bx) : brs (ts ++ [t]) = brs ts ++ [t.2.2] := by simp [brs]
theorem bvs_one (ts : List Bx) : ∀ u ∈ bvs ts, u.oneCell' = true := by
  intro u hu
  simp only [bvs, List.mem_map] at hu
  obtain ⟨x, _, rfl⟩ := hu; rfl
theorem Bxs.nil (w : World) (B : Nat) : Bxs w B [] := fun _ h => by cases h
theorem Bxs.up (h : Bxs w B ts) (hb : Below w.heap.size w w') : Bxs w' B ts := fun t ht => ⟨(h t ht).1, (h t ht).2.after hb⟩
theorem Bxs.kept (h : Bxs w B ts) {G : Nat} (hg : w.grownBy w' (some G)) (hG : G < B) : Bxs w' B ts := fun t ht => ⟨(h t ht).1, (h t ht).2.kept hg (by intro e; injection e with e; have := (h t ht).1; omega)⟩
theorem Bxs.mono {B' : Nat} (h : Bxs w B ts) (hB : B' ≤ B) : Bxs w B' ts := fun t ht => ⟨Nat.le_trans hB (h t ht).1, (h t ht).2⟩
theorem Bxs.snoc (h : Bxs w B ts) {t : Bx} (h1 : B ≤ t.1) (h2 : Row w t.1 3 (ic t.2.2)) : Bxs w B (ts ++ [t]) := fun u hu => by
  rw [List.mem_append, List.mem_singleton] at hu
  rcases hu with hu | rfl
  · exact h u hu
  · exact ⟨h1, h2⟩
theorem Row.ahead {g : Nat} {T : TypeId} {xs ys : List Value} (h : Row w g T (xs ++ ys)) : Row w g T xs := by
  obtain ⟨cs, h1, h2⟩ := h
  refine ⟨cs, h1, fun j hj => ?_⟩
  have := h2 j (by rw [List.length_append]; omega)
  rwa [List.getElem_append_left hj] at this
end
theorem listElem : Elem 60 45 (.slice none 0 0) 1 24 := ⟨Tryd.underlying60, by kernel_rfl, rfl, by decide, by decide⟩
theorem nc_asInt (l : List Nat) : nc l = ic (asInt l) := rfl
theorem asInt_len (l : List Nat) : (asInt l).length = l.length := List.length_map _
theorem mem_asInt {l : List Nat} {x : Nat} : (x : Int) ∈ asInt l ↔ x ∈ l := by
  simp only [asInt, List.mem_map]
  constructor
  · rintro ⟨a, ha, e⟩
    have : a = x := by omega
    exact this ▸ ha
  · exact fun h => ⟨x, h, rfl⟩
theorem asInt_filter (l r : List Nat) : (asInt l).filter (fun x => !decide (x ∈ asInt r)) = asInt (l.filter fun x => decide (x ∉ r)) := by
  unfold asInt
  rw [List.filter_map]
  congr 1
  refine List.filter_congr fun x _ => ?_
  have := mem_asInt (l := r) (x := x)
  unfold asInt at this
  simp only [Function.comp_apply, this]
  by_cases h : x ∈ r <;> simp [h]
theorem inRound_any (gR : Nat) (A : Option Addr) (c : Nat) (r : List Int) (x : Int) (W : World) (hn : r.length ≤ 1099511627776) (hb : W.cell? ⟨gR, 0, none⟩ = some (.slice A r.length c)) (hr : Rd W W.heap.size A (ic r)) :
    Calls Tryd.prog 90 #[.int .i64 x, .pointer (some ⟨gR, 0, none⟩)] W fun e w' => e = .returned (.bool (decide (x ∈ r))) ∧ ∃ q, w' = W.drewN q := by
  go_enter Tryd.func90, Tryd.ntmps90
  go_wp2_with (go_at_call 87; refine (contains_any A c r x _ hn hr).mono ?_; rintro e w' ⟨rfl, rfl⟩)
  go_ret
  exact ⟨rfl, 0, rfl⟩
set_option maxRecDepth 100000 in
theorem deleteW_any (gR gr c G cap : Nat) (r l : List Int) (w : World) (hn : r.length ≤ 1099511627776) (hl : l.length ≤ 1048576) (hcap : l.length ≤ cap) (hq : Row w G 3 (ic l)) (hb : Row w gR 45 [.slice (some ⟨gr, 0, none⟩) r.length c]) (hr : Row w gr 3 (ic r)) (h1 : gR ≠ G) (h2 : gr ≠ G) :
    Calls Tryd.prog 89 #[.slice (some ⟨G, 0, none⟩) l.length cap, .func (.func 90) #[] #[.pointer (some ⟨gR, 0, none⟩)]] w fun e w' => e = .returned (.slice (some ⟨G, 0, none⟩) (l.filter fun x => !decide (x ∈ r)).length cap) ∧ Row w' G 3 (ic (l.filter fun x => !decide (x ∈ r))) ∧ w.grownBy w' (some G) := by
  have eg : ∀ args w, (callFunc 90 args).run Tryd.prog w = .ok (.enter 90 args) w := enters_of Tryd.func90 (by kernel_rfl) rfl
  have hsz : l.toArray.size = l.length := by simp
  have hH : Holds (Value.int .i64) w G 0 l.toArray := by
    intro j hj
    rw [hsz] at hj
    refine ⟨?_, hq.frozen _⟩
    have := hq.cell (j := j) (by rw [ic_len]; exact hj)
    rw [ic_get l j hj] at this
    rw [Nat.zero_add, this]
    simp [hj]
  have hgive : ∀ (W : World) (x : Int), Row W gR 45 [.slice (some ⟨gr, 0, none⟩) r.length c] → Row W gr 3 (ic r) → FnGives Tryd.prog 90 #[.pointer (some ⟨gR, 0, none⟩)] #[.int .i64 x] (.bool (decide (x ∈ r))) W :=
    fun W x h3 h4 => inRound_any gR _ c r x W hn (by have := h3.cell (j := 0) (by simp); simpa using this) h4.rd
  have hp : PredAt Tryd.prog 90 #[.pointer (some ⟨gR, 0, none⟩)] (Value.int .i64) (fun x => decide (x ∈ r)) w := fun W x hb' => hgive W x (hb.after hb') (hr.after hb')
  have hpo : PredOver Tryd.prog 90 #[.pointer (some ⟨gR, 0, none⟩)] (Value.int .i64) (fun x => decide (x ∈ r)) G 0 l.toArray.size w := fun n os dk x _ => by
    have hg : w.grownBy (sortWorld (Value.int .i64) w G 0 n dk os) (some G) := grownBy_sortedG _ dk
    exact hgive _ x (hb.kept hg (by intro e; injection e with e; exact h1 e)) (hr.kept hg (by intro e; injection e with e; exact h2 e))
  have hS := AnyE.slices_DeleteFunc delFL (Value.int .i64) (fun _ => rfl) (fun x => decide (x ∈ r)) 90 #[.pointer (some ⟨gR, 0, none⟩)] eg 0 (fun w => Tryd.zeroValue3 w) G 0 cap l.toArray w hp hpo hH (by rw [hsz]; omega) (by rw [hsz]; exact hcap)
  change Calls Tryd.prog 89 _ _ _ at hS
  rw [hsz] at hS
  refine hS.mono ?_
  rintro e w' ⟨rfl, q, rfl⟩
  have hfl : (l.filter fun x => !decide (x ∈ r)).length ≤ l.length := List.length_filter_le _ _
  have hrow := row_sortedG (Value.int .i64) (n := q) (os := #[]) hq ((l.filter fun x => !decide (x ∈ r)) ++ List.replicate (l.length - (l.filter fun x => !decide (x ∈ r)).length) 0) (by rw [List.length_append, List.length_replicate, ic_len]; omega)
  rw [grow_empty, List.map_append] at hrow
  have hgb := grownBy_sortedG (Value.int .i64) (w := w) (g := G) (n := q) (os := #[]) ((l.filter fun x => !decide (x ∈ r)) ++ List.replicate (l.length - (l.filter fun x => !decide (x ∈ r)).length) 0).toArray
  rw [grow_empty] at hgb
  exact ⟨rfl, hrow.ahead, hgb⟩
/-! ### One round after another -/
section
variable {zs : List (Int × Int)} {j k : Int} {rest : List Nat}
theorem allN_nil (f : Nat) : allN zs j k f [] = [] := by cases f <;> simp [allN]
theorem allN_step {f : Nat} (h : rest ≠ []) : allN zs j k (f + 1) rest = roundOf zs j k rest :: allN zs j k f (leftOf zs j k rest) := by rw [allN, if_neg h]
theorem pick_valid (hv : sheetsValid zs = true) (h : Asc zs rest) (hl : rest.length ≤ zs.length) : sheetsValid (pickSh zs rest) = true := by
  have h9 := sheets_nine hv
  unfold sheetsValid at hv ⊢
  simp only [Bool.and_eq_true, decide_eq_true_eq, List.all_eq_true] at hv ⊢
  refine ⟨by rw [pick_len]; omega, fun s hs => ?_⟩
  obtain ⟨x, hx, rfl⟩ := List.mem_map.1 hs
  have hxl := h.2 x hx
  rw [← sh_get hxl]
  exact hv.2 _ (List.getElem_mem hxl)
theorem best_in {b : Nat} (h : b ∈ bestIx (pickSh zs rest) j k) : b < rest.length := by
  have := ch_in _ _ (best_ch (pickSh zs rest) j k) b h
  rwa [pick_len] at this
theorem best_some (h : rest ≠ []) : bestIx (pickSh zs rest) j k ≠ [] := fun e => by
  rw [best_nil] at e
  exact h (List.map_eq_nil_iff.1 e)
/-- The first i numbers of a round turned from places into indices. -/
def mixR (rest bst : List Nat) (i : Nat) : List Nat := (bst.take i).map (fun b => rest.getD b 0) ++ bst.drop i
theorem mixR_zero (rest bst : List Nat) : mixR rest bst 0 = bst := by simp [mixR]
theorem mixR_all (rest bst : List Nat) : mixR rest bst bst.length = bst.map fun b => rest.getD b 0 := by simp [mixR]
theorem mixR_len (rest bst : List Nat) (i : Nat) : (mixR rest bst i).length = bst.length := by simp [mixR]; omega
theorem mixR_get {bst : List Nat} {i : Nat} (h : i < bst.length) : (mixR rest bst i).getD i 0 = bst[i] := by
  unfold mixR
  rw [List.getD_eq_getElem?_getD, List.getElem?_append_right (by simp; omega), List.length_map, List.length_take, Nat.min_eq_left (by omega), Nat.sub_self, List.getElem?_drop, Nat.add_zero, List.getElem?_eq_getElem h]; rfl
theorem mixR_set {bst : List Nat} {i : Nat} (h : i < bst.length) : (mixR rest bst i).set i (rest.getD bst[i] 0) = mixR rest bst (i + 1) := by
  unfold mixR
  rw [List.set_append_right _ _ (by simp; omega), List.length_map, List.length_take, Nat.min_eq_left (by omega), Nat.sub_self, List.drop_eq_getElem_cons h, List.set_cons_zero, List.take_succ_eq_append_getElem h, List.map_append, List.append_assoc]; rfl
theorem pick_get {q : Nat} (h : q < rest.length) : (pickSh zs rest)[q]'(by rw [pick_len]; exact h) = sh zs rest[q] := by simp [pickSh]
theorem all_yes (h1 : sheetsValid zs = true) (h2 : jumpValid j k = true) : roundsAll zs j k = brs [] ++ (allN zs j k zs.length (List.range zs.length)).map asInt := by unfold roundsAll; rw [h1, h2]; rfl
theorem all_no (h : sheetsValid zs = false ∨ jumpValid j k = false) : roundsAll zs j k = [] := by
  unfold roundsAll; rcases h with h | h <;> simp [h]
end
/-- Rows of numbers of the call's own, each in a block of its own. -/
def ListsOk (w : World) (zss : List (List Int)) (e : Ending) (w' : World) : Prop :=
  ∃ A c ts, e = .returned (.slice A zss.length c) ∧ brs ts = zss ∧ Own w' w.heap.size 45 A (bvs ts) ∧ Bxs w' w.heap.size ts ∧ (ts.map (·.1)).Nodup ∧ (∀ t ∈ ts, ∀ b, (Value.slice A zss.length c).ownBlock = some b → b ≠ t.1) ∧ (∀ t ∈ ts, t.2.2.length ≤ t.2.1) ∧ Below w.heap.size w w'
theorem listsOk_nil {w w' : World} {A : Option Addr} {c : Nat} (hb : Below w.heap.size w w') : ListsOk w [] (.returned (.slice A 0 c)) w' := ⟨A, c, [], rfl, rfl, .inl rfl, Bxs.nil _ _, List.nodup_nil, (fun t h => by cases h), (fun t h => by cases h), hb⟩
end Go.Proofs.YtcdoopccmljaoaaDoor
