/- The order in which longest rounds are reckoned: sheets that can come behind one come ahead of it. Plain laws. -/
import Derived.Test.YtcdoopccmljaoaaDoorRoundLong
import Derived.Shelf.SlSortCmp.NoneTotal
namespace Go.Proofs.YtcdoopccmljaoaaDoor
open Go.ChangeShapes Go.WideShapes Go.ChangeAt Go.RowKit Go.Deep Go.Sort
/-- The comparison: the narrower one first, of two of one width the one with the greater index. -/
def cfW (zs : List (Int × Int)) (n : Nat) (x y : Fin n) : Int := if (sh zs x.val).1 - (sh zs y.val).1 ≠ 0 then (sh zs x.val).1 - (sh zs y.val).1 else (y.val : Int) - (x.val : Int)
theorem ltW {zs : List (Int × Int)} {n : Nat} (x y : Fin n) : ltOf (cfW zs n) x y = true ↔ Bef zs y.val x.val := by
  unfold ltOf cfW Bef
  rw [decide_eq_true_iff]
  split <;> omega
theorem ltW_false {zs : List (Int × Int)} {n : Nat} (x y : Fin n) : ltOf (cfW zs n) x y = false ↔ ¬ Bef zs y.val x.val := by
  rw [← ltW]; simp
theorem swoW (zs : List (Int × Int)) (n : Nat) : SWO (ltOf (cfW zs n)) where
  irrefl x := by rw [ltW_false]; exact Bef.irrefl
  trans x y z h1 h2 := by rw [ltW] at *; exact h2.trans h1
  ntrans x y z h1 h2 := by rw [ltW_false] at *; unfold Bef at *; omega
theorem totW {zs : List (Int × Int)} {n : Nat} (x y : Fin n) (h1 : ltOf (cfW zs n) x y = false) (h2 : ltOf (cfW zs n) y x = false) : x = y := by
  rw [ltW_false] at h1 h2
  apply Fin.ext
  unfold Bef at h1 h2
  omega
/-- An order of all indices in which whatever can come behind a sheet stands ahead of it. -/
structure Ord (zs : List (Int × Int)) (o : List Nat) : Prop where
  len : o.length = zs.length
  rng : ∀ x ∈ o, x < zs.length
  nd : o.Nodup
  all : ∀ x, x < zs.length → x ∈ o
  bef : ∀ i (h : i < o.length) b, b < zs.length → Bef zs o[i] b → b ∈ o.take i
def ordOf (zs : List (Int × Int)) (n : Nat) (d : List (Fin n)) : List Nat := (d.mergeSort fun x y => !(ltOf (cfW zs n)) y x).map Fin.val
theorem ordOf_len {zs : List (Int × Int)} {n : Nat} (d : List (Fin n)) : (ordOf zs n d).length = d.length := by
  unfold ordOf; rw [List.length_map, List.length_mergeSort]
theorem ord_sorted {zs : List (Int × Int)} {n : Nat} (hn : n = zs.length) : Ord zs (ordOf zs n (List.finRange n)) := by
  subst hn
  have hp : ((List.finRange zs.length).mergeSort fun x y => !(ltOf (cfW zs zs.length)) y x).Perm (List.finRange zs.length) := List.mergeSort_perm _ _
  have hs : ((List.finRange zs.length).mergeSort fun x y => !(ltOf (cfW zs zs.length)) y x).Pairwise (fun x y => (!(ltOf (cfW zs zs.length)) y x) = true) := by
    refine List.pairwise_mergeSort (le := fun x y => !(ltOf (cfW zs zs.length)) y x) ?_ ?_ _
    · intro a b c h1 h2
      simp only [Bool.not_eq_true'] at *
      rw [ltW_false] at *
      unfold Bef at *; omega
    · intro a b
      cases h : ltOf (cfW zs zs.length) b a
      · rfl
      · rw [ltW] at h
        have : ltOf (cfW zs zs.length) a b = false := by rw [ltW_false]; unfold Bef at *; omega
        rw [this]; rfl
  refine ⟨by rw [ordOf_len, List.length_finRange], ?_, ?_, ?_, ?_⟩
  · intro x hx
    obtain ⟨y, _, rfl⟩ := List.mem_map.1 hx
    exact y.isLt
  · have hnd : ((List.finRange zs.length).mergeSort fun x y => !(ltOf (cfW zs zs.length)) y x).Nodup := hp.nodup_iff.2 (List.nodup_finRange _)
    unfold ordOf
    rw [List.Nodup, List.pairwise_map]
    exact hnd.imp fun h e => h (Fin.ext e)
  · intro x hx
    exact List.mem_map.2 ⟨⟨x, hx⟩, hp.mem_iff.2 (List.mem_finRange _), rfl⟩
  · intro i h b hb hB
    unfold ordOf at *
    generalize ((List.finRange zs.length).mergeSort fun x y => !(ltOf (cfW zs zs.length)) y x) = l at *
    rw [List.length_map] at h
    rw [List.getElem_map] at hB
    have hm : (⟨b, hb⟩ : Fin zs.length) ∈ l := hp.mem_iff.2 (List.mem_finRange _)
    obtain ⟨p, hpl, hpe⟩ := List.getElem_of_mem hm
    have hpi : p < i := by
      rcases Nat.lt_trichotomy p i with h1 | h1 | h1
      · exact h1
      · subst h1
        rw [hpe] at hB
        exact absurd hB Bef.irrefl
      · have := List.pairwise_iff_getElem.1 hs i p h hpl h1
        rw [hpe] at this
        simp only [Bool.not_eq_true'] at this
        rw [ltW_false] at this
        exact absurd hB this
    rw [← List.map_take]
    refine List.mem_map.2 ⟨⟨b, hb⟩, ?_, rfl⟩
    rw [← hpe]
    exact List.mem_take_iff_getElem.2 ⟨p, by omega, rfl⟩
/-- Of the first i of the order the longest rounds are reckoned. -/
structure FarAt (zs : List (Int × Int)) (j k : Int) (o : List Nat) (i : Nat) (v : List Nat) : Prop where
  len : v.length = zs.length
  done : ∀ x ∈ o.take i, v.getD x 0 = far zs.length (fol zs j k) x
section
variable {zs : List (Int × Int)} {j k : Int} {o : List Nat} {i : Nat} {v : List Nat}
theorem farAt_start : FarAt zs j k o 0 (List.replicate zs.length 0) := ⟨by simp, by simp⟩
theorem ord_notin (hO : Ord zs o) (hi : i < o.length) : o[i] ∉ o.take i := by
  intro hm
  obtain ⟨p, hp, e⟩ := List.mem_take_iff_getElem.1 hm
  have := (List.getElem_inj hO.nd).1 e
  omega
theorem farAt_step (hO : Ord zs o) (h : FarAt zs j k o i v) (hi : i < o.length) : FarAt zs j k o (i + 1) (v.set o[i] (1 + maxOver (fol zs j k o[i]) (far zs.length (fol zs j k)) zs.length)) := by
  have hlt := hO.rng _ (List.getElem_mem hi)
  refine ⟨by rw [List.length_set]; exact h.len, ?_⟩
  intro x hx
  rw [List.take_succ_eq_append_getElem hi, List.mem_append, List.mem_singleton] at hx
  rcases hx with hx | rfl
  · have hne : o[i] ≠ x := fun e => ord_notin hO hi (e ▸ hx)
    rw [getD_set_ne hne]; exact h.done x hx
  · rw [getD_set_eq (by rw [h.len]; exact hlt), far_eq (ranked zs j k) hlt]
theorem farAt_read (hO : Ord zs o) (h : FarAt zs j k o i v) (hi : i < o.length) {b : Nat} (hb : b < zs.length) (hF : fol zs j k o[i] b = true) (y : Nat) : (v.set o[i] y).getD b 0 = far zs.length (fol zs j k) b := by
  have hB := fol_bef hF
  have hm := hO.bef i hi b hb hB
  have hne : o[i] ≠ b := fun e => by rw [e] at hB; exact Bef.irrefl hB
  rw [getD_set_ne hne]; exact h.done b hm
theorem farAt_end (hO : Ord zs o) (h : FarAt zs j k o o.length v) : v.map (fun (i : Nat) => (i : Int)) = farL zs j k :=
  farL_of h.len fun a ha => h.done a (by rw [List.take_length]; exact hO.all a ha)
end
end Go.Proofs.YtcdoopccmljaoaaDoor
