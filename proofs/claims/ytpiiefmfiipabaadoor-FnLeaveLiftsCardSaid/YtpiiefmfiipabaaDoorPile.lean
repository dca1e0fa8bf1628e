/- Piles in memory: made, compared, marked, held, copied. No conditions but bounds on lengths. -/
import Derived.Test.YtpiiefmfiipabaaDoorCoilMath
import Derived.Test.YtpiiefmfiipabaaDoorExt
import Derived.Deep.RegionHeld3
namespace Go.Proofs.YtpiiefmfiipabaaDoor
open Go.ChangeShapes Go.WideShapes Go.ChangeAt Go.RowKit Go.Deep

/-- A pile of the call's own, its two rows apart. -/
def OwnP (w : World) (B : Nat) (A A' : Option Addr) (p : PL) : Prop :=
  Own w B 3 A (ic p.1) ∧ Own w B 3 A' (ic p.2) ∧ ∀ g g', ownB A (ic p.1) = some g → ownB A' (ic p.2) = some g' → g ≠ g'
/-- A call that hands back a pile in memory of its own. -/
def PileOk (w : World) (p : PL) (e : Ending) (w' : World) : Prop :=
  ∃ A c A' c', e = .returned (.agg #[.slice A p.1.length c, .slice A' p.2.length c']) ∧ OwnP w' w.heap.size A A' p ∧ Below w.heap.size w w'
def zs (n : Nat) : List Int := List.replicate n 0
def pileEmpty (n : Int) : PL := if inR n 1 6 = true then (zs n.toNat, zs (n.toNat - 1)) else ([], [])

theorem zs_len (n : Nat) : (zs n).length = n := by simp [zs]
theorem ic_zs (n : Nat) : ic (zs n) = (madeCells #[Value.int .i64 0] n).toList := by rw [toList_madeCells_one]; simp [ic, zs]
theorem ownB_some {A : Option Addr} {xs : List Value} {g : Nat} (h : ownB A xs = some g) : xs ≠ [] ∧ ∃ a, A = some a ∧ a.block = g := by
  unfold ownB at h
  split at h
  · cases h
  · rename_i hx
    refine ⟨fun e => hx (by simp [e]), ?_⟩
    cases A with
    | none => cases h
    | some a => exact ⟨a, rfl, by simpa using h⟩
theorem pileOk_rows {w W : World} {p : PL} {g g' n c n' c' : Nat} (h : Row W g 3 (ic p.1)) (h' : Row W g' 3 (ic p.2)) (hg : w.heap.size ≤ g) (hg' : w.heap.size ≤ g') (hne : g ≠ g') (hn : n = p.1.length) (hn' : n' = p.2.length) (hb : Below w.heap.size w W) :
    PileOk w p (.returned (.agg #[.slice (some ⟨g, 0, none⟩) n c, .slice (some ⟨g', 0, none⟩) n' c'])) W := by
  subst hn hn'
  refine ⟨_, _, _, _, rfl, ⟨h.own hg, h'.own hg', fun a b h1 h2 => ?_⟩, hb⟩
  obtain ⟨_, _, e1, rfl⟩ := ownB_some h1
  obtain ⟨_, _, e2, rfl⟩ := ownB_some h2
  cases e1; cases e2; exact hne
theorem Row.eq {w : World} {g g' : Nat} {T : TypeId} {xs : List Value} (h : Row w g T xs) (e : g = g') : Row w g' T xs := e ▸ h
theorem pileOk_two (w : World) (o : Obj) (n n' : Nat) :
    PileOk w (zs n, zs n') (.returned (.agg #[.slice (some ⟨w.heap.size + 1, 0, none⟩) n n, .slice (some ⟨w.heap.size + 1 + 1, 0, none⟩) n' n']))
      (((w.alloc o).alloc (.cells (madeCells #[.int .i64 0] n) 3)).alloc (.cells (madeCells #[.int .i64 0] n') 3)).drew := by
  refine pileOk_rows (Row.drew ?_) (Row.drew ?_) (by omega) (by omega) (by omega) (zs_len n).symm (zs_len n').symm (by go_grown)
  · rw [ic_zs]; exact ((Row.new _ _ _).alloc _).eq (by simp)
  · rw [ic_zs]; exact (Row.new _ _ _).eq (by simp)
theorem pileOk_two' (w : World) (o : Obj) (n n' : Nat) :
    PileOk w (zs n, zs n') (.returned (.agg #[.slice (some ⟨w.heap.size + 1 + 1, 0, none⟩) n n, .slice (some ⟨w.heap.size + 1, 0, none⟩) n' n']))
      (((w.alloc o).alloc (.cells (madeCells #[.int .i64 0] n') 3)).alloc (.cells (madeCells #[.int .i64 0] n) 3)).drew := by
  refine pileOk_rows (Row.drew ?_) (Row.drew ?_) (by omega) (by omega) (by omega) (zs_len n).symm (zs_len n').symm (by go_grown)
  · rw [ic_zs]; exact (Row.new _ _ _).eq (by simp)
  · rw [ic_zs]; exact ((Row.new _ _ _).alloc _).eq (by simp)
theorem pileOk_none {w W : World} {A A' : Option Addr} {c c' : Nat} (hb : Below w.heap.size w W) : PileOk w ([], []) (.returned (.agg #[.slice A 0 c, .slice A' 0 c'])) W :=
  ⟨A, c, A', c', rfl, ⟨.inl rfl, .inl rfl, fun _ _ h => by cases h⟩, hb⟩
theorem pileEmpty_any (n : Int) (w : World) : Calls Tryd.prog 45 #[.int .i64 n] w (PileOk w (pileEmpty n)) := by
  by_cases hv : inR n 1 6 = true
  · have hb := inR_iff.1 hv
    obtain ⟨m, rfl⟩ : ∃ m : Nat, n = (m : Int) + 1 := ⟨(n - 1).toNat, by omega⟩
    have hmk := run_make_row' (P := Tryd.prog) 23 3 (.int .i64 0) 8 Tryd.underlying23 intInfo rfl .i64 .i64 (m + 1) (by omega) (by omega)
    have hmk2 := run_make_row' (P := Tryd.prog) 23 3 (.int .i64 0) 8 Tryd.underlying23 intInfo rfl .i64 .i64 m (by omega) (by omega)
    have HE := hide (show pileEmpty ((m : Int) + 1) = (zs (m + 1), zs m) by rw [pileEmpty, if_pos hv, show ((m : Int) + 1).toNat = m + 1 by omega]; rfl)
    rw [show ((m + 1 : Nat) : Int) = (m : Int) + 1 from rfl] at hmk
    go_enter Tryd.func45, Tryd.ntmps45
    go_wp2_with (go_at_call 67; refine (within_any _ _ _ _).mono ?_; rintro e w' ⟨rfl, rfl⟩)
    go_region
    · go_wp2
      go_returns
      rw [HE.out]
      exact pileOk_two _ _ _ _
    · go_wp2
      go_returns
      rw [HE.out]
      exact pileOk_two' _ _ _ _
  · have HE := hide (show pileEmpty n = ([], []) by rw [pileEmpty, if_neg hv])
    go_enter Tryd.func45, Tryd.ntmps45
    go_wp2_with (go_at_call 67; refine (within_any _ _ _ _).mono ?_; rintro e w' ⟨rfl, rfl⟩)
    go_returns
    rw [HE.out]
    exact pileOk_none (by go_grown)
theorem pileEmpty_spec (n : Int) (w : World) : Calls Tryd.prog 46 #[.int .i64 n] w (PileOk w (pileEmpty n)) := by
  by_cases hv : inR n 1 6 = true
  · have hb := inR_iff.1 hv
    obtain ⟨m, rfl⟩ : ∃ m : Nat, n = (m : Int) + 1 := ⟨(n - 1).toNat, by omega⟩
    have hmk := run_make_row' (P := Tryd.prog) 23 3 (.int .i64 0) 8 Tryd.underlying23 intInfo rfl .i64 .i64 (m + 1) (by omega) (by omega)
    have hmk2 := run_make_row' (P := Tryd.prog) 23 3 (.int .i64 0) 8 Tryd.underlying23 intInfo rfl .i64 .i64 m (by omega) (by omega)
    have HE := hide (show pileEmpty ((m : Int) + 1) = (zs (m + 1), zs m) by rw [pileEmpty, if_pos hv, show ((m : Int) + 1).toNat = m + 1 by omega]; rfl)
    rw [show ((m + 1 : Nat) : Int) = (m : Int) + 1 from rfl] at hmk
    go_enter Tryd.func46, Tryd.ntmps46
    go_wp2_with (go_at_call 70; refine (l1In_any _ _ _ _).mono ?_; rintro e w' ⟨rfl, rfl⟩)
    go_region
    · go_wp2
      go_returns
      rw [HE.out]
      exact pileOk_two _ _ _ _
    · go_wp2
      go_returns
      rw [HE.out]
      exact pileOk_two' _ _ _ _
  · have HE := hide (show pileEmpty n = ([], []) by rw [pileEmpty, if_neg hv])
    go_enter Tryd.func46, Tryd.ntmps46
    go_wp2_with (go_at_call 70; refine (l1In_any _ _ _ _).mono ?_; rintro e w' ⟨rfl, rfl⟩)
    go_returns
    rw [HE.out]
    exact pileOk_none (by go_grown)
end Go.Proofs.YtpiiefmfiipabaaDoor
