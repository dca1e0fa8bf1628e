/- Piles of coils as pairs of lists: what each function on piles computes. Plain definitions and laws, no program in sight. -/
import Derived.Test.YtpiiefmfiipabaaDoorHas
namespace Go.Proofs.YtpiiefmfiipabaaDoor
open Go.ChangeShapes Go.WideShapes Go.ChangeAt Go.RowKit Go.Deep

/-- A pile: the lower row and the upper one. -/
abbrev PL := List Int × List Int
def idOk (ids : List Int) (i : Nat) : Bool := inR (ids.getD i 0) 0 99 && (decide (ids.getD i 0 = 0) || decide (ids.getD i 0 ∉ ids.take i))
def hiOk (p : PL) (k : Nat) : Bool := decide (p.2.getD k 0 = 0) || (decide (p.1.getD k 0 ≠ 0) && decide (p.1.getD (k + 1) 0 ≠ 0))
def sizeOk (p : PL) : Bool := inR (p.1.length : Int) 1 6 && decide ((p.2.length : Int) = (p.1.length : Int) - 1)
def pileValid (p : PL) : Bool := sizeOk p && ((List.range (p.1 ++ p.2).length).all (idOk (p.1 ++ p.2)) && (List.range p.2.length).all (hiOk p))
theorem pileValid_iff (p : PL) : pileValid p = true ↔ ((1 ≤ p.1.length ∧ p.1.length ≤ 6) ∧ p.2.length + 1 = p.1.length) ∧ (∀ i, i < (p.1 ++ p.2).length → idOk (p.1 ++ p.2) i = true) ∧ (∀ k, k < p.2.length → hiOk p k = true) := by
  simp only [pileValid, sizeOk, Bool.and_eq_true, inR_iff, decide_eq_true_eq, List.all_eq_true, List.mem_range]
  constructor
  · rintro ⟨⟨h1, h2⟩, h3, h4⟩; exact ⟨⟨by omega, by omega⟩, h3, h4⟩
  · rintro ⟨⟨h1, h2⟩, h3, h4⟩; exact ⟨⟨by omega, by omega⟩, h3, h4⟩
theorem pileValid_size {p : PL} (h : pileValid p = true) : 1 ≤ p.1.length ∧ p.1.length ≤ 6 ∧ p.2.length + 1 = p.1.length := by
  have := ((pileValid_iff p).1 h).1; omega
theorem pileValid_noId {p : PL} {i : Nat} (h : i < (p.1 ++ p.2).length) (hi : idOk (p.1 ++ p.2) i = false) : pileValid p = false := by
  cases e : pileValid p
  · rfl
  · rw [((pileValid_iff p).1 e).2.1 i h] at hi; cases hi
theorem pileValid_noHi {p : PL} {k : Nat} (h : k < p.2.length) (hi : hiOk p k = false) : pileValid p = false := by
  cases e : pileValid p
  · rfl
  · rw [((pileValid_iff p).1 e).2.2 k h] at hi; cases hi
theorem pileValid_noSize {p : PL} (h : sizeOk p = false) : pileValid p = false := by simp [pileValid, h]

/-- The row in which a spot is. -/
def rowOf (p : PL) (top : Bool) : List Int := if top then p.2 else p.1
def setRow (p : PL) (top : Bool) (k : Nat) (x : Int) : PL := if top then (p.1, p.2.set k x) else (p.1.set k x, p.2)
def spotIn (p : PL) (top : Bool) (place : Int) : Bool := inR place 0 (((rowOf p top).length : Int) - 1)
def coilAt (p : PL) (top : Bool) (place : Int) : Int := if pileValid p && spotIn p top place then (rowOf p top).getD place.toNat 0 else -1
def coilFind (p : PL) (id : Int) : Option (Bool × Nat) :=
  if pileValid p && decide (1 ≤ id) then
    if id ∈ p.1 then some (false, p.1.idxOf id) else if id ∈ p.2 then some (true, p.2.idxOf id) else none
  else none
def onAt (p : PL) (k : Int) : List Int := if inR k 0 ((p.2.length : Int) - 1) && decide (0 < p.2.getD k.toNat 0) then [p.2.getD k.toNat 0] else []
def coilsOn (p : PL) (top : Bool) (place : Int) : List Int := if decide (coilAt p top place < 1) || top then [] else onAt p (place - 1) ++ onAt p place
def coilPut (p : PL) (top : Bool) (place id : Int) : PL × Bool :=
  if pileValid p then
    if decide (id < 1) || decide (coilAt p top place ≠ 0) then (p, false)
    else if pileValid (setRow p top place.toNat id) then (setRow p top place.toNat id, true) else (p, false)
  else (([], []), false)
def coilTake (p : PL) (top : Bool) (place : Int) : PL × Int :=
  if pileValid p then
    if decide (coilAt p top place < 1) || decide (coilsOn p top place ≠ []) then (p, 0)
    else (setRow p top place.toNat 0, coilAt p top place)
  else (([], []), 0)
/-- A lift: from where, to where. -/
abbrev LF := (Bool × Int) × (Bool × Int)
def coilLift (p : PL) (l : LF) : PL × Bool :=
  if pileValid p then
    if l.1 = l.2 then (p, false)
    else if (coilTake p l.1.1 l.1.2).2 = 0 then (p, false)
    else if (coilPut (coilTake p l.1.1 l.1.2).1 l.2.1 l.2.2 (coilTake p l.1.1 l.1.2).2).2 then coilPut (coilTake p l.1.1 l.1.2).1 l.2.1 l.2.2 (coilTake p l.1.1 l.1.2).2
    else (p, false)
  else (([], []), false)
def liftN : PL → List LF → PL × Nat
  | p, [] => (p, 0)
  | p, l :: r => if (coilLift p l).2 then ((liftN (coilLift p l).1 r).1, (liftN (coilLift p l).1 r).2 + 1) else (p, 0)
def liftRun (p : PL) (ls : List LF) : PL × Nat := if pileValid p && decide (ls.length ≤ 40) then liftN p ls else (([], []), 0)
end Go.Proofs.YtpiiefmfiipabaaDoor
