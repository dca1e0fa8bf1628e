/- Words for the laws over piles whose result is a list of numbers: it is read, marked and held. No conditions but bounds on lengths. -/
import Derived.Test.YtgohnbhnckgcnaaPileRes
import Derived.Test.YtgohnbhnckgcnaaListKit
namespace Go.Proofs.Ytgohnbhnckgcnaa
open Go.ChangeShapes Go.WideShapes Go.ChangeAt Go.RowKit Go.Deep
theorem own_turned {w w' : World} {B : Nat} {T : TypeId} {A : Option Addr} {xs : List Value} {a b : Option Nat} (h : Own w B T A xs) (t : Turned w w' a b) (ha : ∀ g, B ≤ g → a ≠ some g) (hb : ∀ g, B ≤ g → b ≠ some g) : Own w' B T A xs := by
  have key : ∀ {w : World}, Own w B T A xs → ∀ g, ownB A xs = some g → B ≤ g := by
    intro w h g e
    obtain ⟨hx, a, rfl, ha⟩ := ownB_some e
    obtain ⟨g', e', hB, _⟩ := h.row hx
    cases e'
    cases ha
    exact hB
  obtain ⟨wm, g1, g2⟩ := t
  have h1 := h.keep g1 fun g e => ha g (key h g e)
  exact h1.keep g2 fun g e => hb g (key h1 g e)
theorem eqIntS_same (A B : Option Addr) (c d : Nat) (xs : List Int) (w : World) (hn : xs.length ≤ 1099511627776) (hx : Rd w w.heap.size A (ic xs)) (hy : Rd w w.heap.size B (ic xs)) :
    Calls Try.prog 35 #[.slice A xs.length c, .slice B xs.length d] w fun e w' => e = .returned (.bool true) ∧ Below w.heap.size w w' :=
  (eqIntS_any A B c d xs xs w hn hx hy).mono fun _ _ ⟨he, hd⟩ => ⟨by rw [he]; simp, hd.below _⟩
end Go.Proofs.Ytgohnbhnckgcnaa
