/- Trees: another node at a place, by the program. -/
import Derived.Test.YtncikklhchimdaaTreeS
import Derived.Test.YtncikklhchimdaaTreeP
import Derived.Deep.Cut
namespace Go.Proofs.Ytncikklhchimdaa
open Go.RowKit
set_option linter.unusedVariables false
set_option linter.unusedSimpArgs false
set_option maxRecDepth 100000

theorem set3o {w : World} {b o : Nat} {x y z : Value} (x' y' z' : Value) (h0 : w.cell? ⟨b, o, none⟩ = some x) (h1 : w.cell? ⟨b, o + 1, none⟩ = some y) (h2 : w.cell? ⟨b, o + 2, none⟩ = some z) :
    (((w.setCell ⟨b, o, none⟩ x').setCell ⟨b, o + 1, none⟩ y').setCell ⟨b, o + 2, none⟩ z').cell? ⟨b, o, none⟩ = some x' ∧ (((w.setCell ⟨b, o, none⟩ x').setCell ⟨b, o + 1, none⟩ y').setCell ⟨b, o + 2, none⟩ z').cell? ⟨b, o + 1, none⟩ = some y' ∧
    (((w.setCell ⟨b, o, none⟩ x').setCell ⟨b, o + 1, none⟩ y').setCell ⟨b, o + 2, none⟩ z').cell? ⟨b, o + 2, none⟩ = some z' ∧
    (∀ c e, ¬ (c = b ∧ o ≤ e ∧ e < o + 3) → (((w.setCell ⟨b, o, none⟩ x').setCell ⟨b, o + 1, none⟩ y').setCell ⟨b, o + 2, none⟩ z').cell? ⟨c, e, none⟩ = w.cell? ⟨c, e, none⟩) := by
  refine ⟨?_, ?_, ?_, fun c e hne => ?_⟩
  · rw [World.cell?_setCell_other _ _ _ _ (by simp), World.cell?_setCell_other _ _ _ _ (by simp), World.cell?_setCell_same _ _ _ h0]
  · rw [World.cell?_setCell_other _ _ _ _ (by simp), World.cell?_setCell_same (u := y) _ _ _ (by rw [World.cell?_setCell_other _ _ _ _ (by simp)]; exact h1)]
  · rw [World.cell?_setCell_same (u := z) _ _ _ (by rw [World.cell?_setCell_other _ _ _ _ (by simp), World.cell?_setCell_other _ _ _ _ (by simp)]; exact h2)]
  · rw [World.cell?_setCell_other _ _ _ _ (fun h => hne (by cases h; omega)), World.cell?_setCell_other _ _ _ _ (fun h => hne (by cases h; omega)), World.cell?_setCell_other _ _ _ _ (fun h => hne (by cases h; omega))]

def Ge (B : Nat) (b : Nat) : Prop := B ≤ b

/-- A result of two: a tree that is new, and true. -/
def GivesG2 (t : Tr) (w : World) (e : Ending) (w' : World) : Prop :=
  ∃ k n a m c, e = .returned (.tuple #[.agg #[.int .i64 k, .int .i64 n, .slice a m c], .bool true]) ∧ IsT w' (Ge w.heap.size) k n a m c t ∧ Below w.heap.size w w'

end Go.Proofs.Ytncikklhchimdaa
