/- Two rows, one by one: sums, products, the sum of these; rows times a number; which rows are the same; a 1 at a place. -/
import Derived.Test.YtlgklkhijmeldaaVecC
namespace Go.Proofs.Ytlgklkhijmeldaa
open Go.RowKit
set_option linter.unusedVariables false
set_option linter.unusedSimpArgs false
set_option maxRecDepth 100000

def unitL (n k : Nat) : List Int := (List.range n).map fun i => if i = k then 1 else 0

/-- The sum of a row times a row with a 1 at a place. -/
theorem sumP_one (f : Nat → Int) (k : Nat) (hf : ∀ i, i ≠ k → f i = 0) (hk : 0 ≤ f k ∧ f k < 18446744069414584321) : ∀ n, sumP ((List.range n).map f) = if k < n then f k else 0 := by
  intro n
  induction n with
  | zero => rfl
  | succ n ih =>
    rw [List.range_succ, List.map_append, List.map_singleton, sumP_snoc, ih]
    by_cases h1 : k < n
    · rw [if_pos h1, if_pos (by omega), hf n (by omega)]; omega
    · rw [if_neg h1]
      by_cases h2 : k = n
      · subst h2; rw [if_pos (by omega)]; omega
      · rw [if_neg (by omega), hf n (fun h => h2 h.symm)]; rfl

theorem dot_unit (xs : List Int) (n k : Nat) (hn : xs.length = n) (hk : k < n) : sumP (mulL xs (unitL n k)) = nth xs k % 18446744069414584321 := by
  unfold mulL zipL
  have e : (List.range xs.length).map (fun i => nth xs i * nth (unitL n k) i % 18446744069414584321) = (List.range xs.length).map (fun i => if i = k then nth xs k % 18446744069414584321 else 0) := by
    apply List.map_congr_left
    intro i hi
    have hi' : i < n := by simpa [hn] using hi
    unfold unitL
    rw [nth_ofFn _ _ _ hi']
    by_cases h : i = k
    · subst h; simp
    · simp [h]
  rw [e, sumP_one _ k (fun i hi => by simp [hi]) (by simp; omega), if_pos (by omega)]
  simp

/-- The guard of VecUnits, decided. -/
theorem bool_ne_eq (a b : Bool) (h : a = b) : (a != b) = false := by simp [h]

end Go.Proofs.Ytlgklkhijmeldaa
