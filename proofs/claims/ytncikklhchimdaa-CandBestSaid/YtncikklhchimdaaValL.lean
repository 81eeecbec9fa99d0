/- Plain laws: which trees are plans. No program in sight. -/
import Derived.Test.YtncikklhchimdaaTreeS
import Derived.Test.YtncikklhchimdaaSzA
import Derived.Test.YtncikklhchimdaaSzB
import Derived.Test.YtncikklhchimdaaSzC
import Derived.Test.YtncikklhchimdaaFactL
namespace Go.Proofs.Ytncikklhchimdaa
open Go.RowKit
set_option linter.unusedVariables false
set_option linter.unusedSimpArgs false
set_option maxRecDepth 100000

/-- Is it a product of two sizes? -/
def sidesB (n : Int) (m : Nat) (k0 k1 : Int) : Bool := decide (m = 2 ∧ 2 ≤ k0 ∧ 2 ≤ k1 ∧ k0 ≤ n ∧ k1 ≤ n ∧ k0 * k1 = n) && hasSz n
/-- Is a node right by itself? (Its kind, its size, how many children, and the sizes of the first two.) -/
def nodeB (k n : Int) (m : Nat) (k0 k1 : Int) : Bool :=
  if k = 1 then decide (m = 0 ∧ n ≤ 64) && hasSz n
  else if k = 2 then decide (m = 0 ∧ 2 ≤ n ∧ n ≤ 5)
  else if k = 3 then decide (m = 0 ∧ 2 ≤ n) && hasP2 n
  else if k = 4 then sidesB n m k0 k1
  else if k = 5 then sidesB n m k0 k1 && decide (gcdI k0 k1 = 1)
  else if k = 6 then decide (m = 1 ∧ 3 ≤ n ∧ k0 = n - 1) && hasSz n && isPr n
  else if k = 7 then decide (m = 1 ∧ 2 ≤ n ∧ 2 * n - 1 ≤ k0) && hasSz n && hasP2 k0
  else false
def nodeOk (t : Tr) : Bool := nodeB t.kind t.num t.kids.length (Tr.kid t.kids 0).num (Tr.kid t.kids 1).num

theorem hasSz_bd {n : Int} (h : hasSz n = true) : 1 ≤ n ∧ n ≤ 16777216 := by have := hasSz_iff.1 h; exact ⟨this.1, this.2.1⟩
theorem sides_iff {n : Int} {m : Nat} {k0 k1 : Int} : sidesB n m k0 k1 = true ↔ (m = 2 ∧ 2 ≤ k0 ∧ 2 ≤ k1 ∧ k0 ≤ n ∧ k1 ≤ n ∧ k0 * k1 = n) ∧ hasSz n = true := by
  unfold sidesB; rw [Bool.and_eq_true, decide_eq_true_eq]
/-- The test by division. -/
theorem sides_div {n k0 k1 : Int} (hn : 1 ≤ n) (h0 : 2 ≤ k0) (h1 : 2 ≤ k1) : (n % k0 = 0 ∧ n / k0 = k1) ↔ (k0 ≤ n ∧ k1 ≤ n ∧ k0 * k1 = n) := by
  constructor
  · rintro ⟨a, b⟩
    have h := Int.mul_ediv_add_emod n k0
    rw [a, b] at h
    have h2 : k0 * k1 = n := by omega
    have h3 : k0 * 1 ≤ k0 * k1 := Int.mul_le_mul_of_nonneg_left (by omega) (by omega)
    have h4 : 1 * k1 ≤ k0 * k1 := Int.mul_le_mul_of_nonneg_right (by omega) (by omega)
    omega
  · rintro ⟨_, _, c⟩
    rw [← c]
    exact ⟨Int.mul_emod_right _ _, Int.mul_ediv_cancel_left _ (by omega)⟩

namespace Tr
mutual
/-- Where the first node is that is not right. -/
def wrong : Tr → Option (List Int)
  | node k n ks => if nodeOk (node k n ks) then wrongL 0 ks else some []
def wrongL : Nat → List Tr → Option (List Int)
  | _, [] => none
  | i, t :: ts => match wrong t with
    | some p => some ((i : Int) :: p)
    | none => wrongL (i + 1) ts
end
theorem wrong_kids (t : Tr) : wrong t = if nodeOk t then wrongL 0 t.kids else some [] := by cases t; simp [wrong, kids]
end Tr
end Go.Proofs.Ytncikklhchimdaa
