/- The contracts of the plain transform (package dft, dulcimerref06): one sum. -/
import Derived.Test.YtlgklkhijmeldaaRootW
import Derived.Test.YtlgklkhijmeldaaVecE
namespace Go.Proofs.Ytlgklkhijmeldaa
open Go.RowKit Sm
set_option linter.unusedVariables false
set_option linter.unusedSimpArgs false
set_option maxRecDepth 100000

/-- The sum of a row times the powers of a number. -/
def pt (xs : List Int) (st : Int) : Int := S xs.length (fun i => nth xs i * st ^ i) % 18446744069414584321
def hor (xs : List Int) (st : Int) (j : Nat) : Int := S (xs.length - j) (fun i => nth xs (j + i) * st ^ i)
theorem pt_range (xs : List Int) (st : Int) : 0 ≤ pt xs st ∧ pt xs st < 18446744069414584321 := by unfold pt; omega

theorem hor_end (xs : List Int) (st : Int) : hor xs st xs.length = 0 := by unfold hor; rw [Nat.sub_self]; rfl
theorem hor_zero (xs : List Int) (st : Int) : hor xs st 0 % 18446744069414584321 = pt xs st := by
  unfold hor pt; rw [Nat.sub_zero]
  congr 1
  exact S_congr (fun i _ => by rw [Nat.zero_add])
theorem hor_step (xs : List Int) (st : Int) (j : Nat) (h : j < xs.length) : hor xs st j = hor xs st (j + 1) * st + nth xs j := by
  unfold hor
  obtain ⟨m, hm⟩ : ∃ m, xs.length - j = m + 1 := ⟨xs.length - j - 1, by omega⟩
  rw [hm, show xs.length - (j + 1) = m by omega, S_head, Nat.add_zero, Int.pow_zero, Int.mul_one, Int.add_comm, ← S_mul_r]
  congr 1
  exact S_congr (fun i _ => by rw [Int.pow_succ, ← Int.mul_assoc, show j + (i + 1) = j + 1 + i by omega])

theorem hor_t (xs : List Int) (st : Int) (j : Nat) (t : Int) (h : j < xs.length) (ht : t = hor xs st (j + 1) % 18446744069414584321) : (t * st % 18446744069414584321 + nth xs j) % 18446744069414584321 = hor xs st j % 18446744069414584321 := by
  rw [hor_step xs st j h, ht, modmul_l, Int.emod_add_emod]

theorem add_quiet (a b : Int) (w : World) (n : Nat) (h0 : 0 ≤ a) (h1 : a < 18446744073709551616) (h2 : 0 ≤ b) (h3 : b < 18446744073709551616) :
    Calls Try.prog 74 #[.int .u64 a, .int .u64 b] (w.drewN n) fun e w' => e = .returned (.int .u64 ((a + b) % 18446744069414584321)) ∧ ∃ m, w' = w.drewN m :=
  Calls.quiet_of_same ((gold_Add a b _ h0 h1 h2 h3).mono fun e w' ⟨x, y⟩ => ⟨x, y.symm⟩)

theorem pt_mod (xs : List Int) (st : Int) : pt xs (st % 18446744069414584321) = pt xs st :=
  S_eqm (fun i _ => (rfl' _).mul ((Eqm.mod st).pow i))

theorem pt_snoc (xs : List Int) (st : Int) (k : Nat) : (S k (fun i => nth xs i * st ^ i) + nth xs k * st ^ k) = S (k + 1) (fun i => nth xs i * st ^ i) := rfl

theorem S_step (xs : List Int) (st : Int) (k : Nat) (t : Int) (ht : t = S k (fun i => nth xs i * st ^ i) % 18446744069414584321) : (t + (nth xs k % 18446744069414584321) * pw st k % 18446744069414584321) % 18446744069414584321 = S (k + 1) (fun i => nth xs i * st ^ i) % 18446744069414584321 := by
  rw [ht, modmul_l, ← pt_snoc]
  have h1 : Eqm (nth xs k * pw st k) (nth xs k * st ^ k) := (rfl' _).mul (Eqm.mod _ |> fun h => by unfold pw; exact h)
  unfold Eqm at h1
  rw [Int.add_emod, Int.emod_emod, h1]
  omega

end Go.Proofs.Ytlgklkhijmeldaa
