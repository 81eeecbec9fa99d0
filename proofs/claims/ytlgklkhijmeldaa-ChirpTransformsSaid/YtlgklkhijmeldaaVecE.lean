/- Rows times a number; which rows are the same; the law VecTells. -/
import Derived.Test.YtlgklkhijmeldaaVecD
namespace Go.Proofs.Ytlgklkhijmeldaa
open Go.RowKit
set_option linter.unusedVariables false
set_option linter.unusedSimpArgs false
set_option maxRecDepth 100000

def scaleL (xs : List Int) (c : Int) : List Int := (List.range xs.length).map fun i => nth xs i * c % 18446744069414584321

theorem mul_quiet (a b : Int) (w : World) (n : Nat) (h0 : 0 ≤ a) (h1 : a < 18446744073709551616) (h2 : 0 ≤ b) (h3 : b < 18446744073709551616) :
    Calls Try.prog 65 #[.int .u64 a, .int .u64 b] (w.drewN n) fun e w' => e = .returned (.int .u64 (a * b % 18446744069414584321)) ∧ ∃ m, w' = w.drewN m :=
  Calls.quiet_of_same ((gold_Mul a b _ h0 h1 h2 h3).mono fun e w' ⟨x, y⟩ => ⟨x, y.symm⟩)

theorem scaleL_at (x c : Int) : (x % 18446744069414584321) * (c % 18446744069414584321) % 18446744069414584321 = x * c % 18446744069414584321 := by rw [modmul_l, modmul_r]

end Go.Proofs.Ytlgklkhijmeldaa
