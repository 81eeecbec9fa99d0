/- Two rows, one by one: the contracts. -/
import Derived.Test.YtlgklkhijmeldaaVecB
import Derived.Deep.RegionHeld3
import Derived.Deep.AppendLies
import Derived.Deep.DrawnRows
namespace Go.Proofs.Ytlgklkhijmeldaa
open Go.RowKit
set_option linter.unusedVariables false
set_option linter.unusedSimpArgs false
set_option maxRecDepth 100000

def zipL (op : Int → Int → Int) (xs ys : List Int) : List Int := (List.range xs.length).map fun i => op (nth xs i) (nth ys i) % 18446744069414584321
def addL (xs ys : List Int) : List Int := zipL (fun x y => x + y) xs ys
def mulL (xs ys : List Int) : List Int := zipL (fun x y => x * y) xs ys
theorem zipL_len (op : Int → Int → Int) (xs ys : List Int) : (zipL op xs ys).length = xs.length := by simp [zipL]
theorem modL_fits {l : List Nat} (f : Nat → Int) : ∀ x ∈ l.map (fun i => f i % 18446744069414584321), fits .u64 x := by
  intro x hx; obtain ⟨i, _, rfl⟩ := List.mem_map.1 hx; exact fits_u64.2 (by omega)
theorem addL_at (x y : Int) : (x % 18446744069414584321 + y % 18446744069414584321) % 18446744069414584321 = (x + y) % 18446744069414584321 := by omega
theorem mulL_at (x y : Int) : (x % 18446744069414584321) * (y % 18446744069414584321) % 18446744069414584321 = x * y % 18446744069414584321 := by rw [modmul_l, modmul_r]

/-- What a function value answers of two numbers: op, modulo P. -/
def IsOp (fid : Nat) (op : Int → Int → Int) : Prop := ∀ (a b : Int) (w : World), 0 ≤ a → a < 18446744073709551616 → 0 ≤ b → b < 18446744073709551616 →
  Calls Try.prog fid #[.int .u64 a, .int .u64 b] w fun e w' => e = .returned (.int .u64 (op a b % 18446744069414584321)) ∧ w = w'

/-- A result: a new row, and an error's number. -/
def GivesRowE (k : IntKind) (xs : List Int) (err : Int) (w : World) (e : Ending) (w' : World) : Prop :=
  ∃ a cap, e = .returned (.tuple #[.slice a xs.length cap, .int .i64 err]) ∧ Row k w' a xs ∧ OkCap a xs.length cap ∧ Below w.heap.size w w'

end Go.Proofs.Ytlgklkhijmeldaa
