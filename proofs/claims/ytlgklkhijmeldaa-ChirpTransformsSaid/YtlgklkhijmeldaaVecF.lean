/- Which rows are the same; the law VecTells. -/
import Derived.Test.YtlgklkhijmeldaaVecE
namespace Go.Proofs.Ytlgklkhijmeldaa
open Go.RowKit
set_option linter.unusedVariables false
set_option linter.unusedSimpArgs false
set_option maxRecDepth 100000

def redL (xs : List Int) : List Int := xs.map (· % 18446744069414584321)

theorem redL_len (xs : List Int) : (redL xs).length = xs.length := by simp [redL]
theorem vref_RedR (a : Option Addr) (cap : Nat) (xs : List Int) (w : World) (hx : Row .u64 w a xs) (hl : xs.length ≤ 16777216) :
    Calls Try.prog 15 #[.slice a xs.length cap] w (GivesRow .u64 (redL xs) w) := vref_Red a cap xs w hx hl
theorem vec_RedR (a : Option Addr) (cap : Nat) (xs : List Int) (w : World) (hx : Row .u64 w a xs) (hl : xs.length ≤ 16777216) :
    Calls Try.prog 48 #[.slice a xs.length cap] w (GivesRow .u64 (redL xs) w) := vec_Red a cap xs w hx hl

theorem addL_len (xs ys : List Int) : (addL xs ys).length = xs.length := zipL_len _ _ _
theorem mulL_len (xs ys : List Int) : (mulL xs ys).length = xs.length := zipL_len _ _ _
theorem scaleL_len (xs : List Int) (c : Int) : (scaleL xs c).length = xs.length := by simp [scaleL]

end Go.Proofs.Ytlgklkhijmeldaa
