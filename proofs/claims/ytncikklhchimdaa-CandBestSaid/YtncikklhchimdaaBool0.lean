/- Tests of numbers as truth values. No function of the program is named. -/
import Derived.Test.YtncikklhchimdaaMem
namespace Go.Proofs.Ytncikklhchimdaa
open Go.RowKit
set_option linter.unusedVariables false
set_option linter.unusedSimpArgs false
set_option maxRecDepth 100000

theorem btrue {a b : Int} (h : a = b) : (a == b) = true := by simp [h]
theorem bno {a b : Int} (h : a ≠ b) : (a == b) = false := by simp [h]
theorem bfalse {a b : Int} (h : a = b) : (a != b) = false := by simp [h]
theorem bdiff {a b : Int} (h : a ≠ b) : (a != b) = true := by simp [h]
theorem bfalse' {a b : Int} (h : a = b) : (a != b) = false := by simp [h]
theorem bdiff' {a b : Int} (h : a ≠ b) : (a != b) = true := by simp [h]
end Go.Proofs.Ytncikklhchimdaa
