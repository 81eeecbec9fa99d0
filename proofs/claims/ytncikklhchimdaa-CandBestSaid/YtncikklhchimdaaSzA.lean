/- Which numbers are sizes. -/
import Derived.Test.YtncikklhchimdaaBool0
namespace Go.Proofs.Ytncikklhchimdaa
open Go.RowKit
set_option linter.unusedVariables false
set_option linter.unusedSimpArgs false
set_option maxRecDepth 100000

/-- Is n a size? -/
def hasSz (n : Int) : Bool := decide (1 ≤ n ∧ n ≤ 16777216 ∧ 18446744069414584320 % n = 0)
theorem hasSz_iff {n : Int} : hasSz n = true ↔ 1 ≤ n ∧ n ≤ 16777216 ∧ 18446744069414584320 % n = 0 := by simp [hasSz]

theorem rootHas_yes (n : Int) (w : World) (h : hasSz n = true) :
    Calls Try.prog 59 #[.int .i64 n] w fun e w' => e = .returned (.bool true) ∧ w = w' := by
  obtain ⟨h1, h2, h3⟩ := hasSz_iff.1 h
  have hz : (18446744069414584320 % n == 0) = true := btrue h3
  have h0 : (n == 0) = false := bno (by omega)
  clear h h3
  go_enter Try.func59, Try.ntmps59
  go_wp2_with fail
  go_ret
  exact ⟨rfl, rfl⟩

theorem rootHas_no (n : Int) (w : World) (h : hasSz n = false) (hn : -9223372036854775808 ≤ n ∧ n < 9223372036854775808) :
    Calls Try.prog 59 #[.int .i64 n] w fun e w' => e = .returned (.bool false) ∧ w = w' := by
  have hd : n < 1 ∨ (1 ≤ n ∧ 16777216 < n) ∨ (1 ≤ n ∧ n ≤ 16777216 ∧ 18446744069414584320 % n ≠ 0) := by
    have h' : ¬ (1 ≤ n ∧ n ≤ 16777216 ∧ 18446744069414584320 % n = 0) := by intro e; rw [hasSz_iff.2 e] at h; cases h
    by_cases a : 1 ≤ n
    · by_cases b : n ≤ 16777216
      · exact .inr (.inr ⟨a, b, fun e => h' ⟨a, b, e⟩⟩)
      · exact .inr (.inl ⟨a, by omega⟩)
    · exact .inl (by omega)
  clear h
  rcases hd with h1 | ⟨h1, h2⟩ | ⟨h1, h2, h3⟩
  · go_enter Try.func59, Try.ntmps59
    go_wp2_with fail
    go_ret
    exact ⟨rfl, rfl⟩
  · go_enter Try.func59, Try.ntmps59
    go_wp2_with fail
    go_ret
    exact ⟨rfl, rfl⟩
  · have hz : (18446744069414584320 % n == 0) = false := bno h3
    have h0 : (n == 0) = false := bno (by omega)
    clear h3
    go_enter Try.func59, Try.ntmps59
    go_wp2_with fail
    go_ret
    exact ⟨rfl, rfl⟩

theorem refHas_yes (n : Int) (w : World) (h : hasSz n = true) :
    Calls Try.prog 29 #[.int .i64 n] w fun e w' => e = .returned (.bool true) ∧ w = w' := by
  obtain ⟨h1, h2, h3⟩ := hasSz_iff.1 h
  have hz : (18446744069414584320 % n == 0) = true := btrue h3
  have h0 : (n == 0) = false := bno (by omega)
  clear h h3
  go_enter Try.func29, Try.ntmps29
  go_wp2_with fail
  go_ret
  exact ⟨rfl, rfl⟩

theorem refHas_no (n : Int) (w : World) (h : hasSz n = false) (hn : -9223372036854775808 ≤ n ∧ n < 9223372036854775808) :
    Calls Try.prog 29 #[.int .i64 n] w fun e w' => e = .returned (.bool false) ∧ w = w' := by
  have hd : n < 1 ∨ (1 ≤ n ∧ 16777216 < n) ∨ (1 ≤ n ∧ n ≤ 16777216 ∧ 18446744069414584320 % n ≠ 0) := by
    have h' : ¬ (1 ≤ n ∧ n ≤ 16777216 ∧ 18446744069414584320 % n = 0) := by intro e; rw [hasSz_iff.2 e] at h; cases h
    by_cases a : 1 ≤ n
    · by_cases b : n ≤ 16777216
      · exact .inr (.inr ⟨a, b, fun e => h' ⟨a, b, e⟩⟩)
      · exact .inr (.inl ⟨a, by omega⟩)
    · exact .inl (by omega)
  clear h
  rcases hd with h1 | ⟨h1, h2⟩ | ⟨h1, h2, h3⟩
  · go_enter Try.func29, Try.ntmps29
    go_wp2_with fail
    go_ret
    exact ⟨rfl, rfl⟩
  · go_enter Try.func29, Try.ntmps29
    go_wp2_with fail
    go_ret
    exact ⟨rfl, rfl⟩
  · have hz : (18446744069414584320 % n == 0) = false := bno h3
    have h0 : (n == 0) = false := bno (by omega)
    clear h3
    go_enter Try.func29, Try.ntmps29
    go_wp2_with fail
    go_ret
    exact ⟨rfl, rfl⟩
end Go.Proofs.Ytncikklhchimdaa
