/- Which numbers are powers of two, or few. -/
import Derived.Test.YtncikklhchimdaaPow
import Derived.Test.YtncikklhchimdaaBool0
namespace Go.Proofs.Ytncikklhchimdaa
open Go.RowKit
set_option linter.unusedVariables false
set_option linter.unusedSimpArgs false
set_option maxRecDepth 100000

theorem stock_power (n : Int) (w : World) (hn : -9223372036854775808 ≤ n ∧ n ≤ 9223372036854775807) :
    Calls Try.prog 100 #[.int .i64 n] w fun e w' => e = .returned (.bool (isP2 n)) ∧ w = w' := by
  by_cases h0 : n ≤ 0
  · have HP := Lib.hid (isP2_neg n h0)
    go_enter Try.func100, Try.ntmps100
    go_wp2_with fail
    go_ret
    exact ⟨ret_bool HP.out.symm, rfl⟩
  · obtain ⟨N, rfl⟩ := Int.eq_ofNat_of_zero_le (show 0 ≤ n by omega)
    obtain ⟨V, hV⟩ : ∃ V, N &&& (N - 1) = V := ⟨_, rfl⟩
    have e1 : bits .and .i64 (N : Int) ((N : Int) - 1) = (V : Int) := by
      have := bits_and_nat N (N - 1) (by omega) (by omega)
      rw [hV] at this
      rw [← this]; congr 1; omega
    have hP : isP2 (N : Int) = decide (V = 0) := by
      rw [isP2_nat, hV, show decide (0 < N) = true by simp; omega, Bool.true_and]
    have HP := Lib.hid hP
    clear hV hP
    by_cases hv : V = 0
    · have e2 : ((V : Int) == 0) = true := by simp; omega
      have HV := Lib.hid hv
      clear hv
      go_enter Try.func100, Try.ntmps100
      go_wp2_with fail
      go_ret
      exact ⟨ret_bool (by rw [HP.out]; simp [HV.out]), rfl⟩
    · have e2 : ((V : Int) == 0) = false := by simp; omega
      have HV := Lib.hid hv
      clear hv
      go_enter Try.func100, Try.ntmps100
      go_wp2_with fail
      go_ret
      exact ⟨ret_bool (by rw [HP.out]; simp [HV.out]), rfl⟩

/-- May there be so many? -/
def hasP2 (n : Int) : Bool := isP2 n && decide (n ≤ 16777216)
theorem hasP2_iff (n : Int) : hasP2 n = true ↔ ∃ k, k ≤ 24 ∧ n = ((2 ^ k : Nat) : Int) := by
  unfold hasP2
  rw [Bool.and_eq_true, decide_eq_true_eq]
  constructor
  · rintro ⟨h1, h2⟩
    have h0 := isP2_pos n h1
    obtain ⟨N, rfl⟩ := Int.eq_ofNat_of_zero_le (show 0 ≤ n by omega)
    obtain ⟨k, rfl⟩ := (isP2_iff N).1 h1
    refine ⟨k, ?_, rfl⟩
    by_cases hk : k ≤ 24
    · exact hk
    · have : 2 ^ 25 ≤ 2 ^ k := Nat.pow_le_pow_right (by omega) (by omega)
      have e : (2 : Nat) ^ 25 = 33554432 := by decide
      omega
  · rintro ⟨k, hk, rfl⟩
    refine ⟨(isP2_iff _).2 ⟨k, rfl⟩, ?_⟩
    have : 2 ^ k ≤ 2 ^ 24 := Nat.pow_le_pow_right (by omega) hk
    have e : (2 : Nat) ^ 24 = 16777216 := by decide
    omega

theorem stock_Has (n : Int) (w : World) (hn : -9223372036854775808 ≤ n ∧ n ≤ 9223372036854775807) :
    Calls Try.prog 61 #[.int .i64 n] w fun e w' => e = .returned (.bool (hasP2 n)) ∧ w = w' := by
  obtain ⟨B, hB⟩ : ∃ B, isP2 n = B := ⟨_, rfl⟩
  have HP := Lib.hid hB
  have HH : Hid (hasP2 n = (B && decide (n ≤ 16777216))) := by unfold Hid hasP2; rw [hB]
  have C1 : Hid (∀ w : World, Calls Try.prog 100 #[.int .i64 n] w fun e w' => e = .returned (.bool B) ∧ w = w') := fun w => by rw [← hB]; exact stock_power n w hn
  clear hB
  cases B
  all_goals
    go_enter Try.func61, Try.ntmps61
    go_wp2_with fail
    refine (C1.out _).mono ?_; rintro e w' ⟨rfl, rfl⟩
    go_wp2_with fail
    go_ret
    exact ⟨ret_bool (by rw [HH.out]; first | rfl | simp), rfl⟩

theorem small_Has (n : Int) (w : World) :
    Calls Try.prog 60 #[.int .i64 n] w fun e w' => e = .returned (.bool (decide (1 ≤ n ∧ n ≤ 5))) ∧ w = w' := by
  rcases (show n < 1 ∨ (1 ≤ n ∧ n ≤ 5) ∨ (1 ≤ n ∧ 5 < n) by omega) with h | ⟨h1, h2⟩ | ⟨h1, h2⟩
  all_goals
    go_enter Try.func60, Try.ntmps60
    go_wp2_with fail
    go_ret
    exact ⟨ret_bool (by simp; try omega), rfl⟩
end Go.Proofs.Ytncikklhchimdaa
