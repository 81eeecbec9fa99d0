/- Powers of two: plain facts; the reference's test. -/
import Derived.Test.YtncikklhchimdaaMem
namespace Go.Proofs.Ytncikklhchimdaa
open Go.RowKit
set_option linter.unusedVariables false
set_option linter.unusedSimpArgs false
set_option maxRecDepth 100000

theorem bits_and_nat (a b : Nat) (ha : a < 9223372036854775808) (hb : b < 9223372036854775808) : bits .and .i64 (a : Int) (b : Int) = ((a &&& b : Nat) : Int) := by
  have h : a &&& b ≤ a := Nat.and_le_left
  show IntKind.i64.wrap (((BitVec.ofInt 64 (a : Int)) &&& (BitVec.ofInt 64 (b : Int))).toNat : Int) = _
  rw [BitVec.ofInt_natCast, BitVec.ofInt_natCast, BitVec.toNat_and, BitVec.toNat_ofNat, BitVec.toNat_ofNat, Nat.mod_eq_of_lt (by omega), Nat.mod_eq_of_lt (by omega)]
  exact IntWalk.i64_in _ (by omega)

/-- Is it a power of two? -/
def isP2 (n : Int) : Bool := decide (0 < n) && decide (n.toNat &&& (n.toNat - 1) = 0)
theorem isP2_nat (n : Nat) : isP2 n = (decide (0 < n) && decide (n &&& (n - 1) = 0)) := by unfold isP2; simp
theorem isP2_iff (n : Nat) : isP2 n = true ↔ ∃ k, n = 2 ^ k := by
  rw [isP2_nat]
  by_cases h : n = 0
  · subst h
    simp only [Nat.lt_irrefl, decide_false, Bool.false_and, Bool.false_eq_true, false_iff]
    rintro ⟨k, hk⟩
    have : 0 < 2 ^ k := Nat.pow_pos (by omega)
    omega
  · rw [show decide (0 < n) = true by simp; omega, Bool.true_and, decide_eq_true_eq]
    exact Nat.and_sub_one_eq_zero_iff_isPowerOfTwo h
theorem isP2_neg (n : Int) (h : n ≤ 0) : isP2 n = false := by unfold isP2; rw [show decide (0 < n) = false by simp; omega]; rfl
theorem isP2_pos (n : Int) (h : isP2 n = true) : 0 < n := by
  by_cases h0 : 0 < n
  · exact h0
  · rw [isP2_neg n (by omega)] at h; cases h
theorem isP2_one : isP2 1 = true := by decide
theorem isP2_half (n : Nat) (h : 0 < n) : isP2 ((2 * n : Nat) : Int) = isP2 n := by
  rw [Bool.eq_iff_iff, isP2_iff, isP2_iff]
  constructor
  · rintro ⟨k, hk⟩
    cases k with
    | zero => rw [Nat.pow_zero] at hk; omega
    | succ k => exact ⟨k, by rw [Nat.pow_succ] at hk; omega⟩
  · rintro ⟨k, hk⟩
    exact ⟨k + 1, by rw [Nat.pow_succ]; omega⟩
theorem isP2_odd (n : Nat) (h : n % 2 = 1) (h1 : 1 < n) : isP2 n = false := by
  cases hb : isP2 (n : Int) with
  | false => rfl
  | true =>
    obtain ⟨k, hk⟩ := (isP2_iff n).1 hb
    cases k with
    | zero => rw [Nat.pow_zero] at hk; omega
    | succ k => rw [Nat.pow_succ] at hk; omega

theorem refPower (n : Int) (w : World) (hn : -9223372036854775808 ≤ n ∧ n ≤ 9223372036854775807) :
    Calls Try.prog 79 #[.int .i64 n] w fun e w' => e = .returned (.bool (isP2 n)) ∧ w = w' := by
  by_cases h0 : n ≤ 0
  · have HP := Lib.hid (isP2_neg n h0)
    have hb : (n == 1) = false := by simp; omega
    go_enter Try.func79, Try.ntmps79
    go_wp2_with fail
    go_loopw [0] (fun v wr => v = .int .i64 n ∧ w = wr) (fun v _ => 0)
    case atStart => exact ⟨rfl, rfl⟩
    case round =>
      obtain ⟨rfl, rfl⟩ := hrel
      go_wp2_with fail
      go_ret
      exact ⟨ret_bool HP.out.symm, rfl⟩
  · obtain ⟨N, rfl⟩ := Int.eq_ofNat_of_zero_le (show 0 ≤ n by omega)
    obtain ⟨B, hB⟩ : ∃ B, isP2 (N : Int) = B := ⟨_, rfl⟩
    rw [hB]
    have HB := Lib.hid hB
    clear hB
    go_enter Try.func79, Try.ntmps79
    go_wp2_with fail
    go_loopw [0] (fun v wr => ∃ m : Nat, 0 < m ∧ m ≤ N ∧ v = .int .i64 m ∧ Hid (isP2 (m : Int) = B) ∧ w = wr) (fun v _ => (intOf v).toNat)
    case atStart => exact ⟨N, by omega, Nat.le_refl _, rfl, HB.out, rfl⟩
    case round =>
      obtain ⟨m, hm0, hm, rfl, HM, rfl⟩ := hrel
      by_cases h1 : m = 1
      · subst h1
        have HT : Hid (B = true) := by unfold Hid; rw [← HM.out]; exact isP2_one
        go_wp2_with fail
        go_ret
        exact ⟨ret_bool (by rw [HT.out]), rfl⟩
      · by_cases h2 : m % 2 = 1
        · have HT : Hid (B = false) := by unfold Hid; rw [← HM.out]; exact isP2_odd m h2 (by omega)
          have e1 : (m : Int) % 2 = 1 := by omega
          have e2 : ((m : Int) == 1) = false := by simp; omega
          have e3 : (1 : Int) < (m : Int) := by omega
          go_wp2_with fail
          go_ret
          exact ⟨ret_bool (by rw [HT.out]), rfl⟩
        · obtain ⟨t, rfl⟩ : ∃ t, m = 2 * t := ⟨m / 2, by omega⟩
          have HT : Hid (isP2 (t : Int) = B) := by unfold Hid; rw [← HM.out]; exact (isP2_half t (by omega)).symm
          obtain ⟨m, hm'⟩ : ∃ m, 2 * t = m := ⟨_, rfl⟩
          rw [hm'] at hm hm0 h1 h2 ⊢
          have e1 : (m : Int) % 2 = 0 := by omega
          have e2 : (m : Int) / 2 = (t : Int) := by omega
          have e3 : (1 : Int) < (m : Int) := by omega
          have ht : t < m := by omega
          have ht0 : 0 < t := by omega
          have htN : t ≤ N := by omega
          clear HM hm' h1 h2
          go_wp2_with fail
          go_roundw
          case rel => exact ⟨t, ht0, htN, rfl, HT.out, trivial⟩
          case measure => simp [intOf]; omega
end Go.Proofs.Ytncikklhchimdaa
