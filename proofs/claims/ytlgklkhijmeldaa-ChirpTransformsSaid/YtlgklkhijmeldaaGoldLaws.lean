/- The laws of chapter 02, each as a call that returns true. -/
import Derived.Test.YtlgklkhijmeldaaGoldR
namespace Go.Proofs.Ytlgklkhijmeldaa
open Go.RowKit
set_option linter.unusedVariables false
set_option linter.unusedSimpArgs false
set_option maxRecDepth 100000

theorem fermat_int (n e p : Nat) (q : Int) (hq : (p : Int) = q) (h : n ^ e % p = 1) : (n : Int) ^ e % q = 1 := by
  have h3 : ((n ^ e % p : Nat) : Int) = 1 := by rw [h]; rfl
  rw [Int.natCast_emod, Int.natCast_pow, hq] at h3
  exact h3

theorem pn_sub : Fld.pn - 1 = 18446744069414584320 := rfl

/-- Fermat's theorem over the integers. -/
theorem fermatZ (a : Int) (h0 : 0 ≤ a) (h : a % 18446744069414584321 ≠ 0) : pw a 18446744069414584320 = 1 := by
  obtain ⟨n, rfl⟩ := Int.eq_ofNat_of_zero_le h0
  have h1 : n % Fld.pn ≠ 0 := by
    unfold Fld.pn; omega
  have h2 := Fld.fermat n h1
  rw [pn_sub] at h2
  unfold pw
  exact fermat_int n _ Fld.pn _ rfl h2

theorem pw_inv (a : Int) (h0 : 0 ≤ a) (h : a % 18446744069414584321 ≠ 0) : a * pw a 18446744069414584319 % 18446744069414584321 = 1 := by
  have h1 := fermatZ a h0 h
  unfold pw at *
  rw [modmul_r, ← Int.pow_succ']
  exact h1

theorem pw_mod (a : Int) (n : Nat) : pw (a % 18446744069414584321) n = pw a n := by
  unfold pw; rw [modpow]

theorem pw_zero (a : Int) (n : Nat) (h : a % 18446744069414584321 = 0) (hn : 0 < n) : pw a n = 0 := by
  rw [← pw_mod, h]; unfold pw
  obtain ⟨m, rfl⟩ : ∃ m, n = m + 1 := ⟨n - 1, by omega⟩
  rw [Int.pow_succ, Int.mul_zero]; rfl

theorem half_of (x : Int) (h : 2 * x % 18446744069414584321 = 1) (h0 : 0 ≤ x) (h1 : x < 18446744069414584321) : x = 9223372034707292161 := by
  have e1 : x * (2 * 9223372034707292161 % 18446744069414584321) % 18446744069414584321 = (2 * x % 18446744069414584321) * 9223372034707292161 % 18446744069414584321 := by
    rw [modmul_r, modmul_l, Int.mul_comm 2 x, Int.mul_assoc]
  rw [h, show (2 * 9223372034707292161 % 18446744069414584321 : Int) = 1 from rfl, Int.mul_one, Int.emod_eq_of_lt h0 h1] at e1
  rw [e1]; rfl
theorem inv_of (a : Int) (n : Nat) (x : Int) (h : pw a n = x) : (pw a n == x) = true := beq_iff_eq.2 h
theorem inv2 : pw 2 18446744069414584319 = 9223372034707292161 :=
  half_of _ (pw_inv 2 (by omega) (by omega)) (pw_range 2 18446744069414584319).1 (pw_range 2 18446744069414584319).2

theorem bfalse {a b : Int} (h : a = b) : (a != b) = false := by simp [h]

theorem btrue {a b : Int} (h : a = b) : (a == b) = true := by simp [h]
theorem bno {a b : Int} (h : a ≠ b) : (a == b) = false := by simp [h]

theorem inv_back (a b : Int) (hb0 : 0 ≤ b) (hb : b % 18446744069414584321 ≠ 0) : (a * b % 18446744069414584321) * pw b 18446744069414584319 % 18446744069414584321 = a % 18446744069414584321 := by
  rw [modmul_l, Int.mul_assoc, ← modmul_r, pw_inv b hb0 hb, Int.mul_one]

end Go.Proofs.Ytlgklkhijmeldaa
