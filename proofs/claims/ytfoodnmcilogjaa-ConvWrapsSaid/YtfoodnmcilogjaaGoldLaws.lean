/- The laws of chapter 02, each as a call that returns true. -/
import Derived.Test.YtfoodnmcilogjaaGoldR
namespace Go.Proofs.Ytfoodnmcilogjaa
open Go.RowKit
set_option linter.unusedVariables false
set_option linter.unusedSimpArgs false

theorem fermat_int (n e p : Nat) (q : Int) (hq : (p : Int) = q) (h : n ^ e % p = 1) : (n : Int) ^ e % q = 1 := by
  have h3 : ((n ^ e % p : Nat) : Int) = 1 := by rw [h]; rfl
  rw [Int.natCast_emod, Int.natCast_pow, hq] at h3
  exact h3

theorem pn_sub : Fld.pn - 1 = 18446744069414584320 := rfl

/-- Fermat's theorem over the integers. -/
theorem fermatZ (a : Int) (h0 : 0 ≤ a) (h : a % 18446744069414584321 ≠ 0) : pw a 18446744069414584320 = 1 := by
  obtain ⟨n, rfl⟩ := Int.eq_ofNat_of_zero_le h0
  have h1 : n % Fld.pn ≠ 0 := by
    unfold Fld.pn; omega
  have h2 := Fld.fermat n h1
  rw [pn_sub] at h2
  unfold pw
  exact fermat_int n _ Fld.pn _ rfl h2

theorem pw_inv (a : Int) (h0 : 0 ≤ a) (h : a % 18446744069414584321 ≠ 0) : a * pw a 18446744069414584319 % 18446744069414584321 = 1 := by
  have h1 := fermatZ a h0 h
  unfold pw at *
  rw [modmul_r, ← Int.pow_succ']
  exact h1

theorem pw_mod (a : Int) (n : Nat) : pw (a % 18446744069414584321) n = pw a n := by
  unfold pw; rw [modpow]

theorem pw_zero (a : Int) (n : Nat) (h : a % 18446744069414584321 = 0) (hn : 0 < n) : pw a n = 0 := by
  rw [← pw_mod, h]; unfold pw
  obtain ⟨m, rfl⟩ : ∃ m, n = m + 1 := ⟨n - 1, by omega⟩
  rw [Int.pow_succ, Int.mul_zero]; rfl

theorem half_of (x : Int) (h : 2 * x % 18446744069414584321 = 1) (h0 : 0 ≤ x) (h1 : x < 18446744069414584321) : x = 9223372034707292161 := by
  have e1 : x * (2 * 9223372034707292161 % 18446744069414584321) % 18446744069414584321 = (2 * x % 18446744069414584321) * 9223372034707292161 % 18446744069414584321 := by
    rw [modmul_r, modmul_l, Int.mul_comm 2 x, Int.mul_assoc]
  rw [h, show (2 * 9223372034707292161 % 18446744069414584321 : Int) = 1 from rfl, Int.mul_one, Int.emod_eq_of_lt h0 h1] at e1
  rw [e1]; rfl
theorem inv_of (a : Int) (n : Nat) (x : Int) (h : pw a n = x) : (pw a n == x) = true := beq_iff_eq.2 h
theorem inv2 : pw 2 18446744069414584319 = 9223372034707292161 :=
  half_of _ (pw_inv 2 (by omega) (by omega)) (pw_range 2 18446744069414584319).1 (pw_range 2 18446744069414584319).2

set_option maxHeartbeats 400000 in
theorem live02 (w : World) : Calls Try.prog 29 #[] w fun e w' => e = .returned (.bool true) ∧ w = w' := by
  have hi : (pw 2 18446744069414584319 == 9223372034707292161) = true := inv_of _ _ _ inv2
  go_enter Try.func29, Try.ntmps29
  go_wp2_with (first | (go_at_call 32; refine (gold_Mul _ _ _ (by omega) (by omega) (by omega) (by omega)).mono ?_; rintro e w' ⟨rfl, rfl⟩) | (go_at_call 26; refine (gold_Inv _ _ (by omega) (by omega)).mono ?_; rintro e w' ⟨rfl, rfl⟩))
  go_ret
  exact ⟨rfl, rfl⟩

theorem bfalse {a b : Int} (h : a = b) : (a != b) = false := by simp [h]

set_option maxHeartbeats 1000000 in
theorem goldTells (a b : Int) (w : World) (ha0 : 0 ≤ a) (ha : a < 18446744073709551616) (hb0 : 0 ≤ b) (hb : b < 18446744073709551616) :
    Calls Try.prog 7 #[.int .u64 a, .int .u64 b] w fun e w' => e = .returned (.bool true) ∧ w = w' := by
  have t1 : ((a + b) % 18446744069414584321 != (a % 18446744069414584321 + b % 18446744069414584321) % 18446744069414584321) = false := bfalse (by omega)
  have t2 : ((a - b) % 18446744069414584321 != (a % 18446744069414584321 - b % 18446744069414584321) % 18446744069414584321) = false := bfalse (by omega)
  have t3 : ((-a) % 18446744069414584321 != (-(a % 18446744069414584321)) % 18446744069414584321) = false := bfalse (by omega)
  have t4 : (a * b % 18446744069414584321 != (a % 18446744069414584321) * (b % 18446744069414584321) % 18446744069414584321) = false := bfalse (by rw [modmul_l, modmul_r])
  have t5 : ((a * 9223372034707292161 % 18446744069414584321 + a * 9223372034707292161 % 18446744069414584321) % 18446744069414584321 == a % 18446744069414584321) = true := beq_iff_eq.2 (by omega)
  have t6 : a * 9223372034707292161 % 18446744069414584321 < 18446744069414584321 := by omega
  go_enter Try.func7, Try.ntmps7
  go_wp2_with (first | (go_at_call 35; refine (gold_Red _ _ (by omega) (by omega)).mono ?_; rintro e w' ⟨rfl, rfl⟩) | (go_at_call 31; refine (gold_Add _ _ _ (by omega) (by omega) (by omega) (by omega)).mono ?_; rintro e w' ⟨rfl, rfl⟩) | (go_at_call 34; refine (gold_Sub _ _ _ (by omega) (by omega) (by omega) (by omega)).mono ?_; rintro e w' ⟨rfl, rfl⟩) | (go_at_call 33; refine (gold_Neg _ _ (by omega) (by omega)).mono ?_; rintro e w' ⟨rfl, rfl⟩) | (go_at_call 32; refine (gold_Mul _ _ _ (by omega) (by omega) (by omega) (by omega)).mono ?_; rintro e w' ⟨rfl, rfl⟩) | (go_at_call 42; refine (gold_Half _ _ (by omega) (by omega)).mono ?_; rintro e w' ⟨rfl, rfl⟩) | (go_at_call 25; refine (ref_Red _ _ (by omega) (by omega)).mono ?_; rintro e w' ⟨rfl, rfl⟩) | (go_at_call 36; refine (ref_Add _ _ _ (by omega) (by omega) (by omega) (by omega)).mono ?_; rintro e w' ⟨rfl, rfl⟩) | (go_at_call 40; refine (ref_Sub _ _ _ (by omega) (by omega) (by omega) (by omega)).mono ?_; rintro e w' ⟨rfl, rfl⟩) | (go_at_call 41; refine (ref_Neg _ _ (by omega) (by omega)).mono ?_; rintro e w' ⟨rfl, rfl⟩) | (go_at_call 30; refine (ref_Mul _ _ _ (by omega) (by omega) (by omega) (by omega)).mono ?_; rintro e w' ⟨rfl, rfl⟩) | (go_at_call 29; refine (live02 _).mono ?_; rintro e w' ⟨rfl, rfl⟩))
  go_ret
  exact ⟨rfl, rfl⟩

theorem goldTellsW (a b : Int) (w : World) (h0 : fits .u64 a) (h1 : fits .u64 b) :
    Calls Try.prog 7 #[.int .u64 a, .int .u64 b] w fun e w' => e = .returned (.bool true) ∧ Below w.heap.size w w' := by
  obtain ⟨a0, a1⟩ := fits_u64.1 h0
  obtain ⟨b0, b1⟩ := fits_u64.1 h1
  exact (goldTells a b w a0 a1 b0 b1).mono fun e w' ⟨he, hw⟩ => ⟨he, hw ▸ Below.refl _ _⟩

theorem btrue {a b : Int} (h : a = b) : (a == b) = true := by simp [h]
theorem bno {a b : Int} (h : a ≠ b) : (a == b) = false := by simp [h]

set_option maxHeartbeats 1000000 in
theorem goldPowersW (a n : Int) (w : World) (h0 : fits .u64 a) (h1 : fits .u64 n) :
    Calls Try.prog 4 #[.int .u64 a, .int .u64 n] w fun e w' => e = .returned (.bool true) ∧ Below w.heap.size w w' := by
  obtain ⟨ha0, ha⟩ := fits_u64.1 h0
  obtain ⟨hn0, hn⟩ := fits_u64.1 h1
  clear h0 h1
  have t1 : (pw a n.toNat != pw (a % 18446744069414584321) n.toNat) = false := bfalse (pw_mod a _).symm
  have r1 := pw_range a 18446744069414584319
  by_cases hz : a % 18446744069414584321 = 0
  · have z1 : (a % 18446744069414584321 == 0) = true := btrue hz
    have z2 : (pw a 18446744069414584319 == 0) = true := btrue (pw_zero a _ hz (by omega))
    have HZ := Lib.hid hz
    clear hz
    go_enter Try.func4, Try.ntmps4
    go_wp2_with (first | (go_at_call 27; refine (gold_Pow _ _ _ (by omega) (by omega) (by omega) (by omega)).mono ?_; rintro e w' ⟨rfl, rfl⟩) | (go_at_call 26; refine (gold_Inv _ _ (by omega) (by omega)).mono ?_; rintro e w' ⟨rfl, rfl⟩) | (go_at_call 25; refine (ref_Red _ _ (by omega) (by omega)).mono ?_; rintro e w' ⟨rfl, rfl⟩) | (go_at_call 28; refine (ref_Pow _ _ _ (by omega) (by omega) (by omega) (by omega)).mono ?_; rintro e w' ⟨rfl, rfl⟩) | (go_at_call 30; refine (ref_Mul _ _ _ (by omega) (by omega) (by omega) (by omega)).mono ?_; rintro e w' ⟨rfl, rfl⟩) | (go_at_call 29; refine (live02 _).mono ?_; rintro e w' ⟨rfl, rfl⟩))
    go_ret
    exact ⟨rfl, Below.refl _ _⟩
  · have z1 : (a % 18446744069414584321 == 0) = false := bno hz
    have z2 : (pw a 18446744069414584319 * (a % 18446744069414584321) % 18446744069414584321 == 1) = true := btrue (by rw [modmul_r, Int.mul_comm]; exact pw_inv a ha0 hz)
    have z3 : (pw a 18446744069414584320 == 1) = true := btrue (fermatZ a ha0 hz)
    have HZ := Lib.hid hz
    clear hz
    go_enter Try.func4, Try.ntmps4
    go_wp2_with (first | (go_at_call 27; refine (gold_Pow _ _ _ (by omega) (by omega) (by omega) (by omega)).mono ?_; rintro e w' ⟨rfl, rfl⟩) | (go_at_call 26; refine (gold_Inv _ _ (by omega) (by omega)).mono ?_; rintro e w' ⟨rfl, rfl⟩) | (go_at_call 25; refine (ref_Red _ _ (by omega) (by omega)).mono ?_; rintro e w' ⟨rfl, rfl⟩) | (go_at_call 28; refine (ref_Pow _ _ _ (by omega) (by omega) (by omega) (by omega)).mono ?_; rintro e w' ⟨rfl, rfl⟩) | (go_at_call 30; refine (ref_Mul _ _ _ (by omega) (by omega) (by omega) (by omega)).mono ?_; rintro e w' ⟨rfl, rfl⟩) | (go_at_call 29; refine (live02 _).mono ?_; rintro e w' ⟨rfl, rfl⟩))
    go_ret
    exact ⟨rfl, Below.refl _ _⟩

theorem inv_back (a b : Int) (hb0 : 0 ≤ b) (hb : b % 18446744069414584321 ≠ 0) : (a * b % 18446744069414584321) * pw b 18446744069414584319 % 18446744069414584321 = a % 18446744069414584321 := by
  rw [modmul_l, Int.mul_assoc, ← modmul_r, pw_inv b hb0 hb, Int.mul_one]

set_option maxHeartbeats 2000000 in
theorem goldFieldW (a b c : Int) (w : World) (h0 : fits .u64 a) (h1 : fits .u64 b) (h2 : fits .u64 c) :
    Calls Try.prog 5 #[.int .u64 a, .int .u64 b, .int .u64 c] w fun e w' => e = .returned (.bool true) ∧ Below w.heap.size w w' := by
  obtain ⟨ha0, ha⟩ := fits_u64.1 h0
  obtain ⟨hb0, hb⟩ := fits_u64.1 h1
  obtain ⟨hc0, hc⟩ := fits_u64.1 h2
  clear h0 h1 h2
  have t1 : ((a + b) % 18446744069414584321 != (b + a) % 18446744069414584321) = false := bfalse (by omega)
  have t2 : (a * b % 18446744069414584321 != b * a % 18446744069414584321) = false := bfalse (by rw [Int.mul_comm])
  have t3 : ((a * b % 18446744069414584321) * c % 18446744069414584321 != a * (b * c % 18446744069414584321) % 18446744069414584321) = false := bfalse (by rw [modmul_l, modmul_r, Int.mul_assoc])
  have t4 : (((a + b) % 18446744069414584321 + c) % 18446744069414584321 != (a + (b + c) % 18446744069414584321) % 18446744069414584321) = false := bfalse (by omega)
  have t5 : (a * ((b + c) % 18446744069414584321) % 18446744069414584321 != (a * b % 18446744069414584321 + a * c % 18446744069414584321) % 18446744069414584321) = false := bfalse (by rw [modmul_r, Int.mul_add]; omega)
  have t3' : (a * b * c % 18446744069414584321 != a * (b * c) % 18446744069414584321) = false := bfalse (by rw [Int.mul_assoc])
  have t4' : ((a + b + c) % 18446744069414584321 != (a + (b + c)) % 18446744069414584321) = false := bfalse (by omega)
  have t5' : (a * ((b + c) % 18446744069414584321) % 18446744069414584321 != (a * b + a * c) % 18446744069414584321) = false := bfalse (by rw [modmul_r, Int.mul_add])
  have t6 : ((a + -a % 18446744069414584321) % 18446744069414584321 != 0) = false := bfalse (by omega)
  have t7 : (((a + b) % 18446744069414584321 - b) % 18446744069414584321 != a % 18446744069414584321) = false := bfalse (by omega)
  have r1 := pw_range b 18446744069414584319
  by_cases hz : b % 18446744069414584321 = 0
  · have z1 : (b % 18446744069414584321 == 0) = true := btrue hz
    have HZ := Lib.hid hz
    clear hz
    go_enter Try.func5, Try.ntmps5
    go_wp2_with (first | (go_at_call 35; refine (gold_Red _ _ (by omega) (by omega)).mono ?_; rintro e w' ⟨rfl, rfl⟩) | (go_at_call 31; refine (gold_Add _ _ _ (by omega) (by omega) (by omega) (by omega)).mono ?_; rintro e w' ⟨rfl, rfl⟩) | (go_at_call 34; refine (gold_Sub _ _ _ (by omega) (by omega) (by omega) (by omega)).mono ?_; rintro e w' ⟨rfl, rfl⟩) | (go_at_call 33; refine (gold_Neg _ _ (by omega) (by omega)).mono ?_; rintro e w' ⟨rfl, rfl⟩) | (go_at_call 32; refine (gold_Mul _ _ _ (by omega) (by omega) (by omega) (by omega)).mono ?_; rintro e w' ⟨rfl, rfl⟩) | (go_at_call 26; refine (gold_Inv _ _ (by omega) (by omega)).mono ?_; rintro e w' ⟨rfl, rfl⟩) | (go_at_call 29; refine (live02 _).mono ?_; rintro e w' ⟨rfl, rfl⟩))
    go_ret
    exact ⟨rfl, Below.refl _ _⟩
  · have z1 : (b % 18446744069414584321 == 0) = false := bno hz
    have z2' : (a * b * pw b 18446744069414584319 % 18446744069414584321 == a % 18446744069414584321) = true := btrue (by have := inv_back a b hb0 hz; rw [modmul_l] at this; exact this)
    have z2 : ((a * b % 18446744069414584321) * pw b 18446744069414584319 % 18446744069414584321 == a % 18446744069414584321) = true := btrue (inv_back a b hb0 hz)
    have HZ := Lib.hid hz
    clear hz
    go_enter Try.func5, Try.ntmps5
    go_wp2_with (first | (go_at_call 35; refine (gold_Red _ _ (by omega) (by omega)).mono ?_; rintro e w' ⟨rfl, rfl⟩) | (go_at_call 31; refine (gold_Add _ _ _ (by omega) (by omega) (by omega) (by omega)).mono ?_; rintro e w' ⟨rfl, rfl⟩) | (go_at_call 34; refine (gold_Sub _ _ _ (by omega) (by omega) (by omega) (by omega)).mono ?_; rintro e w' ⟨rfl, rfl⟩) | (go_at_call 33; refine (gold_Neg _ _ (by omega) (by omega)).mono ?_; rintro e w' ⟨rfl, rfl⟩) | (go_at_call 32; refine (gold_Mul _ _ _ (by omega) (by omega) (by omega) (by omega)).mono ?_; rintro e w' ⟨rfl, rfl⟩) | (go_at_call 26; refine (gold_Inv _ _ (by omega) (by omega)).mono ?_; rintro e w' ⟨rfl, rfl⟩) | (go_at_call 29; refine (live02 _).mono ?_; rintro e w' ⟨rfl, rfl⟩))
    go_ret
    exact ⟨rfl, Below.refl _ _⟩
end Go.Proofs.Ytfoodnmcilogjaa
