/- The contracts of the field's functions, second part: products, powers, inverses, halves, sums. -/
import Derived.Test.YtlgklkhijmeldaaGold
import Derived.Test.YtlgklkhijmeldaaField
import Derived.Laws.Bits64b
import Derived.Shelf.Bits.Mul64
namespace Go.Proofs.Ytlgklkhijmeldaa
open Go.RowKit
set_option linter.unusedVariables false
set_option linter.unusedSimpArgs false
set_option maxRecDepth 100000

set_option maxHeartbeats 1000000 in
theorem bits_Mul64 (x y : Nat) (hx : x < 18446744073709551616) (hy : y < 18446744073709551616) (w : World) :
    Calls Try.prog 83 #[.int .u64 x, .int .u64 y] w fun e w' => e = .returned (.tuple #[.int .u64 ((x * y / 18446744073709551616 : Nat) : Int), .int .u64 ((x * y % 18446744073709551616 : Nat) : Int)]) ∧ w = w' := by
  obtain ⟨bd, bt, bw, hhi⟩ := Lib.mul64_hi x y hx hy
  have ba := Lib.half_mul_le (a := x / 4294967296) (b := y / 4294967296) (by omega) (by omega)
  have bb := Lib.half_mul_le (a := x / 4294967296) (b := y % 4294967296) (by omega) (by omega)
  have bc := Lib.half_mul_le (a := x % 4294967296) (b := y / 4294967296) (by omega) (by omega)
  have ba' : x / 4294967296 * (y / 4294967296) < 18446744073709551616 := by omega
  have bb' : x / 4294967296 * (y % 4294967296) < 18446744073709551616 := by omega
  have bc' : x % 4294967296 * (y / 4294967296) < 18446744073709551616 := by omega
  have bh1 : x / 4294967296 * (y / 4294967296) + (x / 4294967296 * (y % 4294967296) + x % 4294967296 * (y % 4294967296) / 4294967296) / 4294967296 < 18446744073709551616 := by omega
  have bh : x / 4294967296 * (y / 4294967296) + (x / 4294967296 * (y % 4294967296) + x % 4294967296 * (y % 4294967296) / 4294967296) / 4294967296 + ((x / 4294967296 * (y % 4294967296) + x % 4294967296 * (y % 4294967296) / 4294967296) % 4294967296 + x % 4294967296 * (y / 4294967296)) / 4294967296 < 18446744073709551616 := by omega
  go_enter Try.func83, Try.ntmps83
  go_wp2
  simp only [Go.Proofs.Mul64.maskN x hx, Go.Proofs.Mul64.maskN y hy, Go.Proofs.Mul64.divN, Go.Proofs.Mul64.mulN, Go.Proofs.Mul64.addN, Go.Proofs.Mul64.wrapN _ bd, Go.Proofs.Mul64.wrapN _ bb', Go.Proofs.Mul64.wrapN _ bt, Go.Proofs.Mul64.maskN _ bt, Go.Proofs.Mul64.wrapN _ bc', Go.Proofs.Mul64.wrapN _ bw, Go.Proofs.Mul64.wrapN _ ba', Go.Proofs.Mul64.wrapN _ bh1, Go.Proofs.Mul64.wrapN _ bh, Go.Proofs.Mul64.wrapM (x * y)]
  rw [hhi]
  go_ret2
  exact ⟨rfl, rfl⟩

theorem mul64_any (x y : Int) (w : World) (hx0 : 0 ≤ x) (hx : x < 18446744073709551616) (hy0 : 0 ≤ y) (hy : y < 18446744073709551616) :
    Calls Try.prog 83 #[.int .u64 x, .int .u64 y] w fun e w' => e = .returned (.tuple #[.int .u64 (x * y / 18446744073709551616), .int .u64 (x * y % 18446744073709551616)]) ∧ w = w' := by
  obtain ⟨a, rfl⟩ := Int.eq_ofNat_of_zero_le hx0
  obtain ⟨b, rfl⟩ := Int.eq_ofNat_of_zero_le hy0
  refine (bits_Mul64 a b (by omega) (by omega) w).mono fun e w' ⟨he, hw⟩ => ⟨?_, hw⟩
  rw [he]
  simp only [Int.natCast_ediv, Int.natCast_emod, Int.natCast_mul]
  rfl

theorem mul_lt (x y : Int) (hx0 : 0 ≤ x) (hx : x < 18446744073709551616) (hy0 : 0 ≤ y) (hy : y < 18446744073709551616) : 0 ≤ x * y ∧ x * y < 18446744073709551616 * 18446744073709551616 :=
  ⟨Int.mul_nonneg hx0 hy0, Int.lt_of_le_of_lt (Int.mul_le_mul_of_nonneg_right (by omega : x ≤ 18446744073709551616) hy0) (Int.mul_lt_mul_of_pos_left hy (by omega))⟩

set_option maxHeartbeats 400000 in
theorem gold_Mul (a b : Int) (w : World) (ha0 : 0 ≤ a) (ha : a < 18446744073709551616) (hb0 : 0 ≤ b) (hb : b < 18446744073709551616) :
    Calls Try.prog 65 #[.int .u64 a, .int .u64 b] w fun e w' => e = .returned (.int .u64 (a * b % 18446744069414584321)) ∧ w = w' := by
  obtain ⟨m0, m1⟩ := mul_lt a b ha0 ha hb0 hb
  go_enter Try.func65, Try.ntmps65
  go_wp2_with fail
  refine (mul64_any a b _ ha0 ha hb0 hb).mono ?_; rintro e w' ⟨rfl, rfl⟩
  go_wp2_with fail
  refine (gold_fold _ _ _ (by omega) (by omega) (by omega) (by omega)).mono ?_; rintro e w' ⟨rfl, rfl⟩
  go_wp2_with fail
  go_ret
  exact ⟨ret_int (by omega), rfl⟩

set_option maxHeartbeats 400000 in
theorem gold_Half (a : Int) (w : World) (ha0 : 0 ≤ a) (ha : a < 18446744073709551616) :
    Calls Try.prog 97 #[.int .u64 a] w fun e w' => e = .returned (.int .u64 (a * 9223372034707292161 % 18446744069414584321)) ∧ w = w' := by
  go_enter Try.func97, Try.ntmps97
  go_wp2_with fail
  refine (gold_Red a _ ha0 ha).mono ?_; rintro e w' ⟨rfl, rfl⟩
  have hm := and_one_u64 (a % 18446744069414584321) (by omega) (by omega)
  go_wp2_with fail
  all_goals
    go_ret
    refine ⟨ret_int ?_, rfl⟩
    simp only [beq_iff_eq, beq_eq_false_iff_ne] at *
    omega

/-- A power, modulo P. (Irreducible: else a tactic that brings terms to head form would reckon it.) -/
@[irreducible] def pw (a : Int) (n : Nat) : Int := a ^ n % 18446744069414584321

theorem pw_range (a : Int) (n : Nat) : 0 ≤ pw a n ∧ pw a n < 18446744069414584321 := by
  unfold pw; omega

theorem modmul_l (a b p : Int) : (a % p) * b % p = a * b % p := by rw [Int.mul_emod, Int.emod_emod, ← Int.mul_emod]
theorem modmul_r (a b p : Int) : a * (b % p) % p = a * b % p := by rw [Int.mul_emod, Int.emod_emod, ← Int.mul_emod]
theorem modpow (a p : Int) (n : Nat) : (a % p) ^ n % p = a ^ n % p := by
  induction n with
  | zero => simp
  | succ n ih => rw [Int.pow_succ, Int.pow_succ, modmul_r, ← modmul_l, ih, modmul_l]

theorem pow_step0 (p a : Int) (m : Nat) (h : m % 2 = 0) : p * (a * a % 18446744069414584321) ^ (m / 2) % 18446744069414584321 = p * a ^ m % 18446744069414584321 := by
  have e : a ^ m = (a * a) ^ (m / 2) := by
    rw [show a * a = a ^ 2 from by rw [Int.pow_succ, Int.pow_succ, Int.pow_zero, Int.one_mul], ← Int.pow_mul, show 2 * (m / 2) = m from by omega]
  rw [e, ← modmul_r, modpow, modmul_r]
theorem pow_step1 (p a : Int) (m : Nat) (h : m % 2 = 1) : (p * a % 18446744069414584321) * (a * a % 18446744069414584321) ^ (m / 2) % 18446744069414584321 = p * a ^ m % 18446744069414584321 := by
  have h2 := pow_step0 (p * a % 18446744069414584321) a (m - 1) (by omega)
  rw [show (m - 1) / 2 = m / 2 from by omega] at h2
  rw [h2, modmul_l]
  rw [Int.mul_assoc, ← Int.pow_succ', show m - 1 + 1 = m from by omega]

set_option maxHeartbeats 400000 in
theorem gold_Pow (a n : Int) (w : World) (ha0 : 0 ≤ a) (ha : a < 18446744073709551616) (hn0 : 0 ≤ n) (hn : n < 18446744073709551616) :
    Calls Try.prog 78 #[.int .u64 a, .int .u64 n] w fun e w' => e = .returned (.int .u64 (pw a n.toNat)) ∧ w = w' := by
  go_enter Try.func78, Try.ntmps78
  go_wp2_with fail
  refine (gold_Red a _ ha0 ha).mono ?_; rintro e w' ⟨rfl, rfl⟩
  go_wp2_with fail
  go_loop [5, 0, 1] (fun v5 v0 v1 => ∃ p b m : Int, v5 = .int .u64 p ∧ v0 = .int .u64 b ∧ v1 = .int .u64 m ∧ 0 ≤ p ∧ p < 18446744069414584321 ∧ 0 ≤ b ∧ b < 18446744069414584321 ∧ 0 ≤ m ∧ m < 18446744073709551616 ∧ Hid (p * b ^ m.toNat % 18446744069414584321 = pw a n.toNat)) (fun v5 v0 v1 => (intOf v1).toNat)
  case atStart =>
    refine ⟨1, a % 18446744069414584321, n, rfl, rfl, rfl, by omega, by omega, by omega, by omega, hn0, hn, ?_⟩
    unfold Hid pw
    rw [Int.one_mul, modpow]
  case round =>
    obtain ⟨p, b, m, rfl, rfl, rfl, hp0, hp, hb0, hb, hm0, hm, H⟩ := hrel
    by_cases h0 : 0 < m
    · have ha := and_one_u64 m (by omega) (by omega)
      have hs : IntKind.u64.wrap (m / 2) = m / 2 := by rw [IntKind.wrap_u64]; omega
      by_cases h1 : m % 2 = 1
      · have hb1 : (m % 2 == 1) = true := by rw [beq_iff_eq]; exact h1
        have H1 := Lib.hid h1; clear h1
        go_wp2_with fail
        refine (gold_Mul p b _ (by omega) (by omega) (by omega) (by omega)).mono ?_; rintro e w' ⟨rfl, rfl⟩
        go_wp2_with fail
        refine (gold_Mul b b _ (by omega) (by omega) (by omega) (by omega)).mono ?_; rintro e w' ⟨rfl, rfl⟩
        go_wp2_with fail
        go_round
        case rel =>
          refine ⟨p * b % 18446744069414584321, b * b % 18446744069414584321, m / 2, rfl, rfl, rfl, by omega, by omega, by omega, by omega, by omega, by omega, ?_⟩
          unfold Hid
          have e1 : (m / 2).toNat = m.toNat / 2 := by omega
          have h1 := H1.out
          rw [e1, pow_step1 _ _ _ (by omega)]; exact H.out
        case measure => simp [intOf]; omega
      · have hb1 : (m % 2 == 1) = false := by rw [beq_eq_false_iff_ne]; exact h1
        have H1 := Lib.hid h1; clear h1
        go_wp2_with fail
        refine (gold_Mul b b _ (by omega) (by omega) (by omega) (by omega)).mono ?_; rintro e w' ⟨rfl, rfl⟩
        go_wp2_with fail
        go_round
        case rel =>
          refine ⟨p, b * b % 18446744069414584321, m / 2, rfl, rfl, rfl, by omega, by omega, by omega, by omega, by omega, by omega, ?_⟩
          unfold Hid
          have e1 : (m / 2).toNat = m.toNat / 2 := by omega
          have h1 := H1.out
          rw [e1, pow_step0 _ _ _ (by omega)]; exact H.out
        case measure => simp [intOf]; omega
    · go_wp2_with fail
      go_ret
      refine ⟨ret_int ?_, rfl⟩
      have h := H.out
      rw [show m.toNat = 0 from by omega, Int.pow_zero, Int.mul_one] at h
      omega

theorem gold_Inv (a : Int) (w : World) (ha0 : 0 ≤ a) (ha : a < 18446744073709551616) :
    Calls Try.prog 64 #[.int .u64 a] w fun e w' => e = .returned (.int .u64 (pw a 18446744069414584319)) ∧ w = w' := by
  go_enter Try.func64, Try.ntmps64
  go_wp2_with fail
  refine (gold_Pow a _ _ ha0 ha (by omega) (by omega)).mono ?_; rintro e w' ⟨rfl, rfl⟩
  go_wp2_with fail
  go_ret
  exact ⟨rfl, rfl⟩

/-- The sum of all, modulo P. -/
def sumP (xs : List Int) : Int := xs.foldl (fun s x => (s + x) % 18446744069414584321) 0

theorem sumP_snoc (xs : List Int) (x : Int) : sumP (xs ++ [x]) = (sumP xs + x) % 18446744069414584321 := by
  simp [sumP, List.foldl_append]
theorem sumP_range (xs : List Int) : 0 ≤ sumP xs ∧ sumP xs < 18446744069414584321 := by
  rcases List.eq_nil_or_concat xs with rfl | ⟨l, b, rfl⟩
  · simp [sumP]
  · rw [List.concat_eq_append, sumP_snoc]; omega

set_option maxHeartbeats 400000 in
theorem gold_Sum (a : Option Addr) (cap : Nat) (xs : List Int) (w : World) (hx : Row .u64 w a xs) :
    Calls Try.prog 96 #[.slice a xs.length cap] w fun e w' => e = .returned (.int .u64 (sumP xs)) ∧ w = w' := by
  have hlen := hx.len
  have HX : Hid (Row .u64 w a xs) := hx
  clear hx
  go_enter Try.func96, Try.ntmps96
  go_wp2_with fail
  go_loop [3, 8] (fun s i => ∃ k : Nat, k ≤ xs.length ∧ i = .int .i64 k ∧ s = .int .u64 (sumP (xs.take k))) (fun _ i => xs.length - (intOf i).toNat)
  case atStart => exact ⟨0, Nat.zero_le _, rfl, rfl⟩
  case round =>
    obtain ⟨k, hk, rfl, rfl⟩ := hrel
    have hs := sumP_range (xs.take k)
    by_cases hlt : k < xs.length
    · obtain ⟨b, off, rfl, hc⟩ := HX.out.at (by omega)
      have hck := hc k hlt
      have hf := fits_u64.1 (HX.out.wf _ (nth_mem hlt))
      clear hc
      go_wp2_with fail
      refine (gold_Add _ _ _ (by omega) (by omega) (by omega) (by omega)).mono ?_; rintro e w' ⟨rfl, rfl⟩
      go_wp2_with fail
      go_round
      case rel => exact ⟨k + 1, by omega, by go_num, by rw [take_succ_nth hlt, sumP_snoc]⟩
      case measure => simp [intOf]; omega
    · go_wp2_with fail
      go_ret
      exact ⟨ret_int (by rw [List.take_of_length_le (by omega)]), rfl⟩
end Go.Proofs.Ytlgklkhijmeldaa
