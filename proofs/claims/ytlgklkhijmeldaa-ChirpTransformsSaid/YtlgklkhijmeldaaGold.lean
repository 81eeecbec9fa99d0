/- The contracts of the field's functions (package gold and its reference): each computes modulo P = 2^64 - 2^32 + 1. -/
import Derived.Test.YtlgklkhijmeldaaMem
import Derived.WalkKit
import Derived.WalkSpells
import Derived.WalkLawsBesides
import Derived.Handy
import Derived.Lib.Hide
import Derived.Lib.Mul64
import Derived.Laws.Externs
import Derived.Shelf.Spec.BitsCarry
namespace Go.Proofs.Ytlgklkhijmeldaa
open Go.RowKit
set_option linter.unusedVariables false
set_option linter.unusedSimpArgs false
set_option maxRecDepth 100000


set_option maxHeartbeats 400000 in
theorem gold_Red (a : Int) (w : World) (h0 : 0 ≤ a) (h1 : a < 18446744073709551616) :
    Calls Try.prog 72 #[.int .u64 a] w fun e w' => e = .returned (.int .u64 (a % 18446744069414584321)) ∧ w = w' := by
  by_cases h : 18446744069414584321 ≤ a
  all_goals
    go_enter Try.func72, Try.ntmps72
    go_wp2
    go_ret
    exact ⟨ret_int (by omega), rfl⟩

theorem add64 (x y : Int) (hx0 : 0 ≤ x) (hx : x < 18446744073709551616) (hy0 : 0 ≤ y) (hy : y < 18446744073709551616) (w : World) :
    (callFunc 89 #[.int .u64 x, .int .u64 y, .int .u64 0]).run Try.prog w = .ok (.value (.tuple #[.int .u64 ((x + y) % 18446744073709551616), .int .u64 ((x + y) / 18446744073709551616)])) w := by
  rw [run_callFunc_extern Try.func89 (by kernel_rfl) (by kernel_rfl) (by kernel_rfl) (e := add64Entry) (by kernel_rfl), run_add64 x y 0 (by omega) (by omega) (by omega) (by omega)]
  simp

theorem sub64 (x y : Int) (hx0 : 0 ≤ x) (hx : x < 18446744073709551616) (hy0 : 0 ≤ y) (hy : y < 18446744073709551616) (w : World) :
    (callFunc 93 #[.int .u64 x, .int .u64 y, .int .u64 0]).run Try.prog w = .ok (.value (.tuple #[.int .u64 ((x - y) % 18446744073709551616), .int .u64 (if x < y then 1 else 0)])) w := by
  obtain ⟨a, rfl⟩ := Int.eq_ofNat_of_zero_le hx0
  obtain ⟨b, rfl⟩ := Int.eq_ofNat_of_zero_le hy0
  have h := Go.Proofs.run_sub64 (P := Try.prog) a b 0 (by omega) w
  have e1 : (((a + 18446744073709551616 - b - 0) % 18446744073709551616 : Nat) : Int) = ((a : Int) - b) % 18446744073709551616 := by omega
  have e2 : ((if a < b + 0 then 1 else 0 : Nat) : Int) = if (a : Int) < b then 1 else 0 := by
    by_cases hab : a < b
    · rw [if_pos (by omega), if_pos (by omega)]; rfl
    · rw [if_neg (by omega), if_neg (by omega)]; rfl
  rw [e1, e2] at h
  rw [run_callFunc_extern Try.func93 (by kernel_rfl) (by kernel_rfl) (by kernel_rfl) (e := Go.Proofs.sub64Entry) (by kernel_rfl)]
  have h' : (Go.Proofs.sub64Entry #[.int .u64 (a : Int), .int .u64 (b : Int), .int .u64 0]).run Try.prog w = _ := h
  rw [h']
  rfl

set_option maxHeartbeats 400000 in
theorem gold_Add (a b : Int) (w : World) (ha0 : 0 ≤ a) (ha : a < 18446744073709551616) (hb0 : 0 ≤ b) (hb : b < 18446744073709551616) :
    Calls Try.prog 74 #[.int .u64 a, .int .u64 b] w fun e w' => e = .returned (.int .u64 ((a + b) % 18446744069414584321)) ∧ w = w' := by
  have e1 := add64 (a % 18446744069414584321) (b % 18446744069414584321) (by omega) (by omega) (by omega) (by omega) w
  go_enter Try.func74, Try.ntmps74
  go_wp2_with fail
  refine (gold_Red a _ ha0 ha).mono ?_; rintro e w' ⟨rfl, rfl⟩
  go_wp2_with fail
  refine (gold_Red b _ hb0 hb).mono ?_; rintro e w' ⟨rfl, rfl⟩
  go_wp2_with fail
  all_goals
    go_ret
    refine ⟨ret_int ?_, rfl⟩
    simp only [beq_iff_eq, beq_eq_false_iff_ne, IntKind.wrap_u64] at *
    omega

set_option maxHeartbeats 400000 in
theorem gold_Neg (a : Int) (w : World) (ha0 : 0 ≤ a) (ha : a < 18446744073709551616) :
    Calls Try.prog 90 #[.int .u64 a] w fun e w' => e = .returned (.int .u64 ((-a) % 18446744069414584321)) ∧ w = w' := by
  go_enter Try.func90, Try.ntmps90
  go_wp2_with fail
  refine (gold_Red a _ ha0 ha).mono ?_; rintro e w' ⟨rfl, rfl⟩
  go_wp2_with fail
  all_goals
    go_ret
    refine ⟨ret_int ?_, rfl⟩
    try simp only [bne_iff_ne, bne_eq_false_iff_eq] at *
    omega

set_option maxHeartbeats 400000 in
theorem gold_Sub (a b : Int) (w : World) (ha0 : 0 ≤ a) (ha : a < 18446744073709551616) (hb0 : 0 ≤ b) (hb : b < 18446744073709551616) :
    Calls Try.prog 75 #[.int .u64 a, .int .u64 b] w fun e w' => e = .returned (.int .u64 ((a - b) % 18446744069414584321)) ∧ w = w' := by
  go_enter Try.func75, Try.ntmps75
  go_wp2_with fail
  refine (gold_Neg b _ hb0 hb).mono ?_; rintro e w' ⟨rfl, rfl⟩
  go_wp2_with fail
  refine (gold_Add a _ _ ha0 ha (by omega) (by omega)).mono ?_; rintro e w' ⟨rfl, rfl⟩
  go_wp2_with fail
  go_ret
  exact ⟨ret_int (by omega), rfl⟩

theorem add64_lt (x y : Int) (hx0 : 0 ≤ x) (hy0 : 0 ≤ y) (h : x + y < 18446744073709551616) (w : World) :
    (callFunc 89 #[.int .u64 x, .int .u64 y, .int .u64 0]).run Try.prog w = .ok (.value (.tuple #[.int .u64 (x + y), .int .u64 0])) w := by
  rw [add64 x y hx0 (by omega) hy0 (by omega) w, Int.emod_eq_of_lt (by omega) h, Int.ediv_eq_zero_of_lt (by omega) h]
theorem add64_ge (x y : Int) (hx0 : 0 ≤ x) (hx : x < 18446744073709551616) (hy0 : 0 ≤ y) (hy : y < 18446744073709551616) (h : 18446744073709551616 ≤ x + y) (w : World) :
    (callFunc 89 #[.int .u64 x, .int .u64 y, .int .u64 0]).run Try.prog w = .ok (.value (.tuple #[.int .u64 (x + y - 18446744073709551616), .int .u64 1])) w := by
  rw [add64 x y hx0 hx hy0 hy w, show (x + y) % 18446744073709551616 = x + y - 18446744073709551616 from by omega, show (x + y) / 18446744073709551616 = 1 from by omega]
theorem sub64_ge (x y : Int) (hx : x < 18446744073709551616) (hy0 : 0 ≤ y) (h : y ≤ x) (w : World) :
    (callFunc 93 #[.int .u64 x, .int .u64 y, .int .u64 0]).run Try.prog w = .ok (.value (.tuple #[.int .u64 (x - y), .int .u64 0])) w := by
  rw [sub64 x y (by omega) hx hy0 (by omega) w, show (x - y) % 18446744073709551616 = x - y from by omega, if_neg (by omega)]
theorem sub64_lt (x y : Int) (hx0 : 0 ≤ x) (hy : y < 18446744073709551616) (h : x < y) (w : World) :
    (callFunc 93 #[.int .u64 x, .int .u64 y, .int .u64 0]).run Try.prog w = .ok (.value (.tuple #[.int .u64 (x - y + 18446744073709551616), .int .u64 1])) w := by
  rw [sub64 x y hx0 (by omega) (by omega) hy w, show (x - y) % 18446744073709551616 = x - y + 18446744073709551616 from by omega, if_pos h]

set_option maxHeartbeats 800000 in
theorem gold_fold (hi lo : Int) (w : World) (ha0 : 0 ≤ hi) (ha : hi < 18446744073709551616) (hb0 : 0 ≤ lo) (hb : lo < 18446744073709551616) :
    Calls Try.prog 84 #[.int .u64 hi, .int .u64 lo] w fun e w' => e = .returned (.int .u64 ((hi * 18446744073709551616 + lo) % 18446744069414584321)) ∧ w = w' := by
  have m1 := and_low32 hi ha0 ha
  by_cases h1 : lo < hi / 4294967296
  · have e1 := sub64_lt lo (hi / 4294967296) hb0 (by omega) h1 w
    by_cases h2 : lo - hi / 4294967296 + 18446744073709551616 - 4294967295 + hi % 4294967296 * 4294967295 < 18446744073709551616
    · have e2 := add64_lt (lo - hi / 4294967296 + 18446744073709551616 - 4294967295) (hi % 4294967296 * 4294967295) (by omega) (by omega) h2 w
      go_enter Try.func84, Try.ntmps84
      go_wp2_with fail
      refine (gold_Red _ _ (by omega) (by omega)).mono ?_; rintro e w' ⟨rfl, rfl⟩
      go_wp2_with fail
      go_ret
      exact ⟨ret_int (by omega), rfl⟩
    · have e2 := add64_ge (lo - hi / 4294967296 + 18446744073709551616 - 4294967295) (hi % 4294967296 * 4294967295) (by omega) (by omega) (by omega) (by omega) (by omega) w
      go_enter Try.func84, Try.ntmps84
      go_wp2_with fail
      refine (gold_Red _ _ (by omega) (by omega)).mono ?_; rintro e w' ⟨rfl, rfl⟩
      go_wp2_with fail
      go_ret
      exact ⟨ret_int (by omega), rfl⟩
  · have e1 := sub64_ge lo (hi / 4294967296) hb (by omega) (by omega) w
    by_cases h2 : lo - hi / 4294967296 + hi % 4294967296 * 4294967295 < 18446744073709551616
    · have e2 := add64_lt (lo - hi / 4294967296) (hi % 4294967296 * 4294967295) (by omega) (by omega) h2 w
      go_enter Try.func84, Try.ntmps84
      go_wp2_with fail
      refine (gold_Red _ _ (by omega) (by omega)).mono ?_; rintro e w' ⟨rfl, rfl⟩
      go_wp2_with fail
      go_ret
      exact ⟨ret_int (by omega), rfl⟩
    · have e2 := add64_ge (lo - hi / 4294967296) (hi % 4294967296 * 4294967295) (by omega) (by omega) (by omega) (by omega) (by omega) w
      go_enter Try.func84, Try.ntmps84
      go_wp2_with fail
      refine (gold_Red _ _ (by omega) (by omega)).mono ?_; rintro e w' ⟨rfl, rfl⟩
      go_wp2_with fail
      go_ret
      exact ⟨ret_int (by omega), rfl⟩
end Go.Proofs.Ytlgklkhijmeldaa
