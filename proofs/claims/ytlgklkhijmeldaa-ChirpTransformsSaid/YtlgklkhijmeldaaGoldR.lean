/- The contracts of the reference of the field (dulcimerref02). -/
import Derived.Test.YtlgklkhijmeldaaGoldB
import Derived.Deep.QuietTactic
import Derived.BigQuiet
namespace Go.Proofs.Ytlgklkhijmeldaa
open Go.RowKit
set_option linter.unusedVariables false
set_option linter.unusedSimpArgs false
set_option maxRecDepth 100000

theorem ref_Red (a : Int) (w : World) (h0 : 0 ≤ a) (h1 : a < 18446744073709551616) :
    Calls Try.prog 42 #[.int .u64 a] w fun e w' => e = .returned (.int .u64 (a % 18446744069414584321)) ∧ w = w' := by
  go_enter Try.func42, Try.ntmps42
  go_wp2_with fail
  go_ret
  exact ⟨rfl, rfl⟩

theorem ref_Add (a b : Int) (w : World) (ha0 : 0 ≤ a) (ha : a < 18446744069414584321) (hb0 : 0 ≤ b) (hb : b < 18446744069414584321) :
    Calls Try.prog 51 #[.int .u64 a, .int .u64 b] w fun e w' => e = .returned (.int .u64 ((a + b) % 18446744069414584321)) ∧ w = w' := by
  by_cases h : 18446744069414584321 - b ≤ a
  all_goals
    go_enter Try.func51, Try.ntmps51
    go_wp2_with fail
    go_ret
    exact ⟨ret_int (by omega), rfl⟩

theorem ref_Neg (a : Int) (w : World) (ha0 : 0 ≤ a) (ha : a < 18446744069414584321) :
    Calls Try.prog 77 #[.int .u64 a] w fun e w' => e = .returned (.int .u64 ((-a) % 18446744069414584321)) ∧ w = w' := by
  by_cases h : a = 0
  · subst h
    go_enter Try.func77, Try.ntmps77
    go_wp2_with fail
    go_ret
    exact ⟨rfl, rfl⟩
  · have hb : (a == 0) = false := beq_eq_false_iff_ne.2 h
    go_enter Try.func77, Try.ntmps77
    go_wp2_with fail
    go_ret
    exact ⟨ret_int (by omega), rfl⟩

theorem ref_Sub (a b : Int) (w : World) (ha0 : 0 ≤ a) (ha : a < 18446744069414584321) (hb0 : 0 ≤ b) (hb : b < 18446744069414584321) :
    Calls Try.prog 52 #[.int .u64 a, .int .u64 b] w fun e w' => e = .returned (.int .u64 ((a - b) % 18446744069414584321)) ∧ w = w' := by
  go_enter Try.func52, Try.ntmps52
  go_wp2_with fail
  refine (ref_Neg b _ hb0 hb).mono ?_; rintro e w' ⟨rfl, rfl⟩
  go_wp2_with fail
  refine (ref_Add a _ _ ha0 ha (by omega) (by omega)).mono ?_; rintro e w' ⟨rfl, rfl⟩
  go_wp2_with fail
  go_ret
  exact ⟨ret_int (by omega), rfl⟩

/-- One bit more of a number. -/
theorem bit_step (a : Int) (j : Nat) : a / 2 ^ j = 2 * (a / 2 ^ (j + 1)) + a / 2 ^ j % 2 := by
  rw [Int.pow_succ, ← Int.ediv_ediv_of_nonneg (Int.le_of_lt (Int.pow_pos (by omega)))]; omega
theorem div_pow64 (a : Int) (h0 : 0 ≤ a) (h : a < 18446744073709551616) : a / 2 ^ 64 = 0 := Int.ediv_eq_zero_of_lt h0 h
theorem div_pow_nonneg (a : Int) (j : Nat) (h0 : 0 ≤ a) : 0 ≤ a / 2 ^ j := Int.ediv_nonneg h0 (Int.le_of_lt (Int.pow_pos (by omega)))


set_option maxHeartbeats 400000 in
theorem ref_Mul (a b : Int) (w : World) (ha0 : 0 ≤ a) (ha : a < 18446744073709551616) (hb0 : 0 ≤ b) (hb : b < 18446744069414584321) :
    Calls Try.prog 41 #[.int .u64 a, .int .u64 b] w fun e w' => e = .returned (.int .u64 (a * b % 18446744069414584321)) ∧ w = w' := by
  go_enter Try.func41, Try.ntmps41
  go_wp2_with fail
  go_loop [5, 6] (fun s i => ∃ (k : Nat) (t : Int), k ≤ 64 ∧ 0 ≤ t ∧ t < 18446744069414584321 ∧ i = .int .i64 ((k : Int) - 1) ∧ s = .int .u64 t ∧ Hid (t = a / 2 ^ k * b % 18446744069414584321)) (fun _ i => (intOf i + 1).toNat)
  case atStart => exact ⟨64, 0, by omega, by omega, by omega, rfl, rfl, by unfold Hid; rw [div_pow64 a ha0 ha]; simp⟩
  case round =>
    obtain ⟨k, t, hk, ht0, ht, rfl, rfl, H⟩ := hrel
    by_cases h0 : 1 ≤ k
    · obtain ⟨j, rfl⟩ : ∃ j, k = j + 1 := ⟨k - 1, by omega⟩
      have hd := div_pow_nonneg a j ha0
      have hbs := Lib.hid (bit_step a j)
      by_cases h1 : a / 2 ^ j % 2 = 1
      · have hb1 : (a / 2 ^ j % 2 == 1) = true := by rw [beq_iff_eq]; exact h1
        have H1 := Lib.hid h1; clear h1
        go_wp2_with fail
        refine (ref_Add t t _ (by omega) (by omega) (by omega) (by omega)).mono ?_; rintro e w' ⟨rfl, rfl⟩
        go_wp2_with fail
        refine (ref_Add _ b _ (by omega) (by omega) (by omega) (by omega)).mono ?_; rintro e w' ⟨rfl, rfl⟩
        go_wp2_with fail
        go_round
        case rel =>
          refine ⟨j, _, by omega, ?_, ?_, by go_num, rfl, ?_⟩
          · omega
          · omega
          · have e := hbs.out; have e2 := H1.out; have e3 := H.out
            unfold Hid
            rw [e, e2, e3]
            generalize a / 2 ^ (j + 1) = q
            rw [show (2 * q + 1) * b = q * b + q * b + b from by rw [Int.add_mul, Int.two_mul, Int.add_mul, Int.one_mul]]
            generalize q * b = z
            omega
        case measure => simp [intOf]
      · have hb1 : (a / 2 ^ j % 2 == 1) = false := by rw [beq_eq_false_iff_ne]; exact h1
        have h2 : a / 2 ^ j % 2 = 0 := by omega
        have H1 := Lib.hid h2; clear h1 h2
        go_wp2_with fail
        refine (ref_Add t t _ (by omega) (by omega) (by omega) (by omega)).mono ?_; rintro e w' ⟨rfl, rfl⟩
        go_wp2_with fail
        go_round
        case rel =>
          refine ⟨j, _, by omega, ?_, ?_, by go_num, rfl, ?_⟩
          · omega
          · omega
          · have e := hbs.out; have e2 := H1.out; have e3 := H.out
            unfold Hid
            rw [e, e2, e3]
            generalize a / 2 ^ (j + 1) = q
            rw [show (2 * q + 0) * b = q * b + q * b from by rw [Int.add_zero, Int.two_mul, Int.add_mul]]
            generalize q * b = z
            omega
        case measure => simp [intOf]
    · obtain rfl : k = 0 := by omega
      go_wp2_with fail
      go_ret
      exact ⟨ret_int (by rw [H.out]; simp), rfl⟩

theorem two_pow_step (j : Nat) (h : j < 64) : (2 : Int) ^ (64 - j) = 2 ^ (64 - (j + 1)) * 2 := by
  obtain ⟨m, hm⟩ : ∃ m, 64 - j = m + 1 := ⟨64 - j - 1, by omega⟩
  rw [show 64 - (j + 1) = m from by omega, hm, Int.pow_succ]

theorem pow_bit (a n : Int) (j : Nat) (h0 : 0 ≤ n) : (n / 2 ^ j).toNat = 2 * (n / 2 ^ (j + 1)).toNat + (n / 2 ^ j % 2).toNat := by
  have := bit_step n j
  have := div_pow_nonneg n j h0
  have := div_pow_nonneg n (j + 1) h0
  omega

set_option maxHeartbeats 400000 in
theorem ref_Pow (a n : Int) (w : World) (ha0 : 0 ≤ a) (ha : a < 18446744069414584321) (hn0 : 0 ≤ n) (hn : n < 18446744073709551616) :
    Calls Try.prog 62 #[.int .u64 a, .int .u64 n] w fun e w' => e = .returned (.int .u64 (pw a n.toNat)) ∧ w = w' := by
  go_enter Try.func62, Try.ntmps62
  go_wp2_with fail
  go_loop [5, 6] (fun s i => ∃ (k : Nat) (t : Int), k ≤ 64 ∧ 0 ≤ t ∧ t < 18446744069414584321 ∧ i = .int .i64 ((k : Int) - 1) ∧ s = .int .u64 t ∧ Hid (t = pw a (n / 2 ^ k).toNat)) (fun _ i => (intOf i + 1).toNat)
  case atStart => exact ⟨64, 1, by omega, by omega, by omega, rfl, rfl, by unfold Hid; rw [div_pow64 n hn0 hn]; simp [pw]⟩
  case round =>
    obtain ⟨k, t, hk, ht0, ht, rfl, rfl, H⟩ := hrel
    by_cases h0 : 1 ≤ k
    · obtain ⟨j, rfl⟩ : ∃ j, k = j + 1 := ⟨k - 1, by omega⟩
      have hd := div_pow_nonneg n j hn0
      have hbs := Lib.hid (pow_bit a n j hn0)
      by_cases h1 : n / 2 ^ j % 2 = 1
      · have hb1 : (n / 2 ^ j % 2 == 1) = true := by rw [beq_iff_eq]; exact h1
        have H1 := Lib.hid h1; clear h1
        go_wp2_with fail
        refine (ref_Mul t t _ (by omega) (by omega) (by omega) (by omega)).mono ?_; rintro e w' ⟨rfl, rfl⟩
        go_wp2_with fail
        refine (ref_Mul _ a _ (by omega) (by omega) (by omega) (by omega)).mono ?_; rintro e w' ⟨rfl, rfl⟩
        go_wp2_with fail
        go_round
        case rel =>
          refine ⟨j, _, by omega, ?_, ?_, by go_num, rfl, ?_⟩
          · omega
          · omega
          · have e := hbs.out; have e2 := H1.out; have e3 := H.out
            unfold Hid
            rw [e, e2, e3]
            unfold pw
            generalize (n / 2 ^ (j + 1)).toNat = q
            rw [show (1 : Int).toNat = 1 from rfl, Int.pow_succ, Nat.two_mul, Int.pow_add, modmul_l, ← modmul_l, ← modmul_l (a ^ q * a ^ q), modmul_l (a ^ q), modmul_r (a ^ q)]
        case measure => simp [intOf]
      · have hb1 : (n / 2 ^ j % 2 == 1) = false := by rw [beq_eq_false_iff_ne]; exact h1
        have h2 : n / 2 ^ j % 2 = 0 := by omega
        have H1 := Lib.hid h2; clear h1 h2
        go_wp2_with fail
        refine (ref_Mul t t _ (by omega) (by omega) (by omega) (by omega)).mono ?_; rintro e w' ⟨rfl, rfl⟩
        go_wp2_with fail
        go_round
        case rel =>
          refine ⟨j, _, by omega, ?_, ?_, by go_num, rfl, ?_⟩
          · omega
          · omega
          · have e := hbs.out; have e2 := H1.out; have e3 := H.out
            unfold Hid
            rw [e, e2, e3]
            unfold pw
            generalize (n / 2 ^ (j + 1)).toNat = q
            rw [show (0 : Int).toNat = 0 from rfl, Nat.add_zero, Nat.two_mul, Int.pow_add, modmul_l, modmul_r]
        case measure => simp [intOf]
    · obtain rfl : k = 0 := by omega
      go_wp2_with fail
      go_ret
      exact ⟨ret_int (by rw [H.out]; simp), rfl⟩

set_option maxHeartbeats 400000 in
/-- Two rows: are they the same? -/
theorem ref_Same (a b : Option Addr) (ca cb : Nat) (xs ys : List Int) (w : World) (hx : Row .u64 w a xs) (hy : Row .u64 w b ys) :
    Calls Try.prog 17 #[.slice a xs.length ca, .slice b ys.length cb] w fun e w' => e = .returned (.bool (decide (xs = ys))) ∧ Below w.heap.size w w' := by
  have hlx := hx.len
  have hly := hy.len
  by_cases hl : xs.length = ys.length
  · have HL := Lib.hid hl
    have HX := Lib.hid hx
    have HY := Lib.hid hy
    have hne : ((xs.length : Int) != (ys.length : Int)) = false := by simp [hl]
    clear hx hy hl
    go_enter Try.func17, Try.ntmps17
    go_wp2_with fail
    go_loopw [5] (fun i wr => ∃ k : Nat, k ≤ xs.length ∧ i = .int .i64 k ∧ Below w.heap.size w wr ∧ Hid (∀ j, j < k → nth xs j = nth ys j)) (fun i _ => xs.length - (intOf i).toNat)
    case atStart => exact ⟨0, Nat.zero_le _, rfl, Below.refl _ _, fun j hj => by omega⟩
    case round =>
      obtain ⟨k, hk, rfl, hb, H⟩ := hrel
      by_cases hlt : k < xs.length
      · have hlt' : k < ys.length := by have := HL.out; omega
        have i1 : (0 : Int) ≤ (k : Int) := by omega
        have i2 : (k : Int) < (xs.length : Int) := by omega
        have i3 : (k : Int) < (ys.length : Int) := by omega
        obtain ⟨b1, o1, rfl, hc1⟩ := (HX.out.below hb).at (by omega)
        obtain ⟨b2, o2, rfl, hc2⟩ := (HY.out.below hb).at (by omega)
        have h1 := hc1 k hlt
        have h2 := hc2 k hlt'
        clear hc1 hc2
        by_cases he : nth xs k = nth ys k
        · have hbe : (nth xs k != nth ys k) = false := by simp [he]
          have HE := Lib.hid he
          clear he
          go_wp2_with fail
          go_quiet (fail)
          go_wp2_with fail
          go_roundw
          case rel =>
            refine ⟨k + 1, by omega, by go_num, by first | exact below_drewN hb _ | exact hb.drew, ?_⟩
            intro j hj
            by_cases hjk : j < k
            · exact H.out j hjk
            · obtain rfl : j = k := by omega
              exact HE.out
          case measure => simp [intOf]; omega
        · have hbe : (nth xs k != nth ys k) = true := by simp [he]
          have HE : Hid (xs ≠ ys) := by
            intro h; apply he; rw [h]
          clear he
          go_wp2_with fail
          go_quiet (fail)
          go_wp2_with fail
          go_ret
          exact ⟨ret_bool (by have := HE.out; simp [this]), by first | exact below_drewN hb _ | exact hb.drew⟩
      · go_wp2_with fail
        go_ret
        have : xs = ys := ext_nth HL.out (fun i hi => H.out i (by omega))
        exact ⟨ret_bool (by simp [this]), hb⟩
  · have HL := Lib.hid hl
    have hne : ((xs.length : Int) != (ys.length : Int)) = true := by simp; omega
    have : xs ≠ ys := fun h => hl (by rw [h])
    have HE := Lib.hid this
    clear this hl hx hy
    go_enter Try.func17, Try.ntmps17
    go_wp2_with fail
    go_ret
    exact ⟨ret_bool (by have := HE.out; simp [this]), Below.refl _ _⟩
end Go.Proofs.Ytlgklkhijmeldaa
