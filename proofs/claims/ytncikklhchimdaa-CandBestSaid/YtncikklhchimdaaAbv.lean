/- The least power of two that is not below; the reference's triangular numbers, rows. -/
import Derived.Test.YtncikklhchimdaaBitsLen
import Derived.Test.YtncikklhchimdaaSzA
import Derived.Test.YtncikklhchimdaaBool0
import Derived.Test.YtncikklhchimdaaRowing
namespace Go.Proofs.Ytncikklhchimdaa
open Go.RowKit
set_option linter.unusedVariables false
set_option linter.unusedSimpArgs false
set_option maxRecDepth 100000

theorem bl_aux (f : Nat) : ∀ x j, x < 2 ^ f → (2 ^ j ≤ x ↔ j < Lib.bitLenAux f x) := by
  induction f with
  | zero => intro x j hx; simp at hx; subst hx; simp [Lib.bitLenAux]
  | succ f ih =>
    intro x j hx
    rw [Lib.bitLenAux]
    by_cases h0 : x = 0
    · subst h0; rw [if_pos rfl]; have := Nat.two_pow_pos j; omega
    · rw [if_neg h0]
      cases j with
      | zero => simp; omega
      | succ j =>
        have h := ih (x / 2) j (by rw [Nat.pow_succ] at hx; omega)
        rw [Nat.pow_succ]
        constructor
        · intro h1; have := h.1 (by omega); omega
        · intro h1; have := h.2 (by omega); omega
theorem bl_iff (x j : Nat) (hx : x < 18446744073709551616) : 2 ^ j ≤ x ↔ j < Lib.bitLen x := bl_aux 64 x j hx
theorem bl_24 (x : Nat) (hx : x < 16777216) : Lib.bitLen x ≤ 24 := by
  rcases Nat.lt_or_ge 24 (Lib.bitLen x) with h | h
  · have := (bl_iff x 24 (by omega)).2 h
    have e : (2 : Nat) ^ 24 = 16777216 := by decide
    omega
  · exact h
/-- The least power of two that is not below n. -/
def abv (n : Nat) : Nat := 2 ^ Lib.bitLen (n - 1)

theorem fact_there (n : Nat) (w : World) (h1 : 1 ≤ n) (h2 : n ≤ 16777216) :
    Calls Try.prog 111 #[.int .i64 n] w fun e w' => e = .returned (.bool true) ∧ w = w' := by
  go_enter Try.func111, Try.ntmps111
  go_wp2_with fail
  go_ret
  exact ⟨ret_bool (by simp; omega), rfl⟩
theorem fact_there_no (n : Nat) (w : World) (h2 : 16777216 < n) (h3 : n ≤ 9223372036854775807) :
    Calls Try.prog 111 #[.int .i64 n] w fun e w' => e = .returned (.bool false) ∧ w = w' := by
  go_enter Try.func111, Try.ntmps111
  go_wp2_with fail
  go_ret
  exact ⟨ret_bool (by simp; omega), rfl⟩
theorem fact_Above_no (n : Nat) (w : World) (h2 : 16777216 < n) (h3 : n ≤ 9223372036854775807) :
    Calls Try.prog 103 #[.int .i64 n] w fun e w' => e = .returned (.tuple #[.int .i64 0, .int .i64 3]) ∧ w = w' := by
  go_enter Try.func103, Try.ntmps103
  go_wp2_with fail
  refine (fact_there_no n _ h2 h3).mono ?_; rintro e w' ⟨rfl, rfl⟩
  go_wp2_with fail
  go_ret2
  exact ⟨rfl, rfl⟩

set_option maxHeartbeats 800000 in
theorem fact_Above (n : Nat) (w : World) (h1 : 1 ≤ n) (h2 : n ≤ 16777216) :
    Calls Try.prog 103 #[.int .i64 n] w fun e w' => e = .returned (.tuple #[.int .i64 (abv n : Nat), .int .i64 0]) ∧ w = w' := by
  have hL := bl_24 (n - 1) (by omega)
  obtain ⟨m, hm⟩ : ∃ m : Nat, n - 1 = m := ⟨n - 1, rfl⟩
  have hA : abv n = 2 ^ Lib.bitLen (n - 1) := rfl
  rw [hm] at hA hL
  have e1 : (n : Int) - 1 = (m : Int) := by omega
  have hm2 : m < 16777216 := by omega
  obtain ⟨L, hLL⟩ : ∃ L, Lib.bitLen m = L := ⟨_, rfl⟩
  have C1 : Hid (∀ w : World, Calls Try.prog 104 #[.int .u64 m] w fun e w' => e = .returned (.int .i64 L) ∧ w = w') := fun w => by
    have := bits_Len m w (by omega) (by omega)
    rw [Int.toNat_natCast, hLL] at this
    exact this
  rw [hLL] at hA hL
  have HA := Lib.hid hA
  clear hA hLL hm
  go_enter Try.func103, Try.ntmps103
  go_wp2_with fail
  refine (fact_there n _ h1 h2).mono ?_; rintro e w' ⟨rfl, rfl⟩
  go_wp2_with fail
  refine (C1.out _).mono ?_; rintro e w' ⟨rfl, rfl⟩
  go_wp2_with fail
  go_ret2
  have hw : wrap64 (2 ^ L) = (abv n : Nat) := by
    rw [HA.out]
    have h3 : 2 ^ L ≤ 2 ^ 24 := Nat.pow_le_pow_right (by omega) hL
    have e : (2 : Nat) ^ 24 = 16777216 := by decide
    have e4 : (2 : Int) ^ L = ((2 ^ L : Nat) : Int) := by rw [Int.natCast_pow]; rfl
    rw [e4]
    generalize 2 ^ L = q at h3 ⊢
    unfold wrap64; omega
  exact ⟨by simp [hw], rfl⟩

theorem abv_ge (n j : Nat) (h1 : 1 ≤ n) (h2 : n ≤ 16777216) : j < Lib.bitLen (n - 1) ↔ 2 ^ j < n := by
  rw [← bl_iff (n - 1) j (by omega)]; omega

set_option maxHeartbeats 800000 in
theorem ref_Above (n : Nat) (w : World) (h1 : 1 ≤ n) (h2 : n ≤ 16777216) :
    Calls Try.prog 84 #[.int .i64 n] w fun e w' => e = .returned (.int .i64 (abv n : Nat)) ∧ w = w' := by
  have hL := bl_24 (n - 1) (by omega)
  go_enter Try.func84, Try.ntmps84
  go_wp2_with fail
  go_loop [3] (fun v => ∃ (j p : Nat), j ≤ Lib.bitLen (n - 1) ∧ v = .int .i64 p ∧ Hid (p = 2 ^ j) ∧ p ≤ 16777216 ∧ 1 ≤ p) (fun v => n - (intOf v).toNat)
  case atStart => exact ⟨0, 1, Nat.zero_le _, rfl, rfl, by omega, by omega⟩
  case round =>
    obtain ⟨j, p, hj, rfl, HP, hp, hp1⟩ := hrel
    by_cases hlt : p < n
    · have hj2 : j < Lib.bitLen (n - 1) := (abv_ge n j h1 h2).2 (by rw [← HP.out]; exact hlt)
      have hp3 : 2 * p ≤ 16777216 := by
        have h3 : 2 ^ (j + 1) ≤ 2 ^ 24 := Nat.pow_le_pow_right (by omega) (by omega)
        have e : (2 : Nat) ^ 24 = 16777216 := by decide
        rw [Nat.pow_succ, ← HP.out] at h3
        omega
      go_wp2_with fail
      go_round
      case rel => exact ⟨j + 1, 2 * p, by omega, by go_num, by unfold Hid; rw [Nat.pow_succ, ← HP.out]; omega, by omega, by omega⟩
      case measure => simp [intOf]; omega
    · have hjL : j = Lib.bitLen (n - 1) := by
        rcases Nat.lt_or_ge j (Lib.bitLen (n - 1)) with h | h
        · exact absurd ((abv_ge n j h1 h2).1 h) (by rw [← HP.out]; exact hlt)
        · omega
      have HA : Hid (p = abv n) := by unfold Hid abv; rw [HP.out, hjL]
      clear hjL hj
      go_wp2_with fail
      go_ret
      exact ⟨by simp [HA.out], rfl⟩

/-! ### Least -/
theorem chirp_Least_size (n : Int) (w : World) (h : hasSz n = false) (hn : -9223372036854775808 ≤ n ∧ n < 9223372036854775808) :
    Calls Try.prog 76 #[.int .i64 n] w fun e w' => e = .returned (.tuple #[.int .i64 0, .int .i64 4]) ∧ w = w' := by
  have H := Lib.hid h
  clear h
  go_enter Try.func76, Try.ntmps76
  go_wp2_with fail
  refine (rootHas_no _ _ H.out hn).mono ?_; rintro e w' ⟨rfl, rfl⟩
  go_wp2_with fail
  go_ret2
  exact ⟨rfl, rfl⟩
theorem chirp_Least_range (n : Nat) (w : World) (h : hasSz n = true) (hn : 8388608 < n) :
    Calls Try.prog 76 #[.int .i64 n] w fun e w' => e = .returned (.tuple #[.int .i64 0, .int .i64 3]) ∧ w = w' := by
  have H := Lib.hid h
  obtain ⟨h1, h2, _⟩ := hasSz_iff.1 h
  clear h
  obtain ⟨m, hm⟩ : ∃ m : Nat, 2 * (n : Int) - 1 = m := ⟨2 * n - 1, by omega⟩
  have hm2 : 16777216 < m := by omega
  have hm3 : m ≤ 33554432 := by omega
  go_enter Try.func76, Try.ntmps76
  go_wp2_with fail
  refine (rootHas_yes _ _ H.out).mono ?_; rintro e w' ⟨rfl, rfl⟩
  go_wp2_with fail
  refine (fact_Above_no m _ hm2 (by omega)).mono ?_; rintro e w' ⟨rfl, rfl⟩
  go_wp2_with fail
  go_ret2
  exact ⟨rfl, rfl⟩
theorem abv_le (n : Nat) (h2 : n ≤ 16777216) (h1 : 1 ≤ n) : abv n ≤ 16777216 := by
  have h3 : 2 ^ Lib.bitLen (n - 1) ≤ 2 ^ 24 := Nat.pow_le_pow_right (by omega) (bl_24 _ (by omega))
  have e : (2 : Nat) ^ 24 = 16777216 := by decide
  unfold abv; omega
theorem chirp_Least_ok (n m : Nat) (w : World) (h : hasSz n = true) (hn : n ≤ 8388608) (hm' : m = 2 * n - 1) :
    Calls Try.prog 76 #[.int .i64 n] w fun e w' => e = .returned (.tuple #[.int .i64 (abv m : Nat), .int .i64 0]) ∧ w = w' := by
  have H := Lib.hid h
  obtain ⟨h1, h2, _⟩ := hasSz_iff.1 h
  clear h
  have hm : 2 * (n : Int) - 1 = m := by omega
  have hm2 : 1 ≤ m := by omega
  have hm3 : m ≤ 16777216 := by omega
  have hA := abv_le m hm3 hm2
  obtain ⟨A, hAA⟩ : ∃ A, abv m = A := ⟨_, rfl⟩
  have HA := Lib.hid hAA
  rw [hAA] at hA ⊢
  clear hm' hAA
  go_enter Try.func76, Try.ntmps76
  go_wp2_with fail
  refine (rootHas_yes _ _ H.out).mono ?_; rintro e w' ⟨rfl, rfl⟩
  go_wp2_with fail
  refine (fact_Above m _ hm2 hm3).mono ?_; rintro e w' ⟨rfl, rfl⟩
  rw [HA.out]
  go_wp2_with fail
  go_ret2
  exact ⟨rfl, rfl⟩

end Go.Proofs.Ytncikklhchimdaa
