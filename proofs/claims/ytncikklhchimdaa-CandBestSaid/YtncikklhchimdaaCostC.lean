/- Contracts: how much work a plan is. The reference. -/
import Derived.Test.YtncikklhchimdaaCostL
import Derived.Deep.RegionHeld3
import Derived.Deep.QuietTactic
import Derived.BigQuiet
namespace Go.Proofs.Ytncikklhchimdaa
open Go.RowKit
set_option linter.unusedVariables false
set_option linter.unusedSimpArgs false
set_option maxRecDepth 100000
set_option maxRecDepth 20000

theorem ref18_Add (a b : Int) (w : World) (a0 : 0 ≤ a) (a1 : a ≤ 1152921504606846976) (b0 : 0 ≤ b) (b1 : b ≤ 1152921504606846976) :
    Calls Try.prog 89 #[.int .i64 a, .int .i64 b] w fun e w' => e = .returned (.int .i64 (sat (a + b))) ∧ w = w' := by
  by_cases h : a > 1152921504606846976 - b
  · rw [sat_top (by omega)]
    have h' : decide (a > 1152921504606846976 - b) = true := by simp; omega
    go_enter Try.func89, Try.ntmps89
    go_wp2_with fail
    go_ret
    exact ⟨rfl, rfl⟩
  · rw [sat_id (by omega)]
    have h' : decide (a > 1152921504606846976 - b) = false := by simp; omega
    go_enter Try.func89, Try.ntmps89
    go_wp2_with fail
    go_ret
    exact ⟨rfl, rfl⟩

theorem sat_sat {x y : Int} (hy : 0 ≤ y) : sat (sat x + y) = sat (x + y) := by
  unfold sat
  repeat' split
  all_goals omega
theorem sat_dbl {x : Int} (hx : 0 ≤ x) : sat (sat x + sat x) = sat (2 * x) := by
  unfold sat
  repeat' split
  all_goals omega

set_option maxHeartbeats 1000000 in
theorem ref18_Times (a : Nat) (b : Int) (w : World) (a1 : a ≤ 16777216) (b0 : 0 ≤ b) (b1 : b ≤ 1152921504606846976) :
    Calls Try.prog 90 #[.int .i64 a, .int .i64 b] w fun e w' => e = .returned (.int .i64 (sat (a * b))) ∧ w = w' := by
  obtain ⟨R, hR⟩ : ∃ R, sat ((a : Int) * b) = R := ⟨_, rfl⟩
  rw [hR]
  have HR := Lib.hid hR
  clear hR
  have CAd : Hid (∀ x y W, 0 ≤ x → x ≤ 1152921504606846976 → 0 ≤ y → y ≤ 1152921504606846976 → Calls Try.prog 89 #[.int .i64 x, .int .i64 y] W fun e w' => e = .returned (.int .i64 (sat (x + y))) ∧ W = w') := fun x y W h1 h2 h3 h4 => ref18_Add x y W h1 h2 h3 h4
  go_enter Try.func90, Try.ntmps90
  go_wp2_with fail
  go_loop [5, 6] (fun s i => ∃ (y : Int) (x : Int), -1 ≤ y ∧ y ≤ 25 ∧ i = .int .i64 y ∧ s = .int .i64 x ∧ 0 ≤ x ∧ x ≤ 1152921504606846976 ∧ Hid (x = sat (((a / 2 ^ (y + 1).toNat : Nat) : Int) * b))) (fun _ i => (intOf i + 1).toNat)
  case atStart => exact ⟨25, 0, by omega, by omega, rfl, rfl, by omega, by omega, by
    unfold Hid
    rw [Nat.div_eq_of_lt (show a < 2 ^ ((25 : Int) + 1).toNat from Nat.lt_of_le_of_lt a1 (by decide))]; simp [sat]⟩
  case round =>
    obtain ⟨y, x, hy1, hy2, rfl, rfl, x0, x1, HX⟩ := hrel
    by_cases h0 : y = -1
    · subst h0
      go_wp2_with fail
      go_ret
      exact ⟨ret_int (by rw [HX.out, ← HR.out]; simp), rfl⟩
    · obtain ⟨i, rfl⟩ := Int.eq_ofNat_of_zero_le (show 0 ≤ y by omega)
      have hd : decide ((i : Int) ≥ 0) = true := by simp
      obtain ⟨q, hq⟩ : ∃ q, a / 2 ^ i = q := ⟨_, rfl⟩
      have e1 : (a : Int) / 2 ^ i = (q : Int) := by rw [← hq]; simp
      have hqa : q ≤ 16777216 := by rw [← hq]; exact Nat.le_trans (Nat.div_le_self _ _) a1
      have e2 : (q : Int).tmod 2 = ((q % 2 : Nat) : Int) := by rw [Int.tmod_eq_emod_of_nonneg (by omega)]; simp
      have e3 : (q : Int) % 2 = ((q % 2 : Nat) : Int) := by simp
      have hA : a / 2 ^ (i + 1) = q / 2 := by rw [Nat.pow_succ, ← Nat.div_div_eq_div_mul, hq]
      have HX2 : Hid (x = sat (((q / 2 : Nat) : Int) * b)) := by
        have := HX.out
        rwa [show ((i : Int) + 1).toNat = i + 1 by omega, hA] at this
      have hqq : q = 2 * (q / 2) + q % 2 := by omega
      have hp : 0 ≤ ((q / 2 : Nat) : Int) * b := Int.mul_nonneg (by omega) b0
      have HS : Hid (sat (x + x) = sat (2 * (((q / 2 : Nat) : Int) * b))) := by unfold Hid; rw [HX2.out, sat_dbl hp]
      have s0 : 0 ≤ sat (x + x) := sat_ge (by omega) (by omega)
      have s1 : sat (x + x) ≤ 1152921504606846976 := sat_le _
      have CA1 : Hid (∀ W, Calls Try.prog 89 #[.int .i64 x, .int .i64 x] W fun e w' => e = .returned (.int .i64 (sat (x + x))) ∧ W = w') := fun W => CAd.out x x W x0 x1 x0 x1
      obtain ⟨S, hS⟩ : ∃ S, sat (x + x) = S := ⟨_, rfl⟩
      rw [hS] at HS s0 s1 CA1
      have CA2 : Hid (∀ W, Calls Try.prog 89 #[.int .i64 S, .int .i64 b] W fun e w' => e = .returned (.int .i64 (sat (S + b))) ∧ W = w') := fun W => CAd.out S b W s0 s1 b0 b1
      have t0 : 0 ≤ sat (S + b) := sat_ge (by omega) (by omega)
      have t1 : sat (S + b) ≤ 1152921504606846976 := sat_le _
      have HQ := Lib.hid hq
      have HQQ := Lib.hid hqq
      obtain ⟨r, hr⟩ : ∃ r, q % 2 = r := ⟨_, rfl⟩
      rw [hr] at e2 e3
      have hr2 : r < 2 := by rw [← hr]; exact Nat.mod_lt _ (by omega)
      have HRR := Lib.hid hr
      have HX3 : Hid (r = 0 → S = sat ((q : Int) * b)) := fun h => by
        rw [HS.out, ← Int.mul_assoc, show (2 : Int) * ((q / 2 : Nat) : Int) = (q : Int) by omega]
      have HX4 : Hid (r = 1 → sat (S + b) = sat ((q : Int) * b)) := fun h => by
        rw [HS.out, sat_sat b0, ← Int.mul_assoc, show (q : Int) * b = (2 * ((q / 2 : Nat) : Int)) * b + b by
          rw [show (q : Int) = 2 * ((q / 2 : Nat) : Int) + 1 by omega, Int.add_mul, Int.one_mul]]
      obtain ⟨V, hV⟩ : ∃ V, sat (S + b) = V := ⟨_, rfl⟩
      rw [hV] at CA2 t0 t1 HX4
      clear hq hA hqq hp HX HX2 hS hr hV
      rcases (show r = 0 ∨ r = 1 by omega) with rfl | rfl
      · go_wp2_with fail
        refine (CA1.out _).mono ?_; rintro e z ⟨rfl, rfl⟩
        go_wp2_with fail
        go_round
        case rel => exact ⟨(i : Int) - 1, S, by omega, by omega, rfl, rfl, s0, s1, by unfold Hid; rw [show S = _ from by first | exact HX3.out rfl | exact HX3.out trivial, show ((i : Int) - 1 + 1).toNat = i by omega, HQ.out]⟩
        case measure => simp [intOf] <;> omega
      · go_wp2_with fail
        refine (CA1.out _).mono ?_; rintro e z ⟨rfl, rfl⟩
        go_wp2_with fail
        refine (CA2.out _).mono ?_; rintro e z ⟨rfl, rfl⟩
        go_wp2_with fail
        go_round
        case rel => exact ⟨(i : Int) - 1, V, by omega, by omega, rfl, rfl, t0, t1, by unfold Hid; rw [show V = _ from by first | exact HX4.out rfl | exact HX4.out trivial, show ((i : Int) - 1 + 1).toNat = i by omega, HQ.out]⟩
        case measure => simp [intOf] <;> omega
end Go.Proofs.Ytncikklhchimdaa
