/- The greatest common divisor. -/
import Derived.Test.YtncikklhchimdaaBool0
import Derived.Test.YtncikklhchimdaaRowing
import Derived.Deep.QuietTactic
import Derived.BigQuiet
namespace Go.Proofs.Ytncikklhchimdaa
open Go.RowKit
set_option linter.unusedVariables false
set_option linter.unusedSimpArgs false
set_option maxRecDepth 100000

/-! ### Divisors -/
theorem gcd_step (a b : Nat) : Nat.gcd a b = Nat.gcd b (a % b) := by
  rw [Nat.gcd_comm a b, Nat.gcd_rec b a, Nat.gcd_comm]

set_option maxHeartbeats 400000 in
theorem factGcdL (a b : Nat) (w : World) (ha : a ≤ 9223372036854775807) (hb : b ≤ 9223372036854775807) :
    Calls Try.prog 62 #[.int .i64 a, .int .i64 b] w fun e w' => e = .returned (.int .i64 (Nat.gcd a b : Nat)) ∧ Below w.heap.size w w' := by
  obtain ⟨G, hG⟩ : ∃ G, Nat.gcd a b = G := ⟨_, rfl⟩
  rw [hG]
  have HG := Lib.hid hG
  clear hG
  go_enter Try.func62, Try.ntmps62
  go_wp2_with fail
  go_loopw [0, 1] (fun x y wr => ∃ (m n : Nat), m ≤ 9223372036854775807 ∧ n ≤ 9223372036854775807 ∧ x = .int .i64 m ∧ y = .int .i64 n ∧ Hid (Nat.gcd m n = G) ∧ Below w.heap.size w wr) (fun _ y _ => (intOf y).toNat)
  case atStart => exact ⟨a, b, ha, hb, rfl, rfl, HG, Below.refl _ _⟩
  case round =>
    obtain ⟨m, n, hm, hn, rfl, rfl, H, hbl⟩ := hrel
    by_cases h0 : n = 0
    · subst h0
      go_wp2_with fail
      go_ret
      exact ⟨ret_int (by have := H.out; rw [Nat.gcd_zero_right] at this; rw [this]), hbl⟩
    · have hz : ((n : Int) != 0) = true := bdiff (by omega)
      have hz' : ((n : Int) == 0) = false := bno (by omega)
      have hz2 : ¬ (n : Int) = 0 := by omega
      have e1 : (m : Int).tmod (n : Int) = ((m % n : Nat) : Int) := by rw [Int.tmod_eq_emod_of_nonneg (by omega), Int.natCast_emod]
      have hlt : m % n < n := Nat.mod_lt _ (by omega)
      have HS : Hid (Nat.gcd n (m % n) = G) := by have := H.out; unfold Hid; rw [← this, ← gcd_step]
      obtain ⟨r, hr⟩ : ∃ r, m % n = r := ⟨_, rfl⟩
      rw [hr] at e1 hlt HS
      have e2 : (m : Int) % (n : Int) = (r : Int) := by rw [← Int.natCast_emod, hr]
      clear hr h0
      go_wp2_with fail
      go_quiet (fail)
      go_wp2_with fail
      go_roundw
      case rel => exact ⟨n, r, by omega, by omega, rfl, rfl, HS, below_drewN hbl _⟩
      case measure => simp [intOf]; omega

theorem factGcd (a b : Nat) (w : World) (ha : a ≤ 16777216) (hb : b ≤ 16777216) :
    Calls Try.prog 62 #[.int .i64 a, .int .i64 b] w fun e w' => e = .returned (.int .i64 (Nat.gcd a b : Nat)) ∧ Below w.heap.size w w' := factGcdL a b w (by omega) (by omega)

/-- The greatest common divisor as the program has it: 0 where a number is below 0. -/
def gcdI (a b : Int) : Int := if a < 0 ∨ b < 0 then 0 else (Nat.gcd a.toNat b.toNat : Nat)
theorem factGcdI (a b : Int) (w : World) (ha : -9223372036854775808 ≤ a ∧ a < 9223372036854775808) (hb : -9223372036854775808 ≤ b ∧ b < 9223372036854775808) :
    Calls Try.prog 62 #[.int .i64 a, .int .i64 b] w fun e w' => e = .returned (.int .i64 (gcdI a b)) ∧ Below w.heap.size w w' := by
  by_cases h : a < 0 ∨ b < 0
  · rw [show gcdI a b = 0 by unfold gcdI; rw [if_pos h]]
    by_cases h0 : a < 0
    · clear h
      go_enter Try.func62, Try.ntmps62
      go_wp2_with fail
      go_ret
      exact ⟨rfl, Below.refl _ _⟩
    · have h1 : b < 0 := by omega
      clear h
      go_enter Try.func62, Try.ntmps62
      go_wp2_with fail
      go_ret
      exact ⟨rfl, Below.refl _ _⟩
  · obtain ⟨x, rfl⟩ := Int.eq_ofNat_of_zero_le (show 0 ≤ a by omega)
    obtain ⟨y, rfl⟩ := Int.eq_ofNat_of_zero_le (show 0 ≤ b by omega)
    rw [show gcdI (x : Int) (y : Int) = ((Nat.gcd x y : Nat) : Int) by unfold gcdI; rw [if_neg (by omega), Int.toNat_natCast, Int.toNat_natCast]]
    exact factGcdL x y w (by omega) (by omega)

theorem refGcd (k : Nat) : ∀ (a b : Nat) (w : World), a + b ≤ k → a ≤ 16777216 → b ≤ 16777216 →
    Calls Try.prog 69 #[.int .i64 a, .int .i64 b] w fun e w' => e = .returned (.int .i64 (Nat.gcd a b : Nat)) ∧ w = w' := by
  induction k with
  | zero =>
    intro a b w hk ha hb
    obtain ⟨rfl, rfl⟩ : a = 0 ∧ b = 0 := by omega
    go_enter Try.func69, Try.ntmps69
    go_wp2_with fail
    go_ret
    exact ⟨rfl, rfl⟩
  | succ k ih =>
    intro a b w hk ha hb
    have IH := Lib.hid ih
    clear ih
    by_cases h0 : a = 0
    · subst h0
      go_enter Try.func69, Try.ntmps69
      go_wp2_with fail
      go_ret
      exact ⟨ret_int (by rw [Nat.gcd_zero_left]), rfl⟩
    · have z1 : ((a : Int) == 0) = false := bno (by omega)
      by_cases h1 : b = 0
      · subst h1
        go_enter Try.func69, Try.ntmps69
        go_wp2_with fail
        go_ret
        exact ⟨ret_int (by rw [Nat.gcd_zero_right]), rfl⟩
      · have z2 : ((b : Int) == 0) = false := bno (by omega)
        have y1 : ¬ (a : Int) = 0 := by omega
        have y2 : ¬ (b : Int) = 0 := by omega
        by_cases hab : a < b
        · obtain ⟨r, hr⟩ : ∃ r, b % a = r := ⟨_, rfl⟩
          have hlt : b % a < a := Nat.mod_lt _ (by omega)
          rw [hr] at hlt
          have e1 : (b : Int).tmod (a : Int) = (r : Int) := by rw [Int.tmod_eq_emod_of_nonneg (by omega), ← Int.natCast_emod, hr]
          have e2 : (b : Int) % (a : Int) = (r : Int) := by rw [← Int.natCast_emod, hr]
          have HS : Hid (Nat.gcd r a = Nat.gcd a b) := by unfold Hid; rw [← hr, Nat.gcd_rec a b]
          clear hr h0 h1
          go_enter Try.func69, Try.ntmps69
          go_wp2_with fail
          refine (IH.out r a _ (by omega) (by omega) ha).mono ?_; rintro e w' ⟨rfl, rfl⟩
          go_wp2_with fail
          go_ret
          exact ⟨ret_int (by rw [HS.out]), rfl⟩
        · obtain ⟨r, hr⟩ : ∃ r, a % b = r := ⟨_, rfl⟩
          have hlt : a % b < b := Nat.mod_lt _ (by omega)
          rw [hr] at hlt
          have e1 : (a : Int).tmod (b : Int) = (r : Int) := by rw [Int.tmod_eq_emod_of_nonneg (by omega), ← Int.natCast_emod, hr]
          have e2 : (a : Int) % (b : Int) = (r : Int) := by rw [← Int.natCast_emod, hr]
          have HS : Hid (Nat.gcd r b = Nat.gcd a b) := by unfold Hid; rw [← hr, Nat.gcd_comm a b, Nat.gcd_rec b a]
          clear hr h0 h1
          go_enter Try.func69, Try.ntmps69
          go_wp2_with fail
          refine (IH.out r b _ (by omega) (by omega) hb).mono ?_; rintro e w' ⟨rfl, rfl⟩
          go_wp2_with fail
          go_ret
          exact ⟨ret_int (by rw [HS.out]), rfl⟩
end Go.Proofs.Ytncikklhchimdaa
