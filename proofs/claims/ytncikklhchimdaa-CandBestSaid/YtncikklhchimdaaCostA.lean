/- Contracts: how much work a plan is. The program. -/
import Derived.Test.YtncikklhchimdaaCostL
import Derived.Test.YtncikklhchimdaaBitsLen
import Derived.Deep.RegionHeld3
import Derived.Deep.QuietTactic
import Derived.BigQuiet
namespace Go.Proofs.Ytncikklhchimdaa
open Go.RowKit
set_option linter.unusedVariables false
set_option linter.unusedSimpArgs false
set_option maxRecDepth 100000
set_option maxRecDepth 20000

theorem sat_min (x : Int) : min x 1152921504606846976 = sat x := by unfold sat; split <;> omega

theorem cost_add (a b : Int) (w : World) (a0 : 0 ≤ a) (a1 : a ≤ 1152921504606846976) (b0 : 0 ≤ b) (b1 : b ≤ 1152921504606846976) :
    Calls Try.prog 105 #[.int .i64 a, .int .i64 b] w fun e w' => e = .returned (.int .i64 (sat (a + b))) ∧ w = w' := by
  obtain ⟨S, hS⟩ : ∃ S, a + b = S := ⟨_, rfl⟩
  rw [hS, ← sat_min]
  go_enter Try.func105, Try.ntmps105
  go_wp2_with fail
  go_ret
  exact ⟨rfl, rfl⟩

theorem sat_over {a b q : Int} (ha : 1 ≤ a) (hq : 1152921504606846976 / a = q) (h : q < b) : sat (a * b) = 1152921504606846976 := by
  have h1 := Int.lt_mul_ediv_self_add (x := 1152921504606846976) (k := a) (by omega)
  rw [hq] at h1
  have h2 : a * (q + 1) ≤ a * b := Int.mul_le_mul_of_nonneg_left (by omega) (by omega)
  rw [Int.mul_add, Int.mul_one] at h2
  exact sat_top (by omega)
theorem mul_under {a b q : Int} (ha : 1 ≤ a) (hb : 0 ≤ b) (hq : 1152921504606846976 / a = q) (h : b ≤ q) : 0 ≤ a * b ∧ a * b ≤ 1152921504606846976 := by
  have h1 := Int.mul_ediv_self_le (x := 1152921504606846976) (k := a) (by omega)
  rw [hq] at h1
  have h2 : a * b ≤ a * q := Int.mul_le_mul_of_nonneg_left h (by omega)
  exact ⟨Int.mul_nonneg (by omega) hb, by omega⟩

theorem cost_times (a b : Int) (w : World) (a0 : 0 ≤ a) (a1 : a ≤ 16777216) (b0 : 0 ≤ b) (b1 : b ≤ 1152921504606846976) :
    Calls Try.prog 106 #[.int .i64 a, .int .i64 b] w fun e w' => e = .returned (.int .i64 (sat (a * b))) ∧ w = w' := by
  by_cases ha : a = 0
  · subst ha
    rw [show sat (0 * b) = 0 by rw [Int.zero_mul]; rfl]
    go_enter Try.func106, Try.ntmps106
    go_wp2_with fail
    go_ret
    exact ⟨rfl, rfl⟩
  · have t1 : (a != 0) = true := bdiff ha
    have t2 : (a == 0) = false := bno ha
    have q0 : 0 ≤ 1152921504606846976 / a := Int.ediv_nonneg (by omega) (by omega)
    have q1 : 1152921504606846976 / a ≤ 1152921504606846976 := Int.ediv_le_self _ (by omega)
    have e1 : (1152921504606846976 : Int).tdiv a = 1152921504606846976 / a := Int.tdiv_eq_ediv_of_nonneg (by omega)
    obtain ⟨q, hq⟩ : ∃ q, 1152921504606846976 / a = q := ⟨_, rfl⟩
    rw [hq] at q0 q1 e1
    have wq : IntKind.i64.wrap q = q := IntWalk.i64_in _ (by omega)
    by_cases hb : q < b
    · have t3 : decide (b > q) = true := by simp; omega
      rw [sat_over (by omega) hq hb]
      go_enter Try.func106, Try.ntmps106
      go_wp2_with fail
      go_ret
      exact ⟨rfl, rfl⟩
    · have t3 : decide (b > q) = false := by simp; omega
      have hm := mul_under (a := a) (by omega) b0 hq (by omega)
      obtain ⟨S, hS⟩ : ∃ S, a * b = S := ⟨_, rfl⟩
      rw [hS] at hm ⊢
      rw [← sat_min]
      go_enter Try.func106, Try.ntmps106
      go_wp2_with fail
      go_ret
      exact ⟨rfl, rfl⟩

theorem sat_nn {x : Int} (h : 0 ≤ x) : 0 ≤ sat x := sat_ge h (by omega)

set_option maxHeartbeats 4000000 in
theorem cost_est_leaf (t : Tr) (k n : Int) (a : Option Addr) (m cap : Nat) (w : World) (F : Nat → Prop) (hT : IsT w F k n a m cap t) (hok : t.allOk) (hm : m = 0) :
    Calls Try.prog 88 #[.agg #[.int .i64 k, .int .i64 n, .slice a m cap]] w fun e w' => e = .returned (.int .i64 t.est) ∧ Below w.heap.size w w' := by
  have hn := ((Tr.allOk_iff t).1 hok).1
  have hv : Hid (t.est = estB k n ((Tr.estL t.kids).getD 0 0) ((Tr.estL t.kids).getD 1 0) (Tr.kid t.kids 0).num (Tr.kid t.kids 1).num) := by unfold Hid; rw [Tr.est_kids, hT.ek, hT.en]
  have hb : (k = 1 ∧ 1 ≤ n ∧ n ≤ 64) ∨ (k = 2 ∧ 2 ≤ n ∧ n ≤ 5) ∨ (k = 3 ∧ ∃ j, 1 ≤ j ∧ j ≤ 24 ∧ n = ((2 ^ j : Nat) : Int)) := by
    rw [hT.ek, hT.en]
    have hl : t.kids.length = 0 := by rw [← hT.em]; exact hm
    rcases node_cases hn with h | h | h | h | h | h
    · exact .inl ⟨h.1, h.2.2⟩
    · exact .inr (.inl ⟨h.1, h.2.2⟩)
    · exact .inr (.inr ⟨h.1, h.2.2⟩)
    all_goals (exfalso; omega)
  rw [hv.out]
  generalize (Tr.estL t.kids).getD 0 0 = e0
  generalize (Tr.estL t.kids).getD 1 0 = e1
  generalize (Tr.kid t.kids 0).num = k0
  generalize (Tr.kid t.kids 1).num = k1
  clear hv hn hok hT
  rcases hb with ⟨rfl, h1, h2⟩ | ⟨rfl, h1, h2⟩ | ⟨rfl, j, h1, h2, h3⟩
  · rw [show estB 1 n e0 e1 k0 k1 = n * n by unfold estB; rw [if_pos rfl]]
    have a1 := Int.mul_le_mul h1 h1 (by omega) (by omega)
    have a2 := Int.mul_le_mul h2 h2 (by omega) (by omega)
    obtain ⟨S, hS⟩ : ∃ S, n * n = S := ⟨_, rfl⟩
    rw [hS] at a1 a2 ⊢
    go_enter Try.func88, Try.ntmps88
    go_wp2_with fail
    go_ret
    exact ⟨rfl, (Below.refl _ _).alloc (Nat.le_refl _) _⟩
  · rw [show estB 2 n e0 e1 k0 k1 = 2 * n by unfold estB; rw [if_neg (by omega), if_pos rfl]]
    go_enter Try.func88, Try.ntmps88
    go_wp2_with fail
    go_ret
    exact ⟨rfl, (Below.refl _ _).alloc (Nat.le_refl _) _⟩
  · rw [show estB 3 n e0 e1 k0 k1 = n * lg n by unfold estB; rw [if_neg (by omega), if_neg (by omega), if_pos rfl]]
    have h9 : 2 ^ j ≤ 2 ^ 24 := Nat.pow_le_pow_right (by omega) h2
    have e9 : (2 : Nat) ^ 24 = 16777216 := by decide
    have h8 : 0 < 2 ^ j := Nat.pos_of_ne_zero (by simp)
    have hn0 : 0 ≤ n := by omega
    have hn1 : n ≤ 16777216 := by omega
    have HB : Hid (∀ W, Calls Try.prog 104 #[.int .u64 n] W fun e w' => e = .returned (.int .i64 (lg n + 1)) ∧ W = w') := fun W => by
      have := bits_Len n W (by omega) (by omega)
      rwa [show ((Lib.bitLen n.toNat : Nat) : Int) = lg n + 1 by unfold lg; omega] at this
    have hlg : lg n = j := by rw [h3]; exact lg_pow j h2
    have hm2 := Int.mul_le_mul hn1 (show (j : Int) ≤ 24 by omega) (by omega) (by omega)
    have hm3 := Int.mul_nonneg hn0 (show (0 : Int) ≤ (j : Int) by omega)
    rw [hlg] at HB ⊢
    obtain ⟨S, hS⟩ : ∃ S, n * (j : Int) = S := ⟨_, rfl⟩
    rw [hS] at hm2 hm3 ⊢
    clear h3 h9 e9 h8 hlg
    have e1 : (j : Int) + 1 - 1 = (j : Int) := by omega
    go_enter Try.func88, Try.ntmps88
    go_wp2_with fail
    go_quiet ((go_at_call 104; exact Calls.quiet_of_same (sameW (HB.out _))))
    go_wp2_with fail
    go_ret
    exact ⟨rfl, below_drewN ((Below.refl _ _).alloc (Nat.le_refl _) _) _⟩
end Go.Proofs.Ytncikklhchimdaa
