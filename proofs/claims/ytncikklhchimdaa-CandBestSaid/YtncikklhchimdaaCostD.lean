/- Contracts: how much work a plan is. The reference's estimate. -/
import Derived.Test.YtncikklhchimdaaCostC
namespace Go.Proofs.Ytncikklhchimdaa
open Go.RowKit
set_option linter.unusedVariables false
set_option linter.unusedSimpArgs false
set_option maxRecDepth 100000
set_option maxRecDepth 20000

theorem sat_nn' {x : Int} (h : 0 ≤ x) : 0 ≤ sat x := sat_ge h (by omega)

set_option maxHeartbeats 4000000 in
theorem ref18_Est_leaf (t : Tr) (k n : Int) (a : Option Addr) (m cap : Nat) (w : World) (F : Nat → Prop) (hT : IsT w F k n a m cap t) (hok : t.allOk) (hm : m = 0) :
    Calls Try.prog 40 #[.agg #[.int .i64 k, .int .i64 n, .slice a m cap]] w fun e w' => e = .returned (.int .i64 t.est) ∧ Below w.heap.size w w' := by
  have hn := ((Tr.allOk_iff t).1 hok).1
  have hv : Hid (t.est = estB k n ((Tr.estL t.kids).getD 0 0) ((Tr.estL t.kids).getD 1 0) (Tr.kid t.kids 0).num (Tr.kid t.kids 1).num) := by unfold Hid; rw [Tr.est_kids, hT.ek, hT.en]
  have hb : (k = 1 ∧ 1 ≤ n ∧ n ≤ 64) ∨ (k = 2 ∧ 2 ≤ n ∧ n ≤ 5) ∨ (k = 3 ∧ ∃ j, 1 ≤ j ∧ j ≤ 24 ∧ n = ((2 ^ j : Nat) : Int)) := by
    rw [hT.ek, hT.en]
    have hl : t.kids.length = 0 := by rw [← hT.em]; exact hm
    rcases node_cases hn with h | h | h | h | h | h
    · exact .inl ⟨h.1, h.2.2⟩
    · exact .inr (.inl ⟨h.1, h.2.2⟩)
    · exact .inr (.inr ⟨h.1, h.2.2⟩)
    all_goals (exfalso; omega)
  rw [hv.out]
  generalize (Tr.estL t.kids).getD 0 0 = e0
  generalize (Tr.estL t.kids).getD 1 0 = e1
  generalize (Tr.kid t.kids 0).num = k0
  generalize (Tr.kid t.kids 1).num = k1
  clear hv hn hok hT
  rcases hb with ⟨rfl, h1, h2⟩ | ⟨rfl, h1, h2⟩ | ⟨rfl, j, h1, h2, h3⟩
  · rw [show estB 1 n e0 e1 k0 k1 = n * n by unfold estB; rw [if_pos rfl]]
    have a1 := Int.mul_le_mul h1 h1 (by omega) (by omega)
    have a2 := Int.mul_le_mul h2 h2 (by omega) (by omega)
    obtain ⟨S, hS⟩ : ∃ S, n * n = S := ⟨_, rfl⟩
    rw [hS] at a1 a2 ⊢
    go_enter Try.func40, Try.ntmps40
    go_wp2_with fail
    go_ret
    exact ⟨rfl, (Below.refl _ _).alloc (Nat.le_refl _) _⟩
  · rw [show estB 2 n e0 e1 k0 k1 = 2 * n by unfold estB; rw [if_neg (by omega), if_pos rfl]]
    go_enter Try.func40, Try.ntmps40
    go_wp2_with fail
    go_ret
    exact ⟨rfl, (Below.refl _ _).alloc (Nat.le_refl _) _⟩
  · rw [show estB 3 n e0 e1 k0 k1 = n * lg n by unfold estB; rw [if_neg (by omega), if_neg (by omega), if_pos rfl]]
    have h9 : 2 ^ j ≤ 2 ^ 24 := Nat.pow_le_pow_right (by omega) h2
    have e9 : (2 : Nat) ^ 24 = 16777216 := by decide
    have h8 : 0 < 2 ^ j := Nat.pos_of_ne_zero (by simp)
    have hn0 : 0 ≤ n := by omega
    have hn1 : n ≤ 16777216 := by omega
    have hlg : lg n = j := by rw [h3]; exact lg_pow j h2
    have hm2 := Int.mul_le_mul hn1 (show (j : Int) ≤ 24 by omega) (by omega) (by omega)
    have hm3 := Int.mul_nonneg hn0 (show (0 : Int) ≤ (j : Int) by omega)
    rw [hlg]
    obtain ⟨S, hS⟩ : ∃ S, n * (j : Int) = S := ⟨_, rfl⟩
    have H3 := Lib.hid h3
    have HS := Lib.hid hS
    rw [hS] at hm2 hm3 ⊢
    clear h3 h9 e9 h8 hlg hS
    go_enter Try.func40, Try.ntmps40
    go_wp2_with fail
    go_loopw [4] (fun v wr => ∃ i : Nat, i ≤ j ∧ v = .int .i64 i ∧ Below w.heap.size w wr) (fun v _ => 30 - (intOf v).toNat)
    case atStart => exact ⟨0, by omega, rfl, (Below.refl _ _).alloc (Nat.le_refl _) _⟩
    case round =>
      obtain ⟨i, hij, rfl, hbl⟩ := hrel
      have hp : 2 ^ (i + 1) ≤ 2 ^ 25 := Nat.pow_le_pow_right (by omega) (by omega)
      have e9 : (2 : Nat) ^ 25 = 33554432 := by decide
      obtain ⟨p, hpp⟩ : ∃ p, 2 ^ (i + 1) = p := ⟨_, rfl⟩
      rw [hpp] at hp
      have e1 : (2 : Int) ^ (i + 1) = (p : Int) := by rw [← hpp]; simp
      have hbs := hbl.size
      have HP := Lib.hid hpp
      clear hpp e9
      by_cases hlt : i < j
      · have hle : (p : Int) ≤ n := by
          rw [H3.out, ← HP.out]
          exact Int.ofNat_le.2 (Nat.pow_le_pow_right (by omega) (by omega))
        have d1 : decide ((p : Int) ≤ n) = true := by simp; omega
        go_wp2_with fail
        go_roundw
        case rel => exact ⟨i + 1, by omega, by go_num, hbl⟩
        case measure => simp [intOf]; omega
      · have hji : i = j := by omega
        have hle : ¬ (p : Int) ≤ n := by
          rw [H3.out, ← HP.out]
          have : 2 ^ j < 2 ^ (i + 1) := Nat.pow_lt_pow_right (by omega) (by omega)
          omega
        have d1 : decide ((p : Int) ≤ n) = false := by simp; omega
        subst hji
        have hs1 : n * (i : Int) = S := HS.out
        go_wp2_with fail
        go_ret
        exact ⟨rfl, hbl⟩
end Go.Proofs.Ytncikklhchimdaa
