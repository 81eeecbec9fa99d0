/- Plain laws: how much work a plan is. No program in sight. -/
import Derived.Test.YtncikklhchimdaaValJ
import Derived.Lib.BitFns
namespace Go.Proofs.Ytncikklhchimdaa
open Go.RowKit
set_option linter.unusedVariables false
set_option linter.unusedSimpArgs false
set_option maxRecDepth 100000

/-- Where sums and products end. -/
def sat (x : Int) : Int := if x ≤ 1152921504606846976 then x else 1152921504606846976
theorem sat_le (x : Int) : sat x ≤ 1152921504606846976 := by unfold sat; split <;> omega
theorem sat_ge {x a : Int} (h : a ≤ x) (ha : a ≤ 1152921504606846976) : a ≤ sat x := by unfold sat; split <;> omega
theorem sat_id {x : Int} (h : x ≤ 1152921504606846976) : sat x = x := if_pos h
theorem sat_top {x : Int} (h : 1152921504606846976 ≤ x) : sat x = 1152921504606846976 := by unfold sat; split <;> omega
/-- The logarithm. -/
def lg (n : Int) : Int := (Lib.bitLen n.toNat : Int) - 1
/-- The estimate of a node, from those of the first two children and their sizes. -/
def estB (k n e0 e1 k0 k1 : Int) : Int :=
  if k = 1 then n * n
  else if k = 2 then 2 * n
  else if k = 3 then n * lg n
  else if k = 6 then sat (sat (2 * e0) + 2 * n)
  else if k = 7 then sat (sat (sat (2 * e0) + k0) + 3 * n)
  else if k = 4 then sat (sat (sat (k1 * e0) + sat (k0 * e1)) + n)
  else sat (sat (k1 * e0) + sat (k0 * e1))

namespace Tr
mutual
def est : Tr → Int
  | node k n ks => estB k n ((estL ks).getD 0 0) ((estL ks).getD 1 0) (kid ks 0).num (kid ks 1).num
def estL : List Tr → List Int
  | [] => []
  | t :: ts => est t :: estL ts
end
theorem estL_at (ks : List Tr) : ∀ i, i < ks.length → (estL ks).getD i 0 = (kid ks i).est := by
  induction ks with
  | nil => intro i h; simp at h
  | cons t ts ih =>
    intro i h
    cases i with
    | zero => simp [estL, kid]
    | succ i =>
      have := ih i (by simpa using h)
      simpa [estL, kid] using this
theorem est_kids (t : Tr) : t.est = estB t.kind t.num ((estL t.kids).getD 0 0) ((estL t.kids).getD 1 0) (kid t.kids 0).num (kid t.kids 1).num := by cases t; simp [est, kind, num, kids]
end Tr

theorem lg_pow (k : Nat) (hk : k ≤ 24) : lg ((2 ^ k : Nat) : Int) = k := by
  have h : ∀ j : Fin 25, Lib.bitLen (2 ^ j.val) = j.val + 1 := by decide +kernel
  have := h ⟨k, by omega⟩
  simp only [] at this
  unfold lg
  rw [Int.toNat_natCast, this]
  omega

/-- What a right node is, kind by kind. -/
theorem node_cases {t : Tr} (h : nodeOk t = true) :
    (t.kind = 1 ∧ t.kids.length = 0 ∧ 1 ≤ t.num ∧ t.num ≤ 64) ∨
    (t.kind = 2 ∧ t.kids.length = 0 ∧ 2 ≤ t.num ∧ t.num ≤ 5) ∨
    (t.kind = 3 ∧ t.kids.length = 0 ∧ ∃ j, 1 ≤ j ∧ j ≤ 24 ∧ t.num = ((2 ^ j : Nat) : Int)) ∨
    ((t.kind = 4 ∨ t.kind = 5) ∧ t.kids.length = 2 ∧ 1 ≤ t.num ∧ t.num ≤ 16777216 ∧ 2 ≤ (Tr.kid t.kids 0).num ∧ (Tr.kid t.kids 0).num ≤ t.num ∧ 2 ≤ (Tr.kid t.kids 1).num ∧ (Tr.kid t.kids 1).num ≤ t.num ∧ (Tr.kid t.kids 0).num * (Tr.kid t.kids 1).num = t.num) ∨
    (t.kind = 6 ∧ t.kids.length = 1 ∧ 3 ≤ t.num ∧ t.num ≤ 16777216 ∧ (Tr.kid t.kids 0).num = t.num - 1) ∨
    (t.kind = 7 ∧ t.kids.length = 1 ∧ 2 ≤ t.num ∧ t.num ≤ 16777216 ∧ 2 * t.num - 1 ≤ (Tr.kid t.kids 0).num ∧ (Tr.kid t.kids 0).num ≤ 16777216) := by
  unfold nodeOk nodeB at h
  generalize (Tr.kid t.kids 0).num = k0 at *
  generalize (Tr.kid t.kids 1).num = k1 at *
  by_cases h1 : t.kind = 1
  · rw [if_pos h1] at h
    simp only [Bool.and_eq_true, decide_eq_true_eq] at h
    have := hasSz_bd h.2
    exact .inl ⟨h1, h.1.1, this.1, h.1.2⟩
  rw [if_neg h1] at h
  by_cases h2 : t.kind = 2
  · rw [if_pos h2] at h
    simp only [decide_eq_true_eq] at h
    exact .inr (.inl ⟨h2, h.1, h.2.1, h.2.2⟩)
  rw [if_neg h2] at h
  by_cases h3 : t.kind = 3
  · rw [if_pos h3] at h
    simp only [Bool.and_eq_true, decide_eq_true_eq] at h
    obtain ⟨j, hj, e⟩ := (hasP2_iff _).1 h.2
    refine .inr (.inr (.inl ⟨h3, h.1.1, j, ?_, hj, e⟩))
    rcases Nat.eq_zero_or_pos j with h0 | h0
    · subst h0; have := h.1.2; rw [e] at this; simp at this
    · exact h0
  rw [if_neg h3] at h
  by_cases h4 : t.kind = 4
  · rw [if_pos h4] at h
    obtain ⟨⟨a, b, c, d, e, f⟩, g⟩ := sides_iff.1 h
    have := hasSz_bd g
    exact .inr (.inr (.inr (.inl ⟨.inl h4, a, this.1, this.2, b, d, c, e, f⟩)))
  rw [if_neg h4] at h
  by_cases h5 : t.kind = 5
  · rw [if_pos h5] at h
    simp only [Bool.and_eq_true] at h
    obtain ⟨⟨a, b, c, d, e, f⟩, g⟩ := sides_iff.1 h.1
    have := hasSz_bd g
    exact .inr (.inr (.inr (.inl ⟨.inr h5, a, this.1, this.2, b, d, c, e, f⟩)))
  rw [if_neg h5] at h
  by_cases h6 : t.kind = 6
  · rw [if_pos h6] at h
    simp only [Bool.and_eq_true, decide_eq_true_eq] at h
    have := hasSz_bd h.1.2
    exact .inr (.inr (.inr (.inr (.inl ⟨h6, h.1.1.1, h.1.1.2.1, this.2, h.1.1.2.2⟩))))
  rw [if_neg h6] at h
  by_cases h7 : t.kind = 7
  · rw [if_pos h7] at h
    simp only [Bool.and_eq_true, decide_eq_true_eq] at h
    have h8 := hasSz_bd h.1.2
    obtain ⟨j, hj, e⟩ := (hasP2_iff _).1 h.2
    have h9 : 2 ^ j ≤ 2 ^ 24 := Nat.pow_le_pow_right (by omega) hj
    have e9 : (2 : Nat) ^ 24 = 16777216 := by decide
    exact .inr (.inr (.inr (.inr (.inr ⟨h7, h.1.1.1, h.1.1.2.1, h8.2, h.1.1.2.2, by omega⟩))))
  rw [if_neg h7] at h
  cases h

theorem mul_ge_one {a b : Int} (ha : 1 ≤ a) (hb : 1 ≤ b) : 1 ≤ a * b := by
  have := Int.mul_le_mul ha hb (by omega) (by omega)
  omega

/-- The estimate of a plan: from 1 on, and no more than the end. -/
theorem est_bd' (N : Nat) : ∀ t : Tr, t.size ≤ N → t.allOk → 1 ≤ t.est ∧ t.est ≤ 1152921504606846976 := by
  induction N with
  | zero => intro t h; have := Tr.size_pos t; omega
  | succ N ih =>
    intro t hs hok
    have hn := ((Tr.allOk_iff t).1 hok)
    have hk : ∀ i, i < t.kids.length → 1 ≤ (Tr.kid t.kids i).est ∧ (Tr.kid t.kids i).est ≤ 1152921504606846976 := fun i hi =>
      ih _ (by have := Tr.size_kid t i hi; omega) (hn.2 i hi)
    rw [Tr.est_kids]
    unfold estB
    rcases node_cases hn.1 with ⟨hk1, _, h1, h2⟩ | ⟨hk1, _, h1, h2⟩ | ⟨hk1, _, j, h1, h2, h3⟩ | ⟨hk1, hl, h1, h2, h3, h4, h5, h6, h7⟩ | ⟨hk1, hl, h1, h2, h3⟩ | ⟨hk1, hl, h1, h2, h3, h4⟩
    · rw [if_pos hk1]
      have a1 := Int.mul_le_mul h1 h1 (by omega) (by omega)
      have a2 := Int.mul_le_mul h2 h2 (by omega) (by omega)
      omega
    · rw [if_neg (by omega), if_pos hk1]; omega
    · rw [if_neg (by omega), if_neg (by omega), if_pos hk1, h3, lg_pow j h2]
      have h9 : 2 ^ j ≤ 2 ^ 24 := Nat.pow_le_pow_right (by omega) h2
      have e9 : (2 : Nat) ^ 24 = 16777216 := by decide
      have h8 : 0 < 2 ^ j := Nat.pos_of_ne_zero (by simp)
      have a1 := mul_ge_one (a := ((2 ^ j : Nat) : Int)) (b := (j : Int)) (by omega) (by omega)
      have a2 := Int.mul_le_mul (show ((2 ^ j : Nat) : Int) ≤ 16777216 by omega) (show (j : Int) ≤ 24 by omega) (by omega) (by omega)
      omega
    · rw [if_neg (by omega), if_neg (by omega), if_neg (by omega), if_neg (by omega), if_neg (by omega)]
      have e0 := hk 0 (by omega)
      have e1 := hk 1 (by omega)
      rw [Tr.estL_at _ 0 (by omega), Tr.estL_at _ 1 (by omega)]
      have p0 := sat_ge (mul_ge_one (a := (Tr.kid t.kids 1).num) (b := (Tr.kid t.kids 0).est) (by omega) e0.1) (by omega)
      have p1 := sat_ge (mul_ge_one (a := (Tr.kid t.kids 0).num) (b := (Tr.kid t.kids 1).est) (by omega) e1.1) (by omega)
      have p2 : 1 ≤ sat (sat ((Tr.kid t.kids 1).num * (Tr.kid t.kids 0).est) + sat ((Tr.kid t.kids 0).num * (Tr.kid t.kids 1).est)) := sat_ge (by omega) (by omega)
      split
      · exact ⟨sat_ge (by omega) (by omega), sat_le _⟩
      · exact ⟨p2, sat_le _⟩
    · rw [if_neg (by omega), if_neg (by omega), if_neg (by omega), if_pos hk1]
      have e0 := hk 0 (by omega)
      rw [Tr.estL_at _ 0 (by omega)]
      have p0 : 0 ≤ sat (2 * (Tr.kid t.kids 0).est) := sat_ge (by omega) (by omega)
      exact ⟨sat_ge (by omega) (by omega), sat_le _⟩
    · rw [if_neg (by omega), if_neg (by omega), if_neg (by omega), if_neg (by omega), if_pos hk1]
      have e0 := hk 0 (by omega)
      rw [Tr.estL_at _ 0 (by omega)]
      have p0 : 0 ≤ sat (2 * (Tr.kid t.kids 0).est) := sat_ge (by omega) (by omega)
      have p1 : 0 ≤ sat (sat (2 * (Tr.kid t.kids 0).est) + (Tr.kid t.kids 0).num) := sat_ge (by omega) (by omega)
      exact ⟨sat_ge (by omega) (by omega), sat_le _⟩
theorem est_bd {t : Tr} (h : t.allOk) : 1 ≤ t.est ∧ t.est ≤ 1152921504606846976 := est_bd' _ t (Nat.le_refl _) h
/-- One child: at least twice as much. -/
theorem est_one {t : Tr} (h : t.allOk) (hl : t.kids.length = 1) : t.est = 1152921504606846976 ∨ 2 * (Tr.kid t.kids 0).est ≤ t.est := by
  have hn := ((Tr.allOk_iff t).1 h)
  have e0 := est_bd (hn.2 0 (by omega))
  rw [Tr.est_kids]
  unfold estB
  rcases node_cases hn.1 with ⟨hk1, hl2, _⟩ | ⟨hk1, hl2, _⟩ | ⟨hk1, hl2, _⟩ | ⟨hk1, hl2, _⟩ | ⟨hk1, hl2, h1, h2, h3⟩ | ⟨hk1, hl2, h1, h2, h3, h4⟩
  all_goals try (exfalso; omega)
  · rw [if_neg (by omega), if_neg (by omega), if_neg (by omega), if_pos hk1, Tr.estL_at _ 0 (by omega)]
    unfold sat
    repeat' split
    all_goals omega
  · rw [if_neg (by omega), if_neg (by omega), if_neg (by omega), if_neg (by omega), if_pos hk1, Tr.estL_at _ 0 (by omega)]
    unfold sat
    repeat' split
    all_goals omega
end Go.Proofs.Ytncikklhchimdaa
