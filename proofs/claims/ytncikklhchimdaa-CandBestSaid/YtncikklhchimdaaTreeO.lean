/- Plain laws: how trees stand to each other. -/
import Derived.Test.YtncikklhchimdaaTreeN
namespace Go.Proofs.Ytncikklhchimdaa
open Go.RowKit
set_option linter.unusedVariables false
set_option linter.unusedSimpArgs false
set_option maxRecDepth 100000

/-- Three that stand to each other as three of an order do. -/
def T3 (x y z : Int) : Prop := (x ≤ 0 → y ≤ 0 → z ≤ 0) ∧ (x = 0 → y = 0 → z = 0) ∧ (x < 0 → y ≤ 0 → z < 0) ∧ (x ≤ 0 → y < 0 → z < 0)
theorem T3_cmpI (a b c : Int) : T3 (cmpI a b) (cmpI b c) (cmpI a c) := by
  unfold T3 cmpI
  repeat' split
  all_goals omega
theorem T3_or {x y z x' y' z' : Int} (h : T3 x y z) (h2 : x = 0 → y = 0 → T3 x' y' z') : T3 (orI x x') (orI y y') (orI z z') := by
  obtain ⟨a1, a2, a3, a4⟩ := h
  unfold orI
  by_cases hx : x = 0
  · by_cases hy : y = 0
    · have hz := a2 hx hy
      rw [if_pos hx, if_pos hy, if_pos hz]; exact h2 hx hy
    · rw [if_pos hx, if_neg hy]
      unfold T3
      split <;> omega
  · rw [if_neg hx]
    by_cases hy : y = 0
    · rw [if_pos hy]
      unfold T3
      split <;> omega
    · rw [if_neg hy]
      unfold T3
      split <;> omega
theorem orI_neg {x y x' y' : Int} (h : x' = -x) (h2 : x = 0 → y' = -y) : orI x' y' = - orI x y := by
  unfold orI
  by_cases hx : x = 0
  · rw [if_pos (by omega), if_pos hx]; exact h2 hx
  · rw [if_neg (by omega), if_neg hx]; exact h

namespace Tr
theorem cmpL_neg (ts : List Tr) (h : ∀ t ∈ ts, ∀ u, cmp u t = - cmp t u) : ∀ us, ts.length = us.length → cmpL us ts = - cmpL ts us := by
  induction ts with
  | nil => intro us hl; cases us with
    | nil => simp [cmpL]
    | cons u us => simp at hl
  | cons t ts ih =>
    intro us hl
    cases us with
    | nil => simp at hl
    | cons u us =>
      simp only [cmpL]
      exact orI_neg (h t (by simp) u) fun _ => ih (fun t ht => h t (by simp [ht])) us (by simpa using hl)
theorem cmp_neg' (N : Nat) : ∀ t u : Tr, t.size ≤ N → cmp u t = - cmp t u := by
  induction N with
  | zero => intro t u h; have := size_pos t; omega
  | succ N ih =>
    intro t u h
    rw [cmp_kids, cmp_kids t u]
    refine orI_neg (cmpI_neg _ _) fun _ => orI_neg (cmpI_neg _ _) fun _ => orI_neg (cmpI_neg _ _) fun h3 => cmpL_neg _ (fun t' ht u => ih t' u ?_) _ ?_
    · have := size_mem ht; rw [size_kids] at h; omega
    · have := cmpI_zero h3; omega
theorem cmp_neg (t u : Tr) : cmp u t = - cmp t u := cmp_neg' _ t u (Nat.le_refl _)
theorem cmp_self (t : Tr) : cmp t t = 0 := by have := cmp_neg t t; omega
theorem cmpL_T3 (ts : List Tr) (h : ∀ t ∈ ts, ∀ u v, T3 (cmp t u) (cmp u v) (cmp t v)) : ∀ us vs, ts.length = us.length → us.length = vs.length → T3 (cmpL ts us) (cmpL us vs) (cmpL ts vs) := by
  induction ts with
  | nil =>
    intro us vs h1 h2
    obtain rfl : us = [] := List.length_eq_zero_iff.1 (by simpa using h1.symm)
    simp only [cmpL]; unfold T3; omega
  | cons t ts ih =>
    intro us vs h1 h2
    cases us with
    | nil => simp at h1
    | cons u us =>
      cases vs with
      | nil => simp at h2
      | cons v vs =>
        simp only [cmpL]
        exact T3_or (h t (by simp) u v) fun _ _ => ih (fun t ht => h t (by simp [ht])) us vs (by simpa using h1) (by simpa using h2)
theorem cmp_T3' (N : Nat) : ∀ t u v : Tr, t.size ≤ N → T3 (cmp t u) (cmp u v) (cmp t v) := by
  induction N with
  | zero => intro t u v h; have := size_pos t; omega
  | succ N ih =>
    intro t u v h
    rw [cmp_kids t u, cmp_kids u v, cmp_kids t v]
    refine T3_or (T3_cmpI _ _ _) fun _ _ => T3_or (T3_cmpI _ _ _) fun _ _ => T3_or (T3_cmpI _ _ _) fun h3 h4 => cmpL_T3 _ (fun t' ht u v => ih t' u v ?_) _ _ ?_ ?_
    · have := size_mem ht; rw [size_kids] at h; omega
    · have := cmpI_zero h3; omega
    · have := cmpI_zero h4; omega
theorem cmp_T3 (t u v : Tr) : T3 (cmp t u) (cmp u v) (cmp t v) := cmp_T3' _ t u v (Nat.le_refl _)
theorem cmp_eq (N : Nat) : ∀ t u : Tr, t.size ≤ N → cmp t u = 0 → t = u := by
  induction N with
  | zero => intro t u h; have := size_pos t; omega
  | succ N ih =>
    intro t u h h0
    rw [cmp_kids] at h0
    have hz : cmpI t.kind u.kind = 0 ∧ cmpI t.num u.num = 0 ∧ cmpI (t.kids.length : Int) (u.kids.length : Int) = 0 ∧ cmpL t.kids u.kids = 0 := by
      unfold orI at h0
      repeat' split at h0
      all_goals omega
    obtain ⟨h1, h2, h3, h4⟩ := hz
    have h1 := cmpI_zero h1
    have h2 := cmpI_zero h2
    have h3 := cmpI_zero h3
    have hL : ∀ ts us : List Tr, (∀ t ∈ ts, t.size ≤ N) → ts.length = us.length → cmpL ts us = 0 → ts = us := by
      intro ts
      induction ts with
      | nil => intro us _ hl _; exact (List.length_eq_zero_iff.1 (by simpa using hl.symm)).symm
      | cons t ts ih2 =>
        intro us hs hl hc
        cases us with
        | nil => simp at hl
        | cons u us =>
          simp only [cmpL] at hc
          have hz2 : cmp t u = 0 ∧ cmpL ts us = 0 := by
            unfold orI at hc
            split at hc
            · exact ⟨by assumption, hc⟩
            · omega
          rw [ih t u (hs t (by simp)) hz2.1, ih2 us (fun t ht => hs t (by simp [ht])) (by simpa using hl) hz2.2]
    have hk := hL t.kids u.kids (fun t' ht => by have := size_mem ht; rw [size_kids] at h; omega) (by omega) h4
    rw [← eta t, ← eta u, h1, h2, hk]
theorem eq_of_cmp {t u : Tr} (h : cmp t u = 0) : t = u := cmp_eq _ t u (Nat.le_refl _) h
end Tr
end Go.Proofs.Ytncikklhchimdaa
