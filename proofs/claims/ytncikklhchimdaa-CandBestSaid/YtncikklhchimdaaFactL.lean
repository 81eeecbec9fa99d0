/- Plain laws: the primes that divide a number. No program in sight. -/
import Derived.Test.YtncikklhchimdaaMem
namespace Go.Proofs.Ytncikklhchimdaa
open Go.RowKit
set_option linter.unusedVariables false
set_option linter.unusedSimpArgs false
set_option maxRecDepth 100000

/-- n without d as often as it divides; e and how often. -/
def stripF : Nat → Nat → Nat → Nat → Nat × Nat
  | 0, _, n, e => (n, e)
  | f + 1, d, n, e => if n % d = 0 then stripF f d (n / d) (e + 1) else (n, e)
/-- The primes that divide n, from d on. -/
def facF : Nat → Nat → Nat → List (Nat × Nat)
  | 0, _, _ => []
  | f + 1, d, n => if d * d ≤ n then (match stripF 25 d n 0 with | (m, e) => if e = 0 then facF f (d + 1) m else (d, e) :: facF f (d + 1) m) else if 1 < n then [(n, 1)] else []
def facL (n : Nat) : List (Nat × Nat) := facF 4998 2 n

theorem stripF_le (f : Nat) : ∀ d n e, 2 ≤ d → 1 ≤ n → 1 ≤ (stripF f d n e).1 ∧ (stripF f d n e).1 ≤ n ∧ e ≤ (stripF f d n e).2 ∧ ((stripF f d n e).2 = e → (stripF f d n e).1 = n) := by
  induction f with
  | zero => intro d n e _ h; exact ⟨h, Nat.le_refl _, Nat.le_refl _, fun _ => rfl⟩
  | succ f ih =>
    intro d n e hd hn
    simp only [stripF]
    by_cases h : n % d = 0
    · rw [if_pos h]
      have h1 : 1 ≤ n / d := Nat.div_pos (Nat.le_of_dvd hn (Nat.dvd_of_mod_eq_zero h)) (by omega)
      obtain ⟨a, b, c, _⟩ := ih d (n / d) (e + 1) hd h1
      have := Nat.div_le_self n d
      exact ⟨a, by omega, by omega, fun h => by omega⟩
    · rw [if_neg h]; exact ⟨hn, Nat.le_refl _, Nat.le_refl _, fun _ => rfl⟩
theorem strip_step {n d e : Nat} (hd : 2 ≤ d) (h : n % d = 0) (hn : 1 ≤ n) (hb : n * 2 ^ e ≤ 16777216) : 1 ≤ n / d ∧ n / d * 2 ^ (e + 1) ≤ 16777216 ∧ n / d ≤ n := by
  have hdv := Nat.dvd_of_mod_eq_zero h
  have h1 : 1 ≤ n / d := Nat.div_pos (Nat.le_of_dvd hn hdv) (by omega)
  refine ⟨h1, ?_, Nat.div_le_self _ _⟩
  have h2 : n / d * 2 ≤ n := Nat.le_trans (Nat.mul_le_mul_left _ hd) (Nat.div_mul_le_self n d)
  calc n / d * 2 ^ (e + 1) = n / d * 2 * 2 ^ e := by rw [Nat.pow_succ, Nat.mul_comm (2 ^ e) 2, Nat.mul_assoc]
    _ ≤ n * 2 ^ e := Nat.mul_le_mul_right _ h2
    _ ≤ _ := hb
theorem strip_few {n e : Nat} (hn : 1 ≤ n) (hb : n * 2 ^ e ≤ 16777216) : e ≤ 24 := by
  by_cases h : e ≤ 24
  · exact h
  · have h1 : 2 ^ 25 ≤ 2 ^ e := Nat.pow_le_pow_right (by omega) (by omega)
    have h2 : 1 * 2 ^ e ≤ n * 2 ^ e := Nat.mul_le_mul_right _ hn
    have e2 : (2 : Nat) ^ 25 = 33554432 := by decide
    omega

/-- Is it a prime, as the program has it? -/
def prB (l : List (Nat × Nat)) : Bool := match l with | [(_, 1)] => true | _ => false

theorem facF_some (f : Nat) : ∀ d n, 2 ≤ d → 1 < n → n < (f + d) * (f + d) → facF (f + 1) d n ≠ [] := by
  induction f with
  | zero =>
    intro d n hd hn hf
    rw [Nat.zero_add] at hf
    simp only [facF]
    rw [if_neg (by omega), if_pos hn]
    simp
  | succ f ih =>
    intro d n hd hn hf
    have hle := stripF_le 25 d n 0 hd (by omega)
    rw [facF]
    by_cases h : d * d ≤ n
    · rw [if_pos h]
      rcases hs : stripF 25 d n 0 with ⟨m, e⟩
      rw [hs] at hle
      simp only [] at hle ⊢
      by_cases he : e = 0
      · rw [if_pos he]
        have hm : m = n := hle.2.2.2 he
        subst hm
        exact ih (d + 1) m (by omega) hn (by rw [show f + (d + 1) = f + 1 + d by omega]; exact hf)
      · rw [if_neg he]; simp
    · rw [if_neg h, if_pos hn]; simp
/-- No number from d on whose square is not above n divides n. -/
def NoDiv (d n : Nat) : Prop := 1 < n ∧ ∀ k, d ≤ k → k * k ≤ n → n % k ≠ 0
theorem facF_prime (f : Nat) : ∀ d n, 2 ≤ d → 1 ≤ n → n < (f + d) * (f + d) → (prB (facF (f + 1) d n) = true ↔ NoDiv d n) := by
  induction f with
  | zero =>
    intro d n hd hn hf
    rw [Nat.zero_add] at hf
    simp only [facF]
    rw [if_neg (by omega)]
    by_cases h1 : 1 < n
    · rw [if_pos h1]
      simp only [prB, true_iff]
      refine ⟨h1, fun k hk hkk _ => ?_⟩
      have := Nat.mul_le_mul hk hk
      omega
    · rw [if_neg h1]
      simp only [prB, Bool.false_eq_true, false_iff]
      exact fun h => h1 h.1
  | succ f ih =>
    intro d n hd hn hf
    have hle := stripF_le 25 d n 0 hd hn
    rw [facF]
    by_cases h : d * d ≤ n
    · rw [if_pos h]
      by_cases hdv : n % d = 0
      · have hnd : n / d * d = n := Nat.div_mul_cancel (Nat.dvd_of_mod_eq_zero hdv)
        have hge : d ≤ n / d := (Nat.le_div_iff_mul_le (by omega)).2 h
        have h24 : stripF 25 d n 0 = stripF 24 d (n / d) 1 := by rw [stripF, if_pos hdv]
        have hle2 := stripF_le 24 d (n / d) 1 hd (by omega)
        rw [← h24] at hle2
        have hno : ¬ NoDiv d n := fun hN => hN.2 d (Nat.le_refl _) h hdv
        rcases hs : stripF 25 d n 0 with ⟨m, e⟩
        rw [hs] at hle hle2
        simp only [] at hle hle2 ⊢
        rw [if_neg (by omega)]
        constructor
        · intro hp
          exfalso
          have he : e = 1 := by
            by_cases he : e = 1
            · exact he
            · exfalso
              simp only [prB] at hp
              split at hp
              · rename_i heq; simp only [List.cons.injEq, Prod.mk.injEq] at heq; exact he heq.1.2
              · cases hp
          have hm : m = n / d := hle2.2.2.2 he
          have hlt : m < (f + (d + 1)) * (f + (d + 1)) := by rw [show f + (d + 1) = f + 1 + d by omega]; omega
          have hsome := facF_some f (d + 1) m (by omega) (by omega) hlt
          simp only [prB] at hp
          split at hp
          · rename_i heq
            simp only [List.cons.injEq] at heq
            exact hsome heq.2
          · cases hp
        · intro hN; exact absurd hN hno
      · have hs : stripF 25 d n 0 = (n, 0) := by rw [stripF, if_neg hdv]
        rw [hs]
        simp only [if_true]
        rw [ih (d + 1) n (by omega) hn (by rw [show f + (d + 1) = f + 1 + d by omega]; exact hf)]
        constructor
        · rintro ⟨a, b⟩
          refine ⟨a, fun k hk hkk => ?_⟩
          by_cases e : k = d
          · subst e; exact hdv
          · exact b k (by omega) hkk
        · rintro ⟨a, b⟩
          exact ⟨a, fun k hk hkk => b k (by omega) hkk⟩
    · rw [if_neg h]
      by_cases h1 : 1 < n
      · rw [if_pos h1]
        simp only [prB, true_iff]
        refine ⟨h1, fun k hk hkk _ => ?_⟩
        have := Nat.mul_le_mul hk hk
        omega
      · rw [if_neg h1]
        simp only [prB, Bool.false_eq_true, false_iff]
        exact fun h => h1 h.1
theorem facL_prime (n : Nat) (h1 : 1 ≤ n) (h2 : n ≤ 16777216) : prB (facL n) = true ↔ NoDiv 2 n := facF_prime 4997 2 n (by omega) h1 (by omega)
/-- Is it a prime? -/
def isPr (n : Int) : Bool := decide (1 ≤ n ∧ n ≤ 16777216) && prB (facL n.toNat)
theorem isPr_nat (n : Nat) (h1 : 1 ≤ n) (h2 : n ≤ 16777216) : isPr (n : Int) = prB (facL n) := by
  unfold isPr
  rw [show decide (1 ≤ (n : Int) ∧ (n : Int) ≤ 16777216) = true by simp; omega, Bool.true_and, Int.toNat_natCast]
theorem isPr_iff (n : Nat) (h1 : 1 ≤ n) (h2 : n ≤ 16777216) : isPr (n : Int) = true ↔ NoDiv 2 n := by rw [isPr_nat n h1 h2, facL_prime n h1 h2]

/-- Pairs as cells. -/
def cellsP (ps : List (Nat × Nat)) : List Value := ps.flatMap fun p => [.int .i64 p.1, .int .i64 p.2]
theorem cellsP_len (ps : List (Nat × Nat)) : (cellsP ps).length = ps.length * 2 := by
  induction ps with
  | nil => rfl
  | cons p r ih => simp only [cellsP, List.flatMap_cons, List.length_append, List.length_cons, List.length_nil] at *; omega
theorem cellsP_snoc (ps : List (Nat × Nat)) (p : Nat × Nat) : cellsP (ps ++ [p]) = cellsP ps ++ [.int .i64 p.1, .int .i64 p.2] := by simp [cellsP]
theorem cellsP_at (ps : List (Nat × Nat)) : ∀ i, i < ps.length → (cellsP ps)[i * 2]? = some (.int .i64 (ps.getD i (0, 0)).1) ∧ (cellsP ps)[i * 2 + 1]? = some (.int .i64 (ps.getD i (0, 0)).2) := by
  induction ps with
  | nil => intro i h; simp at h
  | cons p r ih =>
    intro i h
    cases i with
    | zero => exact ⟨rfl, rfl⟩
    | succ i =>
      have := ih i (by simpa using h)
      have e : cellsP (p :: r) = .int .i64 p.1 :: .int .i64 p.2 :: cellsP r := by simp [cellsP]
      rw [e, show (i + 1) * 2 = i * 2 + 1 + 1 by omega]
      simpa using this
end Go.Proofs.Ytncikklhchimdaa
