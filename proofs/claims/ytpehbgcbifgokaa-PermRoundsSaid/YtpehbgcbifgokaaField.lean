/- Plain laws: 7 has order P - 1 modulo P = 2^64 - 2^32 + 1, so each number that P does not divide is a power of 7, and its (P-1)st power leaves 1. No program in sight. -/
import Derived.PlainAid
namespace Go.Proofs.Ytpehbgcbifgokaa.Fld

/-- The prime. -/
def pn : Nat := 18446744069414584321

theorem pn_pos : 0 < pn := by decide

theorem pow_add_mod (a m n p : Nat) : a ^ (m + n) % p = (a ^ m % p) * (a ^ n % p) % p := by
  rw [Nat.pow_add, Nat.mul_mod]

theorem pow_mul_one (a b q p : Nat) (hp : 1 < p) (h : a ^ b % p = 1) : a ^ (b * q) % p = 1 := by
  rw [Nat.pow_mul, Nat.pow_mod, h]
  simp [Nat.mod_eq_of_lt hp]

theorem pow_mod_one (a m b p : Nat) (hp : 1 < p) (hb : a ^ b % p = 1) : a ^ (m % b) % p = a ^ m % p := by
  have e : m = b * (m / b) + m % b := (Nat.div_add_mod m b).symm
  have h : a ^ m % p = (a ^ (b * (m / b)) % p) * (a ^ (m % b) % p) % p := by
    rw [← pow_add_mod, ← e]
  rw [h, pow_mul_one a b _ p hp hb, Nat.one_mul, Nat.mod_mod]

theorem pow_gcd_one (a p : Nat) (hp : 1 < p) (m n : Nat) : a ^ m % p = 1 → a ^ n % p = 1 → a ^ (Nat.gcd m n) % p = 1 := by
  induction m, n using Nat.gcd.induction with
  | H0 n => intro _ h; simpa using h
  | H1 m n hm ih =>
    intro h1 h2
    rw [Nat.gcd_rec]
    exact ih (by rw [pow_mod_one a n m p hp h1]; exact h2) h1

/-- A power modulo p, by squares. -/
def pm (p : Nat) : Nat → Nat → Nat → Nat
  | 0, _, _ => 1 % p
  | f + 1, a, n => if n % 2 = 1 then (a * pm p f (a * a % p) (n / 2)) % p else pm p f (a * a % p) (n / 2)

theorem pm_eq (p : Nat) (f : Nat) : ∀ a n, n < 2 ^ f → pm p f a n = a ^ n % p := by
  induction f with
  | zero => intro a n h; have : n = 0 := by simpa using h
            subst this; simp [pm]
  | succ f ih =>
    intro a n h
    have h2 : n / 2 < 2 ^ f := by rw [Nat.pow_succ] at h; omega
    have e : (a * a % p) ^ (n / 2) % p = a ^ (2 * (n / 2)) % p := by
      rw [← Nat.pow_mod, Nat.pow_mul, Nat.pow_two]
    simp only [pm, ih _ _ h2, e]
    split
    · rename_i h1
      have e2 : n = 2 * (n / 2) + 1 := by omega
      rw [Nat.mul_mod_mod, ← Nat.pow_succ', Nat.succ_eq_add_one, ← e2]
    · rename_i h1
      have e2 : n = 2 * (n / 2) := by omega
      rw [← e2]

theorem dvd_small (q : Nat) (hq : q = 2 ∨ q = 3 ∨ q = 5 ∨ q = 17 ∨ q = 257 ∨ q = 65537) (m : Nat) : q ∣ m ∨ Nat.gcd m q = 1 := by
  have hd : Nat.gcd m q ∣ q := Nat.gcd_dvd_right m q
  have key : ∀ d, d ∣ q → d = 1 ∨ d = q := by
    intro d ⟨e, he⟩
    have hall : ∀ q ∈ [2, 3, 5, 17, 257, 65537], ∀ d ∈ List.range 257, d ≤ 1 ∨ d = q ∨ q % d ≠ 0 := by decide +kernel
    have hq' : q ∈ [2, 3, 5, 17, 257, 65537] := by simp; exact hq
    have hpos : 0 < q := by rcases hq with h | h | h | h | h | h <;> omega
    have d0 : d ≠ 0 := by rintro rfl; simp at he; omega
    have e0 : e ≠ 0 := by rintro rfl; simp at he; omega
    by_cases hd : d ≤ 256
    · rcases hall q hq' d (by simp; omega) with h | h | h
      · left; omega
      · right; exact h
      · exfalso; apply h; rw [he]; simp
    · by_cases he' : e ≤ 256
      · rcases hall q hq' e (by simp; omega) with h | h | h
        · have : e = 1 := by omega
          subst this; right; omega
        · have h3 : q * d = q * 1 := by rw [Nat.mul_comm q d, ← h, ← he]; omega
          have := Nat.eq_of_mul_eq_mul_left hpos h3
          left; exact this
        · exfalso; apply h; rw [he]; simp
      · exfalso
        have : 257 * 257 ≤ d * e := Nat.mul_le_mul (by omega) (by omega)
        rcases hq with h | h | h | h | h | h <;> omega
  rcases key _ hd with h | h
  · exact Or.inr h
  · exact Or.inl (h ▸ Nat.gcd_dvd_left m q)

theorem split_off (m a b : Nat) (h : m ∣ a * b) (hc : Nat.gcd m a = 1) : m ∣ b :=
  Nat.Coprime.dvd_of_dvd_mul_left (k := m) (m := a) (n := b) hc h

theorem gcd_pow_one (m a n : Nat) (h : Nat.gcd m a = 1) : Nat.gcd m (a ^ n) = 1 :=
  Nat.Coprime.pow_right n h

theorem seven (k : Nat) (h : 7 ^ k % pn = 1) : pn - 1 ∣ k := by
  have hp : 1 < pn := by decide
  have h1 : 7 ^ (pn - 1) % pn = 1 := by rw [← pm_eq pn 64 7 _ (by decide)]; decide +kernel
  have hg := pow_gcd_one 7 pn hp k (pn - 1) h h1
  obtain ⟨m, hm⟩ := Nat.gcd_dvd_right k (pn - 1)
  have hmd : m ∣ pn - 1 := ⟨Nat.gcd k (pn - 1), by rw [Nat.mul_comm]; exact hm⟩
  have no : ∀ q, (q = 2 ∨ q = 3 ∨ q = 5 ∨ q = 17 ∨ q = 257 ∨ q = 65537) → Nat.gcd m q = 1 := by
    intro q hq
    rcases dvd_small q hq m with ⟨c, hc⟩ | h'
    · exfalso
      have hq0 : 0 < q := by omega
      have e1 : (pn - 1) / q = Nat.gcd k (pn - 1) * c := by
        have : pn - 1 = q * (Nat.gcd k (pn - 1) * c) := by rw [← Nat.mul_assoc, Nat.mul_comm q, Nat.mul_assoc, ← hc]; exact hm
        rw [this, Nat.mul_div_cancel_left _ hq0, ← this]
      have e2 : 7 ^ ((pn - 1) / q) % pn = 1 := by rw [e1]; exact pow_mul_one _ _ _ _ hp hg
      rw [← pm_eq pn 64 7 _ (Nat.lt_of_le_of_lt (Nat.div_le_self _ _) (by decide))] at e2
      revert e2
      rcases hq with h | h | h | h | h | h <;> subst h <;> decide +kernel
    · exact h'
  have f : pn - 1 = 2 ^ 32 * (3 * (5 * (17 * (257 * (65537 * 1))))) := by decide +kernel
  rw [f] at hmd
  have m1 := split_off _ _ _ hmd (gcd_pow_one _ _ _ (no 2 (by simp)))
  have m2 := split_off _ _ _ m1 (no 3 (by simp))
  have m3 := split_off _ _ _ m2 (no 5 (by simp))
  have m4 := split_off _ _ _ m3 (no 17 (by simp))
  have m5 := split_off _ _ _ m4 (no 257 (by simp))
  have m6 := split_off _ _ _ m5 (no 65537 (by simp))
  have : m = 1 := Nat.dvd_one.1 m6
  rw [this, Nat.mul_one] at hm
  rw [hm]
  exact Nat.gcd_dvd_left k (pn - 1)

/-- Pigeons: what takes n places to n places, no two to one, meets each. -/
theorem onto (n : Nat) : ∀ f : Nat → Nat, (∀ i, i < n → f i < n) → (∀ i j, i < j → j < n → f i ≠ f j) → ∀ b, b < n → ∃ i, i < n ∧ f i = b := by
  induction n with
  | zero => intro f _ _ b hb; omega
  | succ n ih =>
    intro f hf hi b hb
    by_cases hlast : f n = b
    · exact ⟨n, by omega, hlast⟩
    · -- strike f n out of the places
      let t : Nat := f n
      let g : Nat → Nat := fun i => if f i < t then f i else f i - 1
      have ht : t < n + 1 := hf n (by omega)
      have hg : ∀ i, i < n → g i < n := by
        intro i hi'
        have h1 := hf i (by omega)
        have h2 := hi i n hi' (by omega)
        show (if f i < t then f i else f i - 1) < n
        have h3 : f i ≠ t := h2
        split <;> omega
      have hinj : ∀ i j, i < j → j < n → g i ≠ g j := by
        intro i j hij hj
        have h1 := hi i j hij (by omega)
        have h2 : f i ≠ t := hi i n (by omega) (by omega)
        have h3 : f j ≠ t := hi j n (by omega) (by omega)
        show (if f i < t then f i else f i - 1) ≠ (if f j < t then f j else f j - 1)
        split <;> split <;> omega
      have hbt : b ≠ t := fun e => hlast e.symm
      obtain ⟨i, hi1, hi2⟩ := ih g hg hinj (if b < t then b else b - 1) (by split <;> omega)
      refine ⟨i, by omega, ?_⟩
      have h2 : f i ≠ t := hi i n (by omega) (by omega)
      have h3 : (if f i < t then f i else f i - 1) = (if b < t then b else b - 1) := hi2
      revert h3
      split <;> split <;> omega

theorem seven_pow_ne_zero (k : Nat) : 7 ^ k % pn ≠ 0 := by
  have hp : 1 < pn := by decide
  have h1 : 7 ^ (pn - 1) % pn = 1 := by rw [← pm_eq pn 64 7 _ (by decide)]; decide +kernel
  intro h
  have h2 : 7 ^ ((pn - 1) * k) % pn = 1 := pow_mul_one _ _ _ _ hp h1
  have e : (pn - 1) * k = k + (pn - 2) * k := by
    have : pn - 1 = 1 + (pn - 2) := by decide
    rw [this, Nat.add_mul, Nat.one_mul]
  rw [e, pow_add_mod, h] at h2
  simp at h2

/-- Each number that P does not divide is a power of 7. -/
theorem power (a : Nat) (h : a % pn ≠ 0) : ∃ i, 7 ^ i % pn = a % pn := by
  have hp : 1 < pn := by decide
  have key := onto (pn - 1) (fun i => 7 ^ i % pn - 1) (fun i _ => by
      have := Nat.mod_lt (7 ^ i) pn_pos
      have := seven_pow_ne_zero i
      show 7 ^ i % pn - 1 < pn - 1
      omega) (fun i j hij hj => by
      show 7 ^ i % pn - 1 ≠ 7 ^ j % pn - 1
      have h1 := seven_pow_ne_zero i
      have h2 := seven_pow_ne_zero j
      intro e
      have e' : 7 ^ i % pn = 7 ^ j % pn := by omega
      -- 7 ^ (j - i) leaves 1
      have hone : 7 ^ (pn - 1) % pn = 1 := by rw [← pm_eq pn 64 7 _ (by decide)]; decide +kernel
      have c : 7 ^ (j - i) % pn = 1 := by
        have hA : 7 ^ ((pn - 1) * i - i + j) % pn = 7 ^ ((pn - 1) * i - i + i) % pn := by
          rw [pow_add_mod, ← e', ← pow_add_mod]
        have hle : i ≤ (pn - 1) * i := Nat.le_mul_of_pos_left i (by decide)
        have e1 : (pn - 1) * i - i + i = (pn - 1) * i := by omega
        have e2 : (pn - 1) * i - i + j = (pn - 1) * i + (j - i) := by omega
        rw [e1, e2, pow_add_mod, pow_mul_one _ _ _ _ hp hone, Nat.one_mul, Nat.mod_mod] at hA
        exact hA
      have hd := seven (j - i) c
      have := Nat.le_of_dvd (by omega) hd
      omega) (a % pn - 1) (by have := Nat.mod_lt a pn_pos; omega)
  obtain ⟨i, _, hi⟩ := key
  refine ⟨i, ?_⟩
  have := seven_pow_ne_zero i
  have hi' : 7 ^ i % pn - 1 = a % pn - 1 := hi
  omega

/-- Fermat's theorem at P. -/
theorem fermat (a : Nat) (h : a % pn ≠ 0) : a ^ (pn - 1) % pn = 1 := by
  have hp : 1 < pn := by decide
  have hone : 7 ^ (pn - 1) % pn = 1 := by rw [← pm_eq pn 64 7 _ (by decide)]; decide +kernel
  obtain ⟨i, hi⟩ := power a h
  rw [Nat.pow_mod, ← hi, ← Nat.pow_mod, ← Nat.pow_mul, Nat.mul_comm]
  exact pow_mul_one _ _ _ _ hp hone

#print axioms fermat
end Go.Proofs.Ytpehbgcbifgokaa.Fld
