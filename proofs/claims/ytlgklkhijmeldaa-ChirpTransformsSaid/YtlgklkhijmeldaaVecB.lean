/- Rows backwards and turned: the contracts, and the law VecTurns. -/
import Derived.Test.YtlgklkhijmeldaaVec
namespace Go.Proofs.Ytlgklkhijmeldaa
open Go.RowKit
set_option linter.unusedVariables false
set_option linter.unusedSimpArgs false
set_option maxRecDepth 100000

def revL (xs : List Int) : List Int := (List.range xs.length).map fun i => nth xs (revAt xs.length i) % 18446744069414584321

/-- Place i of a row of n, turned by k. -/
def turnAt (n : Nat) (k : Int) (i : Nat) : Nat := (((i : Int) + k) % n).toNat
def turnL (xs : List Int) (k : Int) : List Int := (List.range xs.length).map fun i => nth xs (turnAt xs.length k i) % 18446744069414584321

theorem revL_len (xs : List Int) : (revL xs).length = xs.length := by simp [revL]
theorem turnL_len (xs : List Int) (k : Int) : (turnL xs k).length = xs.length := by simp [turnL]
theorem revL_fits (xs : List Int) : ∀ x ∈ revL xs, fits .u64 x := by
  intro x hx; obtain ⟨i, _, rfl⟩ := List.mem_map.1 hx; exact fits_u64.2 (by omega)
theorem turnL_fits (xs : List Int) (k : Int) : ∀ x ∈ turnL xs k, fits .u64 x := by
  intro x hx; obtain ⟨i, _, rfl⟩ := List.mem_map.1 hx; exact fits_u64.2 (by omega)
theorem mapmod_fits (xs : List Int) : ∀ x ∈ xs.map (· % 18446744069414584321), fits .u64 x := by
  intro x hx; obtain ⟨i, _, rfl⟩ := List.mem_map.1 hx; exact fits_u64.2 (by omega)

theorem turnAt_lt {n : Nat} (k : Int) (i : Nat) (h : 0 < n) : turnAt n k i < n := by
  unfold turnAt
  have h1 := Int.emod_nonneg ((i : Int) + k) (show (n : Int) ≠ 0 by omega)
  have h2 := Int.emod_lt_of_pos ((i : Int) + k) (show (0 : Int) < n by omega)
  omega

theorem revL_revL (xs : List Int) : revL (revL xs) = xs.map (· % 18446744069414584321) := by
  apply ext_nth (by simp [revL])
  intro i hi
  have hi' : i < xs.length := by simpa [revL] using hi
  have h1 : i < (revL xs).length := by rw [revL_len]; exact hi'
  rw [nth_map (· % 18446744069414584321) xs i hi']
  show nth ((List.range (revL xs).length).map _) i = _
  rw [nth_ofFn _ _ _ h1, revL_len]
  show nth ((List.range xs.length).map _) _ % _ = _
  rw [nth_ofFn _ _ _ (revAt_lt hi'), Int.emod_emod]
  congr 2
  unfold revAt
  by_cases h0 : i = 0
  · subst h0; simp
  · rw [Nat.mod_eq_of_lt (show xs.length - i < xs.length by omega), show xs.length - (xs.length - i) = i by omega, Nat.mod_eq_of_lt hi']

theorem turnL_turnL (xs : List Int) (k m : Int) : turnL (turnL xs k) m = turnL xs (k + m) := by
  apply ext_nth (by simp [turnL])
  intro i hi
  have hi' : i < xs.length := by simpa [turnL] using hi
  have h1 : i < (turnL xs k).length := by rw [turnL_len]; exact hi'
  show nth ((List.range (turnL xs k).length).map _) i = nth ((List.range xs.length).map _) i
  rw [nth_ofFn _ _ _ h1, nth_ofFn _ _ _ hi', turnL_len]
  show nth ((List.range xs.length).map _) _ % _ = _
  rw [nth_ofFn _ _ _ (turnAt_lt m i (by omega)), Int.emod_emod]
  congr 2
  unfold turnAt
  have h2 := Int.emod_nonneg ((i : Int) + m) (show (xs.length : Int) ≠ 0 by omega)
  rw [Int.toNat_of_nonneg h2, Int.emod_add_emod, show (i : Int) + m + k = i + (k + m) by omega]

theorem revL_head (xs : List Int) (h : 0 < xs.length) : nth xs (revAt xs.length 0) = nth xs 0 := by
  congr 1; unfold revAt; simp

theorem turn_int {n : Nat} (k : Int) (i : Nat) (h : 0 < n) (hk : -(n : Int) < k.tmod n ∧ k.tmod n < n) : ((i : Int) + k.tmod n + n).tmod n = (turnAt n k i : Nat) := by
  have h1 := Int.emod_nonneg ((i : Int) + k) (show (n : Int) ≠ 0 by omega)
  unfold turnAt
  rw [Int.toNat_of_nonneg h1, Int.tmod_eq_emod_of_nonneg (by omega), Int.add_emod_right]
  rw [Int.add_emod, Int.add_emod (i : Int) k]
  congr 2
  rw [Int.tmod_def, Int.sub_eq_add_neg, ← Int.mul_neg, Int.add_mul_emod_self_left]

theorem tmod_range {n : Nat} (k : Int) (h : 0 < n) : -(n : Int) < k.tmod n ∧ k.tmod n < n := by
  have h1 := Int.tmod_lt_of_pos k (show (0 : Int) < n by omega)
  have h2 := Int.tmod_lt_of_pos (-k) (show (0 : Int) < n by omega)
  rw [Int.neg_tmod] at h2
  omega

theorem turnL_split (xs : List Int) (k : Int) (m : Nat) (hn : 0 < xs.length) (hm : m < xs.length) (hk : k % xs.length = m) :
    turnL xs k = (xs.drop m).map (· % 18446744069414584321) ++ (xs.take m).map (· % 18446744069414584321) := by
  have hl : ((xs.drop m).map (· % 18446744069414584321)).length = xs.length - m := by simp
  apply ext_nth (by simp [turnL]; omega)
  intro i hi
  have hi' : i < xs.length := by simpa [turnL] using hi
  show nth ((List.range xs.length).map _) i = _
  rw [nth_ofFn _ _ _ hi']
  have e1 : turnAt xs.length k i = (i + m) % xs.length := by
    unfold turnAt
    rw [← Int.add_emod_emod, hk, ← Int.natCast_add, ← Int.natCast_emod, Int.toNat_natCast]
  rw [e1]
  by_cases h1 : i < xs.length - m
  · rw [nth_append_left (by rw [hl]; exact h1), nth_map _ _ _ (by simp; omega), nth_drop, Nat.mod_eq_of_lt (by omega), Nat.add_comm]
  · rw [nth_append_right (by rw [hl]; omega), hl, nth_map _ _ _ (by simp; omega), nth_take (by omega)]
    congr 2
    have : i + m = xs.length + (i - (xs.length - m)) := by omega
    rw [this, Nat.add_mod_left, Nat.mod_eq_of_lt (by omega)]

theorem vref_RedN (a : Option Addr) (n cap : Nat) (xs : List Int) (w : World) (hx : Row .u64 w a xs) (hn : xs.length = n) (hl : xs.length ≤ 16777216) :
    Calls Try.prog 15 #[.slice a n cap] w (GivesRow .u64 (xs.map (· % 18446744069414584321)) w) := by
  subst hn; exact vref_Red a cap xs w hx hl

theorem ref_SameN (a b : Option Addr) (n m ca cb : Nat) (xs ys : List Int) (w : World) (hx : Row .u64 w a xs) (hy : Row .u64 w b ys) (hn : xs.length = n) (hm : ys.length = m) :
    Calls Try.prog 17 #[.slice a n ca, .slice b m cb] w fun e w' => e = .returned (.bool (decide (xs = ys))) ∧ Below w.heap.size w w' := by
  subst hn hm; exact ref_Same a b ca cb xs ys w hx hy

/-- Two rows that are the same. -/
theorem ref_SameT (a b : Option Addr) (n m ca cb : Nat) (xs ys : List Int) (w : World) (hx : Row .u64 w a xs) (hy : Row .u64 w b ys) (hn : xs.length = n) (hm : ys.length = m) (h : xs = ys) :
    Calls Try.prog 17 #[.slice a n ca, .slice b m cb] w fun e w' => e = .returned (.bool true) ∧ Below w.heap.size w w' :=
  (ref_SameN a b n m ca cb xs ys w hx hy hn hm).mono fun e w' ⟨he, hb⟩ => ⟨by rw [he]; simp [h], hb⟩

theorem fits3 (a b c : Int) (ha : 0 ≤ a ∧ a < 100) (hb : 0 ≤ b ∧ b < 100) (hc : 0 ≤ c ∧ c < 100) : ∀ x ∈ [a, b, c], fits .u64 x := by
  intro x hx; simp at hx; rcases hx with rfl | rfl | rfl <;> exact fits_u64.2 (by omega)

end Go.Proofs.Ytlgklkhijmeldaa
