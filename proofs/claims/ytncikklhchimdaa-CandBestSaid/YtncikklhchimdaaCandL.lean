/- Plain laws: plans that are worth a trial, size by size. No program in sight. -/
import Derived.Test.YtncikklhchimdaaValE
import Derived.Test.YtncikklhchimdaaAbv
namespace Go.Proofs.Ytncikklhchimdaa
open Go.RowKit
set_option linter.unusedVariables false
set_option linter.unusedSimpArgs false
set_option maxRecDepth 100000

/-! ### Plans -/
def stL (n : Nat) : List Nat → List (Nat × Nat)
  | [] => []
  | p :: ps => (if n % p = 0 then [(p, (stripF 25 p n 0).2)] else []) ++ stL n ps
/-- The primes of a size. -/
def facS (n : Nat) : List (Nat × Nat) := stL n [2, 3, 5, 17, 257, 65537]
def lastP (ps : List (Nat × Nat)) : Nat := (ps.getD (ps.length - 1) (0, 0)).1
/-- Without a kid? -/
def noKid (n : Nat) : Bool := decide (2 ≤ n ∧ n ≤ 5) || (decide (n = 1) || (decide (n ≤ 64) && !hasP2 n)) || hasP2 n
def leafK (n : Nat) : Int := if 2 ≤ n ∧ n ≤ 5 then 2 else if n = 1 ∨ (n ≤ 64 ∧ hasP2 n = false) then 1 else 3
def planF : Nat → Nat → Tr
  | 0, n => .node 0 n []
  | f + 1, n =>
    if noKid n then .node (leafK n) n []
    else if prB (facS n) then .node 6 n [planF f (n - 1)]
    else .node 4 n [planF f (lastP (facS n)), planF f (n / lastP (facS n))]
/-- Do so many steps do? -/
def okF : Nat → Nat → Bool
  | 0, _ => false
  | f + 1, n => hasSz n && (
    if noKid n then true
    else if prB (facS n) then okF f (n - 1)
    else decide (1 ≤ (facS n).length) && decide (1 ≤ lastP (facS n)) && okF f (lastP (facS n)) && okF f (n / lastP (facS n)))
def pl (n : Nat) : Tr := planF 10 n
def leavesT (n : Nat) : List Tr := ((if n ≤ 64 then [.node 1 n []] else []) ++ (if 2 ≤ n ∧ n ≤ 5 then [.node 2 n []] else [])) ++ (if 2 ≤ n ∧ hasP2 n = true then [.node 3 n []] else [])
def splitT (n : Nat) (p : Nat × Nat) : List Tr := if p.1 = n then [] else [.node 4 n [pl p.1, pl (n / p.1)]]
def goodT (n : Nat) (p : Nat × Nat) : List Tr := if p.1 ^ p.2 = n then [] else [.node 5 n [pl (p.1 ^ p.2), pl (n / p.1 ^ p.2)]]
def splitsT (n : Nat) (ps : List (Nat × Nat)) : List Tr := ps.flatMap (splitT n)
def goodsT (n : Nat) (ps : List (Nat × Nat)) : List Tr := ps.flatMap (goodT n)
def raderT (n : Nat) : List Tr := if 3 ≤ n ∧ prB (facS n) = true then [.node 6 n [pl (n - 1)]] else []
def blueT (n : Nat) : List Tr := if 2 ≤ n ∧ n ≤ 8388608 then [.node 7 n [pl (abv (2 * n - 1))]] else []
def listT (n : Nat) : List Tr := ((leavesT n ++ (splitsT n (facS n) ++ goodsT n (facS n))) ++ raderT n) ++ blueT n
def differ : List Tr → Bool
  | [] => true
  | t :: ts => ts.all (fun u => decide (Tr.cmp u t ≠ 0)) && differ ts
def kidsB (n : Nat) : Bool :=
  okF 10 n && (facS n).all (fun p => decide (1 ≤ p.1) && decide (p.1 ≤ n) && decide (p.2 ≤ 24) && decide (1 ≤ p.1 ^ p.2) && decide (p.1 ^ p.2 ≤ n) && okF 10 p.1 && okF 10 (n / p.1) && okF 10 (p.1 ^ p.2) && okF 10 (n / p.1 ^ p.2) && decide (Tr.size (pl p.1) ≤ 60)) && decide ((facS n).length ≤ 6) && (!prB (facS n) || decide (n ≤ 2) || okF 10 (n - 1)) &&
  (decide (n < 2) || decide (8388608 < n) || okF 10 (abv (2 * n - 1)))
def listB (n : Nat) : Bool :=
  decide (chk (pl n) = 0) && decide ((pl n).num = n) && (listT n).all (fun t => decide (chk t = 0) && decide (t.num = n)) && decide (1 ≤ (listT n).length) && decide ((listT n).length ≤ 12) && differ (listT n)
def candB (n : Nat) : Bool := kidsB n && listB n && decide (facL n = facS n)
def oddL : List Nat := [1, 3, 5, 15, 17, 51, 85, 255].flatMap fun a => [a, a * 257, a * 65537, a * 257 * 65537]

theorem candAll : (oddL.all fun g => (List.range 25).all fun j => decide (16777216 < 2 ^ j * g) || candB (2 ^ j * g)) = true := by decide +kernel

/-! ### The sizes -/
theorem dvd_two (k : Nat) : ∀ d, d ∣ 2 ^ k → ∃ j, d = 2 ^ j := by
  induction k with
  | zero => intro d h; exact ⟨0, by simpa using h⟩
  | succ k ih =>
    intro d h
    by_cases h2 : d % 2 = 0
    · obtain ⟨e, rfl⟩ := Nat.dvd_of_mod_eq_zero h2
      rw [Nat.pow_succ, Nat.mul_comm (2 ^ k) 2] at h
      obtain ⟨j, rfl⟩ := ih e (Nat.dvd_of_mul_dvd_mul_left (by omega) h)
      exact ⟨j + 1, by rw [Nat.pow_succ]; omega⟩
    · have hc : Nat.Coprime d 2 := by
        unfold Nat.Coprime
        rw [Nat.gcd_comm, Nat.gcd_rec, show d % 2 = 1 by omega]
        rfl
      rw [Nat.pow_succ] at h
      exact ih d (hc.dvd_of_dvd_mul_right h)
theorem dvd_fewer {p s : Nat} (hp : 0 < p) (hs : p < (s + 1) * (s + 1)) (h : ∀ k, k < s + 1 → 2 ≤ k → p % k ≠ 0) (d : Nat) (hd : d ∣ p) : d = 1 ∨ d = p := by
  obtain ⟨e, rfl⟩ := hd
  have hd0 : d ≠ 0 := by rintro rfl; simp at hp
  have he0 : e ≠ 0 := by rintro rfl; simp at hp
  by_cases h1 : d = 1
  · exact .inl h1
  by_cases h2 : e = 1
  · exact .inr (by rw [h2, Nat.mul_one])
  exfalso
  by_cases hk : d < s + 1
  · exact h d hk (by omega) (Nat.mul_mod_right d e)
  · by_cases hk2 : e < s + 1
    · exact h e hk2 (by omega) (Nat.mul_mod_left d e)
    · have := Nat.mul_le_mul (show s + 1 ≤ d by omega) (show s + 1 ≤ e by omega)
      omega
theorem gcd_split {n a b : Nat} (hc : Nat.Coprime a b) (h : n ∣ a * b) : n = Nat.gcd n a * Nat.gcd n b := by
  rw [← hc.gcd_mul, Nat.gcd_eq_left h]
theorem size_form (n : Nat) (h1 : 1 ≤ n) (h2 : n ≤ 16777216) (h : n ∣ 18446744069414584320) : ∃ g ∈ oddL, ∃ j, j < 25 ∧ n = 2 ^ j * g := by
  have e : 18446744069414584320 = 2 ^ 32 * (3 * (5 * (17 * (257 * 65537)))) := by decide
  rw [e] at h
  obtain ⟨j, hj⟩ := dvd_two 32 (Nat.gcd n (2 ^ 32)) (Nat.gcd_dvd_right _ _)
  have s0 := gcd_split (by decide) h
  have f0 : Nat.gcd n (3 * (5 * (17 * (257 * 65537)))) ∣ 3 * (5 * (17 * (257 * 65537))) := Nat.gcd_dvd_right _ _
  rw [hj] at s0
  obtain ⟨m, hm⟩ : ∃ m, Nat.gcd n (3 * (5 * (17 * (257 * 65537)))) = m := ⟨_, rfl⟩
  rw [hm] at s0 f0
  have s1 := gcd_split (by decide) f0
  have f1 : Nat.gcd m (5 * (17 * (257 * 65537))) ∣ 5 * (17 * (257 * 65537)) := Nat.gcd_dvd_right _ _
  have g3 := dvd_fewer (p := 3) (s := 1) (by omega) (by omega) (by decide) _ (Nat.gcd_dvd_right m 3)
  obtain ⟨m1, hm1⟩ : ∃ x, Nat.gcd m (5 * (17 * (257 * 65537))) = x := ⟨_, rfl⟩
  obtain ⟨a3, ha3⟩ : ∃ x, Nat.gcd m 3 = x := ⟨_, rfl⟩
  rw [hm1] at s1 f1; rw [ha3] at s1 g3
  have s2 := gcd_split (by decide) f1
  have f2 : Nat.gcd m1 (17 * (257 * 65537)) ∣ 17 * (257 * 65537) := Nat.gcd_dvd_right _ _
  have g5 := dvd_fewer (p := 5) (s := 2) (by omega) (by omega) (by decide) _ (Nat.gcd_dvd_right m1 5)
  obtain ⟨m2, hm2⟩ : ∃ x, Nat.gcd m1 (17 * (257 * 65537)) = x := ⟨_, rfl⟩
  obtain ⟨a5, ha5⟩ : ∃ x, Nat.gcd m1 5 = x := ⟨_, rfl⟩
  rw [hm2] at s2 f2; rw [ha5] at s2 g5
  have s3 := gcd_split (by decide) f2
  have f3 : Nat.gcd m2 (257 * 65537) ∣ 257 * 65537 := Nat.gcd_dvd_right _ _
  have g17 := dvd_fewer (p := 17) (s := 4) (by omega) (by omega) (by decide) _ (Nat.gcd_dvd_right m2 17)
  obtain ⟨m3, hm3⟩ : ∃ x, Nat.gcd m2 (257 * 65537) = x := ⟨_, rfl⟩
  obtain ⟨a17, ha17⟩ : ∃ x, Nat.gcd m2 17 = x := ⟨_, rfl⟩
  rw [hm3] at s3 f3; rw [ha17] at s3 g17
  have s4 := gcd_split (by decide) f3
  have g257 := dvd_fewer (p := 257) (s := 16) (by omega) (by omega) (by decide) _ (Nat.gcd_dvd_right m3 257)
  have g655 := dvd_fewer (p := 65537) (s := 256) (by omega) (by omega) (by decide +kernel) _ (Nat.gcd_dvd_right m3 65537)
  obtain ⟨a257, ha257⟩ : ∃ x, Nat.gcd m3 257 = x := ⟨_, rfl⟩
  obtain ⟨a655, ha655⟩ : ∃ x, Nat.gcd m3 65537 = x := ⟨_, rfl⟩
  rw [ha257] at s4 g257; rw [ha655] at s4 g655
  have hmo : m ∈ oddL := by
    rw [s1, s2, s3, s4]
    clear s0 s1 s2 s3 s4 f0 f1 f2 f3 hm hm1 hm2 hm3 ha3 ha5 ha17 ha257 ha655 e h hj
    rcases g3 with rfl | rfl <;> rcases g5 with rfl | rfl <;> rcases g17 with rfl | rfl <;> rcases g257 with rfl | rfl <;> rcases g655 with rfl | rfl <;> decide
  refine ⟨m, hmo, j, ?_, s0⟩
  by_cases hj25 : j < 25
  · exact hj25
  · exfalso
    have h25 : 2 ^ 25 ≤ 2 ^ j := Nat.pow_le_pow_right (by omega) (by omega)
    have e2 : (2 : Nat) ^ 25 = 33554432 := by decide
    have hm0 : 1 ≤ m := by
      rcases Nat.eq_zero_or_pos m with h0 | h0
      · rw [h0] at s0; omega
      · exact h0
    have := Nat.mul_le_mul h25 hm0
    omega
theorem cand_sz {n : Nat} (h : hasSz n = true) : candB n = true := by
  obtain ⟨h1, h2, h3⟩ := hasSz_iff.1 h
  have hd : n ∣ 18446744069414584320 := by
    refine Nat.dvd_of_mod_eq_zero ?_
    have : ((18446744069414584320 % n : Nat) : Int) = 0 := by rw [Int.natCast_emod]; exact h3
    omega
  obtain ⟨g, hg, j, hj, hn⟩ := size_form n (by omega) (by omega) hd
  have h4 := List.all_eq_true.1 (List.all_eq_true.1 candAll g hg) j (List.mem_range.2 hj)
  rw [← hn] at h4
  rw [Bool.or_eq_true, decide_eq_true_eq] at h4
  rcases h4 with h4 | h4
  · omega
  · exact h4
theorem fac_sz {n : Nat} (h : hasSz n = true) : facL n = facS n := by
  have := cand_sz h
  unfold candB at this
  simp only [Bool.and_eq_true, decide_eq_true_eq] at this
  exact this.2
theorem kids_sz {n : Nat} (h : hasSz n = true) : kidsB n = true := by
  have := cand_sz h
  unfold candB at this
  simp only [Bool.and_eq_true] at this
  exact this.1.1
theorem list_sz {n : Nat} (h : hasSz n = true) : listB n = true := by
  have := cand_sz h
  unfold candB at this
  simp only [Bool.and_eq_true] at this
  exact this.1.2
end Go.Proofs.Ytncikklhchimdaa
