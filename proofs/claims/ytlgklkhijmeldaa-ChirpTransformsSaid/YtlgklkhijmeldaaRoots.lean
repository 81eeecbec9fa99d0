/- Plain laws: the roots of unity that the program takes. No program in sight. -/
import Derived.Test.YtlgklkhijmeldaaSums
import Derived.Test.YtlgklkhijmeldaaGoldLaws
namespace Go.Proofs.Ytlgklkhijmeldaa
open Sm

theorem root_one (n q : Nat) (hq : q * n = Fld.pn - 1) : (7 ^ q) ^ n % Fld.pn = 1 := by
  rw [← Nat.pow_mul, hq]; exact Fld.fermat 7 (by decide)
theorem root_least (n q m : Nat) (hq : q * n = Fld.pn - 1) (h0 : 0 < m) (hm : m < n) : (7 ^ q) ^ m % Fld.pn ≠ 1 := by
  intro h
  rw [← Nat.pow_mul] at h
  have h1 := Fld.seven (q * m) h
  have hq0 : 0 < q := Nat.pos_of_ne_zero (fun e => by subst e; rw [Nat.zero_mul] at hq; exact absurd hq (by decide))
  have h2 : 0 < q * m := Nat.mul_pos hq0 h0
  have h3 := Nat.le_of_dvd h2 h1
  have h4 : q * m < q * n := Nat.mul_lt_mul_of_pos_left hm hq0
  omega

/-- Is n a size? -/
def hasSz (n : Int) : Bool := decide (1 ≤ n ∧ n ≤ 16777216 ∧ 18446744069414584320 % n = 0)
theorem hasSz_iff {n : Int} : hasSz n = true ↔ 1 ≤ n ∧ n ≤ 16777216 ∧ 18446744069414584320 % n = 0 := by simp [hasSz]

/-- The root of the size n; its inverse. -/
def rtExp (n : Nat) : Nat := 18446744069414584320 / n
def rt (n : Nat) : Int := pw 7 (rtExp n)
def bk (n : Nat) : Int := pw (rt n) 18446744069414584319
def dirRt (n : Nat) (d : Int) : Int := if d = 1 then bk n else rt n
def dirBk (n : Nat) (d : Int) : Int := if d = 1 then rt n else bk n

theorem rtExp_mul (n : Nat) (h : hasSz n = true) : rtExp n * n = Fld.pn - 1 := by
  obtain ⟨h1, _, h3⟩ := hasSz_iff.1 h
  have h4 : 18446744069414584320 % n = 0 := by
    have h5 : ((18446744069414584320 % n : Nat) : Int) = 0 := by rw [Int.natCast_emod]; exact h3
    omega
  exact Nat.div_mul_cancel (Nat.dvd_of_mod_eq_zero h4)

theorem pw_eqm (a : Int) (n : Nat) : Eqm (pw a n) (a ^ n) := by
  unfold pw; exact Eqm.mod _

theorem cast_pow_mod (a e p : Nat) (q : Int) (hq : (p : Int) = q) : ((a ^ e % p : Nat) : Int) = (a : Int) ^ e % q := by
  rw [Int.natCast_emod, Int.natCast_pow, hq]

theorem eqm_pow_one (q n : Nat) : Eqm (((7 : Int) ^ q) ^ n) 1 ↔ (7 ^ q) ^ n % Fld.pn = 1 := by
  have h : ((((7 ^ q) ^ n % Fld.pn : Nat)) : Int) = (((7 ^ q : Nat) : Int)) ^ n % 18446744069414584321 := cast_pow_mod _ _ Fld.pn _ rfl
  rw [Int.natCast_pow] at h
  unfold Eqm
  have h7 : ((7 : Nat) : Int) = 7 := rfl
  rw [h7] at h
  rw [← h, show (1 : Int) % 18446744069414584321 = 1 from rfl]
  omega

theorem rt_pow (n m : Nat) : Eqm (rt n ^ m) (((7 : Int) ^ rtExp n) ^ m) := (pw_eqm 7 _).pow m

theorem rt_range (n : Nat) : 0 ≤ rt n ∧ rt n < 18446744069414584321 := pw_range _ _
theorem bk_range (n : Nat) : 0 ≤ bk n ∧ bk n < 18446744069414584321 := pw_range _ _
theorem dirRt_range (n : Nat) (d : Int) : 0 ≤ dirRt n d ∧ dirRt n d < 18446744069414584321 := by
  unfold dirRt; split
  · exact bk_range n
  · exact rt_range n

theorem isRoot_rt (n : Nat) (h : hasSz n = true) : IsRoot (rt n) (bk n) n := by
  have hm := rtExp_mul n h
  have hn := (hasSz_iff.1 h).1
  have h1 : Eqm (rt n ^ n) 1 := (rt_pow n n).trans ((eqm_pow_one _ _).2 (root_one n _ hm))
  refine ⟨by omega, h1, fun m h0 hlt e => root_least n _ m hm h0 hlt ((eqm_pow_one _ _).1 ((rt_pow n m).symm.trans e)), ?_⟩
  have hz : rt n % 18446744069414584321 ≠ 0 := by
    intro e
    have e0 : Eqm (rt n) 0 := by unfold Eqm; rw [e]; rfl
    obtain ⟨k, hk⟩ : ∃ k, n = k + 1 := ⟨n - 1, by omega⟩
    have h2 := (rfl' (rt n ^ k)).mul e0
    rw [← Int.pow_succ, Nat.succ_eq_add_one, ← hk, Int.mul_zero] at h2
    have h3 := h1.symm.trans h2
    exact absurd h3 (by unfold Eqm; decide)
  have := pw_inv (rt n) (rt_range n).1 hz
  unfold Eqm bk
  rw [this]; rfl

theorem isRoot_dir (n : Nat) (d : Int) (h : hasSz n = true) : IsRoot (dirRt n d) (dirBk n d) n := by
  unfold dirRt dirBk
  split
  · exact (isRoot_rt n h).back
  · exact isRoot_rt n h

/-- The last power of a root is its inverse. -/
theorem bk_last (n : Nat) (h : hasSz n = true) : bk n = pw (rt n) (n - 1) := by
  have hr := isRoot_rt n h
  have hn := (hasSz_iff.1 h).1
  obtain ⟨k, hk⟩ : ∃ k, n = k + 1 := ⟨n - 1, by omega⟩
  have h1 : Eqm (bk n) (rt n ^ k) := by
    have h2 := (rfl' (rt n ^ k)).mul hr.inv
    rw [← Int.mul_assoc, ← Int.pow_succ, Nat.succ_eq_add_one, ← hk, Int.mul_one] at h2
    have h3 := hr.one.mul (rfl' (bk n))
    rw [Int.one_mul] at h3
    exact h3.symm.trans h2
  have h4 := h1.trans (pw_eqm (rt n) k).symm
  have b1 := bk_range n
  have b2 := pw_range (rt n) k
  unfold Eqm at h4
  rw [Int.emod_eq_of_lt b1.1 b1.2, Int.emod_eq_of_lt b2.1 b2.2] at h4
  rw [show n - 1 = k by omega]; exact h4
#print axioms bk_last
end Go.Proofs.Ytlgklkhijmeldaa
