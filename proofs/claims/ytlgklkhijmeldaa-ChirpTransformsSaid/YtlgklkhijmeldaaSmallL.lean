/- Plain laws: transforms of a few numbers; numbers times powers. -/
import Derived.Test.YtlgklkhijmeldaaVecC
import Derived.Test.YtlgklkhijmeldaaDftL
import Derived.Test.YtlgklkhijmeldaaRootW
import Derived.Test.YtlgklkhijmeldaaStockL
namespace Go.Proofs.Ytlgklkhijmeldaa
open Sm
set_option linter.unusedVariables false
set_option linter.unusedSimpArgs false
set_option maxRecDepth 100000

theorem eqm_of (a b q : Int) (h : a = b + 18446744069414584321 * q) : Eqm a b := by
  unfold Eqm; rw [h, Int.add_mul_emod_self_left]
theorem eqm_wit {a b : Int} (h : Eqm a b) : ∃ m, a = b + 18446744069414584321 * m := by
  unfold Eqm at h
  exact ⟨a / 18446744069414584321 - b / 18446744069414584321, by omega⟩

theorem dft_of (xs ys : List Int) (z u : Int) (hr : IsRoot z u xs.length) (hl : ys.length = xs.length)
    (h : ∀ k, k < xs.length → 0 ≤ nth ys k ∧ nth ys k < 18446744069414584321 ∧ Eqm (nth ys k) (S xs.length (fun i => nth xs i * z ^ (i * k % xs.length)))) : ys = dftL xs z := by
  apply ext_nth (by rw [dftL_len, hl])
  intro k hk
  rw [hl] at hk
  rw [nth_dftL _ _ _ hk]
  obtain ⟨h1, h2, h3⟩ := h k hk
  have h4 : Eqm (S xs.length (fun i => nth xs i * z ^ (i * k % xs.length))) (T xs.length z (nth xs) k) := S_eqm fun i _ => (rfl' _).mul (hr.pow_mod (i * k))
  have b := pt_range xs (pw z k)
  exact eq_of_eqm ((h3.trans h4).trans (pt_T xs z k).symm) h1 h2 b.1 b.2

theorem ipow1 (z : Int) : z ^ 1 = z := by rw [Int.pow_succ, Int.pow_zero, Int.one_mul]
theorem two_eq (a b z u v0 v1 : Int) (hr : IsRoot z u 2) (r0 : 0 ≤ v0 ∧ v0 < 18446744069414584321) (r1 : 0 ≤ v1 ∧ v1 < 18446744069414584321) (e0 : Eqm v0 (a + b)) (e1 : Eqm v1 (a + b * z)) : [v0, v1] = dftL [a, b] z := by
  refine dft_of [a, b] [v0, v1] z u hr rfl fun k hk => ?_
  have : k = 0 ∨ k = 1 := by simp at hk; omega
  rcases this with rfl | rfl
  · exact ⟨r0.1, r0.2, by simpa [S, nth, ipow1] using e0⟩
  · exact ⟨r1.1, r1.2, by simpa [S, nth, ipow1] using e1⟩
theorem three_eq (a b c z u v0 v1 v2 : Int) (hr : IsRoot z u 3) (r0 : 0 ≤ v0 ∧ v0 < 18446744069414584321) (r1 : 0 ≤ v1 ∧ v1 < 18446744069414584321) (r2 : 0 ≤ v2 ∧ v2 < 18446744069414584321)
    (e0 : Eqm v0 (a + b + c)) (e1 : Eqm v1 (a + b * z + c * z ^ 2)) (e2 : Eqm v2 (a + b * z ^ 2 + c * z)) : [v0, v1, v2] = dftL [a, b, c] z := by
  refine dft_of [a, b, c] [v0, v1, v2] z u hr rfl fun k hk => ?_
  have : k = 0 ∨ k = 1 ∨ k = 2 := by simp at hk; omega
  rcases this with rfl | rfl | rfl
  · exact ⟨r0.1, r0.2, by simpa [S, nth, ipow1] using e0⟩
  · exact ⟨r1.1, r1.2, by simpa [S, nth, ipow1] using e1⟩
  · exact ⟨r2.1, r2.2, by simpa [S, nth, ipow1] using e2⟩
theorem four_eq (a b c d z u v0 v1 v2 v3 : Int) (hr : IsRoot z u 4) (r0 : 0 ≤ v0 ∧ v0 < 18446744069414584321) (r1 : 0 ≤ v1 ∧ v1 < 18446744069414584321) (r2 : 0 ≤ v2 ∧ v2 < 18446744069414584321) (r3 : 0 ≤ v3 ∧ v3 < 18446744069414584321)
    (e0 : Eqm v0 (a + b + c + d)) (e1 : Eqm v1 (a + b * z + c * z ^ 2 + d * z ^ 3)) (e2 : Eqm v2 (a + b * z ^ 2 + c + d * z ^ 2)) (e3 : Eqm v3 (a + b * z ^ 3 + c * z ^ 2 + d * z)) : [v0, v1, v2, v3] = dftL [a, b, c, d] z := by
  refine dft_of [a, b, c, d] [v0, v1, v2, v3] z u hr rfl fun k hk => ?_
  have : k = 0 ∨ k = 1 ∨ k = 2 ∨ k = 3 := by simp at hk; omega
  rcases this with rfl | rfl | rfl | rfl
  · exact ⟨r0.1, r0.2, by simpa [S, nth, ipow1] using e0⟩
  · exact ⟨r1.1, r1.2, by simpa [S, nth, ipow1] using e1⟩
  · exact ⟨r2.1, r2.2, by simpa [S, nth, ipow1] using e2⟩
  · exact ⟨r3.1, r3.2, by simpa [S, nth, ipow1] using e3⟩
theorem five_eq (a b c d e z u v0 v1 v2 v3 v4 : Int) (hr : IsRoot z u 5) (r0 : 0 ≤ v0 ∧ v0 < 18446744069414584321) (r1 : 0 ≤ v1 ∧ v1 < 18446744069414584321) (r2 : 0 ≤ v2 ∧ v2 < 18446744069414584321) (r3 : 0 ≤ v3 ∧ v3 < 18446744069414584321) (r4 : 0 ≤ v4 ∧ v4 < 18446744069414584321)
    (e0 : Eqm v0 (a + b + c + d + e)) (e1 : Eqm v1 (a + b * z + c * z ^ 2 + d * z ^ 3 + e * z ^ 4)) (e2 : Eqm v2 (a + b * z ^ 2 + c * z ^ 4 + d * z + e * z ^ 3))
    (e3 : Eqm v3 (a + b * z ^ 3 + c * z + d * z ^ 4 + e * z ^ 2)) (e4 : Eqm v4 (a + b * z ^ 4 + c * z ^ 3 + d * z ^ 2 + e * z)) : [v0, v1, v2, v3, v4] = dftL [a, b, c, d, e] z := by
  refine dft_of [a, b, c, d, e] [v0, v1, v2, v3, v4] z u hr rfl fun k hk => ?_
  have : k = 0 ∨ k = 1 ∨ k = 2 ∨ k = 3 ∨ k = 4 := by simp at hk; omega
  rcases this with rfl | rfl | rfl | rfl | rfl
  · exact ⟨r0.1, r0.2, by simpa [S, nth, ipow1] using e0⟩
  · exact ⟨r1.1, r1.2, by simpa [S, nth, ipow1] using e1⟩
  · exact ⟨r2.1, r2.2, by simpa [S, nth, ipow1] using e2⟩
  · exact ⟨r3.1, r3.2, by simpa [S, nth, ipow1] using e3⟩
  · exact ⟨r4.1, r4.2, by simpa [S, nth, ipow1] using e4⟩
theorem one_eq (xs : List Int) (z u : Int) (hr : IsRoot z u xs.length) (hl : xs.length = 1) : xs.map (· % 18446744069414584321) = dftL xs z := by
  refine dft_of xs _ z u hr (by simp) fun k hk => ?_
  rw [nth_map (· % 18446744069414584321) xs k hk]
  refine ⟨by omega, by omega, ?_⟩
  have : k = 0 := by omega
  subst this
  rw [hl]
  simp only [S, Nat.zero_mul, Nat.zero_mod, Int.pow_zero, Int.mul_one, Int.zero_add]
  exact Eqm.mod _

/-! The program's formulas (H: the half). -/
def hf : Int := 9223372034707292161
theorem hf2 : 2 * hf = 18446744069414584321 + 1 := rfl

/-! ### Numbers times powers -/
def twL (xs : List Int) (z : Int) : List Int := (List.range xs.length).map fun i => nth xs i * pw z i % 18446744069414584321
theorem twL_len (xs : List Int) (z : Int) : (twL xs z).length = xs.length := by simp [twL]
theorem nth_twL (xs : List Int) (z : Int) (i : Nat) (h : i < xs.length) : nth (twL xs z) i = nth xs i * pw z i % 18446744069414584321 := nth_ofFn _ _ _ h
theorem twL_fits (xs : List Int) (z : Int) : ∀ x ∈ twL xs z, fits .u64 x := modL_fits _
theorem twL_twL (xs : List Int) (z y : Int) : twL (twL xs z) y = twL xs ((z % 18446744069414584321) * (y % 18446744069414584321) % 18446744069414584321) := by
  apply ext_nth (by rw [twL_len, twL_len, twL_len])
  intro i hi
  rw [twL_len, twL_len] at hi
  rw [nth_twL _ _ _ (by rw [twL_len]; exact hi), nth_twL _ _ _ hi, nth_twL _ _ _ hi]
  have h1 : Eqm (nth xs i * pw z i % 18446744069414584321 * pw y i) (nth xs i * (z ^ i * y ^ i)) := by
    rw [← Int.mul_assoc]
    exact ((Eqm.mod _).trans ((rfl' _).mul (pw_eqm z i))).mul (pw_eqm y i)
  have h2 : Eqm (nth xs i * pw ((z % 18446744069414584321) * (y % 18446744069414584321) % 18446744069414584321) i) (nth xs i * (z ^ i * y ^ i)) := by
    rw [← pow_mul']
    refine (rfl' _).mul ((pw_eqm _ i).trans (Eqm.pow ?_ i))
    exact (Eqm.mod _).trans ((Eqm.mod _).mul (Eqm.mod _))
  exact h1.trans h2.symm
end Go.Proofs.Ytlgklkhijmeldaa
