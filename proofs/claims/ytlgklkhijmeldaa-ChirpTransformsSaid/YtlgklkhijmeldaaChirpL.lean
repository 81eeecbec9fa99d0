/- Plain laws: triangular numbers; the transform by a product around (Bluestein's way). -/
import Derived.Test.YtlgklkhijmeldaaConvL
import Derived.Test.YtlgklkhijmeldaaRootW
import Derived.Test.YtlgklkhijmeldaaSmallL
namespace Go.Proofs.Ytlgklkhijmeldaa
open Sm
set_option linter.unusedVariables false
set_option linter.unusedSimpArgs false
set_option maxRecDepth 100000

def triT (i : Nat) : Nat := i * (i - 1) / 2
theorem triT_succ (k : Nat) : triT (k + 1) = triT k + k := by
  unfold triT
  cases k with
  | zero => rfl
  | succ j =>
    have e : (j + 1 + 1) * (j + 1 + 1 - 1) = (j + 1) * (j + 1 - 1) + 2 * (j + 1) := by
      rw [show j + 1 + 1 - 1 = j + 1 by omega, show j + 1 - 1 = j by omega]; grind
    rw [e]; omega
theorem triT_add (a b : Nat) : triT (a + b) = triT a + triT b + a * b := by
  induction b with
  | zero => rw [Nat.add_zero, Nat.mul_zero]; rfl
  | succ b ih => rw [← Nat.add_assoc, triT_succ, triT_succ, ih, Nat.mul_succ]; omega
def triN (n i : Nat) : Nat := triT i % n
theorem triN_zero (n : Nat) : triN n 0 = 0 := Nat.zero_mod n
theorem triN_succ (n k : Nat) : triN n (k + 1) = (triN n k + k) % n := by
  unfold triN; rw [triT_succ, Nat.mod_add_mod]
theorem triN_lt (n i : Nat) (h : 0 < n) : triN n i < n := Nat.mod_lt _ h

def rowT (z : Int) (n many : Nat) : List Int := (List.range many).map fun j => pw z (triN n j)
theorem rowT_len (z : Int) (n m : Nat) : (rowT z n m).length = m := by simp [rowT]
theorem nth_rowT (z : Int) (n m i : Nat) (h : i < m) : nth (rowT z n m) i = pw z (triN n i) := nth_ofFn _ _ _ h
theorem rowT_fits (z : Int) (n m : Nat) : ∀ x ∈ rowT z n m, fits .u64 x := by
  intro x hx; obtain ⟨i, _, rfl⟩ := List.mem_map.1 hx
  have := pw_range z (triN n i)
  exact fits_u64.2 (by omega)

/-- Backwards, and turned. -/
def foreL (xs : List Int) (u : Int) (n : Nat) : List Int := (List.range n).map fun i => nth xs (n - 1 - i) * pw u (triN n (n - 1 - i)) % 18446744069414584321
theorem foreL_len (xs : List Int) (u : Int) (n : Nat) : (foreL xs u n).length = n := by simp [foreL]
theorem nth_foreL (xs : List Int) (u : Int) (n i : Nat) (h : i < n) : nth (foreL xs u n) i = nth xs (n - 1 - i) * pw u (triN n (n - 1 - i)) % 18446744069414584321 := nth_ofFn _ _ _ h
theorem foreL_fits (xs : List Int) (u : Int) (n : Nat) : ∀ x ∈ foreL xs u n, fits .u64 x := modL_fits _
/-- What is there, turned. -/
def aftL (cs : List Int) (u : Int) (n : Nat) : List Int := (List.range n).map fun k => nth cs (n - 1 + k) * pw u (triN n k) % 18446744069414584321
theorem aftL_len (cs : List Int) (u : Int) (n : Nat) : (aftL cs u n).length = n := by simp [aftL]
theorem nth_aftL (cs : List Int) (u : Int) (n k : Nat) (h : k < n) : nth (aftL cs u n) k = nth cs (n - 1 + k) * pw u (triN n k) % 18446744069414584321 := nth_ofFn _ _ _ h
theorem aftL_fits (cs : List Int) (u : Int) (n : Nat) : ∀ x ∈ aftL cs u n, fits .u64 x := modL_fits _

/-- Noughts behind. -/
def zeroL (xs : List Int) (m : Nat) : List Int := xs ++ List.replicate (m - xs.length) 0
theorem zeroL_len (xs : List Int) (m : Nat) (h : xs.length ≤ m) : (zeroL xs m).length = m := by simp [zeroL]; omega
theorem zeroL_fits (xs : List Int) (m : Nat) (h : ∀ x ∈ xs, fits .u64 x) : ∀ x ∈ zeroL xs m, fits .u64 x := by
  intro x hx
  rcases List.mem_append.1 hx with h1 | h1
  · exact h x h1
  · rw [(List.mem_replicate.1 h1).2]; exact fits_u64.2 (by omega)
theorem zeroL_cells (xs : List Int) (m : Nat) : xs.map (Value.int .u64) ++ List.replicate (m - xs.length) (Value.int .u64 0) = (zeroL xs m).map (Value.int .u64) := by
  simp [zeroL, List.map_append]
theorem nth_zeroL (xs : List Int) (m i : Nat) : nth (zeroL xs m) i = nth xs i := by
  by_cases h : i < xs.length
  · exact nth_append_left h
  · unfold zeroL
    rw [nth_append_right (by omega), nth_out xs i (by omega)]
    simp only [nth, List.getD_eq_getElem?_getD, List.getElem?_replicate]
    split <;> rfl

theorem S_rev (n : Nat) (f : Nat → Int) : S n (fun i => f (n - 1 - i)) = S n f := by
  induction n with
  | zero => rfl
  | succ n ih =>
    rw [S_head]
    show f (n + 1 - 1 - 0) + _ = S n f + f n
    rw [← ih, show n + 1 - 1 - 0 = n by omega, Int.add_comm]
    congr 1
    exact S_congr fun i hi => by rw [show n + 1 - 1 - (i + 1) = n - 1 - i by omega]

/-- Where the further terms are noughts. -/
theorem S_short (n m : Nat) (f : Nat → Int) (h : n ≤ m) (h0 : ∀ i, n ≤ i → f i = 0) : S m f = S n f := by
  induction m with
  | zero => rw [show n = 0 by omega]
  | succ m ih =>
    by_cases he : n = m + 1
    · rw [he]
    · show S m f + f m = S n f
      rw [ih (by omega), h0 m (by omega), Int.add_zero]

theorem pw_tri {z u : Int} {n : Nat} (hr : IsRoot z u n) (i : Nat) : Eqm (pw z (triN n i)) (z ^ triT i) :=
  (pw_eqm z _).trans (hr.pow_mod (triT i))

theorem blue (xs : List Int) (z u : Int) (n m : Nat) (hr : IsRoot z u n) (hx : xs.length = n) (hn : 1 ≤ n) (hm : 2 * n - 1 ≤ m) :
    aftL (cvL (zeroL (foreL xs u n) m) (zeroL (rowT z n (2 * n - 1)) m) m) u n = dftL xs z := by
  have hxl := hx
  refine dft_of xs _ z u (by rw [hx]; exact hr) (by rw [aftL_len, hx]) fun k hk => ?_
  rw [hx] at hk ⊢
  rw [nth_aftL _ _ _ _ hk]
  refine ⟨by omega, by omega, ?_⟩
  have ht : n - 1 + k < m := by omega
  rw [nth_cvL _ _ _ _ ht, cyc_at _ _ m _ (zeroL_len _ _ (by rw [foreL_len]; omega)) (zeroL_len _ _ (by rw [rowT_len]; exact hm)) ht]
  refine (Eqm.mod _).trans ?_
  have e1 : Eqm (S m (fun i => nth (zeroL (foreL xs u n) m) i * nth (zeroL (rowT z n (2 * n - 1)) m) (othAt m (n - 1 + k) i)) % 18446744069414584321) (S n (fun j => nth xs j * (u ^ triT j * z ^ triT (j + k)))) := by
    refine (Eqm.mod _).trans ?_
    rw [S_short n m _ (by omega) (fun i hi => by rw [nth_zeroL, nth_out _ _ (by rw [foreL_len]; exact hi), Int.zero_mul]), ← S_rev n (fun j => nth xs j * (u ^ triT j * z ^ triT (j + k)))]
    refine S_eqm fun i hi => ?_
    have ho : othAt m (n - 1 + k) i = n - 1 - i + k := by
      unfold othAt; rw [show n - 1 + k + m - i = (n - 1 - i + k) + m by omega, Nat.add_mod_right, Nat.mod_eq_of_lt (by omega)]
    rw [ho, nth_zeroL, nth_zeroL, nth_foreL _ _ _ _ hi, nth_rowT _ _ _ _ (by omega)]
    have := ((Eqm.mod _).trans ((rfl' (nth xs (n - 1 - i))).mul (pw_tri hr.back (n - 1 - i)))).mul (pw_tri hr (n - 1 - i + k))
    rw [Int.mul_assoc] at this
    exact this
  refine (e1.mul (pw_tri hr.back k)).trans ?_
  rw [← S_mul_r]
  refine S_eqm fun j hj => ?_
  have i1 := hr.inv_pow (triT j)
  have i2 := hr.inv_pow (triT k)
  have i3 := (hr.pow_mod (j * k)).symm
  have e2 : z ^ triT (j + k) = z ^ triT j * z ^ triT k * z ^ (j * k) := by rw [triT_add, Int.pow_add, Int.pow_add]
  have e3 : nth xs j * (u ^ triT j * z ^ triT (j + k)) * u ^ triT k = nth xs j * ((z ^ triT j * u ^ triT j) * (z ^ triT k * u ^ triT k) * z ^ (j * k)) := by rw [e2]; grind
  rw [e3]
  have e4 := (rfl' (nth xs j)).mul ((i1.mul i2).mul i3)
  rw [Int.mul_one, Int.one_mul] at e4
  exact e4
end Go.Proofs.Ytlgklkhijmeldaa
