/- The contracts and plain laws that the statements ChooseFirst ChooseMeasures ChooseBest need, part 5 of 11: ChirpL GenL PermA PermB PermC PermL ExecL RowZeros VecO RootP GenA RoundR StockB StockC StockD StockE StockF ChirpA SmallA. -/
import Derived.Test.YtlnlijeamflpiaaGreatChB4
namespace Go.Proofs.YtlnlijeamflpiaaGreat
open Sm
set_option linter.unusedVariables false
set_option linter.unusedSimpArgs false
set_option maxRecDepth 100000
def triT (i : Nat) : Nat := i * (i - 1) / 2
theorem triT_succ (k : Nat) : triT (k + 1) = triT k + k := by
  unfold triT
  cases k with
  | zero => rfl
  | succ j =>
    have e : (j + 1 + 1) * (j + 1 + 1 - 1) = (j + 1) * (j + 1 - 1) + 2 * (j + 1) := by
      rw [show j + 1 + 1 - 1 = j + 1 by omega, show j + 1 - 1 = j by omega]; grind
    rw [e]; omega
theorem triT_add (a b : Nat) : triT (a + b) = triT a + triT b + a * b := by
  induction b with
  | zero => rw [Nat.add_zero, Nat.mul_zero]; rfl
  | succ b ih => rw [← Nat.add_assoc, triT_succ, triT_succ, ih, Nat.mul_succ]; omega
def triN (n i : Nat) : Nat := triT i % n
theorem triN_lt (n i : Nat) (h : 0 < n) : triN n i < n := Nat.mod_lt _ h
def rowT (z : Int) (n many : Nat) : List Int := (List.range many).map fun j => pw z (triN n j)
theorem rowT_len (z : Int) (n m : Nat) : (rowT z n m).length = m := by simp [rowT]
theorem nth_rowT (z : Int) (n m i : Nat) (h : i < m) : nth (rowT z n m) i = pw z (triN n i) := nth_ofFn _ _ _ h
theorem rowT_fits (z : Int) (n m : Nat) : ∀ x ∈ rowT z n m, fits .u64 x := by
  intro x hx; obtain ⟨i, _, rfl⟩ := List.mem_map.1 hx
  have := pw_range z (triN n i)
  exact fits_u64.2 (by omega)
/-- Backwards, and turned. -/
def foreL (xs : List Int) (u : Int) (n : Nat) : List Int := (List.range n).map fun i => nth xs (n - 1 - i) * pw u (triN n (n - 1 - i)) % 18446744069414584321
theorem foreL_len (xs : List Int) (u : Int) (n : Nat) : (foreL xs u n).length = n := by simp [foreL]
theorem nth_foreL (xs : List Int) (u : Int) (n i : Nat) (h : i < n) : nth (foreL xs u n) i = nth xs (n - 1 - i) * pw u (triN n (n - 1 - i)) % 18446744069414584321 := nth_ofFn _ _ _ h
theorem foreL_fits (xs : List Int) (u : Int) (n : Nat) : ∀ x ∈ foreL xs u n, fits .u64 x := modL_fits _
/-- What is there, turned. -/
def aftL (cs : List Int) (u : Int) (n : Nat) : List Int := (List.range n).map fun k => nth cs (n - 1 + k) * pw u (triN n k) % 18446744069414584321
theorem aftL_len (cs : List Int) (u : Int) (n : Nat) : (aftL cs u n).length = n := by simp [aftL]
theorem nth_aftL (cs : List Int) (u : Int) (n k : Nat) (h : k < n) : nth (aftL cs u n) k = nth cs (n - 1 + k) * pw u (triN n k) % 18446744069414584321 := nth_ofFn _ _ _ h
/-- Noughts behind. -/
def zeroL (xs : List Int) (m : Nat) : List Int := xs ++ List.replicate (m - xs.length) 0
theorem zeroL_len (xs : List Int) (m : Nat) (h : xs.length ≤ m) : (zeroL xs m).length = m := by simp [zeroL]; omega
theorem zeroL_fits (xs : List Int) (m : Nat) (h : ∀ x ∈ xs, fits .u64 x) : ∀ x ∈ zeroL xs m, fits .u64 x := by
  intro x hx
  rcases List.mem_append.1 hx with h1 | h1
  · exact h x h1
  · rw [(List.mem_replicate.1 h1).2]; exact fits_u64.2 (by omega)
theorem zeroL_cells (xs : List Int) (m : Nat) : xs.map (Value.int .u64) ++ List.replicate (m - xs.length) (Value.int .u64 0) = (zeroL xs m).map (Value.int .u64) := by
  simp [zeroL, List.map_append]
theorem nth_zeroL (xs : List Int) (m i : Nat) : nth (zeroL xs m) i = nth xs i := by
  by_cases h : i < xs.length
  · exact nth_append_left h
  · unfold zeroL
    rw [nth_append_right (by omega), nth_out xs i (by omega)]
    simp only [nth, List.getD_eq_getElem?_getD, List.getElem?_replicate]
    split <;> rfl
theorem S_rev (n : Nat) (f : Nat → Int) : S n (fun i => f (n - 1 - i)) = S n f := by
  induction n with
  | zero => rfl
  | succ n ih =>
    rw [S_head]
    show f (n + 1 - 1 - 0) + _ = S n f + f n
    rw [← ih, show n + 1 - 1 - 0 = n by omega, Int.add_comm]
    congr 1
    exact S_congr fun i hi => by rw [show n + 1 - 1 - (i + 1) = n - 1 - i by omega]
/-- Where the further terms are noughts. -/
theorem S_short (n m : Nat) (f : Nat → Int) (h : n ≤ m) (h0 : ∀ i, n ≤ i → f i = 0) : S m f = S n f := by
  induction m with
  | zero => rw [show n = 0 by omega]
  | succ m ih =>
    by_cases he : n = m + 1
    · rw [he]
    · show S m f + f m = S n f
      rw [ih (by omega), h0 m (by omega), Int.add_zero]
theorem pw_tri {z u : Int} {n : Nat} (hr : IsRoot z u n) (i : Nat) : Eqm (pw z (triN n i)) (z ^ triT i) :=
  (pw_eqm z _).trans (hr.pow_mod (triT i))
theorem blue (xs : List Int) (z u : Int) (n m : Nat) (hr : IsRoot z u n) (hx : xs.length = n) (hn : 1 ≤ n) (hm : 2 * n - 1 ≤ m) :
    aftL (cvL (zeroL (foreL xs u n) m) (zeroL (rowT z n (2 * n - 1)) m) m) u n = dftL xs z := by
  have hxl := hx
  refine dft_of xs _ z u (by rw [hx]; exact hr) (by rw [aftL_len, hx]) fun k hk => ?_
  rw [hx] at hk ⊢
  rw [nth_aftL _ _ _ _ hk]
  refine ⟨by omega, by omega, ?_⟩
  have ht : n - 1 + k < m := by omega
  rw [nth_cvL _ _ _ _ ht, cyc_at _ _ m _ (zeroL_len _ _ (by rw [foreL_len]; omega)) (zeroL_len _ _ (by rw [rowT_len]; exact hm)) ht]
  refine (Eqm.mod _).trans ?_
  have e1 : Eqm (S m (fun i => nth (zeroL (foreL xs u n) m) i * nth (zeroL (rowT z n (2 * n - 1)) m) (othAt m (n - 1 + k) i)) % 18446744069414584321) (S n (fun j => nth xs j * (u ^ triT j * z ^ triT (j + k)))) := by
    refine (Eqm.mod _).trans ?_
    rw [S_short n m _ (by omega) (fun i hi => by rw [nth_zeroL, nth_out _ _ (by rw [foreL_len]; exact hi), Int.zero_mul]), ← S_rev n (fun j => nth xs j * (u ^ triT j * z ^ triT (j + k)))]
    refine S_eqm fun i hi => ?_
    have ho : othAt m (n - 1 + k) i = n - 1 - i + k := by
      unfold othAt; rw [show n - 1 + k + m - i = (n - 1 - i + k) + m by omega, Nat.add_mod_right, Nat.mod_eq_of_lt (by omega)]
    rw [ho, nth_zeroL, nth_zeroL, nth_foreL _ _ _ _ hi, nth_rowT _ _ _ _ (by omega)]
    have := ((Eqm.mod _).trans ((rfl' (nth xs (n - 1 - i))).mul (pw_tri hr.back (n - 1 - i)))).mul (pw_tri hr (n - 1 - i + k))
    rw [Int.mul_assoc] at this
    exact this
  refine (e1.mul (pw_tri hr.back k)).trans ?_
  rw [← S_mul_r]
  refine S_eqm fun j hj => ?_
  have i1 := hr.inv_pow (triT j)
  have i2 := hr.inv_pow (triT k)
  have i3 := (hr.pow_mod (j * k)).symm
  have e2 : z ^ triT (j + k) = z ^ triT j * z ^ triT k * z ^ (j * k) := by rw [triT_add, Int.pow_add, Int.pow_add]
  have e3 : nth xs j * (u ^ triT j * z ^ triT (j + k)) * u ^ triT k = nth xs j * ((z ^ triT j * u ^ triT j) * (z ^ triT k * u ^ triT k) * z ^ (j * k)) := by rw [e2]; grind
  rw [e3]
  have e4 := (rfl' (nth xs j)).mul ((i1.mul i2).mul i3)
  rw [Int.mul_one, Int.one_mul] at e4
  exact e4
end Go.Proofs.YtlnlijeamflpiaaGreat

namespace Go.Proofs.YtlnlijeamflpiaaGreat
open Sm
set_option linter.unusedVariables false
set_option linter.unusedSimpArgs false
set_option maxRecDepth 100000
def IsFq (q : Nat) : Prop := q = 3 ∨ q = 5 ∨ q = 17 ∨ q = 257 ∨ q = 65537
def gq (q : Nat) : Nat := if q = 3 ∨ q = 5 then 2 else 3
@[irreducible] def gp (q i : Nat) : Nat := gq q ^ i % q
theorem fq_bd {q : Nat} (h : IsFq q) : 3 ≤ q ∧ q ≤ 65537 := by unfold IsFq at h; omega
theorem fq_log {q : Nat} (h : IsFq q) : ∃ m, 1 ≤ m ∧ m ≤ 16 ∧ q - 1 = 2 ^ m := by
  rcases h with h | h | h | h | h <;> subst h
  · exact ⟨1, by decide, by decide, by decide⟩
  · exact ⟨2, by decide, by decide, by decide⟩
  · exact ⟨4, by decide, by decide, by decide⟩
  · exact ⟨8, by decide, by decide, by decide⟩
  · exact ⟨16, by decide, by decide, by decide⟩
theorem gq_bd {q : Nat} (h : IsFq q) : 2 ≤ gq q ∧ gq q ≤ 3 ∧ gq q < q := by
  rcases h with h | h | h | h | h <;> subst h <;> decide
theorem gp_lt (q i : Nat) (h : 0 < q) : gp q i < q := by unfold gp; exact Nat.mod_lt _ h
theorem gp_zero {q : Nat} (h : IsFq q) : gp q 0 = 1 := by
  have := fq_bd h
  unfold gp; rw [Nat.pow_zero]; exact Nat.mod_eq_of_lt (by omega)
theorem gp_add (q i j : Nat) : gp q (i + j) = gp q i * gp q j % q := by
  unfold gp; rw [Nat.pow_add, Nat.mul_mod]
theorem gp_succ (q i : Nat) : gp q (i + 1) = gp q i * gq q % q := by
  unfold gp; rw [Nat.pow_succ, Nat.mod_mul_mod]
theorem gp_all {q : Nat} (h : IsFq q) : gp q (q - 1) = 1 := by
  unfold gp
  rw [← Fld.pm_eq q 17 (gq q) (q - 1) (by have := fq_bd h; omega)]
  rcases h with h | h | h | h | h <;> subst h <;> decide +kernel
theorem gp_half {q : Nat} (h : IsFq q) : gp q ((q - 1) / 2) ≠ 1 := by
  unfold gp
  rw [← Fld.pm_eq q 17 (gq q) ((q - 1) / 2) (by have := fq_bd h; omega)]
  rcases h with h | h | h | h | h <;> subst h <;> decide +kernel
theorem gp_mul {q : Nat} (h : IsFq q) (k : Nat) : gp q ((q - 1) * k) = 1 := by
  have h1 := gp_all h
  have := fq_bd h
  unfold gp at *
  exact Fld.pow_mul_one _ _ _ _ (by omega) h1
theorem gp_past {q : Nat} (h : IsFq q) (i : Nat) : gp q ((q - 1) + i) = gp q i := by
  have := fq_bd h
  rw [gp_add, gp_all h, Nat.one_mul, Nat.mod_eq_of_lt (gp_lt q i (by omega))]
theorem gp_mod {q : Nat} (h : IsFq q) (i : Nat) : gp q (i % (q - 1)) = gp q i := by
  have := fq_bd h
  have e : gp q i = gp q ((q - 1) * (i / (q - 1)) + i % (q - 1)) := by rw [Nat.div_add_mod]
  rw [e, gp_add, gp_mul h, Nat.one_mul, Nat.mod_eq_of_lt (gp_lt q _ (by omega))]
theorem gp_pos {q : Nat} (h : IsFq q) (i : Nat) : 0 < gp q i := by
  have hb := fq_bd h
  apply Nat.pos_of_ne_zero
  intro e
  have h1 : i ≤ (q - 1) * i := Nat.le_mul_of_pos_left i (by omega)
  have h2 := gp_mul h i
  rw [show (q - 1) * i = i + ((q - 1) * i - i) by omega, gp_add, e, Nat.zero_mul, Nat.zero_mod] at h2
  omega
theorem gp_inj {q : Nat} (h : IsFq q) (i j : Nat) (hij : i < j) (hj : j < q - 1) : gp q i ≠ gp q j := by
  intro e
  have hb := fq_bd h
  obtain ⟨m, hm1, hm2, hm⟩ := fq_log h
  have h1 : gp q (j - i) = 1 := by
    have e1 := gp_add q (q - 1 - i) j
    rw [← e, ← gp_add, show q - 1 - i + i = q - 1 by omega, gp_all h, show q - 1 - i + j = (q - 1) + (j - i) by omega, gp_past h] at e1
    exact e1
  have h2 := gp_all h
  have h3 := gp_half h
  unfold gp at h1 h2 h3
  have hg := Fld.pow_gcd_one (gq q) q (by omega) (j - i) (q - 1) h1 h2
  have hd : Nat.gcd (j - i) (q - 1) ∣ 2 ^ m := by rw [← hm]; exact Nat.gcd_dvd_right _ _
  obtain ⟨k, hk⟩ := dvd_two m _ hd
  have hle : Nat.gcd (j - i) (q - 1) ≤ j - i := Nat.le_of_dvd (by omega) (Nat.gcd_dvd_left _ _)
  have hlt : 2 ^ k < 2 ^ m := by omega
  have hkm : k < m := (Nat.pow_lt_pow_iff_right (by omega)).1 hlt
  have he : (q - 1) / 2 = 2 ^ k * 2 ^ (m - 1 - k) := by
    rw [← Nat.pow_add, show k + (m - 1 - k) = m - 1 by omega, hm, show m = m - 1 + 1 by omega, Nat.pow_succ]
    simp
  apply h3
  rw [he, ← hk]
  exact Fld.pow_mul_one _ _ _ _ (by omega) hg
theorem gp_onto {q : Nat} (h : IsFq q) (b : Nat) (h1 : 1 ≤ b) (h2 : b < q) : ∃ i, i < q - 1 ∧ gp q i = b := by
  have hb := fq_bd h
  obtain ⟨i, hi, he⟩ := Fld.onto (q - 1) (fun i => gp q i - 1) (fun i _ => by
      have := gp_lt q i (by omega)
      show gp q i - 1 < q - 1
      omega) (fun i j hij hj => by
      have a := gp_pos h i
      have b := gp_pos h j
      have c := gp_inj h i j hij hj
      show gp q i - 1 ≠ gp q j - 1
      omega) (b - 1) (by omega)
  refine ⟨i, hi, ?_⟩
  have he' : gp q i - 1 = b - 1 := he
  have := gp_pos h i
  omega
/-- A size that is a prime from 3 on. -/
theorem fq_of {n : Nat} (h : hasSz n = true) (hp : isPr (n : Int) = true) (h3 : 3 ≤ n) : IsFq n := by
  obtain ⟨a1, a2, a3⟩ := hasSz_iff.1 h
  have hN := (isPr_iff n (by omega) (by omega)).1 hp
  have hdv : n ∣ 18446744069414584320 := by
    have h5 : ((18446744069414584320 % n : Nat) : Int) = 0 := by rw [Int.natCast_emod]; exact a3
    exact Nat.dvd_of_mod_eq_zero (by omega)
  obtain ⟨g, hg, j, hj, rfl⟩ := size_form n (by omega) (by omega) hdv
  cases j with
  | succ j =>
    exfalso
    have e : 2 ^ (j + 1) * g = 2 * (2 ^ j * g) := by rw [Nat.pow_succ]; rw [Nat.mul_comm (2 ^ j) 2, Nat.mul_assoc]
    have := hN.2 2 (Nat.le_refl _) (by omega)
    omega
  | zero =>
    rw [Nat.pow_zero, Nat.one_mul] at *
    have key : ∀ g ∈ oddL, g < 3 ∨ (g = 3 ∨ g = 5 ∨ g = 17 ∨ g = 257 ∨ g = 65537) ∨ (9 ≤ g ∧ g % 3 = 0) ∨ (25 ≤ g ∧ g % 5 = 0) ∨ (289 ≤ g ∧ g % 17 = 0) ∨ (66049 ≤ g ∧ g % 257 = 0) := by decide +kernel
    rcases key g hg with h1 | h1 | h1 | h1 | h1 | h1
    · omega
    · exact h1
    · exact absurd h1.2 (hN.2 3 (by omega) (by omega))
    · exact absurd h1.2 (hN.2 5 (by omega) (by omega))
    · exact absurd h1.2 (hN.2 17 (by omega) (by omega))
    · exact absurd h1.2 (hN.2 257 (by omega) (by omega))
theorem pr_of_fq {n : Nat} (h : IsFq n) : isPr (n : Int) = true := by
  have hb := fq_bd h
  rw [isPr_iff n (by omega) (by omega)]
  refine ⟨by omega, fun k h2 hk => ?_⟩
  have hk2 : k ≤ 256 := by
    apply Nat.le_of_not_lt; intro hc
    have : 257 * 257 ≤ k * k := Nat.mul_le_mul hc hc
    omega
  have key : ∀ q ∈ [3, 5, 17, 257, 65537], ∀ k ∈ List.range 257, k < 2 ∨ q < k * k ∨ q % k ≠ 0 := by decide +kernel
  have hq : n ∈ [3, 5, 17, 257, 65537] := by unfold IsFq at h; simp; exact h
  rcases key n hq k (by simp; omega) with h1 | h1 | h1
  · omega
  · omega
  · exact h1
/-- The powers of the generator, one by one; Rader's row. -/
def genL (q : Nat) : List Int := (List.range (q - 1)).map fun i => ((gp q i : Nat) : Int)
theorem genL_len (q : Nat) : (genL q).length = q - 1 := by simp [genL]
theorem nth_genL (q i : Nat) (h : i < q - 1) : nth (genL q) i = (gp q i : Nat) := nth_ofFn _ _ _ h
def radAt (q i : Nat) : Nat := gp q ((q - 1 - i) % (q - 1))
def radL (z : Int) (q : Nat) : List Int := (List.range (q - 1)).map fun i => pw z (radAt q i)
theorem radL_len (z : Int) (q : Nat) : (radL z q).length = q - 1 := by simp [radL]
theorem nth_radL (z : Int) (q i : Nat) (h : i < q - 1) : nth (radL z q) i = pw z (radAt q i) := nth_ofFn _ _ _ h
theorem radL_fits (z : Int) (q : Nat) : ∀ x ∈ radL z q, fits .u64 x := by
  intro x hx; obtain ⟨i, _, rfl⟩ := List.mem_map.1 hx
  have := pw_range z (radAt q i)
  exact fits_u64.2 (by omega)
theorem radAt_eq {q : Nat} (h : IsFq q) (i : Nat) (hi : i < q - 1) : radAt q i = gp q (q - 1 - i) := by
  unfold radAt; exact gp_mod h _
theorem radAt_zero {q : Nat} (h : IsFq q) : radAt q 0 = 1 := by
  unfold radAt; rw [Nat.sub_zero, Nat.mod_self, gp_zero h]
end Go.Proofs.YtlnlijeamflpiaaGreat

namespace Go.Proofs.YtlnlijeamflpiaaGreat
open Go.RowKit
set_option linter.unusedVariables false
set_option linter.unusedSimpArgs false
set_option maxRecDepth 100000
theorem sides1_yes (n : Int) (w : World) (h1 : 1 ≤ n) (h2 : n ≤ 16777216) :
    Calls Tryz.prog 211 #[.int .i64 n] w fun e w' => e = .returned (.bool true) ∧ w = w' := by
  go_enter Tryz.func211, Tryz.ntmps211
  go_wp2_with fail
  go_ret
  exact ⟨rfl, rfl⟩
/-- May there be a table of such sides? -/
def Sides (a b : Int) : Prop := 1 ≤ a ∧ a ≤ 16777216 ∧ 1 ≤ b ∧ b ≤ 16777216 ∧ a * b ≤ 16777216
instance (a b : Int) : Decidable (Sides a b) := by unfold Sides; infer_instance
theorem mul_bd (a b : Int) (h1 : 1 ≤ a) (h2 : a ≤ 16777216) (h3 : 1 ≤ b) (h4 : b ≤ 16777216) : 1 ≤ a * b ∧ a * b ≤ 281474976710656 := by
  constructor
  · have := Int.mul_le_mul h1 h3 (by omega) (by omega : (0 : Int) ≤ a); omega
  · have := Int.mul_le_mul h2 h4 (by omega) (by omega : (0 : Int) ≤ 16777216); omega
theorem permSides_yes (a b : Int) (w : World) (h : Sides a b) :
    Calls Tryz.prog 207 #[.int .i64 a, .int .i64 b] w fun e w' => e = .returned (.bool true) ∧ w = w' := by
  obtain ⟨h1, h2, h3, h4, h5⟩ := h
  have hm := mul_bd a b h1 h2 h3 h4
  go_enter Tryz.func207, Tryz.ntmps207
  go_wp2_with (go_at_call 211; refine (sides1_yes _ _ (by omega) (by omega)).mono ?_; rintro e w' ⟨rfl, rfl⟩)
  go_ret
  exact ⟨rfl, rfl⟩
/-- A table, row by row. -/
def tabL (a b : Nat) (g : Nat → Nat → Int) : List Int := (List.range (a * b)).map fun k => g (k / b) (k % b)
theorem tabL_len (a b : Nat) (g : Nat → Nat → Int) : (tabL a b g).length = a * b := by simp [tabL]
theorem row_at (b i j : Nat) (hj : j < b) : (i * b + j) / b = i ∧ (i * b + j) % b = j := by
  have h0 : 0 < b := by omega
  constructor
  · rw [Nat.add_comm, Nat.add_mul_div_right _ _ h0, Nat.div_eq_of_lt hj, Nat.zero_add]
  · rw [Nat.add_comm, Nat.add_mul_mod_self_right, Nat.mod_eq_of_lt hj]
theorem row_bd (a b i j : Nat) (hi : i < a) (hj : j < b) : i * b + j < a * b := by
  have h1 : (i + 1) * b ≤ a * b := Nat.mul_le_mul_right b hi
  rw [Nat.add_mul, Nat.one_mul] at h1
  omega
set_option maxHeartbeats 1600000 in
theorem permTable (a b : Nat) (g : Nat → Nat → Int) (fid : Nat) (caps : Array Value) (w : World) (hab : a * b ≤ 16777216) (ha : a ≤ 16777216) (hb : b ≤ 16777216) (hg : ∀ i j, i < a → j < b → fits .i64 (g i j))
    (hent : ∀ args w, (callFunc fid args).run Tryz.prog w = .ok (.enter fid args) w)
    (hf : ∀ (i j : Nat) (wr : World), i < a → j < b → Below w.heap.size w wr → Calls Tryz.prog fid (#[.int .i64 i, .int .i64 j] ++ caps) wr fun e w' => e = .returned (.int .i64 (g i j)) ∧ Below wr.heap.size wr w') :
    Calls Tryz.prog 196 #[.int .i64 a, .int .i64 b, .func (.func fid) #[] caps] w (GivesRow .i64 (tabL a b g) w) := by
  obtain ⟨i0, hi, hz0, hz1, hz2⟩ := info_parts info_int
  have HF := Lib.hid hf
  have HG := Lib.hid hg
  have hmul : (a : Int) * (b : Int) = ((a * b : Nat) : Int) := (Int.natCast_mul a b).symm
  have hw : IntKind.i64.wrap ((a : Int) * (b : Int)) = ((a * b : Nat) : Int) := by rw [hmul]; exact IntWalk.i64_in _ (by omega)
  obtain ⟨N, hN⟩ : ∃ N, a * b = N := ⟨_, rfl⟩
  rw [hN] at hw
  have HN := Lib.hid hN
  have HM := Lib.hid hmul
  have hNM : N ≤ 16777216 := by omega
  clear hf hg hN hmul hab
  go_enter Tryz.func196, Tryz.ntmps196
  go_wp2_with (at_make; refine wpList_make_own _ rfl _ _ 44 rfl w.heap.size 3 i0 (.int .i64 0) 1 Tryz.underlying44 hi hz0 hz1 .i64 .i64 N N rfl rfl rfl (by rw [hz2]; omega) (by unfold maxLen; omega) (Nat.le_refl _) ?_)
  intro w1 hown0 hgrow0
  have hown : Own .i64 3 w w1 (.slice (some ⟨w.heap.size, 0, none⟩) 0 N) 0 (fun k => g (k / b) (k % b)) := ⟨hown0, (Below.refl _ _).grown hgrow0 (Nat.le_refl _) (by simp)⟩
  clear hown0 hgrow0
  go_wp2_with fail
  go_loopw [7, 15] (fun v i wr => ∃ (k n : Nat), k ≤ a ∧ n = k * b ∧ i = .int .i64 k ∧ Own .i64 3 w wr v n (fun k => g (k / b) (k % b))) (fun _ i _ => a - (intOf i).toNat)
  case atStart => exact ⟨0, 0, Nat.zero_le _, by simp, rfl, hown⟩
  case round =>
    obtain ⟨k, n, hk, hn, rfl, hown⟩ := hrel
    have HK := Lib.hid hn
    clear hn
    by_cases hlt : k < a
    · obtain ⟨wo, hwo⟩ : ∃ wo : World, wo = wr := ⟨_, rfl⟩
      subst hwo
      go_wp2_with fail
      go_loopw [7, 19] (fun v i wr => ∃ (j n : Nat), j ≤ b ∧ Hid (n = k * b + j) ∧ i = .int .i64 j ∧ Own .i64 3 w wr v n (fun k => g (k / b) (k % b))) (fun _ i _ => b - (intOf i).toNat)
      case atStart => exact ⟨0, n, Nat.zero_le _, by have := HK.out; unfold Hid; omega, rfl, hown⟩
      case round =>
        obtain ⟨j, n', hj, HJ, rfl, hown⟩ := hrel
        by_cases hjb : j < b
        · have hcall := HF.out k j wr hlt hjb hown.below
          have HC := Lib.hid hcall
          have hnb : n' < N := by have := row_bd a b k j hlt hjb; have := HJ.out; have := HN.out; omega
          have hfit : fits .i64 (g k j) := HG.out k j hlt hjb
          have HFT := Lib.hid hfit
          clear hcall hfit
          go_wp2_with fail
          refine HC.out.mono ?_
          rintro e w' ⟨rfl, hb'⟩
          have hown := hown.later hb'
          go_wp2_with (at_builtin; refine wpList_append_own _ rfl _ _ 44 rfl w.heap.size 3 i0 (.int .i64 0) 1 8 Tryz.underlying44 hi hz0 hz1 hz2 rfl (by decide) _ _ _ rfl (hown.own.alloc _) ⟨w'.heap.size, 0, none⟩ 1 1 [.int .i64 (g k j)] rfl rfl (cell_one_new _ _ _) (one_cell _ _) (by unfold maxLen; omega) (by omega) (size_alloc_le hown.below _) ?_)
          intro v' w2 hown' hgrow _
          have hnext := hown.push (g k j) (by have := row_at b k j hjb; rw [HJ.out, this.1, this.2]) hown' hgrow
          clear hown' hgrow
          go_wp2_with fail
          go_roundw
          case rel => exact ⟨j + 1, n' + 1, by omega, by have := HJ.out; unfold Hid; omega, by go_num, hnext⟩
          case measure => simp [intOf]; omega
        · have hjj : j = b := by omega
          have HJJ := Lib.hid hjj
          clear hjj
          go_wp2_with fail
          go_roundw
          case rel => exact ⟨k + 1, n', by omega, by have h1 := HJ.out; have h2 := HJJ.out; rw [Nat.add_mul, Nat.one_mul]; omega, by go_num, hown⟩
          case measure => simp [intOf]; omega
    · have hka : k = a := by omega
      have hres := hown.gives (xs := tabL a b g) (by rw [tabL_len]; have := HK.out; rw [hka] at this; omega) (fun x hx => by
        obtain ⟨i, hi, rfl⟩ := List.mem_map.1 hx
        have hi' : i < a * b := by simpa using hi
        have hb0 : 0 < b := Nat.pos_of_ne_zero (fun e => by subst e; omega)
        exact HG.out _ _ (Nat.div_lt_of_lt_mul (by rw [Nat.mul_comm]; exact hi')) (Nat.mod_lt _ hb0)) (fun i hi => nth_ofFn _ _ _ (by have := HK.out; rw [hka] at this; omega)) (by have := HK.out; have := HN.out; rw [hka] at *; omega)
      clear hown
      go_wp2_with fail
      go_ret
      exact hres
end Go.Proofs.YtlnlijeamflpiaaGreat

namespace Go.Proofs.YtlnlijeamflpiaaGreat
open Go.RowKit
set_option linter.unusedVariables false
set_option linter.unusedSimpArgs false
set_option maxRecDepth 100000
theorem fits_nat {n : Nat} (h : n ≤ 1000000000) : fits .i64 (n : Int) := fits_i64.2 (by omega)
end Go.Proofs.YtlnlijeamflpiaaGreat

namespace Go.Proofs.YtlnlijeamflpiaaGreat
open Go.RowKit
set_option linter.unusedVariables false
set_option linter.unusedSimpArgs false
set_option maxRecDepth 100000
/-- All in range, no number twice. -/
def IsPerm (p : List Int) : Prop := (∀ i, i < p.length → 0 ≤ nth p i ∧ nth p i < p.length) ∧ ∀ i j, i < j → j < p.length → nth p i ≠ nth p j
/-- Is n among the first k? -/
def among (p : List Int) (k : Nat) (n : Nat) : Int := if ∃ i, i < k ∧ nth p i = n then 1 else 0
theorem among_zero (p : List Int) (n : Nat) : among p 0 n = 0 := by
  unfold among; rw [if_neg (by rintro ⟨i, h, _⟩; omega)]
theorem among_new (p : List Int) (k n : Nat) (h : nth p k = n) : among p (k + 1) n = 1 := by
  unfold among; rw [if_pos ⟨k, by omega, h⟩]
theorem among_old (p : List Int) (k n : Nat) (h : nth p k ≠ n) : among p (k + 1) n = among p k n := by
  unfold among
  by_cases h1 : ∃ i, i < k ∧ nth p i = n
  · obtain ⟨i, hi, e⟩ := h1
    rw [if_pos ⟨i, by omega, e⟩, if_pos ⟨i, hi, e⟩]
  · rw [if_neg h1, if_neg]
    rintro ⟨i, hi, e⟩
    by_cases hik : i = k
    · subst hik; exact h e
    · exact h1 ⟨i, by omega, e⟩
theorem among_not (p : List Int) (k n : Nat) (h : ∀ i, i < k → nth p i ≠ n) : among p k n = 0 := by
  unfold among; rw [if_neg (by rintro ⟨i, hi, e⟩; exact h i hi e)]
theorem OwnAt.eq {k : IntKind} {e : TypeId} {w wr : World} {g n : Nat} {f f' : Nat → Int} (h : OwnAt k e w wr g n f) (he : ∀ n, f' n = f n) : OwnAt k e w wr g n f' := by
  rw [show f' = f from funext he]; exact h
set_option maxHeartbeats 1600000 in
theorem permRight_yes (a : Option Addr) (n cap : Nat) (p : List Int) (w : World) (hx : Row .i64 w a p) (hn : p.length = n) (hl : n ≤ 16777216) (hp : IsPerm p) :
    Calls Tryz.prog 198 #[.slice a n cap] w fun e w' => e = .returned (.bool true) ∧ Below w.heap.size w w' := by
  subst hn
  obtain ⟨i0, hi, hz0, hz1, hz2⟩ := info_parts info_int
  have HX := Lib.hid hx
  have HP := Lib.hid hp
  clear hx hp
  go_enter Tryz.func198, Tryz.ntmps198
  go_wp2_with (at_make; refine wpList_make_full _ rfl _ _ 44 rfl w.heap.size 3 i0 (.int .i64 0) 1 Tryz.underlying44 hi hz0 hz1 .i64 .i64 p.length p.length p.length rfl rfl rfl rfl (by rw [hz2]; omega) (by unfold maxLen; omega) (Nat.le_refl _) ?_)
  intro w1 hown0 hgrow0
  have hown := Own.made hown0 hgrow0
  clear hown0 hgrow0
  go_wp2_with fail
  go_loopw [11] (fun i wr => ∃ k : Nat, k ≤ p.length ∧ i = .int .i64 k ∧ OwnAt .i64 3 w wr w.heap.size p.length (among p k)) (fun i _ => p.length - (intOf i).toNat)
  case atStart => exact ⟨0, Nat.zero_le _, rfl, OwnAt.eq hown (fun n => among_zero p n)⟩
  case round =>
    obtain ⟨k, hk, rfl, hown⟩ := hrel
    by_cases hlt : k < p.length
    · obtain ⟨b, off, rfl, hc⟩ := (HX.out.below hown.below).at (by omega)
      have hck := hc k hlt
      obtain ⟨m, hm⟩ := Int.eq_ofNat_of_zero_le (HP.out.1 k hlt).1
      have hmlt : m < p.length := by have := (HP.out.1 k hlt).2; omega
      rw [hm] at hck
      have hcell := hown.cell m hmlt
      rw [among_not p k m (fun i hik e => HP.out.2 i k hik hlt (by rw [e, hm]))] at hcell
      have hfz := hown.free m
      have hnext := hown.store m hmlt 1 (f' := among p (k + 1)) (among_new p k m hm) (fun j _ hj => among_old p k j (by rw [hm]; omega))
      have HN := Lib.hid hnext
      clear hc hnext hm
      have g1 : (0 : Int) ≤ (m : Int) := by omega
      have g2 : (m : Int) < (p.length : Int) := by omega
      go_wp2_with fail
      go_roundw
      case rel => exact ⟨k + 1, by omega, by go_num, HN.out⟩
      case measure => simp [intOf]; omega
    · have hb := hown.below
      clear hown
      go_wp2_with fail
      go_ret
      exact ⟨rfl, hb⟩
end Go.Proofs.YtlnlijeamflpiaaGreat

namespace Go.Proofs.YtlnlijeamflpiaaGreat
set_option linter.unusedVariables false
set_option linter.unusedSimpArgs false
set_option maxRecDepth 100000
/-- A list out of a map of places. -/
def mapL (N : Nat) (f : Nat → Nat) : List Int := (List.range N).map fun k => ((f k : Nat) : Int)
theorem mapL_len (N : Nat) (f : Nat → Nat) : (mapL N f).length = N := by simp [mapL]
theorem nth_mapL (N : Nat) (f : Nat → Nat) (k : Nat) (h : k < N) : nth (mapL N f) k = f k := nth_ofFn _ _ _ h
theorem isPerm_mapL (N : Nat) (f : Nat → Nat) (hf : ∀ k, k < N → f k < N) (hi : ∀ i j, i < j → j < N → f i ≠ f j) : IsPerm (mapL N f) := by
  unfold IsPerm
  rw [mapL_len]
  refine ⟨fun i h => ?_, fun i j hij hj => ?_⟩
  · rw [nth_mapL N f i h]; have := hf i h; omega
  · rw [nth_mapL N f i (by omega), nth_mapL N f j hj]; have := hi i j hij hj; omega
/-- Where a map of places has p. -/
noncomputable def invOf (N : Nat) (f : Nat → Nat) (p : Nat) : Nat := by
  classical exact if h : ∃ t, t < N ∧ f t = p then h.choose else 0
theorem invOf_spec (N : Nat) (f : Nat → Nat) (p : Nat) (h : ∃ t, t < N ∧ f t = p) : invOf N f p < N ∧ f (invOf N f p) = p := by
  unfold invOf; rw [dif_pos h]; exact h.choose_spec
theorem inj_of (N : Nat) (f : Nat → Nat) (hi : ∀ i j, i < j → j < N → f i ≠ f j) (a b : Nat) (ha : a < N) (hb : b < N) (h : f a = f b) : a = b := by
  rcases Nat.lt_trichotomy a b with h1 | h1 | h1
  · exact absurd h (hi a b h1 hb)
  · exact h1
  · exact absurd h.symm (hi b a h1 ha)
theorem invOf_of (N : Nat) (f : Nat → Nat) (hi : ∀ i j, i < j → j < N → f i ≠ f j) (t : Nat) (ht : t < N) : invOf N f (f t) = t := by
  have h := invOf_spec N f (f t) ⟨t, ht, rfl⟩
  exact inj_of N f hi _ _ h.1 ht h.2
theorem invOf_lt (N : Nat) (f : Nat → Nat) (hf : ∀ k, k < N → f k < N) (hi : ∀ i j, i < j → j < N → f i ≠ f j) (p : Nat) (hp : p < N) : invOf N f p < N ∧ f (invOf N f p) = p := by
  obtain ⟨t, ht, e⟩ := Fld.onto N f hf hi p hp
  exact invOf_spec N f p ⟨t, ht, e⟩
def gooF (a b k : Nat) : Nat := (k / b * b + k % b * a) % (a * b)
def crtF (a b k : Nat) : Nat := k % a * b + k % b
theorem dvd_sub_of (c x y : Nat) (h : x % c = y % c) : c ∣ y - x := Nat.dvd_of_mod_eq_zero (Nat.sub_mod_eq_zero_of_mod_eq h.symm)
theorem mod_inj (a b x y : Nat) (h : Nat.gcd a b = 1) (hx : x < a * b) (hy : y < a * b) (h1 : x % a = y % a) (h2 : x % b = y % b) : x = y := by
  rcases Nat.le_total x y with hle | hle
  · have d1 : a ∣ y - x := dvd_sub_of _ _ _ h1
    have d2 : b ∣ y - x := dvd_sub_of _ _ _ h2
    have d3 := Nat.Coprime.mul_dvd_of_dvd_of_dvd h d1 d2
    have := Nat.eq_zero_of_dvd_of_lt d3 (by omega)
    omega
  · have d1 : a ∣ x - y := dvd_sub_of _ _ _ h1.symm
    have d2 : b ∣ x - y := dvd_sub_of _ _ _ h2.symm
    have d3 := Nat.Coprime.mul_dvd_of_dvd_of_dvd h d1 d2
    have := Nat.eq_zero_of_dvd_of_lt d3 (by omega)
    omega
theorem crtF_lt (a b k : Nat) (h : k < a * b) : crtF a b k < a * b := by
  have ha : 0 < a := Nat.pos_of_ne_zero (fun e => by subst e; omega)
  have hb : 0 < b := Nat.pos_of_ne_zero (fun e => by subst e; omega)
  exact row_bd a b (k % a) (k % b) (Nat.mod_lt _ ha) (Nat.mod_lt _ hb)
theorem crtF_at (a b k : Nat) (hb : 0 < b) : crtF a b k / b = k % a ∧ crtF a b k % b = k % b := row_at b (k % a) (k % b) (Nat.mod_lt _ hb)
theorem crtF_inj (a b : Nat) (h : Nat.gcd a b = 1) : ∀ i j, i < j → j < a * b → crtF a b i ≠ crtF a b j := by
  intro i j hij hj e
  have hb : 0 < b := Nat.pos_of_ne_zero (fun e => by subst e; omega)
  have h1 := crtF_at a b i hb
  have h2 := crtF_at a b j hb
  rw [e] at h1
  have := mod_inj a b i j h (by omega) hj (h1.1.symm.trans h2.1) (h1.2.symm.trans h2.2)
  omega
theorem gooF_lt (a b k : Nat) (h : k < a * b) : gooF a b k < a * b := Nat.mod_lt _ (by omega)
theorem gooF_inj (a b : Nat) (h : Nat.gcd a b = 1) : ∀ i j, i < j → j < a * b → gooF a b i ≠ gooF a b j := by
  intro i j hij hj e
  have ha : 0 < a := Nat.pos_of_ne_zero (fun e => by subst e; omega)
  have hb : 0 < b := Nat.pos_of_ne_zero (fun e => by subst e; omega)
  unfold gooF at e
  -- what is left by a
  have ea : (i / b * b) % a = (j / b * b) % a := by
    have h1 := congrArg (· % a) e
    simp only [Nat.mod_mul_right_mod, Nat.add_mul_mod_self_right] at h1
    exact h1
  have eb : (i % b * a) % b = (j % b * a) % b := by
    have h1 := congrArg (· % b) e
    simp only [Nat.mod_mul_left_mod] at h1
    rw [Nat.add_comm (i / b * b), Nat.add_comm (j / b * b), Nat.add_mul_mod_self_right, Nat.add_mul_mod_self_right] at h1
    exact h1
  have hi1 : i / b < a := Nat.div_lt_of_lt_mul (by rw [Nat.mul_comm]; omega)
  have hj1 : j / b < a := Nat.div_lt_of_lt_mul (by rw [Nat.mul_comm]; omega)
  have h1 : i / b = j / b := strike_mod (i / b) (j / b) b a (by rw [Nat.gcd_comm]; rw [Nat.gcd_comm]; exact h) hi1 hj1 ea
  have h2 : i % b = j % b := strike_mod (i % b) (j % b) a b (by rw [Nat.gcd_comm]; exact h) (Nat.mod_lt _ hb) (Nat.mod_lt _ hb) eb
  have h3 := Nat.div_add_mod i b
  have h4 := Nat.div_add_mod j b
  rw [h1, h2] at h3
  omega
where
  strike_mod (x y c m : Nat) (hc : Nat.gcd m c = 1) (hx : x < m) (hy : y < m) (h : x * c % m = y * c % m) : x = y := by
    rcases Nat.le_total x y with hle | hle
    · have d := dvd_sub_of _ _ _ h
      rw [← Nat.sub_mul] at d
      have d2 : m ∣ y - x := Nat.Coprime.dvd_of_dvd_mul_right hc d
      have := Nat.eq_zero_of_dvd_of_lt d2 (by omega)
      omega
    · have d := dvd_sub_of _ _ _ h.symm
      rw [← Nat.sub_mul] at d
      have d2 : m ∣ x - y := Nat.Coprime.dvd_of_dvd_mul_right hc d
      have := Nat.eq_zero_of_dvd_of_lt d2 (by omega)
      omega
def gooL (a b : Nat) : List Int := mapL (a * b) (gooF a b)
noncomputable def crtL (a b : Nat) : List Int := mapL (a * b) (invOf (a * b) (crtF a b))
theorem isPerm_goo (a b : Nat) (h : Nat.gcd a b = 1) : IsPerm (gooL a b) := isPerm_mapL _ _ (gooF_lt a b) (gooF_inj a b h)
end Go.Proofs.YtlnlijeamflpiaaGreat

namespace Go.Proofs.YtlnlijeamflpiaaGreat
open Sm
set_option linter.unusedVariables false
set_option linter.unusedSimpArgs false
set_option maxRecDepth 100000
theorem S_append (n m : Nat) (f : Nat → Int) : S (n + m) f = S n f + S m (fun j => f (n + j)) := by
  induction m with
  | zero => rw [Nat.add_zero]; simp only [S]; omega
  | succ m ih => rw [← Nat.add_assoc]; simp only [S]; rw [ih]; omega
theorem S_grid (a b : Nat) (f : Nat → Int) : S (a * b) f = S a (fun i => S b (fun j => f (i * b + j))) := by
  induction a with
  | zero => rw [Nat.zero_mul]; rfl
  | succ a ih => rw [Nat.succ_mul, S_append, ih]; rfl
theorem S_strike (n : Nat) : ∀ (t : Nat) (f : Nat → Int), t ≤ n → S (n + 1) f = S n (fun i => f (if i < t then i else i + 1)) + f t := by
  induction n with
  | zero => intro t f h; rw [show t = 0 by omega]; rfl
  | succ n ih =>
    intro t f h
    by_cases ht : t = n + 1
    · subst ht
      show S (n + 1) f + f (n + 1) = _
      congr 1
      exact S_congr fun i hi => by rw [if_pos hi]
    · have h1 := ih t f (by omega)
      show S (n + 1) f + f (n + 1) = S n _ + f (if n < t then n else n + 1) + f t
      rw [h1, if_neg (by omega)]
      omega
theorem S_perm (n : Nat) : ∀ (f : Nat → Int) (s : Nat → Nat), (∀ i, i < n → s i < n) → (∀ i j, i < j → j < n → s i ≠ s j) → S n (fun i => f (s i)) = S n f := by
  induction n with
  | zero => intro f s _ _; rfl
  | succ n ih =>
    intro f s hs hi
    obtain ⟨t, ht⟩ : ∃ t, s n = t := ⟨_, rfl⟩
    have htn : t < n + 1 := by rw [← ht]; exact hs n (by omega)
    have hne : ∀ i, i < n → s i ≠ t := fun i h => by rw [← ht]; exact hi i n h (by omega)
    have h1 := ih (fun i => f (if i < t then i else i + 1)) (fun i => if s i < t then s i else s i - 1) (fun i h => by
        have a := hs i (by omega)
        have b := hne i h
        show (if s i < t then s i else s i - 1) < n
        split <;> omega) (fun i j hij hj => by
        have a := hi i j hij (by omega)
        have b := hne i (by omega)
        have c := hne j hj
        show (if s i < t then s i else s i - 1) ≠ (if s j < t then s j else s j - 1)
        split <;> split <;> omega)
    rw [S_strike n t f (by omega), ← h1]
    show S n (fun i => f (s i)) + f (s n) = _
    rw [ht]
    congr 1
    refine S_congr fun i h => ?_
    have b := hne i h
    show f (s i) = f (if (if s i < t then s i else s i - 1) < t then (if s i < t then s i else s i - 1) else (if s i < t then s i else s i - 1) + 1)
    congr 1
    by_cases hc : s i < t
    · rw [if_pos hc, if_pos hc]
    · rw [if_neg hc, if_neg (by omega)]; omega
theorem nth_revL (xs : List Int) (k : Nat) (h : k < xs.length) : nth (revL xs) k = nth xs (revAt xs.length k) % 18446744069414584321 := nth_ofFn _ _ _ h
theorem dft_ofT (xs ys : List Int) (z : Int) (hl : ys.length = xs.length)
    (h : ∀ k, k < xs.length → 0 ≤ nth ys k ∧ nth ys k < 18446744069414584321 ∧ Eqm (nth ys k) (T xs.length z (nth xs) k)) : ys = dftL xs z := by
  apply ext_nth (by rw [dftL_len, hl])
  intro k hk
  rw [hl] at hk
  rw [nth_dftL _ _ _ hk]
  obtain ⟨h1, h2, h3⟩ := h k hk
  have b := pt_range xs (pw z k)
  exact eq_of_eqm (h3.trans (pt_T xs z k).symm) h1 h2 b.1 b.2
theorem sz_part {a b : Nat} (h : hasSz ((a * b : Nat) : Int) = true) : hasSz (a : Int) = true ∧ hasSz (b : Int) = true := by
  obtain ⟨h1, h2, h3⟩ := hasSz_iff.1 h
  have h5 : ((18446744069414584320 % (a * b) : Nat) : Int) = 0 := by rw [Int.natCast_emod]; exact h3
  have hd : a * b ∣ 18446744069414584320 := Nat.dvd_of_mod_eq_zero (by omega)
  have ha : 0 < a := Nat.pos_of_ne_zero (fun e => by subst e; rw [Nat.zero_mul] at h1; omega)
  have hb : 0 < b := Nat.pos_of_ne_zero (fun e => by subst e; rw [Nat.mul_zero] at h1; omega)
  have la : a ≤ a * b := Nat.le_mul_of_pos_right a hb
  have lb : b ≤ a * b := Nat.le_mul_of_pos_left b ha
  have da : 18446744069414584320 % a = 0 := Nat.mod_eq_zero_of_dvd (Nat.dvd_trans ⟨b, rfl⟩ hd)
  have db : 18446744069414584320 % b = 0 := Nat.mod_eq_zero_of_dvd (Nat.dvd_trans ⟨a, Nat.mul_comm a b⟩ hd)
  have ea : ((18446744069414584320 % a : Nat) : Int) = 0 := by rw [da]; rfl
  have eb : ((18446744069414584320 % b : Nat) : Int) = 0 := by rw [db]; rfl
  rw [Int.natCast_emod] at ea eb
  exact ⟨hasSz_iff.2 ⟨by omega, by omega, ea⟩, hasSz_iff.2 ⟨by omega, by omega, eb⟩⟩
theorem inv_uniq {x y u v : Int} (h1 : Eqm (x * u) 1) (h2 : Eqm (y * v) 1) (h : Eqm x y) : Eqm u v := by
  have a := h1.mul (rfl' v)
  have b := h2.mul (rfl' u)
  rw [Int.one_mul] at a b
  have c : Eqm (x * u * v) (y * v * u) := by
    have := (h.mul (rfl' u)).mul (rfl' v)
    rwa [Int.mul_assoc y u v, Int.mul_comm u v, ← Int.mul_assoc] at this
  exact b.symm.trans (c.symm.trans a)
theorem rtExp_part {a b : Nat} (h : hasSz ((a * b : Nat) : Int) = true) : rtExp (a * b) * b = rtExp a := by
  have h1 := rtExp_mul (a * b) h
  have h2 := rtExp_mul a (sz_part h).1
  have ha : 0 < a := by have := (hasSz_iff.1 (sz_part h).1).1; omega
  have : rtExp (a * b) * b * a = rtExp a * a := by
    rw [h2, ← h1, Nat.mul_assoc, Nat.mul_comm b a]
  exact Nat.eq_of_mul_eq_mul_right ha this
theorem rt_part {a b : Nat} (h : hasSz ((a * b : Nat) : Int) = true) : Eqm (rt (a * b) ^ b) (rt a) := by
  refine (rt_pow (a * b) b).trans ?_
  rw [← Int.pow_mul, rtExp_part h]
  exact (pw_eqm 7 (rtExp a)).symm
theorem dirRt_part {a b : Nat} (d : Int) (h : hasSz ((a * b : Nat) : Int) = true) : Eqm (dirRt (a * b) d ^ b) (dirRt a d) := by
  have h1 := rt_part h
  unfold dirRt
  split
  · exact inv_uniq ((isRoot_rt (a * b) h).inv_pow b) (isRoot_rt a (sz_part h).1).inv h1
  · exact h1
theorem dirRt_part2 {a b : Nat} (d : Int) (h : hasSz ((a * b : Nat) : Int) = true) : Eqm (dirRt (a * b) d ^ a) (dirRt b d) := by
  have h2 : hasSz ((b * a : Nat) : Int) = true := by rw [Nat.mul_comm]; exact h
  have := dirRt_part (a := b) (b := a) d h2
  rwa [Nat.mul_comm b a] at this
def colL (xs : List Int) (a b j : Nat) : List Int := (List.range a).map fun i => nth xs (i * b + j)
theorem colL_len (xs : List Int) (a b j : Nat) : (colL xs a b j).length = a := by simp [colL]
theorem nth_colL (xs : List Int) (a b j i : Nat) (h : i < a) : nth (colL xs a b j) i = nth xs (i * b + j) := nth_ofFn _ _ _ h
def gtL (xs : List Int) (a b : Nat) (za : Int) (tw : Nat → Nat → Int) : List Int := (List.range (a * b)).map fun k => nth (dftL (colL xs a b (k % b)) za) (k / b) * tw (k / b) (k % b) % 18446744069414584321
theorem gtL_len (xs : List Int) (a b : Nat) (za : Int) (tw : Nat → Nat → Int) : (gtL xs a b za tw).length = a * b := by simp [gtL]
theorem nth_gtL (xs : List Int) (a b : Nat) (za : Int) (tw : Nat → Nat → Int) (k : Nat) (h : k < a * b) : nth (gtL xs a b za tw) k = nth (dftL (colL xs a b (k % b)) za) (k / b) * tw (k / b) (k % b) % 18446744069414584321 := nth_ofFn _ _ _ h
theorem gtL_fits (xs : List Int) (a b : Nat) (za : Int) (tw : Nat → Nat → Int) : ∀ x ∈ gtL xs a b za tw, fits .u64 x := modL_fits _
def rowL (ts : List Int) (b i : Nat) : List Int := (List.range b).map fun j => nth ts (i * b + j)
theorem rowL_len (ts : List Int) (b i : Nat) : (rowL ts b i).length = b := by simp [rowL]
theorem nth_rowL (ts : List Int) (b i j : Nat) (h : j < b) : nth (rowL ts b i) j = nth ts (i * b + j) := nth_ofFn _ _ _ h
def grL (ts : List Int) (a b : Nat) (zb : Int) : List Int := (List.range (a * b)).map fun k => nth (dftL (rowL ts b (k / b)) zb) (k % b)
theorem grL_len (ts : List Int) (a b : Nat) (zb : Int) : (grL ts a b zb).length = a * b := by simp [grL]
theorem nth_grL (ts : List Int) (a b : Nat) (zb : Int) (k : Nat) (h : k < a * b) : nth (grL ts a b zb) k = nth (dftL (rowL ts b (k / b)) zb) (k % b) := nth_ofFn _ _ _ h
theorem dftL_range (xs : List Int) (z : Int) (k : Nat) (h : k < xs.length) : 0 ≤ nth (dftL xs z) k ∧ nth (dftL xs z) k < 18446744069414584321 := by
  rw [nth_dftL xs z k h]; exact pt_range _ _
theorem grL_range (ts : List Int) (a b : Nat) (zb : Int) (k : Nat) (h : k < a * b) : 0 ≤ nth (grL ts a b zb) k ∧ nth (grL ts a b zb) k < 18446744069414584321 := by
  have hb : 0 < b := Nat.pos_of_ne_zero (fun e => by subst e; omega)
  rw [nth_grL _ _ _ _ _ h]
  exact dftL_range _ _ _ (by rw [rowL_len]; exact Nat.mod_lt _ hb)
theorem at_row {b i j : Nat} (hj : j < b) : (i * b + j) / b = i ∧ (i * b + j) % b = j := by
  have hb : 0 < b := by omega
  constructor
  · rw [Nat.mul_comm, Nat.mul_add_div hb, Nat.div_eq_of_lt hj, Nat.add_zero]
  · rw [Nat.mul_comm, Nat.mul_add_mod, Nat.mod_eq_of_lt hj]
theorem row_in {a b i j : Nat} (hi : i < a) (hj : j < b) : i * b + j < a * b := by
  have : (i + 1) * b ≤ a * b := Nat.mul_le_mul_right b (by omega)
  rw [Nat.succ_mul] at this
  omega
/-- What the grid holds at a place, as a sum over rows and columns. -/
theorem grid_at (xs : List Int) (a b : Nat) (za zb : Int) (tw : Nat → Nat → Int) (i j : Nat) (hi : i < a) (hj : j < b) :
    Eqm (nth (grL (gtL xs a b za tw) a b zb) (i * b + j)) (S b (fun v => S a (fun u => nth xs (u * b + v) * za ^ (u * i)) * tw i v * zb ^ (v * j))) := by
  rw [nth_grL _ _ _ _ _ (row_in hi hj), (at_row hj).1, (at_row hj).2]
  refine (dftL_T _ _ j (by rw [rowL_len]; exact hj)).trans ?_
  rw [rowL_len]
  unfold T
  refine S_eqm fun v hv => ?_
  rw [nth_rowL _ _ _ _ hv, nth_gtL _ _ _ _ _ _ (row_in hi hv), (at_row hv).1, (at_row hv).2]
  refine ((Eqm.mod _).trans ?_).mul (rfl' _)
  refine Eqm.mul ?_ (rfl' _)
  refine (dftL_T _ _ i (by rw [colL_len]; exact hi)).trans ?_
  rw [colL_len]
  unfold T
  exact S_eqm fun u hu => by rw [nth_colL _ _ _ _ _ hu]; exact rfl' _
/-- Cooley and Tukey's way. -/
def splL (xs : List Int) (a b : Nat) (za zb z : Int) : List Int :=
  (List.range (a * b)).map fun k => nth (grL (gtL xs a b za (fun i j => pw z (i * j % (a * b)))) a b zb) (k % a * b + k / a)
theorem split_eq (xs : List Int) (a b : Nat) (d : Int) (hx : xs.length = a * b) (h : hasSz ((a * b : Nat) : Int) = true) :
    splL xs a b (dirRt a d) (dirRt b d) (dirRt (a * b) d) = dftL xs (dirRt (a * b) d) := by
  have hr := isRoot_dir (a * b) d h
  have ea := dirRt_part d h
  have eb := dirRt_part2 d h
  obtain ⟨z, hz⟩ : ∃ z, dirRt (a * b) d = z := ⟨_, rfl⟩
  obtain ⟨u, hu⟩ : ∃ u, dirBk (a * b) d = u := ⟨_, rfl⟩
  rw [hz, hu] at hr
  rw [hz] at ea eb ⊢
  have ha : 0 < a := by have := (hasSz_iff.1 (sz_part h).1).1; omega
  have hb : 0 < b := by have := (hasSz_iff.1 (sz_part h).2).1; omega
  refine dft_ofT xs _ z (by rw [hx]; simp [splL]) fun k hk => ?_
  rw [hx] at hk ⊢
  have hk1 : k % a < a := Nat.mod_lt _ ha
  have hk2 : k / a < b := Nat.div_lt_of_lt_mul hk
  have e0 : nth (splL xs a b (dirRt a d) (dirRt b d) z) k = nth (grL (gtL xs a b (dirRt a d) (fun i j => pw z (i * j % (a * b)))) a b (dirRt b d)) (k % a * b + k / a) := nth_ofFn _ _ _ hk
  rw [e0]
  have hb1 := grL_range (gtL xs a b (dirRt a d) (fun i j => pw z (i * j % (a * b)))) a b (dirRt b d) _ (row_in hk1 hk2)
  refine ⟨hb1.1, hb1.2, (grid_at xs a b _ _ _ _ _ hk1 hk2).trans ?_⟩
  obtain ⟨p, hp⟩ : ∃ p, k % a = p := ⟨_, rfl⟩
  obtain ⟨q, hq⟩ : ∃ q, k / a = q := ⟨_, rfl⟩
  have hkk : k = p + a * q := by rw [← hp, ← hq]; exact (Nat.mod_add_div k a).symm
  rw [hp, hq]
  unfold T
  rw [S_grid]
  refine Eqm.trans ?_ (by rw [S_swap]; exact rfl' _)
  refine S_eqm fun v hv => ?_
  rw [← S_mul_r, ← S_mul_r]
  refine S_eqm fun s hs => ?_
  have t1 : Eqm ((dirRt a d) ^ (s * p)) (z ^ (b * (s * p))) := by
    exact (ea.symm.pow _).trans (by rw [← Int.pow_mul]; exact rfl' _)
  have t2 : Eqm ((dirRt b d) ^ (v * q)) (z ^ (a * (v * q))) := by
    exact (eb.symm.pow _).trans (by rw [← Int.pow_mul]; exact rfl' _)
  have t3 : Eqm (pw z (p * v % (a * b))) (z ^ (p * v)) := (pw_eqm _ _).trans (hr.pow_mod _)
  have t4 := hr.times (s * q)
  have key : Eqm (nth xs (s * b + v) * (dirRt a d) ^ (s * p) * pw z (p * v % (a * b)) * (dirRt b d) ^ (v * q)) (nth xs (s * b + v) * z ^ (b * (s * p)) * z ^ (p * v) * z ^ (a * (v * q))) :=
    ((((rfl' _).mul t1).mul t3).mul t2)
  refine key.trans ?_
  have ex : (s * b + v) * k = b * (s * p) + p * v + a * (v * q) + a * b * (s * q) := by rw [hkk]; grind
  have e5 : nth xs (s * b + v) * z ^ ((s * b + v) * k) = nth xs (s * b + v) * z ^ (b * (s * p)) * z ^ (p * v) * z ^ (a * (v * q)) * z ^ (a * b * (s * q)) := by
    rw [ex, Int.pow_add, Int.pow_add, Int.pow_add]; simp only [Int.mul_assoc]
  rw [e5]
  have := (rfl' (nth xs (s * b + v) * z ^ (b * (s * p)) * z ^ (p * v) * z ^ (a * (v * q)))).mul t4
  rw [Int.mul_one] at this
  exact this.symm
/-- Good and Thomas's way. -/
def gdIn (xs : List Int) (a b : Nat) : List Int := (List.range (a * b)).map fun k => nth xs (gooF a b k)
theorem gdIn_len (xs : List Int) (a b : Nat) : (gdIn xs a b).length = a * b := by simp [gdIn]
theorem nth_gdIn (xs : List Int) (a b k : Nat) (h : k < a * b) : nth (gdIn xs a b) k = nth xs (gooF a b k) := nth_ofFn _ _ _ h
def gdL (xs : List Int) (a b : Nat) (za zb : Int) : List Int :=
  (List.range (a * b)).map fun k => nth (grL (gtL (gdIn xs a b) a b za (fun _ _ => 1)) a b zb) (crtF a b k)
theorem good_eq (xs : List Int) (a b : Nat) (d : Int) (hx : xs.length = a * b) (h : hasSz ((a * b : Nat) : Int) = true) (hg : Nat.gcd a b = 1) :
    gdL xs a b (dirRt a d) (dirRt b d) = dftL xs (dirRt (a * b) d) := by
  have hr := isRoot_dir (a * b) d h
  have ea := dirRt_part d h
  have eb := dirRt_part2 d h
  obtain ⟨z, hz⟩ : ∃ z, dirRt (a * b) d = z := ⟨_, rfl⟩
  obtain ⟨u, hu⟩ : ∃ u, dirBk (a * b) d = u := ⟨_, rfl⟩
  rw [hz, hu] at hr
  rw [hz] at ea eb ⊢
  have ha : 0 < a := by have := (hasSz_iff.1 (sz_part h).1).1; omega
  have hb : 0 < b := by have := (hasSz_iff.1 (sz_part h).2).1; omega
  refine dft_ofT xs _ z (by rw [hx]; simp [gdL]) fun k hk => ?_
  rw [hx] at hk ⊢
  have hk1 : k % a < a := Nat.mod_lt _ ha
  have hk2 : k % b < b := Nat.mod_lt _ hb
  have e0 : nth (gdL xs a b (dirRt a d) (dirRt b d)) k = nth (grL (gtL (gdIn xs a b) a b (dirRt a d) (fun _ _ => 1)) a b (dirRt b d)) (k % a * b + k % b) := nth_ofFn _ _ _ hk
  rw [e0]
  have hb1 := grL_range (gtL (gdIn xs a b) a b (dirRt a d) (fun _ _ => 1)) a b (dirRt b d) _ (row_in hk1 hk2)
  refine ⟨hb1.1, hb1.2, (grid_at (gdIn xs a b) a b _ _ _ _ _ hk1 hk2).trans ?_⟩
  unfold T
  rw [← S_perm (a * b) (fun i => nth xs i * z ^ (i * k)) (gooF a b) (gooF_lt a b) (gooF_inj a b hg), S_grid]
  refine Eqm.trans ?_ (by rw [S_swap]; exact rfl' _)
  refine S_eqm fun v hv => ?_
  rw [Int.mul_one, ← S_mul_r]
  refine S_eqm fun s hs => ?_
  rw [nth_gdIn _ _ _ _ (row_in hs hv)]
  have t1 : Eqm ((dirRt a d) ^ (s * (k % a))) (z ^ (b * (s * k))) := by
    refine (ea.symm.pow _).trans ?_
    rw [← Int.pow_mul]
    have hx : b * (s * k) = b * (s * (k % a)) + a * b * (s * (k / a)) := by
      have := Nat.mod_add_div k a
      obtain ⟨p, hp⟩ : ∃ p, k % a = p := ⟨_, rfl⟩
      obtain ⟨q, hq⟩ : ∃ q, k / a = q := ⟨_, rfl⟩
      rw [hp, hq] at this ⊢
      rw [← this]; grind
    rw [hx, Int.pow_add]
    have := (rfl' (z ^ (b * (s * (k % a))))).mul (hr.times (s * (k / a)))
    rw [Int.mul_one] at this
    exact this.symm
  have t2 : Eqm ((dirRt b d) ^ (v * (k % b))) (z ^ (a * (v * k))) := by
    refine (eb.symm.pow _).trans ?_
    rw [← Int.pow_mul]
    have hx : a * (v * k) = a * (v * (k % b)) + a * b * (v * (k / b)) := by
      have := Nat.mod_add_div k b
      obtain ⟨p, hp⟩ : ∃ p, k % b = p := ⟨_, rfl⟩
      obtain ⟨q, hq⟩ : ∃ q, k / b = q := ⟨_, rfl⟩
      rw [hp, hq] at this ⊢
      rw [← this]; grind
    rw [hx, Int.pow_add]
    have := (rfl' (z ^ (a * (v * (k % b))))).mul (hr.times (v * (k / b)))
    rw [Int.mul_one] at this
    exact this.symm
  refine (((rfl' _).mul t1).mul t2).trans ?_
  have e2 : gooF a b (s * b + v) = (s * b + v * a) % (a * b) := by unfold gooF; rw [(at_row hv).1, (at_row hv).2]
  rw [Int.mul_assoc, ← Int.pow_add]
  refine (rfl' _).mul ?_
  rw [e2, show b * (s * k) + a * (v * k) = (s * b + v * a) * k by grind, Int.pow_mul, Int.pow_mul]
  exact (hr.pow_mod _).symm.pow k
def arL (xs ts : List Int) (m : Nat) : List Int := scaleL (revL (dftL (mulL (dftL xs (dirRt m 0)) ts) (dirRt m 0))) (invN m)
theorem around_eq (xs rs : List Int) (m : Nat) (hx : xs.length = m) (hr : rs.length = m) (h : hasSz (m : Int) = true) :
    arL xs (dftL rs (dirRt m 0)) m = cvL xs rs m := by
  have hro := isRoot_dir m 0 h
  unfold arL
  rw [← dft_conv xs rs m _ _ hro hx hr]
  have ht := dft_twice (cvL xs rs m) 0 (by rw [cvL_len]; exact h)
  rw [cvL_len] at ht
  rw [ht]
  have hb := hasSz_iff.1 h
  apply ext_nth (by rw [scaleL_len, revL_len, scaleL_len, revL_len])
  intro k hk
  rw [scaleL_len, revL_len, scaleL_len, revL_len, cvL_len] at hk
  have hl1 : (scaleL (revL (cvL xs rs m)) (m : Int)).length = m := by rw [scaleL_len, revL_len, cvL_len]
  rw [nth_scaleL _ _ _ (by rw [revL_len, hl1]; exact hk)]
  have e1 : nth (revL (scaleL (revL (cvL xs rs m)) (m : Int))) k = nth (scaleL (revL (cvL xs rs m)) (m : Int)) (revAt m k) % 18446744069414584321 := by
    rw [nth_revL _ _ (by rw [hl1]; exact hk), hl1]
  have hrv := revAt_lt hk
  rw [e1, nth_scaleL _ _ _ (by rw [revL_len, cvL_len]; exact hrv)]
  have e2 : nth (revL (cvL xs rs m)) (revAt m k) = nth (cvL xs rs m) (revAt m (revAt m k)) % 18446744069414584321 := by
    rw [nth_revL _ _ (by rw [cvL_len]; exact hrv), cvL_len]
  have e3 : revAt m (revAt m k) = k := by
    unfold revAt
    by_cases h0 : k = 0
    · subst h0; simp
    · rw [Nat.mod_eq_of_lt (show m - k < m by omega), show m - (m - k) = k by omega, Nat.mod_eq_of_lt hk]
  rw [e2, e3, nth_cvL _ _ _ _ hk]
  obtain ⟨c, hc⟩ : ∃ c, cvS xs rs m k = c := ⟨_, rfl⟩
  rw [hc]
  refine eq_of_eqm ?_ (by omega) (by omega) (by omega) (by omega)
  refine (Eqm.mod _).trans ?_
  have s1 : Eqm (c % 18446744069414584321 % 18446744069414584321 * (m : Int) % 18446744069414584321 % 18446744069414584321 * invN m) (c % 18446744069414584321 * (m : Int) * invN m) :=
    ((Eqm.mod _).trans ((Eqm.mod _).trans ((Eqm.mod _).mul (rfl' _)))).mul (rfl' _)
  refine s1.trans ?_
  rw [Int.mul_assoc]
  have := (rfl' (c % 18446744069414584321)).mul (inv_n m (by omega) (by omega))
  rwa [Int.mul_one] at this
def radIn (xs : List Int) (q : Nat) : List Int := (List.range (q - 1)).map fun i => nth xs (gp q i)
theorem radIn_len (xs : List Int) (q : Nat) : (radIn xs q).length = q - 1 := by simp [radIn]
theorem nth_radIn (xs : List Int) (q i : Nat) (h : i < q - 1) : nth (radIn xs q) i = nth xs (gp q i) := nth_ofFn _ _ _ h
theorem radAt_lt {q : Nat} (h : IsFq q) (i : Nat) : radAt q i < q := gp_lt q _ (by have := fq_bd h; omega)
theorem radAt_pos {q : Nat} (h : IsFq q) (i : Nat) : 0 < radAt q i := gp_pos h _
theorem radAt_inj {q : Nat} (h : IsFq q) (i j : Nat) (hij : i < j) (hj : j < q - 1) : radAt q i ≠ radAt q j := by
  have hb := fq_bd h
  unfold radAt
  by_cases h0 : i = 0
  · subst h0
    rw [Nat.sub_zero, Nat.mod_self, Nat.mod_eq_of_lt (show q - 1 - j < q - 1 by omega)]
    exact gp_inj h _ _ (by omega) (by omega)
  · rw [Nat.mod_eq_of_lt (show q - 1 - i < q - 1 by omega), Nat.mod_eq_of_lt (show q - 1 - j < q - 1 by omega)]
    exact fun e => gp_inj h _ _ (by omega) (by omega) e.symm
theorem radAt_onto {q : Nat} (h : IsFq q) (b : Nat) (h1 : 1 ≤ b) (h2 : b < q) : ∃ i, i < q - 1 ∧ radAt q i = b := by
  have hb := fq_bd h
  obtain ⟨i, hi, he⟩ := gp_onto h b h1 h2
  by_cases h0 : i = 0
  · exact ⟨0, by omega, by rw [radAt_zero h, ← he, h0, gp_zero h]⟩
  · exact ⟨q - 1 - i, by omega, by rw [radAt_eq h _ (by omega), show q - 1 - (q - 1 - i) = i by omega]; exact he⟩
theorem sumP_S (n : Nat) (f : Nat → Int) : sumP ((List.range n).map f) = S n f % 18446744069414584321 := by
  induction n with
  | zero => rfl
  | succ n ih => rw [List.range_succ, List.map_append, List.map_singleton, sumP_snoc, ih, Int.emod_add_emod]; rfl
theorem list_nth (xs : List Int) : xs = (List.range xs.length).map (nth xs) :=
  ext_nth (by simp) fun i hi => (nth_ofFn _ _ _ hi).symm
theorem sumP_nth (xs : List Int) : sumP xs = S xs.length (nth xs) % 18446744069414584321 := by
  have := sumP_S xs.length (nth xs)
  rwa [← list_nth] at this
theorem rader_eq (xs ys : List Int) (q : Nat) (d : Int) (hq : IsFq q) (hs : hasSz (q : Int) = true) (hx : xs.length = q) (hy : ys.length = q)
    (h0 : nth ys 0 = sumP xs) (h : ∀ i, i < q - 1 → nth ys (radAt q i) = (nth xs 0 + nth (cvL (radIn xs q) (radL (dirRt q d) q) (q - 1)) i) % 18446744069414584321) : ys = dftL xs (dirRt q d) := by
  have hr := isRoot_dir q d hs
  have hb := fq_bd hq
  obtain ⟨z, hz⟩ : ∃ z, dirRt q d = z := ⟨_, rfl⟩
  rw [hz] at hr h ⊢
  refine dft_ofT xs ys z (by rw [hx, hy]) fun k hk => ?_
  rw [hx] at hk ⊢
  by_cases hk0 : k = 0
  · subst hk0
    rw [h0]
    have hbd := sumP_range xs
    refine ⟨hbd.1, hbd.2, ?_⟩
    rw [sumP_nth, hx]
    refine (Eqm.mod _).trans ?_
    unfold T
    exact S_eqm fun i _ => by rw [Nat.mul_zero, Int.pow_zero, Int.mul_one]; exact rfl' _
  · obtain ⟨i, hi, rfl⟩ := radAt_onto hq k (by omega) hk
    rw [h i hi]
    refine ⟨by omega, by omega, (Eqm.mod _).trans ?_⟩
    obtain ⟨κ, hκ⟩ : ∃ κ, radAt q i = κ := ⟨_, rfl⟩
    rw [hκ]
    have e1 : T q z (nth xs) κ = nth xs 0 + S (q - 1) (fun t => nth xs (t + 1) * z ^ ((t + 1) * κ)) := by
      unfold T
      rw [show q = (q - 1) + 1 by omega, S_head, Nat.zero_mul, Int.pow_zero, Int.mul_one]
      rfl
    rw [e1]
    refine (rfl' _).add ?_
    have e2 := S_perm (q - 1) (fun t => nth xs (t + 1) * z ^ ((t + 1) * κ)) (fun t => gp q t - 1) (fun t _ => by
        have := gp_lt q t (by omega)
        show gp q t - 1 < q - 1
        omega) (fun t v htv hv => by
        have a := gp_pos hq t
        have b := gp_pos hq v
        have c := gp_inj hq t v htv hv
        show gp q t - 1 ≠ gp q v - 1
        omega)
    rw [← e2, nth_cvL _ _ _ _ hi, cyc_at _ _ (q - 1) i (radIn_len _ _) (radL_len _ _) hi]
    refine (Eqm.mod _).trans (S_eqm fun t ht => ?_)
    have hgt := gp_pos hq t
    have ho := othAt_lt (q - 1) i t (by omega)
    rw [nth_radIn _ _ _ ht, nth_radL _ _ _ ho, show gp q t - 1 + 1 = gp q t by omega]
    refine (rfl' _).mul ?_
    refine (pw_eqm _ _).trans ?_
    have e3 : radAt q (othAt (q - 1) i t) = gp q t * κ % q := by
      rw [← hκ]
      unfold radAt
      rw [gp_mod hq (q - 1 - i), ← gp_add]
      have e4 : (q - 1 - othAt (q - 1) i t) % (q - 1) = (t + (q - 1 - i)) % (q - 1) := by
        unfold othAt
        obtain ⟨m, hm⟩ : ∃ m, q - 1 = m := ⟨_, rfl⟩
        rw [hm] at hi ht ⊢
        by_cases hti : t ≤ i
        · rw [show i + m - t = (i - t) + m by omega, Nat.add_mod_right, Nat.mod_eq_of_lt (show i - t < m by omega), show m - (i - t) = t + (m - i) by omega]
        · rw [Nat.mod_eq_of_lt (show i + m - t < m by omega), show m - (i + m - t) = t - i by omega, show t + (m - i) = (t - i) + m by omega, Nat.add_mod_right]
      rw [e4, gp_mod hq]
    rw [e3]
    exact hr.pow_mod _
end Go.Proofs.YtlnlijeamflpiaaGreat

namespace Go.Proofs.YtlnlijeamflpiaaGreat
open Go.RowKit
set_option linter.unusedVariables false
set_option linter.unusedSimpArgs false
set_option maxRecDepth 100000
/-- A result: a new row, of the call's own. -/
def GivesOwn (k : IntKind) (t : TypeId) (xs : List Int) (w : World) (e : Ending) (w' : World) : Prop :=
  ∃ a cap, e = .returned (.slice a xs.length cap) ∧ w'.ownsRow w.heap.size t 1 (.slice a xs.length cap) xs.length (xs.map (Value.int k)) ∧ (∀ x ∈ xs, fits k x) ∧ xs.length ≤ 16777216 ∧ Below w.heap.size w w'
theorem GivesOwn.row {k : IntKind} {t : TypeId} {xs : List Int} {w w' : World} {e : Ending} (h : GivesOwn k t xs w e w') : GivesRow k xs w e w' := by
  obtain ⟨a, cap, rfl, ho, hf, hl, hb⟩ := h
  exact gives_of_own ho hb rfl rfl hf hl
theorem Own.givesO {k : IntKind} {e : TypeId} {w wr : World} {v : Value} {n : Nat} {f : Nat → Int} (h : Own k e w wr v n f) {xs : List Int} (hn : xs.length = n) (hw : ∀ x ∈ xs, fits k x) (hf : ∀ i, i < n → nth xs i = f i) (hl : n ≤ 16777216) :
    GivesOwn k e xs w (.returned v) wr := by
  obtain ⟨a, cap, rfl, hnil⟩ := own_slice h.own
  have e1 : xs.map (Value.int k) = (List.range n).map fun j => Value.int k (f j) := by
    apply List.ext_getElem (by simp [hn])
    intro i h1 h2
    have h3 : i < n := by simpa [hn] using h1
    have := hf i h3
    simp only [List.getElem_map, List.getElem_range]
    rw [← this]
    simp [nth, show i < xs.length by omega]
  refine ⟨a, cap, by rw [hn], ?_, hw, by omega, h.below⟩
  rw [hn, e1]
  exact h.own
theorem OwnAt.givesO {k : IntKind} {e : TypeId} {w wr : World} {g n : Nat} {f : Nat → Int} (h : OwnAt k e w wr g n f) {xs : List Int} (hn : xs.length = n) (hw : ∀ x ∈ xs, fits k x) (hf : ∀ i, i < n → nth xs i = f i) (hl : n ≤ 16777216) :
    GivesOwn k e xs w (.returned (.slice (some ⟨g, 0, none⟩) n n)) wr :=
  Own.givesO (e := e) ⟨h.own, h.below⟩ hn hw hf hl
theorem zeros_list (x : Value) (n : Nat) : (Builtin.zeroCells #[x] n).toList = List.replicate n x := by
  have hs := size_zeroCells #[x] n
  apply List.ext_getElem
  · simp [hs]
  · intro i h1 h2
    simp [Builtin.zeroCells, Nat.mod_one]
theorem run_append_zeros_own {P : Program} (w : World) (base : Nat) (t tn ty e : TypeId) (i : TypeInfo) (k kq kn : IntKind) (ht : P.underlying t = some (.slice e)) (htn : P.underlying tn = some (.int kn)) (hi : P.info? e = some i) (hz : i.zero = some (.int k 0)) (hz1 : i.size = 1) (hz2 : i.bytes = 8)
    (v : Value) (n : Nat) (xs : List Value) (hown : w.ownsRow base e 1 v n xs) (m : Nat) (hlen : n + m ≤ 100000000) (hbase : base ≤ w.heap.size) :
    ∃ v' w', (Builtin.append_ #[t, tn] ty #[v, .int kq m]).run P w = .ok v' w' ∧ w'.ownsRow base e 1 v' (n + m) (xs ++ List.replicate m (.int k 0)) ∧ w.grownBy w' v.ownBlock := by
  have hxl : xs.length = n := by rw [hown.1, Nat.mul_one]
  have hw : IntKind.i64.wrap (m : Int) = m := IntWalk.i64_in _ (by omega)
  have hw0 : IntKind.i64.wrap 0 = 0 := rfl
  have hneg : ¬ ((m : Int) < 0) := by omega
  have h48 : ¬ (281474976710656 < (m : Int) * 8) := by omega
  have hlen2 : (xs ++ List.replicate m (Value.int k 0)).length = (n + m) * 1 := by simp [hxl]
  have hZ : (Value.int k 0).cells = #[Value.int k 0] := rfl
  have grown : ∀ (old : Nat) (row : Option Nat), old < n + m →
      (w.drew.alloc (.cells (xs.toArray ++ Builtin.zeroCells #[Value.int k 0] m ++ Builtin.zeroCells #[Value.int k 0] (grownCap w (n + m) old e - (n + m))) e)).ownsRow base e 1
        (.slice (some ⟨w.heap.size, 0, none⟩) (n + m) (grownCap w (n + m) old e)) (n + m) (xs ++ List.replicate m (.int k 0)) ∧
      w.grownBy (w.drew.alloc (.cells (xs.toArray ++ Builtin.zeroCells #[Value.int k 0] m ++ Builtin.zeroCells #[Value.int k 0] (grownCap w (n + m) old e - (n + m))) e)) row := by
    intro old row ho
    have hge := grownCap_ge w (n + m) old e
    have hcm : grownCap w (n + m) old e ≤ maxLen := grownCap_le_maxLen w (n + m) old e (by unfold maxLen; omega)
    refine ⟨⟨hlen2, .inr ⟨w.heap.size, _, _, rfl, hbase, heap_alloc_new w.drew _, hge, hcm, ?_, ?_⟩⟩, ⟨rfl, rfl, rfl, by simp, fun j hj _ => heap_alloc_old w.drew _ hj⟩⟩
    · simp only [Array.size_append, List.size_toArray, size_zeroCells, hxl]
      simp
      omega
    · simp only [Array.toList_append, zeros_list]
      rw [← hlen2]
      exact List.take_left
  rcases hown.2 with ⟨rfl, rfl⟩ | ⟨g, cap, cur, rfl, hbg, hg, hnc, hcm, hcs, htake⟩
  · have hx : xs = [] := List.eq_nil_of_length_eq_zero hxl
    subst hx
    by_cases hm : m = 0
    · subst hm
      refine ⟨.slice none 0 0, w, ?_, World.ownsRow_nil w base e 1, World.grownBy.refl _ _⟩
      simp [Builtin.append_, run_underlying ht, run_underlying htn, sizeOf, typeInfo, hi, asInt, asIntOf, hw0]
    · have hr := Lib.run_append_nil_zeros (P := P) w t tn ty e i (.int k 0) kq kn ht htn hi hz m (by omega) (by omega) (by omega) (by rw [hz2]; omega)
      have hgr := grown 0 (Value.ownBlock (.slice none 0 0)) (by omega)
      rw [hZ] at hr
      simp only [Nat.zero_add, List.nil_append, Array.empty_append] at hgr ⊢
      exact ⟨_, _, hr, hgr.1, hgr.2⟩
  · by_cases hroom : n + m ≤ cap
    · have hcs' : cur.size = cap := by rw [hcs, Nat.mul_one]
      have hst := run_storeCells_at P g n e (List.replicate m (.int k 0)) 0 cur w hg (by simp; omega) (by intro u hu; rw [List.eq_of_mem_replicate hu]; rfl)
      refine ⟨_, w.setRow g (cur.toList.take n ++ List.replicate m (Value.int k 0) ++ cur.toList.drop (n + m)).toArray, ?_, ⟨hlen2, .inr ⟨g, cap, _, rfl, hbg, setRow_heap w g cur _ e _ hg, hroom, hcm, ?_, ?_⟩⟩, ⟨rfl, rfl, rfl, by simp, fun j _ hj => setRow_other w g j _ (fun e => hj (by simp [Value.ownBlock, e]))⟩⟩
      · by_cases hm : m = 0
        · subst hm
          have hself : w.setRow g (cur.toList.take n ++ List.replicate 0 (Value.int k 0) ++ cur.toList.drop (n + 0)).toArray = w := by
            simp only [List.replicate_zero, List.append_nil, Nat.add_zero, List.take_append_drop, Array.toArray_toList]
            exact setRow_self w g cur e (0, 0) hg
          rw [hself]
          simp [Builtin.append_, run_underlying ht, run_underlying htn, sizeOf, typeInfo, hi, asInt, asIntOf, hnc, hw0, storeCells]
        · have hns : ¬ (m * i.size = 0) := by rw [hz1]; omega
          simp only [Nat.add_zero, List.length_replicate] at hst
          simp [Builtin.append_, run_underlying ht, run_underlying htn, sizeOf, typeInfo, zeroValue, hi, hz, hz1, hz2, asInt, asIntOf, hw, hneg, h48, hroom, hm, zeros_list, Value.cells, Addr.add_lit, hst]
      · simp only [List.size_toArray, List.length_append, List.length_take, List.length_drop, Array.length_toList, List.length_replicate]
        omega
      · rw [Nat.mul_one] at htake
        rw [htake, ← hlen2]
        exact List.take_left
    · have holds : ∀ j u, xs[j]? = some u → w.cell? ((⟨g, 0, none⟩ : Addr).add j) = some u := hown.cells (g := g) rfl
      have hfo := run_firstCells_some (P := P) w.drew i.size n ⟨g, 0, none⟩ n cap xs (by rw [hz1, hxl, Nat.mul_one]) (by simpa using holds)
      by_cases hm : m = 0
      · omega
      · have hfit : Builtin.nextslicecap (n + m) cap * i.bytes ≤ 281474976710656 := growslice_fits (by omega) (by rw [hz2]; omega)
        have hr := Lib.run_append_grow_zeros (P := P) w t tn ty e i (.int k 0) kq kn ht htn hi hz (some ⟨g, 0, none⟩) n cap xs hfo m (by omega) (by omega) (by omega) (by omega) (by rw [hz2]; omega) hfit
        have hgr := grown cap (Value.ownBlock (.slice (some ⟨g, 0, none⟩) n cap)) (by omega)
        rw [hZ] at hr
        exact ⟨_, _, hr, hgr.1, hgr.2⟩
/-- append(own, make([]T, m)...) in a walk. -/
theorem wpList_append_zeros {P : Program} (w : World) {ops : Array Oper} {rest : List Oper} {o : Oper} {a : Act} {Q : Exit → Act → World → Prop} (hgd : o.guard = none) (s x : Operand) (t tn : TypeId)
    (ho : o.op = .call { callee := .builtin .append, args := #[s, x], argTypes := #[t, tn] }) (base : Nat) (e : TypeId) (i : TypeInfo) (k kq kn : IntKind) (ht : P.underlying t = some (.slice e)) (htn : P.underlying tn = some (.int kn)) (hi : P.info? e = some i) (hz : i.zero = some (.int k 0)) (hz1 : i.size = 1) (hz2 : i.bytes = 8)
    (v : Value) (n : Nat) (xs : List Value) (hs : a.eval s = v) (hown : w.ownsRow base e 1 v n xs) (m : Nat) (hx : a.eval x = .int kq m) (hlen : n + m ≤ 100000000) (hbase : base ≤ w.heap.size)
    (h : ∀ v' w', w'.ownsRow base e 1 v' (n + m) (xs ++ List.replicate m (.int k 0)) → w.grownBy w' v.ownBlock → wpList P ops Q rest (a.put o.dst v') w') : wpList P ops Q (o :: rest) a w := by
  obtain ⟨v', w', hr, h1, h2⟩ := run_append_zeros_own (P := P) w base t tn o.type e i k kq kn ht htn hi hz hz1 hz2 v n xs hown m hlen hbase
  exact Lib.wpList_append_run w hgd s x t tn ho v (.int kq m) hs hx v' w' hr (h v' w' h1 h2)
end Go.Proofs.YtlnlijeamflpiaaGreat

namespace Go.Proofs.YtlnlijeamflpiaaGreat
open Go.RowKit
set_option linter.unusedVariables false
set_option linter.unusedSimpArgs false
set_option maxRecDepth 100000
set_option maxHeartbeats 400000 in
theorem vec_eachO (n : Nat) (g : Nat → Int) (fid : Nat) (caps : Array Value) (w : World) (hn : n ≤ 16777216) (hg : ∀ i, i < n → fits .u64 (g i)) 
    (hent : ∀ args w, (callFunc fid args).run Tryz.prog w = .ok (.enter fid args) w)
    (hf : ∀ (i : Nat) (wr : World), i < n → Below w.heap.size w wr → Calls Tryz.prog fid (#[.int .i64 i] ++ caps) wr fun e w' => e = .returned (.int .u64 (g i)) ∧ Below wr.heap.size wr w') :
    Calls Tryz.prog 82 #[.int .i64 n, .func (.func fid) #[] caps] w (GivesOwn .u64 23 ((List.range n).map g) w) := by
  obtain ⟨i0, hi, hz0, hz1, hz2⟩ := info_parts info_u64
  have HF := Lib.hid hf
  have HG := Lib.hid hg
  clear hf hg
  go_enter Tryz.func82, Tryz.ntmps82
  go_wp2_with (at_make; refine wpList_make_full _ rfl _ _ 22 rfl w.heap.size 23 i0 (.int .u64 0) 1 Tryz.underlying22 hi hz0 hz1 .i64 .i64 n n n rfl rfl rfl rfl (by rw [hz2]; omega) (by unfold maxLen; omega) (Nat.le_refl _) ?_)
  intro w1 hown0 hgrow0
  have hown := Own.made hown0 hgrow0
  clear hown0 hgrow0
  go_wp2_with fail
  go_loopw [11] (fun i wr => ∃ k : Nat, k ≤ n ∧ i = .int .i64 k ∧ OwnAt .u64 23 w wr w.heap.size n (fun j => if j < k then g j else 0)) (fun i _ => n - (intOf i).toNat)
  case atStart => exact ⟨0, Nat.zero_le _, rfl, by simpa using hown⟩
  case round =>
    obtain ⟨k, hk, rfl, hown⟩ := hrel
    by_cases hlt : k < n
    · have hcall := HF.out k wr hlt hown.below
      go_wp2_with fail
      refine hcall.mono ?_
      rintro e w' ⟨rfl, hb'⟩
      have hown2 := hown.later hb'
      have hc := hown2.cell k hlt
      rw [if_neg (Nat.lt_irrefl k)] at hc
      have hfz := hown2.free k
      have hnext := hown2.store k hlt (g k) (f' := fun j => if j < k + 1 then g j else 0) (by simp) (fun j _ hj => by
        by_cases h1 : j < k
        · simp [h1, show j < k + 1 by omega]
        · simp [h1, show ¬ j < k + 1 by omega])
      have HN := Lib.hid hnext
      clear hnext hcall hown hown2 hb'
      go_wp2_with fail
      go_roundw
      case rel => exact ⟨k + 1, by omega, by go_num, HN.out⟩
      case measure => simp [intOf]; omega
    · have hres := hown.givesO (xs := (List.range n).map g) (by simp) (fun x hx => by obtain ⟨i, hi, rfl⟩ := List.mem_map.1 hx; exact HG.out i (by simpa using hi)) (fun i hi => by rw [nth_ofFn _ _ _ hi, if_pos (by omega)]) hn
      clear hown
      go_wp2_with fail
      go_ret
      exact hres
theorem own_base {w : World} {B B' : Nat} {e : TypeId} {v : Value} {n : Nat} {xs : List Value} (h : w.ownsRow B e 1 v n xs) (hB : B' ≤ B) : w.ownsRow B' e 1 v n xs := by
  obtain ⟨h1, h2 | ⟨g, cap, cur, h3, h4, h5⟩⟩ := h
  · exact ⟨h1, .inl h2⟩
  · exact ⟨h1, .inr ⟨g, cap, cur, h3, Nat.le_trans hB h4, h5⟩⟩
set_option maxHeartbeats 400000 in
theorem vec_RedO (a : Option Addr) (cap : Nat) (xs : List Int) (w : World) (hx : Row .u64 w a xs) (hl : xs.length ≤ 16777216) :
    Calls Tryz.prog 49 #[.slice a xs.length cap] w (GivesOwn .u64 23 (xs.map (· % 18446744069414584321)) w) := by
  have hent : ∀ args w, (callFunc 83 args).run Tryz.prog w = .ok (.enter 83 args) w := enters_of Tryz.func83 (by kernel_rfl) rfl
  have HX : Hid (Row .u64 w a xs) := hx
  clear hx
  have hc0 := one_new w (.slice a xs.length cap) 22
  have hf : ∀ (i : Nat) (wr : World), i < xs.length → Below (w.alloc (.cells #[.slice a xs.length cap] 22)).heap.size (w.alloc (.cells #[.slice a xs.length cap] 22)) wr →
      Calls Tryz.prog 83 (#[.int .i64 i] ++ #[.pointer (some ⟨w.heap.size, 0, none⟩)]) wr fun e w' => e = .returned (.int .u64 (nth xs i % 18446744069414584321)) ∧ Below wr.heap.size wr w' :=
    fun i wr hi hb => (vec_Red1 i a cap xs w.heap.size wr hi (by rw [hb.cell (by simp)]; exact hc0) ((HX.out.below ((Below.refl _ _).alloc (Nat.le_refl _) _)).below hb)).mono fun e w' ⟨he, hw⟩ => ⟨he, hw ▸ Below.refl _ _⟩
  have HF := Lib.hid hf
  clear hf
  go_enter Tryz.func49, Tryz.ntmps49
  go_wp2_with fail
  refine (vec_eachO xs.length (fun i => nth xs i % 18446744069414584321) _ _ _ hl (modfits _) hent (HF.out)).mono ?_
  rintro e w' ⟨a', cap', rfl, hr, hfit, hle, hb⟩
  have HR := Lib.hid hr
  have HFIT := Lib.hid hfit
  clear hr hfit
  go_wp2_with fail
  go_ret
  refine ⟨a', cap', by simp, ?_, by rw [map_nth (· % 18446744069414584321) xs]; exact HFIT.out, by simpa using hle, ((Below.refl _ _).alloc (Nat.le_refl _) _).trans (hb.mono (by simp))⟩
  have h := HR.out
  rw [← map_nth (· % 18446744069414584321) xs] at h
  exact own_base h (by simp)
end Go.Proofs.YtlnlijeamflpiaaGreat

namespace Go.Proofs.YtlnlijeamflpiaaGreat
open Go.RowKit Sm
set_option linter.unusedVariables false
set_option linter.unusedSimpArgs false
set_option maxRecDepth 100000
theorem own_eqz {k : IntKind} {e : TypeId} {w wr : World} {g n : Nat} {f f' : Nat → Int} (h : OwnAt k e w wr g n f) (he : ∀ n, f' n = f n) : OwnAt k e w wr g n f' := by
  rw [show f' = f from funext he]; exact h
set_option maxHeartbeats 800000 in
theorem rootPowers (a : Int) (n : Nat) (w : World) (h0 : 0 ≤ a) (h1 : a < 18446744073709551616) (hn : n ≤ 16777216) :
    Calls Tryz.prog 146 #[.int .u64 a, .int .i64 n] w (GivesRowE .u64 (powL a n) 0 w) := by
  obtain ⟨i0, hi, hz0, hz1, hz2⟩ := info_parts info_u64
  go_enter Tryz.func146, Tryz.ntmps146
  go_wp2_with (at_make; refine wpList_make_full _ rfl _ _ 22 rfl w.heap.size 23 i0 (.int .u64 0) 1 Tryz.underlying22 hi hz0 hz1 .i64 .i64 n n n rfl rfl rfl rfl (by rw [hz2]; omega) (by unfold maxLen; omega) (Nat.le_refl _) ?_)
  intro w1 hown0 hgrow0
  have hown := Own.made hown0 hgrow0
  clear hown0 hgrow0
  go_wp2_with fail
  go_loopw [7, 19] (fun p i wr => ∃ (k : Nat) (v : Int), k ≤ n ∧ i = .int .i64 k ∧ p = .int .u64 v ∧ Hid (v = pw a k) ∧ 0 ≤ v ∧ v < 18446744069414584321 ∧ OwnAt .u64 23 w wr w.heap.size n (fun j => if j < k then pw a j else 0)) (fun _ i _ => n - (intOf i).toNat)
  case atStart => exact ⟨0, 1, Nat.zero_le _, rfl, rfl, (pw_0 a).symm, by omega, by omega, own_eqz hown (fun j => if_neg (by omega))⟩
  case round =>
    obtain ⟨k, v, hk, rfl, rfl, HV, hv0, hv1, hown⟩ := hrel
    by_cases hlt : k < n
    · have hcell := hown.cell k hlt
      rw [if_neg (Nat.lt_irrefl k)] at hcell
      have hfz := hown.free k
      have hnext := hown.store k hlt v (f' := fun j => if j < k + 1 then pw a j else 0) (by rw [if_pos (by omega)]; exact HV.out.symm) (fun j _ hj => by
        by_cases h : j < k
        · rw [if_pos h, if_pos (by omega)]
        · rw [if_neg h, if_neg (by omega)])
      have HN := Lib.hid hnext
      have HM : Hid (v * a % 18446744069414584321 = pw a (k + 1)) := by unfold Hid; rw [HV.out]; exact pw_succ a k
      clear hown hnext
      go_wp2_with (first | (go_at_call 46; refine (gold_Mul _ _ _ (by omega) (by omega) (by omega) (by omega)).mono ?_; rintro e w' ⟨rfl, rfl⟩))
      go_roundw
      case rel => exact ⟨k + 1, _, by omega, by go_num, rfl, HM.out, by omega, by omega, HN.out⟩
      case measure => simp [intOf]; omega
    · have hkn : k = n := by omega
      have hrow := hown.row (xs := powL a n) (powL_len a n) (powL_fits a n) (fun i hi => by rw [show nth (powL a n) i = pw a i from nth_ofFn _ _ _ hi, if_pos (by omega)]) hn
      have hb := hown.below
      have HR := Lib.hid hrow
      have HL := Lib.hid (powL_len a n)
      clear hown hrow
      go_wp2_with fail
      go_ret2
      exact ⟨some ⟨w.heap.size, 0, none⟩, n, by simp [HL.out], HR.out, by rw [HL.out]; exact ⟨Nat.le_refl _, fun h => by cases h⟩, hb⟩
end Go.Proofs.YtlnlijeamflpiaaGreat

namespace Go.Proofs.YtlnlijeamflpiaaGreat
open Go.RowKit
set_option linter.unusedVariables false
set_option linter.unusedSimpArgs false
set_option maxRecDepth 100000
@[irreducible] def pmo (a n q : Nat) : Nat := a ^ n % q
theorem pmo_step1 {p a n q V : Nat} (h1 : n % 2 = 1) (H : p * a ^ n % q = V) : (p * a % q) * (a * a % q) ^ (n / 2) % q = V := by
  rw [Nat.mod_mul_mod, Nat.mul_mod, ← Nat.pow_mod, ← Nat.mul_mod, ← Nat.pow_two, ← Nat.pow_mul, Nat.mul_assoc, ← Nat.pow_succ', Nat.succ_eq_add_one, show 2 * (n / 2) + 1 = n by omega]
  exact H
theorem pmo_step0 {p a n q V : Nat} (h1 : n % 2 = 0) (H : p * a ^ n % q = V) : p * (a * a % q) ^ (n / 2) % q = V := by
  rw [Nat.mul_mod, ← Nat.pow_mod, ← Nat.mul_mod, ← Nat.pow_two, ← Nat.pow_mul, show 2 * (n / 2) = n by omega]
  exact H
theorem mulN (a b s : Nat) (h : a * b = s) : (a : Int) * (b : Int) = (s : Int) := by rw [← h]; simp
theorem modN (s q r : Nat) (h : s % q = r) : (s : Int).tmod (q : Int) = (r : Int) ∧ (s : Int) % (q : Int) = (r : Int) := by
  subst h
  exact ⟨by rw [Int.tmod_eq_emod_of_nonneg (by omega), Int.natCast_emod], by rw [← Int.natCast_emod]⟩
theorem divN (s q r : Nat) (h : s / q = r) : (s : Int).tdiv (q : Int) = (r : Int) ∧ (s : Int) / (q : Int) = (r : Int) := by
  subst h
  exact ⟨by rw [Int.tdiv_eq_ediv_of_nonneg (by omega), Int.natCast_ediv], by rw [← Int.natCast_ediv]⟩
theorem prod_bd {a b q : Nat} (ha : a < q) (hb : b < q) (hq : q ≤ 131072) : a * b ≤ 131072 * 131072 := Nat.mul_le_mul (by omega) (by omega)
set_option maxHeartbeats 1000000 in
theorem gen_power (a n q : Nat) (w : World) (hq1 : 2 ≤ q) (hq2 : q ≤ 131072) (ha : a < q) (hn : n ≤ 131072) :
    Calls Tryz.prog 191 #[.int .i64 a, .int .i64 n, .int .i64 q] w fun e w' => e = .returned (.int .i64 (pmo a n q : Nat)) ∧ w = w' := by
  obtain ⟨V, hV⟩ : ∃ V, a ^ n % q = V := ⟨_, rfl⟩
  have HV : Hid (1 * a ^ n % q = V) := by unfold Hid; rw [Nat.one_mul]; exact hV
  have HP : Hid (pmo a n q = V) := by unfold Hid pmo; exact hV
  have z1 : ((q : Int) == 0) = false := bno (by omega)
  have z2 : ¬ (q : Int) = 0 := by omega
  have o1 := (modN 1 q 1 (Nat.mod_eq_of_lt (by omega))).1
  have o2 := (modN 1 q 1 (Nat.mod_eq_of_lt (by omega))).2
  clear hV
  simp only [Int.natCast_one] at o1 o2
  go_enter Tryz.func191, Tryz.ntmps191
  go_wp2_with fail
  go_loop [0, 1, 7] (fun x y z => ∃ b m p : Nat, x = .int .i64 b ∧ y = .int .i64 m ∧ z = .int .i64 p ∧ b < q ∧ m ≤ 131072 ∧ p < q ∧ Hid (p * b ^ m % q = V)) (fun x y z => (intOf y).toNat)
  case atStart => exact ⟨a, n, 1, rfl, rfl, rfl, ha, hn, by omega, HV.out⟩
  case round =>
    obtain ⟨b, m, p, rfl, rfl, rfl, hb, hm, hp, H⟩ := hrel
    by_cases h0 : m = 0
    · subst h0
      go_wp2_with fail
      go_ret
      refine ⟨ret_int ?_, rfl⟩
      have h := H.out
      rw [Nat.pow_zero, Nat.mul_one, Nat.mod_eq_of_lt hp] at h
      rw [HP.out, h]
    · have hpos : (0 : Int) < (m : Int) := by omega
      obtain ⟨k, hk⟩ : ∃ k, m / 2 = k := ⟨_, rfl⟩
      have d1 : (m : Int).tdiv 2 = (k : Int) := (divN m 2 k hk).1
      have d2 : (m : Int) / 2 = (k : Int) := (divN m 2 k hk).2
      obtain ⟨s, hs⟩ : ∃ s, b * b = s := ⟨_, rfl⟩
      have hs1 := prod_bd hb hb hq2
      rw [hs] at hs1
      have m1 := mulN b b s hs
      obtain ⟨r, hr⟩ : ∃ r, s % q = r := ⟨_, rfl⟩
      have r1 := (modN s q r hr).1
      have r2 := (modN s q r hr).2
      have hrq : r < q := by rw [← hr]; exact Nat.mod_lt _ (by omega)
      have hkm : k < m := by omega
      by_cases h1 : m % 2 = 1
      · have e1 : (m : Int).tmod 2 = 1 := (modN m 2 1 h1).1
        have e2 : (m : Int) % 2 = 1 := (modN m 2 1 h1).2
        obtain ⟨t, ht⟩ : ∃ t, p * b = t := ⟨_, rfl⟩
        have ht1 := prod_bd hp hb hq2
        rw [ht] at ht1
        have n1 := mulN p b t ht
        obtain ⟨u, hu⟩ : ∃ u, t % q = u := ⟨_, rfl⟩
        have u1 := (modN t q u hu).1
        have u2 := (modN t q u hu).2
        have huq : u < q := by rw [← hu]; exact Nat.mod_lt _ (by omega)
        have H2 : Hid (u * r ^ k % q = V) := by
          unfold Hid; rw [← hu, ← hr, ← ht, ← hs, ← hk]; exact pmo_step1 h1 H.out
        clear hk hs hr ht hu h1
        go_wp2_with fail
        go_round
        case rel => exact ⟨r, k, u, rfl, rfl, rfl, hrq, by omega, huq, H2.out⟩
        case measure => simp [intOf]; omega
      · have h10 : m % 2 = 0 := by omega
        have e1 : (m : Int).tmod 2 = 0 := (modN m 2 0 h10).1
        have e2 : (m : Int) % 2 = 0 := (modN m 2 0 h10).2
        have H2 : Hid (p * r ^ k % q = V) := by
          unfold Hid; rw [← hr, ← hs, ← hk]; exact pmo_step0 h10 H.out
        clear hk hs hr h1 h10
        go_wp2_with fail
        go_round
        case rel => exact ⟨r, k, p, rfl, rfl, rfl, hrq, by omega, hp, H2.out⟩
        case measure => simp [intOf]; omega
theorem fac_fq {q : Nat} (h : IsFq q) : ∃ m, facL (q - 1) = [(2, m)] := by
  rcases h with h | h | h | h | h <;> subst h
  · exact ⟨1, by decide +kernel⟩
  · exact ⟨2, by decide +kernel⟩
  · exact ⟨4, by decide +kernel⟩
  · exact ⟨8, by decide +kernel⟩
  · exact ⟨16, by decide +kernel⟩
theorem gen_less {q : Nat} (h : IsFq q) (i : Nat) (h1 : 1 ≤ i) (h2 : i < gq q) : pmo i ((q - 1) / 2) q = 1 := by
  unfold pmo
  rw [← Fld.pm_eq q 17 i ((q - 1) / 2) (by have := fq_bd h; omega)]
  have hb := gq_bd h
  have hi : i = 1 ∨ i = 2 := by omega
  rcases h with h | h | h | h | h <;> subst h <;> rcases hi with hi | hi <;> subst hi <;> revert h2 <;> decide +kernel
theorem gen_at {q : Nat} (h : IsFq q) : pmo (gq q) ((q - 1) / 2) q ≠ 1 := by
  have := gp_half h
  unfold gp at this
  unfold pmo; exact this
theorem gen_there {q : Nat} (w : World) (h : IsFq q) :
    Calls Tryz.prog 190 #[.int .i64 q] w fun e w' => e = .returned (.bool true) ∧ Below w.heap.size w w' := by
  have hb := fq_bd h
  have C1 : Hid (∀ W, Calls Tryz.prog 97 #[.int .i64 q] W fun e w' => e = .returned (.bool true) ∧ Below W.heap.size W w') := fun W => by
    have := fact_Prime (q : Int) W (by omega)
    rw [pr_of_fq h] at this; exact this
  clear h
  go_enter Tryz.func190, Tryz.ntmps190
  go_wp2_with fail
  refine (C1.out _).mono ?_; rintro e w1 ⟨rfl, hb1⟩
  go_wp2_with fail
  go_ret
  exact ⟨rfl, hb1⟩
set_option maxHeartbeats 2000000 in
theorem gen_Gen {q : Nat} (w : World) (h : IsFq q) :
    Calls Tryz.prog 175 #[.int .i64 q] w fun e w' => e = .returned (.tuple #[.int .i64 (gq q : Nat), .int .i64 0]) ∧ Below w.heap.size w w' := by
  have hb := fq_bd h
  have hg := gq_bd h
  obtain ⟨fm, hfm⟩ := fac_fq h
  have C0 : Hid (∀ W, Calls Tryz.prog 190 #[.int .i64 q] W fun e w' => e = .returned (.bool true) ∧ Below W.heap.size W w') := fun W => gen_there W h
  obtain ⟨q1, hq1⟩ : ∃ q1, q - 1 = q1 := ⟨_, rfl⟩
  have hqi : (q : Int) - 1 = (q1 : Int) := by omega
  have C1 : Hid (∀ W, Calls Tryz.prog 123 #[.int .i64 q1] W (GivesP [(2, fm)] W)) := fun W => by
    have := fact_Factors (q - 1) W (by omega) (by omega)
    rw [hfm, hq1] at this; exact this
  obtain ⟨hf, hhf⟩ : ∃ hf, q1 / 2 = hf := ⟨_, rfl⟩
  have v1 : (q1 : Int).tdiv 2 = (hf : Int) := (divN q1 2 hf hhf).1
  have v2 : (q1 : Int) / 2 = (hf : Int) := (divN q1 2 hf hhf).2
  have HL : Hid (∀ i, 1 ≤ i → i < gq q → pmo i hf q = 1) := fun i h1 h2 => by have := gen_less h i h1 h2; rw [hq1, hhf] at this; exact this
  have HA : Hid (pmo (gq q) hf q ≠ 1) := by have := gen_at h; rw [hq1, hhf] at this; exact this
  obtain ⟨G, hG⟩ : ∃ G, gq q = G := ⟨_, rfl⟩
  rw [hG] at HL HA hg ⊢
  have hf2 : hf ≤ 131072 := by omega
  have hq3 : G < q := by omega
  clear h hfm hhf hG
  go_enter Tryz.func175, Tryz.ntmps175
  go_wp2_with fail
  go_step3
  go_wp2_with fail
  refine (C0.out _).mono ?_; rintro e w1 ⟨rfl, hb1⟩
  go_wp2_with fail
  refine (C1.out _).mono ?_; rintro e w2 ⟨v, rfl, hown, hb2⟩
  obtain ⟨a, cap, rfl, hcap, hgs⟩ := own_slice2 hown
  obtain ⟨g, rfl⟩ := hgs (by simp)
  have c0 : w2.cell? ⟨g, 0, none⟩ = some (.int .i64 2) := hown.cellAt 0 (by simp)
  have c1 : w2.cell? ⟨g, 1, none⟩ = some (.int .i64 fm) := hown.cellAt 1 (by simp)
  have hgl : g < w2.heap.size := World.block_lt_of_cell? _ _ c0
  have K0 := Lib.hid c0
  have K1 := Lib.hid c1
  have hbl := chain hb1 hb2
  have HBL := Lib.hid hbl
  simp only [List.length_singleton]
  clear hown hcap hgs c0 c1 hb1 hb2 hbl
  go_wp2_with fail
  go_step3
  go_wp2_with fail
  go_loopw [6] (fun x wr => ∃ j : Nat, j < G ∧ x = .int .i64 j ∧ Below w2.heap.size w2 wr) (fun x _ => G - (intOf x).toNat)
  case atStart => exact ⟨0, by omega, rfl, Below.refl _ _⟩
  case round =>
    obtain ⟨j, hj, rfl, hbel⟩ := hrel
    have hlt : (j : Int) < (q1 : Int) := by omega
    obtain ⟨wo, rfl⟩ : ∃ wo : World, wo = wr := ⟨_, rfl⟩
    go_wp2_with fail
    go_loopw [26] (fun x wi => (x = .int .i64 0 ∧ Below wo.heap.size wo wi) ∨ (x = .int .i64 1 ∧ j + 1 = G ∧ Below wo.heap.size wo wi)) (fun x _ => 1 - (intOf x).toNat)
    case atStart => exact Or.inl ⟨rfl, Below.refl _ _⟩
    case round =>
      rcases hrel with ⟨rfl, hbi⟩ | ⟨rfl, hjG, hbi⟩
      · have hb3 := chain hbel hbi
        have c0 := (hb3.cell (p := ⟨g, 0, none⟩) hgl).trans K0.out
        have c1 := (hb3.cell (p := ⟨g, 1, none⟩) hgl).trans K1.out
        obtain ⟨V, hV⟩ : ∃ V, pmo (j + 1) hf q = V := ⟨_, rfl⟩
        have C2 : Hid (∀ W, Calls Tryz.prog 191 #[.int .i64 ((j : Int) + 1), .int .i64 hf, .int .i64 q] W fun e w' => e = .returned (.int .i64 (V : Nat)) ∧ W = w') := fun W => by
          have := gen_power (j + 1) hf q W (by omega) (by omega) (by omega) hf2
          rw [hV] at this; simpa using this
        have HBI : Hid (Below wo.heap.size wo (wr.alloc (.cells #[.int .i64 2, .int .i64 fm] 126))) := hbi.alloc hbi.size _
        by_cases hlast : j + 1 = G
        · have hV1 : V ≠ 1 := by rw [← hV, hlast]; exact HA.out
          have t1 : ((V : Int) == 1) = false := bno (by omega)
          clear hV
          go_wp2_with fail
          refine (C2.out _).mono ?_; rintro e w' ⟨rfl, rfl⟩
          go_wp2_with fail
          go_roundw
          case rel => exact Or.inr ⟨rfl, hlast, HBI.out⟩
          case measure => simp [intOf]
        · have hV1 : V = 1 := by rw [← hV]; exact HL.out _ (by omega) (by omega)
          subst hV1
          clear hV
          have HB4 := Lib.hid (chain hbel HBI.out)
          have h9 : j + 1 < G := by omega
          go_wp2_with fail
          refine (C2.out _).mono ?_; rintro e w' ⟨rfl, rfl⟩
          go_wp2_with fail
          go_roundw
          case rel => exact ⟨j + 1, h9, by go_num, HB4.out⟩
          case measure => simp [intOf]; omega
      · have hb3 := Lib.hid (chain HBL.out (chain hbel hbi))
        have HR : Hid ((j : Int) + 1 = (G : Int)) := by unfold Hid; omega
        clear hbi hbel
        go_wp2_with fail
        rw [Exit.noGoto_ret]
        go_ret2
        exact ⟨by simp [HR.out], hb3.out⟩
theorem genL_fits {q : Nat} (h : IsFq q) : ∀ x ∈ genL q, fits .i64 x := by
  intro x hx; obtain ⟨i, _, rfl⟩ := List.mem_map.1 hx
  have hb := fq_bd h
  have := gp_lt q i (by omega)
  exact fits_i64.2 (by omega)
set_option maxHeartbeats 1000000 in
theorem gen_Powers {q : Nat} (w : World) (h : IsFq q) :
    Calls Tryz.prog 149 #[.int .i64 q] w (GivesRowE .i64 (genL q) 0 w) := by
  have hb := fq_bd h
  have hg := gq_bd h
  have C0 : Hid (∀ W, Calls Tryz.prog 175 #[.int .i64 q] W fun e w' => e = .returned (.tuple #[.int .i64 (gq q : Nat), .int .i64 0]) ∧ Below W.heap.size W w') := fun W => gen_Gen W h
  have H0 : Hid (gp q 0 = 1) := gp_zero h
  have HS : Hid (∀ i, gp q i * gq q % q = gp q (i + 1)) := fun i => (gp_succ q i).symm
  have HLT : Hid (∀ i, gp q i < q) := fun i => gp_lt q i (by omega)
  have HF := Lib.hid (genL_fits h)
  obtain ⟨G, hG⟩ : ∃ G, gq q = G := ⟨_, rfl⟩
  rw [hG] at C0 HS hg
  obtain ⟨n, hn⟩ : ∃ n, q - 1 = n := ⟨_, rfl⟩
  have hqi : (q : Int) - 1 = (n : Int) := by omega
  have HN := Lib.hid hn
  have z1 : ((q : Int) == 0) = false := bno (by omega)
  have z2 : ¬ (q : Int) = 0 := by omega
  obtain ⟨i0, hi, hz0, hz1, hz2⟩ := info_parts info_int
  clear hG h
  go_enter Tryz.func149, Tryz.ntmps149
  go_wp2_with fail
  refine (C0.out _).mono ?_; rintro e w1 ⟨rfl, hb1⟩
  go_wp2_with (at_make; refine wpList_make_full _ rfl _ _ 44 rfl w1.heap.size 3 i0 (.int .i64 0) 1 Tryz.underlying44 hi hz0 hz1 .i64 .i64 n n n rfl rfl rfl rfl (by rw [hz2]; omega) (by unfold maxLen; omega) (Nat.le_refl _) ?_)
  intro w2 hown0 hgrow0
  have hown := Own.made hown0 hgrow0
  clear hown0 hgrow0
  go_wp2_with fail
  go_loopw [7, 22] (fun p i wr => ∃ (k v : Nat), k ≤ n ∧ i = .int .i64 k ∧ p = .int .i64 v ∧ Hid (v = gp q k) ∧ v < q ∧ OwnAt .i64 3 w1 wr w1.heap.size n (fun j => if j < k then (gp q j : Nat) else 0)) (fun _ i _ => n - (intOf i).toNat)
  case atStart => exact ⟨0, 1, Nat.zero_le _, rfl, rfl, H0.out.symm, by omega, own_eqz hown (fun j => if_neg (by omega))⟩
  case round =>
    obtain ⟨k, v, hk, rfl, rfl, HV, hv, hown⟩ := hrel
    by_cases hlt : k < n
    · have hcell := hown.cell k hlt
      rw [if_neg (Nat.lt_irrefl k)] at hcell
      have hfz := hown.free k
      have hnext := hown.store k hlt v (f' := fun j => if j < k + 1 then (gp q j : Nat) else 0) (by rw [if_pos (by omega), HV.out]) (fun j _ hj => by
        by_cases h : j < k
        · rw [if_pos h, if_pos (by omega)]
        · rw [if_neg h, if_neg (by omega)])
      have HNX := Lib.hid hnext
      obtain ⟨s, hs⟩ : ∃ s, v * G = s := ⟨_, rfl⟩
      have hs1 : s ≤ 131072 * 131072 := by rw [← hs]; exact Nat.mul_le_mul (by omega) (by omega)
      have m1 := mulN v G s hs
      obtain ⟨r, hr⟩ : ∃ r, s % q = r := ⟨_, rfl⟩
      have r1 := (modN s q r hr).1
      have r2 := (modN s q r hr).2
      have HM : Hid (r = gp q (k + 1)) := by unfold Hid; rw [← hr, ← hs, HV.out]; exact HS.out k
      have hrq : r < q := by rw [HM.out]; exact HLT.out _
      clear hown hnext hr hs
      go_wp2_with fail
      go_roundw
      case rel => exact ⟨k + 1, r, by omega, by go_num, rfl, HM.out, hrq, HNX.out⟩
      case measure => simp [intOf]; omega
    · have hkn : k = n := by omega
      have hrow := hown.row (xs := genL q) (by rw [genL_len]; exact HN.out) HF.out (fun i hi => by rw [nth_genL q i (by rw [HN.out]; exact hi), if_pos (by omega)]) (by omega)
      have hb2 := Lib.hid (chain hb1 hown.below)
      have HR := Lib.hid hrow
      have HL : Hid ((genL q).length = n) := (genL_len q).trans HN.out
      clear hown hrow hb1
      go_wp2_with fail
      go_ret2
      exact ⟨some ⟨w1.heap.size, 0, none⟩, n, by simp [HL.out], HR.out, by rw [HL.out]; exact ⟨Nat.le_refl _, fun h => by cases h⟩, hb2.out⟩
end Go.Proofs.YtlnlijeamflpiaaGreat

namespace Go.Proofs.YtlnlijeamflpiaaGreat
open Go.RowKit
set_option linter.unusedVariables false
set_option linter.unusedSimpArgs false
set_option maxRecDepth 100000
theorem flipW {P : Program} {f : FuncId} {args : Array Value} {w : World} {x : Ending} (h : Calls P f args w fun e w' => e = x ∧ w = w') : Calls P f args w fun e w' => e = x ∧ w' = w := h.mono fun _ _ ⟨h1, h2⟩ => ⟨h1, h2.symm⟩
end Go.Proofs.YtlnlijeamflpiaaGreat

namespace Go.Proofs.YtlnlijeamflpiaaGreat
open Go.RowKit Sm
set_option linter.unusedVariables false
set_option linter.unusedSimpArgs false
set_option maxRecDepth 100000
theorem cellFar (W : World) (g r b i : Nat) (v : Value) (h : g ≠ b) : ((W.setCell ⟨g, r, none⟩ v).drew).cell? ⟨b, i, none⟩ = W.cell? ⟨b, i, none⟩ :=
  World.cell?_setCell_other W ⟨g, r, none⟩ ⟨b, i, none⟩ v (fun e => h (by cases e; rfl))
/-- What a call leaves that writes block g alone. -/
def Kept (g : Nat) (W W' : World) : Prop := W.heap.size ≤ W'.heap.size ∧ ∀ b i, b ≠ g → b < W.heap.size → W'.cell? ⟨b, i, none⟩ = W.cell? ⟨b, i, none⟩
theorem Kept.trans {g : Nat} {A B C : World} (h : Kept g A B) (k : Kept g B C) : Kept g A C := ⟨Nat.le_trans h.1 k.1, fun b i hb hl => (k.2 b i hb (Nat.lt_of_lt_of_le hl h.1)).trans (h.2 b i hb hl)⟩
set_option maxHeartbeats 1000000 in
theorem stock_one1 (a b s d t n g px py pw : Nat) (ax aw : Option Addr) (cx cw : Nat) (xs ws : List Int) (f : Nat → Int) (w W : World)
    (hx : Row .u64 w ax xs) (hw : Row .u64 w aw ws) (hxl : xs.length = n) (hwl : ws.length = n) (hn : n ≤ 16777216)
    (hpx : W.cell? ⟨px, 0, none⟩ = some (.slice ax n cx)) (hpy : W.cell? ⟨py, 0, none⟩ = some (.slice (some ⟨g, 0, none⟩) n n)) (hpw : W.cell? ⟨pw, 0, none⟩ = some (.slice aw n cw))
    (n1 : g ≠ px) (n2 : g ≠ py) (n3 : g ≠ pw) (hown : OwnAt .u64 23 w W g n f) (ha : a < n) (hb : b < n) (hs : s < n) (hd : d < n) (ht : t < n) :
    Calls Tryz.prog 200 #[.int .i64 a, .int .i64 b, .int .i64 s, .int .i64 d, .int .i64 t, .pointer (some ⟨px, 0, none⟩), .pointer (some ⟨py, 0, none⟩), .pointer (some ⟨pw, 0, none⟩)] W
      fun e W' => (∃ v, e = .returned v) ∧ Kept g W W' ∧ OwnAt .u64 23 w W' g n (fun j => if j = d then (nth xs a - nth xs b) * nth ws t % 18446744069414584321 else if j = s then (nth xs a + nth xs b) % 18446744069414584321 else f j) := by
  have bx := World.block_lt_of_cell? W _ hpx
  have by' := World.block_lt_of_cell? W _ hpy
  have bw := World.block_lt_of_cell? W _ hpw
  obtain ⟨xb, xo, rfl, hcx⟩ := (hx.below hown.below).at (by omega)
  obtain ⟨wb, wo, rfl, hcw⟩ := (hw.below hown.below).at (by omega)
  have hxa := hcx a (by omega)
  have hxb := hcx b (by omega)
  have hwt := hcw t (by omega)
  have fa := fits_u64.1 (hx.wf _ (nth_mem (show a < xs.length by omega)))
  have fb := fits_u64.1 (hx.wf _ (nth_mem (show b < xs.length by omega)))
  have ft := fits_u64.1 (hw.wf _ (nth_mem (show t < ws.length by omega)))
  -- the rows lie ahead of the call's own block
  have hxg : xb < w.heap.size := by
    rcases hx.lies with h1 | ⟨b', o', h1, h2⟩
    · subst h1; simp at hxl; omega
    · cases h1; exact World.block_lt_of_cell? w _ (h2 0 (by omega))
  have hwg : wb < w.heap.size := by
    rcases hw.lies with h1 | ⟨b', o', h1, h2⟩
    · subst h1; simp at hwl; omega
    · cases h1; exact World.block_lt_of_cell? w _ (h2 0 (by omega))
  have hbase := hown.base
  have hst1 := (hown.store s hs ((nth xs a + nth xs b) % 18446744069414584321) (f' := fun j => if j = s then (nth xs a + nth xs b) % 18446744069414584321 else f j) (if_pos rfl) (fun j _ hj => if_neg hj)).later (Below.refl _ _).drew
  have hst2 := (hst1.store d hd ((nth xs a - nth xs b) * nth ws t % 18446744069414584321) (f' := fun j => if j = d then (nth xs a - nth xs b) * nth ws t % 18446744069414584321 else if j = s then (nth xs a + nth xs b) % 18446744069414584321 else f j) (if_pos rfl) (fun j _ hj => if_neg hj)).later (Below.refl _ _).drew
  obtain ⟨x, hxx⟩ : ∃ x, nth xs a = x := ⟨_, rfl⟩
  obtain ⟨y, hyy⟩ : ∃ y, nth xs b = y := ⟨_, rfl⟩
  obtain ⟨z, hzz⟩ : ∃ z, nth ws t = z := ⟨_, rfl⟩
  rw [hxx, hyy, hzz] at hst2
  rw [hxx, hyy] at hst1
  rw [hxx] at hxa fa
  rw [hyy] at hxb fb
  rw [hzz] at hwt ft
  rw [hxx, hyy, hzz]
  have hc1 := hown.cell s hs
  have hf1 := hown.free s
  have hc2 := hst1.cell d hd
  have hf2 := hst1.free d
  obtain ⟨v1, hv1⟩ : ∃ v1, f s = v1 := ⟨_, rfl⟩
  rw [hv1] at hc1
  obtain ⟨v2, hv2⟩ : ∃ v2, (if d = s then (x + y) % 18446744069414584321 else f d) = v2 := ⟨_, rfl⟩
  rw [hv2] at hc2
  have hsub : 0 ≤ (x - y) % 18446744069414584321 ∧ (x - y) % 18446744069414584321 < 18446744069414584321 := by omega
  have hmul : (x - y) % 18446744069414584321 * z % 18446744069414584321 = (x - y) * z % 18446744069414584321 := modmul_l _ _ _
  have HM := Lib.hid hmul
  have hkeep : Kept g W (((((W.setCell ⟨g, s, none⟩ (.int .u64 ((x + y) % 18446744069414584321))).drew).setCell ⟨g, d, none⟩ (.int .u64 ((x - y) * z % 18446744069414584321))).drew)) := ⟨by simp, fun b' i hb' _ => by
    rw [cellFar _ _ _ _ _ _ (Ne.symm hb'), cellFar _ _ _ _ _ _ (Ne.symm hb')]⟩
  have HK := Lib.hid hkeep
  have HST := Lib.hid hst2
  have m1 : ∀ i : Nat, ((W.setCell ⟨g, s, none⟩ (.int .u64 ((x + y) % 18446744069414584321))).drew).cell? ⟨px, 0, none⟩ = some (.slice (some ⟨xb, xo, none⟩) n cx) := fun i => (cellFar _ _ _ _ _ _ n1).trans hpx
  have q1 := m1 0
  have q2 := (cellFar W g s py 0 (.int .u64 ((x + y) % 18446744069414584321)) n2).trans hpy
  have q3 := (cellFar W g s pw 0 (.int .u64 ((x + y) % 18446744069414584321)) n3).trans hpw
  have q4 := (cellFar W g s xb (xo + a) (.int .u64 ((x + y) % 18446744069414584321)) (by omega)).trans hxa
  have q5 := (cellFar W g s xb (xo + b) (.int .u64 ((x + y) % 18446744069414584321)) (by omega)).trans hxb
  have q6 := (cellFar W g s wb (wo + t) (.int .u64 ((x + y) % 18446744069414584321)) (by omega)).trans hwt
  have hlt1 : W.heap.size ≤ ((W.setCell ⟨g, s, none⟩ (.int .u64 ((x + y) % 18446744069414584321))).drew).heap.size := by simp
  obtain ⟨W1, hW1⟩ : ∃ W1, (W.setCell ⟨g, s, none⟩ (.int .u64 ((x + y) % 18446744069414584321))).drew = W1 := ⟨_, rfl⟩
  rw [hW1] at q1 q2 q3 q4 q5 q6 hc2 hf2 HK HST
  have HW1 := Lib.hid hW1
  have g1 : (0 : Int) ≤ (a : Int) := by omega
  have g2 : (a : Int) < (n : Int) := by omega
  have g3 : (0 : Int) ≤ (b : Int) := by omega
  have g4 : (b : Int) < (n : Int) := by omega
  have g5 : (0 : Int) ≤ (s : Int) := by omega
  have g6 : (s : Int) < (n : Int) := by omega
  have g7 : (0 : Int) ≤ (d : Int) := by omega
  have g8 : (d : Int) < (n : Int) := by omega
  have g9 : (0 : Int) ≤ (t : Int) := by omega
  have g10 : (t : Int) < (n : Int) := by omega
  clear hx hw hxl hwl hcx hcw hst1 hst2 hxx hyy hzz hv1 hv2 hmul hkeep m1 hown hW1 hlt1
  go_enter Tryz.func200, Tryz.ntmps200
  go_wp2_with fail
  refine wp_region_still_tail 11 (by kernel_rfl) (by kernel_rfl) ?_; simp only [List.take_succ_cons, List.take_zero, List.drop_succ_cons, List.drop_zero]
  repeat still_step
  still_call (flipW (gold_Add x y _ (by omega) (by omega) (by omega) (by omega)))
  try refine wpStill_nil ?_
  go_wp2_with fail
  rw [HW1.out]
  refine wp_region_still_tail 16 (by kernel_rfl) (by kernel_rfl) ?_; simp only [List.take_succ_cons, List.take_zero, List.drop_succ_cons, List.drop_zero]
  repeat still_step
  still_call (flipW (gold_Sub x y _ (by omega) (by omega) (by omega) (by omega)))
  repeat still_step
  still_call (flipW (gold_Mul ((x - y) % 18446744069414584321) z _ (by omega) (by omega) (by omega) (by omega)))
  try refine wpStill_nil ?_
  rw [HM.out]
  go_wp2_with fail
  refine bodyPost_end (results_none rfl _ _ _) rfl ?_
  exact ⟨⟨_, rfl⟩, HK.out, HST.out⟩
end Go.Proofs.YtlnlijeamflpiaaGreat

namespace Go.Proofs.YtlnlijeamflpiaaGreat
open Go.RowKit Sm
set_option linter.unusedVariables false
set_option linter.unusedSimpArgs false
set_option maxRecDepth 100000
theorem own_eqn {k : IntKind} {e : TypeId} {w wr : World} {g n : Nat} {f f' : Nat → Int} (h : OwnAt k e w wr g n f) (he : ∀ j, j < n → f' j = f j) : OwnAt k e w wr g n f' := by
  refine ⟨?_, h.below⟩
  have e1 : ((List.range n).map fun j => Value.int k (f' j)) = ((List.range n).map fun j => Value.int k (f j)) := List.map_congr_left (fun j hj => by rw [he j (by simpa using hj)])
  rw [e1]; exact h.own
/-- What stands at place j when all pairs ahead of (i, q) are done. -/
def doneF (xs ws : List Int) (s i q j : Nat) : Int := if j / s / 2 < i ∨ (j / s / 2 = i ∧ j % s < q) then passAt xs ws s j else 0
theorem doneF_start (xs ws : List Int) (s j : Nat) : doneF xs ws s 0 0 j = 0 := by unfold doneF; generalize j / s / 2 = p; generalize j % s = r; rw [if_neg (by omega)]
theorem doneF_row (xs ws : List Int) (s i j : Nat) (hs : 0 < s) : doneF xs ws s (i + 1) 0 j = doneF xs ws s i s j := by
  have := Nat.mod_lt j hs
  unfold doneF
  generalize j / s / 2 = p at *
  generalize j % s = r at *
  by_cases h : p < i + 1
  · rw [if_pos (.inl h), if_pos (by omega)]
  · rw [if_neg (by omega), if_neg (by omega)]
theorem doneF_end (xs ws : List Int) (s h j n : Nat) (hs : 0 < s) (hn : n = s * (2 * h)) (hj : j < n) : doneF xs ws s h 0 j = passAt xs ws s j := by
  unfold doneF
  rw [if_pos]
  left
  have : j / s < 2 * h := Nat.div_lt_of_lt_mul (by omega)
  omega
theorem place_of (s q t : Nat) (hq : q < s) : (q + s * t) % s = q ∧ (q + s * t) / s = t :=
  ⟨by rw [Nat.add_mul_mod_self_left, Nat.mod_eq_of_lt hq], by rw [Nat.add_mul_div_left _ _ (by omega), Nat.div_eq_of_lt hq, Nat.zero_add]⟩
theorem doneF_step (xs ws : List Int) (s h i q n j : Nat) (hx : xs.length = n) (hn : n = s * (2 * h)) (hq : q < s) :
    doneF xs ws s i (q + 1) j = if j = q + s * (2 * i + 1) then (nth xs (q + s * i) - nth xs (q + s * (i + h))) * nth ws (i * s) % 18446744069414584321 else if j = q + s * 2 * i then (nth xs (q + s * i) + nth xs (q + s * (i + h))) % 18446744069414584321 else doneF xs ws s i q j := by
  have hh : n / 2 = s * h := by rw [hn, show s * (2 * h) = 2 * (s * h) by grind]; omega
  have e2 : q + s * 2 * i = q + s * (2 * i) := by rw [Nat.mul_assoc]
  have e3 : q + s * (i + h) = q + s * i + s * h := by rw [Nat.mul_add]; omega
  rw [e2, e3]
  by_cases h1 : j = q + s * (2 * i + 1)
  · rw [if_pos h1]
    have hp := place_of s q (2 * i + 1) hq
    subst h1
    unfold doneF
    rw [if_pos (by rw [hp.1, hp.2]; omega)]
    unfold passAt
    rw [hp.1, hp.2, hx, hh, if_neg (by omega), show (2 * i + 1) / 2 = i by omega]
  · rw [if_neg h1]
    by_cases h2 : j = q + s * (2 * i)
    · rw [if_pos h2]
      have hp := place_of s q (2 * i) hq
      subst h2
      unfold doneF
      rw [if_pos (by rw [hp.1, hp.2]; omega)]
      unfold passAt
      rw [hp.1, hp.2, hx, hh, if_pos (by omega), show 2 * i / 2 = i by omega]
    · rw [if_neg h2]
      have key : ¬ (j / s / 2 = i ∧ j % s = q) := by
        rintro ⟨k1, k2⟩
        have k3 := Nat.div_add_mod j s
        rw [k2] at k3
        rcases (show j / s = 2 * i ∨ j / s = 2 * i + 1 by omega) with k4 | k4
        · rw [k4] at k3; omega
        · rw [k4] at k3; omega
      unfold doneF
      generalize j / s / 2 = p at *
      generalize j % s = r at *
      by_cases h3 : p < i ∨ (p = i ∧ r < q)
      · rw [if_pos h3, if_pos (by omega)]
      · rw [if_neg h3, if_neg (by omega)]
/-- The cells that a pass reads. -/
structure RunCells (wr : World) (g pb px py pw n s : Nat) (ax aw : Option Addr) (cx cw : Nat) (fv : Value) : Prop where
  b0 : wr.cell? ⟨pb, 0, none⟩ = some (.int .i64 n)
  b1 : wr.cell? ⟨pb, 1, none⟩ = some (.int .i64 s)
  b2 : wr.cell? ⟨pb, 2, none⟩ = some fv
  px : wr.cell? ⟨px, 0, none⟩ = some (.slice ax n cx)
  py : wr.cell? ⟨py, 0, none⟩ = some (.slice (some ⟨g, 0, none⟩) n n)
  pw : wr.cell? ⟨pw, 0, none⟩ = some (.slice aw n cw)
theorem RunCells.kept {W W' : World} {g pb px py pw n s : Nat} {ax aw : Option Addr} {cx cw : Nat} {fv : Value} (h : RunCells W g pb px py pw n s ax aw cx cw fv) (hk : Kept g W W') (n0 : pb ≠ g) (n1 : px ≠ g) (n2 : py ≠ g) (n3 : pw ≠ g) : RunCells W' g pb px py pw n s ax aw cx cw fv :=
  ⟨(hk.2 _ _ n0 (World.block_lt_of_cell? W _ h.b0)).trans h.b0, (hk.2 _ _ n0 (World.block_lt_of_cell? W _ h.b0)).trans h.b1, (hk.2 _ _ n0 (World.block_lt_of_cell? W _ h.b0)).trans h.b2,
   (hk.2 _ _ n1 (World.block_lt_of_cell? W _ h.px)).trans h.px, (hk.2 _ _ n2 (World.block_lt_of_cell? W _ h.py)).trans h.py, (hk.2 _ _ n3 (World.block_lt_of_cell? W _ h.pw)).trans h.pw⟩
set_option maxHeartbeats 2000000 in
theorem stock_run (n s h g px py pw : Nat) (ax aw : Option Addr) (cx cw : Nat) (xs ws : List Int) (w W : World)
    (hx : Row .u64 w ax xs) (hw : Row .u64 w aw ws) (hxl : xs.length = n) (hwl : ws.length = n) (hn : n ≤ 16777216) (hns : n = s * (2 * h)) (hs : 0 < s) (hh : 0 < h)
    (hpx : W.cell? ⟨px, 0, none⟩ = some (.slice ax n cx)) (hpy : W.cell? ⟨py, 0, none⟩ = some (.slice (some ⟨g, 0, none⟩) n n)) (hpw : W.cell? ⟨pw, 0, none⟩ = some (.slice aw n cw))
    (n1 : px ≠ g) (n2 : py ≠ g) (n3 : pw ≠ g) (hown : OwnAt .u64 23 w W g n (fun _ => 0)) :
    Calls Tryz.prog 202 #[.agg #[.int .i64 n, .int .i64 s, .func (.func 200) #[] #[.pointer (some ⟨px, 0, none⟩), .pointer (some ⟨py, 0, none⟩), .pointer (some ⟨pw, 0, none⟩)]]] W
      fun e W' => (∃ v, e = .returned v) ∧ Kept g W W' ∧ OwnAt .u64 23 w W' g n (passAt xs ws s) := by
  have HX := Lib.hid hx
  have HW := Lib.hid hw
  have HXL := Lib.hid hxl
  have HWL := Lib.hid hwl
  have HNS := Lib.hid hns
  have h2s : s * 2 ≤ n := by rw [hns]; exact Nat.mul_le_mul_left s (by omega)
  have hhn : h ≤ n := by
    rw [hns]
    calc h ≤ 1 * (2 * h) := by omega
      _ ≤ s * (2 * h) := Nat.mul_le_mul_right _ hs
  have eh : (n : Int) / (2 * (s : Int)) = (h : Int) := by
    have e : n = 2 * s * h := by rw [hns]; grind
    have : n / (2 * s) = h := by rw [e, Nat.mul_div_cancel_left _ (by omega)]
    rw [show (2 : Int) * (s : Int) = ((2 * s : Nat) : Int) by omega, ← Int.natCast_ediv, this]
  have ehw : IntKind.i64.wrap (h : Int) = (h : Int) := IntWalk.i64_in _ (by omega)
  have e0 : ((2 * (s : Int)) == 0) = false := by simp; omega
  have e0' : ¬ (2 * (s : Int)) = 0 := by omega
  have e0'' : ¬ s = 0 := by omega
  have hcells : RunCells (W.alloc (.cells #[.int .i64 n, .int .i64 s, .func (.func 200) #[] #[.pointer (some ⟨px, 0, none⟩), .pointer (some ⟨py, 0, none⟩), .pointer (some ⟨pw, 0, none⟩)]] 179)) g W.heap.size px py pw n s ax aw cx cw (.func (.func 200) #[] #[.pointer (some ⟨px, 0, none⟩), .pointer (some ⟨py, 0, none⟩), .pointer (some ⟨pw, 0, none⟩)]) :=
    ⟨by simp, by simp, by simp, (cell_past _ _ _ (World.block_lt_of_cell? W _ hpx)).trans hpx, (cell_past _ _ _ (World.block_lt_of_cell? W _ hpy)).trans hpy, (cell_past _ _ _ (World.block_lt_of_cell? W _ hpw)).trans hpw⟩
  have hgW := hown.base
  have hown1 := own_eqn (hown.later ((Below.refl _ _).alloc (Nat.le_refl _) (.cells #[.int .i64 n, .int .i64 s, .func (.func 200) #[] #[.pointer (some ⟨px, 0, none⟩), .pointer (some ⟨py, 0, none⟩), .pointer (some ⟨pw, 0, none⟩)]] 179))) (fun j _ => doneF_start xs ws s j)
  have HC := Lib.hid hcells
  have HO := Lib.hid hown1
  have HN0 : Hid (W.heap.size ≠ g ∧ px ≠ g ∧ py ≠ g ∧ pw ≠ g) := ⟨by omega, n1, n2, n3⟩
  clear hx hw hxl hwl hns hpx hpy hpw hown hcells hown1 n1 n2 n3
  go_enter Tryz.func202, Tryz.ntmps202
  go_wp2_with fail
  go_loopw [12] (fun v wr => ∃ i : Nat, i ≤ h ∧ v = .int .i64 i ∧ OwnAt .u64 23 w wr g n (doneF xs ws s i 0) ∧ Kept g W wr ∧ RunCells wr g W.heap.size px py pw n s ax aw cx cw (.func (.func 200) #[] #[.pointer (some ⟨px, 0, none⟩), .pointer (some ⟨py, 0, none⟩), .pointer (some ⟨pw, 0, none⟩)])) (fun v _ => h - (intOf v).toNat)
  case atStart => exact ⟨0, Nat.zero_le _, rfl, HO.out, ⟨by simp, fun b i _ hb => cell_past _ _ _ hb⟩, HC.out⟩
  case round =>
    obtain ⟨i, hi, rfl, hown, hkept, hcells⟩ := hrel
    by_cases hlt : i < h
    · obtain ⟨wo, hwo⟩ : ∃ wo : World, wo = wr := ⟨_, rfl⟩
      subst hwo
      have hb1 := hcells.b1
      go_wp2_with fail
      clear hb1
      go_loopw [17] (fun v wr => ∃ q : Nat, q ≤ s ∧ v = .int .i64 q ∧ OwnAt .u64 23 w wr g n (doneF xs ws s i q) ∧ Kept g W wr ∧ RunCells wr g W.heap.size px py pw n s ax aw cx cw (.func (.func 200) #[] #[.pointer (some ⟨px, 0, none⟩), .pointer (some ⟨py, 0, none⟩), .pointer (some ⟨pw, 0, none⟩)])) (fun v _ => s - (intOf v).toNat)
      case atStart => exact ⟨0, Nat.zero_le _, rfl, hown, hkept, hcells⟩
      case round =>
        obtain ⟨q, hq, rfl, hown, hkept, hcells⟩ := hrel
        by_cases hqs : q < s
        · have hstep := fun j (hj : j < n) => doneF_step xs ws s h i q n j HXL.out HNS.out hqs
          have hle1 : s * (2 * i + 2) ≤ n := by rw [HNS.out]; exact Nat.mul_le_mul_left s (by omega)
          have hle2 : s * (i + h + 1) ≤ n := by rw [HNS.out]; exact Nat.mul_le_mul_left s (by omega)
          have hle3 : s * (i + 1) ≤ n := by rw [HNS.out]; exact Nat.mul_le_mul_left s (by omega)
          rw [Nat.mul_add] at hle1 hle2 hle3
          have x1 : s * (2 * i + 1) = s * (2 * i) + s := by rw [Nat.mul_add, Nat.mul_one]
          have x2 : s * 2 * i = s * (2 * i) := Nat.mul_assoc _ _ _
          have y1 : (s : Int) * (i : Int) = ((s * i : Nat) : Int) := (Int.natCast_mul _ _).symm
          have y2 : (s : Int) * ((i : Int) + (h : Int)) = ((s * (i + h) : Nat) : Int) := by rw [Int.natCast_mul, Int.natCast_add]
          have y3 : (s : Int) * 2 * (i : Int) = ((s * 2 * i : Nat) : Int) := by rw [Int.natCast_mul, Int.natCast_mul]; rfl
          have y4 : (s : Int) * (2 * (i : Int) + 1) = ((s * (2 * i + 1) : Nat) : Int) := by rw [Int.natCast_mul, Int.natCast_add, Int.natCast_mul]; rfl
          have y5 : (i : Int) * (s : Int) = ((i * s : Nat) : Int) := (Int.natCast_mul _ _).symm
          have x5 : i * s = s * i := Nat.mul_comm _ _
          rw [x2] at y3 hstep
          rw [x1] at y4 hstep
          rw [x5] at y5 hstep
          obtain ⟨A, hA⟩ : ∃ A, s * i = A := ⟨_, rfl⟩
          obtain ⟨B, hB⟩ : ∃ B, s * (i + h) = B := ⟨_, rfl⟩
          obtain ⟨C, hC⟩ : ∃ C, s * (2 * i) = C := ⟨_, rfl⟩
          rw [hA] at y1 y5 hstep hle3
          rw [hB] at y2 hstep hle2
          rw [hC] at y3 y4 hstep hle1
          have hcall := stock_one1 (q + A) (q + B) (q + C) (q + (C + s)) A n g px py pw ax aw cx cw xs ws (doneF xs ws s i q) w wr HX.out HW.out HXL.out HWL.out hn hcells.px hcells.py hcells.pw HN0.out.2.1.symm HN0.out.2.2.1.symm HN0.out.2.2.2.symm hown (by omega) (by omega) (by omega) (by omega) (by omega)
          have HCALL := Lib.hid hcall
          have HSTEP := Lib.hid hstep
          have HKEPT := Lib.hid hkept
          have HCS := Lib.hid hcells
          have hb1 := hcells.b1
          have hb2 := hcells.b2
          have c1 : ((q + A : Nat) : Int) = (q : Int) + (A : Int) := Int.natCast_add _ _
          have c2 : ((q + B : Nat) : Int) = (q : Int) + (B : Int) := Int.natCast_add _ _
          have c3 : ((q + C : Nat) : Int) = (q : Int) + (C : Int) := Int.natCast_add _ _
          have c4 : ((q + (C + s) : Nat) : Int) = (q : Int) + ((C + s : Nat) : Int) := Int.natCast_add _ _
          have HCC := Lib.hid (And.intro c1 (And.intro c2 (And.intro c3 c4)))
          have y4' : (s : Int) * (2 * (i : Int) + 1) = (C : Int) + (s : Int) := by rw [y4]; omega
          have A1 : A ≤ 16777216 := by omega
          have B1 : B ≤ 16777216 := by omega
          have C1 : C + s ≤ 16777216 := by omega
          have q1 : q ≤ 16777216 := by omega
          clear hA hB hC hcall hstep hkept hcells hown y4 x1 x2 x5 c1 c2 c3 c4 hle1 hle2 hle3
          go_wp2_with fail
          have hc := HCALL.out
          simp only [Int.natCast_add] at hc
          refine hc.mono ?_
          rintro e W' ⟨⟨v, rfl⟩, hk, hown'⟩
          have HO' := Lib.hid (own_eqn hown' (fun j hj => HSTEP.out j hj))
          have HK' := Lib.hid hk
          clear hown' hk hc
          go_wp2_with fail
          go_roundw
          case rel => exact ⟨q + 1, by omega, by go_num, HO'.out, HKEPT.out.trans HK'.out, HCS.out.kept HK'.out HN0.out.1 HN0.out.2.1 HN0.out.2.2.1 HN0.out.2.2.2⟩
          case measure => simp [intOf]; omega
        · obtain rfl : q = s := by omega
          have HO' := Lib.hid (own_eqn hown (fun j _ => doneF_row xs ws q i j hs))
          have HKEPT := Lib.hid hkept
          have HCS := Lib.hid hcells
          clear hown hkept hcells
          go_wp2_with fail
          go_roundw
          case rel => exact ⟨i + 1, by omega, by go_num, HO'.out, HKEPT.out, HCS.out⟩
          case measure => simp [intOf]; omega
    · obtain rfl : i = h := by omega
      have HO' := Lib.hid (own_eqn hown (fun j hj => (doneF_end xs ws s i j n hs HNS.out hj).symm))
      have HKEPT := Lib.hid hkept
      clear hown hkept hcells
      go_wp2_with fail
      refine bodyPost_end (results_none rfl _ _ _) rfl ?_
      exact ⟨⟨_, rfl⟩, HKEPT.out, HO'.out⟩
end Go.Proofs.YtlnlijeamflpiaaGreat

namespace Go.Proofs.YtlnlijeamflpiaaGreat
open Go.RowKit Sm
set_option linter.unusedVariables false
set_option linter.unusedSimpArgs false
set_option maxRecDepth 100000
theorem madeAt {k : IntKind} {e : TypeId} {w wx w1 : World} {g n : Nat} (hb : Below w.heap.size w wx) (h : w1.ownsRow w.heap.size e 1 (.slice (some ⟨g, 0, none⟩) n n) n (madeCells #[Value.int k 0] n).toList) (hg : wx.grownBy w1 none) :
    OwnAt k e w w1 g n (fun _ => 0) := by
  refine ⟨?_, hb.grown hg hb.size (by simp)⟩
  have e1 : (madeCells #[Value.int k 0] n).toList = (List.range n).map fun j => Value.int k 0 := by
    rw [toList_madeCells_one]
    apply List.ext_getElem (by simp)
    intro i h1 h2
    simp
  rw [e1] at h
  exact h
set_option maxHeartbeats 1000000 in
theorem stock_oneO (n s h : Nat) (ax aw : Option Addr) (cx cw : Nat) (xs ws : List Int) (w : World)
    (hx : Row .u64 w ax xs) (hw : Row .u64 w aw ws) (hxl : xs.length = n) (hwl : ws.length = n) (hn : n ≤ 16777216) (hns : n = s * (2 * h)) (hs : 0 < s) (hh : 0 < h) :
    Calls Tryz.prog 192 #[.slice ax n cx, .int .i64 s, .slice aw n cw] w (GivesOwn .u64 23 (passL xs ws s) w) := by
  obtain ⟨i0, hi, hz0, hz1, hz2⟩ := info_parts info_u64
  have HX := Lib.hid hx
  have HW := Lib.hid hw
  have HXL := Lib.hid hxl
  have HWL := Lib.hid hwl
  have HNS := Lib.hid hns
  clear hx hw hxl hwl hns
  go_enter Tryz.func192, Tryz.ntmps192
  go_wp2_with (at_make; refine wpList_make_full _ rfl _ _ 22 rfl w.heap.size 23 i0 (.int .u64 0) 1 Tryz.underlying22 hi hz0 hz1 .i64 .i64 n n n rfl rfl rfl rfl (by rw [hz2]; omega) (by unfold maxLen; omega) (by simp; omega) ?_)
  intro w1 hown0 hgrow0
  have hb0 : Below w.heap.size w ((w.alloc (.cells #[.slice ax n cx] 22)).alloc (.cells #[.slice aw n cw] 22)) := ((Below.refl _ _).alloc (Nat.le_refl _) _).alloc (by simp) _
  have hown := madeAt hb0 hown0 hgrow0
  have c1 : w1.cell? ⟨w.heap.size, 0, none⟩ = some (.slice ax n cx) := hgrow0.cell (a := ⟨w.heap.size, 0, none⟩) ((cell_past _ _ _ (by simp)).trans (one_new _ _ _)) (by simp)
  have c2 : w1.cell? ⟨w.heap.size + 1, 0, none⟩ = some (.slice aw n cw) := hgrow0.cell (a := ⟨w.heap.size + 1, 0, none⟩) (cell_new (by simp)) (by simp)
  have hsz := hown.base
  have l1 : w.heap.size < w1.heap.size := by omega
  have l2 : w.heap.size + 1 < w1.heap.size := by omega
  have d1 : (w1.alloc (.cells #[.slice (some ⟨w.heap.size + 1 + 1, 0, none⟩) n n] 22)).cell? ⟨w.heap.size, 0, none⟩ = some (.slice ax n cx) := (cell_past _ _ _ l1).trans c1
  have HO := Lib.hid hown
  clear hown0 hgrow0 hb0 hown
  go_wp2_with fail
  have hbl : Below w1.heap.size w1 ((w1.alloc (.cells #[.slice (some ⟨w.heap.size + 1 + 1, 0, none⟩) n n] 22)).alloc (.cells #[.int .i64 n, .int .i64 s, .func (.func 200) #[] #[.pointer (some ⟨w.heap.size, 0, none⟩), .pointer (some ⟨w1.heap.size, 0, none⟩), .pointer (some ⟨w.heap.size + 1, 0, none⟩)]] 179)) := ((Below.refl _ _).alloc (Nat.le_refl _) _).alloc (by simp) _
  have p1 := (hbl.cell (p := ⟨w.heap.size, 0, none⟩) l1).trans c1
  have p2 := (hbl.cell (p := ⟨w.heap.size + 1, 0, none⟩) l2).trans c2
  have p3 : ((w1.alloc (.cells #[.slice (some ⟨w.heap.size + 1 + 1, 0, none⟩) n n] 22)).alloc (.cells #[.int .i64 n, .int .i64 s, .func (.func 200) #[] #[.pointer (some ⟨w.heap.size, 0, none⟩), .pointer (some ⟨w1.heap.size, 0, none⟩), .pointer (some ⟨w.heap.size + 1, 0, none⟩)]] 179)).cell? ⟨w1.heap.size, 0, none⟩ = some (.slice (some ⟨w.heap.size + 1 + 1, 0, none⟩) n n) := (cell_past _ _ _ (by simp)).trans (one_new _ _ _)
  refine (stock_run n s h (w.heap.size + 1 + 1) w.heap.size w1.heap.size (w.heap.size + 1) ax aw cx cw xs ws w _ HX.out HW.out HXL.out HWL.out hn HNS.out hs hh p1 p3 p2 (by omega) (by omega) (by omega) (HO.out.later hbl)).mono ?_
  rintro e W' ⟨⟨v, rfl⟩, hk, hown⟩
  have hc := (hk.2 w1.heap.size 0 (by omega) (by simp; omega)).trans p3
  have hres := hown.givesO (xs := passL xs ws s) (by rw [passL_len]; exact HXL.out) (passL_fits _ _ _) (fun i hi => nth_passL _ _ _ _ (by rw [HXL.out]; exact hi)) hn
  have HR := Lib.hid hres
  clear hown hres hk p1 p2 p3 hbl d1 c1 c2
  go_wp2_with fail
  go_ret
  exact HR.out
theorem stock_one (n s h : Nat) (ax aw : Option Addr) (cx cw : Nat) (xs ws : List Int) (w : World)
    (hx : Row .u64 w ax xs) (hw : Row .u64 w aw ws) (hxl : xs.length = n) (hwl : ws.length = n) (hn : n ≤ 16777216) (hns : n = s * (2 * h)) (hs : 0 < s) (hh : 0 < h) :
    Calls Tryz.prog 192 #[.slice ax n cx, .int .i64 s, .slice aw n cw] w (GivesRow .u64 (passL xs ws s) w) :=
  (stock_oneO n s h ax aw cx cw xs ws w hx hw hxl hwl hn hns hs hh).mono fun e w' h => h.row
end Go.Proofs.YtlnlijeamflpiaaGreat

namespace Go.Proofs.YtlnlijeamflpiaaGreat
open Go.RowKit Sm
set_option linter.unusedVariables false
set_option linter.unusedSimpArgs false
set_option maxRecDepth 100000
theorem litRow (w : World) (t : TypeId) (n : Nat) (xs : List Int) (hn : n = w.heap.size) (hw : ∀ x ∈ xs, 0 ≤ x ∧ x < 18446744073709551616) (hl : xs.length ≤ 100) : Row .u64 (w.alloc (.cells (xs.map (Value.int .u64)).toArray t)) (some ⟨n, 0, none⟩) xs := by
  subst hn; exact row_new .u64 w t xs (fun x hx => fits_u64.2 (hw x hx)) (by omega)
theorem vec_RedN2 (a : Option Addr) (n cap : Nat) (xs : List Int) (w : World) (hx : Row .u64 w a xs) (hn : xs.length = n) (hl : n ≤ 16777216) :
    Calls Tryz.prog 49 #[.slice a n cap] w (GivesRow .u64 (xs.map (· % 18446744069414584321)) w) := by
  subst hn; exact vec_Red a cap xs w hx hl
theorem half_of_pow (m j s : Nat) (hs : s = 2 ^ j) (hj : j < m) : ∃ h, 0 < h ∧ 2 ^ m = s * (2 * h) := by
  refine ⟨2 ^ (m - j - 1), Nat.pow_pos (by omega), ?_⟩
  rw [hs, ← Nat.pow_succ', ← Nat.pow_add]
  congr 1; omega
set_option maxHeartbeats 1000000 in
theorem with_ok (ax aw : Option Addr) (n m cx cw : Nat) (xs ws : List Int) (w : World) (hx : Row .u64 w ax xs) (hw : Row .u64 w aw ws) (hxl : xs.length = n) (hwl : ws.length = n) (hm : m ≤ 24) (hn : n = 2 ^ m) :
    Calls Tryz.prog 176 #[.slice ax n cx, .slice aw n cw] w (GivesRowE .u64 (withTo xs ws m) 0 w) := by
  have hP : hasP2 (n : Int) = true := (hasP2_iff _).2 ⟨m, hm, by rw [hn]⟩
  have hn2 : n ≤ 16777216 := by
    have : 2 ^ m ≤ 2 ^ 24 := Nat.pow_le_pow_right (by omega) hm
    have e : (2 : Nat) ^ 24 = 16777216 := by decide
    omega
  have hn1 : 1 ≤ n := by rw [hn]; exact Nat.pow_pos (by omega)
  have C1 : Hid (∀ w : World, Calls Tryz.prog 121 #[.int .i64 n] w fun e w' => e = .returned (.bool true) ∧ w = w') := fun w => by rw [← hP]; exact stock_Has n w (by omega)
  have HX := Lib.hid hx
  have HW := Lib.hid hw
  have HXL := Lib.hid hxl
  have HWL := Lib.hid hwl
  have HN := Lib.hid hn
  have HL : Hid (∀ j, (withTo xs ws j).length = n) := fun j => by rw [withTo_len]; exact hxl
  have h0 : ((n : Int) != (n : Int)) = false := bfalse' rfl
  clear hx hw hxl hwl hn hP
  go_enter Tryz.func176, Tryz.ntmps176
  go_wp2_with fail
  refine (C1.out _).mono ?_; rintro e w' ⟨rfl, rfl⟩
  go_wp2_with fail
  refine (vec_RedN2 ax n cx xs _ HX.out HXL.out hn2).mono ?_
  rintro e w1 ⟨a1, cap1, rfl, hr1, hcap1, hb1⟩
  have hl0 := HL.out 0
  have hl0' : (xs.map (· % 18446744069414584321)).length = n := hl0
  rw [hl0']
  rw [hl0'] at hcap1
  clear hl0 hl0'
  go_wp2_with fail
  go_loopw [6, 7] (fun v i wr => ∃ (j s : Nat) (a : Option Addr) (cap : Nat), j ≤ m ∧ Hid (s = 2 ^ j) ∧ 1 ≤ s ∧ s ≤ n ∧ i = .int .i64 s ∧ v = .slice a n cap ∧ Row .u64 wr a (withTo xs ws j) ∧ OkCap a n cap ∧ Below w.heap.size w wr) (fun _ i _ => n - (intOf i).toNat)
  case atStart => exact ⟨0, 1, a1, cap1, Nat.zero_le _, rfl, by omega, hn1, rfl, rfl, hr1, hcap1, hb1⟩
  case round =>
    obtain ⟨j, s, a, cap, hj, HS, hs1, hsn, rfl, rfl, hrow, hcap, hb⟩ := hrel
    have HR := Lib.hid hrow
    have HC := Lib.hid hcap
    clear hrow hcap
    by_cases hlt : j < m
    · obtain ⟨h, hh, hns⟩ := half_of_pow m j s HS.out hlt
      have h2s : s * 2 ≤ n := by rw [HN.out, hns]; exact Nat.mul_le_mul_left s (by omega)
      have hle : (2 : Int) * (s : Int) ≤ (n : Int) := by omega
      have HNS : Hid (n = s * (2 * h)) := HN.out.trans hns
      have HS2 : Hid (2 * s = 2 ^ (j + 1)) := by unfold Hid; rw [Nat.pow_succ, HS.out]; omega
      clear hns
      go_wp2_with fail
      refine (stock_one n s h a aw cap cw (withTo xs ws j) ws _ HR.out (HW.out.below hb) (HL.out j) HWL.out hn2 HNS.out hs1 hh).mono ?_
      rintro e w2 ⟨a2, cap2, rfl, hr2, hcap2, hb2⟩
      have hlen : (passL (withTo xs ws j) ws s).length = n := by rw [passL_len]; exact HL.out j
      rw [hlen] at hcap2 ⊢
      have HR2 : Hid (Row .u64 w2 a2 (withTo xs ws (j + 1))) := by unfold Hid; simp only [withTo]; rw [← HS.out]; exact hr2
      clear hr2 hlen
      go_wp2_with fail
      go_roundw
      case rel => exact ⟨j + 1, 2 * s, a2, cap2, by omega, HS2.out, by omega, by omega, by go_num, rfl, HR2.out, hcap2, chain hb hb2⟩
      case measure => simp [intOf]; omega
    · have hjm : j = m := by omega
      have hsn' : s = n := by rw [HS.out, HN.out, hjm]
      have hlt2 : (n : Int) < 2 * (s : Int) := by omega
      have HJ := Lib.hid hjm
      have hres : Hid (GivesRowE .u64 (withTo xs ws m) 0 w (.returned (.tuple #[.slice a n cap, .int .i64 0])) wr) := ⟨a, cap, by rw [HL.out], by rw [← HJ.out]; exact HR.out, by rw [HL.out]; exact HC.out, hb⟩
      clear hjm hsn'
      go_wp2_with fail
      go_ret2
      exact hres.out
end Go.Proofs.YtlnlijeamflpiaaGreat

namespace Go.Proofs.YtlnlijeamflpiaaGreat
open Go.RowKit Sm
set_option linter.unusedVariables false
set_option linter.unusedSimpArgs false
set_option maxRecDepth 100000
set_option maxHeartbeats 800000 in
theorem do_ok (a : Option Addr) (n m c : Nat) (d : Int) (xs : List Int) (w : World) (hx : Row .u64 w a xs) (hxl : xs.length = n) (hd : d = 0 ∨ d = 1) (hm : m ≤ 24) (hn : n = 2 ^ m) :
    Calls Tryz.prog 150 #[.slice a n c, .int .i64 d] w (GivesRowE .u64 (dftL xs (dirRt n d)) 0 w) := by
  have hP : hasP2 (n : Int) = true := (hasP2_iff _).2 ⟨m, hm, by rw [hn]⟩
  have hs : hasSz (n : Int) = true := by rw [hn]; exact hasSz_pow m hm
  have hn2 : n ≤ 16777216 := by have := (hasSz_iff.1 hs).2.1; omega
  have C1 : Hid (∀ w : World, Calls Tryz.prog 121 #[.int .i64 n] w fun e w' => e = .returned (.bool true) ∧ w = w') := fun w => by rw [← hP]; exact stock_Has n w (by omega)
  have hroot := isRoot_dir n d hs
  have hfft : withTo xs (powL (dirRt n d) n) m = dftL xs (dirRt n d) := by
    have := fft_all xs (dirRt n d) (dirBk n d) m (by rw [← hn]; exact hroot) (by rw [hxl, hn])
    rw [← hn] at this; exact this
  have HF := Lib.hid hfft
  have HX := Lib.hid hx
  have HXL := Lib.hid hxl
  have HS := Lib.hid hs
  have HN := Lib.hid hn
  have HL : Hid ((withTo xs (powL (dirRt n d) n) m).length = n) := by unfold Hid; rw [withTo_len]; exact hxl
  have HPL : Hid (∀ z : Int, (powL z n).length = n) := fun z => powL_len z n
  have hz := dirRt_range n d
  have HZ := Lib.hid hz
  clear hx hxl hs hP hn hroot hfft hz
  rcases hd with h1 | h1
  · subst h1
    have ez : Hid (dirRt n 0 = rt n) := rfl
    go_enter Tryz.func150, Tryz.ntmps150
    go_wp2_with fail
    refine (C1.out _).mono ?_; rintro e w' ⟨rfl, rfl⟩
    go_wp2_with fail
    refine (rootRoot_yes n _ HS.out).mono ?_; rintro e w' ⟨rfl, rfl⟩
    rw [← ez.out]
    go_wp2_with fail
    refine (rootPowers (dirRt n 0) n _ HZ.out.1 (by have := HZ.out.2; omega) hn2).mono ?_
    rintro e w1 ⟨a1, cap1, rfl, hr1, hcap1, hb1⟩
    rw [HPL.out]
    go_wp2_with fail
    refine (with_ok a a1 n m c cap1 xs (powL (dirRt n 0) n) _ (HX.out.below hb1) hr1 HXL.out (HPL.out _) hm HN.out).mono ?_
    rintro e w2 ⟨a2, cap2, rfl, hr2, hcap2, hb2⟩
    rw [HL.out] at hcap2 ⊢
    rw [HF.out] at hr2
    have hlen := HL.out
    rw [HF.out] at hlen
    have HR := Lib.hid hr2
    have HLEN := Lib.hid hlen
    clear hr2 hlen
    go_wp2_with fail
    go_ret2
    exact ⟨a2, cap2, by simp [HLEN.out], HR.out, by rw [HLEN.out]; exact hcap2, chain hb1 hb2⟩
  · subst h1
    have ez : Hid (dirRt n 1 = bk n) := rfl
    go_enter Tryz.func150, Tryz.ntmps150
    go_wp2_with fail
    refine (C1.out _).mono ?_; rintro e w' ⟨rfl, rfl⟩
    go_wp2_with fail
    refine (rootRoot_yes n _ HS.out).mono ?_; rintro e w' ⟨rfl, rfl⟩
    go_wp2_with fail
    refine (rootBack_yes n _ HS.out).mono ?_; rintro e w' ⟨rfl, rfl⟩
    rw [← ez.out]
    go_wp2_with fail
    refine (rootPowers (dirRt n 1) n _ HZ.out.1 (by have := HZ.out.2; omega) hn2).mono ?_
    rintro e w1 ⟨a1, cap1, rfl, hr1, hcap1, hb1⟩
    rw [HPL.out]
    go_wp2_with fail
    refine (with_ok a a1 n m c cap1 xs (powL (dirRt n 1) n) _ (HX.out.below hb1) hr1 HXL.out (HPL.out _) hm HN.out).mono ?_
    rintro e w2 ⟨a2, cap2, rfl, hr2, hcap2, hb2⟩
    rw [HL.out] at hcap2 ⊢
    rw [HF.out] at hr2
    have hlen := HL.out
    rw [HF.out] at hlen
    have HR := Lib.hid hr2
    have HLEN := Lib.hid hlen
    clear hr2 hlen
    go_wp2_with fail
    go_ret2
    exact ⟨a2, cap2, by simp [HLEN.out], HR.out, by rw [HLEN.out]; exact hcap2, chain hb1 hb2⟩
end Go.Proofs.YtlnlijeamflpiaaGreat

namespace Go.Proofs.YtlnlijeamflpiaaGreat
open Go.RowKit Sm
set_option linter.unusedVariables false
set_option linter.unusedSimpArgs false
set_option maxRecDepth 100000
theorem tri_prod (i : Nat) : (i : Int) * ((i : Int) - 1) = ((i * (i - 1) : Nat) : Int) := by
  cases i with
  | zero => simp
  | succ j => rw [show ((j + 1 : Nat) : Int) - 1 = ((j : Nat) : Int) by omega, show j + 1 - 1 = j by omega, ← Int.natCast_mul]
theorem tri_small (i : Nat) (h : i ≤ 67108864) : i * (i - 1) ≤ 4503599627370496 := by
  have := Nat.mul_le_mul h (show i - 1 ≤ 67108864 by omega)
  omega
theorem chirp_tri (n i : Nat) (w : World) (hn : 1 ≤ n) (hn2 : n ≤ 16777216) (hi : i ≤ 67108864) :
    Calls Tryz.prog 174 #[.int .i64 n, .int .i64 i] w fun e w' => e = .returned (.int .i64 (triN n i : Nat)) ∧ w = w' := by
  obtain ⟨q, hq⟩ : ∃ q, i * (i - 1) = q := ⟨_, rfl⟩
  have h1 := tri_prod i
  have h2 := tri_small i hi
  rw [hq] at h1 h2
  have h0 : ((n : Int) == 0) = false := bno (by omega)
  have HT : Hid ((q : Int) / 2 % n = (triN n i : Nat)) := by
    unfold Hid triN triT; rw [hq, Int.natCast_emod, Int.natCast_ediv]; rfl
  clear hq
  go_enter Tryz.func174, Tryz.ntmps174
  go_wp2_with fail
  go_ret
  exact ⟨ret_int HT.out, rfl⟩
theorem chirp_way (n : Nat) (d : Int) (w : World) (h : hasSz n = true) (hd : d = 0 ∨ d = 1) :
    Calls Tryz.prog 172 #[.int .i64 n, .int .i64 d] w fun e w' => e = .returned (.tuple #[.int .u64 (dirRt n d), .int .i64 0]) ∧ w = w' := by
  have H := Lib.hid h
  clear h
  rcases hd with h1 | h1
  · subst h1
    go_enter Tryz.func172, Tryz.ntmps172
    go_wp2_with fail
    refine (rootHas_yes _ _ H.out).mono ?_; rintro e w' ⟨rfl, rfl⟩
    go_wp2_with fail
    refine (rootRoot_yes n _ H.out).mono ?_; rintro e w' ⟨rfl, rfl⟩
    go_wp2_with fail
    go_ret2
    exact ⟨rfl, rfl⟩
  · subst h1
    go_enter Tryz.func172, Tryz.ntmps172
    go_wp2_with fail
    refine (rootHas_yes _ _ H.out).mono ?_; rintro e w' ⟨rfl, rfl⟩
    go_wp2_with fail
    refine (rootBack_yes n _ H.out).mono ?_; rintro e w' ⟨rfl, rfl⟩
    go_wp2_with fail
    go_ret2
    exact ⟨rfl, rfl⟩
theorem chirp_powers (z : Int) (n : Nat) (w : World) (h0 : 0 ≤ z) (h1 : z < 18446744073709551616) (hn1 : 1 ≤ n) (hn : n ≤ 16777216) :
    Calls Tryz.prog 173 #[.int .u64 z, .int .i64 n] w fun e w' => ∃ b off, e = .returned (.slice (some ⟨b, off, none⟩) n n) ∧ Row .u64 w' (some ⟨b, off, none⟩) (powL z n) ∧ Below w.heap.size w w' := by
  have HL : Hid ((powL z n).length = n) := powL_len z n
  go_enter Tryz.func173, Tryz.ntmps173
  go_wp2_with fail
  refine (rootPowers z n _ h0 h1 hn).mono ?_
  rintro e w1 ⟨a1, cap1, rfl, hr1, hcap1, hb1⟩
  rw [HL.out] at hcap1 ⊢
  obtain ⟨b, off, rfl, _⟩ := hr1.at (by rw [HL.out]; omega)
  have HR := Lib.hid hr1
  have hc := hcap1.1
  clear hr1
  go_wp2_with fail
  go_ret
  exact ⟨b, off, rfl, HR.out, hb1⟩
def GivesOwnE (k : IntKind) (t : TypeId) (xs : List Int) (w : World) (e : Ending) (w' : World) : Prop :=
  ∃ a cap, e = .returned (.tuple #[.slice a xs.length cap, .int .i64 0]) ∧ w'.ownsRow w.heap.size t 1 (.slice a xs.length cap) xs.length (xs.map (Value.int k)) ∧ Row k w' a xs ∧ OkCap a xs.length cap ∧ Below w.heap.size w w'
theorem nth_powL (z : Int) (n i : Nat) (h : i < n) : nth (powL z n) i = pw z i := nth_ofFn _ _ _ h
set_option maxHeartbeats 1000000 in
theorem chirp_Row (n many : Nat) (d : Int) (w : World) (h : hasSz n = true) (hd : d = 0 ∨ d = 1) (hm : many ≤ 16777216) :
    Calls Tryz.prog 148 #[.int .i64 n, .int .i64 d, .int .i64 many] w (GivesOwnE .u64 23 (rowT (dirRt n d) n many) w) := by
  obtain ⟨i0, hi, hz0, hz1, hz2⟩ := info_parts info_u64
  have C1 : Hid (∀ w : World, Calls Tryz.prog 172 #[.int .i64 n, .int .i64 d] w fun e w' => e = .returned (.tuple #[.int .u64 (dirRt n d), .int .i64 0]) ∧ w = w') := fun w => chirp_way n d w h hd
  have hzr := dirRt_range n d
  obtain ⟨h1, h2, _⟩ := hasSz_iff.1 h
  have hn1 : 1 ≤ n := by omega
  have hn2 : n ≤ 16777216 := by omega
  obtain ⟨z, hz⟩ : ∃ z, dirRt n d = z := ⟨_, rfl⟩
  rw [hz] at C1 hzr ⊢
  have C2 : Hid (∀ w : World, Calls Tryz.prog 173 #[.int .u64 z, .int .i64 n] w fun e w' => ∃ b off, e = .returned (.slice (some ⟨b, off, none⟩) n n) ∧ Row .u64 w' (some ⟨b, off, none⟩) (powL z n) ∧ Below w.heap.size w w') := fun w => chirp_powers z n w hzr.1 (by omega) hn1 hn2
  have HPL : Hid ((powL z n).length = n) := powL_len z n
  have HRL : Hid ((rowT z n many).length = many) := rowT_len z n many
  have HTL : Hid (∀ k, triN n k < n) := fun k => triN_lt n k hn1
  clear hz h hd h1 h2
  go_enter Tryz.func148, Tryz.ntmps148
  go_wp2_with fail
  refine (C1.out _).mono ?_; rintro e w' ⟨rfl, rfl⟩
  go_wp2_with fail
  refine (C2.out _).mono ?_
  rintro e w1 ⟨b, off, rfl, hr1, hb1⟩
  have HR1 := Lib.hid hr1
  have HB1 := Lib.hid hb1
  clear hr1 hb1
  go_wp2_with (at_make; refine wpList_make_full _ rfl _ _ 22 rfl w1.heap.size 23 i0 (.int .u64 0) 1 Tryz.underlying22 hi hz0 hz1 .i64 .i64 many many many rfl rfl rfl rfl (by rw [hz2]; omega) (by unfold maxLen; omega) (Nat.le_refl _) ?_)
  intro w2 hown0 hgrow0
  have hown := Own.made hown0 hgrow0
  clear hown0 hgrow0
  go_wp2_with fail
  go_loopw [37] (fun i wr => ∃ k : Nat, k ≤ many ∧ i = .int .i64 k ∧ OwnAt .u64 23 w1 wr w1.heap.size many (fun j => if j < k then pw z (triN n j) else 0)) (fun i _ => many - (intOf i).toNat)
  case atStart => exact ⟨0, Nat.zero_le _, rfl, own_eqz hown (fun j => if_neg (by omega))⟩
  case round =>
    obtain ⟨k, hk, rfl, hown⟩ := hrel
    by_cases hlt : k < many
    · obtain ⟨t, ht⟩ : ∃ t, triN n k = t := ⟨_, rfl⟩
      have htl := HTL.out k
      rw [ht] at htl
      obtain ⟨b', off', hbo, hc⟩ := (HR1.out.below hown.below).at (by rw [HPL.out]; omega)
      simp only [Option.some.injEq, Addr.mk.injEq, and_true] at hbo
      obtain ⟨rfl, rfl⟩ := hbo
      have hck := hc t (by rw [HPL.out]; exact htl)
      rw [nth_powL _ _ _ htl] at hck
      clear hc
      have hcell := hown.cell k hlt
      rw [if_neg (Nat.lt_irrefl k)] at hcell
      have hfz := hown.free k
      have hnext := hown.store k hlt (pw z t) (f' := fun j => if j < k + 1 then pw z (triN n j) else 0) (by rw [if_pos (by omega), ht]) (fun j _ hj => by
        by_cases h : j < k
        · rw [if_pos h, if_pos (by omega)]
        · rw [if_neg h, if_neg (by omega)])
      have HNX := Lib.hid hnext
      have HT := Lib.hid ht
      clear hown hnext ht
      go_wp2_with fail
      refine (chirp_tri n k _ hn1 hn2 (by omega)).mono ?_; rintro e w' ⟨rfl, rfl⟩
      rw [HT.out]
      go_wp2_with fail
      go_roundw
      case rel => exact ⟨k + 1, by omega, by go_num, HNX.out⟩
      case measure => simp [intOf]; omega
    · have hkn : k = many := by omega
      obtain ⟨a2, cap2, he, ho2, hf2, _, hb2⟩ := hown.givesO (xs := rowT z n many) (rowT_len z n many) (rowT_fits z n many) (fun i hi => by rw [nth_rowT _ _ _ _ hi, if_pos (by omega)]) (by omega)
      simp only [Ending.returned.injEq, Value.slice.injEq] at he
      obtain ⟨rfl, hx1, rfl⟩ := he
      clear hx1
      have ho3 := own_base ho2 HB1.out.size
      have hrow := gives_of_own ho2 hb2 rfl rfl hf2 (by rw [HRL.out]; omega)
      obtain ⟨a3, cap3, he3, hr3, hcap3, hb3⟩ := hrow
      simp only [Ending.returned.injEq, Value.slice.injEq] at he3
      obtain ⟨rfl, hx2, rfl⟩ := he3
      clear hx2
      have HO := Lib.hid ho3
      have HR := Lib.hid hr3
      clear hown ho2 ho3 hr3 hf2
      go_wp2_with fail
      go_ret2
      exact ⟨some ⟨w1.heap.size, 0, none⟩, many, by simp [HRL.out], HO.out, HR.out, hcap3, chain HB1.out hb2⟩
end Go.Proofs.YtlnlijeamflpiaaGreat

namespace Go.Proofs.YtlnlijeamflpiaaGreat
open Go.RowKit Sm
set_option linter.unusedVariables false
set_option linter.unusedSimpArgs false
set_option maxRecDepth 100000
theorem small_both (a b : Int) (w : World) (ha0 : 0 ≤ a) (ha : a < 18446744073709551616) (hb0 : 0 ≤ b) (hb : b < 18446744073709551616) :
    Calls Tryz.prog 209 #[.int .u64 a, .int .u64 b] w fun e w' => e = .returned (.tuple #[.int .u64 ((a + b) % 18446744069414584321), .int .u64 ((a - b) % 18446744069414584321)]) ∧ w = w' := by
  go_enter Tryz.func209, Tryz.ntmps209
  go_wp2_with (first | (go_at_call 45; refine (gold_Add _ _ _ (by omega) (by omega) (by omega) (by omega)).mono ?_; rintro e w' ⟨rfl, rfl⟩) | (go_at_call 201; refine (gold_Sub _ _ _ (by omega) (by omega) (by omega) (by omega)).mono ?_; rintro e w' ⟨rfl, rfl⟩))
  go_ret2
  exact ⟨rfl, rfl⟩
theorem small_halves (a b : Int) (w : World) (ha0 : 0 ≤ a) (ha : a < 18446744073709551616) (hb0 : 0 ≤ b) (hb : b < 18446744073709551616) :
    Calls Tryz.prog 210 #[.int .u64 a, .int .u64 b] w fun e w' => e = .returned (.tuple #[.int .u64 ((a + b) * hf % 18446744069414584321), .int .u64 ((a - b) * hf % 18446744069414584321)]) ∧ w = w' := by
  have h1 : (a + b) % 18446744069414584321 * 9223372034707292161 % 18446744069414584321 = (a + b) * hf % 18446744069414584321 := modmul_l _ _ _
  have h2 : (a - b) % 18446744069414584321 * 9223372034707292161 % 18446744069414584321 = (a - b) * hf % 18446744069414584321 := modmul_l _ _ _
  have H1 := Lib.hid h1
  have H2 := Lib.hid h2
  clear h1 h2
  go_enter Tryz.func210, Tryz.ntmps210
  go_wp2_with fail
  refine (gold_Add a b _ ha0 ha hb0 hb).mono ?_; rintro e w' ⟨rfl, rfl⟩
  go_wp2_with fail
  refine (gold_Half ((a + b) % 18446744069414584321) _ (by omega) (by omega)).mono ?_; rintro e w' ⟨rfl, rfl⟩
  rw [H1.out]
  go_wp2_with fail
  refine (gold_Sub a b _ ha0 ha hb0 hb).mono ?_; rintro e w' ⟨rfl, rfl⟩
  go_wp2_with fail
  refine (gold_Half ((a - b) % 18446744069414584321) _ (by omega) (by omega)).mono ?_; rintro e w' ⟨rfl, rfl⟩
  rw [H2.out]
  go_wp2_with fail
  go_ret2
  exact ⟨rfl, rfl⟩
theorem gives_lit (w W : World) (t : TypeId) (xs ys : List Int) (n : Nat) (cs : Array Value) (hc : cs = (ys.map (Value.int .u64)).toArray) (hn : n = ys.length) (h : ys = xs) (hf : ∀ x ∈ xs, fits .u64 x) (hl : ys.length ≤ 100) (hb : Below w.heap.size w W) :
    GivesOwn .u64 t xs w (.returned (.slice (some ⟨W.heap.size, 0, none⟩) n n)) (W.alloc (.cells cs t)) := by
  subst hc hn
  subst h
  exact ⟨_, ys.length, rfl, by simpa using World.ownsRow_lit (base := w.heap.size) (e := t) (size := 1) W (ys.map (Value.int .u64)).toArray ys.length hb.size (by unfold maxLen; omega) (by simp), hf, by omega, hb.alloc hb.size _⟩
set_option maxHeartbeats 800000 in
theorem small_two (ad : Option Addr) (cap : Nat) (a b z u : Int) (w : World) (hx : Row .u64 w ad [a, b]) (hr : IsRoot z u 2) :
    Calls Tryz.prog 203 #[.slice ad 2 cap] w (GivesOwn .u64 23 (dftL [a, b] z) w) := by
  obtain ⟨bk, o, rfl, hc⟩ := hx.at (by simp)
  have c0 := hc 0 (by simp)
  have c1 := hc 1 (by simp)
  have f0 := fits_u64.1 (hx.wf a (by simp))
  have f1 := fits_u64.1 (hx.wf b (by simp))
  have e0 : nth [a, b] 0 = a := rfl
  have e1 : nth [a, b] 1 = b := rfl
  rw [e0] at c0
  rw [e1] at c1
  rw [Nat.add_zero] at c0
  have hz : Eqm (z ^ 1) (-1) := root_half hr 1 rfl (by omega)
  rw [ipow1] at hz
  have hlist : [(a + b) % 18446744069414584321, (a - b) % 18446744069414584321] = dftL [a, b] z := two_eq a b z u _ _ hr (by omega) (by omega) (Eqm.mod _) (by
    refine (Eqm.mod _).trans ?_
    rw [Int.sub_eq_add_neg]
    refine (rfl' a).add ?_
    have := (rfl' b).mul hz.symm
    rw [Int.mul_neg, Int.mul_one] at this
    exact this)
  have HL := Lib.hid hlist
  clear hc hx hr hz e0 e1 hlist
  go_enter Tryz.func203, Tryz.ntmps203
  go_wp2_with fail
  go_quiet ((go_at_call 209; exact Calls.quiet_of_same (flipW (small_both a b _ (by omega) (by omega) (by omega) (by omega)))))
  have hb := below_drewN (Below.refl w.heap.size w) nq
  obtain ⟨w1, hw1⟩ : ∃ w1, w.drewN nq = w1 := ⟨_, rfl⟩
  rw [hw1] at hb ⊢
  clear hw1
  go_wp2_with fail
  go_ret
  exact gives_lit w w1 _ _ [(a + b) % 18446744069414584321, (a - b) % 18446744069414584321] 2 _ rfl rfl HL.out (dftL_fits _ _) (by simp) hb
end Go.Proofs.YtlnlijeamflpiaaGreat

