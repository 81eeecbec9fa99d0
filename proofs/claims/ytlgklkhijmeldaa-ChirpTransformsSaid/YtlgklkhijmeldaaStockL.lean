/- Plain laws: Stockham's way is the transform. -/
import Derived.Test.YtlgklkhijmeldaaVecC
import Derived.Test.YtlgklkhijmeldaaDftL
import Derived.Test.YtlgklkhijmeldaaRootW
namespace Go.Proofs.Ytlgklkhijmeldaa
open Sm
set_option linter.unusedVariables false
set_option linter.unusedSimpArgs false
set_option maxRecDepth 100000

def passAt (xs ws : List Int) (s k : Nat) : Int :=
  if k / s % 2 = 0 then (nth xs (k % s + s * (k / s / 2)) + nth xs (k % s + s * (k / s / 2) + xs.length / 2)) % 18446744069414584321
  else (nth xs (k % s + s * (k / s / 2)) - nth xs (k % s + s * (k / s / 2) + xs.length / 2)) * nth ws (k / s / 2 * s) % 18446744069414584321
def passL (xs ws : List Int) (s : Nat) : List Int := (List.range xs.length).map (passAt xs ws s)
def withTo (xs ws : List Int) : Nat → List Int
  | 0 => xs.map (· % 18446744069414584321)
  | j + 1 => passL (withTo xs ws j) ws (2 ^ j)
theorem passL_len (xs ws : List Int) (s : Nat) : (passL xs ws s).length = xs.length := by simp [passL]
theorem nth_passL (xs ws : List Int) (s k : Nat) (h : k < xs.length) : nth (passL xs ws s) k = passAt xs ws s k := nth_ofFn _ _ _ h
theorem passAt_range (xs ws : List Int) (s k : Nat) : 0 ≤ passAt xs ws s k ∧ passAt xs ws s k < 18446744069414584321 := by unfold passAt; split <;> omega
theorem passL_fits (xs ws : List Int) (s : Nat) : ∀ x ∈ passL xs ws s, fits .u64 x := by
  intro x hx
  obtain ⟨k, _, rfl⟩ := List.mem_map.1 hx
  have := passAt_range xs ws s k
  exact fits_u64.2 (by omega)
theorem withTo_len (xs ws : List Int) (j : Nat) : (withTo xs ws j).length = xs.length := by
  induction j with
  | zero => simp [withTo]
  | succ j ih => simp only [withTo]; rw [passL_len, ih]
theorem withTo_range (xs ws : List Int) (j k : Nat) (hk : k < xs.length) : 0 ≤ nth (withTo xs ws j) k ∧ nth (withTo xs ws j) k < 18446744069414584321 := by
  cases j with
  | zero => simp only [withTo]; rw [nth_map _ _ _ hk]; omega
  | succ j => simp only [withTo]; rw [nth_passL _ _ _ _ (by rw [withTo_len]; exact hk)]; exact passAt_range _ _ _ _
theorem withTo_fits (xs ws : List Int) (j : Nat) : ∀ x ∈ withTo xs ws j, fits .u64 x := by
  cases j with
  | zero =>
    intro x hx
    obtain ⟨y, _, rfl⟩ := List.mem_map.1 hx
    exact fits_u64.2 (by omega)
  | succ j => exact passL_fits _ _ _

theorem S_double (n : Nat) (f : Nat → Int) : S (2 * n) f = S n (fun i => f (2 * i)) + S n (fun i => f (2 * i + 1)) := by
  induction n with
  | zero => rfl
  | succ n ih =>
    rw [show 2 * (n + 1) = 2 * n + 1 + 1 by omega]
    simp only [S, ih]
    omega

theorem fft_step (w : Int) (s h : Nat) (hs : 0 < s) (hm1 : Eqm (w ^ (s * h)) (-1)) (X Y Z : Nat → Int)
    (hY : ∀ q t, q < s → t < 2 * h → Eqm (Y (q + s * t)) (S s (fun i => X (t + i * (2 * h)) * w ^ (q * (t + i * (2 * h))))))
    (hZ0 : ∀ q p, q < s → p < h → Eqm (Z (q + 2 * s * p)) (Y (q + s * p) + Y (q + s * (p + h))))
    (hZ1 : ∀ q p, q < s → p < h → Eqm (Z (q + s + 2 * s * p)) ((Y (q + s * p) - Y (q + s * (p + h))) * w ^ (p * s))) :
    ∀ Q p, Q < 2 * s → p < h → Eqm (Z (Q + 2 * s * p)) (S (2 * s) (fun i => X (p + i * h) * w ^ (Q * (p + i * h)))) := by
  intro Q p hQ hp
  have e0 : ∀ i, 2 * i * h = i * (2 * h) := fun i => by rw [Nat.mul_comm 2 i, Nat.mul_assoc]
  have e1 : ∀ i, (2 * i + 1) * h = i * (2 * h) + h := fun i => by rw [Nat.add_mul, e0, Nat.one_mul]
  by_cases hlt : Q < s
  · refine (hZ0 Q p hlt hp).trans ?_
    rw [S_double]
    refine ((hY Q p hlt (by omega)).add (hY Q (p + h) hlt (by omega))).trans ?_
    have a1 : S s (fun i => X (p + h + i * (2 * h)) * w ^ (Q * (p + h + i * (2 * h)))) = S s (fun i => X (p + (2 * i + 1) * h) * w ^ (Q * (p + (2 * i + 1) * h))) := S_congr fun i _ => by
      rw [e1, show p + h + i * (2 * h) = p + (i * (2 * h) + h) by omega]
    have a0 : S s (fun i => X (p + i * (2 * h)) * w ^ (Q * (p + i * (2 * h)))) = S s (fun i => X (p + 2 * i * h) * w ^ (Q * (p + 2 * i * h))) := S_congr fun i _ => by rw [e0]
    rw [a0, a1]; exact rfl' _
  · obtain ⟨q, rfl⟩ : ∃ q, Q = q + s := ⟨Q - s, by omega⟩
    refine (hZ1 q p (by omega) hp).trans ?_
    rw [S_double]
    refine (((hY q p (by omega) (by omega)).sub (hY q (p + h) (by omega) (by omega))).mul (rfl' _)).trans ?_
    rw [Int.sub_mul, ← S_mul_r, ← S_mul_r]
    have hpow : ∀ i, Eqm ((w ^ (s * h)) ^ (2 * i)) 1 := fun i => by
      rw [Int.pow_mul]
      have h1 := (hm1.pow 2).pow i
      rw [show ((-1 : Int)) ^ 2 = 1 from rfl, Int.one_pow] at h1
      exact h1
    have t0 : ∀ i, Eqm (w ^ (q * (p + i * (2 * h))) * w ^ (p * s)) (w ^ ((q + s) * (p + 2 * i * h))) := fun i => by
      have h2 : w ^ ((q + s) * (p + 2 * i * h)) = (w ^ (q * (p + i * (2 * h))) * w ^ (p * s)) * (w ^ (s * h)) ^ (2 * i) := by
        rw [← Int.pow_add, ← Int.pow_mul, ← Int.pow_add]
        congr 1
        rw [e0]; grind
      rw [h2]
      have h3 := (rfl' (w ^ (q * (p + i * (2 * h))) * w ^ (p * s))).mul (hpow i)
      rw [Int.mul_one] at h3
      exact h3.symm
    have t1 : ∀ i, Eqm (-(w ^ (q * (p + h + i * (2 * h))) * w ^ (p * s))) (w ^ ((q + s) * (p + (2 * i + 1) * h))) := fun i => by
      have h2 : w ^ ((q + s) * (p + (2 * i + 1) * h)) = (w ^ (q * (p + h + i * (2 * h))) * w ^ (p * s)) * ((w ^ (s * h)) ^ (2 * i) * w ^ (s * h)) := by
        rw [← Int.pow_add, ← Int.pow_mul, ← Int.pow_add, ← Int.pow_add]
        congr 1
        rw [e1]; grind
      rw [h2]
      have h3 := (rfl' (w ^ (q * (p + h + i * (2 * h))) * w ^ (p * s))).mul ((hpow i).mul hm1)
      rw [show (1 : Int) * -1 = -1 from rfl, Int.mul_neg, Int.mul_one] at h3
      exact h3.symm
    have b0 : Eqm (S s (fun i => X (p + i * (2 * h)) * w ^ (q * (p + i * (2 * h))) * w ^ (p * s))) (S s (fun i => X (p + 2 * i * h) * w ^ ((q + s) * (p + 2 * i * h)))) := S_eqm fun i _ => by
      rw [Int.mul_assoc, e0 i]; have := t0 i; rw [e0 i] at this; exact (rfl' _).mul this
    have b1 : Eqm (-(S s (fun i => X (p + h + i * (2 * h)) * w ^ (q * (p + h + i * (2 * h))) * w ^ (p * s)))) (S s (fun i => X (p + (2 * i + 1) * h) * w ^ ((q + s) * (p + (2 * i + 1) * h)))) := by
      have e : -(S s (fun i => X (p + h + i * (2 * h)) * w ^ (q * (p + h + i * (2 * h))) * w ^ (p * s))) = S s (fun i => -1 * (X (p + h + i * (2 * h)) * w ^ (q * (p + h + i * (2 * h))) * w ^ (p * s))) := by
        rw [S_mul]; omega
      rw [e]
      refine S_eqm fun i _ => ?_
      have := t1 i
      rw [e1 i] at this ⊢
      rw [show p + h + i * (2 * h) = p + (i * (2 * h) + h) by omega] at *
      rw [show -1 * (X (p + (i * (2 * h) + h)) * w ^ (q * (p + (i * (2 * h) + h))) * w ^ (p * s)) = X (p + (i * (2 * h) + h)) * -(w ^ (q * (p + (i * (2 * h) + h))) * w ^ (p * s)) by grind]
      exact (rfl' _).mul this
    rw [Int.sub_eq_add_neg]
    exact b0.add b1

theorem root_half {w u : Int} {n : Nat} (hr : IsRoot w u n) (h : Nat) (hn : n = 2 * h) (h0 : 0 < h) : Eqm (w ^ h) (-1) := by
  have h1 : Eqm ((w ^ h - 1) * (w ^ h + 1)) 0 := by
    have e : (w ^ h - 1) * (w ^ h + 1) = w ^ n - 1 := by
      rw [hn, show w ^ (2 * h) = w ^ h * w ^ h by rw [← Int.pow_add]; congr 1; omega]; grind
    rw [e]
    have := hr.one.sub (rfl' 1)
    rwa [Int.sub_self] at this
  have h2 := strike' _ _ (fun e => hr.least h h0 (by omega) (by
    have := e.add (rfl' 1)
    rwa [Int.sub_add_cancel, Int.zero_add] at this)) h1
  have := h2.sub (rfl' 1)
  rw [show w ^ h + 1 - 1 = w ^ h by omega, show (0 : Int) - 1 = -1 from rfl] at this
  exact this

/-- Behind j passes. -/
theorem fft_to (xs ws : List Int) (w u : Int) (m : Nat) (hr : IsRoot w u (2 ^ m)) (hx : xs.length = 2 ^ m) (hw : ∀ i, i < 2 ^ m → Eqm (nth ws i) (w ^ i)) :
    ∀ j h, 2 ^ m = 2 ^ j * h → ∀ q t, q < 2 ^ j → t < h → Eqm (nth (withTo xs ws j) (q + 2 ^ j * t)) (S (2 ^ j) (fun i => nth xs (t + i * h) * w ^ (q * (t + i * h)))) := by
  intro j
  induction j with
  | zero =>
    intro h hh q t hq ht
    rw [Nat.pow_zero] at hh hq ⊢
    have hq0 : q = 0 := by omega
    subst hq0
    rw [Nat.one_mul] at hh
    simp only [withTo, S, Nat.zero_add, Nat.one_mul, Nat.zero_mul, Nat.add_zero, Int.pow_zero, Int.mul_one, Int.zero_add]
    rw [nth_map _ _ _ (by omega)]
    exact Eqm.mod _
  | succ j ih =>
    intro h hh
    have hs : 0 < 2 ^ j := Nat.pow_pos (by omega)
    have e : 2 ^ m = 2 ^ j * (2 * h) := by rw [hh, Nat.pow_succ, Nat.mul_assoc]
    have h0 : 0 < h := Nat.pos_of_ne_zero (fun e0 => by subst e0; have : 0 < 2 ^ m := Nat.pow_pos (by omega); omega)
    have hY := ih (2 * h) e
    have hl : (withTo xs ws j).length = 2 ^ m := by rw [withTo_len, hx]
    have e2 : 2 ^ m = 2 * (2 ^ j * h) := by rw [e]; grind
    have hm1 := root_half hr (2 ^ j * h) e2 (Nat.mul_pos hs h0)
    have hhalf : 2 ^ m / 2 = 2 ^ j * h := by omega
    rw [Nat.pow_succ, Nat.mul_comm (2 ^ j) 2]
    have place : ∀ q p r, q < 2 ^ j → r < 2 → (q + 2 ^ j * r + 2 * 2 ^ j * p) % 2 ^ j = q ∧ (q + 2 ^ j * r + 2 * 2 ^ j * p) / 2 ^ j = r + 2 * p := fun q p r hq hr => by
      have e3 : q + 2 ^ j * r + 2 * 2 ^ j * p = q + 2 ^ j * (r + 2 * p) := by grind
      rw [e3]
      exact ⟨by rw [Nat.add_mul_mod_self_left, Nat.mod_eq_of_lt hq], by rw [Nat.add_mul_div_left _ _ hs, Nat.div_eq_of_lt hq, Nat.zero_add]⟩
    have inside : ∀ q p r, q < 2 ^ j → r < 2 → p < h → q + 2 ^ j * r + 2 * 2 ^ j * p < 2 ^ m := fun q p r hq hr hp => by
      have e3 : q + 2 ^ j * r + 2 * 2 ^ j * p = q + 2 ^ j * (r + 2 * p) := by grind
      have h4 : 2 ^ j * (r + 2 * p + 1) ≤ 2 ^ j * (2 * h) := Nat.mul_le_mul_left _ (by omega)
      rw [Nat.mul_add, Nat.mul_one] at h4
      omega
    refine fft_step w (2 ^ j) h hs hm1 (nth xs) (nth (withTo xs ws j)) (nth (withTo xs ws (j + 1))) hY (fun q p hq hp => ?_) (fun q p hq hp => ?_)
    · have h1 := place q p 0 hq (by omega)
      have h2 := inside q p 0 hq (by omega) hp
      rw [Nat.mul_zero, Nat.add_zero] at h1 h2
      simp only [withTo]
      rw [nth_passL _ _ _ _ (by rw [hl]; exact h2)]
      unfold passAt
      rw [h1.1, h1.2, hl, hhalf, if_pos (by omega), show (0 + 2 * p) / 2 = p by omega]
      rw [show q + 2 ^ j * p + 2 ^ j * h = q + 2 ^ j * (p + h) by rw [Nat.mul_add]; omega]
      exact Eqm.mod _
    · have h1 := place q p 1 hq (by omega)
      have h2 := inside q p 1 hq (by omega) hp
      rw [Nat.mul_one] at h1 h2
      simp only [withTo]
      rw [nth_passL _ _ _ _ (by rw [hl]; exact h2)]
      unfold passAt
      rw [h1.1, h1.2, hl, hhalf, if_neg (by omega), show (1 + 2 * p) / 2 = p by omega]
      rw [show q + 2 ^ j * p + 2 ^ j * h = q + 2 ^ j * (p + h) by rw [Nat.mul_add]; omega]
      refine (Eqm.mod _).trans ((rfl' _).mul (hw (p * 2 ^ j) ?_))
      have h5 : 2 ^ j * (p + 1) ≤ 2 ^ j * (2 * h) := Nat.mul_le_mul_left _ (by omega)
      rw [Nat.mul_add, Nat.mul_one] at h5
      rw [Nat.mul_comm p]
      omega

theorem fft_all (xs : List Int) (z u : Int) (m : Nat) (hr : IsRoot z u (2 ^ m)) (hx : xs.length = 2 ^ m) : withTo xs (powL z (2 ^ m)) m = dftL xs z := by
  apply ext_nth (by rw [withTo_len, dftL_len])
  intro k hk
  rw [withTo_len] at hk
  have h1 := fft_to xs (powL z (2 ^ m)) z u m hr hx (fun i hi => by rw [show nth (powL z (2 ^ m)) i = pw z i from nth_ofFn _ _ _ hi]; exact pw_eqm z i) m 1 (by omega) k 0 (by omega) (by omega)
  rw [Nat.mul_zero, Nat.add_zero] at h1
  have h2 := pt_T xs z k
  rw [hx] at h2
  have e : S (2 ^ m) (fun i => nth xs (0 + i * 1) * z ^ (k * (0 + i * 1))) = T (2 ^ m) z (nth xs) k := by
    unfold T
    exact S_congr fun i _ => by rw [Nat.zero_add, Nat.mul_one, Nat.mul_comm k i]
  rw [e] at h1
  rw [nth_dftL _ _ _ hk]
  have b1 := withTo_range xs (powL z (2 ^ m)) m k hk
  have b2 := pt_range xs (pw z k)
  exact eq_of_eqm (h1.trans h2.symm) b1.1 b1.2 b2.1 b2.2

theorem hasSz_pow (m : Nat) (h : m ≤ 24) : hasSz ((2 ^ m : Nat) : Int) = true := by
  have : ∀ m ∈ List.range 25, hasSz ((2 ^ m : Nat) : Int) = true := by decide
  exact this m (by simp; omega)
end Go.Proofs.Ytlgklkhijmeldaa
