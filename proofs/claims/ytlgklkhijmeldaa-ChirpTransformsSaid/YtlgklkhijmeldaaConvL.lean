/- Plain laws of products of rows: around, not around, around other places; the transform of a product. -/
import Derived.Test.YtlgklkhijmeldaaConvB
import Derived.Test.YtlgklkhijmeldaaDftL
namespace Go.Proofs.Ytlgklkhijmeldaa
open Sm
set_option linter.unusedVariables false
set_option linter.unusedSimpArgs false
set_option maxRecDepth 100000

theorem mul_step (t s x y : Int) (ht : t = s % 18446744069414584321) : (t + (x % 18446744069414584321) * (y % 18446744069414584321) % 18446744069414584321) % 18446744069414584321 = (s + x * y) % 18446744069414584321 := by
  rw [mulL_at, ht]; generalize x * y = z; omega
theorem add_step (t s x : Int) (ht : t = s % 18446744069414584321) : (t + x % 18446744069414584321) % 18446744069414584321 = (s + x) % 18446744069414584321 := by omega

/-- Where the other number stands, around n places. -/
def othAt (n k i : Nat) : Nat := (k + n - i) % n
theorem othAt_lt (n k i : Nat) (h : 0 < n) : othAt n k i < n := Nat.mod_lt _ h
theorem othAt_sum (n k i : Nat) (hi : i < n) (hk : k < n) : (i + othAt n k i) % n = k := by
  unfold othAt
  rw [Nat.add_mod_mod, show i + (k + n - i) = k + n by omega, Nat.add_mod_right, Nat.mod_eq_of_lt hk]
theorem othAt_of (n k i j : Nat) (hi : i < n) (hj : j < n) (h : (i + j) % n = k) : j = othAt n k i := by
  unfold othAt
  by_cases hlt : i + j < n
  · rw [Nat.mod_eq_of_lt hlt] at h
    rw [show k + n - i = j + n by omega, Nat.add_mod_right, Nat.mod_eq_of_lt hj]
  · have e : (i + j) % n = i + j - n := by
      rw [Nat.mod_eq_sub_mod (by omega), Nat.mod_eq_of_lt (by omega)]
    rw [e] at h
    rw [show k + n - i = j by omega, Nat.mod_eq_of_lt hj]
theorem othAt_int (n k i : Nat) (hi : i < n) (hk : k < n) : ((k : Int) - (i : Int) + (n : Int)).tmod (n : Int) = (othAt n k i : Nat) ∧ ((k : Int) - (i : Int) + (n : Int)) % (n : Int) = (othAt n k i : Nat) := by
  have e : (k : Int) - (i : Int) + (n : Int) = ((k + n - i : Nat) : Int) := by omega
  rw [e]
  unfold othAt
  exact ⟨by rw [Int.tmod_eq_emod_of_nonneg (by omega), ← Int.natCast_emod], by rw [← Int.natCast_emod]⟩

theorem emod_of_eqm {a b : Int} (h : Eqm a b) : a % 18446744069414584321 = b % 18446744069414584321 := h

theorem cyc_at (xs ys : List Int) (n k : Nat) (hx : xs.length = n) (hy : ys.length = n) (hk : k < n) :
    cvS xs ys n k % 18446744069414584321 = S n (fun i => nth xs i * nth ys (othAt n k i)) % 18446744069414584321 := by
  refine emod_of_eqm ?_
  unfold cvS
  rw [hx, hy]
  refine S_eqm fun i hi => ?_
  have h := S_one n (othAt n k i) (fun j => cvT xs ys n k i j) (othAt_lt n k i (by omega)) (fun j hj hne => by
    unfold cvT; rw [if_neg (fun e => hne (othAt_of n k i j hi hj e))]; exact rfl' _)
  refine h.trans ?_
  show Eqm (cvT xs ys n k i (othAt n k i)) _
  unfold cvT; rw [if_pos (othAt_sum n k i hi hk)]; exact rfl' _

/-- One product of those that are not around. -/
def lnT (xs ys : List Int) (k i : Nat) : Int := if i ≤ k ∧ k - i < ys.length then nth xs i * nth ys (k - i) else 0
theorem lin_at (xs ys : List Int) (n k : Nat) (hn : n = xs.length + ys.length - 1) (hx : 0 < xs.length) (hy : 0 < ys.length) (hk : k < n) :
    cvS xs ys n k % 18446744069414584321 = S xs.length (lnT xs ys k) % 18446744069414584321 := by
  refine emod_of_eqm ?_
  unfold cvS
  refine S_eqm fun i hi => ?_
  unfold lnT
  by_cases h : i ≤ k ∧ k - i < ys.length
  · rw [if_pos h]
    have h1 := S_one ys.length (k - i) (fun j => cvT xs ys n k i j) h.2 (fun j hj hne => by
      unfold cvT; rw [if_neg (fun e => hne (by rw [Nat.mod_eq_of_lt (by omega)] at e; omega))]; exact rfl' _)
    refine h1.trans ?_
    show Eqm (cvT xs ys n k i (k - i)) _
    unfold cvT; rw [if_pos (by rw [Nat.mod_eq_of_lt (by omega)]; omega)]; exact rfl' _
  · rw [if_neg h]
    have e : S ys.length (fun j => cvT xs ys n k i j) = S ys.length (fun _ => 0) := S_congr fun j hj => by
      unfold cvT; rw [if_neg (fun e => h (by rw [Nat.mod_eq_of_lt (by omega)] at e; omega))]
    rw [e, S_zero]; exact rfl' _

/-! ### Around other places -/
def wrT (xs : List Int) (m k i : Nat) : Int := if i % m = k then nth xs i else 0
def wrL (xs : List Int) (m : Nat) : List Int := (List.range m).map fun k => S xs.length (wrT xs m k) % 18446744069414584321
theorem wrL_len (xs : List Int) (m : Nat) : (wrL xs m).length = m := by simp [wrL]
theorem nth_wrL (xs : List Int) (m k : Nat) (h : k < m) : nth (wrL xs m) k = S xs.length (wrT xs m k) % 18446744069414584321 := nth_ofFn _ _ _ h
theorem wrL_fits (xs : List Int) (m : Nat) : ∀ x ∈ wrL xs m, fits .u64 x := modL_fits _
theorem wr_start (xs : List Int) (m k : Nat) (hk : k < m) : ∀ d, d ≤ k → S d (wrT xs m k) = 0 := by
  intro d
  induction d with
  | zero => intro _; rfl
  | succ d ih => intro h; simp only [S]; rw [ih (by omega)]; unfold wrT; rw [Nat.mod_eq_of_lt (by omega), if_neg (by omega)]; rfl
theorem wr_between (xs : List Int) (m k i : Nat) (hi : i % m = k) : ∀ d, d < m → S (i + 1 + d) (wrT xs m k) = S i (wrT xs m k) + nth xs i := by
  intro d
  induction d with
  | zero => intro _; show S i _ + wrT xs m k i = _; unfold wrT; rw [if_pos hi]
  | succ d ih =>
    intro h
    show S (i + 1 + d) _ + wrT xs m k (i + 1 + d) = _
    rw [ih (by omega)]
    have : (i + 1 + d) % m ≠ k := by
      intro e
      have h1 : (i + (1 + d)) % m = i % m := by rw [← Nat.add_assoc, e, hi]
      have h2 : (i + (1 + d)) % m = (i + 0) % m := by rw [h1, Nat.add_zero]
      have h3 := Nat.sub_mod_eq_zero_of_mod_eq h2
      rw [show i + (1 + d) - (i + 0) = 1 + d by omega, Nat.mod_eq_of_lt (by omega)] at h3
      omega
    unfold wrT
    rw [if_neg this, Int.add_zero]
theorem wr_step (xs : List Int) (m k i n : Nat) (hm : 0 < m) (hi : i % m = k) (hin : i < n) : S (min (i + m) n) (wrT xs m k) = S i (wrT xs m k) + nth xs i := by
  have := wr_between xs m k i hi (min (i + m) n - i - 1) (by omega)
  rw [show i + 1 + (min (i + m) n - i - 1) = min (i + m) n by omega] at this
  exact this

theorem nth_out (xs : List Int) (i : Nat) (h : xs.length ≤ i) : nth xs i = 0 := by simp [nth, h]

/-- What is not around, around. -/
theorem wrap_lin (xs ys : List Int) (n : Nat) (hx : xs.length = n) (hy : ys.length = n) (hn : 0 < n) : wrL (cvL xs ys (n + n - 1)) n = cvL xs ys n := by
  apply ext_nth (by rw [wrL_len, cvL_len])
  intro k hk
  rw [wrL_len] at hk
  rw [nth_wrL _ _ _ hk, nth_cvL _ _ _ _ hk, cvL_len]
  refine emod_of_eqm ?_
  have e1 : Eqm (S (n + n - 1) (wrT (cvL xs ys (n + n - 1)) n k)) (S (n + n - 1) (fun t => S n (fun i => S n (fun j => if t % n = k then cvT xs ys (n + n - 1) t i j else 0)))) := by
    refine S_eqm fun t ht => ?_
    unfold wrT
    by_cases h : t % n = k
    · rw [if_pos h, nth_cvL _ _ _ _ ht]
      refine (Eqm.mod _).trans ?_
      unfold cvS
      rw [hx, hy]
      refine S_eqm fun i _ => S_eqm fun j _ => ?_
      rw [if_pos h]; exact rfl' _
    · rw [if_neg h]
      have : S n (fun i => S n (fun j => if t % n = k then cvT xs ys (n + n - 1) t i j else 0)) = 0 := by
        have e : S n (fun i => S n (fun j => if t % n = k then cvT xs ys (n + n - 1) t i j else 0)) = S n (fun _ => 0) := S_congr fun i _ => by
          have e2 : S n (fun j => if t % n = k then cvT xs ys (n + n - 1) t i j else 0) = S n (fun _ => 0) := S_congr fun j _ => by rw [if_neg h]
          rw [e2, S_zero]
        rw [e, S_zero]
      rw [this]; exact rfl' _
  refine e1.trans ?_
  rw [S_swap]
  unfold cvS
  rw [hx, hy]
  refine S_eqm fun i hi => ?_
  rw [S_swap]
  refine S_eqm fun j hj => ?_
  have h1 := S_one (n + n - 1) (i + j) (fun t => if t % n = k then cvT xs ys (n + n - 1) t i j else 0) (by omega) (fun t ht hne => by
    show Eqm (if t % n = k then cvT xs ys (n + n - 1) t i j else 0) 0
    split
    · unfold cvT; rw [Nat.mod_eq_of_lt (by omega), if_neg (fun e => hne e.symm)]; exact rfl' _
    · exact rfl' _)
  refine h1.trans ?_
  show Eqm (if (i + j) % n = k then cvT xs ys (n + n - 1) (i + j) i j else 0) (cvT xs ys n k i j)
  unfold cvT
  rw [if_pos (Nat.mod_eq_of_lt (by omega))]
  exact rfl' _

/-- The transform of a product around. -/
theorem T_conv (w u : Int) (n : Nat) (h : IsRoot w u n) (xs ys : List Int) (hx : xs.length = n) (hy : ys.length = n) (k : Nat) : Eqm (T n w (fun t => cvS xs ys n t) k) (T n w (nth xs) k * T n w (nth ys) k) := by
  have e1 : T n w (fun t => cvS xs ys n t) k = S n (fun i => S n (fun j => S n (fun t => cvT xs ys n t i j * w ^ (t * k)))) := by
    unfold T cvS
    rw [hx, hy]
    have e2 : S n (fun t => S n (fun i => S n (fun j => cvT xs ys n t i j)) * w ^ (t * k)) = S n (fun t => S n (fun i => S n (fun j => cvT xs ys n t i j * w ^ (t * k)))) := S_congr fun t _ => by
      rw [← S_mul_r]; exact S_congr fun i _ => by rw [← S_mul_r]
    rw [e2, S_swap]
    exact S_congr fun i _ => S_swap _ _ _
  have e3 : T n w (nth xs) k * T n w (nth ys) k = S n (fun i => S n (fun j => (nth xs i * w ^ (i * k)) * (nth ys j * w ^ (j * k)))) := by
    unfold T
    rw [← S_mul_r]
    exact S_congr fun i _ => by rw [← S_mul]
  rw [e1, e3]
  refine S_eqm fun i hi => S_eqm fun j hj => ?_
  have h1 := S_one n ((i + j) % n) (fun t => cvT xs ys n t i j * w ^ (t * k)) (Nat.mod_lt _ (by omega)) (fun t ht hne => by
    show Eqm (cvT xs ys n t i j * w ^ (t * k)) 0
    unfold cvT; rw [if_neg (fun e => hne e.symm), Int.zero_mul]; exact rfl' _)
  refine h1.trans ?_
  show Eqm (cvT xs ys n ((i + j) % n) i j * w ^ ((i + j) % n * k)) _
  unfold cvT
  rw [if_pos rfl]
  have h2 : Eqm (w ^ ((i + j) % n * k)) (w ^ (i * k) * w ^ (j * k)) := by
    rw [Int.pow_mul, ← Int.pow_add, ← Nat.add_mul, show w ^ ((i + j) * k) = (w ^ (i + j)) ^ k from Int.pow_mul]
    exact (h.pow_mod (i + j)).pow k
  have e4 : nth xs i * w ^ (i * k) * (nth ys j * w ^ (j * k)) = nth xs i * nth ys j * (w ^ (i * k) * w ^ (j * k)) := by
    simp only [Int.mul_assoc, Int.mul_left_comm, Int.mul_comm]
  rw [e4]
  exact (rfl' _).mul h2

theorem nth_mulL (xs ys : List Int) (k : Nat) (h : k < xs.length) : nth (mulL xs ys) k = nth xs k * nth ys k % 18446744069414584321 := nth_ofFn _ _ _ h

theorem dft_conv (xs ys : List Int) (n : Nat) (z u : Int) (hr : IsRoot z u n) (hx : xs.length = n) (hy : ys.length = n) : dftL (cvL xs ys n) z = mulL (dftL xs z) (dftL ys z) := by
  apply ext_nth (by rw [dftL_len, cvL_len, show (mulL (dftL xs z) (dftL ys z)).length = (dftL xs z).length from zipL_len _ _ _, dftL_len, hx])
  intro k hk
  rw [dftL_len, cvL_len] at hk
  rw [nth_mulL _ _ _ (by rw [dftL_len]; omega), nth_dftL _ _ _ (by rw [cvL_len]; exact hk), nth_dftL _ _ _ (by omega), nth_dftL _ _ _ (by omega)]
  have h1 := pt_T (cvL xs ys n) z k
  rw [cvL_len] at h1
  have h2 : Eqm (T n z (nth (cvL xs ys n)) k) (T n z (fun t => cvS xs ys n t) k) := T_eqm (rfl' z) (fun t ht => by rw [nth_cvL _ _ _ _ ht]; exact Eqm.mod _) k
  have h3 := T_conv z u n hr xs ys hx hy k
  have h4 := (pt_T xs z k).mul (pt_T ys z k)
  rw [hx, hy] at h4
  have h5 := ((h1.trans h2).trans h3).trans h4.symm
  have b := pt_range (cvL xs ys n) (pw z k)
  unfold Eqm at h5
  rw [Int.emod_eq_of_lt b.1 b.2] at h5
  exact h5
end Go.Proofs.Ytlgklkhijmeldaa
