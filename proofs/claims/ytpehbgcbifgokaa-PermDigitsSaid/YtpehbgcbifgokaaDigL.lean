/- Plain laws: digits of mixed radices, the other way round. -/
import Derived.Test.YtpehbgcbifgokaaPermP
namespace Go.Proofs.Ytpehbgcbifgokaa
open Go.RowKit
set_option linter.unusedVariables false
set_option linter.unusedSimpArgs false

/-- The product of radices; 0: one may not be, or it is too great. -/
def prN : List Int → Nat → Nat
  | [], n => n
  | r :: t, n => if r < 2 ∨ 16777216 < r * n then 0 else prN t (n * r.toNat)
def pdN : List Nat → Nat
  | [] => 1
  | r :: t => r * pdN t
def tn : List Nat → Nat → Nat → Nat
  | [], _, o => o
  | r :: t, n, o => tn t (n / r) (o * r + n % r)
theorem tn_out (xs : List Nat) : ∀ n o, tn xs n o = o * pdN xs + tn xs n 0 := by
  induction xs with
  | nil => intro n o; simp [tn, pdN]
  | cons r t ih =>
    intro n o
    show tn t (n / r) (o * r + n % r) = o * (r * pdN t) + tn t (n / r) (0 * r + n % r)
    rw [ih (n / r) (o * r + n % r), ih (n / r) (0 * r + n % r)]
    grind
theorem tn_cons (r : Nat) (t : List Nat) (n : Nat) : tn (r :: t) n 0 = n % r * pdN t + tn t (n / r) 0 := by
  show tn t (n / r) (0 * r + n % r) = _
  rw [tn_out]; grind
theorem pdN_pos (xs : List Nat) (h : ∀ r ∈ xs, 2 ≤ r) : 1 ≤ pdN xs := by
  induction xs with
  | nil => exact Nat.le_refl _
  | cons r t ih => exact Nat.mul_pos (by have := h r (by simp); omega) (ih fun x hx => h x (by simp [hx]))
theorem tn_lt (xs : List Nat) (h : ∀ r ∈ xs, 2 ≤ r) : ∀ n, tn xs n 0 < pdN xs := by
  induction xs with
  | nil => intro n; simp [tn, pdN]
  | cons r t ih =>
    intro n
    have h1 := ih (fun x hx => h x (by simp [hx])) (n / r)
    have h2 : n % r < r := Nat.mod_lt _ (by have := h r (by simp); omega)
    rw [tn_cons]
    show _ < r * pdN t
    have h3 : (n % r + 1) * pdN t ≤ r * pdN t := Nat.mul_le_mul_right _ h2
    rw [Nat.succ_mul] at h3
    omega
theorem tn_app (ys : List Nat) (r : Nat) : ∀ m o, tn (ys ++ [r]) m o = tn ys m o * r + m / pdN ys % r := by
  induction ys with
  | nil => intro m o; simp [tn, pdN]
  | cons s t ih =>
    intro m o
    show tn (t ++ [r]) (m / s) (o * s + m % s) = tn t (m / s) (o * s + m % s) * r + m / (s * pdN t) % r
    rw [ih, Nat.div_div_eq_div_mul]
theorem tn_mod (ys : List Nat) (h : ∀ r ∈ ys, 2 ≤ r) : ∀ a b, tn ys (a * pdN ys + b) 0 = tn ys b 0 := by
  induction ys with
  | nil => intro a b; rfl
  | cons r t ih =>
    intro a b
    have hr : 0 < r := by have := h r (by simp); omega
    rw [tn_cons, tn_cons]
    show (a * (r * pdN t) + b) % r * pdN t + tn t ((a * (r * pdN t) + b) / r) 0 = _
    have e : a * (r * pdN t) + b = b + r * (a * pdN t) := by grind
    rw [e, Nat.add_mul_mod_self_left, Nat.add_mul_div_left _ _ hr, Nat.add_comm (b / r), ih fun x hx => h x (by simp [hx])]
theorem pdN_app (ys : List Nat) (r : Nat) : pdN (ys ++ [r]) = pdN ys * r := by
  induction ys with
  | nil => simp [pdN]
  | cons s t ih => show s * pdN (t ++ [r]) = s * pdN t * r; rw [ih, Nat.mul_assoc]
theorem pdN_rev (xs : List Nat) : pdN xs.reverse = pdN xs := by
  induction xs with
  | nil => rfl
  | cons r t ih => rw [List.reverse_cons, pdN_app, ih, Nat.mul_comm]; rfl
theorem tn_back (xs : List Nat) (h : ∀ r ∈ xs, 2 ≤ r) : ∀ n, n < pdN xs → tn xs.reverse (tn xs n 0) 0 = n := by
  induction xs with
  | nil => intro n hn; simp [pdN] at hn; subst hn; rfl
  | cons r t ih =>
    intro n hn
    have hr : 0 < r := by have := h r (by simp); omega
    have ht : ∀ x ∈ t, 2 ≤ x := fun x hx => h x (by simp [hx])
    have h1 := tn_lt t ht (n / r)
    rw [List.reverse_cons, tn_app, tn_cons, pdN_rev]
    have e1 : tn t.reverse (n % r * pdN t + tn t (n / r) 0) 0 = n / r := by
      have h2 := tn_mod t.reverse (fun x hx => ht x (List.mem_reverse.1 hx)) (n % r) (tn t (n / r) 0)
      rw [pdN_rev] at h2
      rw [h2]
      exact ih ht (n / r) (Nat.div_lt_of_lt_mul hn)
    have e2 : (n % r * pdN t + tn t (n / r) 0) / pdN t = n % r := by
      rw [Nat.add_comm, Nat.add_mul_div_right _ _ (by omega), Nat.div_eq_of_lt h1, Nat.zero_add]
    rw [e1, e2, Nat.mod_mod, Nat.mul_comm]
    exact Nat.div_add_mod n r

/-- The order. -/
def digL (xs : List Nat) : List Int := (List.range (pdN xs)).map fun i => ((tn xs i 0 : Nat) : Int)
theorem digL_len (xs : List Nat) : (digL xs).length = pdN xs := by simp [digL]
theorem nth_digL (xs : List Nat) (i : Nat) (h : i < pdN xs) : nth (digL xs) i = (tn xs i 0 : Nat) := nth_ofFn (fun i => ((tn xs i 0 : Nat) : Int)) _ _ h
theorem dig_back (xs : List Nat) (h : ∀ r ∈ xs, 2 ≤ r) (i : Nat) (hi : i < pdN xs) : nth (digL xs.reverse) (nth (digL xs) i).toNat = i := by
  rw [nth_digL _ _ hi, Int.toNat_natCast, nth_digL _ _ (by rw [pdN_rev]; exact tn_lt xs h i), tn_back xs h i hi]
theorem dig_perm (xs : List Nat) (h : ∀ r ∈ xs, 2 ≤ r) : IsPerm (digL xs) := by
  refine ⟨fun i hi => ?_, fun i j hij hj e => ?_⟩
  · rw [digL_len] at hi ⊢
    rw [nth_digL _ _ hi]
    have := tn_lt xs h i
    omega
  · rw [digL_len] at hj
    have h1 := dig_back xs h i (by omega)
    have h2 := dig_back xs h j hj
    rw [e, h2] at h1
    omega
theorem dig_twos : ∀ L : Fin 10, digL (List.replicate L.val 2) = dblN L.val := by decide +kernel

/-- The reference's list. -/
def digR (r : Nat) (rest : List Int) : List Int := (List.range (rest.length * r)).map fun n => ((n % r : Nat) : Int) * rest.length + nth rest (n / r)
theorem digR_eq (r : Nat) (t : List Nat) (hr : 0 < r) : digR r (digL t) = digL (r :: t) := by
  have hl : (digR r (digL t)).length = (digL (r :: t)).length := by
    rw [digL_len]; unfold digR; rw [List.length_map, List.length_range, digL_len, Nat.mul_comm]; rfl
  apply ext_nth hl
  intro i hi
  rw [hl, digL_len] at hi
  have hi' : i < r * pdN t := hi
  rw [nth_digL _ _ hi]
  unfold digR
  have e := nth_ofFn (fun n : Nat => ((n % r : Nat) : Int) * ((digL t).length : Int) + nth (digL t) (n / r)) ((digL t).length * r) i (by rw [digL_len, Nat.mul_comm]; exact hi')
  rw [e, digL_len, nth_digL _ _ (Nat.div_lt_of_lt_mul hi'), tn_cons, Int.natCast_add, Int.natCast_mul]
end Go.Proofs.Ytpehbgcbifgokaa
