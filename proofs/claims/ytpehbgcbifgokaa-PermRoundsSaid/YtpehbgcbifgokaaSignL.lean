/- Plain laws: the sign of an order, by pairs that stand the other way round. -/
import Derived.Test.YtpehbgcbifgokaaSums
namespace Go.Proofs.Ytpehbgcbifgokaa
open Sm
set_option linter.unusedVariables false
set_option linter.unusedSimpArgs false

/-- A sum over a bijection. -/
theorem S_pick (n k : Nat) (f : Nat → Int) (hk : k < n) : S n (fun i => if i = k then f i else 0) = f k := by
  induction n with
  | zero => omega
  | succ n ih =>
    show S n _ + (if n = k then f n else 0) = f k
    by_cases h : n = k
    · subst h
      rw [if_pos rfl, S_congr (g := fun _ => 0) (fun i hi => if_neg (by omega)), S_zero, Int.zero_add]
    · rw [if_neg h, ih (by omega), Int.add_zero]
theorem S_perm (n : Nat) (q q' : Nat → Nat) (hq : ∀ i, i < n → q i < n) (hq' : ∀ i, i < n → q' i < n) (h1 : ∀ i, i < n → q' (q i) = i) (h2 : ∀ i, i < n → q (q' i) = i) (f : Nat → Int) : S n (fun i => f (q i)) = S n f := by
  have e1 : S n (fun i => f (q i)) = S n (fun i => S n (fun j => if j = q i then f j else 0)) := S_congr fun i hi => (S_pick n (q i) f (hq i hi)).symm
  rw [e1, S_swap]
  refine S_congr fun j hj => ?_
  have e2 : S n (fun i => if j = q i then f j else 0) = S n (fun i => if i = q' j then f j else 0) := S_congr fun i hi => by
    by_cases h : j = q i
    · rw [if_pos h, if_pos (by rw [h, h1 i hi])]
    · rw [if_neg h, if_neg (fun e => h (by rw [e, h2 j hj]))]
  rw [e2]
  exact S_pick n (q' j) (fun _ => f j) (hq' j hj)

/-- Of a pair: does it stand the other way round? -/
def tw (p : Nat → Nat) (i k : Nat) : Int := if (i < k ∧ p k < p i) ∨ (k < i ∧ p i < p k) then 1 else 0
/-- Twice the number of such pairs. -/
def inv2 (n : Nat) (p : Nat → Nat) : Int := S n (fun i => S n (fun k => tw p i k))

/-- The parity of pairs is added where orders are joined. -/
theorem tw_join (p q : Nat → Nat) (i k : Nat) (hq : i ≠ k → q i ≠ q k) (hp : i ≠ k → p (q i) ≠ p (q k)) :
    tw (fun j => p (q j)) i k = tw q i k + tw p (q i) (q k) - 2 * (tw q i k * tw p (q i) (q k)) := by
  by_cases he : i = k
  · subst he; simp [tw]
  · have hne := hq he
    have hnp := hp he
    unfold tw
    simp only []
    split <;> split <;> split <;> omega
theorem tw_sym (p : Nat → Nat) (i k : Nat) : tw p i k = tw p k i := by
  unfold tw; split <;> split <;> omega
theorem tw_self (p : Nat → Nat) (i : Nat) : tw p i i = 0 := by unfold tw; rw [if_neg (by omega)]

/-- Half of a sum over pairs, where both ways tell the same. -/
def H (n : Nat) (g : Nat → Nat → Int) : Int := S n (fun i => S i (fun k => g i k))
theorem S_half (n : Nat) (g : Nat → Nat → Int) (hs : ∀ i k, g i k = g k i) (h0 : ∀ i, g i i = 0) : S n (fun i => S n (fun k => g i k)) = 2 * H n g := by
  induction n with
  | zero => rfl
  | succ n ih =>
    have e1 : S (n + 1) (fun i => S (n + 1) (fun k => g i k)) = S n (fun i => S n (fun k => g i k) + g i n) + (S n (fun k => g n k) + g n n) := rfl
    rw [e1, S_add, ih, h0, S_congr (g := fun k => g n k) (fun i _ => hs i n)]
    show _ = 2 * (H n g + S n (fun k => g n k))
    omega

/-- How many pairs of places stand the other way round. -/
def turns (n : Nat) (p : Nat → Nat) : Int := H n (tw p)

/-- An order of n places, with the way back. -/
structure Ord (n : Nat) (p p' : Nat → Nat) : Prop where
  lt : ∀ i, i < n → p i < n
  lt' : ∀ i, i < n → p' i < n
  back : ∀ i, i < n → p' (p i) = i
  fore : ∀ i, i < n → p (p' i) = i
theorem Ord.inj {n : Nat} {p p' : Nat → Nat} (h : Ord n p p') {i k : Nat} (hi : i < n) (hk : k < n) (e : p i = p k) : i = k := by
  have h1 := h.back i hi
  rw [e, h.back k hk] at h1
  exact h1.symm

/-- The number of pairs, of orders joined: even less the sum. -/
theorem turns_join (n : Nat) (p p' q q' : Nat → Nat) (hp : Ord n p p') (hq : Ord n q q') :
    ∃ z, turns n (fun j => p (q j)) = turns n p + turns n q - 2 * z := by
  have h1 := S_half n (tw (fun j => p (q j))) (tw_sym _) (tw_self _)
  have h2 := S_half n (tw q) (tw_sym q) (tw_self q)
  have h3 := S_half n (tw p) (tw_sym p) (tw_self p)
  have h4 := S_half n (fun i k => tw q i k * tw p (q i) (q k)) (fun i k => by rw [tw_sym q, tw_sym p]) (fun i => by rw [tw_self, Int.zero_mul])
  have e1 : S n (fun i => S n (fun k => tw (fun j => p (q j)) i k)) = S n (fun i => S n (fun k => tw q i k)) + S n (fun i => S n (fun k => tw p (q i) (q k))) - 2 * S n (fun i => S n (fun k => tw q i k * tw p (q i) (q k))) := by
    have e2 : S n (fun i => S n (fun k => tw (fun j => p (q j)) i k)) = S n (fun i => (S n (fun k => tw q i k) + S n (fun k => tw p (q i) (q k))) + (-2) * S n (fun k => tw q i k * tw p (q i) (q k))) := S_congr fun i hi => by
      rw [← S_mul, ← S_add, ← S_add]
      refine S_congr fun k hk => ?_
      rw [tw_join p q i k (fun hne e => hne (hq.inj hi hk e)) (fun hne e => hne (hq.inj hi hk (hp.inj (hq.lt i hi) (hq.lt k hk) e)))]
      omega
    rw [e2, S_add, S_add, S_mul]; omega
  have e3 : S n (fun i => S n (fun k => tw p (q i) (q k))) = S n (fun i => S n (fun k => tw p i k)) := by
    have e4 : S n (fun i => S n (fun k => tw p (q i) (q k))) = S n (fun i => S n (fun k => tw p (q i) k)) := S_congr fun i hi => S_perm n q q' hq.lt hq.lt' hq.back hq.fore (fun k => tw p (q i) k)
    rw [e4]
    exact S_perm n q q' hq.lt hq.lt' hq.back hq.fore (fun i => S n (fun k => tw p i k))
  refine ⟨H n (fun i k => tw q i k * tw p (q i) (q k)), ?_⟩
  unfold turns
  rw [e3] at e1
  omega
end Go.Proofs.Ytpehbgcbifgokaa
