/- Plain laws: the pairs of a swap are odd in number. -/
import Derived.Test.YtpehbgcbifgokaaSignL
namespace Go.Proofs.Ytpehbgcbifgokaa
open Sm
set_option linter.unusedVariables false
set_option linter.unusedSimpArgs false

def sw (a b : Nat) (i : Nat) : Nat := if i = a then b else if i = b then a else i
theorem sw_ord (n a b : Nat) (ha : a < n) (hb : b < n) : Ord n (sw a b) (sw a b) := by
  refine ⟨fun i hi => ?_, fun i hi => ?_, fun i hi => ?_, fun i hi => ?_⟩
  · unfold sw; split <;> (try split) <;> omega
  · unfold sw; split <;> (try split) <;> omega
  · unfold sw; split <;> split <;> (try split) <;> (try split) <;> omega
  · unfold sw; split <;> split <;> (try split) <;> (try split) <;> omega
theorem turns_next (n a : Nat) (h : a + 1 < n) : turns n (sw a (a + 1)) = 1 := by
  unfold turns H
  have e : ∀ i, i < n → S i (fun k => tw (sw a (a + 1)) i k) = (fun i => if i = a + 1 then (fun _ => (1 : Int)) i else 0) i := fun i hi => by
    have e1 : S i (fun k => tw (sw a (a + 1)) i k) = S i (fun k => if k = a then (fun _ => if i = a + 1 then (1 : Int) else 0) k else 0) := S_congr fun k hk => by
      unfold tw sw
      simp only []
      by_cases h1 : i = a + 1 <;> by_cases h2 : k = a <;> by_cases h3 : i = a <;> by_cases h4 : k = a + 1 <;> simp [h1, h2, h3, h4] <;> omega
    rw [e1]
    by_cases hi2 : i = a + 1
    · rw [S_pick i a _ (by omega)]
    · simp only [if_neg hi2]
      rw [S_congr (g := fun _ => 0) (fun k hk => by split <;> rfl), S_zero]
  rw [S_congr e]
  exact S_pick n (a + 1) (fun _ => 1) h
theorem turns_sw (n a : Nat) : ∀ d, a + d + 1 < n → ∃ z, turns n (sw a (a + d + 1)) = 2 * z + 1 := by
  intro d
  induction d with
  | zero => intro h; exact ⟨0, turns_next n a h⟩
  | succ d ih =>
    intro h
    obtain ⟨z, hz⟩ := ih (by omega)
    have o1 := sw_ord n a (a + d + 1) (by omega) (by omega)
    have o2 := sw_ord n (a + d + 1) (a + d + 2) (by omega) (by omega)
    have o12 : Ord n (fun j => sw a (a + d + 1) (sw (a + d + 1) (a + d + 2) j)) (fun j => sw (a + d + 1) (a + d + 2) (sw a (a + d + 1) j)) :=
      ⟨fun i hi => o1.lt _ (o2.lt i hi), fun i hi => o2.lt _ (o1.lt i hi), fun i hi => by rw [o1.back _ (o2.lt i hi), o2.back i hi], fun i hi => by rw [o2.fore _ (o1.lt' i hi), o1.fore i hi]⟩
    obtain ⟨y1, h1⟩ := turns_join n _ _ _ _ o1 o2
    obtain ⟨y2, h2⟩ := turns_join n _ _ _ _ o2 o12
    have hn := turns_next n (a + d + 1) (by omega)
    have e : (fun j => sw (a + d + 1) (a + d + 2) ((fun j => sw a (a + d + 1) (sw (a + d + 1) (a + d + 2) j)) j)) = sw a (a + (d + 1) + 1) := by
      funext j
      unfold sw
      dsimp only
      repeat' split
      all_goals omega
    rw [e, h1, hz, hn] at h2
    exact ⟨z + 1 - y1 - y2, by rw [h2]; omega⟩
/-- Where two values are swapped, the parity turns over. -/
theorem turns_swap (n a b : Nat) (p p' : Nat → Nat) (hp : Ord n p p') (ha : a < b) (hb : b < n) : ∃ z, turns n (fun j => p (sw a b j)) = turns n p + 2 * z + 1 := by
  obtain ⟨y, hy⟩ := turns_join n p p' (sw a b) (sw a b) hp (sw_ord n a b (by omega) hb)
  obtain ⟨z, hz⟩ := turns_sw n a (b - a - 1) (by omega)
  rw [show a + (b - a - 1) + 1 = b by omega] at hz
  exact ⟨z - y, by rw [hy, hz]; omega⟩
theorem turns_id (n : Nat) : turns n (fun j => j) = 0 := by
  unfold turns H
  rw [S_congr (g := fun _ => 0) (fun i hi => ?_), S_zero]
  rw [S_congr (g := fun _ => 0) (fun k hk => ?_), S_zero]
  unfold tw; dsimp only; rw [if_neg (by omega)]
end Go.Proofs.Ytpehbgcbifgokaa
