/- Plain laws: rounds of an order, one place after the other, and the parity of its pairs. -/
import Derived.Test.YtpehbgcbifgokaaSignM
namespace Go.Proofs.Ytpehbgcbifgokaa
open Sm
set_option linter.unusedVariables false
set_option linter.unusedSimpArgs false

def mark (s : Nat → Int) (c : Nat) (v : Nat) : Int := if v = c then s v + 1 else s v
/-- What is marked stands still; the rest is as in p; t: how often the parity was turned over. -/
def Red (n : Nat) (p : Nat → Nat) (s : Nat → Int) (t : Nat) : Prop :=
  ∃ r r', Ord n r r' ∧ (∀ v, v < n → s v ≠ 0 → r v = v) ∧ (∀ v, v < n → s v = 0 → r v = p v) ∧ ∃ z, turns n p = turns n r + t + 2 * z
/-- Within a round from c, ahead of the place i. -/
def Mid (n : Nat) (p : Nat → Nat) (s : Nat → Int) (c i : Nat) (t : Nat) : Prop :=
  ∃ r r', Ord n r r' ∧ r c = i ∧ (∀ v, v < n → s v ≠ 0 → v ≠ c → r v = v) ∧ (∀ v, v < n → s v = 0 → r v = p v) ∧ ∃ z, turns n p = turns n r + t + 2 * z

theorem red_init (n : Nat) (p p' : Nat → Nat) (hp : Ord n p p') : Red n p (fun _ => 0) 0 :=
  ⟨p, p', hp, fun v _ h => absurd rfl h, fun v _ _ => rfl, 0, by simp⟩
theorem mid_start (n : Nat) (p : Nat → Nat) (s : Nat → Int) (c t : Nat) (h : Red n p s t) (hc : c < n) (h0 : s c = 0) : Mid n p (mark s c) c (p c) t := by
  obtain ⟨r, r', ho, h1, h2, hz⟩ := h
  refine ⟨r, r', ho, h2 c hc h0, fun v hv hs hne => h1 v hv ?_, fun v hv hs => h2 v hv ?_, hz⟩
  · unfold mark at hs; rwa [if_neg hne] at hs
  · unfold mark at hs
    by_cases he : v = c
    · rw [if_pos he, he, h0] at hs; omega
    · rwa [if_neg he] at hs
theorem sw_comm (a b : Nat) : sw a b = sw b a := by
  funext i; unfold sw; repeat' split
  all_goals omega
theorem mid_step (n : Nat) (p : Nat → Nat) (s : Nat → Int) (c i t : Nat) (h : Mid n p s c i t) (hc : c < n) (hi : i < n) (hsc : s c ≠ 0) (h0 : s i = 0) : Mid n p (mark s i) c (p i) (t + 1) := by
  obtain ⟨r, r', ho, hr, h1, h2, z, hz⟩ := h
  have hne : c ≠ i := fun e => hsc (by rw [e]; exact h0)
  have ho2 : Ord n (fun j => r (sw c i j)) (fun j => sw c i (r' j)) := by
    have o := sw_ord n c i hc hi
    exact ⟨fun v hv => ho.lt _ (o.lt v hv), fun v hv => o.lt _ (ho.lt' v hv), fun v hv => by rw [ho.back _ (o.lt v hv), o.back v hv], fun v hv => by rw [o.back _ (ho.lt' v hv), ho.fore v hv]⟩
  refine ⟨fun j => r (sw c i j), _, ho2, ?_, fun v hv hs hvc => ?_, fun v hv hs => ?_, ?_⟩
  · show r (sw c i c) = p i
    unfold sw; rw [if_pos rfl]; exact h2 i hi h0
  · show r (sw c i v) = v
    unfold sw
    rw [if_neg hvc]
    by_cases he : v = i
    · rw [if_pos he, hr, he]
    · rw [if_neg he]
      unfold mark at hs
      rw [if_neg he] at hs
      exact h1 v hv hs hvc
  · show r (sw c i v) = p v
    unfold mark at hs
    have hvi : v ≠ i := fun e => by rw [if_pos e, e, h0] at hs; omega
    rw [if_neg hvi] at hs
    have hvc : v ≠ c := fun e => hsc (by rw [← e]; exact hs)
    unfold sw; rw [if_neg hvc, if_neg hvi]; exact h2 v hv hs
  · rcases Nat.lt_or_gt_of_ne hne with hlt | hlt
    · obtain ⟨y, hy⟩ := turns_swap n c i r r' ho hlt hi
      exact ⟨z - y - 1, by rw [hz, hy]; omega⟩
    · obtain ⟨y, hy⟩ := turns_swap n i c r r' ho hlt hc
      rw [sw_comm i c] at hy
      exact ⟨z - y - 1, by rw [hz, hy]; omega⟩
theorem mid_end (n : Nat) (p : Nat → Nat) (s : Nat → Int) (c i t : Nat) (h : Mid n p s c i t) (hc : c < n) (hi : i < n) (hsi : s i ≠ 0) : i = c ∧ Red n p s t := by
  obtain ⟨r, r', ho, hr, h1, h2, hz⟩ := h
  have he : i = c := by
    by_cases he : i = c
    · exact he
    · exact absurd (ho.inj hc hi (by rw [hr, h1 i hi hsi he])) (fun e => he e.symm)
  refine ⟨he, r, r', ho, fun v hv hs => ?_, h2, hz⟩
  by_cases hvc : v = c
  · rw [hvc, hr, he]
  · exact h1 v hv hs hvc
theorem red_final (n : Nat) (p : Nat → Nat) (s : Nat → Int) (t : Nat) (h : Red n p s t) (hs : ∀ v, v < n → s v ≠ 0) : ∃ z, turns n p = t + 2 * z := by
  obtain ⟨r, r', ho, h1, h2, z, hz⟩ := h
  have e : turns n r = 0 := by
    have e1 : turns n r = turns n (fun j => j) := by
      unfold turns H
      refine S_congr fun i hi => S_congr fun k hk => ?_
      unfold tw
      rw [h1 i hi (hs i hi), h1 k (by omega) (hs k (by omega))]
    rw [e1, turns_id]
  exact ⟨z, by rw [hz, e]; omega⟩
end Go.Proofs.Ytpehbgcbifgokaa
