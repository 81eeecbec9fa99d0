/- Rounds of an order: plain laws of one round, place by place, and of all rounds. -/
import Derived.Test.YtpehbgcbifgokaaSignA
namespace Go.Proofs.Ytpehbgcbifgokaa
open Go.RowKit Sm
set_option linter.unusedVariables false
set_option linter.unusedSimpArgs false

def lk (ls : List Nat) (j : Nat) : Nat := ls.getD j 0
theorem lk_mem {ls : List Nat} {j : Nat} (h : j < ls.length) : lk ls j ∈ ls := by simp [lk, h]
theorem lk_left {ls ms : List Nat} {j : Nat} (h : j < ls.length) : lk (ls ++ ms) j = lk ls j := by simp [lk, List.getElem?_append_left h]
theorem lk_last (ls : List Nat) (i : Nat) : lk (ls ++ [i]) ls.length = i := by simp [lk]

/-- Where a round that began at c stands: it has ls; i is next. -/
structure RoundSt (n : Nat) (p : Nat → Nat) (s0 : Nat → Int) (c t0 : Nat) (ls : List Nat) (s : Nat → Int) (i : Nat) : Prop where
  vals : ∀ x ∈ ls, x < n ∧ s0 x = 0
  marks : ∀ v, s v = s0 v + if v ∈ ls then 1 else 0
  bits : ∀ v, v < n → s v = 0 ∨ s v = 1
  small : i < n
  nodup : ls.Nodup
  steps : ∀ j, j + 1 < ls.length → p (lk ls j) = lk ls (j + 1)
  open' : (ls = [] ∧ i = c ∧ Red n p s t0) ∨ (0 < ls.length ∧ lk ls 0 = c ∧ p (lk ls (ls.length - 1)) = i ∧ Mid n p s c i (t0 + (ls.length - 1)))

theorem RoundSt.start {n : Nat} {p : Nat → Nat} {s0 : Nat → Int} {c t0 : Nat} (hR : Red n p s0 t0) (hb : ∀ v, v < n → s0 v = 0 ∨ s0 v = 1) (hc : c < n) : RoundSt n p s0 c t0 [] s0 c :=
  ⟨fun x hx => (by cases hx), fun v => by simp, hb, hc, List.nodup_nil, fun j hj => by simp at hj, .inl ⟨rfl, rfl, hR⟩⟩
theorem RoundSt.step {n : Nat} {p : Nat → Nat} {s0 s : Nat → Int} {c t0 i : Nat} {ls : List Nat} (h : RoundSt n p s0 c t0 ls s i) (hp : ∀ v, v < n → p v < n) (hc : c < n) (h0 : s i = 0) : RoundSt n p s0 c t0 (ls ++ [i]) (mark s i) (p i) := by
  have hni : i ∉ ls := fun hm => by
    have := h.marks i
    rw [if_pos hm, (h.vals i hm).2] at this
    omega
  have hs0 : s0 i = 0 := by have := h.marks i; rw [if_neg hni] at this; omega
  refine ⟨fun x hx => ?_, fun v => ?_, fun v hv => ?_, hp i h.small, List.nodup_append.2 ⟨h.nodup, by simp, fun a ha b hb => by simp at hb; subst hb; exact fun e => hni (e ▸ ha)⟩, fun j hj => ?_, ?_⟩
  · rcases List.mem_append.1 hx with hx | hx
    · exact h.vals x hx
    · simp at hx; subst hx; exact ⟨h.small, hs0⟩
  · unfold mark
    by_cases hv : v = i
    · subst hv; rw [if_pos rfl, if_pos (by simp)]; omega
    · rw [if_neg hv, h.marks v]
      by_cases hm : v ∈ ls
      · rw [if_pos hm, if_pos (by simp [hm])]
      · rw [if_neg hm, if_neg (by simp [hm, hv])]
  · unfold mark
    by_cases hv' : v = i
    · subst hv'; rw [if_pos rfl, h0]; right; rfl
    · rw [if_neg hv']; exact h.bits v hv
  · rw [List.length_append, List.length_singleton] at hj
    by_cases hjl : j + 1 < ls.length
    · rw [lk_left (by omega), lk_left hjl]; exact h.steps j hjl
    · have hje : j + 1 = ls.length := by omega
      rw [lk_left (by omega), hje, lk_last]
      rcases h.open' with ⟨rfl, _⟩ | ⟨_, _, h3, _⟩
      · simp at hje
      · rw [show j = ls.length - 1 by omega]; exact h3
  · right
    refine ⟨by simp, ?_, ?_, ?_⟩
    · rcases h.open' with ⟨rfl, rfl, _⟩ | ⟨h1, h2, _, _⟩
      · rfl
      · rw [lk_left h1]; exact h2
    · rw [List.length_append, List.length_singleton, Nat.add_sub_cancel, lk_last]
    · rw [List.length_append, List.length_singleton, Nat.add_sub_cancel]
      rcases h.open' with ⟨rfl, rfl, hR⟩ | ⟨h1, h2, h3, hM⟩
      · exact mid_start n p s i t0 hR hc h0
      · have hsc : s c ≠ 0 := by
          have hm : c ∈ ls := by rw [← h2]; exact lk_mem h1
          have := h.marks c
          rw [if_pos hm, (h.vals c hm).2] at this
          omega
        have := mid_step n p s c i (t0 + (ls.length - 1)) hM hc h.small hsc h0
        rwa [show t0 + (ls.length - 1) + 1 = t0 + ls.length by omega] at this
theorem RoundSt.done {n : Nat} {p : Nat → Nat} {s0 s : Nat → Int} {c t0 i : Nat} {ls : List Nat} (h : RoundSt n p s0 c t0 ls s i) (hc : c < n) (h1 : 0 < ls.length) (h0 : s i ≠ 0) : i = c ∧ Red n p s (t0 + (ls.length - 1)) ∧ p (lk ls (ls.length - 1)) = c := by
  rcases h.open' with ⟨rfl, _⟩ | ⟨_, h2, h3, hM⟩
  · simp at h1
  · obtain ⟨e, hR⟩ := mid_end n p s c i _ hM hc h.small h0
    exact ⟨e, hR, h3.trans e⟩

theorem S_le_bits (n : Nat) (s : Nat → Int) (h : ∀ v, v < n → s v = 0 ∨ s v = 1) : 0 ≤ S n s ∧ S n s ≤ n := by
  induction n with
  | zero => simp [S]
  | succ n ih =>
    have := ih (fun v hv => h v (by omega))
    have := h n (by omega)
    simp only [S]
    omega
theorem S_lt_bits (n : Nat) (s : Nat → Int) (h : ∀ v, v < n → s v = 0 ∨ s v = 1) (i : Nat) (hi : i < n) (h0 : s i = 0) : S n s < n := by
  induction n with
  | zero => omega
  | succ n ih =>
    have h1 := S_le_bits n s (fun v hv => h v (by omega))
    have h2 := h n (by omega)
    simp only [S]
    by_cases hin : i = n
    · subst hin; omega
    · have := ih (fun v hv => h v (by omega)) (by omega)
      omega
theorem S_mark (n : Nat) (s : Nat → Int) (i : Nat) (hi : i < n) : S n (mark s i) = S n s + 1 := by
  have e : S n (mark s i) = S n (fun v => s v + if v = i then (fun _ => (1 : Int)) v else 0) := S_congr fun v hv => by
    unfold mark
    by_cases h : v = i
    · rw [if_pos h, if_pos h]
    · rw [if_neg h, if_neg h, Int.add_zero]
  rw [e, S_add, S_pick n i _ hi]

/-- The rounds so far, from the places below q: what is seen is theirs; t: how often the parity was turned over. -/
structure Rounds (n : Nat) (p : Nat → Nat) (cs : List (List Nat)) (s : Nat → Int) (q t : Nat) : Prop where
  red : Red n p s t
  bits : ∀ v, v < n → s v = 0 ∨ s v = 1
  seen : ∀ v, v < q → v < n → s v = 1
  sum : t = (cs.map fun l => l.length - 1).sum
  all : ∀ v, v < n → s v = (cs.map fun l => if v ∈ l then (1 : Int) else 0).sum
  each : ∀ l ∈ cs, 0 < l.length ∧ (∀ x ∈ l, x < n ∧ lk l 0 ≤ x) ∧ (∀ j, j + 1 < l.length → p (lk l j) = lk l (j + 1)) ∧ p (lk l (l.length - 1)) = lk l 0 ∧ lk l 0 < q
  rise : ∀ a b, a < b → b < cs.length → lk (cs.getD a []) 0 < lk (cs.getD b []) 0
  room : cs.length ≤ q
  nodup : ∀ l ∈ cs, l.Nodup

theorem Rounds.start (n : Nat) (p p' : Nat → Nat) (hp : Ord n p p') : Rounds n p [] (fun _ => 0) 0 0 :=
  ⟨red_init n p p' hp, fun _ _ => .inl rfl, (fun v hv => by omega), rfl, fun v _ => rfl, (fun l hl => by cases hl), (fun a b _ hb => by simp at hb), by simp, (fun l hl => by cases hl)⟩
/-- The place q is seen already. -/
theorem Rounds.skip {n : Nat} {p : Nat → Nat} {cs : List (List Nat)} {s : Nat → Int} {q t : Nat} (h : Rounds n p cs s q t) (h1 : s q = 1) : Rounds n p cs s (q + 1) t :=
  ⟨h.red, h.bits, fun v hv hn => by
    rcases Nat.lt_succ_iff_lt_or_eq.1 hv with h2 | rfl
    · exact h.seen v h2 hn
    · exact h1, h.sum, h.all, (fun l hl => by
      obtain ⟨a, b, c, d, e⟩ := h.each l hl
      exact ⟨a, b, c, d, by omega⟩), h.rise, (by have := h.room; omega), h.nodup⟩
theorem sum_snoc (l : List Int) (x : Int) : (l ++ [x]).sum = l.sum + x := by simp
theorem Rounds.add {n : Nat} {p : Nat → Nat} {cs : List (List Nat)} {s s' : Nat → Int} {q t : Nat} {ls : List Nat} (h : Rounds n p cs s q t) (hq : q < n) (hr : RoundSt n p s q t ls s' q) (h1 : 0 < ls.length) (hR : Red n p s' (t + (ls.length - 1))) (hl : p (lk ls (ls.length - 1)) = q) (h0 : lk ls 0 = q) :
    Rounds n p (cs ++ [ls]) s' (q + 1) (t + (ls.length - 1)) := by
  refine ⟨hR, hr.bits, fun v hv hn => ?_, ?_, fun v hv => ?_, fun l hl' => ?_, fun a b hab hb => ?_, ?_, fun l hl' => ?_⟩
  · have hm := hr.marks v
    rcases Nat.lt_succ_iff_lt_or_eq.1 hv with h2 | rfl
    · have h3 := h.seen v h2 hn
      rw [if_neg (fun hx => by have := (hr.vals v hx).2; omega)] at hm
      omega
    · rw [if_pos (by rw [← h0]; exact lk_mem h1), (hr.vals v (by rw [← h0]; exact lk_mem h1)).2] at hm
      omega
  · rw [List.map_append, List.sum_append, ← h.sum]; simp
  · rw [List.map_append, hr.marks v, h.all v hv]
    show _ = ((cs.map fun l => if v ∈ l then (1 : Int) else 0) ++ [if v ∈ ls then (1 : Int) else 0]).sum
    rw [sum_snoc]
  · rcases List.mem_append.1 hl' with hl2 | hl2
    · obtain ⟨a, b, c, d, e⟩ := h.each l hl2
      exact ⟨a, b, c, d, by omega⟩
    · simp at hl2
      subst hl2
      refine ⟨h1, fun x hx => ⟨(hr.vals x hx).1, ?_⟩, hr.steps, by rw [h0]; exact hl, by omega⟩
      rw [h0]
      rcases Nat.lt_or_ge x q with h2 | h2
      · have h3 := h.seen x h2 (hr.vals x hx).1
        have := (hr.vals x hx).2
        omega
      · exact h2
  · rw [List.length_append, List.length_singleton] at hb
    by_cases hbl : b < cs.length
    · have e1 : (cs ++ [ls]).getD a [] = cs.getD a [] := by simp [List.getD, List.getElem?_append_left (show a < cs.length by omega)]
      have e2 : (cs ++ [ls]).getD b [] = cs.getD b [] := by simp [List.getD, List.getElem?_append_left hbl]
      rw [e1, e2]; exact h.rise a b hab hbl
    · have hbe : b = cs.length := by omega
      subst hbe
      have e1 : (cs ++ [ls]).getD a [] = cs.getD a [] := by simp [List.getD, List.getElem?_append_left hab]
      have e2 : (cs ++ [ls]).getD cs.length [] = ls := by simp [List.getD]
      rw [e1, e2, h0]
      have hm : cs.getD a [] ∈ cs := by simp [hab]
      exact (h.each _ hm).2.2.2.2
  · have := h.room; simp; omega
  · rcases List.mem_append.1 hl' with hl2 | hl2
    · exact h.nodup l hl2
    · simp at hl2; subst hl2; exact hr.nodup
/-- At the end: the parity of pairs. -/
theorem Rounds.turns {n : Nat} {p : Nat → Nat} {cs : List (List Nat)} {s : Nat → Int} {t : Nat} (h : Rounds n p cs s n t) : ∃ z, turns n p = t + 2 * z :=
  red_final n p s t h.red fun v hv e => by have := h.seen v hv hv; omega
end Go.Proofs.Ytpehbgcbifgokaa
