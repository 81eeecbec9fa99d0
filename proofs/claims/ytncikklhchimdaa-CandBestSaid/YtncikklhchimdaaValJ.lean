/- Plain laws: what is below a plan is a plan; a plan in a plan's place. -/
import Derived.Test.YtncikklhchimdaaValF
import Derived.Test.YtncikklhchimdaaTreeS
namespace Go.Proofs.Ytncikklhchimdaa
open Go.RowKit
set_option linter.unusedVariables false
set_option linter.unusedSimpArgs false
set_option maxRecDepth 100000

namespace Tr
theorem mem_nodesL {ks : List Tr} {u : Tr} : u ∈ nodesL ks ↔ ∃ i, i < ks.length ∧ u ∈ (kid ks i).nodes := by
  induction ks with
  | nil => simp [nodesL]
  | cons x r ih =>
    simp only [nodesL, List.mem_append, ih]
    constructor
    · rintro (h | ⟨i, hi, h⟩)
      · exact ⟨0, by simp, h⟩
      · exact ⟨i + 1, by simpa using hi, h⟩
    · rintro ⟨i, hi, h⟩
      cases i with
      | zero => exact .inl h
      | succ i => exact .inr ⟨i, by simpa using hi, h⟩
theorem mem_nodes {t u : Tr} : u ∈ t.nodes ↔ u = t ∨ ∃ i, i < t.kids.length ∧ u ∈ (kid t.kids i).nodes := by
  rw [nodes_kids, List.mem_cons, mem_nodesL]
/-- Is each node right? -/
def allOk (t : Tr) : Prop := ∀ u ∈ t.nodes, nodeOk u = true
theorem allOk_iff (t : Tr) : allOk t ↔ nodeOk t = true ∧ ∀ i, i < t.kids.length → allOk (kid t.kids i) := by
  unfold allOk
  constructor
  · intro h; exact ⟨h t (mem_nodes.2 (.inl rfl)), fun i hi u hu => h u (mem_nodes.2 (.inr ⟨i, hi, hu⟩))⟩
  · rintro ⟨h0, h1⟩ u hu
    rcases mem_nodes.1 hu with rfl | ⟨i, hi, hu⟩
    · exact h0
    · exact h1 i hi u hu
theorem allOk_at {t s : Tr} : ∀ {p : List Int}, at? t p = some s → allOk t → allOk s
  | [], h, ht => by unfold at? at h; cases h; exact ht
  | i :: p, h, ht => by
    obtain ⟨h0, h1, h2⟩ := at_yes h
    exact allOk_at h2 (((allOk_iff t).1 ht).2 _ (by omega))
theorem depth_mem {ks : List Tr} {t : Tr} (h : t ∈ ks) : t.depth ≤ depthL ks := by
  induction ks with
  | nil => cases h
  | cons x r ih =>
    simp only [depthL]
    rcases List.mem_cons.1 h with rfl | h
    · omega
    · have := ih h; omega
theorem depth_at {t s : Tr} : ∀ {p : List Int}, at? t p = some s → s.depth ≤ t.depth
  | [], h => by unfold at? at h; cases h; exact Nat.le_refl _
  | i :: p, h => by
    obtain ⟨h0, h1, h2⟩ := at_yes h
    have h3 := depth_at h2
    have h4 := depth_mem (kid_mem (ks := t.kids) (i := i.toNat) (by omega))
    rw [depth_kids t]; omega
theorem put_num {t s u : Tr} (hu : u.num = s.num) : ∀ {p : List Int}, at? t p = some s → (put t p u).num = t.num
  | [], h => by unfold at? at h; cases h; exact hu
  | i :: p, h => rfl
/-- Another child of the same size leaves a node right. -/
theorem setKid_ok' {t v : Tr} {i : Nat} (hi : i < t.kids.length) (hv : v.num = (kid t.kids i).num) : nodeOk (setKid t i v) = nodeOk t := by
  have h : ∀ j, (kid (t.kids.set i v) j).num = (kid t.kids j).num := fun j => by
    rw [kid_set _ _ _ _ hi]
    split
    · rename_i h; rw [h]; exact hv
    · rfl
  unfold nodeOk
  show nodeB t.kind t.num (t.kids.set i v).length (kid (t.kids.set i v) 0).num (kid (t.kids.set i v) 1).num = _
  rw [h 0, h 1, List.length_set]
theorem allOk_put {t s u : Tr} (hu : allOk u) (hn : u.num = s.num) : ∀ {p : List Int}, at? t p = some s → allOk t → allOk (put t p u)
  | [], h, ht => hu
  | i :: p, h, ht => by
    obtain ⟨h0, h1, h2⟩ := at_yes h
    have ht' := (allOk_iff t).1 ht
    have hi : i.toNat < t.kids.length := by omega
    have hk := allOk_put hu hn h2 (ht'.2 _ hi)
    show allOk (setKid t i.toNat (put (kid t.kids i.toNat) p u))
    rw [allOk_iff]
    refine ⟨by rw [setKid_ok' hi (put_num hn h2)]; exact ht'.1, fun j hj => ?_⟩
    have hj' : j < t.kids.length := by
      have : (setKid t i.toNat (put (kid t.kids i.toNat) p u)).kids = t.kids.set i.toNat (put (kid t.kids i.toNat) p u) := rfl
      rw [this, List.length_set] at hj; exact hj
    show allOk (kid (t.kids.set i.toNat (put (kid t.kids i.toNat) p u)) j)
    rw [kid_set _ _ _ _ hi]
    split
    · exact hk
    · exact ht'.2 j hj'
end Tr

theorem chk_zero {t : Tr} : chk t = 0 ↔ (t.size ≤ 60 ∧ t.depth ≤ 12) ∧ t.allOk := by
  have h := Tr.wrong_all t
  unfold chk bigB Tr.allOk
  rw [← h]
  by_cases h1 : 60 < t.size
  · simp [h1]; omega
  · by_cases h2 : 12 < t.depth
    · simp [h1, h2]; omega
    · simp only [h1, h2]
      cases hw : t.wrong.isSome <;> simp <;> omega
theorem chk_at {t s : Tr} {p : List Int} (h : Tr.at? t p = some s) (ht : chk t = 0) : chk s = 0 := by
  rw [chk_zero] at *
  exact ⟨⟨Nat.le_trans (Tr.at_size h) ht.1.1, Nat.le_trans (Tr.depth_at h) ht.1.2⟩, Tr.allOk_at h ht.2⟩
theorem chk_put {t s u : Tr} {p : List Int} (h : Tr.at? t p = some s) (ht : chk t = 0) (hu : chk u = 0) (hn : u.num = s.num) : chk (t.put p u) = 0 ∨ chk (t.put p u) = 12 := by
  have h1 := Tr.allOk_put (chk_zero.1 hu).2 hn h (chk_zero.1 ht).2
  have h2 := (Tr.wrong_all (t.put p u)).2 h1
  unfold chk
  rw [h2]
  by_cases hb : bigB (t.put p u) = true
  · right; rw [if_pos hb]
  · left; rw [if_neg hb]; rfl
end Go.Proofs.Ytncikklhchimdaa
