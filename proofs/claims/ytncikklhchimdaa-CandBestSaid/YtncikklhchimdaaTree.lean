/- Words on memory: trees of descriptors. No function of the program is named. -/
import Derived.Test.YtncikklhchimdaaRowing
namespace Go.Proofs.Ytncikklhchimdaa
open Go.RowKit
set_option linter.unusedVariables false
set_option linter.unusedSimpArgs false
set_option maxRecDepth 100000

/-- A tree: two numbers, and trees below. -/
inductive Tr where
  | node (k n : Int) (ks : List Tr) : Tr
namespace Tr
def kind : Tr → Int | node k _ _ => k
def num : Tr → Int | node _ n _ => n
def kids : Tr → List Tr | node _ _ ks => ks
theorem eta (t : Tr) : node t.kind t.num t.kids = t := by cases t; rfl
mutual
def size : Tr → Nat
  | node _ _ ks => sizeL ks + 1
def sizeL : List Tr → Nat
  | [] => 0
  | t :: ts => size t + sizeL ts
end
mutual
def Ok : Tr → Prop
  | node k n ks => fits .i64 k ∧ fits .i64 n ∧ OkL ks
def OkL : List Tr → Prop
  | [] => True
  | t :: ts => Ok t ∧ OkL ts
end
theorem size_kids (t : Tr) : t.size = sizeL t.kids + 1 := by cases t; simp [size, kids]
theorem size_pos (t : Tr) : 1 ≤ t.size := by rw [size_kids]; omega
theorem len_le_sizeL (ks : List Tr) : ks.length ≤ sizeL ks := by
  induction ks with
  | nil => simp
  | cons t ts ih => have := size_pos t; simp only [List.length_cons, sizeL]; omega
theorem sizeL_append (l r : List Tr) : sizeL (l ++ r) = sizeL l + sizeL r := by
  induction l with
  | nil => simp [sizeL]
  | cons t ts ih => simp only [List.cons_append, sizeL, ih]; omega
/-- The i-th of some trees. -/
def kid (ks : List Tr) (i : Nat) : Tr := ks.getD i (node 0 0 [])
theorem kid_mem {ks : List Tr} {i : Nat} (h : i < ks.length) : kid ks i ∈ ks := by simp [kid, h]
theorem kid_get {ks : List Tr} {i : Nat} (h : i < ks.length) : kid ks i = ks[i] := by simp [kid, h]
theorem take_kid {ks : List Tr} {k : Nat} (h : k < ks.length) : ks.take (k + 1) = ks.take k ++ [kid ks k] := by
  rw [List.take_succ_eq_append_getElem h]; simp [kid, h]
theorem drop_kid {ks : List Tr} {k : Nat} (h : k < ks.length) : ks.drop k = kid ks k :: ks.drop (k + 1) := by
  rw [List.drop_eq_getElem_cons h, kid_get h]
theorem size_mem {ks : List Tr} {t : Tr} (h : t ∈ ks) : t.size ≤ sizeL ks := by
  induction ks with
  | nil => cases h
  | cons x r ih =>
    simp only [sizeL]
    rcases List.mem_cons.1 h with rfl | h
    · omega
    · have := ih h; omega
theorem size_kid (t : Tr) (i : Nat) (h : i < t.kids.length) : (kid t.kids i).size < t.size := by
  have := size_mem (kid_mem h)
  rw [size_kids t]; omega
theorem ok_kids {t : Tr} (h : t.Ok) : OkL t.kids := by cases t; simp only [Ok, kids] at *; exact h.2.2
theorem ok_kind {t : Tr} (h : t.Ok) : fits .i64 t.kind := by cases t; simp only [Ok, kind] at *; exact h.1
theorem ok_num {t : Tr} (h : t.Ok) : fits .i64 t.num := by cases t; simp only [Ok, num] at *; exact h.2.1
theorem ok_mem {ks : List Tr} {t : Tr} (h : t ∈ ks) (hk : OkL ks) : t.Ok := by
  induction ks with
  | nil => cases h
  | cons x r ih =>
    simp only [OkL] at hk
    rcases List.mem_cons.1 h with rfl | h
    · exact hk.1
    · exact ih h hk.2
theorem okL_of {ks : List Tr} (h : ∀ t ∈ ks, t.Ok) : OkL ks := by
  induction ks with
  | nil => simp [OkL]
  | cons x r ih => simp only [OkL]; exact ⟨h x (by simp), ih fun t ht => h t (by simp [ht])⟩
end Tr

/-- The slice at address a (its capacity: cap) reads as the trees; the blocks that it goes through are in F. -/
inductive Kids (w : World) (F : Nat → Prop) : Option Addr → Nat → List Tr → Prop
  | nil : Kids w F none 0 []
  | empty (a : Addr) (cap : Nat) : Kids w F (some a) cap []
  | row (b off cap : Nat) (ks : List Tr) (A : Nat → Option Addr) (C : Nat → Nat) (hpos : 0 < ks.length) (hl : ks.length ≤ cap) (hF : F b)
      (h0 : ∀ i, i < ks.length → w.cell? ⟨b, off + i * 3, none⟩ = some (.int .i64 (Tr.kid ks i).kind))
      (h1 : ∀ i, i < ks.length → w.cell? ⟨b, off + i * 3 + 1, none⟩ = some (.int .i64 (Tr.kid ks i).num))
      (h2 : ∀ i, i < ks.length → w.cell? ⟨b, off + i * 3 + 2, none⟩ = some (.slice (A i) (Tr.kid ks i).kids.length (C i)))
      (hk : ∀ i, i < ks.length → Kids w F (A i) (C i) (Tr.kid ks i).kids) : Kids w F (some ⟨b, off, none⟩) cap ks

theorem Kids.mono {w : World} {F G : Nat → Prop} {a : Option Addr} {cap : Nat} {ks : List Tr} (h : Kids w F a cap ks) (hs : ∀ b, F b → G b) : Kids w G a cap ks := by
  induction h with
  | nil => exact .nil
  | empty a cap => exact .empty a cap
  | row b off cap ks A C hpos hl hF h0 h1 h2 _ ih => exact .row b off cap ks A C hpos hl (hs b hF) h0 h1 h2 ih

/-- What leaves the blocks in F alone leaves the trees. -/
theorem Kids.stay {w w' : World} {F : Nat → Prop} {a : Option Addr} {cap : Nat} {ks : List Tr} (h : Kids w F a cap ks) (hs : ∀ b, F b → b < w.heap.size → w'.heap[b]? = w.heap[b]?) : Kids w' F a cap ks := by
  induction h with
  | nil => exact .nil
  | empty a cap => exact .empty a cap
  | row b off cap ks A C hpos hl hF h0 h1 h2 _ ih =>
    have hb : b < w.heap.size := World.block_lt_of_cell? w _ (h0 0 hpos)
    have e := fun o => World.cell?_of_block (w := w) (w' := w') (a := ⟨b, o, none⟩) (hs b hF hb)
    exact .row b off cap ks A C hpos hl hF (fun i hi => (e _).trans (h0 i hi)) (fun i hi => (e _).trans (h1 i hi)) (fun i hi => (e _).trans (h2 i hi)) ih

theorem Kids.cap {w : World} {F : Nat → Prop} {a : Option Addr} {cap : Nat} {ks : List Tr} (h : Kids w F a cap ks) : OkCap a ks.length cap := by
  cases h with
  | nil => exact ⟨Nat.le_refl _, fun _ => rfl⟩
  | empty a cap => exact ⟨Nat.zero_le _, fun h => by cases h⟩
  | row b off cap ks A C hpos hl => exact ⟨hl, fun h => by cases h⟩

/-- Two numbers and a slice read as a tree. -/
structure IsT (w : World) (F : Nat → Prop) (k n : Int) (a : Option Addr) (m cap : Nat) (t : Tr) : Prop where
  ek : k = t.kind
  en : n = t.num
  em : m = t.kids.length
  ok : t.Ok
  kids : Kids w F a cap t.kids

theorem IsT.fk {w : World} {F : Nat → Prop} {k n : Int} {a : Option Addr} {m cap : Nat} {t : Tr} (h : IsT w F k n a m cap t) : -9223372036854775808 ≤ k ∧ k < 9223372036854775808 := by
  have := fits_i64.1 (Tr.ok_kind h.ok); rw [h.ek]; exact this
theorem IsT.fn {w : World} {F : Nat → Prop} {k n : Int} {a : Option Addr} {m cap : Nat} {t : Tr} (h : IsT w F k n a m cap t) : -9223372036854775808 ≤ n ∧ n < 9223372036854775808 := by
  have := fits_i64.1 (Tr.ok_num h.ok); rw [h.en]; exact this
theorem IsT.mono {w : World} {F G : Nat → Prop} {k n : Int} {a : Option Addr} {m cap : Nat} {t : Tr} (h : IsT w F k n a m cap t) (hs : ∀ b, F b → G b) : IsT w G k n a m cap t := ⟨h.ek, h.en, h.em, h.ok, h.kids.mono hs⟩
theorem IsT.stay {w w' : World} {F : Nat → Prop} {k n : Int} {a : Option Addr} {m cap : Nat} {t : Tr} (h : IsT w F k n a m cap t) (hs : ∀ b, F b → b < w.heap.size → w'.heap[b]? = w.heap[b]?) : IsT w' F k n a m cap t := ⟨h.ek, h.en, h.em, h.ok, h.kids.stay hs⟩
theorem IsT.below {w w' : World} {F : Nat → Prop} {k n : Int} {a : Option Addr} {m cap : Nat} {t : Tr} (h : IsT w F k n a m cap t) (hb : Below w.heap.size w w') : IsT w' F k n a m cap t := h.stay fun b _ hlt => hb.block b hlt

/-- The i-th kid. -/
theorem IsT.kid {w : World} {F : Nat → Prop} {k n : Int} {a : Option Addr} {m cap : Nat} {t : Tr} (h : IsT w F k n a m cap t) (i : Nat) (hi : i < m) :
    ∃ b off k' n' a' m' c', a = some ⟨b, off, none⟩ ∧ F b ∧ b < w.heap.size ∧ w.cell? ⟨b, off + i * 3, none⟩ = some (.int .i64 k') ∧ w.cell? ⟨b, off + i * 3 + 1, none⟩ = some (.int .i64 n') ∧ w.cell? ⟨b, off + i * 3 + 2, none⟩ = some (.slice a' m' c') ∧
      IsT w F k' n' a' m' c' (Tr.kid t.kids i) := by
  have hi' := hi
  rw [h.em] at hi'
  have hok := Tr.ok_mem (Tr.kid_mem hi') (Tr.ok_kids h.ok)
  have hk := h.kids
  generalize t.kids = ks at hk hi' hok ⊢
  cases hk with
  | nil => simp at hi'
  | empty => simp at hi'
  | row b off cap ks A C hpos hl hF h0 h1 h2 hk =>
    exact ⟨b, off, _, _, _, _, _, rfl, hF, World.block_lt_of_cell? w _ (h0 0 hpos), h0 i hi', h1 i hi', h2 i hi', rfl, rfl, rfl, hok, hk i hi'⟩

theorem fits_zero : fits .i64 0 := by rw [fits_i64]; omega

/-- A tree as a value. -/
def IsV (w : World) (F : Nat → Prop) (v : Value) (t : Tr) : Prop := ∃ k n a m cap, v = .agg #[.int .i64 k, .int .i64 n, .slice a m cap] ∧ IsT w F k n a m cap t
end Go.Proofs.Ytncikklhchimdaa
