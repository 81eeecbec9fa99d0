/- Trees that share nothing. No function of the program is named. -/
import Derived.Test.YtncikklhchimdaaTreeC
namespace Go.Proofs.Ytncikklhchimdaa
open Go.RowKit
set_option linter.unusedVariables false
set_option linter.unusedSimpArgs false
set_option maxRecDepth 100000

/-- The slice at address a reads as the trees; its blocks are in F, and no two nodes' kids share one; all may be written. -/
inductive Sep (w : World) : (Nat → Prop) → Option Addr → Nat → List Tr → Prop
  | nil (F : Nat → Prop) : Sep w F none 0 []
  | empty (F : Nat → Prop) (a : Addr) (cap : Nat) : Sep w F (some a) cap []
  | row (F : Nat → Prop) (b cap : Nat) (ks : List Tr) (A : Nat → Option Addr) (C : Nat → Nat) (G : Nat → Nat → Prop) (hpos : 0 < ks.length) (hl : ks.length ≤ cap) (hF : F b)
      (hG : ∀ i x, i < ks.length → G i x → F x ∧ x ≠ b) (hd : ∀ i j x, i < ks.length → j < ks.length → G i x → G j x → i = j) (hfz : ∀ o, w.frozen? ⟨b, o, none⟩ = false)
      (h0 : ∀ i, i < ks.length → w.cell? ⟨b, i * 3, none⟩ = some (.int .i64 (Tr.kid ks i).kind))
      (h1 : ∀ i, i < ks.length → w.cell? ⟨b, i * 3 + 1, none⟩ = some (.int .i64 (Tr.kid ks i).num))
      (h2 : ∀ i, i < ks.length → w.cell? ⟨b, i * 3 + 2, none⟩ = some (.slice (A i) (Tr.kid ks i).kids.length (C i)))
      (hk : ∀ i, i < ks.length → Sep w (G i) (A i) (C i) (Tr.kid ks i).kids) : Sep w F (some ⟨b, 0, none⟩) cap ks

theorem Sep.kids {w : World} {F : Nat → Prop} {a : Option Addr} {cap : Nat} {ks : List Tr} (h : Sep w F a cap ks) : Kids w F a cap ks := by
  induction h with
  | nil => exact .nil
  | empty F a cap => exact .empty a cap
  | row F b cap ks A C G hpos hl hF hG hd hfz h0 h1 h2 _ ih =>
    exact .row b 0 cap ks A C hpos hl hF (fun i hi => by rw [Nat.zero_add]; exact h0 i hi) (fun i hi => by rw [Nat.zero_add]; exact h1 i hi) (fun i hi => by rw [Nat.zero_add]; exact h2 i hi) fun i hi => (ih i hi).mono fun x hx => (hG i x hi hx).1
theorem Sep.mono {w : World} {F G : Nat → Prop} {a : Option Addr} {cap : Nat} {ks : List Tr} (h : Sep w F a cap ks) (hs : ∀ b, F b → G b) : Sep w G a cap ks := by
  cases h with
  | nil => exact .nil _
  | empty F a cap => exact .empty _ a cap
  | row F b cap ks A C H hpos hl hF hG hd hfz h0 h1 h2 hk => exact .row _ b cap ks A C H hpos hl (hs b hF) (fun i x hi hx => ⟨hs x (hG i x hi hx).1, (hG i x hi hx).2⟩) hd hfz h0 h1 h2 hk
theorem Sep.stay {w w' : World} {F : Nat → Prop} {a : Option Addr} {cap : Nat} {ks : List Tr} (h : Sep w F a cap ks) : (∀ b, F b → b < w.heap.size → w'.heap[b]? = w.heap[b]?) → Sep w' F a cap ks := by
  induction h with
  | nil => intro _; exact .nil _
  | empty F a cap => intro _; exact .empty _ a cap
  | row F b cap ks A C G hpos hl hF hG hd hfz h0 h1 h2 _ ih =>
    intro hs
    have hb : b < w.heap.size := World.block_lt_of_cell? w _ (h0 0 hpos)
    have e := fun o => World.cell?_of_block (w := w) (w' := w') (a := ⟨b, o, none⟩) (hs b hF hb)
    have e2 := fun o => World.frozen?_of_block (w := w) (w' := w') (a := ⟨b, o, none⟩) (hs b hF hb)
    exact .row F b cap ks A C G hpos hl hF hG hd (fun o => (e2 o).trans (hfz o)) (fun i hi => (e _).trans (h0 i hi)) (fun i hi => (e _).trans (h1 i hi)) (fun i hi => (e _).trans (h2 i hi)) fun i hi => ih i hi fun x hx hlt => hs x (hG i x hi hx).1 hlt

/-- Two numbers and a slice read as a tree that shares nothing. -/
structure IsS (w : World) (F : Nat → Prop) (k n : Int) (a : Option Addr) (m cap : Nat) (t : Tr) : Prop where
  ek : k = t.kind
  en : n = t.num
  em : m = t.kids.length
  ok : t.Ok
  sep : Sep w F a cap t.kids
theorem IsS.tree {w : World} {F : Nat → Prop} {k n : Int} {a : Option Addr} {m cap : Nat} {t : Tr} (h : IsS w F k n a m cap t) : IsT w F k n a m cap t := ⟨h.ek, h.en, h.em, h.ok, h.sep.kids⟩
theorem IsS.mono {w : World} {F G : Nat → Prop} {k n : Int} {a : Option Addr} {m cap : Nat} {t : Tr} (h : IsS w F k n a m cap t) (hs : ∀ b, F b → G b) : IsS w G k n a m cap t := ⟨h.ek, h.en, h.em, h.ok, h.sep.mono hs⟩
theorem IsS.stay {w w' : World} {F : Nat → Prop} {k n : Int} {a : Option Addr} {m cap : Nat} {t : Tr} (h : IsS w F k n a m cap t) (hs : ∀ b, F b → b < w.heap.size → w'.heap[b]? = w.heap[b]?) : IsS w' F k n a m cap t := ⟨h.ek, h.en, h.em, h.ok, h.sep.stay hs⟩
theorem IsS.later {w w' : World} {F : Nat → Prop} {k n : Int} {a : Option Addr} {m cap : Nat} {t : Tr} (h : IsS w F k n a m cap t) (hb : Below w.heap.size w w') : IsS w' F k n a m cap t := h.stay fun b _ hlt => hb.block b hlt

/-- Cells that read as trees that share nothing. -/
inductive CellsS (w : World) : (Nat → Prop) → List Value → List Tr → Prop
  | nil (F : Nat → Prop) : CellsS w F [] []
  | cons {F H G : Nat → Prop} {k n : Int} {a : Option Addr} {m c : Nat} {t : Tr} {xs : List Value} {ts : List Tr} (h : IsS w H k n a m c t) (hs : CellsS w G xs ts) (hH : ∀ x, H x → F x) (hG : ∀ x, G x → F x) (hd : ∀ x, H x → ¬ G x) :
      CellsS w F (.int .i64 k :: .int .i64 n :: .slice a m c :: xs) (t :: ts)
theorem CellsS.cells {w : World} {F : Nat → Prop} {xs : List Value} {ts : List Tr} (h : CellsS w F xs ts) : CellsT w F xs ts := by
  induction h with
  | nil => exact .nil
  | cons h _ hH hG _ ih => exact .cons (h.tree.mono hH) (ih.mono hG)
theorem CellsS.mono {w : World} {F G : Nat → Prop} {xs : List Value} {ts : List Tr} (h : CellsS w F xs ts) (hs : ∀ b, F b → G b) : CellsS w G xs ts := by
  cases h with
  | nil => exact .nil _
  | cons h h2 hH hG hd => exact .cons h h2 (fun x hx => hs x (hH x hx)) (fun x hx => hs x (hG x hx)) hd
theorem CellsS.stay {w w' : World} {F : Nat → Prop} {xs : List Value} {ts : List Tr} (h : CellsS w F xs ts) : (∀ b, F b → b < w.heap.size → w'.heap[b]? = w.heap[b]?) → CellsS w' F xs ts := by
  induction h with
  | nil => intro _; exact .nil _
  | cons h _ hH hG hd ih => intro hs; exact .cons (h.stay fun b hb => hs b (hH b hb)) (ih fun b hb => hs b (hG b hb)) hH hG hd
theorem CellsS.snoc {w : World} {F H : Nat → Prop} {xs : List Value} {ts : List Tr} {k n : Int} {a : Option Addr} {m c : Nat} {t : Tr} (h : CellsS w F xs ts) (h2 : IsS w H k n a m c t) :
    ∀ K : Nat → Prop, (∀ x, F x → K x) → (∀ x, H x → K x) → (∀ x, F x → ¬ H x) → CellsS w K (xs ++ [.int .i64 k, .int .i64 n, .slice a m c]) (ts ++ [t]) := by
  induction h with
  | nil F => intro K hF hH hd; exact .cons h2 (.nil (fun _ => False)) hH (fun x hx => hx.elim) (fun x _ h => h)
  | cons h3 _ hH' hG' hd' ih =>
    intro K hF hH hd
    exact .cons h3 (ih (fun x => K x ∧ (_ : Prop)) (fun x hx => ⟨hF x (hG' x hx), hx |> Or.inl⟩) (fun x hx => ⟨hH x hx, Or.inr hx⟩) (fun x hx => hd x (hG' x hx))) (fun x hx => hF x (hH' x hx)) (fun x hx => hx.1) (fun x hx h => h.2.elim (hd' x hx) (hd x (hH' x hx)))
theorem CellsS.parts {w : World} {F : Nat → Prop} {xs : List Value} {ts : List Tr} (h : CellsS w F xs ts) :
    ∃ (G : Nat → Nat → Prop) (A : Nat → Option Addr) (C : Nat → Nat), (∀ i x, i < ts.length → G i x → F x) ∧ (∀ i j x, i < ts.length → j < ts.length → G i x → G j x → i = j) ∧
      ∀ i, i < ts.length → xs[i * 3]? = some (.int .i64 (Tr.kid ts i).kind) ∧ xs[i * 3 + 1]? = some (.int .i64 (Tr.kid ts i).num) ∧ xs[i * 3 + 2]? = some (.slice (A i) (Tr.kid ts i).kids.length (C i)) ∧ Sep w (G i) (A i) (C i) (Tr.kid ts i).kids := by
  induction h with
  | nil F => exact ⟨fun _ _ => False, fun _ => none, fun _ => 0, fun i x hi => by simp at hi, fun i j x hi => by simp at hi, fun i hi => by simp at hi⟩
  | @cons F H G k n a m c t xs ts h hs hH hG hd ih =>
    obtain ⟨G', A, C, i1, i2, i3⟩ := ih
    refine ⟨fun i => match i with | 0 => H | i + 1 => G' i, fun i => match i with | 0 => a | i + 1 => A i, fun i => match i with | 0 => c | i + 1 => C i, ?_, ?_, ?_⟩
    · intro i x hi hx
      cases i with
      | zero => exact hH x hx
      | succ i => exact hG x (i1 i x (by simpa using hi) hx)
    · intro i j x hi hj hx hy
      cases i with
      | zero =>
        cases j with
        | zero => rfl
        | succ j => exact absurd (i1 j x (by simpa using hj) hy) (hd x hx)
      | succ i =>
        cases j with
        | zero => exact absurd (i1 i x (by simpa using hi) hx) (hd x hy)
        | succ j => rw [i2 i j x (by simpa using hi) (by simpa using hj) hx hy]
    · intro i hi
      cases i with
      | zero => exact ⟨by show some _ = some _; rw [h.ek]; rfl, by show some _ = some _; rw [h.en]; rfl, by show some _ = some _; rw [h.em]; rfl, h.sep⟩
      | succ i =>
        obtain ⟨j0, j1, j2, j3⟩ := i3 i (by simpa using hi)
        refine ⟨?_, ?_, ?_, j3⟩
        · rw [show (i + 1) * 3 = i * 3 + 3 by omega]; exact j0
        · rw [show (i + 1) * 3 + 1 = i * 3 + 1 + 3 by omega]; exact j1
        · rw [show (i + 1) * 3 + 2 = i * 3 + 2 + 3 by omega]; exact j2

/-- A row of such trees that the call owns. -/
theorem sep_of_own {w : World} {base : Nat} {e : TypeId} {a : Option Addr} {n cap : Nat} {xs : List Value} {F K : Nat → Prop} {ts : List Tr} (h : w.ownsRow base e 3 (.slice a n cap) n xs) (hc : CellsS w F xs ts) (hn : ts.length = n)
    (hF : ∀ b, F b → K b) (hg : ∀ g, a = some ⟨g, 0, none⟩ → K g ∧ ¬ F g) : Sep w K a cap ts := by
  rcases h.2 with ⟨hv, h0⟩ | ⟨g, cap', cur, hv, hb, hgg, hnc, hcm, hcs, htake⟩
  · simp only [Value.slice.injEq] at hv
    obtain ⟨rfl, _, rfl⟩ := hv
    obtain rfl : ts = [] := List.length_eq_zero_iff.1 (by omega)
    exact .nil _
  · simp only [Value.slice.injEq, true_and] at hv
    obtain ⟨rfl, rfl⟩ := hv
    rcases Nat.eq_zero_or_pos n with h0 | hpos
    · obtain rfl : ts = [] := List.length_eq_zero_iff.1 (by omega)
      exact .empty _ _ _
    · obtain ⟨G, A, C, i1, i2, i3⟩ := hc.parts
      have hrow : w.ownsRow base e 3 (.slice (some ⟨g, 0, none⟩) n cap) n xs := ⟨h.1, .inr ⟨g, cap, cur, rfl, hb, hgg, hnc, hcm, hcs, htake⟩⟩
      have hcell : ∀ j, j < n * 3 → w.cell? ⟨g, j, none⟩ = xs[j]? := fun j hj => hrow.cellAt j hj
      obtain ⟨hgK, hgF⟩ := hg g rfl
      refine .row K g cap ts A C G (by omega) (by omega) hgK (fun i x hi hx => ⟨hF x (i1 i x hi hx), fun e => hgF (e ▸ i1 i x hi hx)⟩) i2 (fun o => hrow.frozenAt o) (fun i hi => ?_) (fun i hi => ?_) (fun i hi => ?_) (fun i hi => (i3 i hi).2.2.2)
      · rw [hcell _ (by omega)]; exact (i3 i hi).1
      · rw [hcell _ (by omega)]; exact (i3 i hi).2.1
      · rw [hcell _ (by omega)]; exact (i3 i hi).2.2.1
end Go.Proofs.Ytncikklhchimdaa
