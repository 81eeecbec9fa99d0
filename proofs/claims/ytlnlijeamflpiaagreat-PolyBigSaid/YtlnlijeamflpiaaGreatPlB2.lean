/- The contracts and plain laws that the statements PolyMuls PolySizes PolyPowers PolyBig need, part 2 of 9: TreeD TreeE TreeF TreeG TreeH TreeJ TreeS Pow SzB SzC FactL ValL FactA ValA ValB. -/
import Derived.Test.YtlnlijeamflpiaaGreatPlB1
namespace Go.Proofs.YtlnlijeamflpiaaGreat
open Go.RowKit
set_option linter.unusedVariables false
set_option linter.unusedSimpArgs false
set_option maxRecDepth 100000
/-- The slice at address a reads as the trees; its blocks are in F, and no two nodes' kids share one; all may be written. -/
inductive Sep (w : World) : (Nat → Prop) → Option Addr → Nat → List Tr → Prop
  | nil (F : Nat → Prop) : Sep w F none 0 []
  | empty (F : Nat → Prop) (a : Addr) (cap : Nat) : Sep w F (some a) cap []
  | row (F : Nat → Prop) (b cap : Nat) (ks : List Tr) (A : Nat → Option Addr) (C : Nat → Nat) (G : Nat → Nat → Prop) (hpos : 0 < ks.length) (hl : ks.length ≤ cap) (hF : F b)
      (hG : ∀ i x, i < ks.length → G i x → F x ∧ x ≠ b) (hd : ∀ i j x, i < ks.length → j < ks.length → G i x → G j x → i = j) (hfz : ∀ o, w.frozen? ⟨b, o, none⟩ = false)
      (h0 : ∀ i, i < ks.length → w.cell? ⟨b, i * 3, none⟩ = some (.int .i64 (Tr.kid ks i).kind))
      (h1 : ∀ i, i < ks.length → w.cell? ⟨b, i * 3 + 1, none⟩ = some (.int .i64 (Tr.kid ks i).num))
      (h2 : ∀ i, i < ks.length → w.cell? ⟨b, i * 3 + 2, none⟩ = some (.slice (A i) (Tr.kid ks i).kids.length (C i)))
      (hk : ∀ i, i < ks.length → Sep w (G i) (A i) (C i) (Tr.kid ks i).kids) : Sep w F (some ⟨b, 0, none⟩) cap ks
theorem Sep.kids {w : World} {F : Nat → Prop} {a : Option Addr} {cap : Nat} {ks : List Tr} (h : Sep w F a cap ks) : Kids w F a cap ks := by
  induction h with
  | nil => exact .nil
  | empty F a cap => exact .empty a cap
  | row F b cap ks A C G hpos hl hF hG hd hfz h0 h1 h2 _ ih =>
    exact .row b 0 cap ks A C hpos hl hF (fun i hi => by rw [Nat.zero_add]; exact h0 i hi) (fun i hi => by rw [Nat.zero_add]; exact h1 i hi) (fun i hi => by rw [Nat.zero_add]; exact h2 i hi) fun i hi => (ih i hi).mono fun x hx => (hG i x hi hx).1
theorem Sep.mono {w : World} {F G : Nat → Prop} {a : Option Addr} {cap : Nat} {ks : List Tr} (h : Sep w F a cap ks) (hs : ∀ b, F b → G b) : Sep w G a cap ks := by
  cases h with
  | nil => exact .nil _
  | empty F a cap => exact .empty _ a cap
  | row F b cap ks A C H hpos hl hF hG hd hfz h0 h1 h2 hk => exact .row _ b cap ks A C H hpos hl (hs b hF) (fun i x hi hx => ⟨hs x (hG i x hi hx).1, (hG i x hi hx).2⟩) hd hfz h0 h1 h2 hk
theorem Sep.stay {w w' : World} {F : Nat → Prop} {a : Option Addr} {cap : Nat} {ks : List Tr} (h : Sep w F a cap ks) : (∀ b, F b → b < w.heap.size → w'.heap[b]? = w.heap[b]?) → Sep w' F a cap ks := by
  induction h with
  | nil => intro _; exact .nil _
  | empty F a cap => intro _; exact .empty _ a cap
  | row F b cap ks A C G hpos hl hF hG hd hfz h0 h1 h2 _ ih =>
    intro hs
    have hb : b < w.heap.size := World.block_lt_of_cell? w _ (h0 0 hpos)
    have e := fun o => World.cell?_of_block (w := w) (w' := w') (a := ⟨b, o, none⟩) (hs b hF hb)
    have e2 := fun o => World.frozen?_of_block (w := w) (w' := w') (a := ⟨b, o, none⟩) (hs b hF hb)
    exact .row F b cap ks A C G hpos hl hF hG hd (fun o => (e2 o).trans (hfz o)) (fun i hi => (e _).trans (h0 i hi)) (fun i hi => (e _).trans (h1 i hi)) (fun i hi => (e _).trans (h2 i hi)) fun i hi => ih i hi fun x hx hlt => hs x (hG i x hi hx).1 hlt
/-- Two numbers and a slice read as a tree that shares nothing. -/
structure IsS (w : World) (F : Nat → Prop) (k n : Int) (a : Option Addr) (m cap : Nat) (t : Tr) : Prop where
  ek : k = t.kind
  en : n = t.num
  em : m = t.kids.length
  ok : t.Ok
  sep : Sep w F a cap t.kids
theorem IsS.tree {w : World} {F : Nat → Prop} {k n : Int} {a : Option Addr} {m cap : Nat} {t : Tr} (h : IsS w F k n a m cap t) : IsT w F k n a m cap t := ⟨h.ek, h.en, h.em, h.ok, h.sep.kids⟩
theorem IsS.mono {w : World} {F G : Nat → Prop} {k n : Int} {a : Option Addr} {m cap : Nat} {t : Tr} (h : IsS w F k n a m cap t) (hs : ∀ b, F b → G b) : IsS w G k n a m cap t := ⟨h.ek, h.en, h.em, h.ok, h.sep.mono hs⟩
theorem IsS.stay {w w' : World} {F : Nat → Prop} {k n : Int} {a : Option Addr} {m cap : Nat} {t : Tr} (h : IsS w F k n a m cap t) (hs : ∀ b, F b → b < w.heap.size → w'.heap[b]? = w.heap[b]?) : IsS w' F k n a m cap t := ⟨h.ek, h.en, h.em, h.ok, h.sep.stay hs⟩
theorem IsS.later {w w' : World} {F : Nat → Prop} {k n : Int} {a : Option Addr} {m cap : Nat} {t : Tr} (h : IsS w F k n a m cap t) (hb : Below w.heap.size w w') : IsS w' F k n a m cap t := h.stay fun b _ hlt => hb.block b hlt
/-- Cells that read as trees that share nothing. -/
inductive CellsS (w : World) : (Nat → Prop) → List Value → List Tr → Prop
  | nil (F : Nat → Prop) : CellsS w F [] []
  | cons {F H G : Nat → Prop} {k n : Int} {a : Option Addr} {m c : Nat} {t : Tr} {xs : List Value} {ts : List Tr} (h : IsS w H k n a m c t) (hs : CellsS w G xs ts) (hH : ∀ x, H x → F x) (hG : ∀ x, G x → F x) (hd : ∀ x, H x → ¬ G x) :
      CellsS w F (.int .i64 k :: .int .i64 n :: .slice a m c :: xs) (t :: ts)
theorem CellsS.cells {w : World} {F : Nat → Prop} {xs : List Value} {ts : List Tr} (h : CellsS w F xs ts) : CellsT w F xs ts := by
  induction h with
  | nil => exact .nil
  | cons h _ hH hG _ ih => exact .cons (h.tree.mono hH) (ih.mono hG)
theorem CellsS.mono {w : World} {F G : Nat → Prop} {xs : List Value} {ts : List Tr} (h : CellsS w F xs ts) (hs : ∀ b, F b → G b) : CellsS w G xs ts := by
  cases h with
  | nil => exact .nil _
  | cons h h2 hH hG hd => exact .cons h h2 (fun x hx => hs x (hH x hx)) (fun x hx => hs x (hG x hx)) hd
theorem CellsS.stay {w w' : World} {F : Nat → Prop} {xs : List Value} {ts : List Tr} (h : CellsS w F xs ts) : (∀ b, F b → b < w.heap.size → w'.heap[b]? = w.heap[b]?) → CellsS w' F xs ts := by
  induction h with
  | nil => intro _; exact .nil _
  | cons h _ hH hG hd ih => intro hs; exact .cons (h.stay fun b hb => hs b (hH b hb)) (ih fun b hb => hs b (hG b hb)) hH hG hd
theorem CellsS.snoc {w : World} {F H : Nat → Prop} {xs : List Value} {ts : List Tr} {k n : Int} {a : Option Addr} {m c : Nat} {t : Tr} (h : CellsS w F xs ts) (h2 : IsS w H k n a m c t) :
    ∀ K : Nat → Prop, (∀ x, F x → K x) → (∀ x, H x → K x) → (∀ x, F x → ¬ H x) → CellsS w K (xs ++ [.int .i64 k, .int .i64 n, .slice a m c]) (ts ++ [t]) := by
  induction h with
  | nil F => intro K hF hH hd; exact .cons h2 (.nil (fun _ => False)) hH (fun x hx => hx.elim) (fun x _ h => h)
  | cons h3 _ hH' hG' hd' ih =>
    intro K hF hH hd
    exact .cons h3 (ih (fun x => K x ∧ (_ : Prop)) (fun x hx => ⟨hF x (hG' x hx), hx |> Or.inl⟩) (fun x hx => ⟨hH x hx, Or.inr hx⟩) (fun x hx => hd x (hG' x hx))) (fun x hx => hF x (hH' x hx)) (fun x hx => hx.1) (fun x hx h => h.2.elim (hd' x hx) (hd x (hH' x hx)))
theorem CellsS.parts {w : World} {F : Nat → Prop} {xs : List Value} {ts : List Tr} (h : CellsS w F xs ts) :
    ∃ (G : Nat → Nat → Prop) (A : Nat → Option Addr) (C : Nat → Nat), (∀ i x, i < ts.length → G i x → F x) ∧ (∀ i j x, i < ts.length → j < ts.length → G i x → G j x → i = j) ∧
      ∀ i, i < ts.length → xs[i * 3]? = some (.int .i64 (Tr.kid ts i).kind) ∧ xs[i * 3 + 1]? = some (.int .i64 (Tr.kid ts i).num) ∧ xs[i * 3 + 2]? = some (.slice (A i) (Tr.kid ts i).kids.length (C i)) ∧ Sep w (G i) (A i) (C i) (Tr.kid ts i).kids := by
  induction h with
  | nil F => exact ⟨fun _ _ => False, fun _ => none, fun _ => 0, fun i x hi => by simp at hi, fun i j x hi => by simp at hi, fun i hi => by simp at hi⟩
  | @cons F H G k n a m c t xs ts h hs hH hG hd ih =>
    obtain ⟨G', A, C, i1, i2, i3⟩ := ih
    refine ⟨fun i => match i with | 0 => H | i + 1 => G' i, fun i => match i with | 0 => a | i + 1 => A i, fun i => match i with | 0 => c | i + 1 => C i, ?_, ?_, ?_⟩
    · intro i x hi hx
      cases i with
      | zero => exact hH x hx
      | succ i => exact hG x (i1 i x (by simpa using hi) hx)
    · intro i j x hi hj hx hy
      cases i with
      | zero =>
        cases j with
        | zero => rfl
        | succ j => exact absurd (i1 j x (by simpa using hj) hy) (hd x hx)
      | succ i =>
        cases j with
        | zero => exact absurd (i1 i x (by simpa using hi) hx) (hd x hy)
        | succ j => rw [i2 i j x (by simpa using hi) (by simpa using hj) hx hy]
    · intro i hi
      cases i with
      | zero => exact ⟨by show some _ = some _; rw [h.ek]; rfl, by show some _ = some _; rw [h.en]; rfl, by show some _ = some _; rw [h.em]; rfl, h.sep⟩
      | succ i =>
        obtain ⟨j0, j1, j2, j3⟩ := i3 i (by simpa using hi)
        refine ⟨?_, ?_, ?_, j3⟩
        · rw [show (i + 1) * 3 = i * 3 + 3 by omega]; exact j0
        · rw [show (i + 1) * 3 + 1 = i * 3 + 1 + 3 by omega]; exact j1
        · rw [show (i + 1) * 3 + 2 = i * 3 + 2 + 3 by omega]; exact j2
/-- A row of such trees that the call owns. -/
theorem sep_of_own {w : World} {base : Nat} {e : TypeId} {a : Option Addr} {n cap : Nat} {xs : List Value} {F K : Nat → Prop} {ts : List Tr} (h : w.ownsRow base e 3 (.slice a n cap) n xs) (hc : CellsS w F xs ts) (hn : ts.length = n)
    (hF : ∀ b, F b → K b) (hg : ∀ g, a = some ⟨g, 0, none⟩ → K g ∧ ¬ F g) : Sep w K a cap ts := by
  rcases h.2 with ⟨hv, h0⟩ | ⟨g, cap', cur, hv, hb, hgg, hnc, hcm, hcs, htake⟩
  · simp only [Value.slice.injEq] at hv
    obtain ⟨rfl, _, rfl⟩ := hv
    obtain rfl : ts = [] := List.length_eq_zero_iff.1 (by omega)
    exact .nil _
  · simp only [Value.slice.injEq, true_and] at hv
    obtain ⟨rfl, rfl⟩ := hv
    rcases Nat.eq_zero_or_pos n with h0 | hpos
    · obtain rfl : ts = [] := List.length_eq_zero_iff.1 (by omega)
      exact .empty _ _ _
    · obtain ⟨G, A, C, i1, i2, i3⟩ := hc.parts
      have hrow : w.ownsRow base e 3 (.slice (some ⟨g, 0, none⟩) n cap) n xs := ⟨h.1, .inr ⟨g, cap, cur, rfl, hb, hgg, hnc, hcm, hcs, htake⟩⟩
      have hcell : ∀ j, j < n * 3 → w.cell? ⟨g, j, none⟩ = xs[j]? := fun j hj => hrow.cellAt j hj
      obtain ⟨hgK, hgF⟩ := hg g rfl
      refine .row K g cap ts A C G (by omega) (by omega) hgK (fun i x hi hx => ⟨hF x (i1 i x hi hx), fun e => hgF (e ▸ i1 i x hi hx)⟩) i2 (fun o => hrow.frozenAt o) (fun i hi => ?_) (fun i hi => ?_) (fun i hi => ?_) (fun i hi => (i3 i hi).2.2.2)
      · rw [hcell _ (by omega)]; exact (i3 i hi).1
      · rw [hcell _ (by omega)]; exact (i3 i hi).2.1
      · rw [hcell _ (by omega)]; exact (i3 i hi).2.2.1
end Go.Proofs.YtlnlijeamflpiaaGreat

namespace Go.Proofs.YtlnlijeamflpiaaGreat
open Go.RowKit
set_option linter.unusedVariables false
set_option linter.unusedSimpArgs false
set_option maxRecDepth 100000
def Iv (lo hi : Nat) (b : Nat) : Prop := lo ≤ b ∧ b < hi
/-- A result: a new tree that shares nothing. -/
def GivesS (t : Tr) (w : World) (e : Ending) (w' : World) : Prop :=
  ∃ k n a m c, e = .returned (.agg #[.int .i64 k, .int .i64 n, .slice a m c]) ∧ IsS w' (Iv w.heap.size w'.heap.size) k n a m c t ∧ Below w.heap.size w w'
theorem cell_three_new (w : World) (x y z : Value) (t : TypeId) : ∀ j u, [x, y, z][j]? = some u → (w.alloc (.cells #[x, y, z] t)).cell? ((⟨w.heap.size, 0, none⟩ : Addr).add j) = some u := by
  intro j u hj
  match j, hj with
  | 0, hj => simp at hj; subst hj; simp [Addr.add]
  | 1, hj => simp at hj; subst hj; simp [Addr.add]
  | 2, hj => simp at hj; subst hj; simp [Addr.add]
theorem one_three (k n : Int) (a : Option Addr) (m c : Nat) : ∀ u ∈ [Value.int .i64 k, Value.int .i64 n, Value.slice a m c], u.oneCell' = true := by
  intro u hu
  simp only [List.mem_cons, List.not_mem_nil, or_false] at hu
  rcases hu with rfl | rfl | rfl <;> rfl
theorem block_cell {w : World} {b : Nat} {cs : Array Value} {t : TypeId} (h : w.heap[b]? = some (.cells cs t (0, 0))) (i : Nat) : w.cell? ⟨b, i, none⟩ = cs[i]? := cell_of_row w b i cs t (0, 0) h
theorem block_free {w : World} {b : Nat} {cs : Array Value} {t : TypeId} (h : w.heap[b]? = some (.cells cs t (0, 0))) (i : Nat) : w.frozen? ⟨b, i, none⟩ = false := by simp [World.frozen?, h]
theorem block_lt {w : World} {b : Nat} {o : Obj} (h : w.heap[b]? = some o) : b < w.heap.size := by
  rcases Nat.lt_or_ge b w.heap.size with h' | h'
  · exact h'
  · simp [Array.getElem?_eq_none h'] at h
theorem block_set {w : World} {b : Nat} {cs : Array Value} {t : TypeId} (h : w.heap[b]? = some (.cells cs t (0, 0))) (i : Nat) (u : Value) : (w.setCell ⟨b, i, none⟩ u).heap[b]? = some (.cells (cs.setIfInBounds i u) t (0, 0)) := by
  have hlt := block_lt h
  have h' : w.heap[b] = .cells cs t (0, 0) := by simpa [Array.getElem?_eq_getElem hlt] using h
  show (w.heap.modify b _)[b]? = _
  rw [Array.getElem?_eq_getElem (by simpa using hlt), Array.getElem_modify_self, h']
  rfl
theorem block_new {w : World} {o : Obj} {n : Nat} (h : n = w.heap.size) : (w.alloc o).heap[n]? = some o := by subst h; exact heap_alloc_new _ _
theorem block_old {w : World} {o p : Obj} {n : Nat} (hn : n < w.heap.size) (h : w.heap[n]? = some p) : (w.alloc o).heap[n]? = some p := (heap_alloc_old w o hn).trans h
theorem frozen_past (w : World) (o : Obj) (a : Addr) (h : a.block < w.heap.size) : (w.alloc o).frozen? a = w.frozen? a := World.frozen?_of_block (heap_alloc_old w o h)
theorem set_size (w : World) (a : Addr) (u : Value) : (w.setCell a u).heap.size = w.heap.size := by simp
theorem set_far (w : World) (a : Addr) (u : Value) (b : Nat) (h : b ≠ a.block) : (w.setCell a u).heap[b]? = w.heap[b]? := Below.heap_setCell _ _ _ _ (by first | exact h | exact Ne.symm h)
/-- The blocks from B on, but the one that the row v lies in. -/
def Fr (B : Nat) (w : World) (v : Value) (b : Nat) : Prop := B ≤ b ∧ b < w.heap.size ∧ v.ownBlock ≠ some b
theorem clone_step {wr w1 w2 : World} {B : Nat} {e : TypeId} {v u : Value} {j g3 c3 lo hi bo off : Nat} {xs : List Value} {ts : List Tr} {k n : Int} {a : Option Addr} {m c : Nat} {t : Tr} {o : Obj} (hown : wr.ownsRow B e 3 v j xs)
    (hF : CellsS wr (Fr B wr v) xs ts) (hw1 : ∀ b, b < wr.heap.size → w1.heap[b]? = wr.heap[b]?) (hS : IsS w1 (Iv lo hi) k n a m c t) (hlo : wr.heap.size ≤ lo) (hhi : hi ≤ w1.heap.size) (hsz : wr.heap.size ≤ w1.heap.size) (hB : B ≤ wr.heap.size)
    (hgrow : (w1.alloc o).grownBy w2 v.ownBlock) (hat : v.ownBlock = some g3 ∨ g3 = w1.heap.size + 1) (hbo : bo < B) :
    CellsS (w2.setCell ⟨bo, off, none⟩ u) (Fr B (w2.setCell ⟨bo, off, none⟩ u) (.slice (some ⟨g3, 0, none⟩) (j + 1) c3)) (xs ++ [.int .i64 k, .int .i64 n, .slice a m c]) (ts ++ [t]) := by
  have hgs : (w1.alloc o).heap.size ≤ w2.heap.size := hgrow.size
  have hal : (w1.alloc o).heap.size = w1.heap.size + 1 := by simp
  have hst : ∀ b, b < w1.heap.size → v.ownBlock ≠ some b → b ≠ bo → (w2.setCell ⟨bo, off, none⟩ u).heap[b]? = w1.heap[b]? := fun b hb hne hbb => by
    rw [set_far _ _ _ _ hbb, hgrow.block b (by omega) (Ne.symm hne)]
    exact heap_alloc_old w1 o hb
  have hv : ∀ g, v.ownBlock = some g → B ≤ g ∧ g < wr.heap.size := fun g hg => hown.lt g hg
  have h1 : CellsS (w2.setCell ⟨bo, off, none⟩ u) (Fr B wr v) xs ts := hF.stay fun b hb hlt => by
    obtain ⟨b1, b2, b3⟩ := hb
    rw [hst b (by omega) b3 (by omega), hw1 b b2]
  have h2 : IsS (w2.setCell ⟨bo, off, none⟩ u) (Iv lo hi) k n a m c t := hS.stay fun b hb hlt => by
    obtain ⟨b1, b2⟩ := hb
    exact hst b (by omega) (fun e => by have := (hv b e).2; omega) (by omega)
  refine h1.snoc h2 _ (fun x hx => ?_) (fun x hx => ?_) (fun x hx hy => ?_)
  · obtain ⟨x1, x2, x3⟩ := hx
    refine ⟨x1, by rw [set_size]; omega, fun e => ?_⟩
    simp only [Value.ownBlock, Option.some.injEq] at e
    rcases hat with h | h
    · exact x3 (by rw [h, e])
    · omega
  · obtain ⟨x1, x2⟩ := hx
    refine ⟨by omega, by rw [set_size]; omega, fun e => ?_⟩
    simp only [Value.ownBlock, Option.some.injEq] at e
    rcases hat with h | h
    · have := (hv _ h).2; omega
    · omega
  · have := hx.2.1; have := hy.1; omega
theorem clone_round {w wr W0 w1 w2 : World} {T : TypeId} {v : Value} {j g3 c3 : Nat} {xs : List Value} {ts : List Tr} {k n k2 n2 : Int} {a2 : Option Addr} {m2 c2 : Nat} {t' : Tr} {o : Obj}
    (HO : wr.heap[w.heap.size + 2]? = some (.cells #[.int .i64 k, .int .i64 n, v] T (0, 0))) (HR : wr.heap[w.heap.size + 1]? = some (.cells #[.int .i64 0, .int .i64 0, .slice none 0 0] T (0, 0)))
    (hown : wr.ownsRow (w.heap.size + 3) T 3 v j xs) (HC : CellsS wr (Fr (w.heap.size + 3) wr v) xs ts) (hbel : Below w.heap.size w wr) (hbW : Below wr.heap.size wr W0) (hs0 : W0.heap.size = wr.heap.size + 1)
    (hS : IsS w1 (Iv W0.drew.heap.size w1.heap.size) k2 n2 a2 m2 c2 t') (hb1 : Below W0.drew.heap.size W0.drew w1)
    (hown3 : w2.ownsRow (w.heap.size + 3) T 3 (.slice (some ⟨g3, 0, none⟩) (j + 1) c3) (j + 1) (xs ++ [.int .i64 k2, .int .i64 n2, .slice a2 m2 c2])) (hgrow : (w1.alloc o).grownBy w2 v.ownBlock) (hat : v.ownBlock = some g3 ∨ g3 = w1.heap.size + 1) :
    (w2.setCell ⟨w.heap.size + 1 + 1, 2, none⟩ (.slice (some ⟨g3, 0, none⟩) (j + 1) c3)).heap[w.heap.size + 2]? = some (.cells #[.int .i64 k, .int .i64 n, .slice (some ⟨g3, 0, none⟩) (j + 1) c3] T (0, 0)) ∧
    (w2.setCell ⟨w.heap.size + 1 + 1, 2, none⟩ (.slice (some ⟨g3, 0, none⟩) (j + 1) c3)).heap[w.heap.size + 1]? = some (.cells #[.int .i64 0, .int .i64 0, .slice none 0 0] T (0, 0)) ∧
    (w2.setCell ⟨w.heap.size + 1 + 1, 2, none⟩ (.slice (some ⟨g3, 0, none⟩) (j + 1) c3)).ownsRow (w.heap.size + 3) T 3 (.slice (some ⟨g3, 0, none⟩) (j + 1) c3) (j + 1) (xs ++ [.int .i64 k2, .int .i64 n2, .slice a2 m2 c2]) ∧
    CellsS (w2.setCell ⟨w.heap.size + 1 + 1, 2, none⟩ (.slice (some ⟨g3, 0, none⟩) (j + 1) c3)) (Fr (w.heap.size + 3) (w2.setCell ⟨w.heap.size + 1 + 1, 2, none⟩ (.slice (some ⟨g3, 0, none⟩) (j + 1) c3)) (.slice (some ⟨g3, 0, none⟩) (j + 1) c3)) (xs ++ [.int .i64 k2, .int .i64 n2, .slice a2 m2 c2]) (ts ++ [t']) ∧
    Below w.heap.size w (w2.setCell ⟨w.heap.size + 1 + 1, 2, none⟩ (.slice (some ⟨g3, 0, none⟩) (j + 1) c3)) := by
  have hl2 := block_lt HO
  have hd : W0.drew.heap.size = W0.heap.size := rfl
  have hs1 := hb1.size
  have hw1 : ∀ b, b < wr.heap.size → w1.heap[b]? = wr.heap[b]? := fun b hb => (hb1.block b (by omega)).trans (hbW.block b hb)
  have hbb : Below wr.heap.size wr w1 := chain (w1 := W0) hbW ⟨hb1.os, hb1.tape, hb1.output, hb1.size, hb1.block⟩
  have hv : ∀ g, v.ownBlock = some g → w.heap.size + 3 ≤ g ∧ g < wr.heap.size := fun g hg => hown.lt g hg
  have hw2 : ∀ b, b < wr.heap.size → v.ownBlock ≠ some b → w2.heap[b]? = wr.heap[b]? := fun b hb hne => by
    rw [hgrow.block b (by simp; omega) (Ne.symm hne), heap_alloc_old w1 o (show b < w1.heap.size by omega)]
    exact hw1 b hb
  refine ⟨?_, ?_, ?_, ?_, ?_⟩
  · have h2 : w2.heap[w.heap.size + 2]? = some (.cells #[.int .i64 k, .int .i64 n, v] T (0, 0)) := (hw2 _ hl2 (fun e => by have := (hv _ e).1; omega)).trans HO
    exact block_set h2 2 _
  · rw [set_far _ _ _ _ (by show w.heap.size + 1 ≠ w.heap.size + 1 + 1; omega)]
    exact (hw2 _ (by omega) (fun e => by have := (hv _ e).1; omega)).trans HR
  · exact ownsRow_setCell_other (a := ⟨w.heap.size + 1 + 1, 2, none⟩) hown3 (by
      intro e
      simp only [Value.ownBlock, Option.some.injEq] at e
      have := (hown3.lt g3 rfl).1
      omega) _
  · exact clone_step (bo := w.heap.size + 1 + 1) hown HC hw1 hS (by omega) (Nat.le_refl _) (by omega) (by omega) hgrow hat (by omega)
  · have h1 : Below w.heap.size w w1 := chain hbel hbb
    have h1s := h1.size
    exact ((h1.alloc h1.size o).grown hgrow (by show w.heap.size ≤ (w1.alloc o).heap.size; simp; omega) (fun k hk => by have := (hv k hk).1; omega)).setCell (by show w.heap.size ≤ w.heap.size + 1 + 1; omega) _
set_option maxHeartbeats 2000000 in
theorem desc_Clone (N : Nat) (hN : N ≤ 4194304) : ∀ (t : Tr) (k n : Int) (a : Option Addr) (m cap : Nat) (w : World) (F : Nat → Prop), t.size ≤ N → IsT w F k n a m cap t →
    Calls Tryz.prog 58 #[.agg #[.int .i64 k, .int .i64 n, .slice a m cap]] w (GivesS t w) := by
  obtain ⟨i0, hi, hz0, hz1, hz2⟩ := info_parts info_desc
  induction N with
  | zero => intro t k n a m cap w F h; have := Tr.size_pos t; omega
  | succ N ih =>
    intro t k n a m cap w F hs hT
    have IH := Lib.hid (ih (by omega))
    clear ih
    have HT := Lib.hid hT
    have hm : m ≤ N := by
      have := Tr.len_le_sizeL t.kids
      rw [Tr.size_kids] at hs
      rw [hT.em]; omega
    have HS := Lib.hid hs
    clear hT hs
    go_enter Tryz.func58, Tryz.ntmps58
    go_wp2_with fail
    go_loopw [14] (fun i wr => ∃ (j : Nat) (v : Value) (xs : List Value), j ≤ m ∧ i = .int .i64 j ∧ Hid (wr.heap[w.heap.size + 2]? = some (.cells #[.int .i64 k, .int .i64 n, v] 48 (0, 0))) ∧
      Hid (wr.heap[w.heap.size + 1]? = some (.cells #[.int .i64 0, .int .i64 0, .slice none 0 0] 48 (0, 0))) ∧ wr.ownsRow (w.heap.size + 3) 48 3 v j xs ∧ Hid (CellsS wr (Fr (w.heap.size + 3) wr v) xs (t.kids.take j)) ∧ Below w.heap.size w wr) (fun i _ => m - (intOf i).toNat)
    case atStart =>
      refine ⟨0, .slice none 0 0, [], Nat.zero_le _, rfl, ?_, ?_, World.ownsRow_nil _ _ _ _, CellsS.nil _, (((Below.refl _ _).alloc (Nat.le_refl _) _).alloc (by simp) _).alloc (by simp; omega) _⟩
      · unfold Hid; exact block_new (by simp)
      · unfold Hid; exact block_old (by simp) (block_new (by simp))
    case round =>
      obtain ⟨j, v, xs, hj, rfl, HO, HR, hown, HC, hbel⟩ := hrel
      by_cases hlt : j < m
      · obtain ⟨b, off, k', n', a', m', c', rfl, hF, hbl, h0, h1, h2, hT'⟩ := (HT.out.below hbel).kid j hlt
        have hj2 : j < t.kids.length := by rw [← HT.out.em]; exact hlt
        have hsz := Tr.size_kid t j hj2
        have hst := Tr.take_kid hj2
        have hs1 : (Tr.kid t.kids j).size ≤ N := by have := HS.out; omega
        obtain ⟨t', ht'⟩ : ∃ t', Tr.kid t.kids j = t' := ⟨_, rfl⟩
        rw [ht'] at hT' hst hs1
        have HST := Lib.hid hst
        have CK : Hid (∀ W, Below wr.heap.size wr W → Calls Tryz.prog 58 #[.agg #[.int .i64 k', .int .i64 n', .slice a' m' c']] W (GivesS t' W)) := fun W hb => IH.out t' k' n' a' m' c' W F hs1 (hT'.below hb)
        have hob := block_lt HO.out
        have o2 := block_cell HO.out 2
        have of := block_free HO.out 2
        simp at o2
        have HOWN := Lib.hid hown
        have of3 := (frozen_past wr (.cells #[.int .i64 k', .int .i64 n', .slice a' m' c'] 48) ⟨w.heap.size + 2, 2, none⟩ hob).trans of
        clear hT' hst hsz hj2 ht' hown
        go_wp2_with fail
        obtain ⟨W0, hW0⟩ : ∃ W0, wr.alloc (.cells #[.int .i64 k', .int .i64 n', .slice a' m' c'] 48) = W0 := ⟨_, rfl⟩
        have hbW : Below wr.heap.size wr W0 := by rw [← hW0]; exact (Below.refl _ _).alloc (Nat.le_refl _) _
        have HK : Hid (W0.heap[wr.heap.size]? = some (.cells #[.int .i64 k', .int .i64 n', .slice a' m' c'] 48 (0, 0))) := by unfold Hid; rw [← hW0]; exact block_new rfl
        have hs0 : W0.heap.size = wr.heap.size + 1 := by rw [← hW0]; simp
        rw [hW0]
        clear hW0 of3
        have p0 : W0.cell? ⟨w.heap.size + 1 + 1, 2, none⟩ = some v := (hbW.cell (p := ⟨w.heap.size + 1 + 1, 2, none⟩) hob).trans o2
        have p1 : W0.frozen? ⟨w.heap.size + 1 + 1, 2, none⟩ = false := (hbW.frozen (p := ⟨w.heap.size + 1 + 1, 2, none⟩) hob).trans of
        have p2 := block_cell HK.out 0
        have p3 := block_cell HK.out 1
        have p4 := block_cell HK.out 2
        simp at p2 p3 p4
        have l0 : w.heap.size + 1 + 1 < W0.heap.size := by omega
        have l1 : wr.heap.size < W0.heap.size := by omega
        have HOWN0 := Lib.hid (own_later3 HOWN.out hbW)
        have HBW := Lib.hid hbW
        have HS0 := Lib.hid hs0
        have ne1 : some (w.heap.size + 1 + 1) ≠ v.ownBlock := fun e => by have := (HOWN.out.lt _ e.symm).1; omega
        have ne2 : some wr.heap.size ≠ v.ownBlock := fun e => by have := (HOWN.out.lt _ e.symm).2; omega
        clear o2 of hs0 hbW
        go_region_law ((first | (refine step_append_lies _ (by rfl) _ _ 43 (by rfl) (w.heap.size + 3) 48 i0 _ 3 40 Tryz.underlying43 hi hz0 hz1 hz2 rfl (by omega) _ j xs (by rfl) ((own_later3 HOWN0.out.drew hb1).alloc _) ⟨w1.heap.size, 0, none⟩ 1 1 [.int .i64 k2, .int .i64 n2, .slice a2 m2 c2] (by rfl) (by rfl) (cell_three_new _ _ _ _ _) (one_three _ _ _ _ _) (by omega) (by unfold maxLen; omega) (by omega) (by simp; omega) (w1.heap.size + 1) (by simp) ?_; intro g3 c3 w2 hown3 hgrow hat hlt3; have r0 := hgrow.cell (a := ⟨w.heap.size + 1 + 1, 2, none⟩) ((cell_past _ _ _ (by show w.heap.size + 1 + 1 < w1.heap.size; omega)).trans q0) ne1; have r1 := (hgrow.frozen_far ⟨w.heap.size + 1 + 1, 2, none⟩ (by simp; omega) ne1).trans ((frozen_past _ _ _ (by show w.heap.size + 1 + 1 < w1.heap.size; omega)).trans q1); have r2 := hgrow.cell (a := ⟨wr.heap.size, 0, none⟩) ((cell_past _ _ _ z2).trans q2) ne2; have r3 := hgrow.cell (a := ⟨wr.heap.size, 1, none⟩) ((cell_past _ _ _ z2).trans q3) ne2; have r4 := hgrow.cell (a := ⟨wr.heap.size, 2, none⟩) ((cell_past _ _ _ z2).trans q4) ne2) | (go_simp; go_at_call 58; refine (CK.out _ HBW.out.drew).mono ?_; rintro e1 w1 ⟨k2, n2, a2, m2, c2, rfl, hS2, hb1⟩; have q0 := (hb1.cell (p := ⟨w.heap.size + 1 + 1, 2, none⟩) l0).trans p0; have q1 := (hb1.frozen (p := ⟨w.heap.size + 1 + 1, 2, none⟩) l0).trans p1; have q2 := (hb1.cell (p := ⟨wr.heap.size, 0, none⟩) l1).trans p2; have q3 := (hb1.cell (p := ⟨wr.heap.size, 1, none⟩) l1).trans p3; have q4 := (hb1.cell (p := ⟨wr.heap.size, 2, none⟩) l1).trans p4; have z1 : w.heap.size + 3 ≤ w1.heap.size := Nat.le_trans l0 hb1.size; have z2 : wr.heap.size < w1.heap.size := Nat.lt_of_lt_of_le l1 hb1.size; have s0 := (cell_past w1 (.cells #[.int .i64 k2, .int .i64 n2, .slice a2 m2 c2] 48) ⟨w.heap.size + 1 + 1, 2, none⟩ z1).trans q0)))
        all_goals
          obtain ⟨c1, c2', c3', c4, c5⟩ := clone_round HO.out HR.out HOWN.out HC.out hbel HBW.out HS0.out hS2 hb1 hown3 hgrow hat
          rw [← HST.out] at c4
          have K1 := Lib.hid c1
          have K2 := Lib.hid c2'
          have K4 := Lib.hid c4
          clear c1 c2' c4 hgrow hat hown3 hS2 hb1 r0 r1 r2 r3 r4 q0 q1 q2 q3 q4
          obtain ⟨w3, hw3⟩ : ∃ w3, w2.setCell ⟨w.heap.size + 1 + 1, 2, none⟩ (.slice (some ⟨g3, 0, none⟩) (j + 1) c3) = w3 := ⟨_, rfl⟩
          rw [hw3] at K1 K2 K4 c3' c5 ⊢
          clear hw3
          go_wp2_with fail
          go_roundw
          case rel => exact ⟨j + 1, _, _, by omega, by go_num, K1.out, K2.out, c3', K4.out, c5⟩
          case measure => simp [intOf]; omega
      · have hjm : j = m := by omega
        have hE : t.kids.take j = t.kids := List.take_of_length_le (by rw [← HT.out.em]; omega)
        have hc := HC.out
        rw [hE] at hc
        have hok := hc.cells.ok
        obtain ⟨a3, c3, rfl, hcap⟩ : ∃ a3 c3, v = .slice a3 m c3 ∧ OkCap a3 m c3 := by
          rcases hown.2 with ⟨rfl, h0⟩ | ⟨g, cap', cur, rfl, _, _, hnc, _⟩
          · exact ⟨none, 0, by rw [← hjm, h0], by omega, fun _ => rfl⟩
          · exact ⟨_, _, by rw [hjm], by omega, fun h => by cases h⟩
        have hsep : Sep wr (Iv (w.heap.size + 3) wr.heap.size) a3 c3 t.kids := by
          rw [← hjm] at hown
          refine sep_of_own hown hc (by rw [← HT.out.em]; omega) (fun b hb => ⟨hb.1, hb.2.1⟩) (fun g hg => ?_)
          have h1 := hown.lt g (by rw [hg]; rfl)
          exact ⟨⟨by omega, h1.2⟩, fun h => h.2.2 (by rw [hg]; rfl)⟩
        have hres : IsS wr (Iv (w.heap.size + 3) wr.heap.size) k n a3 m c3 t := ⟨HT.out.ek, HT.out.en, HT.out.em, HT.out.ok, hsep⟩
        have o0 := block_cell HO.out 0
        have o1 := block_cell HO.out 1
        have o2 := block_cell HO.out 2
        have p0 := block_cell HR.out 0
        have p1 := block_cell HR.out 1
        have p2 := block_cell HR.out 2
        have pf0 := block_free HR.out 0
        have pf1 := block_free HR.out 1
        have pf2 := block_free HR.out 2
        have hl1 := block_lt HR.out
        have hl2 := block_lt HO.out
        simp at o0 o1 o2 p0 p1 p2
        have HRES := Lib.hid hres
        clear hres hsep hok hc hE HC hown
        go_wp2_with fail
        obtain ⟨w3, hw3⟩ : ∃ w3, ((wr.setCell ⟨w.heap.size + 1, 0, none⟩ (.int .i64 k)).setCell ⟨w.heap.size + 1, 1, none⟩ (.int .i64 n)).setCell ⟨w.heap.size + 1, 2, none⟩ (.slice a3 m c3) = w3 := ⟨_, rfl⟩
        have hbl : w3.heap[w.heap.size + 1]? = some (.cells #[.int .i64 k, .int .i64 n, .slice a3 m c3] 48 (0, 0)) := by
          rw [← hw3]; exact block_set (block_set (block_set HR.out 0 _) 1 _) 2 _
        have hfar : ∀ b, b ≠ w.heap.size + 1 → w3.heap[b]? = wr.heap[b]? := fun b hb => by rw [← hw3, set_far _ _ _ _ hb, set_far _ _ _ _ hb, set_far _ _ _ _ hb]
        have hsz3 : w3.heap.size = wr.heap.size := by rw [← hw3, set_size, set_size, set_size]
        have hb3 : Below w.heap.size w w3 := by rw [← hw3]; exact ((hbel.setCell (by show w.heap.size ≤ w.heap.size + 1; omega) _).setCell (by show w.heap.size ≤ w.heap.size + 1; omega) _).setCell (by show w.heap.size ≤ w.heap.size + 1; omega) _
        have h3 : IsS w3 (Iv w.heap.size w3.heap.size) k n a3 m c3 t := (HRES.out.stay fun b hb _ => hfar b (by have := hb.1; omega)).mono fun b hb => ⟨by have := hb.1; omega, by have := hb.2; omega⟩
        rw [hw3]
        have r0 := block_cell hbl 0
        have r1 := block_cell hbl 1
        have r2 := block_cell hbl 2
        simp at r0 r1 r2
        refine bodyPost_ret (v := .agg #[.int .i64 k, .int .i64 n, .slice a3 m c3]) (by simp [results, Tryz.results58, go_sem, r0, r1, r2]) rfl ⟨k, n, a3, m, c3, rfl, h3, hb3⟩
end Go.Proofs.YtlnlijeamflpiaaGreat

namespace Go.Proofs.YtlnlijeamflpiaaGreat
open Go.RowKit
set_option linter.unusedVariables false
set_option linter.unusedSimpArgs false
set_option maxRecDepth 100000
def cmpI (x y : Int) : Int := if x < y then -1 else if y < x then 1 else 0
theorem cmpI_bd (x y : Int) : -1 ≤ cmpI x y ∧ cmpI x y ≤ 1 := by unfold cmpI; split <;> (try split) <;> omega
theorem cmpI_zero {x y : Int} (h : cmpI x y = 0) : x = y := by unfold cmpI at h; split at h <;> (try split at h) <;> omega
theorem cmpI_neg (x y : Int) : cmpI y x = - cmpI x y := by unfold cmpI; repeat' split
                                                           all_goals omega
/-- The first one that is not 0. -/
def orI (x y : Int) : Int := if x = 0 then y else x
namespace Tr
mutual
def cmp : Tr → Tr → Int
  | node k n ks, u => orI (cmpI k u.kind) (orI (cmpI n u.num) (orI (cmpI ks.length u.kids.length) (cmpL ks u.kids)))
def cmpL : List Tr → List Tr → Int
  | [], _ => 0
  | t :: ts, us => match us with
    | [] => 1
    | u :: us => orI (cmp t u) (cmpL ts us)
end
theorem cmp_kids (t u : Tr) : cmp t u = orI (cmpI t.kind u.kind) (orI (cmpI t.num u.num) (orI (cmpI t.kids.length u.kids.length) (cmpL t.kids u.kids))) := by
  cases t; simp [cmp, kids, kind, num]
theorem orI_bd {x y : Int} (h : -1 ≤ x ∧ x ≤ 1) (h2 : -1 ≤ y ∧ y ≤ 1) : -1 ≤ orI x y ∧ orI x y ≤ 1 := by unfold orI; split <;> omega
theorem cmpL_bd (ts : List Tr) (h : ∀ t ∈ ts, ∀ u, -1 ≤ cmp t u ∧ cmp t u ≤ 1) : ∀ us, -1 ≤ cmpL ts us ∧ cmpL ts us ≤ 1 := by
  induction ts with
  | nil => intro us; simp [cmpL]
  | cons t ts ih =>
    intro us
    cases us with
    | nil => simp [cmpL]
    | cons u us => simp only [cmpL]; exact orI_bd (h t (by simp) u) (ih (fun t ht => h t (by simp [ht])) us)
theorem cmp_bd (N : Nat) : ∀ t u : Tr, t.size ≤ N → -1 ≤ cmp t u ∧ cmp t u ≤ 1 := by
  induction N with
  | zero => intro t u h; have := size_pos t; omega
  | succ N ih =>
    intro t u h
    rw [cmp_kids]
    refine orI_bd (cmpI_bd _ _) (orI_bd (cmpI_bd _ _) (orI_bd (cmpI_bd _ _) (cmpL_bd _ (fun t' ht u => ih t' u ?_) _)))
    have := size_mem ht
    rw [size_kids] at h; omega
theorem cmpL_step (ts us : List Tr) (j : Nat) (h1 : j < ts.length) (h2 : j < us.length) : cmpL (ts.drop j) (us.drop j) = orI (cmp (kid ts j) (kid us j)) (cmpL (ts.drop (j + 1)) (us.drop (j + 1))) := by
  rw [drop_kid h1, drop_kid h2]; simp only [cmpL]
end Tr
end Go.Proofs.YtlnlijeamflpiaaGreat

namespace Go.Proofs.YtlnlijeamflpiaaGreat
open Go.RowKit
set_option linter.unusedVariables false
set_option linter.unusedSimpArgs false
set_option maxRecDepth 100000
theorem sameW {P : Program} {f : FuncId} {args : Array Value} {w : World} {x : Ending} (h : Calls P f args w fun e w' => e = x ∧ w = w') : Calls P f args w fun e w' => e = x ∧ w' = w := h.mono fun _ _ ⟨h1, h2⟩ => ⟨h1, h2.symm⟩
theorem cmp_isNaN (x : Int) (w : World) : Calls Tryz.prog 84 #[.int .i64 x] w fun e w' => e = .returned (.bool false) ∧ w = w' := by
  go_enter Tryz.func84, Tryz.ntmps84
  go_wp2_with fail
  go_ret
  exact ⟨by simp, rfl⟩
theorem cmp_Compare (x y : Int) (w : World) : Calls Tryz.prog 53 #[.int .i64 x, .int .i64 y] w fun e w' => e = .returned (.int .i64 (cmpI x y)) ∧ w = w' := by
  by_cases h1 : x < y
  · have e : cmpI x y = -1 := by unfold cmpI; rw [if_pos h1]
    rw [e]
    clear e
    go_enter Tryz.func53, Tryz.ntmps53
    go_wp2_with (go_at_call 84; refine (cmp_isNaN _ _).mono ?_; rintro e w' ⟨rfl, rfl⟩)
    go_ret
    exact ⟨rfl, rfl⟩
  · by_cases h2 : y < x
    · have e : cmpI x y = 1 := by unfold cmpI; rw [if_neg h1, if_pos h2]
      have q1 : decide (x < y) = false := by simp; omega
      have q2 : decide (x > y) = true := by simp; omega
      rw [e]
      clear e
      go_enter Tryz.func53, Tryz.ntmps53
      go_wp2_with (go_at_call 84; refine (cmp_isNaN _ _).mono ?_; rintro e w' ⟨rfl, rfl⟩)
      go_ret
      exact ⟨rfl, rfl⟩
    · have e : cmpI x y = 0 := by unfold cmpI; rw [if_neg h1, if_neg h2]
      have q1 : decide (x < y) = false := by simp; omega
      have q2 : decide (x > y) = false := by simp; omega
      rw [e]
      clear e
      go_enter Tryz.func53, Tryz.ntmps53
      go_wp2_with (go_at_call 84; refine (cmp_isNaN _ _).mono ?_; rintro e w' ⟨rfl, rfl⟩)
      go_ret
      exact ⟨rfl, rfl⟩
theorem dropT (xs : List Int) (k : Nat) (h : k < xs.length) : xs.drop k = nth xs k :: xs.drop (k + 1) := by rw [List.drop_eq_getElem_cons h]; simp [nth, h]
/-- The first one of a row that is not 0. -/
def orL : List Int → Int
  | [] => 0
  | x :: xs => orI x (orL xs)
theorem orL_three (x y z : Int) : orL [x, y, z] = orI x (orI y z) := by
  simp only [orL]
  unfold orI
  split <;> (try split) <;> (try split) <;> first | rfl | omega
set_option maxHeartbeats 1000000 in
theorem cmp_Or (a : Option Addr) (n c : Nat) (xs : List Int) (w : World) (hx : Row .i64 w a xs) (hl : xs.length = n) (hn : n ≤ 4194304) :
    Calls Tryz.prog 52 #[.slice a n c] w fun e w' => e = .returned (.int .i64 (orL xs)) ∧ w = w' := by
  have HX := Lib.hid hx
  have HN := Lib.hid hl
  obtain ⟨V, hV⟩ : ∃ V, orL xs = V := ⟨_, rfl⟩
  rw [hV]
  have HV := Lib.hid hV
  clear hx hl hV
  go_enter Tryz.func52, Tryz.ntmps52
  go_wp2_with fail
  go_loopw [8] (fun i wr => ∃ j : Nat, j ≤ n ∧ i = .int .i64 j ∧ Hid (orL (xs.drop j) = V) ∧ w = wr) (fun i _ => n - (intOf i).toNat)
  case atStart => exact ⟨0, Nat.zero_le _, rfl, HV.out, rfl⟩
  case round =>
    obtain ⟨j, hj, rfl, HE, rfl⟩ := hrel
    by_cases hlt : j < n
    · obtain ⟨b, off, rfl, hc⟩ := HX.out.at (by rw [HN.out]; omega)
      have h1 := hc j (by rw [HN.out]; exact hlt)
      have hd := dropT xs j (by rw [HN.out]; exact hlt)
      have he := HE.out
      rw [hd] at he
      have he2 : orI (nth xs j) (orL (xs.drop (j + 1))) = V := he
      obtain ⟨x, hx⟩ : ∃ x, nth xs j = x := ⟨_, rfl⟩
      rw [hx] at h1 he2
      clear hc hd he hx HE
      by_cases h0 : x = 0
      · subst h0
        have HZ : Hid (orL (xs.drop (j + 1)) = V) := he2
        clear he2
        go_wp2_with fail
        go_roundw
        case rel => exact ⟨j + 1, by omega, by go_num, HZ.out, trivial⟩
        case measure => simp [intOf]; omega
      · have HZ : Hid (x = V) := by have := he2; unfold orI at this; rwa [if_neg h0] at this
        have h2 : (x != 0) = true := by simp; omega
        clear he2
        go_wp2_with fail
        go_ret
        exact ⟨by simp [HZ.out], rfl⟩
    · have hjn : j = n := by omega
      have he := HE.out
      rw [List.drop_eq_nil_of_le (by rw [HN.out]; omega)] at he
      have HZ : Hid (0 = V) := he
      clear he HE
      go_wp2_with fail
      go_ret
      exact ⟨by simp [← HZ.out], rfl⟩
/-- The slices of two rows of trees, side by side, where the same size. -/
theorem slices_CompareFunc (N : Nat) (IH : Hid (∀ (t u : Tr) (k n : Int) (a : Option Addr) (m cap : Nat) (k' n' : Int) (a' : Option Addr) (m' cap' : Nat) (w : World) (F G : Nat → Prop), t.size ≤ N → u.size ≤ 4194304 → IsT w F k n a m cap t → IsT w G k' n' a' m' cap' u →
    Calls Tryz.prog 86 #[.agg #[.int .i64 k, .int .i64 n, .slice a m cap], .agg #[.int .i64 k', .int .i64 n', .slice a' m' cap']] w fun e w' => e = .returned (.int .i64 (Tr.cmp t u)) ∧ Below w.heap.size w w'))
    (t u : Tr) (k n : Int) (a : Option Addr) (m cap : Nat) (k' n' : Int) (a' : Option Addr) (cap' : Nat) (w : World) (F G : Nat → Prop) (hs : t.size ≤ N + 1) (hsu : u.size ≤ 4194304) (hm : m ≤ 4194304) (hT : IsT w F k n a m cap t) (hU : IsT w G k' n' a' m cap' u) :
    Calls Tryz.prog 111 #[.slice a m cap, .slice a' m cap', .func (.func 86) #[] #[]] w fun e w' => e = .returned (.int .i64 (Tr.cmpL t.kids u.kids)) ∧ Below w.heap.size w w' := by
  have HT := Lib.hid hT
  have HU := Lib.hid hU
  have HS := Lib.hid hs
  have HSU := Lib.hid hsu
  obtain ⟨V, hV⟩ : ∃ V, Tr.cmpL t.kids u.kids = V := ⟨_, rfl⟩
  rw [hV]
  have HV := Lib.hid hV
  clear hT hU hs hsu hV
  go_enter Tryz.func111, Tryz.ntmps111
  go_wp2_with fail
  go_loopw [13] (fun i wr => ∃ j : Nat, j ≤ m ∧ i = .int .i64 j ∧ Hid (Tr.cmpL (t.kids.drop j) (u.kids.drop j) = V) ∧ Below w.heap.size w wr) (fun i _ => m - (intOf i).toNat)
  case atStart => exact ⟨0, Nat.zero_le _, rfl, HV.out, Below.refl _ _⟩
  case round =>
    obtain ⟨j, hj, rfl, HE, hbel⟩ := hrel
    by_cases hlt : j < m
    · obtain ⟨b, off, k2, n2, a2, m2, c2, rfl, hF, hbl, h0, h1, h2, hT'⟩ := (HT.out.below hbel).kid j hlt
      obtain ⟨b', off', k3, n3, a3, m3, c3, rfl, hF', hbl', h0', h1', h2', hU'⟩ := (HU.out.below hbel).kid j hlt
      have hj2 : j < t.kids.length := by rw [← HT.out.em]; exact hlt
      have hj3 : j < u.kids.length := by rw [← HU.out.em]; exact hlt
      have hst := Tr.cmpL_step t.kids u.kids j hj2 hj3
      have hsz' := Tr.size_kid t j hj2
      have hs1 : (Tr.kid t.kids j).size ≤ N := by have := HS.out; omega
      have hsu1 : (Tr.kid u.kids j).size ≤ 4194304 := by have := HSU.out; have := Tr.size_kid u j hj3; omega
      rw [HE.out] at hst
      obtain ⟨t', ht'⟩ : ∃ t', Tr.kid t.kids j = t' := ⟨_, rfl⟩
      obtain ⟨u', hu'⟩ : ∃ u', Tr.kid u.kids j = u' := ⟨_, rfl⟩
      rw [ht'] at hT' hst hs1
      rw [hu'] at hU' hst hsu1
      have HST := Lib.hid hst
      have CK : Hid (∀ W, Below wr.heap.size wr W → Calls Tryz.prog 86 #[.agg #[.int .i64 k2, .int .i64 n2, .slice a2 m2 c2], .agg #[.int .i64 k3, .int .i64 n3, .slice a3 m3 c3]] W fun e w' => e = .returned (.int .i64 (Tr.cmp t' u')) ∧ Below W.heap.size W w') :=
        fun W hb => IH.out t' u' k2 n2 a2 m2 c2 k3 n3 a3 m3 c3 W F G hs1 hsu1 (hT'.below hb) (hU'.below hb)
      obtain ⟨C, hC⟩ : ∃ C, Tr.cmp t' u' = C := ⟨_, rfl⟩
      rw [hC] at CK HST
      clear hT' hU' hst ht' hu' hC hs1 hsu1 hsz' hj2 hj3 hF hF' HE
      go_wp2_with fail
      refine (CK.out _ (((Below.refl _ _).alloc (Nat.le_refl _) _).alloc (by simp) _)).mono ?_; rintro e1 w1 ⟨rfl, hb1⟩
      have hb1' := chain (((Below.refl wr.heap.size wr).alloc (Nat.le_refl _) _).alloc (by simp) _) hb1
      clear hb1 h0 h1 h2 h0' h1' h2'
      by_cases hC0 : C = 0
      · subst hC0
        have HQ : Hid (Tr.cmpL (t.kids.drop (j + 1)) (u.kids.drop (j + 1)) = V) := by unfold Hid; rw [HST.out]; rfl
        go_wp2_with fail
        go_roundw
        case rel => exact ⟨j + 1, by omega, by go_num, HQ.out, chain hbel hb1'⟩
        case measure => simp [intOf]; omega
      · have HQ : Hid (V = C) := by unfold Hid; rw [HST.out]; unfold orI; rw [if_neg hC0]
        have hne : (C != 0) = true := by simp; omega
        go_wp2_with fail
        go_ret
        exact ⟨by simp [HQ.out], chain hbel hb1'⟩
    · have hjm : j = m := by omega
      have hz : V = 0 := by
        rw [← HE.out, List.drop_eq_nil_of_le (by rw [← HT.out.em]; omega)]; simp [Tr.cmpL]
      have HZ := Lib.hid hz
      clear hz HE
      go_wp2_with fail
      go_ret
      exact ⟨by simp [HZ.out], hbel⟩
set_option maxHeartbeats 2000000 in
theorem desc_Cmp (N : Nat) (hN : N ≤ 4194304) : ∀ (t u : Tr) (k n : Int) (a : Option Addr) (m cap : Nat) (k' n' : Int) (a' : Option Addr) (m' cap' : Nat) (w : World) (F G : Nat → Prop), t.size ≤ N → u.size ≤ 4194304 → IsT w F k n a m cap t → IsT w G k' n' a' m' cap' u →
    Calls Tryz.prog 86 #[.agg #[.int .i64 k, .int .i64 n, .slice a m cap], .agg #[.int .i64 k', .int .i64 n', .slice a' m' cap']] w fun e w' => e = .returned (.int .i64 (Tr.cmp t u)) ∧ Below w.heap.size w w' := by
  induction N with
  | zero => intro t u k n a m cap k' n' a' m' cap' w F G h; have := Tr.size_pos t; omega
  | succ N ih =>
    intro t u k n a m cap k' n' a' m' cap' w F G hs hsu hT hU
    have IH := Lib.hid (ih (by omega))
    clear ih
    have hm : m ≤ N := by
      have := Tr.len_le_sizeL t.kids
      rw [Tr.size_kids] at hs
      rw [hT.em]; omega
    have hm' : m' ≤ 4194304 := by
      have := Tr.len_le_sizeL u.kids
      rw [Tr.size_kids] at hsu
      rw [hU.em]; omega
    have CF : Hid (m = m' → ∀ W, Below w.heap.size w W → Calls Tryz.prog 111 #[.slice a m cap, .slice a' m' cap', .func (.func 86) #[] #[]] W fun e w' => e = .returned (.int .i64 (Tr.cmpL t.kids u.kids)) ∧ Below W.heap.size W w') := by
      intro e W hb
      subst e
      exact slices_CompareFunc N IH t u k n a m cap k' n' a' cap' W F G hs hsu (by omega) (hT.below hb) (hU.below hb)
    have fk := hT.fk
    have fn := hT.fn
    have fk' := hU.fk
    have fn' := hU.fn
    have HR : Hid (Tr.cmp t u = orI (cmpI k k') (orI (cmpI n n') (orI (cmpI m m') (Tr.cmpL t.kids u.kids)))) := by unfold Hid; rw [Tr.cmp_kids, hT.ek, hT.en, hT.em, hU.ek, hU.en, hU.em]
    have HI : Hid (cmpI (m : Int) (m' : Int) = 0 → m = m') := fun h => by have := cmpI_zero h; omega
    have CC0 : Hid (∀ W, Calls Tryz.prog 53 #[.int .i64 k, .int .i64 k'] W fun e w' => e = .returned (.int .i64 (cmpI k k')) ∧ W = w') := fun W => cmp_Compare _ _ _
    have CC1 : Hid (∀ W, Calls Tryz.prog 53 #[.int .i64 n, .int .i64 n'] W fun e w' => e = .returned (.int .i64 (cmpI n n')) ∧ W = w') := fun W => cmp_Compare _ _ _
    have CC2 : Hid (∀ W, Calls Tryz.prog 53 #[.int .i64 (m : Int), .int .i64 (m' : Int)] W fun e w' => e = .returned (.int .i64 (cmpI m m')) ∧ W = w') := fun W => cmp_Compare _ _ _
    have y0 := cmpI_bd k k'
    have y1 := cmpI_bd n n'
    have y2 := cmpI_bd (m : Int) (m' : Int)
    obtain ⟨x0, hx0⟩ : ∃ x, cmpI k k' = x := ⟨_, rfl⟩
    obtain ⟨x1, hx1⟩ : ∃ x, cmpI n n' = x := ⟨_, rfl⟩
    obtain ⟨x2, hx2⟩ : ∃ x, cmpI (m : Int) (m' : Int) = x := ⟨_, rfl⟩
    rw [hx0] at CC0 y0 HR
    rw [hx1] at CC1 y1 HR
    rw [hx2] at CC2 y2 HR HI
    obtain ⟨V, hV⟩ : ∃ V, Tr.cmpL t.kids u.kids = V := ⟨_, rfl⟩
    rw [hV] at HR CF
    have COr : Hid (∀ (W : World) (b : Nat), Row .i64 W (some ⟨b, 0, none⟩) [x0, x1, x2] → Calls Tryz.prog 52 #[.slice (some ⟨b, 0, none⟩) 3 3] W fun e w' => e = .returned (.int .i64 (orI x0 (orI x1 x2))) ∧ W = w') := fun W b hr => by
      have := cmp_Or (some ⟨b, 0, none⟩) 3 3 [x0, x1, x2] W hr rfl (by omega)
      rwa [orL_three] at this
    have hfr : ∀ x ∈ [x0, x1, x2], fits .i64 x := by
      intro x hx
      simp only [List.mem_cons, List.not_mem_nil, or_false] at hx
      rcases hx with rfl | rfl | rfl <;> exact fits_i64.2 (by omega)
    have HFR := Lib.hid hfr
    clear hT hU hs hsu IH hx0 hx1 hx2 hV hfr
    go_enter Tryz.func86, Tryz.ntmps86
    go_wp2_with fail
    obtain ⟨W0, hW0⟩ : ∃ W0, (w.alloc (.cells #[.int .i64 k, .int .i64 n, .slice a m cap] 48)).alloc (.cells #[.int .i64 k', .int .i64 n', .slice a' m' cap'] 48) = W0 := ⟨_, rfl⟩
    have hb0 : Below w.heap.size w W0 := by rw [← hW0]; exact ((Below.refl _ _).alloc (Nat.le_refl _) _).alloc (by simp) _
    have hba : W0.heap[w.heap.size]? = some (.cells #[.int .i64 k, .int .i64 n, .slice a m cap] 48 (0, 0)) := by rw [← hW0]; exact block_old (by simp) (block_new rfl)
    have hbb : W0.heap[w.heap.size + 1]? = some (.cells #[.int .i64 k', .int .i64 n', .slice a' m' cap'] 48 (0, 0)) := by rw [← hW0]; exact block_new (by simp)
    have hsz : w.heap.size + 1 < W0.heap.size := by rw [← hW0]; simp
    rw [hW0]
    clear hW0
    have a0 := block_cell hba 0
    have a1 := block_cell hba 1
    have a2 := block_cell hba 2
    have b0 := block_cell hbb 0
    have b1 := block_cell hbb 1
    have b2 := block_cell hbb 2
    simp at a0 a1 a2 b0 b1 b2
    have HBA := Lib.hid hba
    have HBB := Lib.hid hbb
    clear hba hbb
    refine wp_region_still_tail 17 (by kernel_rfl) (by kernel_rfl) ?_; simp only [List.take_succ_cons, List.take_zero, List.drop_succ_cons, List.drop_zero]
    repeat still_step
    still_call (sameW (CC0.out _))
    repeat still_step
    still_call (sameW (CC1.out _))
    repeat still_step
    still_call (sameW (CC2.out _))
    try refine wpStill_nil ?_
    have hrow : Row .i64 (W0.alloc (.cells #[.int .i64 x0, .int .i64 x1, .int .i64 x2] 3)).drew (some ⟨W0.heap.size, 0, none⟩) [x0, x1, x2] := (row_new .i64 W0 3 [x0, x1, x2] HFR.out (by simp)).below (Below.refl _ _).drew
    have HROW := Lib.hid hrow
    have hbR : Below w.heap.size w (W0.alloc (.cells #[.int .i64 x0, .int .i64 x1, .int .i64 x2] 3)).drew := (hb0.alloc hb0.size _).drew
    have HBR := Lib.hid hbR
    clear hrow hbR
    go_wp2_with fail
    refine (COr.out _ _ HROW.out).mono ?_; rintro e1 w1 ⟨rfl, rfl⟩
    obtain ⟨y, hy⟩ : ∃ y, orI x0 (orI x1 x2) = y := ⟨_, rfl⟩
    rw [hy]
    by_cases h0 : y = 0
    · have hz : x0 = 0 ∧ x1 = 0 ∧ x2 = 0 := by
        unfold orI at hy
        split at hy
        · rename_i e0
          split at hy
          · rename_i e1; exact ⟨e0, e1, by omega⟩
          · omega
        · omega
      have HV : Hid (Tr.cmp t u = V) := by unfold Hid; rw [HR.out, hz.1, hz.2.1, hz.2.2]; rfl
      have CFF := Lib.hid (CF.out (HI.out hz.2.2))
      subst h0
      have b0 : ((W0.alloc (.cells #[.int .i64 x0, .int .i64 x1, .int .i64 x2] 3)).drew).cell? ⟨w.heap.size, 2, none⟩ = some (.slice a m cap) := (cell_past W0 _ _ (by show w.heap.size < _; omega)).trans a2
      have b1' : ((W0.alloc (.cells #[.int .i64 x0, .int .i64 x1, .int .i64 x2] 3)).drew).cell? ⟨w.heap.size + 1, 2, none⟩ = some (.slice a' m' cap') := (cell_past W0 _ _ (by show w.heap.size + 1 < _; omega)).trans b2
      obtain ⟨W1, hW1⟩ : ∃ W1, (W0.alloc (.cells #[.int .i64 x0, .int .i64 x1, .int .i64 x2] 3)).drew = W1 := ⟨_, rfl⟩
      rw [hW1] at HBR b0 b1' ⊢
      clear hW1 hz hy HROW COr CC0 CC1 CC2 HR HI CF
      go_wp2_with fail
      refine (CFF.out _ HBR.out).mono ?_; rintro e2 w2 ⟨rfl, hb2⟩
      have hbe := chain HBR.out hb2
      clear hb2
      go_wp2_with fail
      go_ret
      exact ⟨by simp [HV.out], hbe⟩
    · have HV : Hid (Tr.cmp t u = y) := by
        unfold Hid; rw [HR.out, ← hy]
        unfold orI at hy ⊢
        repeat' split
        all_goals first | rfl | omega
      have hne : (y != 0) = true := by simp; omega
      clear hy
      go_wp2_with fail
      go_ret
      exact ⟨by simp [HV.out], HBR.out⟩
end Go.Proofs.YtlnlijeamflpiaaGreat

namespace Go.Proofs.YtlnlijeamflpiaaGreat
open Go.RowKit
set_option linter.unusedVariables false
set_option linter.unusedSimpArgs false
set_option maxRecDepth 100000
theorem Kids.lt {w : World} {F : Nat → Prop} {a : Option Addr} {cap : Nat} {ks : List Tr} (h : Kids w F a cap ks) : Kids w (Lt w.heap.size) a cap ks := by
  induction h with
  | nil => exact .nil
  | empty a cap => exact .empty a cap
  | row b off cap ks A C hpos hl hF h0 h1 h2 _ ih => exact .row b off cap ks A C hpos hl (World.block_lt_of_cell? w _ (h0 0 hpos)) h0 h1 h2 ih
theorem IsT.lt {w : World} {F : Nat → Prop} {k n : Int} {a : Option Addr} {m cap : Nat} {t : Tr} (h : IsT w F k n a m cap t) : IsT w (Lt w.heap.size) k n a m cap t := ⟨h.ek, h.en, h.em, h.ok, h.kids.lt⟩
namespace Tr
/-- The node at a place. -/
def at? (t : Tr) : List Int → Option Tr
  | [] => some t
  | i :: p => if 0 ≤ i ∧ i < (t.kids.length : Int) then at? (kid t.kids i.toNat) p else none
theorem at_yes {t s : Tr} {i : Int} {p : List Int} (h : at? t (i :: p) = some s) : 0 ≤ i ∧ i < (t.kids.length : Int) ∧ at? (kid t.kids i.toNat) p = some s := by
  unfold at? at h
  split at h
  · rename_i hc; exact ⟨hc.1, hc.2, h⟩
  · cases h
theorem at_in {t : Tr} {i : Int} {p : List Int} (h0 : 0 ≤ i) (h1 : i < (t.kids.length : Int)) : at? t (i :: p) = at? (kid t.kids i.toNat) p := by
  rw [at?, if_pos ⟨h0, h1⟩]
/-- No tree. -/
def zero : Tr := node 0 0 []
end Tr
theorem set3 {w : World} {b : Nat} {x y z x' y' z' : Value} {T : TypeId} (h : w.heap[b]? = some (.cells #[x, y, z] T (0, 0))) :
    (((w.setCell ⟨b, 0, none⟩ x').setCell ⟨b, 1, none⟩ y').setCell ⟨b, 2, none⟩ z').heap[b]? = some (.cells #[x', y', z'] T (0, 0)) := block_set (block_set (block_set h 0 _) 1 _) 2 _
theorem set3_far (w : World) (b : Nat) (x' y' z' : Value) (c : Nat) (h : c ≠ b) : (((w.setCell ⟨b, 0, none⟩ x').setCell ⟨b, 1, none⟩ y').setCell ⟨b, 2, none⟩ z').heap[c]? = w.heap[c]? := by
  rw [set_far _ _ _ _ h, set_far _ _ _ _ h, set_far _ _ _ _ h]
theorem set3_below {w wr : World} {B : Nat} (hb : Below B w wr) (b : Nat) (h : B ≤ b) (x' y' z' : Value) : Below B w (((wr.setCell ⟨b, 0, none⟩ x').setCell ⟨b, 1, none⟩ y').setCell ⟨b, 2, none⟩ z') :=
  ((hb.setCell (p := ⟨b, 0, none⟩) h _).setCell (p := ⟨b, 1, none⟩) h _).setCell (p := ⟨b, 2, none⟩) h _
end Go.Proofs.YtlnlijeamflpiaaGreat

namespace Go.Proofs.YtlnlijeamflpiaaGreat
open Go.RowKit Go.Shelf
set_option linter.unusedVariables false
set_option linter.unusedSimpArgs false
set_option maxRecDepth 100000
attribute [local go_sem] Oper.semAt_some
/-- All cells but those of the block b0 are as they were. -/
structure KeepsBut (b0 : Nat) (A B : World) : Prop where
  size : A.heap.size ≤ B.heap.size
  cell : ∀ (a : Addr) (v : Value), a.block ≠ b0 → A.cell? a = some v → B.cell? a = some v
theorem KeepsBut.refl (b0 : Nat) (A : World) : KeepsBut b0 A A := ⟨Nat.le_refl _, fun _ _ _ h => h⟩
theorem KeepsBut.trans {b0 : Nat} {A B C : World} (h : KeepsBut b0 A B) (k : KeepsBut b0 B C) : KeepsBut b0 A C := ⟨Nat.le_trans h.size k.size, fun a v hb hv => k.cell a v hb (h.cell a v hb hv)⟩
theorem KeepsBut.of_below {b0 : Nat} {A B : World} (h : Below A.heap.size A B) : KeepsBut b0 A B := ⟨h.size, fun a v _ hv => (h.cell (World.block_lt_of_cell? A a hv)).trans hv⟩
theorem KeepsBut.putObj {b0 : Nat} (W : World) (l : Nat) (o o' : Obj) (h : W.heap[l]? = some o) (hc : o.isCells = false) : KeepsBut b0 W (W.putObj l o') :=
  ⟨(grownBy_putObj' W l o').size, fun a v _ hv => by
    refine (World.cell?_of_block ((grownBy_putObj' W l o').block a.block (World.block_lt_of_cell? W a hv) ?_)).trans hv
    intro e
    cases e
    rw [show W.cell? a = none from ?_] at hv
    · cases hv
    · unfold World.cell?
      rw [h]
      cases o <;> simp_all [Obj.isCells]⟩
theorem KeepsBut.setCell {b0 : Nat} (W : World) (o : Nat) (v : Value) : KeepsBut b0 W (W.setCell ⟨b0, o, none⟩ v) :=
  ⟨by simp, fun a u hb hu => (World.cell?_of_block (set_far W _ v a.block hb)).trans hu⟩
theorem Kids.stayC {w w' : World} {F : Nat → Prop} {a : Option Addr} {cap : Nat} {ks : List Tr} (h : Kids w F a cap ks) (hs : ∀ (a : Addr) v, F a.block → w.cell? a = some v → w'.cell? a = some v) : Kids w' F a cap ks := by
  induction h with
  | nil => exact .nil
  | empty a cap => exact .empty a cap
  | row b off cap ks A C hpos hl hF h0 h1 h2 _ ih =>
    exact .row b off cap ks A C hpos hl hF (fun i hi => hs _ _ hF (h0 i hi)) (fun i hi => hs _ _ hF (h1 i hi)) (fun i hi => hs _ _ hF (h2 i hi)) ih
theorem IsT.keeps {w w' : World} {b0 : Nat} {k n : Int} {a : Option Addr} {m cap : Nat} {t : Tr} (h : IsT w (fun b => b ≠ b0) k n a m cap t) (hk : KeepsBut b0 w w') : IsT w' (fun b => b ≠ b0) k n a m cap t :=
  ⟨h.ek, h.en, h.em, h.ok, h.kids.stayC fun a v hb hv => hk.cell a v hb hv⟩
theorem abides_below {β : Type} {B : Nat} {J : β → World → Prop} {s : β} {W W' : World} (h : AbidesFrom B J) (hs : J s W) (hb : Below W.heap.size W W') : J s W' :=
  h s W W' none hs ⟨hb.os, hb.tape, hb.output, hb.size, fun k hk _ => hb.block k hk⟩ (fun r e => by cases e)
/-- The value x reads as the tree that comes behind pre in L. -/
def NextT (b0 : Nat) (L : List Tr) (pre : List Value) (x : Value) (W : World) : Prop :=
  ∃ k n a m c t, x = .agg #[.int .i64 k, .int .i64 n, .slice a m c] ∧ IsT W (fun b => b ≠ b0) k n a m c t ∧ L[pre.length]? = some t
/-- How the iterator may be left. -/
def AllEnds (b0 : Nat) (J Jx : List Value → World → Prop) (pre : List Value) (s : Nat) (W : World) (e : Ending) (W' : World) : Prop :=
  (e = .returned (.bool true) ∧ ∃ xs, xs.length = s ∧ J (pre ++ xs) W' ∧ KeepsBut b0 W W') ∨ (e = .returned (.bool false) ∧ ∃ pre', Jx pre' W')
set_option maxRecDepth 100000 in
set_option maxHeartbeats 4000000 in
theorem all_in (b0 B N l : Nat) (L : List Tr) (J Jx : List Value → World → Prop) (hJ : AbidesFrom B J)
    (hY : ∀ pre x W, J pre W → pre.length < N → NextT b0 L pre x W → YieldAt Fence.wide 0 Tryz.prog l #[x] W fun e W' => (e = .returned (.bool true) ∧ J (pre ++ [x]) W' ∧ KeepsBut b0 W W') ∨ (e = .returned (.bool false) ∧ Jx (pre ++ [x]) W'))
    (K : Nat) (hK : K ≤ 4194304) : ∀ (q : Nat) (t : Tr) (k n : Int) (a : Option Addr) (m cap : Nat) (pre : List Value) (W : World), t.size ≤ K → IsT W (fun b => b ≠ b0) k n a m cap t → b0 < W.heap.size → J pre W → pre.length + t.size ≤ N → (∀ i, i < t.size → L[pre.length + i]? = t.nodes[i]?) →
    CallsIn Fence.wide q Tryz.prog 141 #[.agg #[.int .i64 k, .int .i64 n, .slice a m cap], .func (.yield l) #[] #[]] W (AllEnds b0 J Jx pre t.size W) := by
  have HJ := Lib.hid hJ
  have HYY := Lib.hid hY
  clear hJ hY
  induction K with
  | zero => intro q t k n a m cap pre W h; have := Tr.size_pos t; omega
  | succ K ih =>
    intro q t k n a m cap pre W hs hT hb0 hJ0 hN hL
    have IH := Lib.hid (ih (by omega))
    have hm : m ≤ K := by
      have := Tr.len_le_sizeL t.kids
      rw [Tr.size_kids] at hs
      rw [hT.em]; omega
    have HS := Lib.hid hs
    have HT := Lib.hid hT
    have HL := Lib.hid hL
    have HN := Lib.hid hN
    have HJ0 := Lib.hid hJ0
    have HSK := Lib.hid (Tr.size_kids t)
    have CC : Hid (∀ W', Below W.heap.size W W' → Calls Tryz.prog 58 #[.agg #[.int .i64 k, .int .i64 n, .slice a m cap]] W' (GivesS t W')) := fun W' hb => desc_Clone 4194304 (by omega) t k n a m cap W' _ (by have := HS.out; omega) (HT.out.below hb)
    clear ih hs hT hL hN hJ0
    refine callsIn_of_wp Tryz.func141 rfl trivial ?_ rfl
    simp only [Tryz.ntmps141, List.size_toArray, List.length_cons, List.length_nil, Nat.reduceAdd, Nat.reduceSub, Array.replicate_succ, Array.replicate_zero, List.push_toArray, List.append_toArray, List.nil_append, List.cons_append]
    gi_wp2
    refine ⟨trivial, (fun h => by cases h), (callsIn_wide.2 (CC.out _ ((Below.refl _ _).alloc (Nat.le_refl _) _))).mono ?_⟩
    rintro e w1 ⟨k1, n1, a1, m1, c1, rfl, hS1, hb1⟩
    have hbl : Below W.heap.size W w1 := chainA (Below.refl _ _) hb1
    have hbs := hbl.size
    have hsz1 : W.heap.size < w1.heap.size := by have := hb1.size; simp at this; omega
    have hbx : w1.heap[W.heap.size]? = some (.cells #[.int .i64 k, .int .i64 n, .slice a m cap] 48 (0, 0)) := (hb1.block _ (by simp)).trans (block_new rfl)
    have HT1 : Hid (IsT w1 (fun b => b ≠ b0) k n a m cap t) := HT.out.below hbl
    have hnx : NextT b0 L pre (.agg #[.int .i64 k1, .int .i64 n1, .slice a1 m1 c1]) w1 := by
      refine ⟨k1, n1, a1, m1, c1, t, rfl, hS1.tree.mono fun b hb => ?_, ?_⟩
      · have h1 : W.heap.size + 1 ≤ b := by have := hb.1; simpa using this
        omega
      · have := HL.out 0 (Tr.size_pos t)
        rw [Nat.add_zero] at this
        rw [this, Tr.nodes_kids]; rfl
    obtain ⟨fn, tmps, assign, body, hy, hR⟩ := HYY.out pre _ w1 (abides_below HJ.out HJ0.out hbl) (by have := HN.out; have := Tr.size_pos t; omega) hnx
    have HR := Lib.hid hR
    have HBX := Lib.hid hbx
    have HBL := Lib.hid hbl
    clear hnx hS1 hb1 hR hbx hbl
    gi_wp2
    refine ⟨(fun h => by cases h), RoundIn.mono ⟨HR.out.1, fun c cs _ => HR.out.2 c cs (room_wide _)⟩ ?_⟩
    rintro e W3 (⟨rfl, hJ3, hk3⟩ | ⟨rfl, hJx3⟩)
    · have hbn : W.heap.size ≠ b0 := by omega
      have hbox := hk3.cell ⟨W.heap.size, 2, none⟩ (.slice a m cap) hbn (block_cell HBX.out 2)
      have HT3 : Hid (IsT W3 (fun b => b ≠ b0) k n a m cap t) := HT1.out.keeps hk3
      have hK3 : KeepsBut b0 W W3 := (KeepsBut.of_below HBL.out).trans hk3
      have hW3 : b0 < W3.heap.size := by have := hK3.size; omega
      have HK3 := Lib.hid hK3
      have HJ3 := Lib.hid hJ3
      have hlx := Tr.nodesL_len t.kids
      clear hk3 hJ3 hK3 hlx
      gi_wp2
      obtain ⟨wo, hwo⟩ : ∃ wo : World, wo = W3 := ⟨_, rfl⟩
      subst hwo
      gi_loopw [15] (fun v wr => ∃ (j : Nat) (xs : List Value), j ≤ m ∧ v = .int .i64 j ∧ Hid (xs.length = 1 + Tr.sizeL (t.kids.take j)) ∧ Hid (J (pre ++ xs) wr) ∧ Hid (KeepsBut b0 wo wr)) (fun v _ => m - (intOf v).toNat)
      case atStart => exact ⟨0, [.agg #[.int .i64 k1, .int .i64 n1, .slice a1 m1 c1]], Nat.zero_le _, rfl, by simp [Hid, Tr.sizeL], HJ3.out, KeepsBut.refl _ _⟩
      case round =>
        obtain ⟨j, xs, hj, rfl, HXL, HJJ, HKK⟩ := hrel
        by_cases hlt : j < m
        · obtain ⟨b, off, k2, n2, a2, m2, c2, rfl, hF, hbl, g0, g1, g2, hT'⟩ := (HT3.out.keeps HKK.out).kid j hlt
          have hj2 : j < t.kids.length := by rw [← HT.out.em]; exact hlt
          have hsz := Tr.size_kid t j hj2
          have hst := Tr.take_kid hj2
          have hs1 : (Tr.kid t.kids j).size ≤ K := by have := HS.out; omega
          have hdr := Tr.drop_kid hj2
          have htd : t.kids = t.kids.take j ++ (Tr.kid t.kids j :: t.kids.drop (j + 1)) := by rw [← hdr, List.take_append_drop]
          have htake : Tr.sizeL (t.kids.take (j + 1)) ≤ Tr.sizeL t.kids := Tr.sizeL_take _ _
          have hsnoc : Tr.sizeL (t.kids.take (j + 1)) = Tr.sizeL (t.kids.take j) + (Tr.kid t.kids j).size := by rw [hst, Tr.sizeL_append]; simp [Tr.sizeL]
          have hnd : t.nodes = t :: (Tr.nodesL (t.kids.take j) ++ ((Tr.kid t.kids j).nodes ++ Tr.nodesL (t.kids.drop (j + 1)))) := by
            rw [Tr.nodes_kids]
            conv => lhs; rw [htd]
            rw [Tr.nodesL_append]; rfl
          have hLk : ∀ i, i < (Tr.kid t.kids j).size → L[(pre ++ xs).length + i]? = (Tr.kid t.kids j).nodes[i]? := fun i hi => by
            have h1 := HL.out (1 + Tr.sizeL (t.kids.take j) + i) (by rw [HSK.out]; omega)
            rw [List.length_append, HXL.out, Nat.add_assoc, Nat.add_assoc, ← Nat.add_assoc 1, h1, hnd, show 1 + Tr.sizeL (t.kids.take j) + i = (Tr.sizeL (t.kids.take j) + i) + 1 by omega, List.getElem?_cons_succ,
              List.getElem?_append_right (by rw [Tr.nodesL_len]; omega), Tr.nodesL_len, Nat.add_sub_cancel_left, List.getElem?_append_left (by rw [Tr.nodes_len _ _ (Nat.le_refl _)]; exact hi)]
          have hNk : (pre ++ xs).length + (Tr.kid t.kids j).size ≤ N := by
            rw [List.length_append, HXL.out]
            have := HN.out; rw [HSK.out] at this; omega
          obtain ⟨t', ht'⟩ : ∃ t', Tr.kid t.kids j = t' := ⟨_, rfl⟩
          rw [ht'] at hT' hs1 hsnoc hLk hNk
          have hwr : b0 < wr.heap.size := by have := HKK.out.size; omega
          have CK : Hid (∀ W', Below wr.heap.size wr W' → CallsIn Fence.wide (q - 1) Tryz.prog 141 #[.agg #[.int .i64 k2, .int .i64 n2, .slice a2 m2 c2], .func (.yield l) #[] #[]] W' (AllEnds b0 J Jx (pre ++ xs) t'.size W')) :=
            fun W' hb => IH.out (q - 1) t' k2 n2 a2 m2 c2 (pre ++ xs) W' hs1 (hT'.below hb) (Nat.lt_of_lt_of_le hwr hb.size) (abides_below HJ.out HJJ.out hb) hNk hLk
          have HSN := Lib.hid hsnoc
          clear hT' hsz hst hs1 hdr htd htake hsnoc hnd hLk hNk ht' hj2
          gi_wp2
          refine ⟨trivial, (fun h => by cases h), (CK.out _ ((Below.refl _ _).alloc (Nat.le_refl _) _)).mono ?_⟩
          rintro e W4 (⟨rfl, ys, hyl, hJ4, hk4⟩ | ⟨rfl, hJx4⟩)
          · have HY4 : Hid ((xs ++ ys).length = 1 + Tr.sizeL (t.kids.take (j + 1))) := by unfold Hid; rw [List.length_append, HXL.out, hyl, HSN.out]; omega
            have HJ4 : Hid (J (pre ++ (xs ++ ys)) W4) := by unfold Hid; rw [← List.append_assoc]; exact hJ4
            have HK4 : Hid (KeepsBut b0 wo W4) := (HKK.out.trans (KeepsBut.of_below ((Below.refl _ _).alloc (Nat.le_refl _) _))).trans hk4
            clear hyl hJ4 hk4
            gi_wp2
            go_roundw
            case rel => exact ⟨j + 1, xs ++ ys, by omega, by go_num, HY4.out, HJ4.out, HK4.out⟩
            case measure => simp [intOf]; omega
          · gi_wp2
            go_ret
            exact .inr ⟨rfl, hJx4⟩
        · have hjm : j = m := by omega
          have HY4 : Hid (xs.length = t.size) := by
            unfold Hid
            rw [HXL.out, HSK.out, List.take_of_length_le (by rw [← HT.out.em]; omega)]; omega
          gi_wp2
          go_ret
          exact .inl ⟨rfl, xs, HY4.out, HJJ.out, HK3.out.trans HKK.out⟩
    · gi_wp2
      go_ret
      exact .inr ⟨rfl, _, hJx3⟩
end Go.Proofs.YtlnlijeamflpiaaGreat

namespace Go.Proofs.YtlnlijeamflpiaaGreat
open Go.RowKit
set_option linter.unusedVariables false
set_option linter.unusedSimpArgs false
set_option maxRecDepth 100000
namespace Tr
/-- Another kid at a place. -/
def setKid (t : Tr) (i : Nat) (u : Tr) : Tr := node t.kind t.num (t.kids.set i u)
/-- Another node at a place. -/
def put (t : Tr) : List Int → Tr → Tr
  | [], u => u
  | i :: p, u => setKid t i.toNat (put (kid t.kids i.toNat) p u)
theorem kid_set (ks : List Tr) (i j : Nat) (u : Tr) (hi : i < ks.length) : kid (ks.set i u) j = if j = i then u else kid ks j := by
  unfold kid
  by_cases h : j = i
  · subst h; rw [if_pos rfl]; simp [hi]
  · rw [if_neg h]; simp [List.getD, List.getElem?_set_ne (Ne.symm h)]
theorem put_snoc {t s : Tr} : ∀ {q : List Int} (i : Int) (u : Tr), at? t q = some s → put t (q ++ [i]) u = put t q (setKid s i.toNat u) := by
  intro q
  induction q generalizing t with
  | nil => intro i u h; unfold at? at h; cases h; rfl
  | cons j q ih =>
    intro i u h
    obtain ⟨h0, h1, h2⟩ := at_yes h
    show setKid t j.toNat (put (kid t.kids j.toNat) (q ++ [i]) u) = setKid t j.toNat (put (kid t.kids j.toNat) q (setKid s i.toNat u))
    rw [ih i u h2]
theorem at_snoc {t s : Tr} : ∀ {q : List Int} (i : Nat), at? t q = some s → i < s.kids.length → at? t (q ++ [(i : Int)]) = some (kid s.kids i) := by
  intro q
  induction q generalizing t with
  | nil =>
    intro i h hi
    unfold at? at h; cases h
    show at? s [(i : Int)] = _
    rw [at_in (by omega) (by omega)]
    simp [at?]
  | cons j q ih =>
    intro i h hi
    obtain ⟨h0, h1, h2⟩ := at_yes h
    show at? t (j :: (q ++ [(i : Int)])) = _
    rw [at_in h0 h1]
    exact ih i h2 hi
theorem okL_set {ks : List Tr} (h : OkL ks) (i : Nat) {u : Tr} (hu : u.Ok) : OkL (ks.set i u) :=
  okL_of fun t ht => by
    rcases List.mem_or_eq_of_mem_set ht with h1 | rfl
    · exact ok_mem h1 h
    · exact hu
theorem setKid_ok {t u : Tr} (h : t.Ok) (i : Nat) (hu : u.Ok) : (setKid t i u).Ok := by
  unfold setKid
  simp only [Ok]
  exact ⟨ok_kind h, ok_num h, okL_set (ok_kids h) i hu⟩
end Tr
/-- The three cells at a place read as a tree; what is below lies in Z. -/
def Slot (Z : Nat → Prop) (w : World) (b o : Nat) (t : Tr) : Prop :=
  ∃ k n a m c, w.cell? ⟨b, o, none⟩ = some (.int .i64 k) ∧ w.cell? ⟨b, o + 1, none⟩ = some (.int .i64 n) ∧ w.cell? ⟨b, o + 2, none⟩ = some (.slice a m c) ∧ IsT w Z k n a m c t
/-- Cells stay, but for the blocks in F and the three cells at the place. -/
def KeepsHole (F : Nat → Prop) (b o : Nat) (w w' : World) : Prop :=
  ∀ (x y : Nat) (v : Value), ¬ F x → ¬ (x = b ∧ o ≤ y ∧ y < o + 3) → w.cell? ⟨x, y, none⟩ = some v → w'.cell? ⟨x, y, none⟩ = some v
/-- Whatever is put at the place (b', o'), the root reads as with that node at the path q. -/
def Ctx (Z : Nat → Prop) (w : World) (b o : Nat) (t : Tr) (q : List Int) (F' : Nat → Prop) (b' o' : Nat) : Prop :=
  ∀ (w' : World) (u : Tr), KeepsHole F' b' o' w w' → Slot Z w' b' o' u → Slot Z w' b o (t.put q u)
theorem Kids.stayS {w w' : World} {F : Nat → Prop} {a : Option Addr} {cap : Nat} {ks : List Tr} (h : Kids w F a cap ks) (hs : ∀ x y v, F x → w.cell? ⟨x, y, none⟩ = some v → w'.cell? ⟨x, y, none⟩ = some v) : Kids w' F a cap ks := by
  induction h with
  | nil => exact .nil
  | empty a cap => exact .empty a cap
  | row b off cap ks A C hpos hl hF h0 h1 h2 _ ih =>
    exact .row b off cap ks A C hpos hl hF (fun i hi => hs _ _ _ hF (h0 i hi)) (fun i hi => hs _ _ _ hF (h1 i hi)) (fun i hi => hs _ _ _ hF (h2 i hi)) ih
/-- One step down: the i-th kid of the node at the place. -/
theorem Ctx.step {Z : Nat → Prop} {w : World} {b o : Nat} {t s : Tr} {q : List Int} {F' : Nat → Prop} {b' o' : Nat} {k n : Int} {a : Option Addr} {m c : Nat} (h : Ctx Z w b o t q F' b' o') (hat : Tr.at? t q = some s) (hS : IsS w F' k n a m c s) (hb' : ¬ F' b') (hZ : ∀ x, F' x → Z x)
    (c0 : w.cell? ⟨b', o', none⟩ = some (.int .i64 k)) (c1 : w.cell? ⟨b', o' + 1, none⟩ = some (.int .i64 n)) (c2 : w.cell? ⟨b', o' + 2, none⟩ = some (.slice a m c)) (i : Nat) (hi : i < m) :
    ∃ g k2 n2 a2 m2 c2 G, a = some ⟨g, 0, none⟩ ∧ F' g ∧ (∀ o, w.frozen? ⟨g, o, none⟩ = false) ∧ w.cell? ⟨g, i * 3, none⟩ = some (.int .i64 k2) ∧ w.cell? ⟨g, i * 3 + 1, none⟩ = some (.int .i64 n2) ∧ w.cell? ⟨g, i * 3 + 2, none⟩ = some (.slice a2 m2 c2) ∧
      IsS w G k2 n2 a2 m2 c2 (Tr.kid s.kids i) ∧ ¬ G g ∧ (∀ x, G x → F' x) ∧ Ctx Z w b o t (q ++ [(i : Int)]) G g (i * 3) ∧ Tr.at? t (q ++ [(i : Int)]) = some (Tr.kid s.kids i) := by
  have hi' := hi
  rw [hS.em] at hi'
  obtain ⟨ek, en, em, hok, hsep⟩ := hS
  cases s with
  | node ks' kn kk =>
    simp only [Tr.kids, Tr.kind, Tr.num] at ek en em hi' hsep ⊢
    cases hsep with
    | nil => simp at hi'
    | empty => simp at hi'
    | row _ g cap _ A C G hpos hl hF hG hd hfz h0 h1 h2 hk =>
      have hokk := Tr.ok_mem (Tr.kid_mem hi') (Tr.ok_kids hok)
      refine ⟨g, _, _, _, _, _, G i, rfl, hF, hfz, h0 i hi', h1 i hi', h2 i hi', ⟨rfl, rfl, rfl, hokk, hk i hi'⟩, fun hg => (hG i g hi' hg).2 rfl, fun x hx => (hG i x hi' hx).1, ?_, Tr.at_snoc i hat hi'⟩
      intro w' u hkeep hslot
      have hne : b' ≠ g := fun e => hb' (e ▸ hF)
      rw [Tr.put_snoc (i : Int) u hat, Int.toNat_natCast]
      obtain ⟨ku, nu, au, mu, cu, u0, u1, u2, hU⟩ := hslot
      refine h w' _ (fun x y v hx hxy hv => hkeep x y v (fun hg => hx (hG i x hi' hg).1) (fun hh => hx (hh.1 ▸ hF)) hv) ⟨k, n, some ⟨g, 0, none⟩, m, c, ?_, ?_, ?_, ?_⟩
      · exact hkeep _ _ _ (fun hg => hb' (hG i b' hi' hg).1) (fun hh => hne hh.1) c0
      · exact hkeep _ _ _ (fun hg => hb' (hG i b' hi' hg).1) (fun hh => hne hh.1) c1
      · exact hkeep _ _ _ (fun hg => hb' (hG i b' hi' hg).1) (fun hh => hne hh.1) c2
      · refine ⟨ek, en, ?_, Tr.setKid_ok hok i hU.ok, ?_⟩
        · rw [em]; simp [Tr.setKid, Tr.kids]
        · show Kids w' _ (some ⟨g, 0, none⟩) c (kk.set i u)
          have hln : (kk.set i u).length = kk.length := List.length_set
          refine .row g 0 c _ (fun j => if j = i then au else A j) (fun j => if j = i then cu else C j) (by rw [hln]; exact hpos) (by rw [hln]; exact hl) (hZ g hF) (fun j hj => ?_) (fun j hj => ?_) (fun j hj => ?_) (fun j hj => ?_)
          all_goals rw [hln] at hj
          all_goals rw [Tr.kid_set kk i j u hi']
          all_goals by_cases hji : j = i
          · subst hji; rw [if_pos rfl, Nat.zero_add, ← hU.ek]; exact u0
          · rw [if_neg hji, Nat.zero_add]; exact hkeep _ _ _ (fun hg => (hG i g hi' hg).2 rfl) (fun hh => by omega) (h0 j hj)
          · subst hji; rw [if_pos rfl, Nat.zero_add, ← hU.en]; exact u1
          · rw [if_neg hji, Nat.zero_add]; exact hkeep _ _ _ (fun hg => (hG i g hi' hg).2 rfl) (fun hh => by omega) (h1 j hj)
          · subst hji; simp only [if_true]; rw [Nat.zero_add, ← hU.em]; exact u2
          · simp only [if_neg hji]; rw [Nat.zero_add]; exact hkeep _ _ _ (fun hg => (hG i g hi' hg).2 rfl) (fun hh => by omega) (h2 j hj)
          · subst hji; simp only [if_true]; exact hU.kids
          · simp only [if_neg hji]
            exact ((hk j hj).kids.stayS fun x y v hx hv => hkeep x y v (fun hg => hji (hd j i x hj hi' hx hg)) (fun hh => (hG j x hj hx).2 hh.1) hv).mono fun x hx => hZ x (hG j x hj hx).1
end Go.Proofs.YtlnlijeamflpiaaGreat

namespace Go.Proofs.YtlnlijeamflpiaaGreat
open Go.RowKit
set_option linter.unusedVariables false
set_option linter.unusedSimpArgs false
set_option maxRecDepth 100000
theorem bits_and_nat (a b : Nat) (ha : a < 9223372036854775808) (hb : b < 9223372036854775808) : bits .and .i64 (a : Int) (b : Int) = ((a &&& b : Nat) : Int) := by
  have h : a &&& b ≤ a := Nat.and_le_left
  show IntKind.i64.wrap (((BitVec.ofInt 64 (a : Int)) &&& (BitVec.ofInt 64 (b : Int))).toNat : Int) = _
  rw [BitVec.ofInt_natCast, BitVec.ofInt_natCast, BitVec.toNat_and, BitVec.toNat_ofNat, BitVec.toNat_ofNat, Nat.mod_eq_of_lt (by omega), Nat.mod_eq_of_lt (by omega)]
  exact IntWalk.i64_in _ (by omega)
/-- Is it a power of two? -/
def isP2 (n : Int) : Bool := decide (0 < n) && decide (n.toNat &&& (n.toNat - 1) = 0)
theorem isP2_nat (n : Nat) : isP2 n = (decide (0 < n) && decide (n &&& (n - 1) = 0)) := by unfold isP2; simp
theorem isP2_iff (n : Nat) : isP2 n = true ↔ ∃ k, n = 2 ^ k := by
  rw [isP2_nat]
  by_cases h : n = 0
  · subst h
    simp only [Nat.lt_irrefl, decide_false, Bool.false_and, Bool.false_eq_true, false_iff]
    rintro ⟨k, hk⟩
    have : 0 < 2 ^ k := Nat.pow_pos (by omega)
    omega
  · rw [show decide (0 < n) = true by simp; omega, Bool.true_and, decide_eq_true_eq]
    exact Nat.and_sub_one_eq_zero_iff_isPowerOfTwo h
theorem isP2_neg (n : Int) (h : n ≤ 0) : isP2 n = false := by unfold isP2; rw [show decide (0 < n) = false by simp; omega]; rfl
theorem isP2_pos (n : Int) (h : isP2 n = true) : 0 < n := by
  by_cases h0 : 0 < n
  · exact h0
  · rw [isP2_neg n (by omega)] at h; cases h
end Go.Proofs.YtlnlijeamflpiaaGreat

namespace Go.Proofs.YtlnlijeamflpiaaGreat
open Go.RowKit
set_option linter.unusedVariables false
set_option linter.unusedSimpArgs false
set_option maxRecDepth 100000
theorem stock_power (n : Int) (w : World) (hn : -9223372036854775808 ≤ n ∧ n ≤ 9223372036854775807) :
    Calls Tryz.prog 143 #[.int .i64 n] w fun e w' => e = .returned (.bool (isP2 n)) ∧ w = w' := by
  by_cases h0 : n ≤ 0
  · have HP := Lib.hid (isP2_neg n h0)
    go_enter Tryz.func143, Tryz.ntmps143
    go_wp2_with fail
    go_ret
    exact ⟨ret_bool HP.out.symm, rfl⟩
  · obtain ⟨N, rfl⟩ := Int.eq_ofNat_of_zero_le (show 0 ≤ n by omega)
    obtain ⟨V, hV⟩ : ∃ V, N &&& (N - 1) = V := ⟨_, rfl⟩
    have e1 : bits .and .i64 (N : Int) ((N : Int) - 1) = (V : Int) := by
      have := bits_and_nat N (N - 1) (by omega) (by omega)
      rw [hV] at this
      rw [← this]; congr 1; omega
    have hP : isP2 (N : Int) = decide (V = 0) := by
      rw [isP2_nat, hV, show decide (0 < N) = true by simp; omega, Bool.true_and]
    have HP := Lib.hid hP
    clear hV hP
    by_cases hv : V = 0
    · have e2 : ((V : Int) == 0) = true := by simp; omega
      have HV := Lib.hid hv
      clear hv
      go_enter Tryz.func143, Tryz.ntmps143
      go_wp2_with fail
      go_ret
      exact ⟨ret_bool (by rw [HP.out]; simp [HV.out]), rfl⟩
    · have e2 : ((V : Int) == 0) = false := by simp; omega
      have HV := Lib.hid hv
      clear hv
      go_enter Tryz.func143, Tryz.ntmps143
      go_wp2_with fail
      go_ret
      exact ⟨ret_bool (by rw [HP.out]; simp [HV.out]), rfl⟩
/-- May there be so many? -/
def hasP2 (n : Int) : Bool := isP2 n && decide (n ≤ 16777216)
theorem hasP2_iff (n : Int) : hasP2 n = true ↔ ∃ k, k ≤ 24 ∧ n = ((2 ^ k : Nat) : Int) := by
  unfold hasP2
  rw [Bool.and_eq_true, decide_eq_true_eq]
  constructor
  · rintro ⟨h1, h2⟩
    have h0 := isP2_pos n h1
    obtain ⟨N, rfl⟩ := Int.eq_ofNat_of_zero_le (show 0 ≤ n by omega)
    obtain ⟨k, rfl⟩ := (isP2_iff N).1 h1
    refine ⟨k, ?_, rfl⟩
    by_cases hk : k ≤ 24
    · exact hk
    · have : 2 ^ 25 ≤ 2 ^ k := Nat.pow_le_pow_right (by omega) (by omega)
      have e : (2 : Nat) ^ 25 = 33554432 := by decide
      omega
  · rintro ⟨k, hk, rfl⟩
    refine ⟨(isP2_iff _).2 ⟨k, rfl⟩, ?_⟩
    have : 2 ^ k ≤ 2 ^ 24 := Nat.pow_le_pow_right (by omega) hk
    have e : (2 : Nat) ^ 24 = 16777216 := by decide
    omega
theorem stock_Has (n : Int) (w : World) (hn : -9223372036854775808 ≤ n ∧ n ≤ 9223372036854775807) :
    Calls Tryz.prog 121 #[.int .i64 n] w fun e w' => e = .returned (.bool (hasP2 n)) ∧ w = w' := by
  obtain ⟨B, hB⟩ : ∃ B, isP2 n = B := ⟨_, rfl⟩
  have HP := Lib.hid hB
  have HH : Hid (hasP2 n = (B && decide (n ≤ 16777216))) := by unfold Hid hasP2; rw [hB]
  have C1 : Hid (∀ w : World, Calls Tryz.prog 143 #[.int .i64 n] w fun e w' => e = .returned (.bool B) ∧ w = w') := fun w => by rw [← hB]; exact stock_power n w hn
  clear hB
  cases B
  all_goals
    go_enter Tryz.func121, Tryz.ntmps121
    go_wp2_with fail
    refine (C1.out _).mono ?_; rintro e w' ⟨rfl, rfl⟩
    go_wp2_with fail
    go_ret
    exact ⟨ret_bool (by rw [HH.out]; first | rfl | simp), rfl⟩
theorem small_Has (n : Int) (w : World) :
    Calls Tryz.prog 120 #[.int .i64 n] w fun e w' => e = .returned (.bool (decide (1 ≤ n ∧ n ≤ 5))) ∧ w = w' := by
  rcases (show n < 1 ∨ (1 ≤ n ∧ n ≤ 5) ∨ (1 ≤ n ∧ 5 < n) by omega) with h | ⟨h1, h2⟩ | ⟨h1, h2⟩
  all_goals
    go_enter Tryz.func120, Tryz.ntmps120
    go_wp2_with fail
    go_ret
    exact ⟨ret_bool (by simp; try omega), rfl⟩
end Go.Proofs.YtlnlijeamflpiaaGreat

namespace Go.Proofs.YtlnlijeamflpiaaGreat
open Go.RowKit
set_option linter.unusedVariables false
set_option linter.unusedSimpArgs false
set_option maxRecDepth 100000
theorem gcd_step (a b : Nat) : Nat.gcd a b = Nat.gcd b (a % b) := by
  rw [Nat.gcd_comm a b, Nat.gcd_rec b a, Nat.gcd_comm]
set_option maxHeartbeats 400000 in
theorem factGcdL (a b : Nat) (w : World) (ha : a ≤ 9223372036854775807) (hb : b ≤ 9223372036854775807) :
    Calls Tryz.prog 163 #[.int .i64 a, .int .i64 b] w fun e w' => e = .returned (.int .i64 (Nat.gcd a b : Nat)) ∧ Below w.heap.size w w' := by
  obtain ⟨G, hG⟩ : ∃ G, Nat.gcd a b = G := ⟨_, rfl⟩
  rw [hG]
  have HG := Lib.hid hG
  clear hG
  go_enter Tryz.func163, Tryz.ntmps163
  go_wp2_with fail
  go_loopw [0, 1] (fun x y wr => ∃ (m n : Nat), m ≤ 9223372036854775807 ∧ n ≤ 9223372036854775807 ∧ x = .int .i64 m ∧ y = .int .i64 n ∧ Hid (Nat.gcd m n = G) ∧ Below w.heap.size w wr) (fun _ y _ => (intOf y).toNat)
  case atStart => exact ⟨a, b, ha, hb, rfl, rfl, HG, Below.refl _ _⟩
  case round =>
    obtain ⟨m, n, hm, hn, rfl, rfl, H, hbl⟩ := hrel
    by_cases h0 : n = 0
    · subst h0
      go_wp2_with fail
      go_ret
      exact ⟨ret_int (by have := H.out; rw [Nat.gcd_zero_right] at this; rw [this]), hbl⟩
    · have hz : ((n : Int) != 0) = true := bdiff (by omega)
      have hz' : ((n : Int) == 0) = false := bno (by omega)
      have hz2 : ¬ (n : Int) = 0 := by omega
      have e1 : (m : Int).tmod (n : Int) = ((m % n : Nat) : Int) := by rw [Int.tmod_eq_emod_of_nonneg (by omega), Int.natCast_emod]
      have hlt : m % n < n := Nat.mod_lt _ (by omega)
      have HS : Hid (Nat.gcd n (m % n) = G) := by have := H.out; unfold Hid; rw [← this, ← gcd_step]
      obtain ⟨r, hr⟩ : ∃ r, m % n = r := ⟨_, rfl⟩
      rw [hr] at e1 hlt HS
      have e2 : (m : Int) % (n : Int) = (r : Int) := by rw [← Int.natCast_emod, hr]
      clear hr h0
      go_wp2_with fail
      go_quiet (fail)
      go_wp2_with fail
      go_roundw
      case rel => exact ⟨n, r, by omega, by omega, rfl, rfl, HS, below_drewN hbl _⟩
      case measure => simp [intOf]; omega
theorem factGcd (a b : Nat) (w : World) (ha : a ≤ 16777216) (hb : b ≤ 16777216) :
    Calls Tryz.prog 163 #[.int .i64 a, .int .i64 b] w fun e w' => e = .returned (.int .i64 (Nat.gcd a b : Nat)) ∧ Below w.heap.size w w' := factGcdL a b w (by omega) (by omega)
/-- The greatest common divisor as the program has it: 0 where a number is below 0. -/
def gcdI (a b : Int) : Int := if a < 0 ∨ b < 0 then 0 else (Nat.gcd a.toNat b.toNat : Nat)
theorem factGcdI (a b : Int) (w : World) (ha : -9223372036854775808 ≤ a ∧ a < 9223372036854775808) (hb : -9223372036854775808 ≤ b ∧ b < 9223372036854775808) :
    Calls Tryz.prog 163 #[.int .i64 a, .int .i64 b] w fun e w' => e = .returned (.int .i64 (gcdI a b)) ∧ Below w.heap.size w w' := by
  by_cases h : a < 0 ∨ b < 0
  · rw [show gcdI a b = 0 by unfold gcdI; rw [if_pos h]]
    by_cases h0 : a < 0
    · clear h
      go_enter Tryz.func163, Tryz.ntmps163
      go_wp2_with fail
      go_ret
      exact ⟨rfl, Below.refl _ _⟩
    · have h1 : b < 0 := by omega
      clear h
      go_enter Tryz.func163, Tryz.ntmps163
      go_wp2_with fail
      go_ret
      exact ⟨rfl, Below.refl _ _⟩
  · obtain ⟨x, rfl⟩ := Int.eq_ofNat_of_zero_le (show 0 ≤ a by omega)
    obtain ⟨y, rfl⟩ := Int.eq_ofNat_of_zero_le (show 0 ≤ b by omega)
    rw [show gcdI (x : Int) (y : Int) = ((Nat.gcd x y : Nat) : Int) by unfold gcdI; rw [if_neg (by omega), Int.toNat_natCast, Int.toNat_natCast]]
    exact factGcdL x y w (by omega) (by omega)
end Go.Proofs.YtlnlijeamflpiaaGreat

namespace Go.Proofs.YtlnlijeamflpiaaGreat
open Go.RowKit
set_option linter.unusedVariables false
set_option linter.unusedSimpArgs false
set_option maxRecDepth 100000
/-- n without d as often as it divides; e and how often. -/
def stripF : Nat → Nat → Nat → Nat → Nat × Nat
  | 0, _, n, e => (n, e)
  | f + 1, d, n, e => if n % d = 0 then stripF f d (n / d) (e + 1) else (n, e)
/-- The primes that divide n, from d on. -/
def facF : Nat → Nat → Nat → List (Nat × Nat)
  | 0, _, _ => []
  | f + 1, d, n => if d * d ≤ n then (match stripF 25 d n 0 with | (m, e) => if e = 0 then facF f (d + 1) m else (d, e) :: facF f (d + 1) m) else if 1 < n then [(n, 1)] else []
def facL (n : Nat) : List (Nat × Nat) := facF 4998 2 n
theorem stripF_le (f : Nat) : ∀ d n e, 2 ≤ d → 1 ≤ n → 1 ≤ (stripF f d n e).1 ∧ (stripF f d n e).1 ≤ n ∧ e ≤ (stripF f d n e).2 ∧ ((stripF f d n e).2 = e → (stripF f d n e).1 = n) := by
  induction f with
  | zero => intro d n e _ h; exact ⟨h, Nat.le_refl _, Nat.le_refl _, fun _ => rfl⟩
  | succ f ih =>
    intro d n e hd hn
    simp only [stripF]
    by_cases h : n % d = 0
    · rw [if_pos h]
      have h1 : 1 ≤ n / d := Nat.div_pos (Nat.le_of_dvd hn (Nat.dvd_of_mod_eq_zero h)) (by omega)
      obtain ⟨a, b, c, _⟩ := ih d (n / d) (e + 1) hd h1
      have := Nat.div_le_self n d
      exact ⟨a, by omega, by omega, fun h => by omega⟩
    · rw [if_neg h]; exact ⟨hn, Nat.le_refl _, Nat.le_refl _, fun _ => rfl⟩
theorem strip_step {n d e : Nat} (hd : 2 ≤ d) (h : n % d = 0) (hn : 1 ≤ n) (hb : n * 2 ^ e ≤ 16777216) : 1 ≤ n / d ∧ n / d * 2 ^ (e + 1) ≤ 16777216 ∧ n / d ≤ n := by
  have hdv := Nat.dvd_of_mod_eq_zero h
  have h1 : 1 ≤ n / d := Nat.div_pos (Nat.le_of_dvd hn hdv) (by omega)
  refine ⟨h1, ?_, Nat.div_le_self _ _⟩
  have h2 : n / d * 2 ≤ n := Nat.le_trans (Nat.mul_le_mul_left _ hd) (Nat.div_mul_le_self n d)
  calc n / d * 2 ^ (e + 1) = n / d * 2 * 2 ^ e := by rw [Nat.pow_succ, Nat.mul_comm (2 ^ e) 2, Nat.mul_assoc]
    _ ≤ n * 2 ^ e := Nat.mul_le_mul_right _ h2
    _ ≤ _ := hb
theorem strip_few {n e : Nat} (hn : 1 ≤ n) (hb : n * 2 ^ e ≤ 16777216) : e ≤ 24 := by
  by_cases h : e ≤ 24
  · exact h
  · have h1 : 2 ^ 25 ≤ 2 ^ e := Nat.pow_le_pow_right (by omega) (by omega)
    have h2 : 1 * 2 ^ e ≤ n * 2 ^ e := Nat.mul_le_mul_right _ hn
    have e2 : (2 : Nat) ^ 25 = 33554432 := by decide
    omega
/-- Is it a prime, as the program has it? -/
def prB (l : List (Nat × Nat)) : Bool := match l with | [(_, 1)] => true | _ => false
theorem facF_some (f : Nat) : ∀ d n, 2 ≤ d → 1 < n → n < (f + d) * (f + d) → facF (f + 1) d n ≠ [] := by
  induction f with
  | zero =>
    intro d n hd hn hf
    rw [Nat.zero_add] at hf
    simp only [facF]
    rw [if_neg (by omega), if_pos hn]
    simp
  | succ f ih =>
    intro d n hd hn hf
    have hle := stripF_le 25 d n 0 hd (by omega)
    rw [facF]
    by_cases h : d * d ≤ n
    · rw [if_pos h]
      rcases hs : stripF 25 d n 0 with ⟨m, e⟩
      rw [hs] at hle
      simp only [] at hle ⊢
      by_cases he : e = 0
      · rw [if_pos he]
        have hm : m = n := hle.2.2.2 he
        subst hm
        exact ih (d + 1) m (by omega) hn (by rw [show f + (d + 1) = f + 1 + d by omega]; exact hf)
      · rw [if_neg he]; simp
    · rw [if_neg h, if_pos hn]; simp
/-- No number from d on whose square is not above n divides n. -/
def NoDiv (d n : Nat) : Prop := 1 < n ∧ ∀ k, d ≤ k → k * k ≤ n → n % k ≠ 0
theorem facF_prime (f : Nat) : ∀ d n, 2 ≤ d → 1 ≤ n → n < (f + d) * (f + d) → (prB (facF (f + 1) d n) = true ↔ NoDiv d n) := by
  induction f with
  | zero =>
    intro d n hd hn hf
    rw [Nat.zero_add] at hf
    simp only [facF]
    rw [if_neg (by omega)]
    by_cases h1 : 1 < n
    · rw [if_pos h1]
      simp only [prB, true_iff]
      refine ⟨h1, fun k hk hkk _ => ?_⟩
      have := Nat.mul_le_mul hk hk
      omega
    · rw [if_neg h1]
      simp only [prB, Bool.false_eq_true, false_iff]
      exact fun h => h1 h.1
  | succ f ih =>
    intro d n hd hn hf
    have hle := stripF_le 25 d n 0 hd hn
    rw [facF]
    by_cases h : d * d ≤ n
    · rw [if_pos h]
      by_cases hdv : n % d = 0
      · have hnd : n / d * d = n := Nat.div_mul_cancel (Nat.dvd_of_mod_eq_zero hdv)
        have hge : d ≤ n / d := (Nat.le_div_iff_mul_le (by omega)).2 h
        have h24 : stripF 25 d n 0 = stripF 24 d (n / d) 1 := by rw [stripF, if_pos hdv]
        have hle2 := stripF_le 24 d (n / d) 1 hd (by omega)
        rw [← h24] at hle2
        have hno : ¬ NoDiv d n := fun hN => hN.2 d (Nat.le_refl _) h hdv
        rcases hs : stripF 25 d n 0 with ⟨m, e⟩
        rw [hs] at hle hle2
        simp only [] at hle hle2 ⊢
        rw [if_neg (by omega)]
        constructor
        · intro hp
          exfalso
          have he : e = 1 := by
            by_cases he : e = 1
            · exact he
            · exfalso
              simp only [prB] at hp
              split at hp
              · rename_i heq; simp only [List.cons.injEq, Prod.mk.injEq] at heq; exact he heq.1.2
              · cases hp
          have hm : m = n / d := hle2.2.2.2 he
          have hlt : m < (f + (d + 1)) * (f + (d + 1)) := by rw [show f + (d + 1) = f + 1 + d by omega]; omega
          have hsome := facF_some f (d + 1) m (by omega) (by omega) hlt
          simp only [prB] at hp
          split at hp
          · rename_i heq
            simp only [List.cons.injEq] at heq
            exact hsome heq.2
          · cases hp
        · intro hN; exact absurd hN hno
      · have hs : stripF 25 d n 0 = (n, 0) := by rw [stripF, if_neg hdv]
        rw [hs]
        simp only [if_true]
        rw [ih (d + 1) n (by omega) hn (by rw [show f + (d + 1) = f + 1 + d by omega]; exact hf)]
        constructor
        · rintro ⟨a, b⟩
          refine ⟨a, fun k hk hkk => ?_⟩
          by_cases e : k = d
          · subst e; exact hdv
          · exact b k (by omega) hkk
        · rintro ⟨a, b⟩
          exact ⟨a, fun k hk hkk => b k (by omega) hkk⟩
    · rw [if_neg h]
      by_cases h1 : 1 < n
      · rw [if_pos h1]
        simp only [prB, true_iff]
        refine ⟨h1, fun k hk hkk _ => ?_⟩
        have := Nat.mul_le_mul hk hk
        omega
      · rw [if_neg h1]
        simp only [prB, Bool.false_eq_true, false_iff]
        exact fun h => h1 h.1
theorem facL_prime (n : Nat) (h1 : 1 ≤ n) (h2 : n ≤ 16777216) : prB (facL n) = true ↔ NoDiv 2 n := facF_prime 4997 2 n (by omega) h1 (by omega)
/-- Is it a prime? -/
def isPr (n : Int) : Bool := decide (1 ≤ n ∧ n ≤ 16777216) && prB (facL n.toNat)
theorem isPr_nat (n : Nat) (h1 : 1 ≤ n) (h2 : n ≤ 16777216) : isPr (n : Int) = prB (facL n) := by
  unfold isPr
  rw [show decide (1 ≤ (n : Int) ∧ (n : Int) ≤ 16777216) = true by simp; omega, Bool.true_and, Int.toNat_natCast]
theorem isPr_iff (n : Nat) (h1 : 1 ≤ n) (h2 : n ≤ 16777216) : isPr (n : Int) = true ↔ NoDiv 2 n := by rw [isPr_nat n h1 h2, facL_prime n h1 h2]
/-- Pairs as cells. -/
def cellsP (ps : List (Nat × Nat)) : List Value := ps.flatMap fun p => [.int .i64 p.1, .int .i64 p.2]
theorem cellsP_snoc (ps : List (Nat × Nat)) (p : Nat × Nat) : cellsP (ps ++ [p]) = cellsP ps ++ [.int .i64 p.1, .int .i64 p.2] := by simp [cellsP]
theorem cellsP_at (ps : List (Nat × Nat)) : ∀ i, i < ps.length → (cellsP ps)[i * 2]? = some (.int .i64 (ps.getD i (0, 0)).1) ∧ (cellsP ps)[i * 2 + 1]? = some (.int .i64 (ps.getD i (0, 0)).2) := by
  induction ps with
  | nil => intro i h; simp at h
  | cons p r ih =>
    intro i h
    cases i with
    | zero => exact ⟨rfl, rfl⟩
    | succ i =>
      have := ih i (by simpa using h)
      have e : cellsP (p :: r) = .int .i64 p.1 :: .int .i64 p.2 :: cellsP r := by simp [cellsP]
      rw [e, show (i + 1) * 2 = i * 2 + 1 + 1 by omega]
      simpa using this
end Go.Proofs.YtlnlijeamflpiaaGreat

namespace Go.Proofs.YtlnlijeamflpiaaGreat
open Go.RowKit
set_option linter.unusedVariables false
set_option linter.unusedSimpArgs false
set_option maxRecDepth 100000
/-- Is it a product of two sizes? -/
def sidesB (n : Int) (m : Nat) (k0 k1 : Int) : Bool := decide (m = 2 ∧ 2 ≤ k0 ∧ 2 ≤ k1 ∧ k0 ≤ n ∧ k1 ≤ n ∧ k0 * k1 = n) && hasSz n
/-- Is a node right by itself? (Its kind, its size, how many children, and the sizes of the first two.) -/
def nodeB (k n : Int) (m : Nat) (k0 k1 : Int) : Bool :=
  if k = 1 then decide (m = 0 ∧ n ≤ 64) && hasSz n
  else if k = 2 then decide (m = 0 ∧ 2 ≤ n ∧ n ≤ 5)
  else if k = 3 then decide (m = 0 ∧ 2 ≤ n) && hasP2 n
  else if k = 4 then sidesB n m k0 k1
  else if k = 5 then sidesB n m k0 k1 && decide (gcdI k0 k1 = 1)
  else if k = 6 then decide (m = 1 ∧ 3 ≤ n ∧ k0 = n - 1) && hasSz n && isPr n
  else if k = 7 then decide (m = 1 ∧ 2 ≤ n ∧ 2 * n - 1 ≤ k0) && hasSz n && hasP2 k0
  else false
def nodeOk (t : Tr) : Bool := nodeB t.kind t.num t.kids.length (Tr.kid t.kids 0).num (Tr.kid t.kids 1).num
theorem hasSz_bd {n : Int} (h : hasSz n = true) : 1 ≤ n ∧ n ≤ 16777216 := by have := hasSz_iff.1 h; exact ⟨this.1, this.2.1⟩
theorem sides_iff {n : Int} {m : Nat} {k0 k1 : Int} : sidesB n m k0 k1 = true ↔ (m = 2 ∧ 2 ≤ k0 ∧ 2 ≤ k1 ∧ k0 ≤ n ∧ k1 ≤ n ∧ k0 * k1 = n) ∧ hasSz n = true := by
  unfold sidesB; rw [Bool.and_eq_true, decide_eq_true_eq]
namespace Tr
mutual
/-- Where the first node is that is not right. -/
def wrong : Tr → Option (List Int)
  | node k n ks => if nodeOk (node k n ks) then wrongL 0 ks else some []
def wrongL : Nat → List Tr → Option (List Int)
  | _, [] => none
  | i, t :: ts => match wrong t with
    | some p => some ((i : Int) :: p)
    | none => wrongL (i + 1) ts
end
theorem wrong_kids (t : Tr) : wrong t = if nodeOk t then wrongL 0 t.kids else some [] := by cases t; simp [wrong, kids]
end Tr
end Go.Proofs.YtlnlijeamflpiaaGreat

namespace Go.Proofs.YtlnlijeamflpiaaGreat
open Go.RowKit
set_option linter.unusedVariables false
set_option linter.unusedSimpArgs false
set_option maxRecDepth 100000
theorem there_yes (n : Nat) (w : World) (h1 : 1 ≤ n) (h2 : n ≤ 16777216) :
    Calls Tryz.prog 144 #[.int .i64 n] w fun e w' => e = .returned (.bool true) ∧ w = w' := by
  go_enter Tryz.func144, Tryz.ntmps144
  go_wp2_with fail
  go_ret
  exact ⟨ret_bool (by simp; omega), rfl⟩
theorem there_no (n : Int) (w : World) (h : n < 1 ∨ 16777216 < n) :
    Calls Tryz.prog 144 #[.int .i64 n] w fun e w' => e = .returned (.bool false) ∧ w = w' := by
  by_cases h1 : n < 1
  · clear h
    go_enter Tryz.func144, Tryz.ntmps144
    go_wp2_with fail
    go_ret
    exact ⟨ret_bool (by simp; try omega), rfl⟩
  · have h2 : 16777216 < n := by omega
    clear h
    go_enter Tryz.func144, Tryz.ntmps144
    go_wp2_with fail
    go_ret
    exact ⟨ret_bool (by simp; try omega), rfl⟩
theorem info_power : (Tryz.prog.info? 126).map (fun i => (i.zero, i.size, i.bytes)) = some (some (.agg #[.int .i64 0, .int .i64 0]), 2, 16) := by kernel_rfl
theorem cell_two_new (w : World) (x y : Value) (t : TypeId) : ∀ j u, [x, y][j]? = some u → (w.alloc (.cells #[x, y] t)).cell? ((⟨w.heap.size, 0, none⟩ : Addr).add j) = some u := by
  intro j u hj
  match j, hj with
  | 0, hj => simp at hj; subst hj; simp [Addr.add]
  | 1, hj => simp at hj; subst hj; simp [Addr.add]
theorem one_two (x y : Int) : ∀ u ∈ [Value.int .i64 x, Value.int .i64 y], u.oneCell' = true := by
  intro u hu
  simp at hu
  rcases hu with rfl | rfl <;> rfl
/-- A result: a new row that reads as the pairs; no error. -/
def GivesP (ps : List (Nat × Nat)) (w : World) (e : Ending) (w' : World) : Prop :=
  ∃ v, e = .returned (.tuple #[v, .int .i64 0]) ∧ w'.ownsRow w.heap.size 126 2 v ps.length (cellsP ps) ∧ Below w.heap.size w w'
theorem fac_unfold_le {d n m e : Nat} (hd : d ≤ 4097) (h : d * d ≤ n) (hs : stripF 25 d n 0 = (m, e)) : facF (5000 - d) d n = if e = 0 then facF (5000 - (d + 1)) (d + 1) m else (d, e) :: facF (5000 - (d + 1)) (d + 1) m := by
  rw [show 5000 - d = (5000 - (d + 1)) + 1 by omega, facF, if_pos h, hs]
theorem fac_unfold_gt {d n : Nat} (hd : d ≤ 4097) (h : ¬ d * d ≤ n) : facF (5000 - d) d n = if 1 < n then [(n, 1)] else [] := by
  rw [show 5000 - d = (5000 - (d + 1)) + 1 by omega, facF, if_neg h]
set_option maxHeartbeats 4000000 in
theorem fact_Factors (N : Nat) (w : World) (h1 : 1 ≤ N) (h2 : N ≤ 16777216) :
    Calls Tryz.prog 123 #[.int .i64 N] w (GivesP (facL N) w) := by
  obtain ⟨i0, hi, hz0, hz1, hz2⟩ := info_parts info_power
  obtain ⟨PS, hPS⟩ : ∃ PS, facL N = PS := ⟨_, rfl⟩
  rw [hPS]
  have HPS := Lib.hid hPS
  clear hPS
  go_enter Tryz.func123, Tryz.ntmps123
  go_wp2_with fail
  go_step3
  go_wp2_with fail
  refine (there_yes N _ h1 h2).mono ?_; rintro e w' ⟨rfl, rfl⟩
  go_wp2_with fail
  go_step3
  go_wp2_with fail
  go_loopw [0, 4, 5] (fun n v d wr => ∃ (n0 d0 : Nat) (acc : List (Nat × Nat)), 1 ≤ n0 ∧ n0 ≤ 16777216 ∧ 2 ≤ d0 ∧ d0 ≤ 4097 ∧ n = .int .i64 n0 ∧ d = .int .i64 d0 ∧ acc.length ≤ d0 ∧ Hid (acc ++ facF (5000 - d0) d0 n0 = PS) ∧ Hid (wr.ownsRow w.heap.size 126 2 v acc.length (cellsP acc)) ∧ Below w.heap.size w wr) (fun _ _ d _ => 5000 - (intOf d).toNat)
  case atStart => exact ⟨N, 2, [], h1, h2, by omega, by omega, rfl, rfl, by simp, HPS.out, World.ownsRow_nil _ _ _ _, Below.refl _ _⟩
  case round =>
    obtain ⟨n, d, acc, hn1, hn2, hd1, hd2, rfl, rfl, hal, HF, HO, hbel⟩ := hrel
    obtain ⟨q, hq⟩ : ∃ q, d * d = q := ⟨_, rfl⟩
    have eq1 : (d : Int) * (d : Int) = (q : Int) := by rw [← hq]; simp
    have hq9 : q ≤ 4097 * 4097 := by rw [← hq]; exact Nat.mul_le_mul hd2 hd2
    by_cases hle : q ≤ n
    · have hd3 : d ≤ 4096 := by
        by_cases h : d ≤ 4096
        · exact h
        · have := Nat.mul_le_mul (show 4097 ≤ d by omega) (show 4097 ≤ d by omega)
          omega
      have HQ := Lib.hid hq
      clear hq
      obtain ⟨wo, rfl⟩ : ∃ wo : World, wo = wr := ⟨_, rfl⟩
      have hS : Hid (∃ m e, stripF 25 d n 0 = (m, e)) := ⟨_, _, rfl⟩
      obtain ⟨M, E, hs⟩ := hS.out
      have HS := Lib.hid hs
      clear hs hS
      have hbs := hbel.size
      go_wp2_with fail
      clear eq1
      go_loopw [0] (fun m wi => ∃ (m0 e0 : Nat), m = .int .i64 m0 ∧ 1 ≤ m0 ∧ m0 ≤ n ∧ e0 ≤ 24 ∧ Hid (m0 * 2 ^ e0 ≤ 16777216) ∧ Hid (stripF (25 - e0) d m0 e0 = (M, E)) ∧ Hid (wi.heap[wo.heap.size]? = some (.cells #[.int .i64 d, .int .i64 e0] 126 (0, 0))) ∧ Below wo.heap.size wo wi) (fun m _ => (intOf m).toNat)
      case atStart => exact ⟨n, 0, rfl, hn1, Nat.le_refl _, by omega, by unfold Hid; omega, HS.out, block_new rfl, (Below.refl _ _).alloc (Nat.le_refl _) _⟩
      case round =>
        obtain ⟨m, e, rfl, hm1, hmn, he24, HB, HR, HX, hbi⟩ := hrel
        have e1 : (m : Int).tmod (d : Int) = ((m % d : Nat) : Int) := by rw [Int.tmod_eq_emod_of_nonneg (by omega), Int.natCast_emod]
        have e2 : (m : Int) % (d : Int) = ((m % d : Nat) : Int) := by rw [← Int.natCast_emod]
        obtain ⟨r, hr⟩ : ∃ r, m % d = r := ⟨_, rfl⟩
        rw [hr] at e1 e2
        have z1 : ((d : Int) == 0) = false := bno (by omega)
        have z2 : ¬ (d : Int) = 0 := by omega
        by_cases h0 : r = 0
        · have HR0 := Lib.hid hr
          have e3 : (m : Int).tdiv (d : Int) = ((m / d : Nat) : Int) := by rw [Int.tdiv_eq_ediv_of_nonneg (by omega), Int.natCast_ediv]
          have e4 : (m : Int) / (d : Int) = ((m / d : Nat) : Int) := by rw [← Int.natCast_ediv]
          have hst := strip_step hd1 (by rw [hr]; exact h0) hm1 HB.out
          have hlt : m / d < m := Nat.div_lt_self (by omega) (by omega)
          have hfew := strip_few hst.1 hst.2.1
          obtain ⟨p, hp⟩ : ∃ p, m / d = p := ⟨_, rfl⟩
          have HR2 : Hid (stripF (25 - (e + 1)) d p (e + 1) = (M, E)) := by
            unfold Hid
            have := HR.out
            rw [show 25 - e = (25 - (e + 1)) + 1 by omega, stripF, if_pos (by rw [hr]; exact h0), hp] at this
            exact this
          rw [hp] at e3 e4 hst hlt
          obtain ⟨g1, g2, g3⟩ := hst
          have G2 := Lib.hid g2
          clear hr hp g2
          subst h0
          have c1 : wr.cell? ⟨wo.heap.size, 1, none⟩ = some (.int .i64 (e : Int)) := block_cell HX.out 1
          have f1 : wr.frozen? ⟨wo.heap.size, 1, none⟩ = false := block_free HX.out 1
          have hset : (wr.setCell ⟨wo.heap.size, 1, none⟩ (.int .i64 ((e : Int) + 1))).heap[wo.heap.size]? = some (.cells #[.int .i64 d, .int .i64 ((e : Int) + 1)] 126 (0, 0)) := block_set HX.out 1 _
          have HSET := Lib.hid hset
          have hbi2 := Lib.hid (hbi.setCell (p := ⟨wo.heap.size, 1, none⟩) (Nat.le_refl _) (.int .i64 ((e : Int) + 1)))
          clear hset
          go_wp2_with fail
          go_roundw
          case rel => exact ⟨p, e + 1, rfl, g1, by omega, by omega, G2.out, HR2.out, HSET.out, hbi2.out⟩
          case measure => simp [intOf]; omega
        · have hME : (m, e) = (M, E) := by
            have := HR.out
            rw [show 25 - e = (24 - e) + 1 by omega, stripF, if_neg (by rw [hr]; exact h0)] at this
            exact this
          simp only [Prod.mk.injEq] at hME
          obtain ⟨rfl, rfl⟩ := hME
          have h0' : ((r : Int) == 0) = false := bno (by omega)
          have HUN := Lib.hid (fac_unfold_le (n := n) hd2 (by rw [HQ.out]; exact hle) HS.out)
          have hown := own_later3 HO.out hbi
          have c0 : wr.cell? ⟨wo.heap.size, 0, none⟩ = some (.int .i64 (d : Int)) := block_cell HX.out 0
          have c1 : wr.cell? ⟨wo.heap.size, 1, none⟩ = some (.int .i64 (e : Int)) := block_cell HX.out 1
          have hb3 := chain hbel hbi
          have hbs3 := hb3.size
          have HME : Hid (m % d ≠ 0) := by unfold Hid; rw [hr]; exact h0
          clear hr
          by_cases he : e = 0
          · have t1 : ((e : Int) == 0) = true := btrue (by omega)
            have HE := Lib.hid he
            have HOW := Lib.hid hown
            clear he hown
            go_wp2_with fail
            go_roundw
            case rel => exact ⟨m, d + 1, acc, hm1, by omega, by omega, by omega, rfl, by go_num, by omega, by have := HF.out; rw [HUN.out, if_pos HE.out] at this; exact this, HOW.out, hb3⟩
            case measure => simp [intOf]; omega
          · have t1 : ((e : Int) == 0) = false := bno (by omega)
            have HE := Lib.hid he
            clear he
            go_wp2_with (at_builtin; refine wpList_append_own _ rfl _ _ 123 rfl w.heap.size 126 i0 (.agg #[.int .i64 0, .int .i64 0]) 2 16 Tryz.underlying123 hi hz0 hz1 hz2 rfl (by decide) _ acc.length (cellsP acc) rfl (hown.alloc _) ⟨wr.heap.size, 0, none⟩ 1 1 [.int .i64 d, .int .i64 e] rfl rfl (cell_two_new _ _ _ _) (one_two _ _) (by unfold maxLen; omega) (by omega) (by simp; omega) ?_)
            intro v' w2 hown2 hgrow _
            have HOW : Hid (w2.ownsRow w.heap.size 126 2 v' (acc ++ [(d, e)]).length (cellsP (acc ++ [(d, e)]))) := by unfold Hid; rw [cellsP_snoc, List.length_append, List.length_singleton]; exact hown2
            have hb4 : Below w.heap.size w w2 := below_grown hb3 hbs3 (own_lt3 hown) hgrow
            have hlen : (acc ++ [(d, e)]).length ≤ d + 1 := by simp; omega
            clear hown hown2 hgrow
            go_wp2_with fail
            go_roundw
            case rel => exact ⟨m, d + 1, acc ++ [(d, e)], hm1, by omega, by omega, by omega, rfl, by go_num, hlen, by have := HF.out; rw [HUN.out, if_neg HE.out] at this; unfold Hid; rw [List.append_assoc]; exact this, HOW.out, hb4⟩
            case measure => simp [intOf]; omega
    · have HUN := Lib.hid (fac_unfold_gt (n := n) hd2 (by rw [hq]; exact hle))
      have hbs := hbel.size
      clear hq
      by_cases hn : 1 < n
      · have hown := HO.out
        have HN := Lib.hid hn
        go_wp2_with (at_builtin; refine wpList_append_own _ rfl _ _ 123 rfl w.heap.size 126 i0 (.agg #[.int .i64 0, .int .i64 0]) 2 16 Tryz.underlying123 hi hz0 hz1 hz2 rfl (by decide) _ acc.length (cellsP acc) rfl (hown.alloc _) ⟨wr.heap.size, 0, none⟩ 1 1 [.int .i64 n, .int .i64 1] rfl rfl (cell_two_new _ _ _ _) (one_two _ _) (by unfold maxLen; omega) (by omega) (by simp; omega) ?_)
        intro v' w2 hown2 hgrow _
        have HPE : Hid (acc ++ [(n, 1)] = PS) := by have := HF.out; rw [HUN.out, if_pos hn] at this; exact this
        have HOW : Hid (w2.ownsRow w.heap.size 126 2 v' PS.length (cellsP PS)) := by unfold Hid; rw [← HPE.out, cellsP_snoc, List.length_append, List.length_singleton]; exact hown2
        have hb4 : Below w.heap.size w w2 := below_grown hbel hbs (own_lt3 hown) hgrow
        clear hown hown2 hgrow
        go_wp2_with fail
        rw [Exit.noGoto_ret]
        go_ret2
        exact ⟨v', rfl, HOW.out, hb4⟩
      · have HPE : Hid (acc = PS) := by have := HF.out; rw [HUN.out, if_neg hn, List.append_nil] at this; exact this
        have HOW := HO.out
        rw [HPE.out] at HOW
        have HOW := Lib.hid HOW
        go_wp2_with fail
        rw [Exit.noGoto_ret]
        go_ret2
        exact ⟨_, rfl, HOW.out, hbel⟩
theorem fact_Factors_no (n : Int) (w : World) (h : n < 1 ∨ 16777216 < n) :
    Calls Tryz.prog 123 #[.int .i64 n] w fun e w' => e = .returned (.tuple #[.slice none 0 0, .int .i64 3]) ∧ w = w' := by
  have C1 : Hid (∀ W, Calls Tryz.prog 144 #[.int .i64 n] W fun e w' => e = .returned (.bool false) ∧ W = w') := fun W => there_no n W h
  clear h
  go_enter Tryz.func123, Tryz.ntmps123
  go_wp2_with fail
  go_step3
  go_wp2_with fail
  refine (C1.out _).mono ?_; rintro e w' ⟨rfl, rfl⟩
  go_wp2_with fail
  rw [Exit.noGoto_ret]
  go_ret2
  exact ⟨rfl, rfl⟩
theorem own_slice2 {w : World} {B : Nat} {e : TypeId} {v : Value} {n s : Nat} {xs : List Value} (h : w.ownsRow B e s v n xs) : ∃ a cap, v = .slice a n cap ∧ OkCap a n cap ∧ (0 < n → ∃ g, a = some ⟨g, 0, none⟩) := by
  rcases h.2 with ⟨rfl, h0⟩ | ⟨g, cap, cur, rfl, _, _, hc, _⟩
  · exact ⟨none, 0, by rw [h0], ⟨by omega, fun _ => rfl⟩, fun h => by omega⟩
  · exact ⟨_, _, rfl, ⟨hc, fun h => by cases h⟩, fun _ => ⟨g, rfl⟩⟩
set_option maxHeartbeats 1000000 in
theorem fact_Prime (n : Int) (w : World) (hn : -9223372036854775808 ≤ n ∧ n < 9223372036854775808) :
    Calls Tryz.prog 97 #[.int .i64 n] w fun e w' => e = .returned (.bool (isPr n)) ∧ Below w.heap.size w w' := by
  by_cases h : n < 1 ∨ 16777216 < n
  · have C1 : Hid (∀ W, Calls Tryz.prog 123 #[.int .i64 n] W fun e w' => e = .returned (.tuple #[.slice none 0 0, .int .i64 3]) ∧ W = w') := fun W => fact_Factors_no n W h
    have HP : Hid (isPr n = false) := by unfold Hid isPr; rw [show decide (1 ≤ n ∧ n ≤ 16777216) = false by simp; omega, Bool.false_and]
    clear h
    go_enter Tryz.func97, Tryz.ntmps97
    go_wp2_with fail
    refine (C1.out _).mono ?_; rintro e w' ⟨rfl, rfl⟩
    go_wp2_with fail
    go_ret
    exact ⟨ret_bool HP.out.symm, Below.refl _ _⟩
  · obtain ⟨N, rfl⟩ := Int.eq_ofNat_of_zero_le (show 0 ≤ n by omega)
    have C1 := Lib.hid (fact_Factors N w (by omega) (by omega))
    have HP := Lib.hid (isPr_nat N (by omega) (by omega))
    obtain ⟨ps, hps⟩ : ∃ ps, facL N = ps := ⟨_, rfl⟩
    rw [hps] at C1 HP
    clear hps h hn
    go_enter Tryz.func97, Tryz.ntmps97
    go_wp2_with fail
    refine C1.out.mono ?_; rintro e w1 ⟨v, rfl, hown, hb⟩
    obtain ⟨a, cap, rfl, hcap, hg⟩ := own_slice2 hown
    match ps, hg, hown, HP with
    | [], hg, hown, HP =>
      clear hown hg
      go_wp2_with fail
      go_ret
      exact ⟨ret_bool (by rw [HP.out]; rfl), hb⟩
    | [(p, x)], hg, hown, HP =>
      obtain ⟨g, rfl⟩ := hg (by simp)
      have hc : w1.cell? ⟨g, 1, none⟩ = some (.int .i64 (x : Int)) := hown.cellAt 1 (by simp)
      clear hown hg hcap
      by_cases hx : x = 1
      · have t1 : ((x : Int) == 1) = true := btrue (by omega)
        have HX := Lib.hid hx
        clear hx
        go_wp2_with fail
        go_ret
        exact ⟨ret_bool (by rw [HP.out, HX.out]; rfl), hb⟩
      · have t1 : ((x : Int) == 1) = false := bno (by omega)
        have HX := Lib.hid hx
        clear hx
        go_wp2_with fail
        go_ret
        exact ⟨ret_bool (by rw [HP.out]; simp only [prB]; split <;> simp_all [Hid]), hb⟩
    | p :: q :: r, hg, hown, HP =>
      have t1 : ((((p :: q :: r).length : Nat) : Int) == 1) = false := bno (by simp; omega)
      obtain ⟨L, hL⟩ : ∃ L, (p :: q :: r).length = L := ⟨_, rfl⟩
      rw [hL] at t1 ⊢
      clear hown hg hL hcap
      go_wp2_with fail
      go_ret
      exact ⟨ret_bool (by rw [HP.out]; obtain ⟨a, b⟩ := p; simp [prB]), hb⟩
end Go.Proofs.YtlnlijeamflpiaaGreat

namespace Go.Proofs.YtlnlijeamflpiaaGreat
open Go.RowKit
set_option linter.unusedVariables false
set_option linter.unusedSimpArgs false
set_option maxRecDepth 100000
theorem IsT.knum {w : World} {F : Nat → Prop} {k n : Int} {a : Option Addr} {m cap : Nat} {t : Tr} (h : IsT w F k n a m cap t) (i : Nat) (hi : i < m) :
    ∃ b off, a = some ⟨b, off, none⟩ ∧ b < w.heap.size ∧ w.cell? ⟨b, off + i * 3 + 1, none⟩ = some (.int .i64 (Tr.kid t.kids i).num) ∧ -9223372036854775808 ≤ (Tr.kid t.kids i).num ∧ (Tr.kid t.kids i).num < 9223372036854775808 := by
  obtain ⟨b, off, k', n', a', m', c', ha, hF, hlt, h0, h1, h2, hT⟩ := h.kid i hi
  have e := hT.en
  subst e
  exact ⟨b, off, ha, hlt, h1, hT.fn⟩
set_option maxHeartbeats 4000000 in
theorem valid_sides (t : Tr) (k n : Int) (a : Option Addr) (m cap : Nat) (w : World) (F : Nat → Prop) (hT : IsT w F k n a m cap t) :
    Calls Tryz.prog 164 #[.agg #[.int .i64 k, .int .i64 n, .slice a m cap]] w fun e w' => e = .returned (.bool (sidesB t.num t.kids.length (Tr.kid t.kids 0).num (Tr.kid t.kids 1).num)) ∧ Below w.heap.size w w' := by
  have hn := hT.fn
  have en := hT.en
  have em := hT.em
  by_cases hm : m = 2
  · by_cases hs : hasSz n = true
    · obtain ⟨b, off, rfl, hbl, c0, d0⟩ := hT.knum 0 (by omega)
      obtain ⟨b', off', ha, _, c1, d1⟩ := hT.knum 1 (by omega)
      simp only [Option.some.injEq, Addr.mk.injEq, and_true] at ha
      obtain ⟨rfl, rfl⟩ := ha
      have hb := hasSz_bd hs
      have HS : Hid (∀ W, Calls Tryz.prog 41 #[.int .i64 n] W fun e w' => e = .returned (.bool true) ∧ W = w') := fun W => rootHas_yes n W hs
      have HB : Hid (sidesB t.num t.kids.length (Tr.kid t.kids 0).num (Tr.kid t.kids 1).num = decide (2 ≤ (Tr.kid t.kids 0).num ∧ 2 ≤ (Tr.kid t.kids 1).num ∧ (Tr.kid t.kids 0).num ≤ n ∧ (Tr.kid t.kids 1).num ≤ n ∧ (Tr.kid t.kids 0).num * (Tr.kid t.kids 1).num = n)) := by
        unfold Hid sidesB
        rw [← en, ← em, hs, Bool.and_true, hm]
        simp
      rw [HB.out]
      clear HB
      obtain ⟨k0, hk0⟩ : ∃ x, (Tr.kid t.kids 0).num = x := ⟨_, rfl⟩
      obtain ⟨k1, hk1⟩ : ∃ x, (Tr.kid t.kids 1).num = x := ⟨_, rfl⟩
      rw [hk0] at c0 d0 ⊢
      rw [hk1] at c1 d1 ⊢
      clear hk0 hk1 en em hT hs
      subst hm
      rw [Nat.zero_mul, Nat.add_zero] at c0
      rw [Nat.one_mul] at c1
      have c0' := (cell_past w (.cells #[.int .i64 k, .int .i64 n, .slice (some ⟨b, off, none⟩) 2 cap] 48) ⟨b, off + 1, none⟩ hbl).trans c0
      have c1' := (cell_past w (.cells #[.int .i64 k, .int .i64 n, .slice (some ⟨b, off, none⟩) 2 cap] 48) ⟨b, off + 3 + 1, none⟩ hbl).trans c1
      rcases (show ¬ 2 ≤ k0 ∨ (2 ≤ k0 ∧ ¬ 2 ≤ k1) ∨ (2 ≤ k0 ∧ 2 ≤ k1 ∧ ¬ k0 ≤ n) ∨ (2 ≤ k0 ∧ 2 ≤ k1 ∧ k0 ≤ n ∧ ¬ k1 ≤ n) ∨ (2 ≤ k0 ∧ 2 ≤ k1 ∧ k0 ≤ n ∧ k1 ≤ n) by omega) with h | ⟨h, h2⟩ | ⟨h, h2, h3⟩ | ⟨h, h2, h3, h4⟩ | ⟨h, h2, h3, h4⟩
      case' inr.inr.inr.inr =>
        obtain ⟨P, hP⟩ : ∃ P, k0 * k1 = P := ⟨_, rfl⟩
        have p1 : 0 ≤ P := by rw [← hP]; exact Int.mul_nonneg (by omega) (by omega)
        have p2 : P ≤ 16777216 * 16777216 := by rw [← hP]; exact Int.mul_le_mul (by omega) (by omega) (by omega) (by omega)
        rw [hP]
      all_goals
        go_enter Tryz.func164, Tryz.ntmps164
        go_wp2_with fail
        refine (HS.out _).mono ?_; rintro e w1 ⟨rfl, rfl⟩
        go_wp2_with fail
        go_quiet (fail)
        go_wp2_with fail
        go_ret
        exact ⟨ret_bool (by first | (simp; omega) | (simp; done) | (rw [Bool.eq_iff_iff]; simp [h, h2, h3, h4])), below_drewN ((Below.refl _ _).alloc (Nat.le_refl _) _) _⟩
    · have HS : Hid (∀ W, Calls Tryz.prog 41 #[.int .i64 n] W fun e w' => e = .returned (.bool false) ∧ W = w') := fun W => rootHas_no n W (by simpa using hs) hn
      have HB : Hid (sidesB t.num t.kids.length (Tr.kid t.kids 0).num (Tr.kid t.kids 1).num = false) := by
        unfold Hid sidesB
        rw [← en, show hasSz n = false by simpa using hs, Bool.and_false]
      rw [HB.out]
      subst hm
      clear HB hT en em hs
      go_enter Tryz.func164, Tryz.ntmps164
      go_wp2_with fail
      refine (HS.out _).mono ?_; rintro e w1 ⟨rfl, rfl⟩
      go_wp2_with fail
      go_ret
      exact ⟨rfl, (Below.refl _ _).alloc (Nat.le_refl _) _⟩
  · have HB : Hid (sidesB t.num t.kids.length (Tr.kid t.kids 0).num (Tr.kid t.kids 1).num = false) := by
      unfold Hid sidesB
      rw [← em, decide_eq_false (by intro h; exact hm h.1), Bool.false_and]
    rw [HB.out]
    have h2 : ((m : Int) != 2) = true := bdiff (by omega)
    clear HB hT en em hm
    go_enter Tryz.func164, Tryz.ntmps164
    go_wp2_with fail
    go_ret
    exact ⟨rfl, (Below.refl _ _).alloc (Nat.le_refl _) _⟩
/-- The two tests that a single child is put to. -/
theorem valid_Node1 (bd : Nat) (k n x : Int) (a : Option Addr) (m cap : Nat) (w : World) (hb : w.heap[bd]? = some (.cells #[.int .i64 k, .int .i64 n, .slice a m cap] 48 (0, 0))) (hn : 1 ≤ n ∧ n ≤ 16777216) :
    Calls Tryz.prog 166 #[.int .i64 x, .pointer (some ⟨bd, 0, none⟩)] w fun e w' => e = .returned (.bool (decide (x = n - 1))) ∧ w = w' := by
  have c1 := block_cell hb 1
  simp at c1
  clear hb
  by_cases h : x = n - 1
  · have h' : (x == n - 1) = true := btrue h
    go_enter Tryz.func166, Tryz.ntmps166
    go_wp2_with fail
    go_ret
    exact ⟨ret_bool (by simp; try omega), rfl⟩
  · have h' : (x == n - 1) = false := bno h
    go_enter Tryz.func166, Tryz.ntmps166
    go_wp2_with fail
    go_ret
    exact ⟨ret_bool (by simp; try omega), rfl⟩
theorem valid_Node2 (bd : Nat) (k n x : Int) (a : Option Addr) (m cap : Nat) (w : World) (hb : w.heap[bd]? = some (.cells #[.int .i64 k, .int .i64 n, .slice a m cap] 48 (0, 0))) (hn : 1 ≤ n ∧ n ≤ 16777216) (hx : -9223372036854775808 ≤ x ∧ x < 9223372036854775808) :
    Calls Tryz.prog 167 #[.int .i64 x, .pointer (some ⟨bd, 0, none⟩)] w fun e w' => e = .returned (.bool (decide (2 * n - 1 ≤ x) && hasP2 x)) ∧ w = w' := by
  have c1 := block_cell hb 1
  simp at c1
  have HS : Hid (∀ W, Calls Tryz.prog 121 #[.int .i64 x] W fun e w' => e = .returned (.bool (hasP2 x)) ∧ W = w') := fun W => stock_Has x W ⟨hx.1, by omega⟩
  obtain ⟨B, hB⟩ : ∃ B, hasP2 x = B := ⟨_, rfl⟩
  rw [hB] at HS ⊢
  clear hb hB
  by_cases h : 2 * n - 1 ≤ x
  · have h' : decide (x ≥ 2 * n - 1) = true := by simp; omega
    have h'' : decide (2 * n - 1 ≤ x) = true := by simp; omega
    go_enter Tryz.func167, Tryz.ntmps167
    go_wp2_with fail
    refine (HS.out _).mono ?_; rintro e w1 ⟨rfl, rfl⟩
    go_wp2_with fail
    go_ret
    exact ⟨ret_bool (by first | rfl | (rw [h'']; simp)), rfl⟩
  · have h' : decide (x ≥ 2 * n - 1) = false := by simp; omega
    have h'' : decide (2 * n - 1 ≤ x) = false := by simp; omega
    go_enter Tryz.func167, Tryz.ntmps167
    go_wp2_with fail
    go_ret
    exact ⟨ret_bool (by first | rfl | (rw [h'']; simp)), rfl⟩
/-- What the one child is asked. -/
def oneB (n : Int) (m : Nat) (P : Bool) : Bool := decide (m = 1) && hasSz n && P
set_option maxHeartbeats 2000000 in
theorem valid_single (f : Nat) (bd : Nat) (t : Tr) (k n : Int) (a : Option Addr) (m cap : Nat) (w : World) (F : Nat → Prop) (P : Bool) (hT : IsT w F k n a m cap t)
    (hf : m = 1 → hasSz n = true → ∀ W, Below w.heap.size w W → Calls Tryz.prog f #[.int .i64 (Tr.kid t.kids 0).num, .pointer (some ⟨bd, 0, none⟩)] W fun e w' => e = .returned (.bool P) ∧ W = w')
    (eg : ∀ args w, (callFunc f args).run Tryz.prog w = .ok (.enter f args) w) :
    Calls Tryz.prog 165 #[.agg #[.int .i64 k, .int .i64 n, .slice a m cap], .func (.func f) #[] #[.pointer (some ⟨bd, 0, none⟩)]] w fun e w' => e = .returned (.bool (oneB n m P)) ∧ Below w.heap.size w w' := by
  have hn := hT.fn
  by_cases hm : m = 1
  · by_cases hs : hasSz n = true
    · obtain ⟨b, off, rfl, hbl, c0, d0⟩ := hT.knum 0 (by omega)
      have HS : Hid (∀ W, Calls Tryz.prog 41 #[.int .i64 n] W fun e w' => e = .returned (.bool true) ∧ W = w') := fun W => rootHas_yes n W hs
      have HF := Lib.hid (hf hm hs)
      have HB : Hid (oneB n m P = P) := by unfold Hid oneB; rw [hs, hm]; simp
      rw [HB.out]
      obtain ⟨k0, hk0⟩ : ∃ x, (Tr.kid t.kids 0).num = x := ⟨_, rfl⟩
      rw [hk0] at c0 d0 HF
      subst hm
      rw [Nat.zero_mul, Nat.add_zero] at c0
      have c0' := (cell_past w (.cells #[.int .i64 k, .int .i64 n, .slice (some ⟨b, off, none⟩) 1 cap] 48) ⟨b, off + 1, none⟩ hbl).trans c0
      clear hf hT hs HB hk0 c0
      go_enter Tryz.func165, Tryz.ntmps165
      go_wp2_with fail
      refine (HS.out _).mono ?_; rintro e w1 ⟨rfl, rfl⟩
      go_wp2_with fail
      refine (HF.out _ ((Below.refl _ _).alloc (Nat.le_refl _) _)).mono ?_; rintro e w1 ⟨rfl, rfl⟩
      go_wp2_with fail
      go_ret
      exact ⟨rfl, (Below.refl _ _).alloc (Nat.le_refl _) _⟩
    · have HS : Hid (∀ W, Calls Tryz.prog 41 #[.int .i64 n] W fun e w' => e = .returned (.bool false) ∧ W = w') := fun W => rootHas_no n W (by simpa using hs) hn
      have HB : Hid (oneB n m P = false) := by unfold Hid oneB; rw [show hasSz n = false by simpa using hs]; simp
      rw [HB.out]
      subst hm
      clear HB hT hs hf
      go_enter Tryz.func165, Tryz.ntmps165
      go_wp2_with fail
      refine (HS.out _).mono ?_; rintro e w1 ⟨rfl, rfl⟩
      go_wp2_with fail
      go_ret
      exact ⟨rfl, (Below.refl _ _).alloc (Nat.le_refl _) _⟩
  · have HB : Hid (oneB n m P = false) := by unfold Hid oneB; rw [decide_eq_false hm]; rfl
    rw [HB.out]
    have h2 : ((m : Int) == 1) = false := bno (by omega)
    clear HB hT hm hf
    go_enter Tryz.func165, Tryz.ntmps165
    go_wp2_with fail
    go_ret
    exact ⟨rfl, (Below.refl _ _).alloc (Nat.le_refl _) _⟩
end Go.Proofs.YtlnlijeamflpiaaGreat

namespace Go.Proofs.YtlnlijeamflpiaaGreat
open Go.RowKit
set_option linter.unusedVariables false
set_option linter.unusedSimpArgs false
set_option maxRecDepth 100000
set_option maxRecDepth 20000
set_option maxHeartbeats 4000000 in
theorem valid_Node_leaf (t : Tr) (n : Int) (a : Option Addr) (m cap : Nat) (w : World) (F : Nat → Prop) (k : Int) (hk : k = 1 ∨ k = 2 ∨ k = 3) (hT : IsT w F k n a m cap t) :
    Calls Tryz.prog 142 #[.agg #[.int .i64 k, .int .i64 n, .slice a m cap]] w fun e w' => e = .returned (.bool (nodeOk t)) ∧ Below w.heap.size w w' := by
  have hn := hT.fn
  have en := hT.en
  have em := hT.em
  have ek := hT.ek
  obtain ⟨B, hB⟩ : ∃ B, hasSz n = B := ⟨_, rfl⟩
  have HS : Hid (∀ W, Calls Tryz.prog 41 #[.int .i64 n] W fun e w' => e = .returned (.bool B) ∧ W = w') := fun W => by
    cases B with
    | true => exact rootHas_yes n W hB
    | false => exact rootHas_no n W hB hn
  have HSM : Hid (∀ W, Calls Tryz.prog 120 #[.int .i64 n] W fun e w' => e = .returned (.bool (decide (1 ≤ n ∧ n ≤ 5))) ∧ W = w') := fun W => small_Has n W
  obtain ⟨C, hC⟩ : ∃ C, hasP2 n = C := ⟨_, rfl⟩
  have HST : Hid (∀ W, Calls Tryz.prog 121 #[.int .i64 n] W fun e w' => e = .returned (.bool C) ∧ W = w') := fun W => by rw [← hC]; exact stock_Has n W ⟨hn.1, by omega⟩
  have HN : Hid (nodeOk t = nodeB k n m (Tr.kid t.kids 0).num (Tr.kid t.kids 1).num) := by unfold Hid nodeOk; rw [ek, en, em]
  rw [HN.out]
  clear HN hT en em ek
  rcases hk with rfl | rfl | rfl
  · have HN : Hid (nodeB 1 n m (Tr.kid t.kids 0).num (Tr.kid t.kids 1).num = (decide (m = 0 ∧ n ≤ 64) && B)) := by unfold Hid nodeB; rw [if_pos rfl, hB]
    rw [HN.out]
    clear HN hB hC
    by_cases hm : m = 0
    · subst hm
      cases B with
      | true =>
        by_cases h : n ≤ 64
        all_goals
          go_enter Tryz.func142, Tryz.ntmps142
          go_wp2_with fail
          refine (HS.out _).mono ?_; rintro e w1 ⟨rfl, rfl⟩
          go_wp2_with fail
          go_ret
          exact ⟨ret_bool (by simp [h]), (Below.refl _ _).alloc (Nat.le_refl _) _⟩
      | false =>
        go_enter Tryz.func142, Tryz.ntmps142
        go_wp2_with fail
        refine (HS.out _).mono ?_; rintro e w1 ⟨rfl, rfl⟩
        go_wp2_with fail
        go_ret
        exact ⟨ret_bool (by simp), (Below.refl _ _).alloc (Nat.le_refl _) _⟩
    · have hm' : ((m : Int) == 0) = false := bno (by omega)
      go_enter Tryz.func142, Tryz.ntmps142
      go_wp2_with fail
      go_ret
      exact ⟨ret_bool (by simp [hm]), (Below.refl _ _).alloc (Nat.le_refl _) _⟩
  · have HN : Hid (nodeB 2 n m (Tr.kid t.kids 0).num (Tr.kid t.kids 1).num = decide (m = 0 ∧ 2 ≤ n ∧ n ≤ 5)) := by unfold Hid nodeB; simp
    rw [HN.out]
    clear HN hB hC
    rcases (show (n < 1 ∨ 5 < n) ∨ (1 ≤ n ∧ n ≤ 5) by omega) with h5 | h5
    · have hd : decide (1 ≤ n ∧ n ≤ 5) = false := by simp; omega
      rw [hd] at HSM
      clear hd
      go_enter Tryz.func142, Tryz.ntmps142
      go_wp2_with fail
      refine (HSM.out _).mono ?_; rintro e w1 ⟨rfl, rfl⟩
      go_wp2_with fail
      go_ret
      exact ⟨ret_bool (by simp; omega), (Below.refl _ _).alloc (Nat.le_refl _) _⟩
    · have hd : decide (1 ≤ n ∧ n ≤ 5) = true := by simp; omega
      rw [hd] at HSM
      clear hd
      by_cases hm : m = 0
      · subst hm
        by_cases h2 : 2 ≤ n
        all_goals
          go_enter Tryz.func142, Tryz.ntmps142
          go_wp2_with fail
          refine (HSM.out _).mono ?_; rintro e w1 ⟨rfl, rfl⟩
          go_wp2_with fail
          go_ret
          exact ⟨ret_bool (by simp; try omega), (Below.refl _ _).alloc (Nat.le_refl _) _⟩
      · have hm' : ((m : Int) == 0) = false := bno (by omega)
        go_enter Tryz.func142, Tryz.ntmps142
        go_wp2_with fail
        refine (HSM.out _).mono ?_; rintro e w1 ⟨rfl, rfl⟩
        go_wp2_with fail
        go_ret
        exact ⟨ret_bool (by simp [hm]), (Below.refl _ _).alloc (Nat.le_refl _) _⟩
  · have HN : Hid (nodeB 3 n m (Tr.kid t.kids 0).num (Tr.kid t.kids 1).num = (decide (m = 0 ∧ 2 ≤ n) && C)) := by unfold Hid nodeB; simp [hC]
    rw [HN.out]
    clear HN hB hC
    by_cases hm : m = 0
    · subst hm
      by_cases h2 : 2 ≤ n
      · go_enter Tryz.func142, Tryz.ntmps142
        go_wp2_with fail
        refine (HST.out _).mono ?_; rintro e w1 ⟨rfl, rfl⟩
        go_wp2_with fail
        go_ret
        exact ⟨ret_bool (by first | (simp [h2]; done) | (simp; intros; omega)), (Below.refl _ _).alloc (Nat.le_refl _) _⟩
      · go_enter Tryz.func142, Tryz.ntmps142
        go_wp2_with fail
        go_ret
        exact ⟨ret_bool (by first | (simp [h2]; done) | (simp; intros; omega)), (Below.refl _ _).alloc (Nat.le_refl _) _⟩
    · have hm' : ((m : Int) == 0) = false := bno (by omega)
      go_enter Tryz.func142, Tryz.ntmps142
      go_wp2_with fail
      go_ret
      exact ⟨ret_bool (by simp [hm]), (Below.refl _ _).alloc (Nat.le_refl _) _⟩
set_option maxHeartbeats 4000000 in
theorem valid_Node_4 (t : Tr) (n : Int) (a : Option Addr) (m cap : Nat) (w : World) (F : Nat → Prop) (hT : IsT w F 4 n a m cap t) :
    Calls Tryz.prog 142 #[.agg #[.int .i64 4, .int .i64 n, .slice a m cap]] w fun e w' => e = .returned (.bool (nodeOk t)) ∧ Below w.heap.size w w' := by
  have HV : Hid (∀ W, Below w.heap.size w W → Calls Tryz.prog 164 #[.agg #[.int .i64 4, .int .i64 n, .slice a m cap]] W fun e w' => e = .returned (.bool (sidesB t.num t.kids.length (Tr.kid t.kids 0).num (Tr.kid t.kids 1).num)) ∧ Below W.heap.size W w') := fun W hb => valid_sides t 4 n a m cap W F (hT.below hb)
  have HN : Hid (nodeOk t = sidesB t.num t.kids.length (Tr.kid t.kids 0).num (Tr.kid t.kids 1).num) := by unfold Hid nodeOk nodeB; rw [← hT.ek]; simp
  rw [HN.out]
  clear HN hT
  go_enter Tryz.func142, Tryz.ntmps142
  go_wp2_with fail
  refine (HV.out _ ((Below.refl _ _).alloc (Nat.le_refl _) _)).mono ?_; rintro e w1 ⟨rfl, hb⟩
  go_wp2_with fail
  go_ret
  exact ⟨rfl, chainA (Below.refl _ _) hb⟩
set_option maxHeartbeats 4000000 in
theorem valid_Node_5 (t : Tr) (n : Int) (a : Option Addr) (m cap : Nat) (w : World) (F : Nat → Prop) (hT : IsT w F 5 n a m cap t) :
    Calls Tryz.prog 142 #[.agg #[.int .i64 5, .int .i64 n, .slice a m cap]] w fun e w' => e = .returned (.bool (nodeOk t)) ∧ Below w.heap.size w w' := by
  have HN : Hid (nodeOk t = (sidesB t.num t.kids.length (Tr.kid t.kids 0).num (Tr.kid t.kids 1).num && decide (gcdI (Tr.kid t.kids 0).num (Tr.kid t.kids 1).num = 1))) := by unfold Hid nodeOk nodeB; rw [← hT.ek]; simp
  rw [HN.out]
  clear HN
  by_cases hm : m = 2
  · have HV : Hid (∀ W, Below w.heap.size w W → Calls Tryz.prog 164 #[.agg #[.int .i64 5, .int .i64 n, .slice a m cap]] W fun e w' => e = .returned (.bool (sidesB t.num t.kids.length (Tr.kid t.kids 0).num (Tr.kid t.kids 1).num)) ∧ Below W.heap.size W w') := fun W hb => valid_sides t 5 n a m cap W F (hT.below hb)
    obtain ⟨b, off, rfl, hbl, c0, d0⟩ := hT.knum 0 (by omega)
    obtain ⟨b', off', ha, _, c1, d1⟩ := hT.knum 1 (by omega)
    simp only [Option.some.injEq, Addr.mk.injEq, and_true] at ha
    obtain ⟨rfl, rfl⟩ := ha
    obtain ⟨S, hS⟩ : ∃ S, sidesB t.num t.kids.length (Tr.kid t.kids 0).num (Tr.kid t.kids 1).num = S := ⟨_, rfl⟩
    rw [hS] at HV ⊢
    obtain ⟨k0, hk0⟩ : ∃ x, (Tr.kid t.kids 0).num = x := ⟨_, rfl⟩
    obtain ⟨k1, hk1⟩ : ∃ x, (Tr.kid t.kids 1).num = x := ⟨_, rfl⟩
    rw [hk0] at c0 d0 ⊢
    rw [hk1] at c1 d1 ⊢
    have HG : Hid (∀ W, Calls Tryz.prog 163 #[.int .i64 k0, .int .i64 k1] W fun e w' => e = .returned (.int .i64 (gcdI k0 k1)) ∧ Below W.heap.size W w') := fun W => factGcdI k0 k1 W d0 d1
    obtain ⟨G, hG⟩ : ∃ G, gcdI k0 k1 = G := ⟨_, rfl⟩
    rw [hG] at HG ⊢
    clear hk0 hk1 hS hG hT
    subst hm
    rw [Nat.zero_mul, Nat.add_zero] at c0
    rw [Nat.one_mul] at c1
    have c0' := (cell_past w (.cells #[.int .i64 5, .int .i64 n, .slice (some ⟨b, off, none⟩) 2 cap] 48) ⟨b, off + 1, none⟩ hbl).trans c0
    have c1' := (cell_past w (.cells #[.int .i64 5, .int .i64 n, .slice (some ⟨b, off, none⟩) 2 cap] 48) ⟨b, off + 3 + 1, none⟩ hbl).trans c1
    have hx : (w.alloc (.cells #[.int .i64 5, .int .i64 n, .slice (some ⟨b, off, none⟩) 2 cap] 48)).heap[w.heap.size]? = some (.cells #[.int .i64 5, .int .i64 n, .slice (some ⟨b, off, none⟩) 2 cap] 48 (0, 0)) := block_new rfl
    have hbw : Below w.heap.size w (w.alloc (.cells #[.int .i64 5, .int .i64 n, .slice (some ⟨b, off, none⟩) 2 cap] 48)) := (Below.refl _ _).alloc (Nat.le_refl _) _
    obtain ⟨W0, hW0⟩ : ∃ W0, w.alloc (.cells #[.int .i64 5, .int .i64 n, .slice (some ⟨b, off, none⟩) 2 cap] 48) = W0 := ⟨_, rfl⟩
    rw [hW0] at hx c0' c1' hbw
    have y0 := block_cell hx 0
    have y1 := block_cell hx 1
    have y2 := block_cell hx 2
    simp at y0 y1 y2
    have HBW := Lib.hid hbw
    have HW0 := Lib.hid hW0
    have HX := Lib.hid hx
    clear hx hbw hW0 c0 c1
    by_cases hg : G = 1
    · have hg1 : (G == 1) = true := btrue hg
      have HGG := Lib.hid hg
      clear hg
      go_enter Tryz.func142, Tryz.ntmps142
      go_wp2_with fail
      rw [HW0.out]
      go_still_tail 15, (by kernel_rfl)
      go_wp2_with fail
      refine (HG.out _).mono ?_; rintro e w1 ⟨rfl, hb⟩
      have hb1 : Below w.heap.size w w1 := chain HBW.out.drew hb
      have hx1 := (hb.block _ (block_lt HX.out)).trans HX.out
      have x0 := block_cell hx1 0
      have x1 := block_cell hx1 1
      have x2 := block_cell hx1 2
      simp at x0 x1 x2
      have HB1 := Lib.hid hb1
      clear hx1 hb hb1 c0' c1' y0 y1 y2
      go_wp2_with fail
      refine (HV.out _ HB1.out).mono ?_; rintro e w2 ⟨rfl, hb⟩
      have hb2 := chain HB1.out hb
      clear hb
      go_wp2_with fail
      go_ret
      exact ⟨ret_bool (by simp [HGG.out]), hb2⟩
    · have hg1 : (G == 1) = false := bno hg
      have HGG := Lib.hid hg
      clear hg
      go_enter Tryz.func142, Tryz.ntmps142
      go_wp2_with fail
      rw [HW0.out]
      go_still_tail 15, (by kernel_rfl)
      go_wp2_with fail
      refine (HG.out _).mono ?_; rintro e w1 ⟨rfl, hb⟩
      have hb1 : Below w.heap.size w w1 := chain HBW.out.drew hb
      clear hb c0' c1' y0 y1 y2
      go_wp2_with fail
      go_ret
      exact ⟨ret_bool (by simp [HGG.out]), hb1⟩
  · have HB : Hid (sidesB t.num t.kids.length (Tr.kid t.kids 0).num (Tr.kid t.kids 1).num = false) := by
      unfold Hid sidesB
      rw [← hT.em, decide_eq_false (by intro h; exact hm h.1), Bool.false_and]
    rw [HB.out, Bool.false_and]
    have h2 : ((m : Int) == 2) = false := bno (by omega)
    clear HB hT hm
    go_enter Tryz.func142, Tryz.ntmps142
    go_wp2_with fail
    go_quiet (fail)
    go_wp2_with fail
    go_ret
    exact ⟨rfl, below_drewN ((Below.refl _ _).alloc (Nat.le_refl _) _) _⟩
set_option maxHeartbeats 4000000 in
theorem valid_Node_6 (t : Tr) (n : Int) (a : Option Addr) (m cap : Nat) (w : World) (F : Nat → Prop) (hT : IsT w F 6 n a m cap t) :
    Calls Tryz.prog 142 #[.agg #[.int .i64 6, .int .i64 n, .slice a m cap]] w fun e w' => e = .returned (.bool (nodeOk t)) ∧ Below w.heap.size w w' := by
  have hn := hT.fn
  have HN : Hid (nodeOk t = (decide (3 ≤ n) && isPr n && oneB n m (decide ((Tr.kid t.kids 0).num = n - 1)))) := by
    unfold Hid nodeOk nodeB oneB
    rw [← hT.ek, ← hT.en, ← hT.em]
    simp only [if_true, Int.reduceEq, if_false]
    generalize (Tr.kid t.kids 0).num = k0
    cases hasSz n <;> cases isPr n <;> simp only [Bool.and_true, Bool.and_false, Bool.true_and, Bool.false_and] <;> (rw [Bool.eq_iff_iff]; simp only [Bool.and_eq_true, decide_eq_true_eq]; constructor <;> (intro h; omega))
  rw [HN.out]
  have HV : Hid (∀ W, Below w.heap.size w W → W.heap[w.heap.size]? = some (.cells #[.int .i64 6, .int .i64 n, .slice a m cap] 48 (0, 0)) → Calls Tryz.prog 165 #[.agg #[.int .i64 6, .int .i64 n, .slice a m cap], .func (.func 166) #[] #[.pointer (some ⟨w.heap.size, 0, none⟩)]] W fun e w' => e = .returned (.bool (oneB n m (decide ((Tr.kid t.kids 0).num = n - 1)))) ∧ Below W.heap.size W w') := fun W hb hx =>
    valid_single 166 w.heap.size t 6 n a m cap W F _ (hT.below hb) (fun _ hs W' hb' => valid_Node1 w.heap.size 6 n _ a m cap W' ((hb'.block _ (block_lt hx)).trans hx) (hasSz_bd hs)) (enters_of Tryz.func166 (by kernel_rfl) rfl)
  obtain ⟨O, hO⟩ : ∃ O, oneB n m (decide ((Tr.kid t.kids 0).num = n - 1)) = O := ⟨_, rfl⟩
  obtain ⟨P, hP⟩ : ∃ P, isPr n = P := ⟨_, rfl⟩
  have HP : Hid (∀ W, Calls Tryz.prog 97 #[.int .i64 n] W fun e w' => e = .returned (.bool P) ∧ Below W.heap.size W w') := fun W => by rw [← hP]; exact fact_Prime n W hn
  rw [hO] at HV ⊢
  rw [hP]
  clear HN hT hO hP
  have hx : (w.alloc (.cells #[.int .i64 6, .int .i64 n, .slice a m cap] 48)).heap[w.heap.size]? = some (.cells #[.int .i64 6, .int .i64 n, .slice a m cap] 48 (0, 0)) := block_new rfl
  have HX := Lib.hid hx
  clear hx
  by_cases h3 : 3 ≤ n
  · cases P with
    | true =>
      go_enter Tryz.func142, Tryz.ntmps142
      go_wp2_with fail
      refine (HP.out _).mono ?_; rintro e w1 ⟨rfl, hb⟩
      have hb1 : Below w.heap.size w w1 := chainA (Below.refl _ _) hb
      have hx1 := (hb.block _ (block_lt HX.out)).trans HX.out
      have HX1 := Lib.hid hx1
      have x0 := block_cell hx1 0
      have x1 := block_cell hx1 1
      have x2 := block_cell hx1 2
      simp at x0 x1 x2
      have HB1 := Lib.hid hb1
      clear hx1 hb hb1
      go_wp2_with fail
      refine (HV.out _ HB1.out HX1.out).mono ?_; rintro e w2 ⟨rfl, hb⟩
      have hb2 := chain HB1.out hb
      clear hb
      go_wp2_with fail
      go_ret
      exact ⟨ret_bool (by simp [h3]), hb2⟩
    | false =>
      go_enter Tryz.func142, Tryz.ntmps142
      go_wp2_with fail
      refine (HP.out _).mono ?_; rintro e w1 ⟨rfl, hb⟩
      have hb1 : Below w.heap.size w w1 := chainA (Below.refl _ _) hb
      clear hb
      go_wp2_with fail
      go_ret
      exact ⟨ret_bool (by simp), hb1⟩
  · have h3' : n < 3 := by omega
    go_enter Tryz.func142, Tryz.ntmps142
    go_wp2_with fail
    go_ret
    exact ⟨ret_bool (by rw [decide_eq_false (by omega)]; simp), (Below.refl _ _).alloc (Nat.le_refl _) _⟩
set_option maxHeartbeats 4000000 in
theorem valid_Node_7 (t : Tr) (n : Int) (a : Option Addr) (m cap : Nat) (w : World) (F : Nat → Prop) (hT : IsT w F 7 n a m cap t) :
    Calls Tryz.prog 142 #[.agg #[.int .i64 7, .int .i64 n, .slice a m cap]] w fun e w' => e = .returned (.bool (nodeOk t)) ∧ Below w.heap.size w w' := by
  have hn := hT.fn
  have HN : Hid (nodeOk t = (decide (2 ≤ n) && oneB n m (decide (2 * n - 1 ≤ (Tr.kid t.kids 0).num) && hasP2 (Tr.kid t.kids 0).num))) := by
    unfold Hid nodeOk nodeB oneB
    rw [← hT.ek, ← hT.en, ← hT.em]
    simp only [if_true, Int.reduceEq, if_false]
    generalize hasP2 (Tr.kid t.kids 0).num = H
    generalize (Tr.kid t.kids 0).num = k0
    cases hasSz n <;> cases H <;> simp only [Bool.and_true, Bool.and_false, Bool.true_and, Bool.false_and] <;> (rw [Bool.eq_iff_iff]; simp only [Bool.and_eq_true, decide_eq_true_eq]; constructor <;> (intro h; omega))
  rw [HN.out]
  have HV : Hid (∀ W, Below w.heap.size w W → W.heap[w.heap.size]? = some (.cells #[.int .i64 7, .int .i64 n, .slice a m cap] 48 (0, 0)) → Calls Tryz.prog 165 #[.agg #[.int .i64 7, .int .i64 n, .slice a m cap], .func (.func 167) #[] #[.pointer (some ⟨w.heap.size, 0, none⟩)]] W fun e w' => e = .returned (.bool (oneB n m (decide (2 * n - 1 ≤ (Tr.kid t.kids 0).num) && hasP2 (Tr.kid t.kids 0).num))) ∧ Below W.heap.size W w') := fun W hb hx =>
    valid_single 167 w.heap.size t 7 n a m cap W F _ (hT.below hb) (fun hm hs W' hb' => by
      obtain ⟨_, _, _, _, _, d0⟩ := hT.knum 0 (by omega)
      exact valid_Node2 w.heap.size 7 n _ a m cap W' ((hb'.block _ (block_lt hx)).trans hx) (hasSz_bd hs) d0) (enters_of Tryz.func167 (by kernel_rfl) rfl)
  obtain ⟨O, hO⟩ : ∃ O, oneB n m (decide (2 * n - 1 ≤ (Tr.kid t.kids 0).num) && hasP2 (Tr.kid t.kids 0).num) = O := ⟨_, rfl⟩
  rw [hO] at HV ⊢
  clear HN hT hO
  have hx : (w.alloc (.cells #[.int .i64 7, .int .i64 n, .slice a m cap] 48)).heap[w.heap.size]? = some (.cells #[.int .i64 7, .int .i64 n, .slice a m cap] 48 (0, 0)) := block_new rfl
  have HX := Lib.hid hx
  clear hx
  by_cases h3 : 2 ≤ n
  · skip
    go_enter Tryz.func142, Tryz.ntmps142
    go_wp2_with fail
    refine (HV.out _ ((Below.refl _ _).alloc (Nat.le_refl _) _) HX.out).mono ?_; rintro e w2 ⟨rfl, hb⟩
    have hb2 := chainA (Below.refl w.heap.size w) hb
    clear hb
    go_wp2_with fail
    go_ret
    exact ⟨ret_bool (by simp [h3]), hb2⟩
  · have h3' : n < 2 := by omega
    go_enter Tryz.func142, Tryz.ntmps142
    go_wp2_with fail
    go_ret
    exact ⟨ret_bool (by rw [decide_eq_false (by omega)]; simp), (Below.refl _ _).alloc (Nat.le_refl _) _⟩
set_option maxHeartbeats 4000000 in
theorem valid_Node_0 (t : Tr) (k n : Int) (a : Option Addr) (m cap : Nat) (w : World) (F : Nat → Prop) (hT : IsT w F k n a m cap t) (h : k < 1 ∨ 7 < k) :
    Calls Tryz.prog 142 #[.agg #[.int .i64 k, .int .i64 n, .slice a m cap]] w fun e w' => e = .returned (.bool (nodeOk t)) ∧ Below w.heap.size w w' := by
  have HN : Hid (nodeOk t = false) := by
    unfold Hid nodeOk nodeB
    rw [← hT.ek, if_neg (by omega), if_neg (by omega), if_neg (by omega), if_neg (by omega), if_neg (by omega), if_neg (by omega), if_neg (by omega)]
  rw [HN.out]
  have e1 : (k == 1) = false := bno (by omega)
  have e2 : (k == 2) = false := bno (by omega)
  have e3 : (k == 3) = false := bno (by omega)
  have e4 : (k == 4) = false := bno (by omega)
  have e5 : (k == 5) = false := bno (by omega)
  have e6 : (k == 6) = false := bno (by omega)
  have e7 : (k == 7) = false := bno (by omega)
  clear HN hT h
  go_enter Tryz.func142, Tryz.ntmps142
  go_wp2_with fail
  go_ret
  exact ⟨rfl, (Below.refl _ _).alloc (Nat.le_refl _) _⟩
theorem valid_Node (t : Tr) (k n : Int) (a : Option Addr) (m cap : Nat) (w : World) (F : Nat → Prop) (hT : IsT w F k n a m cap t) :
    Calls Tryz.prog 142 #[.agg #[.int .i64 k, .int .i64 n, .slice a m cap]] w fun e w' => e = .returned (.bool (nodeOk t)) ∧ Below w.heap.size w w' := by
  by_cases h : k < 1 ∨ 7 < k
  · exact valid_Node_0 t k n a m cap w F hT h
  · rcases (show k = 1 ∨ k = 2 ∨ k = 3 ∨ k = 4 ∨ k = 5 ∨ k = 6 ∨ k = 7 by omega) with h | h | h | rfl | rfl | rfl | rfl
    · exact valid_Node_leaf t n a m cap w F k (.inl h) hT
    · exact valid_Node_leaf t n a m cap w F k (.inr (.inl h)) hT
    · exact valid_Node_leaf t n a m cap w F k (.inr (.inr h)) hT
    · exact valid_Node_4 t n a m cap w F hT
    · exact valid_Node_5 t n a m cap w F hT
    · exact valid_Node_6 t n a m cap w F hT
    · exact valid_Node_7 t n a m cap w F hT
end Go.Proofs.YtlnlijeamflpiaaGreat

