/- Sums of the products of two rows, by places modulo n: plain laws; rows of a call's own in a fence. -/
import Derived.Test.YtlgklkhijmeldaaConvA
namespace Go.Proofs.Ytlgklkhijmeldaa
open Go.RowKit Go.Shelf Sm
set_option linter.unusedVariables false
set_option linter.unusedSimpArgs false
set_option maxRecDepth 100000

/-- What the products add up to at a place. -/
def accF (n : Nat) (pre : List Pr) (t : Nat) : Int := pre.foldl (fun s x => if x.1.1 % (n : Int) = (t : Int) then (s + x.1.2) % 18446744069414584321 else s) 0
theorem accF_nil (n t : Nat) : accF n [] t = 0 := rfl
theorem accF_snoc (n : Nat) (pre : List Pr) (x : Pr) (t : Nat) : accF n (pre ++ [x]) t = if x.1.1 % (n : Int) = (t : Int) then (accF n pre t + x.1.2) % 18446744069414584321 else accF n pre t := by
  simp [accF, List.foldl_append]
theorem accF_go (n t : Nat) : ∀ (pre : List Pr) (s : Int), 0 ≤ s ∧ s < 18446744069414584321 → 0 ≤ pre.foldl (fun s x => if x.1.1 % (n : Int) = (t : Int) then (s + x.1.2) % 18446744069414584321 else s) s ∧ pre.foldl (fun s x => if x.1.1 % (n : Int) = (t : Int) then (s + x.1.2) % 18446744069414584321 else s) s < 18446744069414584321
  | [], s, h => h
  | x :: pre, s, h => accF_go n t pre _ (by dsimp only; split <;> omega)
theorem accF_range (n : Nat) (pre : List Pr) (t : Nat) : 0 ≤ accF n pre t ∧ accF n pre t < 18446744069414584321 := accF_go n t pre 0 (by omega)

/-- One product, if it belongs to the place. -/
def cvT (xs ys : List Int) (n t i j : Nat) : Int := if (i + j) % n = t then nth xs i * nth ys j else 0
def cvS (xs ys : List Int) (n t : Nat) : Int := S xs.length (fun i => S ys.length (fun j => cvT xs ys n t i j))
def cvL (xs ys : List Int) (n : Nat) : List Int := (List.range n).map fun t => cvS xs ys n t % 18446744069414584321
theorem cvL_len (xs ys : List Int) (n : Nat) : (cvL xs ys n).length = n := by simp [cvL]
theorem nth_cvL (xs ys : List Int) (n t : Nat) (h : t < n) : nth (cvL xs ys n) t = cvS xs ys n t % 18446744069414584321 := nth_ofFn _ _ _ h
theorem cvL_fits (xs ys : List Int) (n : Nat) : ∀ x ∈ cvL xs ys n, fits .u64 x := modL_fits _

theorem acc_step (xs ys : List Int) (n t i j : Nat) (pre : List Pr) (s : Int) (hij : i + j ≤ 100000) (h : accF n pre t = s % 18446744069414584321) :
    accF n (pre ++ [el xs ys i j]) t = (s + cvT xs ys n t i j) % 18446744069414584321 := by
  rw [accF_snoc, el_val xs ys i j hij]
  unfold cvT
  by_cases he : (i + j) % n = t
  · rw [if_pos he, if_pos (by show ((i : Int) + (j : Int)) % (n : Int) = (t : Int); rw [← Int.natCast_add, ← Int.natCast_emod, he]), h]
    show (s % _ + nth xs i * nth ys j % _) % _ = _
    omega
  · rw [if_neg he, if_neg (by show ¬ ((i : Int) + (j : Int)) % (n : Int) = (t : Int); rw [← Int.natCast_add, ← Int.natCast_emod]; omega), h, Int.add_zero]

theorem acc_row (xs ys : List Int) (n t i : Nat) (s : Int) (hi : i ≤ 50000) (hm : ys.length ≤ 50000) (h : accF n (prodTo xs ys (i * ys.length)) t = s % 18446744069414584321) :
    ∀ j, j ≤ ys.length → accF n (prodTo xs ys (i * ys.length + j)) t = (s + S j (fun j => cvT xs ys n t i j)) % 18446744069414584321 := by
  intro j
  induction j with
  | zero => intro _; simp only [S, Nat.add_zero, Int.add_zero]; exact h
  | succ j ih =>
    intro hj
    have h3 := place_at ys.length i j (by omega)
    rw [← Nat.add_assoc, prodTo_succ xs ys _ i j h3.1 h3.2, acc_step xs ys n t i j _ _ (by omega) (ih (by omega))]
    simp only [S, Int.add_assoc]

theorem acc_rows (xs ys : List Int) (n t : Nat) (hm : ys.length ≤ 50000) : ∀ i, i ≤ 50000 → accF n (prodTo xs ys (i * ys.length)) t = S i (fun i => S ys.length (fun j => cvT xs ys n t i j)) % 18446744069414584321 := by
  intro i
  induction i with
  | zero => intro _; rw [Nat.zero_mul]; rfl
  | succ i ih =>
    intro hi
    rw [Nat.add_mul, Nat.one_mul, acc_row xs ys n t i _ (by omega) hm (ih (by omega)) _ (Nat.le_refl _)]
    rfl
theorem acc_all (xs ys : List Int) (n t : Nat) (h1 : xs.length ≤ 50000) (hm : ys.length ≤ 50000) : accF n (prodL xs ys) t = cvS xs ys n t % 18446744069414584321 := acc_rows xs ys n t hm xs.length h1

/-! ### A row of the call's own, in a fence -/
theorem OwnAt.heap {k : IntKind} {e : TypeId} {w wr : World} {g n : Nat} {f : Nat → Int} (h : OwnAt k e w wr g n f) :
    wr.heap[g]? = some (.cells ((List.range n).map fun j => Value.int k (f j)).toArray e (0, 0)) := by
  obtain ⟨hl, h1 | ⟨g', cap, cur, hv, hg, hc, hcap, hm, hs, ht⟩⟩ := h.own
  · cases h1.1
  · simp only [Value.slice.injEq, Option.some.injEq, Addr.mk.injEq] at hv
    obtain ⟨⟨rfl, _, _⟩, _, rfl⟩ := hv
    rw [hc, ← ht, List.take_of_length_le (by simp; omega)]
theorem OwnAt.of_heap {k : IntKind} {e : TypeId} {w wr : World} {g n : Nat} {f : Nat → Int} (hg : w.heap.size ≤ g) (hm : n ≤ maxLen) (hb : Below w.heap.size w wr)
    (h : wr.heap[g]? = some (.cells ((List.range n).map fun j => Value.int k (f j)).toArray e (0, 0))) : OwnAt k e w wr g n f :=
  ⟨⟨by simp, .inr ⟨g, n, _, rfl, hg, h, Nat.le_refl _, hm, by simp, by rw [List.take_of_length_le (by simp)]⟩⟩, hb⟩

theorem ownAt_from {β : Type} (B : Nat) (k : IntKind) (e : TypeId) (w : World) (g n : Nat) (f : β → Nat → Int) (hB : w.heap.size ≤ B) (hn : n ≤ maxLen) : OwnFrom B (fun s W => OwnAt k e w W g n (f s)) :=
  fun s A C row hs hg hr => by
    have hh := hs.heap
    have hh' : C.heap[g]? = some (.cells ((List.range n).map fun j => Value.int k (f s j)).toArray e (0, 0)) :=
      (hg.block g (Array.getElem?_eq_some_iff.1 hh).1 (fun e => by
        obtain ⟨o, ho, hc⟩ := (hr g e.symm).2
        rw [hh] at ho; cases ho; cases hc)).trans hh
    exact OwnAt.of_heap hs.base.1 hn (hs.below.grown hg hs.below.size (fun j e => Nat.le_trans hB (hr j e).1)) hh'
theorem cell_from {β : Type} (B : Nat) (a : Addr) (v : β → Value) : OwnFrom B (fun s W => W.cell? a = some (v s)) :=
  fun s A C row hs hg hr => cell_kept hs hg (fun r e => (hr r e).2)

theorem OwnAt.made {k : IntKind} {e : TypeId} {w wx w1 : World} {g n : Nat} (hb : Below w.heap.size w wx) (h : w1.ownsRow w.heap.size e 1 (.slice (some ⟨g, 0, none⟩) n n) n (madeCells #[Value.int k 0] n).toList) (hg : wx.grownBy w1 none) :
    OwnAt k e w w1 g n (fun _ => 0) := by
  refine ⟨?_, hb.grown hg hb.size (by simp)⟩
  have e1 : (madeCells #[Value.int k 0] n).toList = (List.range n).map fun j => Value.int k 0 := by
    rw [toList_madeCells_one]
    apply List.ext_getElem (by simp)
    intro i h1 h2
    simp
  rw [e1] at h
  exact h

theorem wpListIn_make_full {F : Fence} {n : Nat} {P : Program} (w : World) {ops : Array Oper} {rest : List Oper} {o : Oper} {a : Act} {Q : Exit → Act → World → Prop}
    (hg : o.guard = none) (l c : Operand) (t : TypeId) (hop : o.op = Op.makeSlice t l c)
    (base : Nat) (e : TypeId) (i : TypeInfo) (z : Value) (size : Nat) (h1 : P.underlying t = some (.slice e)) (h2 : P.info? e = some i) (h3 : i.zero = some z) (h4 : i.size = size)
    (kl kc : IntKind) (L C : Int) (m : Nat) (hl : a.eval l = .int kl L) (hc : a.eval c = .int kc C) (hL : L = (m : Int)) (hC : C = (m : Int)) (b2 : i.bytes * m ≤ 281474976710656) (b3 : m ≤ maxLen) (b4 : base ≤ w.heap.size)
    (hK : ∀ w', w'.ownsRow base e size (.slice (some ⟨w.heap.size, 0, none⟩) m m) m (madeCells z.cells (m * size)).toList → w.grownBy w' none → wpListIn F n P ops Q rest (a.put o.dst (.slice (some ⟨w.heap.size, 0, none⟩) m m)) w') :
    wpListIn F n P ops Q (o :: rest) a w := by
  refine wpListIn_plain hg fun K hK' => ?_
  obtain ⟨w', hrun, r1, r2⟩ := run_make_full (P := P) w base t e i z size h1 h2 h3 h4 kl kc m b2 b3 b4
  subst hL
  subst hC
  unfold Oper.wpIn
  refine ⟨?_, ?_⟩
  · simp [Oper.about, hop]
  · rw [Oper.semAt_plain F _ _ (by rw [hop]; intro c hc'; cases hc')]
    simp [execOp, hop, hl, hc, hrun, Result.andThen]
    exact hK' _ _ (hK w' r1 r2)
end Go.Proofs.Ytlgklkhijmeldaa
