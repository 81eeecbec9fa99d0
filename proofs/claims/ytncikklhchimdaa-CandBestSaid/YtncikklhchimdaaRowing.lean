/- Rows that the call itself builds: by append, or by make and stores. No function of the program is named. -/
import Derived.Test.YtncikklhchimdaaMem
import Derived.Laws.AppendOwnNone
namespace Go.Proofs.Ytncikklhchimdaa
open Go.RowKit
set_option linter.unusedVariables false
set_option linter.unusedSimpArgs false
set_option maxRecDepth 100000

/-- The value in a new block of one cell (a captured variable). -/
theorem one_new (w : World) (v : Value) (t : TypeId) : (w.alloc (.cells #[v] t)).cell? ⟨w.heap.size, 0, none⟩ = some v := by
  simp
theorem cell_new {w : World} {v : Value} {t : TypeId} {n : Nat} (h : n = w.heap.size) : (w.alloc (.cells #[v] t)).cell? ⟨n, 0, none⟩ = some v := by
  subst h; simp
theorem cell_past (w : World) (o : Obj) (a : Addr) (h : a.block < w.heap.size) : (w.alloc o).cell? a = w.cell? a := ((Below.refl _ _).alloc (Nat.le_refl _) o).cell h

theorem grown_of_drew {w w1 : World} {row : Option Nat} (hg : w.drew.grownBy w1 row) : w.grownBy w1 row := ⟨hg.os, hg.tape, hg.output, hg.size, hg.block⟩

/-- A cell of another block, behind a new block, a draw and an append. -/
theorem cell_grown {w w1 : World} {o : Obj} {row : Option Nat} {a : Addr} {v : Value} (h : w.cell? a = some v) (hne : row ≠ some a.block) (hg : ((w.alloc o).drew).grownBy w1 row) : w1.cell? a = some v :=
  hg.cell (a := a) (show ((w.alloc o).drew).cell? a = some v from (cell_past w o a (World.block_lt_of_cell? w _ h)).trans h) (Ne.symm hne)

/-- A result: a new row that reads as the list. -/
def GivesRow (k : IntKind) (xs : List Int) (w : World) (e : Ending) (w' : World) : Prop :=
  ∃ a cap, e = .returned (.slice a xs.length cap) ∧ Row k w' a xs ∧ OkCap a xs.length cap ∧ Below w.heap.size w w'

/-- The slice value v, of n numbers (the i-th: f i), is the call's own: it was made behind the world w. -/
structure Own (k : IntKind) (e : TypeId) (w wr : World) (v : Value) (n : Nat) (f : Nat → Int) : Prop where
  own : wr.ownsRow w.heap.size e 1 v n ((List.range n).map fun j => Value.int k (f j))
  below : Below w.heap.size w wr

theorem Own.nil (k : IntKind) (e : TypeId) (w : World) (f : Nat → Int) : Own k e w w (.slice none 0 0) 0 f := ⟨World.ownsRow_nil _ _ _ _, Below.refl _ _⟩

theorem own_lt {wr : World} {e : TypeId} {v : Value} {n : Nat} {xs : List Value} {B : Nat} (h : wr.ownsRow B e 1 v n xs) : ∀ k, v.ownBlock = some k → B ≤ k := fun k hk => (h.lt k hk).1

theorem below_grown {w wr w1 : World} {o : Obj} {B : Nat} {row : Option Nat} (hb : Below B w wr) (hB : B ≤ wr.heap.size) (hr : ∀ k, row = some k → B ≤ k) (hg : (wr.alloc o).grownBy w1 row) : Below B w w1 :=
  (hb.alloc hB o).grown hg (by simp; omega) hr

theorem size_alloc_le {w wr : World} (hb : Below w.heap.size w wr) (o : Obj) : w.heap.size ≤ (wr.alloc o).heap.size := by
  have := hb.size; simp; omega

theorem one_cell (k : IntKind) (x : Int) : ∀ u ∈ [Value.int k x], u.oneCell' = true := by
  intro u hu; simp at hu; subst hu; rfl

theorem Own.push {k : IntKind} {e : TypeId} {w wr w1 : World} {v v' : Value} {n : Nat} {f : Nat → Int} {o : Obj} (h : Own k e w wr v n f) (x : Int) (hx : x = f n)
    (hown : w1.ownsRow w.heap.size e 1 v' (n + 1) (((List.range n).map fun j => Value.int k (f j)) ++ [.int k x])) (hg : (wr.alloc o).grownBy w1 v.ownBlock) : Own k e w w1 v' (n + 1) f := by
  subst hx
  refine ⟨?_, below_grown h.below h.below.size (own_lt h.own) hg⟩
  rw [List.range_succ, List.map_append]
  exact hown

theorem Own.drew {k : IntKind} {e : TypeId} {w wr : World} {v : Value} {n : Nat} {f : Nat → Int} (h : Own k e w wr v n f) : Own k e w wr.drew v n f := ⟨h.own.drew, h.below.drew⟩

theorem Own.later {k : IntKind} {e : TypeId} {w wr w' : World} {v : Value} {n : Nat} {f : Nat → Int} (h : Own k e w wr v n f) (hb : Below wr.heap.size wr w') : Own k e w w' v n f :=
  ⟨h.own.kept (row := none) ⟨hb.os, hb.tape, hb.output, hb.size, fun j hj _ => hb.block j hj⟩ (by cases v.ownBlock <;> simp), h.below.trans (hb.mono h.below.size)⟩

theorem own_slice {w : World} {B : Nat} {e : TypeId} {v : Value} {n : Nat} {xs : List Value} (h : w.ownsRow B e 1 v n xs) : ∃ a cap, v = .slice a n cap ∧ OkCap a n cap := by
  rcases h.2 with ⟨rfl, rfl⟩ | ⟨g, cap, cur, rfl, _, _, hc, _⟩
  · exact ⟨none, 0, rfl, Nat.le_refl _, fun _ => rfl⟩
  · exact ⟨_, _, rfl, hc, fun h => by cases h⟩

theorem Own.gives {k : IntKind} {e : TypeId} {w wr : World} {v : Value} {n : Nat} {f : Nat → Int} (h : Own k e w wr v n f) {xs : List Int} (hn : xs.length = n) (hw : ∀ x ∈ xs, fits k x) (hf : ∀ i, i < n → nth xs i = f i) (hl : n ≤ 16777216) :
    GivesRow k xs w (.returned v) wr := by
  obtain ⟨a, cap, rfl, hnil⟩ := own_slice h.own
  refine ⟨a, cap, by rw [hn], ?_, by rw [hn]; exact hnil, h.below⟩
  refine Row.of_own hn (by omega) hw (base := w.heap.size) (e := e) (cap := cap) ?_
  have e1 : xs.map (Value.int k) = (List.range n).map fun j => Value.int k (f j) := by
    apply List.ext_getElem (by simp [hn])
    intro i h1 h2
    have h3 : i < n := by simpa [hn] using h1
    have := hf i h3
    simp only [List.getElem_map, List.getElem_range]
    rw [← this]
    simp [nth, show i < xs.length by omega]
  rw [e1]
  exact h.own

/-- The row of n numbers at the head of block g is the call's own. -/
structure OwnAt (k : IntKind) (e : TypeId) (w wr : World) (g n : Nat) (f : Nat → Int) : Prop where
  own : wr.ownsRow w.heap.size e 1 (.slice (some ⟨g, 0, none⟩) n n) n ((List.range n).map fun j => Value.int k (f j))
  below : Below w.heap.size w wr

theorem OwnAt.cell {k : IntKind} {e : TypeId} {w wr : World} {g n : Nat} {f : Nat → Int} (h : OwnAt k e w wr g n f) (i : Nat) (hi : i < n) : wr.cell? ⟨g, i, none⟩ = some (.int k (f i)) := by
  rw [h.own.cellAt i (by omega)]; simp [hi]
theorem OwnAt.free {k : IntKind} {e : TypeId} {w wr : World} {g n : Nat} {f : Nat → Int} (h : OwnAt k e w wr g n f) (i : Nat) : wr.frozen? ⟨g, i, none⟩ = false := h.own.frozenAt i
theorem OwnAt.base {k : IntKind} {e : TypeId} {w wr : World} {g n : Nat} {f : Nat → Int} (h : OwnAt k e w wr g n f) : w.heap.size ≤ g ∧ g < wr.heap.size := h.own.lt g rfl
theorem OwnAt.later {k : IntKind} {e : TypeId} {w wr w' : World} {g n : Nat} {f : Nat → Int} (h : OwnAt k e w wr g n f) (hb : Below wr.heap.size wr w') : OwnAt k e w w' g n f := by
  refine ⟨?_, h.below.trans (hb.mono h.below.size)⟩
  exact h.own.kept (row := none) ⟨hb.os, hb.tape, hb.output, hb.size, fun j hj _ => hb.block j hj⟩ (.inr (by simp [Value.ownBlock]))
theorem list_store {k : IntKind} (n i : Nat) (hi : i < n) (f f' : Nat → Int) (x : Int) (hx : f' i = x) (hf : ∀ j, j < n → j ≠ i → f' j = f j) :
    ((List.range n).map fun j => Value.int k (f j)).set i (.int k x) = (List.range n).map fun j => Value.int k (f' j) := by
  apply List.ext_getElem (by simp)
  intro j h1 h2
  have hj : j < n := by simpa using h2
  by_cases hji : j = i
  · subst hji; simp [hx]
  · rw [List.getElem_set_ne (Ne.symm hji)]; simp [hf j hj hji]
theorem OwnAt.store {k : IntKind} {e : TypeId} {w wr : World} {g n : Nat} {f f' : Nat → Int} (h : OwnAt k e w wr g n f) (i : Nat) (hi : i < n) (x : Int) (hx : f' i = x) (hf : ∀ j, j < n → j ≠ i → f' j = f j) :
    OwnAt k e w (wr.setCell ⟨g, i, none⟩ (.int k x)) g n f' := by
  refine ⟨?_, h.below.setCell h.base.1 _⟩
  have h1 := h.own.stored i (.int k x)
  rw [list_store n i hi f f' x hx hf] at h1
  exact h1.1
theorem OwnAt.gives {k : IntKind} {e : TypeId} {w wr : World} {g n : Nat} {f : Nat → Int} (h : OwnAt k e w wr g n f) {xs : List Int} (hn : xs.length = n) (hw : ∀ x ∈ xs, fits k x) (hf : ∀ i, i < n → nth xs i = f i) (hl : n ≤ 16777216) :
    GivesRow k xs w (.returned (.slice (some ⟨g, 0, none⟩) n n)) wr :=
  Own.gives (e := e) ⟨h.own, h.below⟩ hn hw hf hl
theorem OwnAt.row {k : IntKind} {e : TypeId} {w wr : World} {g n : Nat} {f : Nat → Int} (h : OwnAt k e w wr g n f) {xs : List Int} (hn : xs.length = n) (hw : ∀ x ∈ xs, fits k x) (hf : ∀ i, i < n → nth xs i = f i) (hl : n ≤ 16777216) :
    Row k wr (some ⟨g, 0, none⟩) xs := by
  obtain ⟨a, cap, he, hr, _⟩ := h.gives hn hw hf hl
  simp only [Ending.returned.injEq, Value.slice.injEq] at he
  rw [he.1]; exact hr
theorem Own.made {k : IntKind} {e : TypeId} {w w1 : World} {n : Nat} (h : w1.ownsRow w.heap.size e 1 (.slice (some ⟨w.heap.size, 0, none⟩) n n) n (madeCells #[Value.int k 0] n).toList) (hg : w.grownBy w1 none) :
    OwnAt k e w w1 w.heap.size n (fun _ => 0) := by
  refine ⟨?_, (Below.refl _ _).grown hg (Nat.le_refl _) (by simp)⟩
  have e1 : (madeCells #[Value.int k 0] n).toList = (List.range n).map fun j => Value.int k 0 := by
    rw [toList_madeCells_one]
    apply List.ext_getElem (by simp)
    intro i h1 h2
    simp
  rw [e1] at h
  exact h

/-- append of a whole row that reads (nil or not) to a row of the call's own. -/
theorem wpList_append_row {P : Program} {w : World} {ops : Array Oper} {rest : List Oper} {o : Oper} {a : Act} {Q : Exit → Act → World → Prop} (hgd : o.guard = none) (s x : Operand) (t : TypeId)
    (ho : o.op = .call { callee := .builtin .append, args := #[s, x], argTypes := #[t, t] }) (k : IntKind)
    (base : Nat) (e : TypeId) (i : TypeInfo) (z : Value) (ht : P.underlying t = some (.slice e)) (hi : P.info? e = some i) (hz : i.zero = some z) (hz1 : i.size = 1) (hz2 : i.bytes = 8) (hzz : z.cells.size = 1)
    (v : Value) (n : Nat) (xs : List Value) (hs : a.eval s = v) (hown : w.ownsRow base e 1 v n xs) (ad : Option Addr) (m c : Nat) (ys : List Int) (hx : a.eval x = .slice ad m c) (hm : ys.length = m) (hrow : Row k w ad ys) (hnil : ad = none → c = 0)
    (hlen : n + m ≤ 1000000000) (hbase : base ≤ w.heap.size)
    (h : ∀ v' w1, w1.ownsRow base e 1 v' (n + m) (xs ++ ys.map (Value.int k)) → w.grownBy w1 v.ownBlock → wpList P ops Q rest (a.put o.dst v') w1) : wpList P ops Q (o :: rest) a w := by
  subst hm
  cases ad with
  | none =>
    have h0 : ys = [] := by
      rcases hrow.lies with h1 | ⟨b, off, h1, _⟩
      · exact h1
      · cases h1
    subst h0
    rw [hnil rfl] at hx
    refine wpList_append_own_none hgd s x t ho base e i 1 ht hi v n xs hs hown hx ?_
    have := h v w (by simpa using hown) (World.grownBy.refl _ _)
    exact this
  | some ad =>
    refine wpList_append_own w hgd s x t ho base e i z 1 8 ht hi hz hz1 hz2 hzz (by decide) v n xs hs hown ad ys.length c (ys.map (Value.int k)) hx (by simp) ?_ (ints_oneCell k ys) (by unfold maxLen; omega) (by omega) hbase ?_
    · intro j u hj
      rcases hrow.lies with h1 | ⟨b, off, h1, h2⟩
      · subst h1; simp at hj
      · cases h1
        have hjl : j < ys.length := by
          have := (List.getElem?_eq_some_iff.1 hj).1
          simpa using this
        have h3 := h2 j hjl
        have h4 : u = .int k (nth ys j) := by
          simp [hjl] at hj
          rw [← hj]; simp [nth, hjl]
        rw [h4, ← h3]
        by_cases hj0 : j = 0
        · subst hj0; simp [Addr.add]
        · simp [Addr.add, hj0]
    · intro v' w1 h1 h2 _
      exact h v' w1 h1 h2

theorem own_later {w w' : World} {B : Nat} {e : TypeId} {v : Value} {n : Nat} {xs : List Value} (h : w.ownsRow B e 1 v n xs) (hb : Below w.heap.size w w') : w'.ownsRow B e 1 v n xs :=
  h.kept (row := none) ⟨hb.os, hb.tape, hb.output, hb.size, fun j hj _ => hb.block j hj⟩ (by cases v.ownBlock <;> simp)

theorem gives_of_own {k : IntKind} {e : TypeId} {w wr : World} {v : Value} {n : Nat} {L : List Value} (h : wr.ownsRow w.heap.size e 1 v n L) (hb : Below w.heap.size w wr) {xs : List Int} (hL : L = xs.map (Value.int k)) (hn : xs.length = n) (hw : ∀ x ∈ xs, fits k x) (hl : n ≤ 16777216) :
    GivesRow k xs w (.returned v) wr := by
  subst hL
  obtain ⟨a, cap, rfl, hnil⟩ := own_slice h
  exact ⟨a, cap, by rw [hn], Row.of_own hn (by omega) hw h, by rw [hn]; exact hnil, hb⟩

theorem append_below {w w1 w2 : World} {B : Nat} {e : TypeId} {v : Value} {n : Nat} {xs : List Value} (hb : Below B w w1) (hB : B ≤ w1.heap.size) (hown : w1.ownsRow B e 1 v n xs) (hg : w1.grownBy w2 v.ownBlock) : Below B w w2 :=
  hb.grown hg hB (own_lt hown)

/-- A new block that holds the numbers, as a row. -/
theorem row_new (k : IntKind) (w : World) (t : TypeId) (xs : List Int) (hw : ∀ x ∈ xs, fits k x) (hl : xs.length ≤ 16777216) : Row k (w.alloc (.cells (xs.map (Value.int k)).toArray t)) (some ⟨w.heap.size, 0, none⟩) xs := by
  have h := World.ownsRow_lit (base := 0) (e := t) (size := 1) w (xs.map (Value.int k)).toArray xs.length (Nat.zero_le _) (by unfold maxLen; omega) (by simp)
  exact Row.of_own (base := 0) (e := t) (cap := xs.length) rfl (by omega) hw (by simpa using h)
end Go.Proofs.Ytncikklhchimdaa
