/- The contracts and plain laws that the statements WmapPuts WmapMerges WmapNils need, part 1 of 5: Mem Open Rowing Tree TreeR SrtL SrtM WmL TreeA TreeB TreeC TreeD TreeE TreeF TreeG TreeH. -/
import Derived.Test.YtonffapiamhdbaaProg
import Derived.WalkKit
import Derived.WalkSpells
import Derived.WalkLawsBesides
import Derived.Handy
import Derived.Lib.Hide
import Derived.ProofKit
import Derived.OpenShut
import Derived.Carry
import Derived.Lib.SmallJoins
import Derived.ChangeArms
import Derived.Deep.Slices
import Derived.DataReads
import Derived.Laws.AppendOwnNone
import Derived.Test.YtonffapiamhdbaaRows
import Derived.Deep.AppendLies
import Derived.Deep.RegionHeld3
import Derived.Deep.RegionLaw
import Derived.BigQuiet
import Derived.Deep.QuietTactic
import Derived.StillTailTactics
import Derived.RangeFuncNested
import Derived.RangeFuncBound
import Derived.RangeFuncCalls
import Derived.RangeFuncLeaves
import Derived.RangeFuncBox
import Derived.RangeFuncWrites
import Derived.Shelf.Abstract
import Derived.Shelf.RegionOpen
import Derived.OwnWalkIn
import Derived.TacticsInMore
import Derived.LoopNIn
import Derived.LoopIn
import Derived.RangeFuncIn
import Derived.ArgAppend
import Derived.Shelf.Lay
import Derived.Shelf.LaySoft
import Derived.Shelf.Small.Bits
import Derived.Ground.Names2Prog
import Derived.BigRegion
import Derived.Deep.CutRange
import Derived.WideKeyRuns
import Derived.MapKept
import Derived.RangeFuncRecord
import Derived.Maps.RangeRun
import Derived.Laws.StructEq
import Derived.OwnWalk
import Derived.ShutString
import Derived.ChangeOld
import Derived.JoinedCond
namespace Go.Proofs.Ytonffapiamhdbaa
open Go.RowKit
set_option linter.unusedVariables false
set_option linter.unusedSimpArgs false
set_option maxRecDepth 100000
theorem ret_int {k : IntKind} {a b : Int} (h : a = b) : Ending.returned (.int k a) = .returned (.int k b) := by rw [h]
theorem ret_bool {a b : Bool} (h : a = b) : Ending.returned (.bool a) = .returned (.bool b) := by rw [h]
/-- The i-th number of a list (a name that the walk's simp leaves alone). -/
def nth (xs : List Int) (i : Nat) : Int := xs.getD i 0
theorem nth_mem {xs : List Int} {i : Nat} (h : i < xs.length) : nth xs i ∈ xs := by
  simp [nth, h]
theorem nth_take {xs : List Int} {n i : Nat} (h : i < n) : nth (xs.take n) i = nth xs i := by
  simp [nth, h]
theorem nth_drop (xs : List Int) (n i : Nat) : nth (xs.drop n) i = nth xs (n + i) := by
  simp [nth]
/-- Kind k holds the number x. -/
def fits (k : IntKind) (x : Int) : Prop := (Lit.int k x).wf = true
theorem fits_i64 {x : Int} : fits .i64 x ↔ -9223372036854775808 ≤ x ∧ x < 9223372036854775808 := by
  unfold fits
  simp only [Lit.wf, Bool.and_eq_true, decide_eq_true_eq, show IntKind.i64.min = -9223372036854775808 from rfl, show IntKind.i64.max = 9223372036854775807 from rfl]
  omega
/-- The slice at address a (length: the list's) holds the numbers xs, of kind k. -/
structure Row (k : IntKind) (w : World) (a : Option Addr) (xs : List Int) : Prop where
  len : xs.length ≤ 9223372036854775807
  wf : ∀ x ∈ xs, fits k x
  lies : xs = [] ∨ ∃ b off, a = some ⟨b, off, none⟩ ∧ ∀ i, i < xs.length → w.cell? ⟨b, off + i, none⟩ = some (.int k (nth xs i))
theorem Row.nil (k : IntKind) (w : World) (a : Option Addr) : Row k w a [] := ⟨by simp, by simp, .inl rfl⟩
theorem Row.at {k : IntKind} {w : World} {a : Option Addr} {xs : List Int} (h : Row k w a xs) (h0 : 0 < xs.length) : ∃ b off, a = some ⟨b, off, none⟩ ∧ ∀ i, i < xs.length → w.cell? ⟨b, off + i, none⟩ = some (.int k (nth xs i)) := by
  rcases h.lies with h1 | h1
  · subst h1; simp at h0
  · exact h1
theorem Row.below {k : IntKind} {w w' : World} {a : Option Addr} {xs : List Int} (h : Row k w a xs) (hb : Below w.heap.size w w') : Row k w' a xs := by
  refine ⟨h.len, h.wf, ?_⟩
  rcases h.lies with h1 | ⟨b, off, h1, h2⟩
  · exact .inl h1
  · refine .inr ⟨b, off, h1, fun i hi => ?_⟩
    rw [hb.cell (World.block_lt_of_cell? w _ (h2 i hi))]
    exact h2 i hi
theorem Row.grown {k : IntKind} {w w' : World} {a : Option Addr} {xs : List Int} (h : Row k w a xs) (hb : w.grownBy w' none) : Row k w' a xs :=
  h.below ⟨hb.os, hb.tape, hb.output, hb.size, fun k hk => hb.block k hk (by simp)⟩
/-- A part of it: from i on, n numbers. -/
theorem Row.cut {k : IntKind} {w : World} {b off : Nat} {xs : List Int} (h : Row k w (some ⟨b, off, none⟩) xs) (i j : Nat) : Row k w (some ⟨b, off + i, none⟩) ((xs.take j).drop i) := by
  refine ⟨Nat.le_trans (by simp; omega) h.len, fun x hx => h.wf x (List.mem_of_mem_take (List.mem_of_mem_drop hx)), ?_⟩
  rcases h.lies with h1 | ⟨b', off', h1, h2⟩
  · left; subst h1; simp
  · right
    simp only [Option.some.injEq, Addr.mk.injEq, and_true] at h1
    obtain ⟨rfl, rfl⟩ := h1
    refine ⟨b, off + i, rfl, fun t ht => ?_⟩
    simp at ht
    rw [Nat.add_assoc, h2 (i + t) (by omega), nth_drop, nth_take (by omega)]
/-- What the call owns, as a row that reads. -/
theorem Row.of_own {k : IntKind} {w : World} {base : Nat} {e : TypeId} {a : Option Addr} {n cap : Nat} {xs : List Int} (hn : xs.length = n) (hl : n ≤ 9223372036854775807) (hf : ∀ x ∈ xs, fits k x)
    (h : w.ownsRow base e 1 (.slice a n cap) n (xs.map (Value.int k))) : Row k w a xs := by
  refine ⟨by omega, hf, ?_⟩
  obtain ⟨h1, h2 | ⟨g, c, cur, hv, _⟩⟩ := h
  · left; obtain ⟨_, rfl⟩ := h2; exact List.length_eq_zero_iff.1 hn
  · right
    simp only [Value.slice.injEq] at hv
    obtain ⟨rfl, _, rfl⟩ := hv
    refine ⟨g, 0, rfl, fun i hi => ?_⟩
    have := World.ownsRow.cellAt ⟨h1, .inr ⟨g, cap, cur, rfl, by assumption⟩⟩ i (by omega)
    rw [Nat.zero_add, this]
    simp [nth, hi]
/-- The capacity of a slice of n elements. -/
def OkCap (a : Option Addr) (n cap : Nat) : Prop := n ≤ cap ∧ (a = none → cap = 0)
/-- Below, one behind the other. -/
theorem chain {w w1 w2 : World} (h : Below w.heap.size w w1) (h2 : Below w1.heap.size w1 w2) : Below w.heap.size w w2 := h.trans (h2.mono h.size)
theorem chainA {w w1 w2 : World} {o : Obj} (h : Below w.heap.size w w1) (h2 : Below (w1.alloc o).heap.size (w1.alloc o) w2) : Below w.heap.size w w2 :=
  (h.alloc h.size o).trans (h2.mono (by have := h.size; simp; omega))
theorem info_int : (Try.prog.info? 3).map (fun i => (i.zero, i.size, i.bytes)) = some (some (.int .i64 0), 1, 8) := by kernel_rfl
end Go.Proofs.Ytonffapiamhdbaa

namespace Go.Proofs.Ytonffapiamhdbaa
open Go.ChangeShapes Go.WideShapes Go.ChangeAt Go.RowKit
set_option linter.unusedVariables false
set_option linter.unusedSimpArgs false
set_option maxRecDepth 100000
end Go.Proofs.Ytonffapiamhdbaa
namespace Go.Proofs.Ytonffapiamhdbaa
open Go.ChangeShapes Go.WideShapes Go.ChangeAt Go.RowKit
set_option linter.unusedVariables false
set_option linter.unusedSimpArgs false
theorem open_two {H : Type} {enc : TypeId × Value → H} {P : Program} {W : World} {r : Reach} {b0 base : Nat} {sp : Nat → Bool} {held : Bool} {T : TypeId} {f0 f1 : Field} {q : IntKind} {v : Value} {d : DataW H} {p : List MemPlace}
    (hs : P.underlying T = some (.struct #[f0, f1])) (o0 : f0.offset = 0) (o1 : f1.offset = 1) (c0 : P.cellsOf f0.type = 1) (c1 : P.cellsOf f1.type = 1)
    (i0 : P.underlying f0.type = some (.int q)) (i1 : P.underlying f1.type = some (.int q)) (hC : P.cellsOf T = 2) (hv : Value.okWide P W r b0 T v) (h : DataW.Trod enc P W base sp held T v d p) :
    ∃ x y, v = .agg #[.int q x, .int q y] ∧ fits q x ∧ fits q y := by
  obtain ⟨cs, rfl, hsz⟩ := okWide_struct hs hv
  obtain ⟨fuel, hf⟩ := h
  obtain ⟨ys, n, rfl, -, hlen, hyl, hfs⟩ := DataW.trod_struct hs hf
  rw [hC] at hlen
  obtain ⟨l⟩ := cs
  simp only [Value.cells] at hlen hfs
  match l, hlen with
  | [v0, v1], _ =>
    match ys, hyl with
    | [y0, y1], _ =>
      have e0 := hfs 0 f0 rfl
      have e1 := hfs 1 f1 rfl
      rw [o0, c0] at e0
      rw [o1, c1] at e1
      simp only [List.drop_zero, List.drop_succ_cons, List.take_succ_cons, List.take_zero, List.getElem?_cons_zero, List.getElem?_cons_succ] at e0 e1
      obtain ⟨x, hx, _, wx⟩ := DataW.trod_int i0 e0
      obtain ⟨y, hy, _, wy⟩ := DataW.trod_int i1 e1
      simp only [List.cons.injEq, and_true] at hx hy
      subst hx hy
      exact ⟨x, y, rfl, wx, wy⟩
end Go.Proofs.Ytonffapiamhdbaa

namespace Go.Proofs.Ytonffapiamhdbaa
open Go.RowKit
set_option linter.unusedVariables false
set_option linter.unusedSimpArgs false
set_option maxRecDepth 100000
/-- The value in a new block of one cell (a captured variable). -/
theorem one_new (w : World) (v : Value) (t : TypeId) : (w.alloc (.cells #[v] t)).cell? ⟨w.heap.size, 0, none⟩ = some v := by
  simp
theorem cell_past (w : World) (o : Obj) (a : Addr) (h : a.block < w.heap.size) : (w.alloc o).cell? a = w.cell? a := ((Below.refl _ _).alloc (Nat.le_refl _) o).cell h
/-- A result: a new row that reads as the list. -/
def GivesRow (k : IntKind) (xs : List Int) (w : World) (e : Ending) (w' : World) : Prop :=
  ∃ a cap, e = .returned (.slice a xs.length cap) ∧ Row k w' a xs ∧ OkCap a xs.length cap ∧ Below w.heap.size w w'
/-- The slice value v, of n numbers (the i-th: f i), is the call's own: it was made behind the world w. -/
structure Own (k : IntKind) (e : TypeId) (w wr : World) (v : Value) (n : Nat) (f : Nat → Int) : Prop where
  own : wr.ownsRow w.heap.size e 1 v n ((List.range n).map fun j => Value.int k (f j))
  below : Below w.heap.size w wr
theorem Own.nil (k : IntKind) (e : TypeId) (w : World) (f : Nat → Int) : Own k e w w (.slice none 0 0) 0 f := ⟨World.ownsRow_nil _ _ _ _, Below.refl _ _⟩
theorem own_lt {wr : World} {e : TypeId} {v : Value} {n : Nat} {xs : List Value} {B : Nat} (h : wr.ownsRow B e 1 v n xs) : ∀ k, v.ownBlock = some k → B ≤ k := fun k hk => (h.lt k hk).1
theorem below_grown {w wr w1 : World} {o : Obj} {B : Nat} {row : Option Nat} (hb : Below B w wr) (hB : B ≤ wr.heap.size) (hr : ∀ k, row = some k → B ≤ k) (hg : (wr.alloc o).grownBy w1 row) : Below B w w1 :=
  (hb.alloc hB o).grown hg (by simp; omega) hr
theorem size_alloc_le {w wr : World} (hb : Below w.heap.size w wr) (o : Obj) : w.heap.size ≤ (wr.alloc o).heap.size := by
  have := hb.size; simp; omega
theorem one_cell (k : IntKind) (x : Int) : ∀ u ∈ [Value.int k x], u.oneCell' = true := by
  intro u hu; simp at hu; subst hu; rfl
theorem Own.push {k : IntKind} {e : TypeId} {w wr w1 : World} {v v' : Value} {n : Nat} {f : Nat → Int} {o : Obj} (h : Own k e w wr v n f) (x : Int) (hx : x = f n)
    (hown : w1.ownsRow w.heap.size e 1 v' (n + 1) (((List.range n).map fun j => Value.int k (f j)) ++ [.int k x])) (hg : (wr.alloc o).grownBy w1 v.ownBlock) : Own k e w w1 v' (n + 1) f := by
  subst hx
  refine ⟨?_, below_grown h.below h.below.size (own_lt h.own) hg⟩
  rw [List.range_succ, List.map_append]
  exact hown
theorem Own.drew {k : IntKind} {e : TypeId} {w wr : World} {v : Value} {n : Nat} {f : Nat → Int} (h : Own k e w wr v n f) : Own k e w wr.drew v n f := ⟨h.own.drew, h.below.drew⟩
theorem Own.later {k : IntKind} {e : TypeId} {w wr w' : World} {v : Value} {n : Nat} {f : Nat → Int} (h : Own k e w wr v n f) (hb : Below wr.heap.size wr w') : Own k e w w' v n f :=
  ⟨h.own.kept (row := none) ⟨hb.os, hb.tape, hb.output, hb.size, fun j hj _ => hb.block j hj⟩ (by cases v.ownBlock <;> simp), h.below.trans (hb.mono h.below.size)⟩
theorem own_slice {w : World} {B : Nat} {e : TypeId} {v : Value} {n : Nat} {xs : List Value} (h : w.ownsRow B e 1 v n xs) : ∃ a cap, v = .slice a n cap ∧ OkCap a n cap := by
  rcases h.2 with ⟨rfl, rfl⟩ | ⟨g, cap, cur, rfl, _, _, hc, _⟩
  · exact ⟨none, 0, rfl, Nat.le_refl _, fun _ => rfl⟩
  · exact ⟨_, _, rfl, hc, fun h => by cases h⟩
theorem Own.gives {k : IntKind} {e : TypeId} {w wr : World} {v : Value} {n : Nat} {f : Nat → Int} (h : Own k e w wr v n f) {xs : List Int} (hn : xs.length = n) (hw : ∀ x ∈ xs, fits k x) (hf : ∀ i, i < n → nth xs i = f i) (hl : n ≤ 16777216) :
    GivesRow k xs w (.returned v) wr := by
  obtain ⟨a, cap, rfl, hnil⟩ := own_slice h.own
  refine ⟨a, cap, by rw [hn], ?_, by rw [hn]; exact hnil, h.below⟩
  refine Row.of_own hn (by omega) hw (base := w.heap.size) (e := e) (cap := cap) ?_
  have e1 : xs.map (Value.int k) = (List.range n).map fun j => Value.int k (f j) := by
    apply List.ext_getElem (by simp [hn])
    intro i h1 h2
    have h3 : i < n := by simpa [hn] using h1
    have := hf i h3
    simp only [List.getElem_map, List.getElem_range]
    rw [← this]
    simp [nth, show i < xs.length by omega]
  rw [e1]
  exact h.own
/-- The row of n numbers at the head of block g is the call's own. -/
structure OwnAt (k : IntKind) (e : TypeId) (w wr : World) (g n : Nat) (f : Nat → Int) : Prop where
  own : wr.ownsRow w.heap.size e 1 (.slice (some ⟨g, 0, none⟩) n n) n ((List.range n).map fun j => Value.int k (f j))
  below : Below w.heap.size w wr
theorem OwnAt.cell {k : IntKind} {e : TypeId} {w wr : World} {g n : Nat} {f : Nat → Int} (h : OwnAt k e w wr g n f) (i : Nat) (hi : i < n) : wr.cell? ⟨g, i, none⟩ = some (.int k (f i)) := by
  rw [h.own.cellAt i (by omega)]; simp [hi]
theorem OwnAt.free {k : IntKind} {e : TypeId} {w wr : World} {g n : Nat} {f : Nat → Int} (h : OwnAt k e w wr g n f) (i : Nat) : wr.frozen? ⟨g, i, none⟩ = false := h.own.frozenAt i
theorem OwnAt.base {k : IntKind} {e : TypeId} {w wr : World} {g n : Nat} {f : Nat → Int} (h : OwnAt k e w wr g n f) : w.heap.size ≤ g ∧ g < wr.heap.size := h.own.lt g rfl
theorem OwnAt.later {k : IntKind} {e : TypeId} {w wr w' : World} {g n : Nat} {f : Nat → Int} (h : OwnAt k e w wr g n f) (hb : Below wr.heap.size wr w') : OwnAt k e w w' g n f := by
  refine ⟨?_, h.below.trans (hb.mono h.below.size)⟩
  exact h.own.kept (row := none) ⟨hb.os, hb.tape, hb.output, hb.size, fun j hj _ => hb.block j hj⟩ (.inr (by simp [Value.ownBlock]))
theorem OwnAt.gives {k : IntKind} {e : TypeId} {w wr : World} {g n : Nat} {f : Nat → Int} (h : OwnAt k e w wr g n f) {xs : List Int} (hn : xs.length = n) (hw : ∀ x ∈ xs, fits k x) (hf : ∀ i, i < n → nth xs i = f i) (hl : n ≤ 16777216) :
    GivesRow k xs w (.returned (.slice (some ⟨g, 0, none⟩) n n)) wr :=
  Own.gives (e := e) ⟨h.own, h.below⟩ hn hw hf hl
theorem OwnAt.row {k : IntKind} {e : TypeId} {w wr : World} {g n : Nat} {f : Nat → Int} (h : OwnAt k e w wr g n f) {xs : List Int} (hn : xs.length = n) (hw : ∀ x ∈ xs, fits k x) (hf : ∀ i, i < n → nth xs i = f i) (hl : n ≤ 16777216) :
    Row k wr (some ⟨g, 0, none⟩) xs := by
  obtain ⟨a, cap, he, hr, _⟩ := h.gives hn hw hf hl
  simp only [Ending.returned.injEq, Value.slice.injEq] at he
  rw [he.1]; exact hr
theorem Own.made {k : IntKind} {e : TypeId} {w w1 : World} {n : Nat} (h : w1.ownsRow w.heap.size e 1 (.slice (some ⟨w.heap.size, 0, none⟩) n n) n (madeCells #[Value.int k 0] n).toList) (hg : w.grownBy w1 none) :
    OwnAt k e w w1 w.heap.size n (fun _ => 0) := by
  refine ⟨?_, (Below.refl _ _).grown hg (Nat.le_refl _) (by simp)⟩
  have e1 : (madeCells #[Value.int k 0] n).toList = (List.range n).map fun j => Value.int k 0 := by
    rw [toList_madeCells_one]
    apply List.ext_getElem (by simp)
    intro i h1 h2
    simp
  rw [e1] at h
  exact h
/-- A new block that holds the numbers, as a row. -/
theorem row_new (k : IntKind) (w : World) (t : TypeId) (xs : List Int) (hw : ∀ x ∈ xs, fits k x) (hl : xs.length ≤ 16777216) : Row k (w.alloc (.cells (xs.map (Value.int k)).toArray t)) (some ⟨w.heap.size, 0, none⟩) xs := by
  have h := World.ownsRow_lit (base := 0) (e := t) (size := 1) w (xs.map (Value.int k)).toArray xs.length (Nat.zero_le _) (by unfold maxLen; omega) (by simp)
  exact Row.of_own (base := 0) (e := t) (cap := xs.length) rfl (by omega) hw (by simpa using h)
end Go.Proofs.Ytonffapiamhdbaa

namespace Go.Proofs.Ytonffapiamhdbaa
open Go.RowKit
set_option linter.unusedVariables false
set_option linter.unusedSimpArgs false
set_option maxRecDepth 100000
/-- A tree: two numbers, and trees below. -/
inductive Tr where
  | node (k n : Int) (ks : List Tr) : Tr
namespace Tr
def kind : Tr → Int | node k _ _ => k
def num : Tr → Int | node _ n _ => n
def kids : Tr → List Tr | node _ _ ks => ks
mutual
def size : Tr → Nat
  | node _ _ ks => sizeL ks + 1
def sizeL : List Tr → Nat
  | [] => 0
  | t :: ts => size t + sizeL ts
end
mutual
def Ok : Tr → Prop
  | node k n ks => fits .i64 k ∧ fits .i64 n ∧ OkL ks
def OkL : List Tr → Prop
  | [] => True
  | t :: ts => Ok t ∧ OkL ts
end
theorem size_kids (t : Tr) : t.size = sizeL t.kids + 1 := by cases t; simp [size, kids]
theorem size_pos (t : Tr) : 1 ≤ t.size := by rw [size_kids]; omega
theorem len_le_sizeL (ks : List Tr) : ks.length ≤ sizeL ks := by
  induction ks with
  | nil => simp
  | cons t ts ih => have := size_pos t; simp only [List.length_cons, sizeL]; omega
theorem sizeL_append (l r : List Tr) : sizeL (l ++ r) = sizeL l + sizeL r := by
  induction l with
  | nil => simp [sizeL]
  | cons t ts ih => simp only [List.cons_append, sizeL, ih]; omega
/-- The i-th of some trees. -/
def kid (ks : List Tr) (i : Nat) : Tr := ks.getD i (node 0 0 [])
theorem kid_mem {ks : List Tr} {i : Nat} (h : i < ks.length) : kid ks i ∈ ks := by simp [kid, h]
theorem kid_get {ks : List Tr} {i : Nat} (h : i < ks.length) : kid ks i = ks[i] := by simp [kid, h]
theorem take_kid {ks : List Tr} {k : Nat} (h : k < ks.length) : ks.take (k + 1) = ks.take k ++ [kid ks k] := by
  rw [List.take_succ_eq_append_getElem h]; simp [kid, h]
theorem drop_kid {ks : List Tr} {k : Nat} (h : k < ks.length) : ks.drop k = kid ks k :: ks.drop (k + 1) := by
  rw [List.drop_eq_getElem_cons h, kid_get h]
theorem size_mem {ks : List Tr} {t : Tr} (h : t ∈ ks) : t.size ≤ sizeL ks := by
  induction ks with
  | nil => cases h
  | cons x r ih =>
    simp only [sizeL]
    rcases List.mem_cons.1 h with rfl | h
    · omega
    · have := ih h; omega
theorem size_kid (t : Tr) (i : Nat) (h : i < t.kids.length) : (kid t.kids i).size < t.size := by
  have := size_mem (kid_mem h)
  rw [size_kids t]; omega
theorem ok_kids {t : Tr} (h : t.Ok) : OkL t.kids := by cases t; simp only [Ok, kids] at *; exact h.2.2
theorem ok_kind {t : Tr} (h : t.Ok) : fits .i64 t.kind := by cases t; simp only [Ok, kind] at *; exact h.1
theorem ok_num {t : Tr} (h : t.Ok) : fits .i64 t.num := by cases t; simp only [Ok, num] at *; exact h.2.1
theorem ok_mem {ks : List Tr} {t : Tr} (h : t ∈ ks) (hk : OkL ks) : t.Ok := by
  induction ks with
  | nil => cases h
  | cons x r ih =>
    simp only [OkL] at hk
    rcases List.mem_cons.1 h with rfl | h
    · exact hk.1
    · exact ih h hk.2
theorem okL_of {ks : List Tr} (h : ∀ t ∈ ks, t.Ok) : OkL ks := by
  induction ks with
  | nil => simp [OkL]
  | cons x r ih => simp only [OkL]; exact ⟨h x (by simp), ih fun t ht => h t (by simp [ht])⟩
end Tr
/-- The slice at address a (its capacity: cap) reads as the trees; the blocks that it goes through are in F. -/
inductive Kids (w : World) (F : Nat → Prop) : Option Addr → Nat → List Tr → Prop
  | nil : Kids w F none 0 []
  | empty (a : Addr) (cap : Nat) : Kids w F (some a) cap []
  | row (b off cap : Nat) (ks : List Tr) (A : Nat → Option Addr) (C : Nat → Nat) (hpos : 0 < ks.length) (hl : ks.length ≤ cap) (hF : F b)
      (h0 : ∀ i, i < ks.length → w.cell? ⟨b, off + i * 3, none⟩ = some (.int .i64 (Tr.kid ks i).kind))
      (h1 : ∀ i, i < ks.length → w.cell? ⟨b, off + i * 3 + 1, none⟩ = some (.int .i64 (Tr.kid ks i).num))
      (h2 : ∀ i, i < ks.length → w.cell? ⟨b, off + i * 3 + 2, none⟩ = some (.slice (A i) (Tr.kid ks i).kids.length (C i)))
      (hk : ∀ i, i < ks.length → Kids w F (A i) (C i) (Tr.kid ks i).kids) : Kids w F (some ⟨b, off, none⟩) cap ks
theorem Kids.mono {w : World} {F G : Nat → Prop} {a : Option Addr} {cap : Nat} {ks : List Tr} (h : Kids w F a cap ks) (hs : ∀ b, F b → G b) : Kids w G a cap ks := by
  induction h with
  | nil => exact .nil
  | empty a cap => exact .empty a cap
  | row b off cap ks A C hpos hl hF h0 h1 h2 _ ih => exact .row b off cap ks A C hpos hl (hs b hF) h0 h1 h2 ih
/-- What leaves the blocks in F alone leaves the trees. -/
theorem Kids.stay {w w' : World} {F : Nat → Prop} {a : Option Addr} {cap : Nat} {ks : List Tr} (h : Kids w F a cap ks) (hs : ∀ b, F b → b < w.heap.size → w'.heap[b]? = w.heap[b]?) : Kids w' F a cap ks := by
  induction h with
  | nil => exact .nil
  | empty a cap => exact .empty a cap
  | row b off cap ks A C hpos hl hF h0 h1 h2 _ ih =>
    have hb : b < w.heap.size := World.block_lt_of_cell? w _ (h0 0 hpos)
    have e := fun o => World.cell?_of_block (w := w) (w' := w') (a := ⟨b, o, none⟩) (hs b hF hb)
    exact .row b off cap ks A C hpos hl hF (fun i hi => (e _).trans (h0 i hi)) (fun i hi => (e _).trans (h1 i hi)) (fun i hi => (e _).trans (h2 i hi)) ih
theorem Kids.cap {w : World} {F : Nat → Prop} {a : Option Addr} {cap : Nat} {ks : List Tr} (h : Kids w F a cap ks) : OkCap a ks.length cap := by
  cases h with
  | nil => exact ⟨Nat.le_refl _, fun _ => rfl⟩
  | empty a cap => exact ⟨Nat.zero_le _, fun h => by cases h⟩
  | row b off cap ks A C hpos hl => exact ⟨hl, fun h => by cases h⟩
/-- Two numbers and a slice read as a tree. -/
structure IsT (w : World) (F : Nat → Prop) (k n : Int) (a : Option Addr) (m cap : Nat) (t : Tr) : Prop where
  ek : k = t.kind
  en : n = t.num
  em : m = t.kids.length
  ok : t.Ok
  kids : Kids w F a cap t.kids
theorem IsT.fk {w : World} {F : Nat → Prop} {k n : Int} {a : Option Addr} {m cap : Nat} {t : Tr} (h : IsT w F k n a m cap t) : -9223372036854775808 ≤ k ∧ k < 9223372036854775808 := by
  have := fits_i64.1 (Tr.ok_kind h.ok); rw [h.ek]; exact this
theorem IsT.fn {w : World} {F : Nat → Prop} {k n : Int} {a : Option Addr} {m cap : Nat} {t : Tr} (h : IsT w F k n a m cap t) : -9223372036854775808 ≤ n ∧ n < 9223372036854775808 := by
  have := fits_i64.1 (Tr.ok_num h.ok); rw [h.en]; exact this
theorem IsT.mono {w : World} {F G : Nat → Prop} {k n : Int} {a : Option Addr} {m cap : Nat} {t : Tr} (h : IsT w F k n a m cap t) (hs : ∀ b, F b → G b) : IsT w G k n a m cap t := ⟨h.ek, h.en, h.em, h.ok, h.kids.mono hs⟩
theorem IsT.stay {w w' : World} {F : Nat → Prop} {k n : Int} {a : Option Addr} {m cap : Nat} {t : Tr} (h : IsT w F k n a m cap t) (hs : ∀ b, F b → b < w.heap.size → w'.heap[b]? = w.heap[b]?) : IsT w' F k n a m cap t := ⟨h.ek, h.en, h.em, h.ok, h.kids.stay hs⟩
theorem IsT.below {w w' : World} {F : Nat → Prop} {k n : Int} {a : Option Addr} {m cap : Nat} {t : Tr} (h : IsT w F k n a m cap t) (hb : Below w.heap.size w w') : IsT w' F k n a m cap t := h.stay fun b _ hlt => hb.block b hlt
/-- The i-th kid. -/
theorem IsT.kid {w : World} {F : Nat → Prop} {k n : Int} {a : Option Addr} {m cap : Nat} {t : Tr} (h : IsT w F k n a m cap t) (i : Nat) (hi : i < m) :
    ∃ b off k' n' a' m' c', a = some ⟨b, off, none⟩ ∧ F b ∧ b < w.heap.size ∧ w.cell? ⟨b, off + i * 3, none⟩ = some (.int .i64 k') ∧ w.cell? ⟨b, off + i * 3 + 1, none⟩ = some (.int .i64 n') ∧ w.cell? ⟨b, off + i * 3 + 2, none⟩ = some (.slice a' m' c') ∧
      IsT w F k' n' a' m' c' (Tr.kid t.kids i) := by
  have hi' := hi
  rw [h.em] at hi'
  have hok := Tr.ok_mem (Tr.kid_mem hi') (Tr.ok_kids h.ok)
  have hk := h.kids
  generalize t.kids = ks at hk hi' hok ⊢
  cases hk with
  | nil => simp at hi'
  | empty => simp at hi'
  | row b off cap ks A C hpos hl hF h0 h1 h2 hk =>
    exact ⟨b, off, _, _, _, _, _, rfl, hF, World.block_lt_of_cell? w _ (h0 0 hpos), h0 i hi', h1 i hi', h2 i hi', rfl, rfl, rfl, hok, hk i hi'⟩
end Go.Proofs.Ytonffapiamhdbaa

namespace Go.Proofs.Ytonffapiamhdbaa
open Go.ChangeShapes Go.WideShapes Go.ChangeAt Go.RowKit
set_option linter.unusedVariables false
set_option linter.unusedSimpArgs false
set_option maxRecDepth 100000
theorem bulk_one {H : Type} (d : DataW H) : 1 ≤ Rows.uptoBulk d := by
  cases d with
  | lit l => cases l <;> simp [Rows.uptoBulk]
  | nil => simp [Rows.uptoBulk]
  | ptr d => simp [Rows.uptoBulk]
  | slice elems spare => simp [Rows.uptoBulk]
  | agg parts => simp [Rows.uptoBulk]
  | iface t d => simp [Rows.uptoBulk]
  | map entries => simp [Rows.uptoBulk]
  | held h => simp [Rows.uptoBulk]
theorem sizeL_bulk {H : Type} : ∀ (ks : List Tr) (ds : List (DataW H)), ks.length = ds.length → (∀ i (h : i < ds.length), (Tr.kid ks i).size ≤ Rows.uptoBulk ds[i]) → Tr.sizeL ks ≤ Rows.uptoBulkAll ds
  | [], [], _, _ => by simp [Tr.sizeL]
  | [], d :: ds, h, _ => by simp at h
  | t :: ts, [], h, _ => by simp at h
  | t :: ts, d :: ds, h, hs => by
    simp only [Tr.sizeL, Rows.uptoBulkAll]
    have h0 := hs 0 (by simp)
    have h1 := sizeL_bulk ts ds (by simpa using h) (fun i hi => hs (i + 1) (by simpa using hi))
    simp only [Tr.kid, List.getD_cons_zero, List.getElem_cons_zero] at h0
    omega
section
variable {H : Type} {enc : TypeId × Value → H} {P : Program} {w : World} {base : Nat} {sp : Nat → Bool} {held : Bool}
theorem open_tree_go {T : TypeId} {f0 f1 f2 : Field} (hs : P.underlying T = some (.struct #[f0, f1, f2])) (o0 : f0.offset = 0) (o1 : f1.offset = 1) (o2 : f2.offset = 2) (c0 : P.cellsOf f0.type = 1) (c1 : P.cellsOf f1.type = 1) (c2 : P.cellsOf f2.type = 1)
    (i0 : P.underlying f0.type = some (.int .i64)) (i1 : P.underlying f1.type = some (.int .i64)) (i2 : P.underlying f2.type = some (.slice T)) (hC : P.cellsOf T = 3) (N : Nat) :
    ∀ (fuel : Nat) (cs : List Value) (x : DataW H × List MemPlace), fuel ≤ N → DataW.trod enc P w base sp held fuel T cs = some x →
      ∃ k n a m c t, cs = [.int .i64 k, .int .i64 n, .slice a m c] ∧ IsT w (fun _ => True) k n a m c t ∧ t.size ≤ Rows.uptoBulk x.1 := by
  induction N with
  | zero =>
    intro fuel cs x hf h
    obtain ⟨xs, n, hn, _⟩ := DataW.trod_struct hs h
    omega
  | succ N ih =>
    intro fuel cs x hf h
    obtain ⟨ys, n, rfl, rfl, hlen, hyl, hfs⟩ := DataW.trod_struct hs h
    rw [hC] at hlen
    match cs, hlen with
    | [v0, v1, v2], _ =>
      match ys, hyl with
      | [y0, y1, y2], _ =>
        have e0 := hfs 0 f0 rfl
        have e1 := hfs 1 f1 rfl
        have e2 := hfs 2 f2 rfl
        rw [o0, c0] at e0
        rw [o1, c1] at e1
        rw [o2, c2] at e2
        simp only [List.drop_zero, List.drop_succ_cons, List.take_succ_cons, List.take_zero, List.getElem?_cons_zero, List.getElem?_cons_succ] at e0 e1 e2
        obtain ⟨k, hk, hxk, wk⟩ := DataW.trod_int i0 e0
        obtain ⟨nn, hn, hxn, wn⟩ := DataW.trod_int i1 e1
        simp only [List.cons.injEq, and_true] at hk hn
        subst hk hn
        have hb0 := bulk_one y0.1
        have hb1 := bulk_one y1.1
        have hbulk : Rows.uptoBulk (DataW.agg ([y0, y1, y2].map (·.1))) = Rows.uptoBulk y0.1 + (Rows.uptoBulk y1.1 + Rows.uptoBulk y2.1) + 1 := by simp [Rows.uptoBulk, Rows.uptoBulkAll]
        rcases DataW.trod_slice i2 e2 with ⟨hcs, hx2⟩ | ⟨ad, len, cap, elems, rest, n2, hn2, hcs, hx2, hbase, hlc, hcm, hel, hat, _, _⟩
        · simp only [List.cons.injEq, and_true] at hcs
          subst hcs
          refine ⟨k, nn, none, 0, 0, .node k nn [], rfl, ⟨rfl, rfl, rfl, ?_, .nil⟩, ?_⟩
          · simp only [Tr.Ok, Tr.OkL]; exact ⟨wk, wn, trivial⟩
          · simp only [Tr.size, Tr.sizeL]; rw [hbulk]; omega
        · simp only [List.cons.injEq, and_true] at hcs
          subst hcs
          have hb2 : Rows.uptoBulkAll (elems.map (·.1)) + 1 ≤ Rows.uptoBulk y2.1 := by rw [hx2]; simp only [Rows.uptoBulk]; omega
          have hE : ∀ i, i < len → ∃ p : (Int × Int) × (Option Addr × Nat) × Tr, w.cells? base (ad.add (i * 3)) 3 = some [.int .i64 p.1.1, .int .i64 p.1.2, .slice p.2.1.1 p.2.2.kids.length p.2.1.2] ∧ IsT w (fun _ => True) p.1.1 p.1.2 p.2.1.1 p.2.2.kids.length p.2.1.2 p.2.2 ∧ ∀ d, elems[i]? = some d → p.2.2.size ≤ Rows.uptoBulk d.1 := fun i hi => by
            have h1 := hat i hi
            rw [hC] at h1
            have h2 : elems[i]? = some (elems[i]'(by omega)) := List.getElem?_eq_getElem (by omega)
            rw [h2] at h1
            obtain ⟨cs', hc', ht'⟩ := Option.bind_eq_some_iff.1 h1
            obtain ⟨k', n', a', m', c', t', rfl, hT', hsz'⟩ := ih n2 cs' _ (by omega) ht'
            refine ⟨((k', n'), (a', c'), t'), ?_, ?_, ?_⟩
            · rw [hc', hT'.em]
            · have := hT'; rw [hT'.em] at this; exact this
            · intro d hd
              rw [h2] at hd
              cases hd
              exact hsz'
          have hE' : ∀ i, ∃ p : (Int × Int) × (Option Addr × Nat) × Tr, i < len → w.cells? base (ad.add (i * 3)) 3 = some [.int .i64 p.1.1, .int .i64 p.1.2, .slice p.2.1.1 p.2.2.kids.length p.2.1.2] ∧ IsT w (fun _ => True) p.1.1 p.1.2 p.2.1.1 p.2.2.kids.length p.2.1.2 p.2.2 ∧ ∀ d, elems[i]? = some d → p.2.2.size ≤ Rows.uptoBulk d.1 := fun i => by
            by_cases hi : i < len
            · obtain ⟨p, hp⟩ := hE i hi; exact ⟨p, fun _ => hp⟩
            · exact ⟨((0, 0), (none, 0), .node 0 0 []), fun h => absurd h hi⟩
          obtain ⟨f, hf'⟩ : ∃ f : Nat → (Int × Int) × (Option Addr × Nat) × Tr, ∀ i, i < len → w.cells? base (ad.add (i * 3)) 3 = some [.int .i64 (f i).1.1, .int .i64 (f i).1.2, .slice (f i).2.1.1 (f i).2.2.kids.length (f i).2.1.2] ∧ IsT w (fun _ => True) (f i).1.1 (f i).1.2 (f i).2.1.1 (f i).2.2.kids.length (f i).2.1.2 (f i).2.2 ∧ ∀ d, elems[i]? = some d → (f i).2.2.size ≤ Rows.uptoBulk d.1 :=
            ⟨fun i => Classical.choose (hE' i), fun i hi => Classical.choose_spec (hE' i) hi⟩
          have hkl : ((List.range len).map fun i => (f i).2.2).length = len := by simp
          have hkk : ∀ i, i < len → Tr.kid ((List.range len).map fun i => (f i).2.2) i = (f i).2.2 := fun i hi => by rw [Tr.kid_get (by rw [hkl]; exact hi)]; simp
          refine ⟨k, nn, some ad, len, cap, .node k nn ((List.range len).map fun i => (f i).2.2), rfl, ⟨rfl, rfl, hkl.symm, ?_, ?_⟩, ?_⟩
          · simp only [Tr.Ok]
            refine ⟨wk, wn, Tr.okL_of fun t ht => ?_⟩
            obtain ⟨i, hi, rfl⟩ := List.mem_map.1 ht
            exact (hf' i (List.mem_range.1 hi)).2.1.ok
          · show Kids w _ (some ad) cap ((List.range len).map fun i => (f i).2.2)
            rcases Nat.eq_zero_or_pos len with h0 | hpos
            · subst h0; exact .empty ad cap
            · obtain ⟨b, off, spot⟩ := ad
              have hcell : ∀ i, i < len → ∀ j, j < 3 → w.cell? ((⟨b, off, spot⟩ : Addr).add (i * 3 + j)) = [Value.int .i64 (f i).1.1, .int .i64 (f i).1.2, .slice (f i).2.1.1 (f i).2.2.kids.length (f i).2.1.2][j]? := fun i hi j hj => by
                obtain ⟨_, _, h3⟩ := World.cells?_some (hf' i hi).1
                rw [← Go.Deep.add_add]; exact h3 j hj
              have hspot : spot = none := by
                have := hcell 0 hpos 0 (by omega)
                have h1 : w.cell? (⟨b, off, spot⟩ : Addr) = some (.int .i64 (f 0).1.1) := by simpa [Addr.add] using this
                simpa using World.cell?_spot h1
              subst hspot
              have hadd : ∀ j, (⟨b, off, none⟩ : Addr).add j = ⟨b, off + j, none⟩ := fun j => by unfold Addr.add; split <;> simp_all
              refine .row b off cap _ (fun i => (f i).2.1.1) (fun i => (f i).2.1.2) (by rw [hkl]; exact hpos) (by rw [hkl]; exact hlc) trivial (fun i hi => ?_) (fun i hi => ?_) (fun i hi => ?_) (fun i hi => ?_)
              all_goals rw [hkl] at hi
              all_goals rw [hkk i hi]
              · have := hcell i hi 0 (by omega)
                rw [hadd] at this
                rw [← (hf' i hi).2.1.ek]; exact this
              · have := hcell i hi 1 (by omega)
                rw [hadd] at this
                rw [← (hf' i hi).2.1.en, Nat.add_assoc]; exact this
              · have := hcell i hi 2 (by omega)
                rw [hadd] at this
                rw [Nat.add_assoc]; exact this
              · exact (hf' i hi).2.1.kids
          · rw [Tr.size_kids]
            show Tr.sizeL ((List.range len).map fun i => (f i).2.2) + 1 ≤ _
            have := sizeL_bulk ((List.range len).map fun i => (f i).2.2) (elems.map (·.1)) (by rw [hkl]; simp [hel]) (fun i hi => by
              have hi' : i < len := by simpa [hel] using hi
              rw [hkk i hi']
              have h2 : elems[i]? = some (elems[i]'(by omega)) := List.getElem?_eq_getElem (by omega)
              simpa using (hf' i hi').2.2 _ h2)
            rw [hbulk]; omega
end
theorem open_tree {H : Type} {enc : TypeId × Value → H} {P : Program} {W : World} {r : Reach} {b0 base : Nat} {sp : Nat → Bool} {held : Bool} {T : TypeId} {f0 f1 f2 : Field} {v : Value} {d : DataW H} {p : List MemPlace}
    (hs : P.underlying T = some (.struct #[f0, f1, f2])) (o0 : f0.offset = 0) (o1 : f1.offset = 1) (o2 : f2.offset = 2) (c0 : P.cellsOf f0.type = 1) (c1 : P.cellsOf f1.type = 1) (c2 : P.cellsOf f2.type = 1)
    (i0 : P.underlying f0.type = some (.int .i64)) (i1 : P.underlying f1.type = some (.int .i64)) (i2 : P.underlying f2.type = some (.slice T)) (hC : P.cellsOf T = 3) (hv : Value.okWide P W r b0 T v) (h : DataW.Trod enc P W base sp held T v d p) :
    ∃ k n a m c t, v = .agg #[.int .i64 k, .int .i64 n, .slice a m c] ∧ IsT W (fun _ => True) k n a m c t ∧ t.size ≤ Rows.uptoBulk d := by
  obtain ⟨cs, rfl, hsz⟩ := okWide_struct hs hv
  obtain ⟨fuel, hf⟩ := h
  obtain ⟨k, n, a, m, c, t, hcs, hT, hsize⟩ := open_tree_go hs o0 o1 o2 c0 c1 c2 i0 i1 i2 hC fuel fuel _ _ (Nat.le_refl _) hf
  refine ⟨k, n, a, m, c, t, ?_, hT, hsize⟩
  have : cs = #[.int .i64 k, .int .i64 n, .slice a m c] := by
    obtain ⟨l⟩ := cs
    simpa [Value.cells] using hcs
  rw [this]
end Go.Proofs.Ytonffapiamhdbaa

namespace Go.Proofs.Ytonffapiamhdbaa
set_option linter.unusedVariables false
set_option linter.unusedSimpArgs false
set_option maxRecDepth 100000
section
variable {α : Type}
/-- g has, from a up to b, what f has there, in another order; else it is as f. -/
def PermIn (f g : Nat → α) (a b : Nat) : Prop :=
  ∃ p q : Nat → Nat, (∀ i, a ≤ i → i < b → a ≤ p i ∧ p i < b ∧ a ≤ q i ∧ q i < b ∧ p (q i) = i ∧ q (p i) = i ∧ g i = f (p i)) ∧ ∀ i, ¬ (a ≤ i ∧ i < b) → g i = f i
theorem PermIn.refl (f : Nat → α) (a b : Nat) : PermIn f f a b := ⟨id, id, fun i h1 h2 => ⟨h1, h2, h1, h2, rfl, rfl, rfl⟩, fun _ _ => rfl⟩
theorem PermIn.trans {f g h : Nat → α} {a b : Nat} (h1 : PermIn f g a b) (h2 : PermIn g h a b) : PermIn f h a b := by
  obtain ⟨p, q, k1, k2⟩ := h1
  obtain ⟨r, s, k3, k4⟩ := h2
  refine ⟨fun i => p (r i), fun i => s (q i), fun i ha hb => ?_, fun i hi => (k4 i hi).trans (k2 i hi)⟩
  obtain ⟨r1, r2, s1, s2, rs, sr, e2⟩ := k3 i ha hb
  obtain ⟨p1, p2, q1, q2, pq, qp, e1⟩ := k1 i ha hb
  obtain ⟨u1, u2, _, _, _, uq, ue⟩ := k1 (r i) r1 r2
  obtain ⟨_, _, v1, v2, vq, _, _⟩ := k3 (q i) q1 q2
  exact ⟨u1, u2, v1, v2, (by show p (r (s (q i))) = i; rw [vq, pq]), (by show s (q (p (r i))) = i; rw [uq, sr]), e2.trans ue⟩
theorem PermIn.mono {f g : Nat → α} {a b c d : Nat} (h : PermIn f g a b) (h1 : c ≤ a) (h2 : b ≤ d) : PermIn f g c d := by
  obtain ⟨p, q, k1, k2⟩ := h
  refine ⟨fun i => if a ≤ i ∧ i < b then p i else i, fun i => if a ≤ i ∧ i < b then q i else i, fun i hc hd => ?_, fun i hi => k2 i (by omega)⟩
  by_cases hi : a ≤ i ∧ i < b
  · obtain ⟨p1, p2, q1, q2, pq, qp, e⟩ := k1 i hi.1 hi.2
    simp only [if_pos hi, if_pos (And.intro p1 p2), if_pos (And.intro q1 q2)]
    exact ⟨by omega, by omega, by omega, by omega, pq, qp, e⟩
  · simp only [if_neg hi]
    exact ⟨hc, hd, hc, hd, trivial, trivial, k2 i hi⟩
/-- Two places change. -/
def swapF (f : Nat → α) (i j : Nat) : Nat → α := fun x => if x = i then f j else if x = j then f i else f x
theorem swap_perm (f : Nat → α) {i j a b : Nat} (hi : a ≤ i ∧ i < b) (hj : a ≤ j ∧ j < b) : PermIn f (swapF f i j) a b := by
  refine ⟨fun x => if x = i then j else if x = j then i else x, fun x => if x = i then j else if x = j then i else x, fun x hx hx2 => ?_, fun x hx => ?_⟩
  · have hT : (if (if x = i then j else if x = j then i else x) = i then j else if (if x = i then j else if x = j then i else x) = j then i else (if x = i then j else if x = j then i else x)) = x := by
      by_cases h1 : x = i
      · by_cases h2 : j = i <;> simp_all
      · by_cases h2 : x = j
        · by_cases h3 : i = j <;> simp_all
        · simp [h1, h2]
    have hR : a ≤ (if x = i then j else if x = j then i else x) ∧ (if x = i then j else if x = j then i else x) < b := by
      split
      · exact hj
      · split
        · exact hi
        · exact ⟨hx, hx2⟩
    refine ⟨hR.1, hR.2, hR.1, hR.2, hT, hT, ?_⟩
    show swapF f i j x = f (if x = i then j else if x = j then i else x)
    unfold swapF
    by_cases h1 : x = i
    · rw [if_pos h1, if_pos h1]
    · rw [if_neg h1, if_neg h1]
      by_cases h2 : x = j
      · rw [if_pos h2, if_pos h2]
      · rw [if_neg h2, if_neg h2]
  · unfold swapF
    rw [if_neg (by rintro rfl; exact hx hi), if_neg (by rintro rfl; exact hx hj)]
variable (lt : α → α → Prop)
/-- An order, of things that are apart. -/
structure OrdOn (f : Nat → α) (a b : Nat) : Prop where
  tr : ∀ x y z : α, lt x y → lt y z → lt x z
  irr : ∀ x : α, ¬ lt x x
  tot : ∀ i j, a ≤ i → i < b → a ≤ j → j < b → i ≠ j → lt (f i) (f j) ∨ lt (f j) (f i)
theorem OrdOn.perm {lt : α → α → Prop} {f g : Nat → α} {a b : Nat} (h : OrdOn lt f a b) (hp : PermIn f g a b) : OrdOn lt g a b := by
  obtain ⟨p, q, k1, k2⟩ := hp
  refine ⟨h.tr, h.irr, fun i j hi hi2 hj hj2 hne => ?_⟩
  obtain ⟨p1, p2, _, _, _, qp, e⟩ := k1 i hi hi2
  obtain ⟨p1', p2', _, _, _, qp', e'⟩ := k1 j hj hj2
  rw [e, e']
  exact h.tot _ _ p1 p2 p1' p2' (fun h => hne (by rw [← qp, h, qp']))
theorem OrdOn.mono {lt : α → α → Prop} {f : Nat → α} {a b c d : Nat} (h : OrdOn lt f a b) (h1 : a ≤ c) (h2 : d ≤ b) : OrdOn lt f c d := ⟨h.tr, h.irr, fun i j hi hi2 hj hj2 => h.tot i j (by omega) (by omega) (by omega) (by omega)⟩
/-- From a up to b each is ahead of those behind it. -/
def Srt (f : Nat → α) (a b : Nat) : Prop := ∀ i j, a ≤ i → i < j → j < b → lt (f i) (f j)
theorem Srt.mono {lt : α → α → Prop} {f : Nat → α} {a b c d : Nat} (h : Srt lt f a b) (h1 : a ≤ c) (h2 : d ≤ b) : Srt lt f c d := fun i j hi hij hj => h i j (by omega) hij (by omega)
theorem Srt.none (f : Nat → α) (a b : Nat) (h : b ≤ a + 1) : Srt lt f a b := fun i j h1 h2 h3 => by omega
theorem Srt.congr {lt : α → α → Prop} {f g : Nat → α} {a b : Nat} (h : Srt lt f a b) (e : ∀ i, a ≤ i → i < b → g i = f i) : Srt lt g a b := fun i j hi hij hj => by rw [e i hi (by omega), e j (by omega) hj]; exact h i j hi hij hj
/-- Two parts, the first one ahead of the second one. -/
theorem Srt.join {lt : α → α → Prop} {f : Nat → α} {a m b : Nat} (h1 : Srt lt f a m) (h2 : Srt lt f m b) (h3 : ∀ i j, a ≤ i → i < m → m ≤ j → j < b → lt (f i) (f j)) : Srt lt f a b := fun i j hi hij hj => by
  by_cases hjm : j < m
  · exact h1 i j hi hij hjm
  · by_cases him : i < m
    · exact h3 i j hi him (by omega) hj
    · exact h2 i j (by omega) hij hj
/-- Where a part lies, so do its things behind another order. -/
theorem PermIn.mem {f g : Nat → α} {a b i : Nat} (h : PermIn f g a b) (h1 : a ≤ i) (h2 : i < b) : ∃ j, a ≤ j ∧ j < b ∧ g i = f j := by
  obtain ⟨p, q, k1, _⟩ := h
  obtain ⟨p1, p2, _, _, _, _, e⟩ := k1 i h1 h2
  exact ⟨p i, p1, p2, e⟩
theorem PermIn.out {f g : Nat → α} {a b i : Nat} (h : PermIn f g a b) (h1 : ¬ (a ≤ i ∧ i < b)) : g i = f i := by
  obtain ⟨p, q, _, k2⟩ := h
  exact k2 i h1
/-- The inner loop of sorting by insertion: the place j is not yet right. -/
def InsAt (h : Nat → α) (a i j : Nat) : Prop := Srt lt h a j ∧ Srt lt h j (i + 1) ∧ ∀ x y, a ≤ x → x < j → j < y → y ≤ i → lt (h x) (h y)
theorem insAt_start {h : Nat → α} {a i : Nat} (hs : Srt lt h a i) : InsAt lt h a i i := ⟨hs, Srt.none lt h i (i + 1) (by omega), fun x y _ _ h1 h2 => by omega⟩
theorem insAt_step {h : Nat → α} {a i j : Nat} (hj : a < j) (hji : j ≤ i) (hI : InsAt lt h a i j) (hlt : lt (h j) (h (j - 1))) : InsAt lt (swapF h j (j - 1)) a i (j - 1) := by
  obtain ⟨h1, h2, h3⟩ := hI
  have e : ∀ x, x ≠ j → x ≠ j - 1 → swapF h j (j - 1) x = h x := fun x n1 n2 => by unfold swapF; rw [if_neg n1, if_neg n2]
  have ej : swapF h j (j - 1) j = h (j - 1) := by unfold swapF; rw [if_pos rfl]
  have ej1 : swapF h j (j - 1) (j - 1) = h j := by unfold swapF; rw [if_neg (by omega), if_pos rfl]
  refine ⟨(h1.mono (Nat.le_refl _) (by omega)).congr fun x hx hx2 => e x (by omega) (by omega), ?_, ?_⟩
  · intro x y hx hxy hy
    by_cases hxj : x = j - 1
    · subst hxj
      rw [ej1]
      by_cases hyj : y = j
      · subst hyj; rw [ej]; exact hlt
      · rw [e y hyj (by omega)]; exact h2 j y (Nat.le_refl _) (by omega) hy
    · by_cases hxj2 : x = j
      · subst hxj2
        rw [ej, e y (by omega) (by omega)]
        exact h3 _ y (by omega) (by omega) (by omega) (by omega)
      · rw [e x hxj2 hxj, e y (by omega) (by omega)]
        exact h2 x y (by omega) hxy hy
  · intro x y hx hxj hy hyi
    rw [e x (by omega) (by omega)]
    by_cases hyj : y = j
    · subst hyj; rw [ej]; exact h1 x _ hx (by omega) (by omega)
    · rw [e y hyj (by omega)]; exact h3 x y hx (by omega) (by omega) hyi
theorem insAt_end {h : Nat → α} {a i j : Nat} (ho : OrdOn lt h a (i + 1)) (haj : a ≤ j) (hji : j ≤ i) (hI : InsAt lt h a i j) (hend : j = a ∨ ¬ lt (h j) (h (j - 1))) : Srt lt h a (i + 1) := by
  obtain ⟨h1, h2, h3⟩ := hI
  refine h1.join h2 fun x y hx hxj hy hyi => ?_
  by_cases hyj : j < y
  · exact h3 x y hx hxj hyj (by omega)
  · obtain rfl : y = j := by omega
    rcases hend with rfl | hn
    · omega
    · have hlast : lt (h (y - 1)) (h y) := by
        rcases ho.tot y (y - 1) haj (by omega) (by omega) (by omega) (by omega) with h | h
        · exact absurd h hn
        · exact h
      by_cases hxy : x = y - 1
      · subst hxy; exact hlast
      · exact ho.tr _ _ _ (h1 x (y - 1) hx (by omega) (by omega)) hlast
/-- n places from a on change with those from b on. -/
def swapR (f : Nat → α) (a b n : Nat) : Nat → α := fun x => if a ≤ x ∧ x < a + n then f (x - a + b) else if b ≤ x ∧ x < b + n then f (x - b + a) else f x
theorem swapR_zero (f : Nat → α) (a b : Nat) : swapR f a b 0 = f := by
  funext x; unfold swapR; rw [if_neg (by omega), if_neg (by omega)]
theorem swapR_succ (f : Nat → α) (a b n : Nat) (h : a + n < b) : swapR f a b (n + 1) = swapF (swapR f a b n) (a + n) (b + n) := by
  funext x
  unfold swapF
  by_cases h1 : x = a + n
  · subst h1
    rw [if_pos rfl]
    unfold swapR
    rw [if_pos (by omega), if_neg (by omega), if_neg (by omega)]
    congr 1; omega
  · rw [if_neg h1]
    by_cases h2 : x = b + n
    · subst h2
      rw [if_pos rfl]
      unfold swapR
      rw [if_neg (by omega), if_pos (by omega), if_neg (by omega), if_neg (by omega)]
      congr 1; omega
    · rw [if_neg h2]
      unfold swapR
      by_cases h3 : a ≤ x ∧ x < a + n
      · rw [if_pos h3, if_pos (by omega)]
      · rw [if_neg h3, if_neg (by omega)]
        by_cases h4 : b ≤ x ∧ x < b + n
        · rw [if_pos h4, if_pos (by omega)]
        · rw [if_neg h4, if_neg (by omega)]
/-- Two parts that lie side by side change. -/
def rotF (f : Nat → α) (a m b : Nat) : Nat → α := fun x => if a ≤ x ∧ x < a + (b - m) then f (x + (m - a)) else if a + (b - m) ≤ x ∧ x < b then f (x - (b - m)) else f x
theorem rotF_left (f : Nat → α) {a m b i j : Nat} (hi : i = m - a) (hj : j = b - m) (ha : a ≤ m) (hb : m ≤ b) (h : j < i) (hj0 : 0 < j) : rotF (swapR f a m j) (a + j) m b = rotF f a m b := by
  subst hi hj
  funext x
  unfold rotF swapR
  by_cases h1 : x < a
  · rw [if_neg (by omega), if_neg (by omega), if_neg (by omega), if_neg (by omega), if_neg (by omega), if_neg (by omega)]
  · by_cases h2 : x < a + (b - m)
    · rw [if_neg (by omega), if_neg (by omega), if_pos (by omega), if_pos (by omega)]
      congr 1; omega
    · by_cases h3 : x < b
      · by_cases h4 : x < a + (b - m) + (b - m)
        · rw [if_pos (by omega), if_neg (by omega), if_pos (by omega), if_neg (by omega), if_pos (by omega)]
          congr 1; omega
        · rw [if_neg (by omega), if_pos (by omega), if_neg (by omega), if_neg (by omega), if_neg (by omega), if_pos (by omega)]
      · rw [if_neg (by omega), if_neg (by omega), if_neg (by omega), if_neg (by omega), if_neg (by omega), if_neg (by omega)]
theorem rotF_right (f : Nat → α) {a m b i j : Nat} (hi : i = m - a) (hj : j = b - m) (ha : a ≤ m) (hb : m ≤ b) (h : i < j) (hi0 : 0 < i) : rotF (swapR f a (m + j - i) i) a m (b - i) = rotF f a m b := by
  subst hi hj
  funext x
  unfold rotF swapR
  by_cases h1 : x < a
  · rw [if_neg (by omega), if_neg (by omega), if_neg (by omega), if_neg (by omega), if_neg (by omega), if_neg (by omega)]
  · by_cases h2 : x < a + (b - (m - a) - m)
    · rw [if_pos (by omega), if_neg (by omega), if_neg (by omega), if_pos (by omega)]
    · by_cases h3 : x < b - (m - a)
      · rw [if_neg (by omega), if_pos (by omega), if_pos (by omega), if_pos (by omega)]
        congr 1; omega
      · by_cases h4 : x < b
        · rw [if_neg (by omega), if_neg (by omega), if_neg (by omega), if_pos (by omega), if_neg (by omega), if_pos (by omega)]
          congr 1; omega
        · rw [if_neg (by omega), if_neg (by omega), if_neg (by omega), if_neg (by omega), if_neg (by omega), if_neg (by omega)]
theorem rotF_same (f : Nat → α) {a m b i : Nat} (hi : i = m - a) (hj : i = b - m) (ha : a ≤ m) (hb : m ≤ b) : swapR f a m i = rotF f a m b := by
  funext x
  unfold rotF swapR
  by_cases h1 : x < a
  · rw [if_neg (by omega), if_neg (by omega), if_neg (by omega), if_neg (by omega)]
  · by_cases h2 : x < m
    · rw [if_pos (by omega), if_pos (by omega)]
      congr 1; omega
    · by_cases h3 : x < b
      · rw [if_neg (by omega), if_pos (by omega), if_neg (by omega), if_pos (by omega)]
        congr 1; omega
      · rw [if_neg (by omega), if_neg (by omega), if_neg (by omega), if_neg (by omega)]
theorem rot_perm (f : Nat → α) {a m b : Nat} (ha : a ≤ m) (hb : m ≤ b) : PermIn f (rotF f a m b) a b := by
  refine ⟨fun x => if x < a + (b - m) then x + (m - a) else x - (b - m), fun x => if x < m then x + (b - m) else x - (m - a), fun x h1 h2 => ?_, fun x hx => ?_⟩
  · by_cases h3 : x < a + (b - m)
    · by_cases h4 : x < m
      · simp only [if_pos h3, if_pos h4, if_neg (show ¬ x + (m - a) < m by omega), if_neg (show ¬ x + (b - m) < a + (b - m) by omega)]
        refine ⟨by omega, by omega, by omega, by omega, by omega, by omega, ?_⟩
        unfold rotF; rw [if_pos ⟨h1, h3⟩]
      · simp only [if_pos h3, if_neg h4, if_neg (show ¬ x + (m - a) < m by omega), if_pos (show x - (m - a) < a + (b - m) by omega)]
        refine ⟨by omega, by omega, by omega, by omega, by omega, by omega, ?_⟩
        unfold rotF; rw [if_pos ⟨h1, h3⟩]
    · by_cases h4 : x < m
      · simp only [if_neg h3, if_pos h4, if_pos (show x - (b - m) < m by omega), if_neg (show ¬ x + (b - m) < a + (b - m) by omega)]
        refine ⟨by omega, by omega, by omega, by omega, by omega, by omega, ?_⟩
        unfold rotF; rw [if_neg (by omega), if_pos (by omega)]
      · simp only [if_neg h3, if_neg h4, if_pos (show x - (b - m) < m by omega), if_pos (show x - (m - a) < a + (b - m) by omega)]
        refine ⟨by omega, by omega, by omega, by omega, by omega, by omega, ?_⟩
        unfold rotF; rw [if_neg (by omega), if_pos (by omega)]
  · unfold rotF; rw [if_neg (by omega), if_neg (by omega)]
theorem rot_none (f : Nat → α) {a m b : Nat} (ha : a ≤ m) (hb : m ≤ b) (h : a = m ∨ m = b) : rotF f a m b = f := by
  funext x
  unfold rotF
  by_cases h1 : a ≤ x ∧ x < a + (b - m)
  · rw [if_pos h1]; congr 1; omega
  · rw [if_neg h1]
    by_cases h2 : a + (b - m) ≤ x ∧ x < b
    · rw [if_pos h2]; congr 1; omega
    · rw [if_neg h2]
end
end Go.Proofs.Ytonffapiamhdbaa

namespace Go.Proofs.Ytonffapiamhdbaa
set_option linter.unusedVariables false
set_option linter.unusedSimpArgs false
set_option maxRecDepth 100000
section
variable {α : Type}
theorem rotF_one (f : Nat → α) (a m : Nat) (h : a ≤ m) : rotF f a m m = f := rot_none f h (Nat.le_refl _) (.inr rfl)
/-- A thing goes one place on. -/
theorem rot_up (f : Nat → α) {a k : Nat} (h : a ≤ k) : swapF (rotF f a (a + 1) (k + 1)) k (k + 1) = rotF f a (a + 1) (k + 2) := by
  funext x
  unfold swapF rotF
  by_cases h1 : x = k
  · subst h1
    rw [if_pos rfl, if_neg (by omega), if_neg (by omega), if_pos (by omega)]
    congr 1; omega
  · rw [if_neg h1]
    by_cases h2 : x = k + 1
    · subst h2
      rw [if_pos rfl, if_neg (by omega), if_pos (by omega), if_neg (by omega), if_pos (by omega)]
      congr 1; omega
    · rw [if_neg h2]
      by_cases h3 : a ≤ x ∧ x < k
      · rw [if_pos (by omega), if_pos (by omega)]
      · rw [if_neg (by omega), if_neg (by omega), if_neg (by omega), if_neg (by omega)]
/-- A thing goes one place back. -/
theorem rot_down (f : Nat → α) {k m : Nat} (h0 : 0 < k) (h : k ≤ m) : swapF (rotF f k m (m + 1)) k (k - 1) = rotF f (k - 1) m (m + 1) := by
  funext x
  unfold swapF rotF
  by_cases h1 : x = k
  · subst h1
    rw [if_pos rfl, if_neg (by omega), if_neg (by omega), if_neg (by omega), if_pos (by omega)]
    congr 1; omega
  · rw [if_neg h1]
    by_cases h2 : x = k - 1
    · subst h2
      rw [if_pos rfl, if_pos (by omega), if_pos (by omega)]
      try (congr 1; omega)
    · rw [if_neg h2]
      by_cases h3 : k + 1 ≤ x ∧ x < m + 1
      · rw [if_neg (by omega), if_pos (by omega), if_neg (by omega), if_pos (by omega)]
      · rw [if_neg (by omega), if_neg (by omega), if_neg (by omega), if_neg (by omega)]
variable {lt : α → α → Prop}
/-- The parts behind a rotation. -/
theorem rot_parts {f : Nat → α} {a s m e b : Nat} (h1 : a ≤ s) (h2 : s ≤ m) (h3 : m ≤ e) (h4 : e ≤ b) (hl : Srt lt f a m) (hr : Srt lt f m b) :
    Srt lt (rotF f s m e) a s ∧ Srt lt (rotF f s m e) s (s + (e - m)) ∧ Srt lt (rotF f s m e) (s + (e - m)) e ∧ Srt lt (rotF f s m e) e b ∧
    (∀ x, a ≤ x → x < s → rotF f s m e x = f x) ∧ (∀ x, s ≤ x → x < s + (e - m) → rotF f s m e x = f (x + (m - s))) ∧ (∀ x, s + (e - m) ≤ x → x < e → rotF f s m e x = f (x - (e - m))) ∧ (∀ x, e ≤ x → rotF f s m e x = f x) := by
  have e1 : ∀ x, a ≤ x → x < s → rotF f s m e x = f x := fun x k1 k2 => by unfold rotF; rw [if_neg (by omega), if_neg (by omega)]
  have e2 : ∀ x, s ≤ x → x < s + (e - m) → rotF f s m e x = f (x + (m - s)) := fun x k1 k2 => by unfold rotF; rw [if_pos (by omega)]
  have e3 : ∀ x, s + (e - m) ≤ x → x < e → rotF f s m e x = f (x - (e - m)) := fun x k1 k2 => by unfold rotF; rw [if_neg (by omega), if_pos (by omega)]
  have e4 : ∀ x, e ≤ x → rotF f s m e x = f x := fun x k1 => by unfold rotF; rw [if_neg (by omega), if_neg (by omega)]
  refine ⟨(hl.mono (Nat.le_refl _) h2).congr e1, fun i j hi hij hj => ?_, fun i j hi hij hj => ?_, (hr.mono h3 (Nat.le_refl _)).congr fun x k1 _ => e4 x k1, e1, e2, e3, e4⟩
  · rw [e2 i hi (by omega), e2 j (by omega) hj]; exact hr _ _ (by omega) (by omega) (by omega)
  · rw [e3 i hi (by omega), e3 j (by omega) hj]; exact hl _ _ (by omega) (by omega) (by omega)
theorem rot_srt {f : Nat → α} {a s m e b : Nat} (h1 : a ≤ s) (h2 : s ≤ m) (h3 : m ≤ e) (h4 : e ≤ b) (hl : Srt lt f a m) (hr : Srt lt f m b)
    (c1 : ∀ x y, a ≤ x → x < s → m ≤ y → y < e → lt (f x) (f y)) (c2 : ∀ y x, m ≤ y → y < e → s ≤ x → x < m → lt (f y) (f x)) (c3 : ∀ x y, s ≤ x → x < m → e ≤ y → y < b → lt (f x) (f y)) (c4 : ∀ x y, a ≤ x → x < s → e ≤ y → y < b → lt (f x) (f y)) : Srt lt (rotF f s m e) a b := by
  obtain ⟨p1, p2, p3, p4, e1, e2, e3, e4⟩ := rot_parts h1 h2 h3 h4 hl hr
  have q1 : Srt lt (rotF f s m e) a (s + (e - m)) := p1.join p2 fun x y hx hxs hy hye => by
    rw [e1 x hx hxs, e2 y hy hye]; exact c1 _ _ hx hxs (by omega) (by omega)
  have q2 : Srt lt (rotF f s m e) a e := q1.join p3 fun x y hx hxs hy hye => by
    rw [e3 y hy hye]
    by_cases hxs2 : x < s
    · rw [e1 x hx hxs2]; exact hl _ _ hx (by omega) (by omega)
    · rw [e2 x (by omega) hxs]; exact c2 _ _ (by omega) (by omega) (by omega) (by omega)
  refine q2.join p4 fun x y hx hxs hy hye => ?_
  rw [e4 y hy]
  by_cases k1 : x < s
  · rw [e1 x hx k1]; exact c4 _ _ hx k1 hy hye
  · by_cases k2 : x < s + (e - m)
    · rw [e2 x (by omega) k2]; exact hr _ _ (by omega) (by omega) hye
    · rw [e3 x (by omega) hxs]; exact c3 _ _ (by omega) (by omega) hy hye
/-- One thing ahead of a sorted part is put in: its place is i. -/
theorem merge_left {f : Nat → α} {a i b : Nat} (ho : OrdOn lt f a b) (hi : a + 1 ≤ i) (hib : i ≤ b) (hr : Srt lt f (a + 1) b) (c1 : ∀ x, a + 1 ≤ x → x < i → lt (f x) (f a)) (c2 : ∀ x, i ≤ x → x < b → ¬ lt (f x) (f a)) : Srt lt (rotF f a (a + 1) i) a b :=
  rot_srt (Nat.le_refl _) (by omega) hi hib (Srt.none lt f a (a + 1) (Nat.le_refl _)) hr (fun x y h1 h2 => by omega) (fun y x h1 h2 h3 h4 => by
    obtain rfl : x = a := by omega
    exact c1 y h1 h2) (fun x y h1 h2 h3 h4 => by
    obtain rfl : x = a := by omega
    rcases ho.tot x y (Nat.le_refl _) (by omega) (by omega) h4 (by omega) with h | h
    · exact h
    · exact absurd h (c2 y h3 h4)) (fun x y h1 h2 => by omega)
/-- One thing behind a sorted part is put in: its place is i. -/
theorem merge_right {f : Nat → α} {a i m : Nat} (ho : OrdOn lt f a (m + 1)) (hi : a ≤ i) (him : i ≤ m) (hl : Srt lt f a m) (c1 : ∀ x, a ≤ x → x < i → ¬ lt (f m) (f x)) (c2 : ∀ x, i ≤ x → x < m → lt (f m) (f x)) : Srt lt (rotF f i m (m + 1)) a (m + 1) :=
  rot_srt hi him (by omega) (Nat.le_refl _) hl (Srt.none lt f m (m + 1) (Nat.le_refl _)) (fun x y h1 h2 h3 h4 => by
    obtain rfl : y = m := by omega
    rcases ho.tot x y h1 (by omega) (by omega) (by omega) (by omega) with h | h
    · exact h
    · exact absurd h (c1 x h1 h2)) (fun y x h1 h2 h3 h4 => by
    obtain rfl : y = m := by omega
    exact c2 x h3 h4) (fun x y h1 h2 h3 h4 => by omega) (fun x y h1 h2 h3 h4 => by omega)
/-- Where two sorted parts are cut: s, and its mate. -/
theorem cut_parts {f : Nat → α} {a m b mid n p s0 r0 s : Nat} (ho : OrdOn lt f a b) (ha : a < m) (hb : m < b) (hmid : mid = (a + b) / 2) (hn : n = mid + m) (hp : p = n - 1)
    (hc : (mid < m ∧ s0 = n - b ∧ r0 = mid) ∨ (m ≤ mid ∧ s0 = a ∧ r0 = m)) (hl : Srt lt f a m) (hr : Srt lt f m b) (h1 : s0 ≤ s) (h2 : s ≤ r0)
    (c1 : ∀ c, s0 ≤ c → c < s → ¬ lt (f (p - c)) (f c)) (c2 : ∀ c, s ≤ c → c < r0 → lt (f (p - c)) (f c)) :
    a ≤ s ∧ s ≤ m ∧ m ≤ n - s ∧ n - s ≤ b ∧ s + (n - s - m) = mid ∧ (∀ x y, a ≤ x → x < s → n - s ≤ y → y < b → lt (f x) (f y)) ∧ (∀ y x, m ≤ y → y < n - s → s ≤ x → x < m → lt (f y) (f x)) := by
  have hm1 : 2 * mid ≤ a + b ∧ a + b < 2 * mid + 2 := by omega
  refine ⟨by omega, by omega, by omega, by omega, by omega, fun x y hx hxs hy hyb => ?_, fun y x hy hyn hx hxm => ?_⟩
  · by_cases hs : s = s0
    · omega
    · have hq := c1 (s - 1) (by omega) (by omega)
      rw [show p - (s - 1) = n - s by omega] at hq
      have hlt : lt (f (s - 1)) (f (n - s)) := by
        rcases ho.tot (s - 1) (n - s) (by omega) (by omega) (by omega) (by omega) (by omega) with h | h
        · exact h
        · exact absurd h hq
      have hx1 : x = s - 1 ∨ lt (f x) (f (s - 1)) := by
        by_cases h : x = s - 1
        · exact .inl h
        · exact .inr (hl x (s - 1) hx (by omega) (by omega))
      have hy1 : y = n - s ∨ lt (f (n - s)) (f y) := by
        by_cases h : y = n - s
        · exact .inl h
        · exact .inr (hr (n - s) y (by omega) (by omega) hyb)
      have h3 : lt (f x) (f (n - s)) := by
        rcases hx1 with rfl | h
        · exact hlt
        · exact ho.tr _ _ _ h hlt
      rcases hy1 with rfl | h
      · exact h3
      · exact ho.tr _ _ _ h3 h
  · by_cases hs : s = r0
    · omega
    · have hq := c2 s (Nat.le_refl _) (by omega)
      rw [show p - s = n - s - 1 by omega] at hq
      have hy1 : y = n - s - 1 ∨ lt (f y) (f (n - s - 1)) := by
        by_cases h : y = n - s - 1
        · exact .inl h
        · exact .inr (hr y (n - s - 1) hy (by omega) (by omega))
      have hx1 : x = s ∨ lt (f s) (f x) := by
        by_cases h : x = s
        · exact .inl h
        · exact .inr (hl s x (by omega) (by omega) hxm)
      have h3 : lt (f y) (f s) := by
        rcases hy1 with rfl | h
        · exact hq
        · exact ho.tr _ _ _ h hq
      rcases hx1 with rfl | h
      · exact h3
      · exact ho.tr _ _ _ h3 h
/-- If it is so at c, then at those behind it, too. -/
theorem cut_mono {f : Nat → α} {a m b mid n p s0 r0 c c' : Nat} (ho : OrdOn lt f a b) (ha : a < m) (hb : m < b) (hmid : mid = (a + b) / 2) (hn : n = mid + m) (hp : p = n - 1)
    (hc : (mid < m ∧ s0 = n - b ∧ r0 = mid) ∨ (m ≤ mid ∧ s0 = a ∧ r0 = m)) (hl : Srt lt f a m) (hr : Srt lt f m b) (h1 : s0 ≤ c) (h2 : c ≤ c') (h3 : c' < r0) (h : lt (f (p - c)) (f c)) : lt (f (p - c')) (f c') := by
  have hm1 : 2 * mid ≤ a + b ∧ a + b < 2 * mid + 2 := by omega
  by_cases he : c = c'
  · subst he; exact h
  · exact ho.tr _ _ _ (hr (p - c') (p - c) (by omega) (by omega) (by omega)) (ho.tr _ _ _ h (hl c c' (by omega) (by omega) (by omega)))
/-- Behind a cut: both halves are two sorted parts each, and the left one is ahead of the right one. -/
theorem cut_done {f : Nat → α} {a s m e b mid : Nat} (h1 : a ≤ s) (h2 : s ≤ m) (h3 : m ≤ e) (h4 : e ≤ b) (hmid : s + (e - m) = mid) (hl : Srt lt f a m) (hr : Srt lt f m b)
    (c1 : ∀ x y, a ≤ x → x < s → e ≤ y → y < b → lt (f x) (f y)) (c2 : ∀ y x, m ≤ y → y < e → s ≤ x → x < m → lt (f y) (f x)) :
    Srt lt (rotF f s m e) a s ∧ Srt lt (rotF f s m e) s mid ∧ Srt lt (rotF f s m e) mid e ∧ Srt lt (rotF f s m e) e b ∧ ∀ x y, a ≤ x → x < mid → mid ≤ y → y < b → lt (rotF f s m e x) (rotF f s m e y) := by
  obtain ⟨p1, p2, p3, p4, e1, e2, e3, e4⟩ := rot_parts h1 h2 h3 h4 hl hr
  subst hmid
  refine ⟨p1, p2, p3, p4, fun x y hx hxm hy hyb => ?_⟩
  by_cases k1 : x < s
  · rw [e1 x hx k1]
    by_cases k2 : y < e
    · rw [e3 y hy k2]; exact hl _ _ hx (by omega) (by omega)
    · rw [e4 y (by omega)]; exact c1 _ _ hx k1 (by omega) hyb
  · rw [e2 x (by omega) hxm]
    by_cases k2 : y < e
    · rw [e3 y hy k2]; exact c2 _ _ (by omega) (by omega) (by omega) (by omega)
    · rw [e4 y (by omega)]; exact hr _ _ (by omega) (by omega) hyb
/-- Both halves are sorted in their places: all is. -/
theorem halves_done {g g1 g2 : Nat → α} {a mid b : Nat} (ha : a ≤ mid) (hb : mid ≤ b) (p1 : PermIn g g1 a mid) (s1 : Srt lt g1 a mid) (p2 : PermIn g1 g2 mid b) (s2 : Srt lt g2 mid b)
    (hx : ∀ x y, a ≤ x → x < mid → mid ≤ y → y < b → lt (g x) (g y)) : Srt lt g2 a b ∧ PermIn g g2 a b := by
  refine ⟨(s1.congr fun i h1 h2 => p2.out (by omega)).join s2 fun x y h1 h2 h3 h4 => ?_, (p1.mono (Nat.le_refl _) hb).trans (p2.mono ha (Nat.le_refl _))⟩
  obtain ⟨y', k1, k2, e2⟩ := p2.mem h3 h4
  obtain ⟨x', k3, k4, e1⟩ := p1.mem h1 h2
  rw [p2.out (i := x) (by omega), e1, e2, p1.out (i := y') (by omega)]
  exact hx _ _ k3 k4 k1 k2
end
end Go.Proofs.Ytonffapiamhdbaa

namespace Go.Proofs.Ytonffapiamhdbaa
set_option linter.unusedVariables false
set_option linter.unusedSimpArgs false
set_option maxRecDepth 100000
/-- An entry: a key's two numbers, and a tree. -/
structure Ent where
  n : Int
  d : Int
  t : Tr
namespace Ent
def zero : Ent := ⟨0, 0, .node 0 0 []⟩
def key (x : Ent) : Int × Int := (x.n, x.d)
/-- Is one ahead of another one? -/
def Ahead (x y : Ent) : Prop := x.n < y.n ∨ x.n = y.n ∧ x.d < y.d
instance (x y : Ent) : Decidable (Ahead x y) := by unfold Ahead; infer_instance
theorem ahead_trans {x y z : Ent} (h1 : Ahead x y) (h2 : Ahead y z) : Ahead x z := by unfold Ahead at *; omega
theorem ahead_irr (x : Ent) : ¬ Ahead x x := by unfold Ahead; omega
theorem ahead_tot {x y : Ent} (h : x.key ≠ y.key) : Ahead x y ∨ Ahead y x := by
  unfold Ahead
  have : ¬ (x.n = y.n ∧ x.d = y.d) := fun e => h (by unfold key; rw [e.1, e.2])
  omega
/-- The i-th of some. -/
def at_ (l : List Ent) (i : Nat) : Ent := l.getD i zero
theorem at_mem {l : List Ent} {i : Nat} (h : i < l.length) : at_ l i ∈ l := by simp [at_, h]
theorem at_take (l : List Ent) (q i : Nat) (h : i < q) : at_ (l.take q) i = at_ l i := by simp [at_, List.getD, List.getElem?_take, h]
theorem take_at {l : List Ent} {k : Nat} (h : k < l.length) : l.take (k + 1) = l.take k ++ [at_ l k] := by
  rw [List.take_succ_eq_append_getElem h]; simp [at_, h]
/-- Is a key among them? -/
def has (l : List Ent) (n d : Int) : Bool := l.any fun x => x.n == n && x.d == d
theorem has_iff {l : List Ent} {n d : Int} : has l n d = true ↔ ∃ x ∈ l, x.n = n ∧ x.d = d := by
  unfold has
  rw [List.any_eq_true]
  constructor
  · rintro ⟨x, hx, h⟩
    simp only [Bool.and_eq_true, beq_iff_eq] at h
    exact ⟨x, hx, h⟩
  · rintro ⟨x, hx, h⟩
    exact ⟨x, hx, by simp [h.1, h.2]⟩
/-- One more, if its key is not there. -/
def put (l : List Ent) (x : Ent) : List Ent := if has l x.n x.d then l else l ++ [x]
theorem put_keys {l : List Ent} {x : Ent} (h : (l.map key).Nodup) : ((put l x).map key).Nodup := by
  unfold put
  cases hh : has l x.n x.d with
  | true => simpa using h
  | false =>
    simp only [Bool.false_eq_true, if_false, List.map_append, List.map_cons, List.map_nil]
    rw [List.nodup_append]
    refine ⟨h, by simp, fun a ha b hb => ?_⟩
    rw [List.mem_singleton] at hb
    subst hb
    rintro rfl
    obtain ⟨y, hy, he⟩ := List.mem_map.1 ha
    have : has l x.n x.d = true := has_iff.2 ⟨y, hy, by unfold key at he; injection he, by unfold key at he; injection he⟩
    rw [hh] at this; cases this
theorem put_len (l : List Ent) (x : Ent) : l.length ≤ (put l x).length ∧ (put l x).length ≤ l.length + 1 := by
  unfold put; split
  · omega
  · simp
/-- What is known of a key. -/
def get (l : List Ent) (n d : Int) : Tr := match l.find? fun x => x.n == n && x.d == d with | some x => x.t | none => .node 0 0 []
/-- All of them strictly by keys. -/
def Up (l : List Ent) : Prop := l.Pairwise Ahead
theorem up_ext : ∀ (l m : List Ent), Up l → Up m → (∀ x, x ∈ l ↔ x ∈ m) → l = m
  | [], [], _, _, _ => rfl
  | [], y :: m, _, _, h => by have := (h y).2 (by simp); cases this
  | x :: l, [], _, _, h => by have := (h x).1 (by simp); cases this
  | x :: l, y :: m, h1, h2, h => by
    have hx := List.pairwise_cons.1 h1
    have hy := List.pairwise_cons.1 h2
    have hxy : x = y := by
      rcases List.mem_cons.1 ((h x).1 (by simp)) with e | e
      · exact e
      · rcases List.mem_cons.1 ((h y).2 (by simp)) with e2 | e2
        · exact e2.symm
        · exact absurd (ahead_trans (hy.1 x e) (hx.1 y e2)) (ahead_irr y)
    subst hxy
    congr 1
    refine up_ext l m hx.2 hy.2 fun z => ⟨fun hz => ?_, fun hz => ?_⟩
    · rcases List.mem_cons.1 ((h z).1 (by simp [hz])) with e | e
      · subst e; exact absurd (hx.1 z hz) (ahead_irr z)
      · exact e
    · rcases List.mem_cons.1 ((h z).2 (by simp [hz])) with e | e
      · subst e; exact absurd (hy.1 z hz) (ahead_irr z)
      · exact e
/-- The place of one among sorted ones, from behind. -/
def insK (x : Ent) (l : List Ent) : Nat → Nat
  | 0 => 0
  | k + 1 => if Ahead x (at_ l k) then insK x l k else k + 1
theorem insK_le (x : Ent) (l : List Ent) : ∀ k, insK x l k ≤ k
  | 0 => Nat.le_refl _
  | k + 1 => by
    unfold insK
    have := insK_le x l k
    split <;> omega
theorem insK_ahead (x : Ent) (l : List Ent) : ∀ k i, insK x l k ≤ i → i < k → Ahead x (at_ l i)
  | 0, i, _, h => by omega
  | k + 1, i, h1, h2 => by
    unfold insK at h1
    by_cases h : Ahead x (at_ l k)
    · rw [if_pos h] at h1
      by_cases hi : i = k
      · subst hi; exact h
      · exact insK_ahead x l k i h1 (by omega)
    · rw [if_neg h] at h1; omega
theorem insK_last (x : Ent) (l : List Ent) : ∀ k, 0 < insK x l k → ¬ Ahead x (at_ l (insK x l k - 1))
  | 0, h => by unfold insK at h; omega
  | k + 1, h => by
    unfold insK at h ⊢
    by_cases h1 : Ahead x (at_ l k)
    · rw [if_pos h1] at h ⊢; exact insK_last x l k h
    · rw [if_neg h1]; simpa using h1
def ins (l : List Ent) (x : Ent) : List Ent := l.take (insK x l l.length) ++ [x] ++ l.drop (insK x l l.length)
/-- The reference's order: one by one. -/
def sortR : List Ent → List Ent → List Ent
  | out, [] => out
  | out, x :: l => sortR (ins out x) l
theorem sortR_snoc (out l : List Ent) (x : Ent) : sortR out (l ++ [x]) = ins (sortR out l) x := by
  induction l generalizing out with
  | nil => rfl
  | cons y l ih => exact ih (ins out y)
theorem ins_len (l : List Ent) (x : Ent) : (ins l x).length = l.length + 1 := by
  have := insK_le x l l.length
  simp [ins, List.length_append, List.length_take, List.length_drop]; omega
theorem sortR_len (out l : List Ent) : (sortR out l).length = out.length + l.length := by
  induction l generalizing out with
  | nil => rfl
  | cons y l ih => rw [sortR, ih, ins_len]; simp; omega
theorem mem_ins {l : List Ent} {x y : Ent} : y ∈ ins l x ↔ y = x ∨ y ∈ l := by
  unfold ins
  simp only [List.mem_append, List.mem_singleton]
  have : y ∈ l ↔ y ∈ l.take (insK x l l.length) ∨ y ∈ l.drop (insK x l l.length) := by
    rw [← List.mem_append, List.take_append_drop]
  rw [this]
  constructor
  · rintro ((h | h) | h)
    · exact .inr (.inl h)
    · exact .inl h
    · exact .inr (.inr h)
  · rintro (h | h | h)
    · exact .inl (.inr h)
    · exact .inl (.inl h)
    · exact .inr h
theorem mem_sortR {out l : List Ent} {y : Ent} : y ∈ sortR out l ↔ y ∈ out ∨ y ∈ l := by
  induction l generalizing out with
  | nil => simp [sortR]
  | cons x l ih =>
    rw [sortR, ih, mem_ins, List.mem_cons]
    constructor
    · rintro ((h | h) | h)
      · exact .inr (.inl h)
      · exact .inl h
      · exact .inr (.inr h)
    · rintro (h | h | h)
      · exact .inl (.inr h)
      · exact .inl (.inl h)
      · exact .inr h
theorem up_at {l : List Ent} (h : Up l) {i j : Nat} (hij : i < j) (hj : j < l.length) : Ahead (at_ l i) (at_ l j) := by
  have := (List.pairwise_iff_getElem.1 h) i j (by omega) hj hij
  simpa [at_, show i < l.length by omega, hj] using this
theorem up_ins {l : List Ent} {x : Ent} (h : Up l) (hx : ∀ y ∈ l, y.key ≠ x.key) : Up (ins l x) := by
  have hK := insK_le x l l.length
  have h1 : ∀ y ∈ l.take (insK x l l.length), Ahead y x := fun y hy => by
    obtain ⟨i, hi, rfl⟩ := List.mem_iff_getElem.1 hy
    have hi' : i < insK x l l.length ∧ i < l.length := by simp at hi; omega
    have e : (l.take (insK x l l.length))[i] = at_ l i := by simp [at_, hi'.2]
    rw [e]
    have hl : ¬ Ahead x (at_ l (insK x l l.length - 1)) := insK_last x l l.length (by omega)
    have hm := at_mem (l := l) (i := insK x l l.length - 1) (by omega)
    have ha : Ahead (at_ l (insK x l l.length - 1)) x := by
      rcases ahead_tot (hx _ hm) with k | k
      · exact k
      · exact absurd k hl
    by_cases he : i = insK x l l.length - 1
    · rw [he]; exact ha
    · exact ahead_trans (up_at h (show i < insK x l l.length - 1 by omega) (by omega)) ha
  have h2 : ∀ y ∈ l.drop (insK x l l.length), Ahead x y := fun y hy => by
    obtain ⟨i, hi, rfl⟩ := List.mem_iff_getElem.1 hy
    have hi' : insK x l l.length + i < l.length := by simp at hi; omega
    have e : (l.drop (insK x l l.length))[i] = at_ l (insK x l l.length + i) := by simp [at_, hi']
    rw [e]
    exact insK_ahead x l l.length _ (by omega) hi'
  have hp : Up (l.take (insK x l l.length)) ∧ Up (l.drop (insK x l l.length)) ∧ ∀ a ∈ l.take (insK x l l.length), ∀ b ∈ l.drop (insK x l l.length), Ahead a b := by
    have := h
    unfold Up at this
    rw [← List.take_append_drop (insK x l l.length) l] at this
    rwa [List.pairwise_append] at this
  unfold Up ins
  rw [List.append_assoc, List.pairwise_append]
  refine ⟨hp.1, ?_, fun a ha b hb => ?_⟩
  · rw [List.singleton_append, List.pairwise_cons]
    exact ⟨h2, hp.2.1⟩
  · rw [List.singleton_append, List.mem_cons] at hb
    rcases hb with rfl | hb
    · exact h1 a ha
    · exact hp.2.2 a ha b hb
theorem up_sortR {out l : List Ent} (h : Up out) (hk : ((out ++ l).map key).Nodup) : Up (sortR out l) := by
  induction l generalizing out with
  | nil => exact h
  | cons x l ih =>
    rw [sortR]
    have hk' := hk
    rw [List.map_append, List.map_cons, List.nodup_append] at hk'
    obtain ⟨k1, k2, k3⟩ := hk'
    have hx : ∀ y ∈ out, y.key ≠ x.key := fun y hy => k3 _ (List.mem_map.2 ⟨y, hy, rfl⟩) _ (by simp)
    refine ih (up_ins h hx) ?_
    have hperm : ((ins out x ++ l).map key).Perm ((out ++ x :: l).map key) := by
      refine List.Perm.map _ ?_
      unfold ins
      have h1 : (out.take (insK x out out.length) ++ [x] ++ out.drop (insK x out out.length)).Perm (out ++ [x]) := by
        rw [List.append_assoc]
        refine (List.Perm.append_left _ (List.perm_append_comm)).trans ?_
        rw [← List.append_assoc, List.take_append_drop]
      refine (List.Perm.append_right l h1).trans ?_
      rw [List.append_assoc, List.singleton_append]
    exact hperm.nodup_iff.2 hk
end Ent
end Go.Proofs.Ytonffapiamhdbaa

namespace Go.Proofs.Ytonffapiamhdbaa
open Go.RowKit
set_option linter.unusedVariables false
set_option linter.unusedSimpArgs false
set_option maxRecDepth 100000
namespace Tr
mutual
def depth : Tr → Nat
  | node _ _ ks => depthL ks + 1
def depthL : List Tr → Nat
  | [] => 0
  | t :: ts => max (depth t) (depthL ts)
end
theorem depth_kids (t : Tr) : t.depth = depthL t.kids + 1 := by cases t; simp [depth, kids]
theorem depthL_append (l r : List Tr) : depthL (l ++ r) = max (depthL l) (depthL r) := by
  induction l with
  | nil => simp [depthL]
  | cons t ts ih => simp only [List.cons_append, depthL, ih]; omega
theorem depthL_snoc (l : List Tr) (t : Tr) : depthL (l ++ [t]) = max (depthL l) t.depth := by rw [depthL_append]; simp [depthL]
theorem depth_le (N : Nat) : ∀ t : Tr, t.size ≤ N → t.depth ≤ t.size := by
  induction N with
  | zero => intro t h; have := size_pos t; omega
  | succ N ih =>
    intro t h
    rw [size_kids] at h ⊢
    rw [depth_kids]
    have h2 : ∀ ks : List Tr, sizeL ks ≤ N → depthL ks ≤ sizeL ks := by
      intro ks
      induction ks with
      | nil => intro _; simp [depthL]
      | cons t ts ih2 => intro hk; simp only [sizeL] at hk; simp only [depthL, sizeL]; have := ih t (by omega); have := ih2 (by omega); omega
    have := h2 t.kids (by omega)
    omega
end Tr
set_option maxHeartbeats 1000000 in
theorem desc_Depth (N : Nat) (hN : N ≤ 4194304) : ∀ (t : Tr) (k n : Int) (a : Option Addr) (m cap : Nat) (w : World) (F : Nat → Prop), t.size ≤ N → IsT w F k n a m cap t →
    Calls Try.prog 53 #[.agg #[.int .i64 k, .int .i64 n, .slice a m cap]] w fun e w' => e = .returned (.int .i64 (t.depth : Nat)) ∧ Below w.heap.size w w' := by
  induction N with
  | zero => intro t k n a m cap w F h; have := Tr.size_pos t; omega
  | succ N ih =>
    intro t k n a m cap w F hs hT
    have IH := Lib.hid (ih (by omega))
    clear ih
    have HT := Lib.hid hT
    have hm : m ≤ N := by
      have := Tr.len_le_sizeL t.kids
      rw [Tr.size_kids] at hs
      rw [hT.em]; omega
    have HS := Lib.hid hs
    clear hT hs
    go_enter Try.func53, Try.ntmps53
    go_wp2_with fail
    go_loopw [3, 9] (fun v i wr => ∃ j d : Nat, j ≤ m ∧ i = .int .i64 j ∧ v = .int .i64 d ∧ d ≤ 4194304 ∧ Hid (d = Tr.depthL (t.kids.take j)) ∧ Below w.heap.size w wr) (fun _ i _ => m - (intOf i).toNat)
    case atStart => exact ⟨0, 0, Nat.zero_le _, rfl, rfl, by omega, by simp [Hid, Tr.depthL], (Below.refl _ _).alloc (Nat.le_refl _) _⟩
    case round =>
      obtain ⟨j, d, hj, rfl, rfl, hd, HD, hbel⟩ := hrel
      by_cases hlt : j < m
      · obtain ⟨b, off, k', n', a', m', c', rfl, hF, hbl, h0, h1, h2, hT'⟩ := (HT.out.below hbel).kid j hlt
        have hj2 : j < t.kids.length := by rw [← HT.out.em]; exact hlt
        have hsz := Tr.size_kid t j hj2
        have hd1 := Tr.depth_le _ (Tr.kid t.kids j) (Nat.le_refl _)
        have hst := Tr.take_kid hj2
        have hs1 : (Tr.kid t.kids j).size ≤ N := by have := HS.out; omega
        obtain ⟨t', ht'⟩ : ∃ t', Tr.kid t.kids j = t' := ⟨_, rfl⟩
        rw [ht'] at hT' hd1 hst hs1
        have CK : Hid (∀ W, Below wr.heap.size wr W → Calls Try.prog 53 #[.agg #[.int .i64 k', .int .i64 n', .slice a' m' c']] W fun e w' => e = .returned (.int .i64 (t'.depth : Nat)) ∧ Below W.heap.size W w') := fun W hb => IH.out t' k' n' a' m' c' W F hs1 (hT'.below hb)
        have HN : Hid (max d t'.depth = Tr.depthL (t.kids.take (j + 1))) := by unfold Hid; rw [hst, Tr.depthL_snoc, ← HD.out]
        obtain ⟨e, he⟩ : ∃ e, t'.depth = e := ⟨_, rfl⟩
        rw [he] at CK HN hd1
        have hmx : max d e ≤ 4194304 := by omega
        clear hT' hst hd1 hsz hj2 ht' he HD
        go_wp2_with fail
        refine (CK.out _ ((Below.refl _ _).alloc (Nat.le_refl _) _)).mono ?_; rintro e1 w1 ⟨rfl, hb1⟩
        go_wp2_with fail
        go_roundw
        case rel => exact ⟨j + 1, max d e, by omega, by go_num, by first | (split <;> (congr 1; omega)) | (congr 1; first | omega | simp), hmx, HN.out, chainA hbel hb1⟩
        case measure => simp [intOf]; omega
      · have hjm : j = m := by omega
        have HE : Hid (t.depth = d + 1) := by unfold Hid; rw [Tr.depth_kids, HD.out, List.take_of_length_le (by rw [← HT.out.em]; omega)]
        clear HD
        go_wp2_with fail
        go_ret
        exact ⟨by rw [HE.out]; go_num, hbel⟩
end Go.Proofs.Ytonffapiamhdbaa

namespace Go.Proofs.Ytonffapiamhdbaa
open Go.RowKit
set_option linter.unusedVariables false
set_option linter.unusedSimpArgs false
set_option maxRecDepth 100000
/-- Cells that read as trees, three a tree; what is below lies in F. -/
inductive CellsT (w : World) (F : Nat → Prop) : List Value → List Tr → Prop
  | nil : CellsT w F [] []
  | cons {k n : Int} {a : Option Addr} {m c : Nat} {t : Tr} {xs : List Value} {ts : List Tr} (h : IsT w F k n a m c t) (hs : CellsT w F xs ts) : CellsT w F (.int .i64 k :: .int .i64 n :: .slice a m c :: xs) (t :: ts)
theorem CellsT.len {w : World} {F : Nat → Prop} {xs : List Value} {ts : List Tr} (h : CellsT w F xs ts) : xs.length = ts.length * 3 := by
  induction h with
  | nil => rfl
  | cons _ _ ih => simp only [List.length_cons, ih]; omega
theorem CellsT.append {w : World} {F : Nat → Prop} {xs ys : List Value} {ts us : List Tr} (h : CellsT w F xs ts) (h2 : CellsT w F ys us) : CellsT w F (xs ++ ys) (ts ++ us) := by
  induction h with
  | nil => exact h2
  | cons h _ ih => exact .cons h ih
theorem CellsT.one {w : World} {F : Nat → Prop} {k n : Int} {a : Option Addr} {m c : Nat} {t : Tr} (h : IsT w F k n a m c t) : CellsT w F [.int .i64 k, .int .i64 n, .slice a m c] [t] := .cons h .nil
theorem CellsT.mono {w : World} {F G : Nat → Prop} {xs : List Value} {ts : List Tr} (h : CellsT w F xs ts) (hs : ∀ b, F b → G b) : CellsT w G xs ts := by
  induction h with
  | nil => exact .nil
  | cons h _ ih => exact .cons (h.mono hs) ih
theorem CellsT.stay {w w' : World} {F : Nat → Prop} {xs : List Value} {ts : List Tr} (h : CellsT w F xs ts) (hs : ∀ b, F b → b < w.heap.size → w'.heap[b]? = w.heap[b]?) : CellsT w' F xs ts := by
  induction h with
  | nil => exact .nil
  | cons h _ ih => exact .cons (h.stay hs) ih
theorem CellsT.later {w w' : World} {F : Nat → Prop} {xs : List Value} {ts : List Tr} (h : CellsT w F xs ts) (hb : Below w.heap.size w w') : CellsT w' F xs ts := h.stay fun b _ hlt => hb.block b hlt
theorem CellsT.oneCell {w : World} {F : Nat → Prop} {xs : List Value} {ts : List Tr} (h : CellsT w F xs ts) : ∀ u ∈ xs, u.oneCell' = true := by
  induction h with
  | nil => intro u hu; cases hu
  | cons _ _ ih =>
    intro u hu
    simp only [List.mem_cons] at hu
    rcases hu with rfl | rfl | rfl | hu
    · rfl
    · rfl
    · rfl
    · exact ih u hu
theorem CellsT.ok {w : World} {F : Nat → Prop} {xs : List Value} {ts : List Tr} (h : CellsT w F xs ts) : ∀ t ∈ ts, t.Ok := by
  induction h with
  | nil => intro t ht; cases ht
  | cons h _ ih =>
    intro t ht
    rcases List.mem_cons.1 ht with rfl | ht
    · exact h.ok
    · exact ih t ht
theorem CellsT.at {w : World} {F : Nat → Prop} {xs : List Value} {ts : List Tr} (h : CellsT w F xs ts) : ∀ i, i < ts.length → ∃ k n a m c, xs[i * 3]? = some (.int .i64 k) ∧ xs[i * 3 + 1]? = some (.int .i64 n) ∧ xs[i * 3 + 2]? = some (.slice a m c) ∧ IsT w F k n a m c (Tr.kid ts i) := by
  induction h with
  | nil => intro i hi; simp at hi
  | cons h hs ih =>
    intro i hi
    cases i with
    | zero => exact ⟨_, _, _, _, _, rfl, rfl, rfl, h⟩
    | succ i =>
      obtain ⟨k, n, a, m, c, h0, h1, h2, h3⟩ := ih i (by simpa using hi)
      refine ⟨k, n, a, m, c, ?_, ?_, ?_, h3⟩
      · rw [show (i + 1) * 3 = i * 3 + 3 by omega]; exact h0
      · rw [show (i + 1) * 3 + 1 = i * 3 + 1 + 3 by omega]; exact h1
      · rw [show (i + 1) * 3 + 2 = i * 3 + 2 + 3 by omega]; exact h2
/-- A row of trees that the call owns, as kids that read. -/
theorem kids_of_own {w : World} {base : Nat} {e : TypeId} {a : Option Addr} {n cap : Nat} {xs : List Value} {F G : Nat → Prop} {ts : List Tr} (h : w.ownsRow base e 3 (.slice a n cap) n xs) (hc : CellsT w F xs ts) (hn : ts.length = n)
    (hF : ∀ b, F b → G b) (hG : ∀ g, a = some ⟨g, 0, none⟩ → G g) : Kids w G a cap ts := by
  rcases h.2 with ⟨hv, h0⟩ | ⟨g, cap', cur, hv, hb, hg, hnc, hcm, hcs, htake⟩
  · simp only [Value.slice.injEq] at hv
    obtain ⟨rfl, _, rfl⟩ := hv
    obtain rfl : ts = [] := List.length_eq_zero_iff.1 (by omega)
    exact .nil
  · simp only [Value.slice.injEq, true_and] at hv
    obtain ⟨rfl, rfl⟩ := hv
    rcases Nat.eq_zero_or_pos n with h0 | hpos
    · obtain rfl : ts = [] := List.length_eq_zero_iff.1 (by omega)
      exact .empty _ _
    · have hat := hc.at
      have hA : ∃ A : Nat → Option Addr × Nat, ∀ i, i < ts.length → ∃ k n, xs[i * 3]? = some (.int .i64 k) ∧ xs[i * 3 + 1]? = some (.int .i64 n) ∧ ∃ m, xs[i * 3 + 2]? = some (.slice (A i).1 m (A i).2) ∧ IsT w F k n (A i).1 m (A i).2 (Tr.kid ts i) := by
        have hp : ∀ i, ∃ p : Option Addr × Nat, i < ts.length → ∃ k n, xs[i * 3]? = some (.int .i64 k) ∧ xs[i * 3 + 1]? = some (.int .i64 n) ∧ ∃ m, xs[i * 3 + 2]? = some (.slice p.1 m p.2) ∧ IsT w F k n p.1 m p.2 (Tr.kid ts i) := fun i => by
          by_cases hi : i < ts.length
          · obtain ⟨k, n, a, m, c, h0, h1, h2, h3⟩ := hat i hi
            exact ⟨(a, c), fun _ => ⟨k, n, h0, h1, m, h2, h3⟩⟩
          · exact ⟨(none, 0), fun h => absurd h hi⟩
        exact ⟨fun i => Classical.choose (hp i), fun i hi => Classical.choose_spec (hp i) hi⟩
      obtain ⟨A, hA⟩ := hA
      have hcell : ∀ j, j < n * 3 → w.cell? ⟨g, j, none⟩ = xs[j]? := fun j hj => World.ownsRow.cellAt ⟨h.1, .inr ⟨g, cap, cur, rfl, hb, hg, hnc, hcm, hcs, htake⟩⟩ j hj
      refine .row g 0 cap ts (fun i => (A i).1) (fun i => (A i).2) (by omega) (by omega) (hG g rfl) (fun i hi => ?_) (fun i hi => ?_) (fun i hi => ?_) (fun i hi => ?_)
      · obtain ⟨k, n', h0, h1, m, h2, h3⟩ := hA i hi
        rw [Nat.zero_add, hcell _ (by omega), h0, h3.ek]
      · obtain ⟨k, n', h0, h1, m, h2, h3⟩ := hA i hi
        rw [Nat.zero_add, hcell _ (by omega), h1, h3.en]
      · obtain ⟨k, n', h0, h1, m, h2, h3⟩ := hA i hi
        rw [Nat.zero_add, hcell _ (by omega), h2, h3.em]
      · obtain ⟨k, n', h0, h1, m, h2, h3⟩ := hA i hi
        exact h3.kids.mono hF
/-- Of the row of trees: the i-th tree's cells. -/
theorem own_cells {w : World} {base : Nat} {e : TypeId} {g n cap : Nat} {xs : List Value} {F : Nat → Prop} {ts : List Tr} (h : w.ownsRow base e 3 (.slice (some ⟨g, 0, none⟩) n cap) n xs) (hc : CellsT w F xs ts) (hn : ts.length = n) (i : Nat) (hi : i < n) :
    ∃ k' n' a' m' c', w.cell? ⟨g, 0 + i * 3, none⟩ = some (.int .i64 k') ∧ w.cell? ⟨g, 0 + i * 3 + 1, none⟩ = some (.int .i64 n') ∧ w.cell? ⟨g, 0 + i * 3 + 2, none⟩ = some (.slice a' m' c') ∧ IsT w F k' n' a' m' c' (Tr.kid ts i) := by
  obtain ⟨k, n', a, m, c, h0, h1, h2, h3⟩ := hc.at i (by omega)
  refine ⟨k, n', a, m, c, ?_, ?_, ?_, h3⟩
  · rw [Nat.zero_add, h.cellAt _ (by omega), h0]
  · rw [Nat.zero_add, h.cellAt _ (by omega), h1]
  · rw [Nat.zero_add, h.cellAt _ (by omega), h2]
theorem own_later3 {w w' : World} {B : Nat} {e : TypeId} {s : Nat} {v : Value} {n : Nat} {xs : List Value} (h : w.ownsRow B e s v n xs) (hb : Below w.heap.size w w') : w'.ownsRow B e s v n xs :=
  h.kept (row := none) ⟨hb.os, hb.tape, hb.output, hb.size, fun j hj _ => hb.block j hj⟩ (by cases v.ownBlock <;> simp)
theorem own_lt3 {wr : World} {e : TypeId} {s : Nat} {v : Value} {n : Nat} {xs : List Value} {B : Nat} (h : wr.ownsRow B e s v n xs) : ∀ k, v.ownBlock = some k → B ≤ k := fun k hk => (h.lt k hk).1
theorem info_desc : (Try.prog.info? 34).map (fun i => (i.zero, i.size, i.bytes)) = some (some (.agg #[.int .i64 0, .int .i64 0, .slice none 0 0]), 3, 40) := by kernel_rfl
namespace Tr
mutual
/-- All nodes, a node ahead of those below it. -/
def nodes : Tr → List Tr
  | node k n ks => node k n ks :: nodesL ks
def nodesL : List Tr → List Tr
  | [] => []
  | t :: ts => nodes t ++ nodesL ts
end
theorem nodes_kids (t : Tr) : t.nodes = t :: nodesL t.kids := by cases t; simp [nodes, kids]
theorem nodesL_append (l r : List Tr) : nodesL (l ++ r) = nodesL l ++ nodesL r := by
  induction l with
  | nil => simp [nodesL]
  | cons t ts ih => simp only [List.cons_append, nodesL, ih, List.append_assoc]
theorem nodesL_snoc (l : List Tr) (t : Tr) : nodesL (l ++ [t]) = nodesL l ++ t.nodes := by rw [nodesL_append]; simp [nodesL]
theorem nodes_len (N : Nat) : ∀ t : Tr, t.size ≤ N → t.nodes.length = t.size := by
  induction N with
  | zero => intro t h; have := size_pos t; omega
  | succ N ih =>
    intro t h
    rw [size_kids] at h ⊢
    rw [nodes_kids, List.length_cons]
    have h2 : ∀ ks : List Tr, sizeL ks ≤ N → (nodesL ks).length = sizeL ks := by
      intro ks
      induction ks with
      | nil => intro _; simp [nodesL, sizeL]
      | cons t ts ih2 => intro hk; simp only [sizeL] at hk; simp only [nodesL, sizeL, List.length_append]; rw [ih t (by omega), ih2 (by omega)]
    rw [h2 t.kids (by omega)]
theorem nodesL_len (ks : List Tr) : (nodesL ks).length = sizeL ks := by
  induction ks with
  | nil => simp [nodesL, sizeL]
  | cons t ts ih => simp only [nodesL, sizeL, List.length_append]; rw [nodes_len _ t (Nat.le_refl _), ih]
theorem sizeL_take (ks : List Tr) (j : Nat) : sizeL (ks.take j) ≤ sizeL ks := by
  have h := sizeL_append (ks.take j) (ks.drop j)
  rw [List.take_append_drop] at h
  omega
end Tr
set_option maxHeartbeats 1000000 in
theorem ref13_Depth (N : Nat) (hN : N ≤ 4194304) : ∀ (t : Tr) (k n : Int) (a : Option Addr) (m cap : Nat) (w : World) (F : Nat → Prop), t.size ≤ N → IsT w F k n a m cap t →
    Calls Try.prog 39 #[.agg #[.int .i64 k, .int .i64 n, .slice a m cap]] w fun e w' => e = .returned (.int .i64 (t.depth : Nat)) ∧ Below w.heap.size w w' := by
  induction N with
  | zero => intro t k n a m cap w F h; have := Tr.size_pos t; omega
  | succ N ih =>
    intro t k n a m cap w F hs hT
    have IH := Lib.hid (ih (by omega))
    clear ih
    have HT := Lib.hid hT
    have hm : m ≤ N := by
      have := Tr.len_le_sizeL t.kids
      rw [Tr.size_kids] at hs
      rw [hT.em]; omega
    have HS := Lib.hid hs
    clear hT hs
    go_enter Try.func39, Try.ntmps39
    go_wp2_with fail
    go_loopw [3, 4] (fun v i wr => ∃ j d : Nat, j ≤ m ∧ i = .int .i64 j ∧ v = .int .i64 d ∧ d ≤ 4194304 ∧ Hid (d = Tr.depthL (t.kids.take j)) ∧ Below w.heap.size w wr ∧ w.heap.size < wr.heap.size ∧ wr.cell? ⟨w.heap.size, 2, none⟩ = some (.slice a m cap)) (fun _ i _ => m - (intOf i).toNat)
    case atStart => exact ⟨0, 0, Nat.zero_le _, rfl, rfl, by omega, by simp [Hid, Tr.depthL], (Below.refl _ _).alloc (Nat.le_refl _) _, by simp, by simp⟩
    case round =>
      obtain ⟨j, d, hj, rfl, rfl, hd, HD, hbel, hsz0, hcl⟩ := hrel
      by_cases hlt : j < m
      · obtain ⟨b, off, k', n', a', m', c', rfl, hF, hbl, h0, h1, h2, hT'⟩ := (HT.out.below hbel).kid j hlt
        have hj2 : j < t.kids.length := by rw [← HT.out.em]; exact hlt
        have hsz := Tr.size_kid t j hj2
        have hd1 := Tr.depth_le _ (Tr.kid t.kids j) (Nat.le_refl _)
        have hst := Tr.take_kid hj2
        have hs1 : (Tr.kid t.kids j).size ≤ N := by have := HS.out; omega
        obtain ⟨t', ht'⟩ : ∃ t', Tr.kid t.kids j = t' := ⟨_, rfl⟩
        rw [ht'] at hT' hd1 hst hs1
        have CK : Hid (Calls Try.prog 39 #[.agg #[.int .i64 k', .int .i64 n', .slice a' m' c']] wr fun e w' => e = .returned (.int .i64 (t'.depth : Nat)) ∧ Below wr.heap.size wr w') := IH.out t' k' n' a' m' c' wr F hs1 hT'
        have HN : Hid (max d t'.depth = Tr.depthL (t.kids.take (j + 1))) := by unfold Hid; rw [hst, Tr.depthL_snoc, ← HD.out]
        obtain ⟨e, he⟩ : ∃ e, t'.depth = e := ⟨_, rfl⟩
        rw [he] at CK HN hd1
        have hmx : max d e ≤ 4194304 := by omega
        clear hT' hst hd1 hsz hj2 ht' he HD
        go_wp2_with fail
        refine CK.out.mono ?_; rintro e1 w1 ⟨rfl, hb1⟩
        have hcl1 := (hb1.cell (p := ⟨w.heap.size, 2, none⟩) hsz0).trans hcl
        have hsz1 : w.heap.size < w1.heap.size := Nat.lt_of_lt_of_le hsz0 hb1.size
        by_cases hde : d < e
        · have hgt : decide ((e : Int) > (d : Int)) = true := by simp; omega
          go_wp2_with fail
          go_roundw
          case rel => exact ⟨j + 1, e, by omega, by go_num, rfl, by omega, by rw [← HN.out]; show e = max d e; omega, chain hbel hb1, hsz1, hcl1⟩
          case measure => simp [intOf]; omega
        · have hgt : decide ((e : Int) > (d : Int)) = false := by simp; omega
          go_wp2_with fail
          go_roundw
          case rel => exact ⟨j + 1, d, by omega, by go_num, rfl, by omega, by rw [← HN.out]; show d = max d e; omega, chain hbel hb1, hsz1, hcl1⟩
          case measure => simp [intOf]; omega
      · have hjm : j = m := by omega
        have HE : Hid (t.depth = d + 1) := by unfold Hid; rw [Tr.depth_kids, HD.out, List.take_of_length_le (by rw [← HT.out.em]; omega)]
        clear HD
        go_wp2_with fail
        go_ret
        exact ⟨by rw [HE.out]; go_num, hbel⟩
/-- A result: a new row that reads as the trees; what is below them lies in F. -/
def GivesT (F : Nat → Prop) (ts : List Tr) (w : World) (e : Ending) (w' : World) : Prop :=
  ∃ g cap xs, e = .returned (.slice (some ⟨g, 0, none⟩) ts.length cap) ∧ w'.ownsRow w.heap.size 34 3 (.slice (some ⟨g, 0, none⟩) ts.length cap) ts.length xs ∧ CellsT w' F xs ts ∧ Below w.heap.size w w'
end Go.Proofs.Ytonffapiamhdbaa

namespace Go.Proofs.Ytonffapiamhdbaa
open Go.RowKit
set_option linter.unusedVariables false
set_option linter.unusedSimpArgs false
set_option maxRecDepth 100000
def Lt (B : Nat) (b : Nat) : Prop := b < B
theorem own_new3 (w : World) (B : Nat) (e : TypeId) (x y z : Value) (hB : B ≤ w.heap.size) : (w.alloc (.cells #[x, y, z] e)).ownsRow B e 3 (.slice (some ⟨w.heap.size, 0, none⟩) 1 1) 1 [x, y, z] :=
  World.ownsRow_lit w #[x, y, z] 1 hB (by unfold maxLen; omega) rfl
set_option maxHeartbeats 2000000 in
theorem ref_List (N B : Nat) (hN : N ≤ 4194304) : ∀ (t : Tr) (k n : Int) (a : Option Addr) (m cap : Nat) (w : World), t.size ≤ N → IsT w (Lt B) k n a m cap t → B ≤ w.heap.size →
    Calls Try.prog 31 #[.agg #[.int .i64 k, .int .i64 n, .slice a m cap]] w (GivesT (Lt B) t.nodes w) := by
  obtain ⟨i0, hi, hz0, hz1, hz2⟩ := info_parts info_desc
  induction N with
  | zero => intro t k n a m cap w h; have := Tr.size_pos t; omega
  | succ N ih =>
    intro t k n a m cap w hs hT hB
    have IH := Lib.hid (ih (by omega))
    clear ih
    have HT := Lib.hid hT
    have hm : m ≤ N := by
      have := Tr.len_le_sizeL t.kids
      rw [Tr.size_kids] at hs
      rw [hT.em]; omega
    have HS := Lib.hid hs
    clear hT hs
    go_enter Try.func31, Try.ntmps31
    go_wp2_with fail
    go_loopw [3, 4] (fun v i wr => ∃ (j L g c : Nat) (xs : List Value), j ≤ m ∧ i = .int .i64 j ∧ v = .slice (some ⟨g, 0, none⟩) L c ∧ L ≤ N + 1 ∧ Hid (L = (t :: Tr.nodesL (t.kids.take j)).length) ∧ wr.ownsRow w.heap.size 34 3 v L xs ∧ Hid (CellsT wr (Lt B) xs (t :: Tr.nodesL (t.kids.take j))) ∧
      Below w.heap.size w wr ∧ w.heap.size < g ∧ g < wr.heap.size ∧ wr.cell? ⟨w.heap.size, 2, none⟩ = some (.slice a m cap)) (fun _ i _ => m - (intOf i).toNat)
    case atStart =>
      have hb0 : Below w.heap.size w ((w.alloc (.cells #[.int .i64 k, .int .i64 n, .slice a m cap] 34)).alloc (.cells #[.int .i64 k, .int .i64 n, .slice a m cap] 34)) := ((Below.refl _ _).alloc (Nat.le_refl _) _).alloc (by simp) _
      refine ⟨0, 1, w.heap.size + 1, 1, [.int .i64 k, .int .i64 n, .slice a m cap], Nat.zero_le _, rfl, rfl, by omega, rfl, ?_, ?_, hb0, by omega, by simp, ?_⟩
      · have := own_new3 (w.alloc (.cells #[.int .i64 k, .int .i64 n, .slice a m cap] 34)) w.heap.size 34 (.int .i64 k) (.int .i64 n) (.slice a m cap) (by simp)
        simpa using this
      · exact CellsT.one (HT.out.below hb0)
      · rw [cell_past _ _ _ (by simp)]; simp
    case round =>
      obtain ⟨j, L, g, c, xs, hj, rfl, rfl, hL, HL, hown, HC, hbel, hg1, hg2, hcl⟩ := hrel
      by_cases hlt : j < m
      · obtain ⟨b, off, k', n', a', m', c', rfl, hF, hbl, h0, h1, h2, hT'⟩ := (HT.out.below hbel).kid j hlt
        have hj2 : j < t.kids.length := by rw [← HT.out.em]; exact hlt
        have hsz := Tr.size_kid t j hj2
        have hst := Tr.take_kid hj2
        have hs1 : (Tr.kid t.kids j).size ≤ N := by have := HS.out; omega
        have hs2 := Tr.sizeL_take t.kids (j + 1)
        obtain ⟨t', ht'⟩ : ∃ t', Tr.kid t.kids j = t' := ⟨_, rfl⟩
        rw [ht'] at hT' hst hs1
        rw [hst] at hs2
        have hLn : L + t'.nodes.length = (t :: Tr.nodesL (t.kids.take (j + 1))).length := by
          rw [HL.out, hst, Tr.nodesL_snoc]; simp only [List.length_cons, List.length_append]; omega
        have hLb : L + t'.nodes.length ≤ N + 1 := by
          rw [hLn, hst]; simp only [List.length_cons, Tr.nodesL_len]
          have := HS.out; rw [Tr.size_kids] at this; omega
        have HLN := Lib.hid hLn
        have CK : Hid (Calls Try.prog 31 #[.agg #[.int .i64 k', .int .i64 n', .slice a' m' c']] wr (GivesT (Lt B) t'.nodes wr)) := IH.out t' k' n' a' m' c' wr hs1 hT' (Nat.le_trans hB hbel.size)
        have HST := Lib.hid hst
        obtain ⟨M, hM⟩ : ∃ M, t'.nodes.length = M := ⟨_, rfl⟩
        have HM := Lib.hid hM
        have hM1 : 1 ≤ M := by rw [← hM, Tr.nodes_kids]; simp
        rw [hM] at hLb
        clear hT' hst hsz hj2 ht' hs2 hLn hM
        have hgs : w.heap.size ≤ wr.heap.size := hbel.size
        go_wp2_with fail
        refine CK.out.mono ?_; rintro e1 w1 ⟨g2, c2, ys, rfl, hown2, hc2, hb1⟩
        rw [HM.out] at hown2 ⊢
        have hcl1 := (hb1.cell (p := ⟨w.heap.size, 2, none⟩) (by show w.heap.size < wr.heap.size; omega)).trans hcl
        have hb1s := hb1.size
        have hown1 := own_later3 hown hb1
        have hCL1 := hown2.cells (g := g2) rfl
        have hyl : ys.length = M * 3 := hc2.len.trans (by rw [HM.out])
        have hone := hc2.oneCell
        have HC1 : Hid (CellsT w1 (Lt B) xs (t :: Tr.nodesL (t.kids.take j))) := HC.out.later hb1
        have HC2 := Lib.hid hc2
        have HYL := Lib.hid hyl
        have HCL1 := Lib.hid hCL1
        have HONE := Lib.hid hone
        have HOWN1 := Lib.hid hown1
        have hg2l := (hown2.lt g2 rfl).1
        clear hown2 hc2 hyl hCL1 hone hown1 hown h0 h1 h2 hcl
        go_wp2_with (at_builtin; refine wpList_append_lies _ rfl _ _ 32 rfl w.heap.size 34 i0 _ 3 40 Try.underlying32 hi hz0 hz1 hz2 rfl (by decide) _ L xs rfl HOWN1.out _ M c2 ys rfl HYL.out HCL1.out HONE.out (by omega) (by unfold maxLen; omega) (by omega) (by omega) _ rfl ?_)
        intro g3 c3 w2 hown3 hgrow hat hlt3
        simp only [Value.ownBlock, Option.some.injEq] at hat hgrow
        have hb2 : Below w.heap.size w w2 := (chain hbel hb1).grown hgrow (by omega) (fun k hk => by cases hk; omega)
        have hg3 : w.heap.size < g3 := by rcases hat with rfl | rfl <;> omega
        have hC3 : Hid (CellsT w2 (Lt B) (xs ++ ys) (t :: Tr.nodesL (t.kids.take (j + 1)))) := by
          have h1 := HC1.out.append HC2.out
          rw [List.cons_append, ← Tr.nodesL_snoc, ← HST.out] at h1
          exact h1.stay fun b hb hlt => hgrow.block b hlt (by simp only [ne_eq, Option.some.injEq]; unfold Lt at hb; omega)
        have hcl2 := hgrow.cell (a := ⟨w.heap.size, 2, none⟩) hcl1 (by simp; omega)
        clear hcl1 hgrow
        go_wp2_with fail
        go_roundw
        case rel => exact ⟨j + 1, L + M, g3, c3, xs ++ ys, by omega, by go_num, rfl, hLb, by rw [← HM.out]; exact HLN.out, hown3, hC3.out, hb2, hg3, hlt3, hcl2⟩
        case measure => simp [intOf]; omega
      · have hjm : j = m := by omega
        have hE : t.kids.take j = t.kids := List.take_of_length_le (by rw [← HT.out.em]; omega)
        have HL' : Hid (t.nodes.length = L) := by unfold Hid; rw [HL.out, hE, Tr.nodes_kids]
        have HC' : Hid (CellsT wr (Lt B) xs t.nodes) := by unfold Hid; rw [Tr.nodes_kids]; have := HC.out; rw [hE] at this; exact this
        have HO := Lib.hid hown
        clear hE HC HL hown
        go_wp2_with fail
        go_ret
        exact ⟨g, c, xs, by simp [HL'.out], by rw [HL'.out]; exact HO.out, HC'.out, hbel⟩
theorem ref_Much (t : Tr) (k n : Int) (a : Option Addr) (m cap : Nat) (w : World) (B : Nat) (hs : t.size ≤ 4194304) (hT : IsT w (Lt B) k n a m cap t) (hB : B ≤ w.heap.size) :
    Calls Try.prog 21 #[.agg #[.int .i64 k, .int .i64 n, .slice a m cap]] w fun e w' => e = .returned (.bool (decide (80 < t.size))) ∧ Below w.heap.size w w' := by
  have C1 : Hid (∀ W, Below w.heap.size w W → Calls Try.prog 31 #[.agg #[.int .i64 k, .int .i64 n, .slice a m cap]] W (GivesT (Lt B) t.nodes W)) := fun W hb => ref_List 4194304 B (by omega) t k n a m cap W hs (hT.below hb) (Nat.le_trans hB hb.size)
  have HL := Lib.hid (Tr.nodes_len _ t (Nat.le_refl _))
  clear hT
  obtain ⟨S, hS⟩ : ∃ S, t.size = S := ⟨_, rfl⟩
  rw [hS] at HL hs ⊢
  clear hS
  go_enter Try.func21, Try.ntmps21
  go_wp2_with fail
  refine (C1.out _ ((Below.refl _ _).alloc (Nat.le_refl _) _)).mono ?_; rintro e1 w1 ⟨g2, c2, ys, rfl, hown2, hc2, hb1⟩
  rw [HL.out] at hown2 ⊢
  have hb := chainA (Below.refl _ _) hb1
  clear hown2 hc2 hb1
  by_cases h : 80 < S
  · have h1 : decide (80 < S) = true := by simp; omega
    have h2 : decide ((S : Int) > 80) = true := by simp; omega
    go_wp2_with fail
    go_ret
    exact ⟨by simp [h1, h2, h], hb⟩
  · have h1 : decide (80 < S) = false := by simp; omega
    have h2 : decide ((S : Int) > 80) = false := by simp; omega
    go_wp2_with fail
    go_ret
    exact ⟨by simp [h1, h2, h], hb⟩
end Go.Proofs.Ytonffapiamhdbaa

namespace Go.Proofs.Ytonffapiamhdbaa
open Go.RowKit
set_option linter.unusedVariables false
set_option linter.unusedSimpArgs false
set_option maxRecDepth 100000
/-- The slice at address a reads as the trees; its blocks are in F, and no two nodes' kids share one; all may be written. -/
inductive Sep (w : World) : (Nat → Prop) → Option Addr → Nat → List Tr → Prop
  | nil (F : Nat → Prop) : Sep w F none 0 []
  | empty (F : Nat → Prop) (a : Addr) (cap : Nat) : Sep w F (some a) cap []
  | row (F : Nat → Prop) (b cap : Nat) (ks : List Tr) (A : Nat → Option Addr) (C : Nat → Nat) (G : Nat → Nat → Prop) (hpos : 0 < ks.length) (hl : ks.length ≤ cap) (hF : F b)
      (hG : ∀ i x, i < ks.length → G i x → F x ∧ x ≠ b) (hd : ∀ i j x, i < ks.length → j < ks.length → G i x → G j x → i = j) (hfz : ∀ o, w.frozen? ⟨b, o, none⟩ = false)
      (h0 : ∀ i, i < ks.length → w.cell? ⟨b, i * 3, none⟩ = some (.int .i64 (Tr.kid ks i).kind))
      (h1 : ∀ i, i < ks.length → w.cell? ⟨b, i * 3 + 1, none⟩ = some (.int .i64 (Tr.kid ks i).num))
      (h2 : ∀ i, i < ks.length → w.cell? ⟨b, i * 3 + 2, none⟩ = some (.slice (A i) (Tr.kid ks i).kids.length (C i)))
      (hk : ∀ i, i < ks.length → Sep w (G i) (A i) (C i) (Tr.kid ks i).kids) : Sep w F (some ⟨b, 0, none⟩) cap ks
theorem Sep.kids {w : World} {F : Nat → Prop} {a : Option Addr} {cap : Nat} {ks : List Tr} (h : Sep w F a cap ks) : Kids w F a cap ks := by
  induction h with
  | nil => exact .nil
  | empty F a cap => exact .empty a cap
  | row F b cap ks A C G hpos hl hF hG hd hfz h0 h1 h2 _ ih =>
    exact .row b 0 cap ks A C hpos hl hF (fun i hi => by rw [Nat.zero_add]; exact h0 i hi) (fun i hi => by rw [Nat.zero_add]; exact h1 i hi) (fun i hi => by rw [Nat.zero_add]; exact h2 i hi) fun i hi => (ih i hi).mono fun x hx => (hG i x hi hx).1
theorem Sep.mono {w : World} {F G : Nat → Prop} {a : Option Addr} {cap : Nat} {ks : List Tr} (h : Sep w F a cap ks) (hs : ∀ b, F b → G b) : Sep w G a cap ks := by
  cases h with
  | nil => exact .nil _
  | empty F a cap => exact .empty _ a cap
  | row F b cap ks A C H hpos hl hF hG hd hfz h0 h1 h2 hk => exact .row _ b cap ks A C H hpos hl (hs b hF) (fun i x hi hx => ⟨hs x (hG i x hi hx).1, (hG i x hi hx).2⟩) hd hfz h0 h1 h2 hk
theorem Sep.stay {w w' : World} {F : Nat → Prop} {a : Option Addr} {cap : Nat} {ks : List Tr} (h : Sep w F a cap ks) : (∀ b, F b → b < w.heap.size → w'.heap[b]? = w.heap[b]?) → Sep w' F a cap ks := by
  induction h with
  | nil => intro _; exact .nil _
  | empty F a cap => intro _; exact .empty _ a cap
  | row F b cap ks A C G hpos hl hF hG hd hfz h0 h1 h2 _ ih =>
    intro hs
    have hb : b < w.heap.size := World.block_lt_of_cell? w _ (h0 0 hpos)
    have e := fun o => World.cell?_of_block (w := w) (w' := w') (a := ⟨b, o, none⟩) (hs b hF hb)
    have e2 := fun o => World.frozen?_of_block (w := w) (w' := w') (a := ⟨b, o, none⟩) (hs b hF hb)
    exact .row F b cap ks A C G hpos hl hF hG hd (fun o => (e2 o).trans (hfz o)) (fun i hi => (e _).trans (h0 i hi)) (fun i hi => (e _).trans (h1 i hi)) (fun i hi => (e _).trans (h2 i hi)) fun i hi => ih i hi fun x hx hlt => hs x (hG i x hi hx).1 hlt
/-- Two numbers and a slice read as a tree that shares nothing. -/
structure IsS (w : World) (F : Nat → Prop) (k n : Int) (a : Option Addr) (m cap : Nat) (t : Tr) : Prop where
  ek : k = t.kind
  en : n = t.num
  em : m = t.kids.length
  ok : t.Ok
  sep : Sep w F a cap t.kids
theorem IsS.tree {w : World} {F : Nat → Prop} {k n : Int} {a : Option Addr} {m cap : Nat} {t : Tr} (h : IsS w F k n a m cap t) : IsT w F k n a m cap t := ⟨h.ek, h.en, h.em, h.ok, h.sep.kids⟩
theorem IsS.mono {w : World} {F G : Nat → Prop} {k n : Int} {a : Option Addr} {m cap : Nat} {t : Tr} (h : IsS w F k n a m cap t) (hs : ∀ b, F b → G b) : IsS w G k n a m cap t := ⟨h.ek, h.en, h.em, h.ok, h.sep.mono hs⟩
theorem IsS.stay {w w' : World} {F : Nat → Prop} {k n : Int} {a : Option Addr} {m cap : Nat} {t : Tr} (h : IsS w F k n a m cap t) (hs : ∀ b, F b → b < w.heap.size → w'.heap[b]? = w.heap[b]?) : IsS w' F k n a m cap t := ⟨h.ek, h.en, h.em, h.ok, h.sep.stay hs⟩
theorem IsS.later {w w' : World} {F : Nat → Prop} {k n : Int} {a : Option Addr} {m cap : Nat} {t : Tr} (h : IsS w F k n a m cap t) (hb : Below w.heap.size w w') : IsS w' F k n a m cap t := h.stay fun b _ hlt => hb.block b hlt
/-- Cells that read as trees that share nothing. -/
inductive CellsS (w : World) : (Nat → Prop) → List Value → List Tr → Prop
  | nil (F : Nat → Prop) : CellsS w F [] []
  | cons {F H G : Nat → Prop} {k n : Int} {a : Option Addr} {m c : Nat} {t : Tr} {xs : List Value} {ts : List Tr} (h : IsS w H k n a m c t) (hs : CellsS w G xs ts) (hH : ∀ x, H x → F x) (hG : ∀ x, G x → F x) (hd : ∀ x, H x → ¬ G x) :
      CellsS w F (.int .i64 k :: .int .i64 n :: .slice a m c :: xs) (t :: ts)
theorem CellsS.cells {w : World} {F : Nat → Prop} {xs : List Value} {ts : List Tr} (h : CellsS w F xs ts) : CellsT w F xs ts := by
  induction h with
  | nil => exact .nil
  | cons h _ hH hG _ ih => exact .cons (h.tree.mono hH) (ih.mono hG)
theorem CellsS.mono {w : World} {F G : Nat → Prop} {xs : List Value} {ts : List Tr} (h : CellsS w F xs ts) (hs : ∀ b, F b → G b) : CellsS w G xs ts := by
  cases h with
  | nil => exact .nil _
  | cons h h2 hH hG hd => exact .cons h h2 (fun x hx => hs x (hH x hx)) (fun x hx => hs x (hG x hx)) hd
theorem CellsS.stay {w w' : World} {F : Nat → Prop} {xs : List Value} {ts : List Tr} (h : CellsS w F xs ts) : (∀ b, F b → b < w.heap.size → w'.heap[b]? = w.heap[b]?) → CellsS w' F xs ts := by
  induction h with
  | nil => intro _; exact .nil _
  | cons h _ hH hG hd ih => intro hs; exact .cons (h.stay fun b hb => hs b (hH b hb)) (ih fun b hb => hs b (hG b hb)) hH hG hd
theorem CellsS.snoc {w : World} {F H : Nat → Prop} {xs : List Value} {ts : List Tr} {k n : Int} {a : Option Addr} {m c : Nat} {t : Tr} (h : CellsS w F xs ts) (h2 : IsS w H k n a m c t) :
    ∀ K : Nat → Prop, (∀ x, F x → K x) → (∀ x, H x → K x) → (∀ x, F x → ¬ H x) → CellsS w K (xs ++ [.int .i64 k, .int .i64 n, .slice a m c]) (ts ++ [t]) := by
  induction h with
  | nil F => intro K hF hH hd; exact .cons h2 (.nil (fun _ => False)) hH (fun x hx => hx.elim) (fun x _ h => h)
  | cons h3 _ hH' hG' hd' ih =>
    intro K hF hH hd
    exact .cons h3 (ih (fun x => K x ∧ (_ : Prop)) (fun x hx => ⟨hF x (hG' x hx), hx |> Or.inl⟩) (fun x hx => ⟨hH x hx, Or.inr hx⟩) (fun x hx => hd x (hG' x hx))) (fun x hx => hF x (hH' x hx)) (fun x hx => hx.1) (fun x hx h => h.2.elim (hd' x hx) (hd x (hH' x hx)))
theorem CellsS.parts {w : World} {F : Nat → Prop} {xs : List Value} {ts : List Tr} (h : CellsS w F xs ts) :
    ∃ (G : Nat → Nat → Prop) (A : Nat → Option Addr) (C : Nat → Nat), (∀ i x, i < ts.length → G i x → F x) ∧ (∀ i j x, i < ts.length → j < ts.length → G i x → G j x → i = j) ∧
      ∀ i, i < ts.length → xs[i * 3]? = some (.int .i64 (Tr.kid ts i).kind) ∧ xs[i * 3 + 1]? = some (.int .i64 (Tr.kid ts i).num) ∧ xs[i * 3 + 2]? = some (.slice (A i) (Tr.kid ts i).kids.length (C i)) ∧ Sep w (G i) (A i) (C i) (Tr.kid ts i).kids := by
  induction h with
  | nil F => exact ⟨fun _ _ => False, fun _ => none, fun _ => 0, fun i x hi => by simp at hi, fun i j x hi => by simp at hi, fun i hi => by simp at hi⟩
  | @cons F H G k n a m c t xs ts h hs hH hG hd ih =>
    obtain ⟨G', A, C, i1, i2, i3⟩ := ih
    refine ⟨fun i => match i with | 0 => H | i + 1 => G' i, fun i => match i with | 0 => a | i + 1 => A i, fun i => match i with | 0 => c | i + 1 => C i, ?_, ?_, ?_⟩
    · intro i x hi hx
      cases i with
      | zero => exact hH x hx
      | succ i => exact hG x (i1 i x (by simpa using hi) hx)
    · intro i j x hi hj hx hy
      cases i with
      | zero =>
        cases j with
        | zero => rfl
        | succ j => exact absurd (i1 j x (by simpa using hj) hy) (hd x hx)
      | succ i =>
        cases j with
        | zero => exact absurd (i1 i x (by simpa using hi) hx) (hd x hy)
        | succ j => rw [i2 i j x (by simpa using hi) (by simpa using hj) hx hy]
    · intro i hi
      cases i with
      | zero => exact ⟨by show some _ = some _; rw [h.ek]; rfl, by show some _ = some _; rw [h.en]; rfl, by show some _ = some _; rw [h.em]; rfl, h.sep⟩
      | succ i =>
        obtain ⟨j0, j1, j2, j3⟩ := i3 i (by simpa using hi)
        refine ⟨?_, ?_, ?_, j3⟩
        · rw [show (i + 1) * 3 = i * 3 + 3 by omega]; exact j0
        · rw [show (i + 1) * 3 + 1 = i * 3 + 1 + 3 by omega]; exact j1
        · rw [show (i + 1) * 3 + 2 = i * 3 + 2 + 3 by omega]; exact j2
/-- A row of such trees that the call owns. -/
theorem sep_of_own {w : World} {base : Nat} {e : TypeId} {a : Option Addr} {n cap : Nat} {xs : List Value} {F K : Nat → Prop} {ts : List Tr} (h : w.ownsRow base e 3 (.slice a n cap) n xs) (hc : CellsS w F xs ts) (hn : ts.length = n)
    (hF : ∀ b, F b → K b) (hg : ∀ g, a = some ⟨g, 0, none⟩ → K g ∧ ¬ F g) : Sep w K a cap ts := by
  rcases h.2 with ⟨hv, h0⟩ | ⟨g, cap', cur, hv, hb, hgg, hnc, hcm, hcs, htake⟩
  · simp only [Value.slice.injEq] at hv
    obtain ⟨rfl, _, rfl⟩ := hv
    obtain rfl : ts = [] := List.length_eq_zero_iff.1 (by omega)
    exact .nil _
  · simp only [Value.slice.injEq, true_and] at hv
    obtain ⟨rfl, rfl⟩ := hv
    rcases Nat.eq_zero_or_pos n with h0 | hpos
    · obtain rfl : ts = [] := List.length_eq_zero_iff.1 (by omega)
      exact .empty _ _ _
    · obtain ⟨G, A, C, i1, i2, i3⟩ := hc.parts
      have hrow : w.ownsRow base e 3 (.slice (some ⟨g, 0, none⟩) n cap) n xs := ⟨h.1, .inr ⟨g, cap, cur, rfl, hb, hgg, hnc, hcm, hcs, htake⟩⟩
      have hcell : ∀ j, j < n * 3 → w.cell? ⟨g, j, none⟩ = xs[j]? := fun j hj => hrow.cellAt j hj
      obtain ⟨hgK, hgF⟩ := hg g rfl
      refine .row K g cap ts A C G (by omega) (by omega) hgK (fun i x hi hx => ⟨hF x (i1 i x hi hx), fun e => hgF (e ▸ i1 i x hi hx)⟩) i2 (fun o => hrow.frozenAt o) (fun i hi => ?_) (fun i hi => ?_) (fun i hi => ?_) (fun i hi => (i3 i hi).2.2.2)
      · rw [hcell _ (by omega)]; exact (i3 i hi).1
      · rw [hcell _ (by omega)]; exact (i3 i hi).2.1
      · rw [hcell _ (by omega)]; exact (i3 i hi).2.2.1
end Go.Proofs.Ytonffapiamhdbaa

namespace Go.Proofs.Ytonffapiamhdbaa
open Go.RowKit
set_option linter.unusedVariables false
set_option linter.unusedSimpArgs false
set_option maxRecDepth 100000
def Iv (lo hi : Nat) (b : Nat) : Prop := lo ≤ b ∧ b < hi
/-- A result: a new tree that shares nothing. -/
def GivesS (t : Tr) (w : World) (e : Ending) (w' : World) : Prop :=
  ∃ k n a m c, e = .returned (.agg #[.int .i64 k, .int .i64 n, .slice a m c]) ∧ IsS w' (Iv w.heap.size w'.heap.size) k n a m c t ∧ Below w.heap.size w w'
theorem cell_three_new (w : World) (x y z : Value) (t : TypeId) : ∀ j u, [x, y, z][j]? = some u → (w.alloc (.cells #[x, y, z] t)).cell? ((⟨w.heap.size, 0, none⟩ : Addr).add j) = some u := by
  intro j u hj
  match j, hj with
  | 0, hj => simp at hj; subst hj; simp [Addr.add]
  | 1, hj => simp at hj; subst hj; simp [Addr.add]
  | 2, hj => simp at hj; subst hj; simp [Addr.add]
theorem one_three (k n : Int) (a : Option Addr) (m c : Nat) : ∀ u ∈ [Value.int .i64 k, Value.int .i64 n, Value.slice a m c], u.oneCell' = true := by
  intro u hu
  simp only [List.mem_cons, List.not_mem_nil, or_false] at hu
  rcases hu with rfl | rfl | rfl <;> rfl
theorem block_cell {w : World} {b : Nat} {cs : Array Value} {t : TypeId} (h : w.heap[b]? = some (.cells cs t (0, 0))) (i : Nat) : w.cell? ⟨b, i, none⟩ = cs[i]? := cell_of_row w b i cs t (0, 0) h
theorem block_free {w : World} {b : Nat} {cs : Array Value} {t : TypeId} (h : w.heap[b]? = some (.cells cs t (0, 0))) (i : Nat) : w.frozen? ⟨b, i, none⟩ = false := by simp [World.frozen?, h]
theorem block_lt {w : World} {b : Nat} {o : Obj} (h : w.heap[b]? = some o) : b < w.heap.size := by
  rcases Nat.lt_or_ge b w.heap.size with h' | h'
  · exact h'
  · simp [Array.getElem?_eq_none h'] at h
theorem block_set {w : World} {b : Nat} {cs : Array Value} {t : TypeId} (h : w.heap[b]? = some (.cells cs t (0, 0))) (i : Nat) (u : Value) : (w.setCell ⟨b, i, none⟩ u).heap[b]? = some (.cells (cs.setIfInBounds i u) t (0, 0)) := by
  have hlt := block_lt h
  have h' : w.heap[b] = .cells cs t (0, 0) := by simpa [Array.getElem?_eq_getElem hlt] using h
  show (w.heap.modify b _)[b]? = _
  rw [Array.getElem?_eq_getElem (by simpa using hlt), Array.getElem_modify_self, h']
  rfl
theorem block_new {w : World} {o : Obj} {n : Nat} (h : n = w.heap.size) : (w.alloc o).heap[n]? = some o := by subst h; exact heap_alloc_new _ _
theorem block_old {w : World} {o p : Obj} {n : Nat} (hn : n < w.heap.size) (h : w.heap[n]? = some p) : (w.alloc o).heap[n]? = some p := (heap_alloc_old w o hn).trans h
theorem frozen_past (w : World) (o : Obj) (a : Addr) (h : a.block < w.heap.size) : (w.alloc o).frozen? a = w.frozen? a := World.frozen?_of_block (heap_alloc_old w o h)
theorem set_size (w : World) (a : Addr) (u : Value) : (w.setCell a u).heap.size = w.heap.size := by simp
theorem set_far (w : World) (a : Addr) (u : Value) (b : Nat) (h : b ≠ a.block) : (w.setCell a u).heap[b]? = w.heap[b]? := Below.heap_setCell _ _ _ _ (by first | exact h | exact Ne.symm h)
/-- The blocks from B on, but the one that the row v lies in. -/
def Fr (B : Nat) (w : World) (v : Value) (b : Nat) : Prop := B ≤ b ∧ b < w.heap.size ∧ v.ownBlock ≠ some b
theorem clone_step {wr w1 w2 : World} {B : Nat} {e : TypeId} {v u : Value} {j g3 c3 lo hi bo off : Nat} {xs : List Value} {ts : List Tr} {k n : Int} {a : Option Addr} {m c : Nat} {t : Tr} {o : Obj} (hown : wr.ownsRow B e 3 v j xs)
    (hF : CellsS wr (Fr B wr v) xs ts) (hw1 : ∀ b, b < wr.heap.size → w1.heap[b]? = wr.heap[b]?) (hS : IsS w1 (Iv lo hi) k n a m c t) (hlo : wr.heap.size ≤ lo) (hhi : hi ≤ w1.heap.size) (hsz : wr.heap.size ≤ w1.heap.size) (hB : B ≤ wr.heap.size)
    (hgrow : (w1.alloc o).grownBy w2 v.ownBlock) (hat : v.ownBlock = some g3 ∨ g3 = w1.heap.size + 1) (hbo : bo < B) :
    CellsS (w2.setCell ⟨bo, off, none⟩ u) (Fr B (w2.setCell ⟨bo, off, none⟩ u) (.slice (some ⟨g3, 0, none⟩) (j + 1) c3)) (xs ++ [.int .i64 k, .int .i64 n, .slice a m c]) (ts ++ [t]) := by
  have hgs : (w1.alloc o).heap.size ≤ w2.heap.size := hgrow.size
  have hal : (w1.alloc o).heap.size = w1.heap.size + 1 := by simp
  have hst : ∀ b, b < w1.heap.size → v.ownBlock ≠ some b → b ≠ bo → (w2.setCell ⟨bo, off, none⟩ u).heap[b]? = w1.heap[b]? := fun b hb hne hbb => by
    rw [set_far _ _ _ _ hbb, hgrow.block b (by omega) (Ne.symm hne)]
    exact heap_alloc_old w1 o hb
  have hv : ∀ g, v.ownBlock = some g → B ≤ g ∧ g < wr.heap.size := fun g hg => hown.lt g hg
  have h1 : CellsS (w2.setCell ⟨bo, off, none⟩ u) (Fr B wr v) xs ts := hF.stay fun b hb hlt => by
    obtain ⟨b1, b2, b3⟩ := hb
    rw [hst b (by omega) b3 (by omega), hw1 b b2]
  have h2 : IsS (w2.setCell ⟨bo, off, none⟩ u) (Iv lo hi) k n a m c t := hS.stay fun b hb hlt => by
    obtain ⟨b1, b2⟩ := hb
    exact hst b (by omega) (fun e => by have := (hv b e).2; omega) (by omega)
  refine h1.snoc h2 _ (fun x hx => ?_) (fun x hx => ?_) (fun x hx hy => ?_)
  · obtain ⟨x1, x2, x3⟩ := hx
    refine ⟨x1, by rw [set_size]; omega, fun e => ?_⟩
    simp only [Value.ownBlock, Option.some.injEq] at e
    rcases hat with h | h
    · exact x3 (by rw [h, e])
    · omega
  · obtain ⟨x1, x2⟩ := hx
    refine ⟨by omega, by rw [set_size]; omega, fun e => ?_⟩
    simp only [Value.ownBlock, Option.some.injEq] at e
    rcases hat with h | h
    · have := (hv _ h).2; omega
    · omega
  · have := hx.2.1; have := hy.1; omega
theorem clone_round {w wr W0 w1 w2 : World} {T : TypeId} {v : Value} {j g3 c3 : Nat} {xs : List Value} {ts : List Tr} {k n k2 n2 : Int} {a2 : Option Addr} {m2 c2 : Nat} {t' : Tr} {o : Obj}
    (HO : wr.heap[w.heap.size + 2]? = some (.cells #[.int .i64 k, .int .i64 n, v] T (0, 0))) (HR : wr.heap[w.heap.size + 1]? = some (.cells #[.int .i64 0, .int .i64 0, .slice none 0 0] T (0, 0)))
    (hown : wr.ownsRow (w.heap.size + 3) T 3 v j xs) (HC : CellsS wr (Fr (w.heap.size + 3) wr v) xs ts) (hbel : Below w.heap.size w wr) (hbW : Below wr.heap.size wr W0) (hs0 : W0.heap.size = wr.heap.size + 1)
    (hS : IsS w1 (Iv W0.drew.heap.size w1.heap.size) k2 n2 a2 m2 c2 t') (hb1 : Below W0.drew.heap.size W0.drew w1)
    (hown3 : w2.ownsRow (w.heap.size + 3) T 3 (.slice (some ⟨g3, 0, none⟩) (j + 1) c3) (j + 1) (xs ++ [.int .i64 k2, .int .i64 n2, .slice a2 m2 c2])) (hgrow : (w1.alloc o).grownBy w2 v.ownBlock) (hat : v.ownBlock = some g3 ∨ g3 = w1.heap.size + 1) :
    (w2.setCell ⟨w.heap.size + 1 + 1, 2, none⟩ (.slice (some ⟨g3, 0, none⟩) (j + 1) c3)).heap[w.heap.size + 2]? = some (.cells #[.int .i64 k, .int .i64 n, .slice (some ⟨g3, 0, none⟩) (j + 1) c3] T (0, 0)) ∧
    (w2.setCell ⟨w.heap.size + 1 + 1, 2, none⟩ (.slice (some ⟨g3, 0, none⟩) (j + 1) c3)).heap[w.heap.size + 1]? = some (.cells #[.int .i64 0, .int .i64 0, .slice none 0 0] T (0, 0)) ∧
    (w2.setCell ⟨w.heap.size + 1 + 1, 2, none⟩ (.slice (some ⟨g3, 0, none⟩) (j + 1) c3)).ownsRow (w.heap.size + 3) T 3 (.slice (some ⟨g3, 0, none⟩) (j + 1) c3) (j + 1) (xs ++ [.int .i64 k2, .int .i64 n2, .slice a2 m2 c2]) ∧
    CellsS (w2.setCell ⟨w.heap.size + 1 + 1, 2, none⟩ (.slice (some ⟨g3, 0, none⟩) (j + 1) c3)) (Fr (w.heap.size + 3) (w2.setCell ⟨w.heap.size + 1 + 1, 2, none⟩ (.slice (some ⟨g3, 0, none⟩) (j + 1) c3)) (.slice (some ⟨g3, 0, none⟩) (j + 1) c3)) (xs ++ [.int .i64 k2, .int .i64 n2, .slice a2 m2 c2]) (ts ++ [t']) ∧
    Below w.heap.size w (w2.setCell ⟨w.heap.size + 1 + 1, 2, none⟩ (.slice (some ⟨g3, 0, none⟩) (j + 1) c3)) := by
  have hl2 := block_lt HO
  have hd : W0.drew.heap.size = W0.heap.size := rfl
  have hs1 := hb1.size
  have hw1 : ∀ b, b < wr.heap.size → w1.heap[b]? = wr.heap[b]? := fun b hb => (hb1.block b (by omega)).trans (hbW.block b hb)
  have hbb : Below wr.heap.size wr w1 := chain (w1 := W0) hbW ⟨hb1.os, hb1.tape, hb1.output, hb1.size, hb1.block⟩
  have hv : ∀ g, v.ownBlock = some g → w.heap.size + 3 ≤ g ∧ g < wr.heap.size := fun g hg => hown.lt g hg
  have hw2 : ∀ b, b < wr.heap.size → v.ownBlock ≠ some b → w2.heap[b]? = wr.heap[b]? := fun b hb hne => by
    rw [hgrow.block b (by simp; omega) (Ne.symm hne), heap_alloc_old w1 o (show b < w1.heap.size by omega)]
    exact hw1 b hb
  refine ⟨?_, ?_, ?_, ?_, ?_⟩
  · have h2 : w2.heap[w.heap.size + 2]? = some (.cells #[.int .i64 k, .int .i64 n, v] T (0, 0)) := (hw2 _ hl2 (fun e => by have := (hv _ e).1; omega)).trans HO
    exact block_set h2 2 _
  · rw [set_far _ _ _ _ (by show w.heap.size + 1 ≠ w.heap.size + 1 + 1; omega)]
    exact (hw2 _ (by omega) (fun e => by have := (hv _ e).1; omega)).trans HR
  · exact ownsRow_setCell_other (a := ⟨w.heap.size + 1 + 1, 2, none⟩) hown3 (by
      intro e
      simp only [Value.ownBlock, Option.some.injEq] at e
      have := (hown3.lt g3 rfl).1
      omega) _
  · exact clone_step (bo := w.heap.size + 1 + 1) hown HC hw1 hS (by omega) (Nat.le_refl _) (by omega) (by omega) hgrow hat (by omega)
  · have h1 : Below w.heap.size w w1 := chain hbel hbb
    have h1s := h1.size
    exact ((h1.alloc h1.size o).grown hgrow (by show w.heap.size ≤ (w1.alloc o).heap.size; simp; omega) (fun k hk => by have := (hv k hk).1; omega)).setCell (by show w.heap.size ≤ w.heap.size + 1 + 1; omega) _
set_option maxHeartbeats 2000000 in
theorem desc_Clone (N : Nat) (hN : N ≤ 4194304) : ∀ (t : Tr) (k n : Int) (a : Option Addr) (m cap : Nat) (w : World) (F : Nat → Prop), t.size ≤ N → IsT w F k n a m cap t →
    Calls Try.prog 26 #[.agg #[.int .i64 k, .int .i64 n, .slice a m cap]] w (GivesS t w) := by
  obtain ⟨i0, hi, hz0, hz1, hz2⟩ := info_parts info_desc
  induction N with
  | zero => intro t k n a m cap w F h; have := Tr.size_pos t; omega
  | succ N ih =>
    intro t k n a m cap w F hs hT
    have IH := Lib.hid (ih (by omega))
    clear ih
    have HT := Lib.hid hT
    have hm : m ≤ N := by
      have := Tr.len_le_sizeL t.kids
      rw [Tr.size_kids] at hs
      rw [hT.em]; omega
    have HS := Lib.hid hs
    clear hT hs
    go_enter Try.func26, Try.ntmps26
    go_wp2_with fail
    go_loopw [14] (fun i wr => ∃ (j : Nat) (v : Value) (xs : List Value), j ≤ m ∧ i = .int .i64 j ∧ Hid (wr.heap[w.heap.size + 2]? = some (.cells #[.int .i64 k, .int .i64 n, v] 34 (0, 0))) ∧
      Hid (wr.heap[w.heap.size + 1]? = some (.cells #[.int .i64 0, .int .i64 0, .slice none 0 0] 34 (0, 0))) ∧ wr.ownsRow (w.heap.size + 3) 34 3 v j xs ∧ Hid (CellsS wr (Fr (w.heap.size + 3) wr v) xs (t.kids.take j)) ∧ Below w.heap.size w wr) (fun i _ => m - (intOf i).toNat)
    case atStart =>
      refine ⟨0, .slice none 0 0, [], Nat.zero_le _, rfl, ?_, ?_, World.ownsRow_nil _ _ _ _, CellsS.nil _, (((Below.refl _ _).alloc (Nat.le_refl _) _).alloc (by simp) _).alloc (by simp; omega) _⟩
      · unfold Hid; exact block_new (by simp)
      · unfold Hid; exact block_old (by simp) (block_new (by simp))
    case round =>
      obtain ⟨j, v, xs, hj, rfl, HO, HR, hown, HC, hbel⟩ := hrel
      by_cases hlt : j < m
      · obtain ⟨b, off, k', n', a', m', c', rfl, hF, hbl, h0, h1, h2, hT'⟩ := (HT.out.below hbel).kid j hlt
        have hj2 : j < t.kids.length := by rw [← HT.out.em]; exact hlt
        have hsz := Tr.size_kid t j hj2
        have hst := Tr.take_kid hj2
        have hs1 : (Tr.kid t.kids j).size ≤ N := by have := HS.out; omega
        obtain ⟨t', ht'⟩ : ∃ t', Tr.kid t.kids j = t' := ⟨_, rfl⟩
        rw [ht'] at hT' hst hs1
        have HST := Lib.hid hst
        have CK : Hid (∀ W, Below wr.heap.size wr W → Calls Try.prog 26 #[.agg #[.int .i64 k', .int .i64 n', .slice a' m' c']] W (GivesS t' W)) := fun W hb => IH.out t' k' n' a' m' c' W F hs1 (hT'.below hb)
        have hob := block_lt HO.out
        have o2 := block_cell HO.out 2
        have of := block_free HO.out 2
        simp at o2
        have HOWN := Lib.hid hown
        have of3 := (frozen_past wr (.cells #[.int .i64 k', .int .i64 n', .slice a' m' c'] 34) ⟨w.heap.size + 2, 2, none⟩ hob).trans of
        clear hT' hst hsz hj2 ht' hown
        go_wp2_with fail
        obtain ⟨W0, hW0⟩ : ∃ W0, wr.alloc (.cells #[.int .i64 k', .int .i64 n', .slice a' m' c'] 34) = W0 := ⟨_, rfl⟩
        have hbW : Below wr.heap.size wr W0 := by rw [← hW0]; exact (Below.refl _ _).alloc (Nat.le_refl _) _
        have HK : Hid (W0.heap[wr.heap.size]? = some (.cells #[.int .i64 k', .int .i64 n', .slice a' m' c'] 34 (0, 0))) := by unfold Hid; rw [← hW0]; exact block_new rfl
        have hs0 : W0.heap.size = wr.heap.size + 1 := by rw [← hW0]; simp
        rw [hW0]
        clear hW0 of3
        have p0 : W0.cell? ⟨w.heap.size + 1 + 1, 2, none⟩ = some v := (hbW.cell (p := ⟨w.heap.size + 1 + 1, 2, none⟩) hob).trans o2
        have p1 : W0.frozen? ⟨w.heap.size + 1 + 1, 2, none⟩ = false := (hbW.frozen (p := ⟨w.heap.size + 1 + 1, 2, none⟩) hob).trans of
        have p2 := block_cell HK.out 0
        have p3 := block_cell HK.out 1
        have p4 := block_cell HK.out 2
        simp at p2 p3 p4
        have l0 : w.heap.size + 1 + 1 < W0.heap.size := by omega
        have l1 : wr.heap.size < W0.heap.size := by omega
        have HOWN0 := Lib.hid (own_later3 HOWN.out hbW)
        have HBW := Lib.hid hbW
        have HS0 := Lib.hid hs0
        have ne1 : some (w.heap.size + 1 + 1) ≠ v.ownBlock := fun e => by have := (HOWN.out.lt _ e.symm).1; omega
        have ne2 : some wr.heap.size ≠ v.ownBlock := fun e => by have := (HOWN.out.lt _ e.symm).2; omega
        clear o2 of hs0 hbW
        go_region_law ((first | (refine step_append_lies _ (by rfl) _ _ 32 (by rfl) (w.heap.size + 3) 34 i0 _ 3 40 Try.underlying32 hi hz0 hz1 hz2 rfl (by omega) _ j xs (by rfl) ((own_later3 HOWN0.out.drew hb1).alloc _) ⟨w1.heap.size, 0, none⟩ 1 1 [.int .i64 k2, .int .i64 n2, .slice a2 m2 c2] (by rfl) (by rfl) (cell_three_new _ _ _ _ _) (one_three _ _ _ _ _) (by omega) (by unfold maxLen; omega) (by omega) (by simp; omega) (w1.heap.size + 1) (by simp) ?_; intro g3 c3 w2 hown3 hgrow hat hlt3; have r0 := hgrow.cell (a := ⟨w.heap.size + 1 + 1, 2, none⟩) ((cell_past _ _ _ (by show w.heap.size + 1 + 1 < w1.heap.size; omega)).trans q0) ne1; have r1 := (hgrow.frozen_far ⟨w.heap.size + 1 + 1, 2, none⟩ (by simp; omega) ne1).trans ((frozen_past _ _ _ (by show w.heap.size + 1 + 1 < w1.heap.size; omega)).trans q1); have r2 := hgrow.cell (a := ⟨wr.heap.size, 0, none⟩) ((cell_past _ _ _ z2).trans q2) ne2; have r3 := hgrow.cell (a := ⟨wr.heap.size, 1, none⟩) ((cell_past _ _ _ z2).trans q3) ne2; have r4 := hgrow.cell (a := ⟨wr.heap.size, 2, none⟩) ((cell_past _ _ _ z2).trans q4) ne2) | (go_simp; go_at_call 26; refine (CK.out _ HBW.out.drew).mono ?_; rintro e1 w1 ⟨k2, n2, a2, m2, c2, rfl, hS2, hb1⟩; have q0 := (hb1.cell (p := ⟨w.heap.size + 1 + 1, 2, none⟩) l0).trans p0; have q1 := (hb1.frozen (p := ⟨w.heap.size + 1 + 1, 2, none⟩) l0).trans p1; have q2 := (hb1.cell (p := ⟨wr.heap.size, 0, none⟩) l1).trans p2; have q3 := (hb1.cell (p := ⟨wr.heap.size, 1, none⟩) l1).trans p3; have q4 := (hb1.cell (p := ⟨wr.heap.size, 2, none⟩) l1).trans p4; have z1 : w.heap.size + 3 ≤ w1.heap.size := Nat.le_trans l0 hb1.size; have z2 : wr.heap.size < w1.heap.size := Nat.lt_of_lt_of_le l1 hb1.size; have s0 := (cell_past w1 (.cells #[.int .i64 k2, .int .i64 n2, .slice a2 m2 c2] 34) ⟨w.heap.size + 1 + 1, 2, none⟩ z1).trans q0)))
        all_goals
          obtain ⟨c1, c2', c3', c4, c5⟩ := clone_round HO.out HR.out HOWN.out HC.out hbel HBW.out HS0.out hS2 hb1 hown3 hgrow hat
          rw [← HST.out] at c4
          have K1 := Lib.hid c1
          have K2 := Lib.hid c2'
          have K4 := Lib.hid c4
          clear c1 c2' c4 hgrow hat hown3 hS2 hb1 r0 r1 r2 r3 r4 q0 q1 q2 q3 q4
          obtain ⟨w3, hw3⟩ : ∃ w3, w2.setCell ⟨w.heap.size + 1 + 1, 2, none⟩ (.slice (some ⟨g3, 0, none⟩) (j + 1) c3) = w3 := ⟨_, rfl⟩
          rw [hw3] at K1 K2 K4 c3' c5 ⊢
          clear hw3
          go_wp2_with fail
          go_roundw
          case rel => exact ⟨j + 1, _, _, by omega, by go_num, K1.out, K2.out, c3', K4.out, c5⟩
          case measure => simp [intOf]; omega
      · have hjm : j = m := by omega
        have hE : t.kids.take j = t.kids := List.take_of_length_le (by rw [← HT.out.em]; omega)
        have hc := HC.out
        rw [hE] at hc
        have hok := hc.cells.ok
        obtain ⟨a3, c3, rfl, hcap⟩ : ∃ a3 c3, v = .slice a3 m c3 ∧ OkCap a3 m c3 := by
          rcases hown.2 with ⟨rfl, h0⟩ | ⟨g, cap', cur, rfl, _, _, hnc, _⟩
          · exact ⟨none, 0, by rw [← hjm, h0], by omega, fun _ => rfl⟩
          · exact ⟨_, _, by rw [hjm], by omega, fun h => by cases h⟩
        have hsep : Sep wr (Iv (w.heap.size + 3) wr.heap.size) a3 c3 t.kids := by
          rw [← hjm] at hown
          refine sep_of_own hown hc (by rw [← HT.out.em]; omega) (fun b hb => ⟨hb.1, hb.2.1⟩) (fun g hg => ?_)
          have h1 := hown.lt g (by rw [hg]; rfl)
          exact ⟨⟨by omega, h1.2⟩, fun h => h.2.2 (by rw [hg]; rfl)⟩
        have hres : IsS wr (Iv (w.heap.size + 3) wr.heap.size) k n a3 m c3 t := ⟨HT.out.ek, HT.out.en, HT.out.em, HT.out.ok, hsep⟩
        have o0 := block_cell HO.out 0
        have o1 := block_cell HO.out 1
        have o2 := block_cell HO.out 2
        have p0 := block_cell HR.out 0
        have p1 := block_cell HR.out 1
        have p2 := block_cell HR.out 2
        have pf0 := block_free HR.out 0
        have pf1 := block_free HR.out 1
        have pf2 := block_free HR.out 2
        have hl1 := block_lt HR.out
        have hl2 := block_lt HO.out
        simp at o0 o1 o2 p0 p1 p2
        have HRES := Lib.hid hres
        clear hres hsep hok hc hE HC hown
        go_wp2_with fail
        obtain ⟨w3, hw3⟩ : ∃ w3, ((wr.setCell ⟨w.heap.size + 1, 0, none⟩ (.int .i64 k)).setCell ⟨w.heap.size + 1, 1, none⟩ (.int .i64 n)).setCell ⟨w.heap.size + 1, 2, none⟩ (.slice a3 m c3) = w3 := ⟨_, rfl⟩
        have hbl : w3.heap[w.heap.size + 1]? = some (.cells #[.int .i64 k, .int .i64 n, .slice a3 m c3] 34 (0, 0)) := by
          rw [← hw3]; exact block_set (block_set (block_set HR.out 0 _) 1 _) 2 _
        have hfar : ∀ b, b ≠ w.heap.size + 1 → w3.heap[b]? = wr.heap[b]? := fun b hb => by rw [← hw3, set_far _ _ _ _ hb, set_far _ _ _ _ hb, set_far _ _ _ _ hb]
        have hsz3 : w3.heap.size = wr.heap.size := by rw [← hw3, set_size, set_size, set_size]
        have hb3 : Below w.heap.size w w3 := by rw [← hw3]; exact ((hbel.setCell (by show w.heap.size ≤ w.heap.size + 1; omega) _).setCell (by show w.heap.size ≤ w.heap.size + 1; omega) _).setCell (by show w.heap.size ≤ w.heap.size + 1; omega) _
        have h3 : IsS w3 (Iv w.heap.size w3.heap.size) k n a3 m c3 t := (HRES.out.stay fun b hb _ => hfar b (by have := hb.1; omega)).mono fun b hb => ⟨by have := hb.1; omega, by have := hb.2; omega⟩
        rw [hw3]
        have r0 := block_cell hbl 0
        have r1 := block_cell hbl 1
        have r2 := block_cell hbl 2
        simp at r0 r1 r2
        refine bodyPost_ret (v := .agg #[.int .i64 k, .int .i64 n, .slice a3 m c3]) (by simp [results, Try.results26, go_sem, r0, r1, r2]) rfl ⟨k, n, a3, m, c3, rfl, h3, hb3⟩
end Go.Proofs.Ytonffapiamhdbaa

namespace Go.Proofs.Ytonffapiamhdbaa
open Go.RowKit
set_option linter.unusedVariables false
set_option linter.unusedSimpArgs false
set_option maxRecDepth 100000
def cmpI (x y : Int) : Int := if x < y then -1 else if y < x then 1 else 0
theorem cmpI_bd (x y : Int) : -1 ≤ cmpI x y ∧ cmpI x y ≤ 1 := by unfold cmpI; split <;> (try split) <;> omega
theorem cmpI_eq {x y : Int} (h : x = y) : cmpI x y = 0 := by subst h; unfold cmpI; rw [if_neg (by omega), if_neg (by omega)]
/-- The first one that is not 0. -/
def orI (x y : Int) : Int := if x = 0 then y else x
namespace Tr
mutual
def cmp : Tr → Tr → Int
  | node k n ks, u => orI (cmpI k u.kind) (orI (cmpI n u.num) (orI (cmpI ks.length u.kids.length) (cmpL ks u.kids)))
def cmpL : List Tr → List Tr → Int
  | [], _ => 0
  | t :: ts, us => match us with
    | [] => 1
    | u :: us => orI (cmp t u) (cmpL ts us)
end
theorem cmp_kids (t u : Tr) : cmp t u = orI (cmpI t.kind u.kind) (orI (cmpI t.num u.num) (orI (cmpI t.kids.length u.kids.length) (cmpL t.kids u.kids))) := by
  cases t; simp [cmp, kids, kind, num]
theorem orI_bd {x y : Int} (h : -1 ≤ x ∧ x ≤ 1) (h2 : -1 ≤ y ∧ y ≤ 1) : -1 ≤ orI x y ∧ orI x y ≤ 1 := by unfold orI; split <;> omega
theorem cmpL_bd (ts : List Tr) (h : ∀ t ∈ ts, ∀ u, -1 ≤ cmp t u ∧ cmp t u ≤ 1) : ∀ us, -1 ≤ cmpL ts us ∧ cmpL ts us ≤ 1 := by
  induction ts with
  | nil => intro us; simp [cmpL]
  | cons t ts ih =>
    intro us
    cases us with
    | nil => simp [cmpL]
    | cons u us => simp only [cmpL]; exact orI_bd (h t (by simp) u) (ih (fun t ht => h t (by simp [ht])) us)
theorem cmp_bd (N : Nat) : ∀ t u : Tr, t.size ≤ N → -1 ≤ cmp t u ∧ cmp t u ≤ 1 := by
  induction N with
  | zero => intro t u h; have := size_pos t; omega
  | succ N ih =>
    intro t u h
    rw [cmp_kids]
    refine orI_bd (cmpI_bd _ _) (orI_bd (cmpI_bd _ _) (orI_bd (cmpI_bd _ _) (cmpL_bd _ (fun t' ht u => ih t' u ?_) _)))
    have := size_mem ht
    rw [size_kids] at h; omega
theorem cmpL_step (ts us : List Tr) (j : Nat) (h1 : j < ts.length) (h2 : j < us.length) : cmpL (ts.drop j) (us.drop j) = orI (cmp (kid ts j) (kid us j)) (cmpL (ts.drop (j + 1)) (us.drop (j + 1))) := by
  rw [drop_kid h1, drop_kid h2]; simp only [cmpL]
end Tr
def tri (t : Tr) : List Int := [t.kind, t.num, (t.kids.length : Int)]
theorem tri_less (t u : Tr) (j : Nat) (hj : j < 3) (he : ∀ i, i < j → nth (tri t) i = nth (tri u) i) (h : nth (tri t) j < nth (tri u) j) : Tr.cmp t u = -1 := by
  rw [Tr.cmp_kids]
  match j, hj with
  | 0, _ => have h : t.kind < u.kind := h; rw [show cmpI t.kind u.kind = -1 by unfold cmpI; rw [if_pos h]]; rfl
  | 1, _ =>
    have h0 : t.kind = u.kind := he 0 (by omega)
    have h : t.num < u.num := h
    rw [cmpI_eq h0, show cmpI t.num u.num = -1 by unfold cmpI; rw [if_pos h]]; rfl
  | 2, _ =>
    have h0 : t.kind = u.kind := he 0 (by omega)
    have h1 : t.num = u.num := he 1 (by omega)
    have h : (t.kids.length : Int) < (u.kids.length : Int) := h
    rw [cmpI_eq h0, cmpI_eq h1, show cmpI (t.kids.length : Int) (u.kids.length : Int) = -1 by unfold cmpI; rw [if_pos h]]; rfl
theorem tri_more (t u : Tr) (j : Nat) (hj : j < 3) (he : ∀ i, i < j → nth (tri t) i = nth (tri u) i) (h : nth (tri u) j < nth (tri t) j) : Tr.cmp t u = 1 := by
  rw [Tr.cmp_kids]
  match j, hj with
  | 0, _ => have h : u.kind < t.kind := h; rw [show cmpI t.kind u.kind = 1 by unfold cmpI; rw [if_neg (by omega), if_pos h]]; rfl
  | 1, _ =>
    have h0 : t.kind = u.kind := he 0 (by omega)
    have h : u.num < t.num := h
    rw [cmpI_eq h0, show cmpI t.num u.num = 1 by unfold cmpI; rw [if_neg (by omega), if_pos h]]; rfl
  | 2, _ =>
    have h0 : t.kind = u.kind := he 0 (by omega)
    have h1 : t.num = u.num := he 1 (by omega)
    have h : (u.kids.length : Int) < (t.kids.length : Int) := h
    rw [cmpI_eq h0, cmpI_eq h1, show cmpI (t.kids.length : Int) (u.kids.length : Int) = 1 by unfold cmpI; rw [if_neg (by omega), if_pos h]]; rfl
theorem tri_same (t u : Tr) (he : ∀ i, i < 3 → nth (tri t) i = nth (tri u) i) : t.kids.length = u.kids.length ∧ Tr.cmp t u = Tr.cmpL t.kids u.kids := by
  have h0 : t.kind = u.kind := he 0 (by omega)
  have h1 : t.num = u.num := he 1 (by omega)
  have h2 : (t.kids.length : Int) = (u.kids.length : Int) := he 2 (by omega)
  refine ⟨by omega, ?_⟩
  rw [Tr.cmp_kids, cmpI_eq h0, cmpI_eq h1, cmpI_eq h2]; rfl
set_option maxHeartbeats 2000000 in
theorem ref13_Cmp (N : Nat) (hN : N ≤ 4194304) : ∀ (t u : Tr) (k n : Int) (a : Option Addr) (m cap : Nat) (k' n' : Int) (a' : Option Addr) (m' cap' : Nat) (w : World) (F G : Nat → Prop), t.size ≤ N → u.size ≤ 4194304 → IsT w F k n a m cap t → IsT w G k' n' a' m' cap' u →
    Calls Try.prog 27 #[.agg #[.int .i64 k, .int .i64 n, .slice a m cap], .agg #[.int .i64 k', .int .i64 n', .slice a' m' cap']] w fun e w' => e = .returned (.int .i64 (Tr.cmp t u)) ∧ Below w.heap.size w w' := by
  induction N with
  | zero => intro t u k n a m cap k' n' a' m' cap' w F G h; have := Tr.size_pos t; omega
  | succ N ih =>
    intro t u k n a m cap k' n' a' m' cap' w F G hs hsu hT hU
    have IH := Lib.hid (ih (by omega))
    clear ih
    have HT := Lib.hid hT
    have HU := Lib.hid hU
    have hm : m ≤ N := by
      have := Tr.len_le_sizeL t.kids
      rw [Tr.size_kids] at hs
      rw [hT.em]; omega
    have HS := Lib.hid hs
    have HSU := Lib.hid hsu
    have hm' : m' ≤ 4194304 := by
      have := Tr.len_le_sizeL u.kids
      rw [Tr.size_kids] at hsu
      rw [hU.em]; omega
    have fk := hT.fk
    have fn := hT.fn
    have fk' := hU.fk
    have fn' := hU.fn
    have HX : Hid (tri t = [k, n, (m : Int)]) := by unfold Hid tri; rw [hT.ek, hT.en, hT.em]
    have HY : Hid (tri u = [k', n', (m' : Int)]) := by unfold Hid tri; rw [hU.ek, hU.en, hU.em]
    have HXF : Hid (∀ x ∈ tri t, fits .i64 x) := by
      intro x hx
      rw [HX.out] at hx
      simp only [List.mem_cons, List.not_mem_nil, or_false] at hx
      rcases hx with rfl | rfl | rfl <;> exact fits_i64.2 (by omega)
    have HYF : Hid (∀ x ∈ tri u, fits .i64 x) := by
      intro x hx
      rw [HY.out] at hx
      simp only [List.mem_cons, List.not_mem_nil, or_false] at hx
      rcases hx with rfl | rfl | rfl <;> exact fits_i64.2 (by omega)
    clear hT hU hs hsu
    go_enter Try.func27, Try.ntmps27
    go_wp2_with fail
    obtain ⟨W0, hW0⟩ : ∃ W0, (((w.alloc (.cells #[.int .i64 k, .int .i64 n, .slice a m cap] 34)).alloc (.cells #[.int .i64 k', .int .i64 n', .slice a' m' cap'] 34)).alloc (.cells #[.int .i64 k, .int .i64 n, .int .i64 m] 3)).alloc (.cells #[.int .i64 k', .int .i64 n', .int .i64 m'] 3) = W0 := ⟨_, rfl⟩
    have hb0 : Below w.heap.size w W0 := by rw [← hW0]; exact ((((Below.refl _ _).alloc (Nat.le_refl _) _).alloc (by simp) _).alloc (by simp; omega) _).alloc (by simp; omega) _
    have hX : Row .i64 W0 (some ⟨w.heap.size + 1 + 1, 0, none⟩) (tri t) := by
      rw [← hW0]
      refine Row.below ?_ ((Below.refl _ _).alloc (Nat.le_refl _) _)
      have h := row_new .i64 ((w.alloc (.cells #[.int .i64 k, .int .i64 n, .slice a m cap] 34)).alloc (.cells #[.int .i64 k', .int .i64 n', .slice a' m' cap'] 34)) 3 (tri t) HXF.out (by rw [HX.out]; simp)
      rw [HX.out] at h ⊢
      simpa using h
    have hY : Row .i64 W0 (some ⟨w.heap.size + 1 + 1 + 1, 0, none⟩) (tri u) := by
      rw [← hW0]
      have h := row_new .i64 (((w.alloc (.cells #[.int .i64 k, .int .i64 n, .slice a m cap] 34)).alloc (.cells #[.int .i64 k', .int .i64 n', .slice a' m' cap'] 34)).alloc (.cells #[.int .i64 k, .int .i64 n, .int .i64 m] 3)) 3 (tri u) HYF.out (by rw [HY.out]; simp)
      rw [HY.out] at h ⊢
      simpa using h
    have hca : W0.cell? ⟨w.heap.size, 2, none⟩ = some (.slice a m cap) := by
      rw [← hW0, cell_past _ _ _ (by simp; omega), cell_past _ _ _ (by simp; omega), cell_past _ _ _ (by simp)]; simp
    have hcb : W0.cell? ⟨w.heap.size + 1, 2, none⟩ = some (.slice a' m' cap') := by
      rw [← hW0, cell_past _ _ _ (by simp), cell_past _ _ _ (by simp)]; simp
    have hsz : w.heap.size + 4 ≤ W0.heap.size := by rw [← hW0]; simp
    rw [hW0]
    clear hW0
    have HX0 := Lib.hid hX
    have HY0 := Lib.hid hY
    have HCA := Lib.hid hca
    have HCB := Lib.hid hcb
    clear hX hY hca hcb
    go_loopw [7] (fun i wr => ∃ j : Nat, j ≤ 3 ∧ i = .int .i64 j ∧ Hid (∀ i, i < j → nth (tri t) i = nth (tri u) i) ∧ Below W0.heap.size W0 wr) (fun i _ => 3 - (intOf i).toNat)
    case atStart => exact ⟨0, by omega, rfl, fun i hi => absurd hi (by omega), Below.refl _ _⟩
    case round =>
      obtain ⟨j, hj, rfl, HE, hbel⟩ := hrel
      by_cases hlt : j < 3
      · obtain ⟨b1, o1, e1, hc1⟩ := (HX0.out.below hbel).at (by simp [tri])
        obtain ⟨b2, o2, e2, hc2⟩ := (HY0.out.below hbel).at (by simp [tri])
        have h1 := hc1 j hlt
        have h2 := hc2 j hlt
        simp only [Option.some.injEq, Addr.mk.injEq, and_true] at e1 e2
        obtain ⟨rfl, rfl⟩ := e1
        obtain ⟨rfl, rfl⟩ := e2
        have fx := fits_i64.1 (HXF.out _ (nth_mem (show j < (tri t).length from hlt)))
        have fy := fits_i64.1 (HYF.out _ (nth_mem (show j < (tri u).length from hlt)))
        have HL : Hid (nth (tri t) j < nth (tri u) j → Tr.cmp t u = -1) := tri_less t u j hlt HE.out
        have HM : Hid (nth (tri u) j < nth (tri t) j → Tr.cmp t u = 1) := tri_more t u j hlt HE.out
        have HEQ : Hid (nth (tri t) j = nth (tri u) j → ∀ i, i < j + 1 → nth (tri t) i = nth (tri u) i) := fun h i hi => by
          rcases Nat.lt_succ_iff_lt_or_eq.1 hi with h' | rfl
          · exact HE.out i h'
          · exact h
        obtain ⟨x, hx⟩ : ∃ x, nth (tri t) j = x := ⟨_, rfl⟩
        obtain ⟨y, hy⟩ : ∃ y, nth (tri u) j = y := ⟨_, rfl⟩
        rw [hx] at h1 fx HL HM HEQ
        rw [hy] at h2 fy HL HM HEQ
        rw [Nat.zero_add] at h1 h2
        have g1 : (0 : Int) ≤ (j : Int) := by omega
        have g2 : (j : Int) < 3 := by omega
        clear hc1 hc2 hx hy HE
        have hh1 := World.block_lt_of_cell? _ _ h1
        have hh2 := World.block_lt_of_cell? _ _ h2
        by_cases hxy : x < y
        · have HR := Lib.hid (HL.out hxy)
          clear HL HM HEQ
          go_wp2_with fail
          go_quiet (fail)
          have hb := below_drewN (Below.refl wr.heap.size wr) nq
          obtain ⟨w1, hw1⟩ : ∃ w1, wr.drewN nq = w1 := ⟨_, rfl⟩
          rw [hw1] at hb ⊢
          clear hw1
          go_wp2_with fail
          go_ret
          exact ⟨by simp [HR.out], chain hb0 (chain hbel hb)⟩
        · by_cases hyx : y < x
          · have HR := Lib.hid (HM.out hyx)
            have q1 : decide (x < y) = false := by simp; omega
            have q2 : decide (x > y) = true := by simp; omega
            clear HL HM HEQ
            go_wp2_with fail
            go_quiet (fail)
            have hb := below_drewN (Below.refl wr.heap.size wr) nq
            have h1' := (hb.cell (p := ⟨w.heap.size + 1 + 1, j, none⟩) hh1).trans h1
            have h2' := (hb.cell (p := ⟨w.heap.size + 1 + 1 + 1, j, none⟩) hh2).trans h2
            obtain ⟨w1, hw1⟩ : ∃ w1, wr.drewN nq = w1 := ⟨_, rfl⟩
            rw [hw1] at hb h1' h2' ⊢
            clear hw1
            go_wp2_with fail
            go_quiet (fail)
            have hb2 := below_drewN (Below.refl w1.heap.size w1) nq
            obtain ⟨w2, hw2⟩ : ∃ w2, w1.drewN nq = w2 := ⟨_, rfl⟩
            rw [hw2] at hb2 ⊢
            clear hw2
            go_wp2_with fail
            go_ret
            exact ⟨by simp [HR.out], chain hb0 (chain (chain hbel hb) hb2)⟩
          · have HR := Lib.hid (HEQ.out (by omega))
            have q1 : decide (x < y) = false := by simp; omega
            have q2 : decide (x > y) = false := by simp; omega
            clear HL HM HEQ
            go_wp2_with fail
            go_quiet (fail)
            have hb := below_drewN (Below.refl wr.heap.size wr) nq
            have h1' := (hb.cell (p := ⟨w.heap.size + 1 + 1, j, none⟩) hh1).trans h1
            have h2' := (hb.cell (p := ⟨w.heap.size + 1 + 1 + 1, j, none⟩) hh2).trans h2
            obtain ⟨w1, hw1⟩ : ∃ w1, wr.drewN nq = w1 := ⟨_, rfl⟩
            rw [hw1] at hb h1' h2' ⊢
            clear hw1
            go_wp2_with fail
            go_quiet (fail)
            have hb2 := below_drewN (Below.refl w1.heap.size w1) nq
            obtain ⟨w2, hw2⟩ : ∃ w2, w1.drewN nq = w2 := ⟨_, rfl⟩
            rw [hw2] at hb2 ⊢
            clear hw2
            go_wp2_with fail
            go_roundw
            case rel => exact ⟨j + 1, by omega, by go_num, HR.out, chain (chain hbel hb) hb2⟩
            case measure => simp [intOf]; omega
      · have hj3 : j = 3 := by omega
        subst hj3
        rw [show ((3 : Nat) : Int) = 3 from rfl]
        obtain ⟨hlen, hcmp⟩ := tri_same t u HE.out
        have hmm : m = m' := by rw [HT.out.em, HU.out.em]; exact hlen
        subst hmm
        have HC := Lib.hid hcmp
        have HLEN := Lib.hid hlen
        clear hlen hcmp HE
        go_wp2_with fail
        obtain ⟨wo, hwo⟩ : ∃ wo : World, wo = wr := ⟨_, rfl⟩
        subst hwo
        go_loopw [8] (fun i wq => ∃ j : Nat, j ≤ m ∧ i = .int .i64 j ∧ Hid (Tr.cmpL (t.kids.drop j) (u.kids.drop j) = Tr.cmp t u) ∧ Below W0.heap.size W0 wq) (fun i _ => m - (intOf i).toNat)
        case atStart => exact ⟨0, by omega, rfl, by unfold Hid; rw [HC.out]; rfl, hbel⟩
        case round =>
          clear hbel
          obtain ⟨j, hj, rfl, HE, hbel⟩ := hrel
          have hca := (hbel.cell (p := ⟨w.heap.size, 2, none⟩) (by show w.heap.size < W0.heap.size; omega)).trans HCA.out
          have hcb := (hbel.cell (p := ⟨w.heap.size + 1, 2, none⟩) (by show w.heap.size + 1 < W0.heap.size; omega)).trans HCB.out
          by_cases hlt : j < m
          · obtain ⟨b, off, k2, n2, a2, m2, c2, rfl, hF, hbl, h0, h1, h2, hT'⟩ := ((HT.out.below hb0).below hbel).kid j hlt
            obtain ⟨b', off', k3, n3, a3, m3, c3, rfl, hF', hbl', h0', h1', h2', hU'⟩ := ((HU.out.below hb0).below hbel).kid j hlt
            have hj2 : j < t.kids.length := by rw [← HT.out.em]; exact hlt
            have hj3 : j < u.kids.length := by rw [← HU.out.em]; exact hlt
            have hst := Tr.cmpL_step t.kids u.kids j hj2 hj3
            have hsz' := Tr.size_kid t j hj2
            have hs1 : (Tr.kid t.kids j).size ≤ N := by have := HS.out; omega
            rw [HE.out] at hst
            obtain ⟨t', ht'⟩ : ∃ t', Tr.kid t.kids j = t' := ⟨_, rfl⟩
            obtain ⟨u', hu'⟩ : ∃ u', Tr.kid u.kids j = u' := ⟨_, rfl⟩
            rw [ht'] at hT' hst hs1
            rw [hu'] at hU' hst
            have hsu1 : (Tr.kid u.kids j).size ≤ 4194304 := by have := HSU.out; have := Tr.size_kid u j hj3; omega
            rw [hu'] at hsu1
            have HST := Lib.hid hst
            have CK : Hid (∀ W, Below wr.heap.size wr W → Calls Try.prog 27 #[.agg #[.int .i64 k2, .int .i64 n2, .slice a2 m2 c2], .agg #[.int .i64 k3, .int .i64 n3, .slice a3 m3 c3]] W fun e w' => e = .returned (.int .i64 (Tr.cmp t' u')) ∧ Below W.heap.size W w') :=
              fun W hb => IH.out t' u' k2 n2 a2 m2 c2 k3 n3 a3 m3 c3 W F G hs1 hsu1 (hT'.below hb) (hU'.below hb)
            have hcb1 := Tr.cmp_bd _ t' u' (Nat.le_refl _)
            have hla := World.block_lt_of_cell? _ _ hca
            have hlb := World.block_lt_of_cell? _ _ hcb
            simp only [] at hla hlb
            have g1 : (0 : Int) ≤ (j : Int) := by omega
            have g2 : (j : Int) < (m : Int) := by omega
            obtain ⟨C, hC⟩ : ∃ C, Tr.cmp t' u' = C := ⟨_, rfl⟩
            rw [hC] at CK hcb1 HST
            clear hT' hU' hst ht' hu' hC hs1 hsu1 hsz' hj2 hj3 hF hF' HE
            go_wp2_with fail
            go_region_held3 (fun w' => w'.cell? ⟨w.heap.size, 2, none⟩ = some (.slice (some ⟨b, off, none⟩) m cap) ∧ w'.cell? ⟨w.heap.size + 1, 2, none⟩ = some (.slice (some ⟨b', off', none⟩) m cap') ∧ w'.cell? ⟨b, off + j * 3, none⟩ = some (.int .i64 k2) ∧ w'.cell? ⟨b, off + j * 3 + 1, none⟩ = some (.int .i64 n2) ∧ w'.cell? ⟨b, off + j * 3 + 2, none⟩ = some (.slice a2 m2 c2) ∧ w'.cell? ⟨b', off' + j * 3, none⟩ = some (.int .i64 k3) ∧ w'.cell? ⟨b', off' + j * 3 + 1, none⟩ = some (.int .i64 n3) ∧ w'.cell? ⟨b', off' + j * 3 + 2, none⟩ = some (.slice a3 m3 c3)) (first | go_keep | exact ⟨q0, q1, q2, q3, q4, q5, q6, q7⟩) ((first | (go_at_call 27; refine (CK.out _ (Below.refl _ _).drew).mono ?_; rintro e1 w1 ⟨rfl, hb1⟩; have q0 := (hb1.cell (p := ⟨w.heap.size, 2, none⟩) hla).trans hca; have q1 := (hb1.cell (p := ⟨w.heap.size + 1, 2, none⟩) hlb).trans hcb; have q2 := (hb1.cell (p := ⟨b, off + j * 3, none⟩) hbl).trans h0; have q3 := (hb1.cell (p := ⟨b, off + j * 3 + 1, none⟩) hbl).trans h1; have q4 := (hb1.cell (p := ⟨b, off + j * 3 + 2, none⟩) hbl).trans h2; have q5 := (hb1.cell (p := ⟨b', off' + j * 3, none⟩) hbl').trans h0'; have q6 := (hb1.cell (p := ⟨b', off' + j * 3 + 1, none⟩) hbl').trans h1'; have q7 := (hb1.cell (p := ⟨b', off' + j * 3 + 2, none⟩) hbl').trans h2')))
            have hb1' := chain (below_drewN (Below.refl wr.heap.size wr) 1) hb1
            clear hb1 h0 h1 h2 h0' h1' h2' hca hcb
            by_cases hC0 : C = 0
            · subst hC0
              have HQ : Hid (Tr.cmpL (t.kids.drop (j + 1)) (u.kids.drop (j + 1)) = Tr.cmp t u) := by unfold Hid; rw [HST.out]; rfl
              go_wp2_with fail
              go_roundw
              case rel => exact ⟨j + 1, by omega, by go_num, HQ.out, chain hbel hb1'⟩
              case measure => simp [intOf]; omega
            · have HQ : Hid (Tr.cmp t u = C) := by unfold Hid; rw [HST.out]; unfold orI; rw [if_neg hC0]
              have hne : (C != 0) = true := by simp; omega
              go_wp2_with fail
              go_ret
              exact ⟨by simp [HQ.out], chain hb0 (chain hbel hb1')⟩
          · have hjm : j = m := by omega
            have hz : Tr.cmp t u = 0 := by
              rw [← HE.out, List.drop_eq_nil_of_le (by rw [← HT.out.em]; omega)]; simp [Tr.cmpL]
            have HZ := Lib.hid hz
            clear hz HE
            go_wp2_with fail
            go_ret
            exact ⟨by simp [HZ.out], chain hb0 hbel⟩
end Go.Proofs.Ytonffapiamhdbaa

namespace Go.Proofs.Ytonffapiamhdbaa
open Go.RowKit
set_option linter.unusedVariables false
set_option linter.unusedSimpArgs false
set_option maxRecDepth 100000
theorem sameW {P : Program} {f : FuncId} {args : Array Value} {w : World} {x : Ending} (h : Calls P f args w fun e w' => e = x ∧ w = w') : Calls P f args w fun e w' => e = x ∧ w' = w := h.mono fun _ _ ⟨h1, h2⟩ => ⟨h1, h2.symm⟩
theorem ref13_Same (t u : Tr) (k n : Int) (a : Option Addr) (m cap : Nat) (k' n' : Int) (a' : Option Addr) (m' cap' : Nat) (w : World) (F G : Nat → Prop) (hs : t.size ≤ 4194304) (hu : u.size ≤ 4194304) (hT : IsT w F k n a m cap t) (hU : IsT w G k' n' a' m' cap' u) :
    Calls Try.prog 15 #[.agg #[.int .i64 k, .int .i64 n, .slice a m cap], .agg #[.int .i64 k', .int .i64 n', .slice a' m' cap']] w fun e w' => e = .returned (.bool (decide (Tr.cmp t u = 0))) ∧ Below w.heap.size w w' := by
  have C1 : Hid (∀ W, Below w.heap.size w W → Calls Try.prog 27 #[.agg #[.int .i64 k, .int .i64 n, .slice a m cap], .agg #[.int .i64 k', .int .i64 n', .slice a' m' cap']] W fun e w' => e = .returned (.int .i64 (Tr.cmp t u)) ∧ Below W.heap.size W w') :=
    fun W hb => ref13_Cmp 4194304 (by omega) t u k n a m cap k' n' a' m' cap' W F G hs hu (hT.below hb) (hU.below hb)
  obtain ⟨C, hC⟩ : ∃ C, Tr.cmp t u = C := ⟨_, rfl⟩
  rw [hC] at C1 ⊢
  clear hT hU hC
  by_cases h : C = 0
  · subst h
    go_enter Try.func15, Try.ntmps15
    go_wp2_with fail
    refine (C1.out _ (((Below.refl _ _).alloc (Nat.le_refl _) _).alloc (by simp) _)).mono ?_; rintro e1 w1 ⟨rfl, hb1⟩
    have hb := chain (((Below.refl w.heap.size w).alloc (Nat.le_refl _) _).alloc (by simp) _) hb1
    clear hb1
    go_wp2_with fail
    go_ret
    exact ⟨by simp, hb⟩
  · have h1 : (C == 0) = false := by simp; omega
    have h2 : decide (C = 0) = false := by simp; omega
    go_enter Try.func15, Try.ntmps15
    go_wp2_with fail
    refine (C1.out _ (((Below.refl _ _).alloc (Nat.le_refl _) _).alloc (by simp) _)).mono ?_; rintro e1 w1 ⟨rfl, hb1⟩
    have hb := chain (((Below.refl w.heap.size w).alloc (Nat.le_refl _) _).alloc (by simp) _) hb1
    clear hb1
    go_wp2_with fail
    go_ret
    exact ⟨by simp [h, h1], hb⟩
theorem cmp_isNaN (x : Int) (w : World) : Calls Try.prog 50 #[.int .i64 x] w fun e w' => e = .returned (.bool false) ∧ w = w' := by
  go_enter Try.func50, Try.ntmps50
  go_wp2_with fail
  go_ret
  exact ⟨by simp, rfl⟩
theorem cmp_Compare (x y : Int) (w : World) : Calls Try.prog 42 #[.int .i64 x, .int .i64 y] w fun e w' => e = .returned (.int .i64 (cmpI x y)) ∧ w = w' := by
  by_cases h1 : x < y
  · have e : cmpI x y = -1 := by unfold cmpI; rw [if_pos h1]
    rw [e]
    clear e
    go_enter Try.func42, Try.ntmps42
    go_wp2_with (go_at_call 50; refine (cmp_isNaN _ _).mono ?_; rintro e w' ⟨rfl, rfl⟩)
    go_ret
    exact ⟨rfl, rfl⟩
  · by_cases h2 : y < x
    · have e : cmpI x y = 1 := by unfold cmpI; rw [if_neg h1, if_pos h2]
      have q1 : decide (x < y) = false := by simp; omega
      have q2 : decide (x > y) = true := by simp; omega
      rw [e]
      clear e
      go_enter Try.func42, Try.ntmps42
      go_wp2_with (go_at_call 50; refine (cmp_isNaN _ _).mono ?_; rintro e w' ⟨rfl, rfl⟩)
      go_ret
      exact ⟨rfl, rfl⟩
    · have e : cmpI x y = 0 := by unfold cmpI; rw [if_neg h1, if_neg h2]
      have q1 : decide (x < y) = false := by simp; omega
      have q2 : decide (x > y) = false := by simp; omega
      rw [e]
      clear e
      go_enter Try.func42, Try.ntmps42
      go_wp2_with (go_at_call 50; refine (cmp_isNaN _ _).mono ?_; rintro e w' ⟨rfl, rfl⟩)
      go_ret
      exact ⟨rfl, rfl⟩
theorem dropT (xs : List Int) (k : Nat) (h : k < xs.length) : xs.drop k = nth xs k :: xs.drop (k + 1) := by rw [List.drop_eq_getElem_cons h]; simp [nth, h]
/-- The first one of a row that is not 0. -/
def orL : List Int → Int
  | [] => 0
  | x :: xs => orI x (orL xs)
set_option maxHeartbeats 1000000 in
theorem cmp_Or (a : Option Addr) (n c : Nat) (xs : List Int) (w : World) (hx : Row .i64 w a xs) (hl : xs.length = n) (hn : n ≤ 4194304) :
    Calls Try.prog 41 #[.slice a n c] w fun e w' => e = .returned (.int .i64 (orL xs)) ∧ w = w' := by
  have HX := Lib.hid hx
  have HN := Lib.hid hl
  obtain ⟨V, hV⟩ : ∃ V, orL xs = V := ⟨_, rfl⟩
  rw [hV]
  have HV := Lib.hid hV
  clear hx hl hV
  go_enter Try.func41, Try.ntmps41
  go_wp2_with fail
  go_loopw [8] (fun i wr => ∃ j : Nat, j ≤ n ∧ i = .int .i64 j ∧ Hid (orL (xs.drop j) = V) ∧ w = wr) (fun i _ => n - (intOf i).toNat)
  case atStart => exact ⟨0, Nat.zero_le _, rfl, HV.out, rfl⟩
  case round =>
    obtain ⟨j, hj, rfl, HE, rfl⟩ := hrel
    by_cases hlt : j < n
    · obtain ⟨b, off, rfl, hc⟩ := HX.out.at (by rw [HN.out]; omega)
      have h1 := hc j (by rw [HN.out]; exact hlt)
      have hd := dropT xs j (by rw [HN.out]; exact hlt)
      have he := HE.out
      rw [hd] at he
      have he2 : orI (nth xs j) (orL (xs.drop (j + 1))) = V := he
      obtain ⟨x, hx⟩ : ∃ x, nth xs j = x := ⟨_, rfl⟩
      rw [hx] at h1 he2
      clear hc hd he hx HE
      by_cases h0 : x = 0
      · subst h0
        have HZ : Hid (orL (xs.drop (j + 1)) = V) := he2
        clear he2
        go_wp2_with fail
        go_roundw
        case rel => exact ⟨j + 1, by omega, by go_num, HZ.out, trivial⟩
        case measure => simp [intOf]; omega
      · have HZ : Hid (x = V) := by have := he2; unfold orI at this; rwa [if_neg h0] at this
        have h2 : (x != 0) = true := by simp; omega
        clear he2
        go_wp2_with fail
        go_ret
        exact ⟨by simp [HZ.out], rfl⟩
    · have hjn : j = n := by omega
      have he := HE.out
      rw [List.drop_eq_nil_of_le (by rw [HN.out]; omega)] at he
      have HZ : Hid (0 = V) := he
      clear he HE
      go_wp2_with fail
      go_ret
      exact ⟨by simp [← HZ.out], rfl⟩
end Go.Proofs.Ytonffapiamhdbaa

namespace Go.Proofs.Ytonffapiamhdbaa
open Go.RowKit
set_option linter.unusedVariables false
set_option linter.unusedSimpArgs false
set_option maxRecDepth 100000
theorem Kids.lt {w : World} {F : Nat → Prop} {a : Option Addr} {cap : Nat} {ks : List Tr} (h : Kids w F a cap ks) : Kids w (Lt w.heap.size) a cap ks := by
  induction h with
  | nil => exact .nil
  | empty a cap => exact .empty a cap
  | row b off cap ks A C hpos hl hF h0 h1 h2 _ ih => exact .row b off cap ks A C hpos hl (World.block_lt_of_cell? w _ (h0 0 hpos)) h0 h1 h2 ih
theorem IsT.lt {w : World} {F : Nat → Prop} {k n : Int} {a : Option Addr} {m cap : Nat} {t : Tr} (h : IsT w F k n a m cap t) : IsT w (Lt w.heap.size) k n a m cap t := ⟨h.ek, h.en, h.em, h.ok, h.kids.lt⟩
namespace Tr
/-- The node at a place. -/
def at? (t : Tr) : List Int → Option Tr
  | [] => some t
  | i :: p => if 0 ≤ i ∧ i < (t.kids.length : Int) then at? (kid t.kids i.toNat) p else none
theorem at_yes {t s : Tr} {i : Int} {p : List Int} (h : at? t (i :: p) = some s) : 0 ≤ i ∧ i < (t.kids.length : Int) ∧ at? (kid t.kids i.toNat) p = some s := by
  unfold at? at h
  split at h
  · rename_i hc; exact ⟨hc.1, hc.2, h⟩
  · cases h
theorem at_in {t : Tr} {i : Int} {p : List Int} (h0 : 0 ≤ i) (h1 : i < (t.kids.length : Int)) : at? t (i :: p) = at? (kid t.kids i.toNat) p := by
  rw [at?, if_pos ⟨h0, h1⟩]
/-- No tree. -/
def zero : Tr := node 0 0 []
end Tr
end Go.Proofs.Ytonffapiamhdbaa

