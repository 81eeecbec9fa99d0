/- The contracts and plain laws that the statement TableFills needs, part 1 of 3: Mem Open Rowing Tree TreeB TreeC TreeD TreeE TreeH TreeJ TreeS Bool0 SzA Pow SzB FactL ValL FactA ValD ValE CandL Gold Field GoldB GoldR GoldLaws Vec VecB VecC Sums. -/
import Derived.Test.YtcckfeikaolfgaaProg
import Derived.WalkKit
import Derived.WalkSpells
import Derived.WalkLawsBesides
import Derived.Handy
import Derived.Lib.Hide
import Derived.ProofKit
import Derived.OpenShut
import Derived.Carry
import Derived.Lib.SmallJoins
import Derived.ChangeArms
import Derived.Deep.Slices
import Derived.DataReads
import Derived.Laws.AppendOwnNone
import Derived.Deep.AppendLies
import Derived.Deep.RegionHeld3
import Derived.Deep.RegionLaw
import Derived.BigQuiet
import Derived.Deep.QuietTactic
import Derived.StillTailTactics
import Derived.RangeFuncNested
import Derived.RangeFuncBound
import Derived.RangeFuncCalls
import Derived.RangeFuncLeaves
import Derived.RangeFuncBox
import Derived.RangeFuncWrites
import Derived.Shelf.Abstract
import Derived.Shelf.RegionOpen
import Derived.OwnWalkIn
import Derived.TacticsInMore
import Derived.LoopNIn
import Derived.LoopIn
import Derived.RangeFuncIn
import Derived.ArgAppend
import Derived.Shelf.Lay
import Derived.Shelf.LaySoft
import Derived.Shelf.Small.Bits
import Derived.Ground.Names2Prog
import Derived.Lib.Mul64
import Derived.Laws.Externs
import Derived.Shelf.Spec.BitsCarry
import Derived.PlainAid
import Derived.Laws.Bits64b
import Derived.Shelf.Bits.Mul64
import Derived.Deep.DrawnRows
import Derived.Lib.AppendZeros
import Derived.Lib.AppendZerosOnto
import Derived.BigFrame
import Derived.OrdersIn
import Derived.Laws.EntriesVeiled
import Derived.ScopeJumps
import Derived.WalkMore
import Derived.Lib.BitFns
import Derived.WideKeyRuns
import Derived.MapKept
import Derived.RangeFuncRecord
import Derived.Laws.CopyOwn
import Derived.ShutString
import Derived.ChangeOld
namespace Go.Proofs.Ytcckfeikaolfgaa
open Go.RowKit
set_option linter.unusedVariables false
set_option linter.unusedSimpArgs false
set_option maxRecDepth 100000
theorem ret_int {k : IntKind} {a b : Int} (h : a = b) : Ending.returned (.int k a) = .returned (.int k b) := by rw [h]
theorem ret_bool {a b : Bool} (h : a = b) : Ending.returned (.bool a) = .returned (.bool b) := by rw [h]
/-- The i-th number of a list (a name that the walk's simp leaves alone). -/
def nth (xs : List Int) (i : Nat) : Int := xs.getD i 0
theorem nth_map (f : Int → Int) (xs : List Int) (i : Nat) (h : i < xs.length) : nth (xs.map f) i = f (nth xs i) := by
  simp [nth, h]
theorem nth_mem {xs : List Int} {i : Nat} (h : i < xs.length) : nth xs i ∈ xs := by
  simp [nth, h]
theorem nth_append_left {xs ys : List Int} {i : Nat} (h : i < xs.length) : nth (xs ++ ys) i = nth xs i := by
  simp [nth, List.getElem?_append_left h]
theorem nth_append_right {xs ys : List Int} {i : Nat} (h : xs.length ≤ i) : nth (xs ++ ys) i = nth ys (i - xs.length) := by
  simp [nth, List.getElem?_append_right h]
theorem nth_take {xs : List Int} {n i : Nat} (h : i < n) : nth (xs.take n) i = nth xs i := by
  simp [nth, h]
theorem ext_nth {xs ys : List Int} (hl : xs.length = ys.length) (h : ∀ i, i < xs.length → nth xs i = nth ys i) : xs = ys := by
  apply List.ext_getElem hl
  intro i h1 h2
  have := h i h1
  simpa [nth, h1, h2] using this
theorem nth_ofFn (f : Nat → Int) (n i : Nat) (h : i < n) : nth ((List.range n).map f) i = f i := by
  simp [nth, h]
theorem map_nth (f : Int → Int) (xs : List Int) : xs.map f = (List.range xs.length).map fun i => f (nth xs i) :=
  ext_nth (by simp) (fun i hi => by
    have h1 : i < xs.length := by simpa using hi
    rw [nth_map f xs i h1, nth_ofFn _ _ _ h1])
/-- Kind k holds the number x. -/
def fits (k : IntKind) (x : Int) : Prop := (Lit.int k x).wf = true
theorem fits_u64 {x : Int} : fits .u64 x ↔ 0 ≤ x ∧ x < 18446744073709551616 := by
  unfold fits
  simp only [Lit.wf, Bool.and_eq_true, decide_eq_true_eq, show IntKind.u64.min = 0 from rfl, show IntKind.u64.max = 18446744073709551615 from rfl]
  omega
theorem fits_i64 {x : Int} : fits .i64 x ↔ -9223372036854775808 ≤ x ∧ x < 9223372036854775808 := by
  unfold fits
  simp only [Lit.wf, Bool.and_eq_true, decide_eq_true_eq, show IntKind.i64.min = -9223372036854775808 from rfl, show IntKind.i64.max = 9223372036854775807 from rfl]
  omega
/-- The slice at address a (length: the list's) holds the numbers xs, of kind k. -/
structure Row (k : IntKind) (w : World) (a : Option Addr) (xs : List Int) : Prop where
  len : xs.length ≤ 9223372036854775807
  wf : ∀ x ∈ xs, fits k x
  lies : xs = [] ∨ ∃ b off, a = some ⟨b, off, none⟩ ∧ ∀ i, i < xs.length → w.cell? ⟨b, off + i, none⟩ = some (.int k (nth xs i))
theorem Row.nil (k : IntKind) (w : World) (a : Option Addr) : Row k w a [] := ⟨by simp, by simp, .inl rfl⟩
theorem Row.at {k : IntKind} {w : World} {a : Option Addr} {xs : List Int} (h : Row k w a xs) (h0 : 0 < xs.length) : ∃ b off, a = some ⟨b, off, none⟩ ∧ ∀ i, i < xs.length → w.cell? ⟨b, off + i, none⟩ = some (.int k (nth xs i)) := by
  rcases h.lies with h1 | h1
  · subst h1; simp at h0
  · exact h1
theorem Row.below {k : IntKind} {w w' : World} {a : Option Addr} {xs : List Int} (h : Row k w a xs) (hb : Below w.heap.size w w') : Row k w' a xs := by
  refine ⟨h.len, h.wf, ?_⟩
  rcases h.lies with h1 | ⟨b, off, h1, h2⟩
  · exact .inl h1
  · refine .inr ⟨b, off, h1, fun i hi => ?_⟩
    rw [hb.cell (World.block_lt_of_cell? w _ (h2 i hi))]
    exact h2 i hi
theorem Row.grown {k : IntKind} {w w' : World} {a : Option Addr} {xs : List Int} (h : Row k w a xs) (hb : w.grownBy w' none) : Row k w' a xs :=
  h.below ⟨hb.os, hb.tape, hb.output, hb.size, fun k hk => hb.block k hk (by simp)⟩
/-- What the call owns, as a row that reads. -/
theorem Row.of_own {k : IntKind} {w : World} {base : Nat} {e : TypeId} {a : Option Addr} {n cap : Nat} {xs : List Int} (hn : xs.length = n) (hl : n ≤ 9223372036854775807) (hf : ∀ x ∈ xs, fits k x)
    (h : w.ownsRow base e 1 (.slice a n cap) n (xs.map (Value.int k))) : Row k w a xs := by
  refine ⟨by omega, hf, ?_⟩
  obtain ⟨h1, h2 | ⟨g, c, cur, hv, _⟩⟩ := h
  · left; obtain ⟨_, rfl⟩ := h2; exact List.length_eq_zero_iff.1 hn
  · right
    simp only [Value.slice.injEq] at hv
    obtain ⟨rfl, _, rfl⟩ := hv
    refine ⟨g, 0, rfl, fun i hi => ?_⟩
    have := World.ownsRow.cellAt ⟨h1, .inr ⟨g, cap, cur, rfl, by assumption⟩⟩ i (by omega)
    rw [Nat.zero_add, this]
    simp [nth, hi]
/-- The capacity of a slice of n elements. -/
def OkCap (a : Option Addr) (n cap : Nat) : Prop := n ≤ cap ∧ (a = none → cap = 0)
/-- Below, one behind the other. -/
theorem chain {w w1 w2 : World} (h : Below w.heap.size w w1) (h2 : Below w1.heap.size w1 w2) : Below w.heap.size w w2 := h.trans (h2.mono h.size)
theorem chainA {w w1 w2 : World} {o : Obj} (h : Below w.heap.size w w1) (h2 : Below (w1.alloc o).heap.size (w1.alloc o) w2) : Below w.heap.size w w2 :=
  (h.alloc h.size o).trans (h2.mono (by have := h.size; simp; omega))
theorem info_u64 : (Try.prog.info? 34).map (fun i => (i.zero, i.size, i.bytes)) = some (some (.int .u64 0), 1, 8) := by kernel_rfl
theorem info_int : (Try.prog.info? 3).map (fun i => (i.zero, i.size, i.bytes)) = some (some (.int .i64 0), 1, 8) := by kernel_rfl
end Go.Proofs.Ytcckfeikaolfgaa

namespace Go.Proofs.Ytcckfeikaolfgaa
open Go.ChangeShapes Go.WideShapes Go.ChangeAt Go.RowKit
set_option linter.unusedVariables false
set_option linter.unusedSimpArgs false
set_option maxRecDepth 100000
theorem open_row {H : Type} {enc : TypeId × Value → H} {P : Program} {W : World} {r : Reach} {b0 base : Nat} {sp : Nat → Bool} {held : Bool} {t e : TypeId} {k : IntKind} {v : Value} {d : DataW H} {p : List MemPlace}
    (ht : P.underlying t = some (.slice e)) (he : P.underlying e = some (.int k)) (hc : P.cellsOf e = 1) (hv : Value.okWide P W r b0 t v) (h : DataW.Trod enc P W base sp held t v d p) :
    ∃ (a : Option Addr) (c : Nat) (xs : List Int), v = .slice a xs.length c ∧ Row k W a xs ∧ OkCap a xs.length c := by
  obtain ⟨a0, len0, cap0, rfl⟩ := okWide_slice ht hv
  obtain ⟨fuel, hf⟩ := h
  rcases open_ints ht he hc hf with ⟨hcs, _⟩ | ⟨x, l, c, zs, hcs, _, hl, hm, hz, _, hcell, hwz⟩
  · simp [Value.cells] at hcs
    obtain ⟨rfl, rfl, rfl⟩ := hcs
    exact ⟨none, 0, [], rfl, Row.nil _ _ _, Nat.le_refl _, fun _ => rfl⟩
  · simp [Value.cells] at hcs
    obtain ⟨rfl, rfl, rfl⟩ := hcs
    have hle : len0 ≤ zs.length := by rw [hz]; split <;> omega
    have hlt : (zs.take len0).length = len0 := by simp; omega
    have hm' : len0 ≤ 9223372036854775807 := by have := Nat.le_trans hl hm; unfold maxLen at this; omega
    refine ⟨some x, cap0, zs.take len0, by rw [hlt], ⟨by omega, fun y hy => hwz y (List.mem_of_mem_take hy), ?_⟩, by rw [hlt]; exact hl, fun h => by cases h⟩
    by_cases h0 : len0 = 0
    · left; subst h0; rfl
    · right
      obtain ⟨b, off, spot⟩ := x
      have hc0 := hcell 0 (by omega)
      have hspot : spot = none := by simpa [Addr.add] using World.cell?_spot hc0
      subst hspot
      refine ⟨b, off, rfl, fun i hi => ?_⟩
      have := hcell i (by omega)
      rw [nth_take (by omega)]
      by_cases hi0 : i = 0
      · subst hi0; simpa [Addr.add, nth] using this
      · simpa [Addr.add, nth, hi0] using this
end Go.Proofs.Ytcckfeikaolfgaa
namespace Go.Proofs.Ytcckfeikaolfgaa
open Go.ChangeShapes Go.WideShapes Go.ChangeAt Go.RowKit
set_option linter.unusedVariables false
set_option linter.unusedSimpArgs false
theorem open_four {H : Type} {enc : TypeId × Value → H} {P : Program} {W : World} {r : Reach} {b0 base : Nat} {sp : Nat → Bool} {held : Bool} {T : TypeId} {f0 f1 f2 f3 : Field} {q : IntKind} {v : Value} {d : DataW H} {p : List MemPlace}
    (hs : P.underlying T = some (.struct #[f0, f1, f2, f3])) (o0 : f0.offset = 0) (o1 : f1.offset = 1) (o2 : f2.offset = 2) (o3 : f3.offset = 3) (c0 : P.cellsOf f0.type = 1) (c1 : P.cellsOf f1.type = 1) (c2 : P.cellsOf f2.type = 1) (c3 : P.cellsOf f3.type = 1)
    (i0 : P.underlying f0.type = some (.int q)) (i1 : P.underlying f1.type = some (.int q)) (i2 : P.underlying f2.type = some (.int q)) (i3 : P.underlying f3.type = some (.int q)) (hC : P.cellsOf T = 4) (hv : Value.okWide P W r b0 T v) (h : DataW.Trod enc P W base sp held T v d p) :
    ∃ x y z u, v = .agg #[.int q x, .int q y, .int q z, .int q u] ∧ fits q x ∧ fits q y ∧ fits q z ∧ fits q u := by
  obtain ⟨cs, rfl, hsz⟩ := okWide_struct hs hv
  obtain ⟨fuel, hf⟩ := h
  obtain ⟨ys, n, rfl, -, hlen, hyl, hfs⟩ := DataW.trod_struct hs hf
  rw [hC] at hlen
  obtain ⟨l⟩ := cs
  simp only [Value.cells] at hlen hfs
  match l, hlen with
  | [v0, v1, v2, v3], _ =>
    match ys, hyl with
    | [y0, y1, y2, y3], _ =>
      have e0 := hfs 0 f0 rfl
      have e1 := hfs 1 f1 rfl
      have e2 := hfs 2 f2 rfl
      have e3 := hfs 3 f3 rfl
      rw [o0, c0] at e0
      rw [o1, c1] at e1
      rw [o2, c2] at e2
      rw [o3, c3] at e3
      simp only [List.drop_zero, List.drop_succ_cons, List.take_succ_cons, List.take_zero, List.getElem?_cons_zero, List.getElem?_cons_succ] at e0 e1 e2 e3
      obtain ⟨x, hx, _, wx⟩ := DataW.trod_int i0 e0
      obtain ⟨y, hy, _, wy⟩ := DataW.trod_int i1 e1
      obtain ⟨z, hz, _, wz⟩ := DataW.trod_int i2 e2
      obtain ⟨u, hu, _, wu⟩ := DataW.trod_int i3 e3
      simp only [List.cons.injEq, and_true] at hx hy hz hu
      subst hx hy hz hu
      exact ⟨x, y, z, u, rfl, wx, wy, wz, wu⟩
end Go.Proofs.Ytcckfeikaolfgaa

namespace Go.Proofs.Ytcckfeikaolfgaa
open Go.RowKit
set_option linter.unusedVariables false
set_option linter.unusedSimpArgs false
set_option maxRecDepth 100000
/-- The value in a new block of one cell (a captured variable). -/
theorem one_new (w : World) (v : Value) (t : TypeId) : (w.alloc (.cells #[v] t)).cell? ⟨w.heap.size, 0, none⟩ = some v := by
  simp
theorem cell_new {w : World} {v : Value} {t : TypeId} {n : Nat} (h : n = w.heap.size) : (w.alloc (.cells #[v] t)).cell? ⟨n, 0, none⟩ = some v := by
  subst h; simp
theorem cell_past (w : World) (o : Obj) (a : Addr) (h : a.block < w.heap.size) : (w.alloc o).cell? a = w.cell? a := ((Below.refl _ _).alloc (Nat.le_refl _) o).cell h
theorem grown_of_drew {w w1 : World} {row : Option Nat} (hg : w.drew.grownBy w1 row) : w.grownBy w1 row := ⟨hg.os, hg.tape, hg.output, hg.size, hg.block⟩
/-- A cell of another block, behind a new block, a draw and an append. -/
theorem cell_grown {w w1 : World} {o : Obj} {row : Option Nat} {a : Addr} {v : Value} (h : w.cell? a = some v) (hne : row ≠ some a.block) (hg : ((w.alloc o).drew).grownBy w1 row) : w1.cell? a = some v :=
  hg.cell (a := a) (show ((w.alloc o).drew).cell? a = some v from (cell_past w o a (World.block_lt_of_cell? w _ h)).trans h) (Ne.symm hne)
/-- A result: a new row that reads as the list. -/
def GivesRow (k : IntKind) (xs : List Int) (w : World) (e : Ending) (w' : World) : Prop :=
  ∃ a cap, e = .returned (.slice a xs.length cap) ∧ Row k w' a xs ∧ OkCap a xs.length cap ∧ Below w.heap.size w w'
/-- The slice value v, of n numbers (the i-th: f i), is the call's own: it was made behind the world w. -/
structure Own (k : IntKind) (e : TypeId) (w wr : World) (v : Value) (n : Nat) (f : Nat → Int) : Prop where
  own : wr.ownsRow w.heap.size e 1 v n ((List.range n).map fun j => Value.int k (f j))
  below : Below w.heap.size w wr
theorem Own.nil (k : IntKind) (e : TypeId) (w : World) (f : Nat → Int) : Own k e w w (.slice none 0 0) 0 f := ⟨World.ownsRow_nil _ _ _ _, Below.refl _ _⟩
theorem own_lt {wr : World} {e : TypeId} {v : Value} {n : Nat} {xs : List Value} {B : Nat} (h : wr.ownsRow B e 1 v n xs) : ∀ k, v.ownBlock = some k → B ≤ k := fun k hk => (h.lt k hk).1
theorem below_grown {w wr w1 : World} {o : Obj} {B : Nat} {row : Option Nat} (hb : Below B w wr) (hB : B ≤ wr.heap.size) (hr : ∀ k, row = some k → B ≤ k) (hg : (wr.alloc o).grownBy w1 row) : Below B w w1 :=
  (hb.alloc hB o).grown hg (by simp; omega) hr
theorem size_alloc_le {w wr : World} (hb : Below w.heap.size w wr) (o : Obj) : w.heap.size ≤ (wr.alloc o).heap.size := by
  have := hb.size; simp; omega
theorem one_cell (k : IntKind) (x : Int) : ∀ u ∈ [Value.int k x], u.oneCell' = true := by
  intro u hu; simp at hu; subst hu; rfl
theorem Own.push {k : IntKind} {e : TypeId} {w wr w1 : World} {v v' : Value} {n : Nat} {f : Nat → Int} {o : Obj} (h : Own k e w wr v n f) (x : Int) (hx : x = f n)
    (hown : w1.ownsRow w.heap.size e 1 v' (n + 1) (((List.range n).map fun j => Value.int k (f j)) ++ [.int k x])) (hg : (wr.alloc o).grownBy w1 v.ownBlock) : Own k e w w1 v' (n + 1) f := by
  subst hx
  refine ⟨?_, below_grown h.below h.below.size (own_lt h.own) hg⟩
  rw [List.range_succ, List.map_append]
  exact hown
theorem Own.drew {k : IntKind} {e : TypeId} {w wr : World} {v : Value} {n : Nat} {f : Nat → Int} (h : Own k e w wr v n f) : Own k e w wr.drew v n f := ⟨h.own.drew, h.below.drew⟩
theorem Own.later {k : IntKind} {e : TypeId} {w wr w' : World} {v : Value} {n : Nat} {f : Nat → Int} (h : Own k e w wr v n f) (hb : Below wr.heap.size wr w') : Own k e w w' v n f :=
  ⟨h.own.kept (row := none) ⟨hb.os, hb.tape, hb.output, hb.size, fun j hj _ => hb.block j hj⟩ (by cases v.ownBlock <;> simp), h.below.trans (hb.mono h.below.size)⟩
theorem own_slice {w : World} {B : Nat} {e : TypeId} {v : Value} {n : Nat} {xs : List Value} (h : w.ownsRow B e 1 v n xs) : ∃ a cap, v = .slice a n cap ∧ OkCap a n cap := by
  rcases h.2 with ⟨rfl, rfl⟩ | ⟨g, cap, cur, rfl, _, _, hc, _⟩
  · exact ⟨none, 0, rfl, Nat.le_refl _, fun _ => rfl⟩
  · exact ⟨_, _, rfl, hc, fun h => by cases h⟩
theorem Own.gives {k : IntKind} {e : TypeId} {w wr : World} {v : Value} {n : Nat} {f : Nat → Int} (h : Own k e w wr v n f) {xs : List Int} (hn : xs.length = n) (hw : ∀ x ∈ xs, fits k x) (hf : ∀ i, i < n → nth xs i = f i) (hl : n ≤ 16777216) :
    GivesRow k xs w (.returned v) wr := by
  obtain ⟨a, cap, rfl, hnil⟩ := own_slice h.own
  refine ⟨a, cap, by rw [hn], ?_, by rw [hn]; exact hnil, h.below⟩
  refine Row.of_own hn (by omega) hw (base := w.heap.size) (e := e) (cap := cap) ?_
  have e1 : xs.map (Value.int k) = (List.range n).map fun j => Value.int k (f j) := by
    apply List.ext_getElem (by simp [hn])
    intro i h1 h2
    have h3 : i < n := by simpa [hn] using h1
    have := hf i h3
    simp only [List.getElem_map, List.getElem_range]
    rw [← this]
    simp [nth, show i < xs.length by omega]
  rw [e1]
  exact h.own
/-- The row of n numbers at the head of block g is the call's own. -/
structure OwnAt (k : IntKind) (e : TypeId) (w wr : World) (g n : Nat) (f : Nat → Int) : Prop where
  own : wr.ownsRow w.heap.size e 1 (.slice (some ⟨g, 0, none⟩) n n) n ((List.range n).map fun j => Value.int k (f j))
  below : Below w.heap.size w wr
theorem OwnAt.cell {k : IntKind} {e : TypeId} {w wr : World} {g n : Nat} {f : Nat → Int} (h : OwnAt k e w wr g n f) (i : Nat) (hi : i < n) : wr.cell? ⟨g, i, none⟩ = some (.int k (f i)) := by
  rw [h.own.cellAt i (by omega)]; simp [hi]
theorem OwnAt.free {k : IntKind} {e : TypeId} {w wr : World} {g n : Nat} {f : Nat → Int} (h : OwnAt k e w wr g n f) (i : Nat) : wr.frozen? ⟨g, i, none⟩ = false := h.own.frozenAt i
theorem OwnAt.base {k : IntKind} {e : TypeId} {w wr : World} {g n : Nat} {f : Nat → Int} (h : OwnAt k e w wr g n f) : w.heap.size ≤ g ∧ g < wr.heap.size := h.own.lt g rfl
theorem OwnAt.later {k : IntKind} {e : TypeId} {w wr w' : World} {g n : Nat} {f : Nat → Int} (h : OwnAt k e w wr g n f) (hb : Below wr.heap.size wr w') : OwnAt k e w w' g n f := by
  refine ⟨?_, h.below.trans (hb.mono h.below.size)⟩
  exact h.own.kept (row := none) ⟨hb.os, hb.tape, hb.output, hb.size, fun j hj _ => hb.block j hj⟩ (.inr (by simp [Value.ownBlock]))
theorem list_store {k : IntKind} (n i : Nat) (hi : i < n) (f f' : Nat → Int) (x : Int) (hx : f' i = x) (hf : ∀ j, j < n → j ≠ i → f' j = f j) :
    ((List.range n).map fun j => Value.int k (f j)).set i (.int k x) = (List.range n).map fun j => Value.int k (f' j) := by
  apply List.ext_getElem (by simp)
  intro j h1 h2
  have hj : j < n := by simpa using h2
  by_cases hji : j = i
  · subst hji; simp [hx]
  · rw [List.getElem_set_ne (Ne.symm hji)]; simp [hf j hj hji]
theorem OwnAt.store {k : IntKind} {e : TypeId} {w wr : World} {g n : Nat} {f f' : Nat → Int} (h : OwnAt k e w wr g n f) (i : Nat) (hi : i < n) (x : Int) (hx : f' i = x) (hf : ∀ j, j < n → j ≠ i → f' j = f j) :
    OwnAt k e w (wr.setCell ⟨g, i, none⟩ (.int k x)) g n f' := by
  refine ⟨?_, h.below.setCell h.base.1 _⟩
  have h1 := h.own.stored i (.int k x)
  rw [list_store n i hi f f' x hx hf] at h1
  exact h1.1
theorem OwnAt.gives {k : IntKind} {e : TypeId} {w wr : World} {g n : Nat} {f : Nat → Int} (h : OwnAt k e w wr g n f) {xs : List Int} (hn : xs.length = n) (hw : ∀ x ∈ xs, fits k x) (hf : ∀ i, i < n → nth xs i = f i) (hl : n ≤ 16777216) :
    GivesRow k xs w (.returned (.slice (some ⟨g, 0, none⟩) n n)) wr :=
  Own.gives (e := e) ⟨h.own, h.below⟩ hn hw hf hl
theorem OwnAt.row {k : IntKind} {e : TypeId} {w wr : World} {g n : Nat} {f : Nat → Int} (h : OwnAt k e w wr g n f) {xs : List Int} (hn : xs.length = n) (hw : ∀ x ∈ xs, fits k x) (hf : ∀ i, i < n → nth xs i = f i) (hl : n ≤ 16777216) :
    Row k wr (some ⟨g, 0, none⟩) xs := by
  obtain ⟨a, cap, he, hr, _⟩ := h.gives hn hw hf hl
  simp only [Ending.returned.injEq, Value.slice.injEq] at he
  rw [he.1]; exact hr
theorem Own.made {k : IntKind} {e : TypeId} {w w1 : World} {n : Nat} (h : w1.ownsRow w.heap.size e 1 (.slice (some ⟨w.heap.size, 0, none⟩) n n) n (madeCells #[Value.int k 0] n).toList) (hg : w.grownBy w1 none) :
    OwnAt k e w w1 w.heap.size n (fun _ => 0) := by
  refine ⟨?_, (Below.refl _ _).grown hg (Nat.le_refl _) (by simp)⟩
  have e1 : (madeCells #[Value.int k 0] n).toList = (List.range n).map fun j => Value.int k 0 := by
    rw [toList_madeCells_one]
    apply List.ext_getElem (by simp)
    intro i h1 h2
    simp
  rw [e1] at h
  exact h
/-- append of a whole row that reads (nil or not) to a row of the call's own. -/
theorem wpList_append_row {P : Program} {w : World} {ops : Array Oper} {rest : List Oper} {o : Oper} {a : Act} {Q : Exit → Act → World → Prop} (hgd : o.guard = none) (s x : Operand) (t : TypeId)
    (ho : o.op = .call { callee := .builtin .append, args := #[s, x], argTypes := #[t, t] }) (k : IntKind)
    (base : Nat) (e : TypeId) (i : TypeInfo) (z : Value) (ht : P.underlying t = some (.slice e)) (hi : P.info? e = some i) (hz : i.zero = some z) (hz1 : i.size = 1) (hz2 : i.bytes = 8) (hzz : z.cells.size = 1)
    (v : Value) (n : Nat) (xs : List Value) (hs : a.eval s = v) (hown : w.ownsRow base e 1 v n xs) (ad : Option Addr) (m c : Nat) (ys : List Int) (hx : a.eval x = .slice ad m c) (hm : ys.length = m) (hrow : Row k w ad ys) (hnil : ad = none → c = 0)
    (hlen : n + m ≤ 1000000000) (hbase : base ≤ w.heap.size)
    (h : ∀ v' w1, w1.ownsRow base e 1 v' (n + m) (xs ++ ys.map (Value.int k)) → w.grownBy w1 v.ownBlock → wpList P ops Q rest (a.put o.dst v') w1) : wpList P ops Q (o :: rest) a w := by
  subst hm
  cases ad with
  | none =>
    have h0 : ys = [] := by
      rcases hrow.lies with h1 | ⟨b, off, h1, _⟩
      · exact h1
      · cases h1
    subst h0
    rw [hnil rfl] at hx
    refine wpList_append_own_none hgd s x t ho base e i 1 ht hi v n xs hs hown hx ?_
    have := h v w (by simpa using hown) (World.grownBy.refl _ _)
    exact this
  | some ad =>
    refine wpList_append_own w hgd s x t ho base e i z 1 8 ht hi hz hz1 hz2 hzz (by decide) v n xs hs hown ad ys.length c (ys.map (Value.int k)) hx (by simp) ?_ (ints_oneCell k ys) (by unfold maxLen; omega) (by omega) hbase ?_
    · intro j u hj
      rcases hrow.lies with h1 | ⟨b, off, h1, h2⟩
      · subst h1; simp at hj
      · cases h1
        have hjl : j < ys.length := by
          have := (List.getElem?_eq_some_iff.1 hj).1
          simpa using this
        have h3 := h2 j hjl
        have h4 : u = .int k (nth ys j) := by
          simp [hjl] at hj
          rw [← hj]; simp [nth, hjl]
        rw [h4, ← h3]
        by_cases hj0 : j = 0
        · subst hj0; simp [Addr.add]
        · simp [Addr.add, hj0]
    · intro v' w1 h1 h2 _
      exact h v' w1 h1 h2
theorem own_later {w w' : World} {B : Nat} {e : TypeId} {v : Value} {n : Nat} {xs : List Value} (h : w.ownsRow B e 1 v n xs) (hb : Below w.heap.size w w') : w'.ownsRow B e 1 v n xs :=
  h.kept (row := none) ⟨hb.os, hb.tape, hb.output, hb.size, fun j hj _ => hb.block j hj⟩ (by cases v.ownBlock <;> simp)
theorem gives_of_own {k : IntKind} {e : TypeId} {w wr : World} {v : Value} {n : Nat} {L : List Value} (h : wr.ownsRow w.heap.size e 1 v n L) (hb : Below w.heap.size w wr) {xs : List Int} (hL : L = xs.map (Value.int k)) (hn : xs.length = n) (hw : ∀ x ∈ xs, fits k x) (hl : n ≤ 16777216) :
    GivesRow k xs w (.returned v) wr := by
  subst hL
  obtain ⟨a, cap, rfl, hnil⟩ := own_slice h
  exact ⟨a, cap, by rw [hn], Row.of_own hn (by omega) hw h, by rw [hn]; exact hnil, hb⟩
theorem append_below {w w1 w2 : World} {B : Nat} {e : TypeId} {v : Value} {n : Nat} {xs : List Value} (hb : Below B w w1) (hB : B ≤ w1.heap.size) (hown : w1.ownsRow B e 1 v n xs) (hg : w1.grownBy w2 v.ownBlock) : Below B w w2 :=
  hb.grown hg hB (own_lt hown)
/-- A new block that holds the numbers, as a row. -/
theorem row_new (k : IntKind) (w : World) (t : TypeId) (xs : List Int) (hw : ∀ x ∈ xs, fits k x) (hl : xs.length ≤ 16777216) : Row k (w.alloc (.cells (xs.map (Value.int k)).toArray t)) (some ⟨w.heap.size, 0, none⟩) xs := by
  have h := World.ownsRow_lit (base := 0) (e := t) (size := 1) w (xs.map (Value.int k)).toArray xs.length (Nat.zero_le _) (by unfold maxLen; omega) (by simp)
  exact Row.of_own (base := 0) (e := t) (cap := xs.length) rfl (by omega) hw (by simpa using h)
end Go.Proofs.Ytcckfeikaolfgaa

namespace Go.Proofs.Ytcckfeikaolfgaa
open Go.RowKit
set_option linter.unusedVariables false
set_option linter.unusedSimpArgs false
set_option maxRecDepth 100000
/-- A tree: two numbers, and trees below. -/
inductive Tr where
  | node (k n : Int) (ks : List Tr) : Tr
namespace Tr
def kind : Tr → Int | node k _ _ => k
def num : Tr → Int | node _ n _ => n
def kids : Tr → List Tr | node _ _ ks => ks
mutual
def size : Tr → Nat
  | node _ _ ks => sizeL ks + 1
def sizeL : List Tr → Nat
  | [] => 0
  | t :: ts => size t + sizeL ts
end
mutual
def Ok : Tr → Prop
  | node k n ks => fits .i64 k ∧ fits .i64 n ∧ OkL ks
def OkL : List Tr → Prop
  | [] => True
  | t :: ts => Ok t ∧ OkL ts
end
/-- The i-th of some trees. -/
def kid (ks : List Tr) (i : Nat) : Tr := ks.getD i (node 0 0 [])
theorem kid_mem {ks : List Tr} {i : Nat} (h : i < ks.length) : kid ks i ∈ ks := by simp [kid, h]
theorem ok_kids {t : Tr} (h : t.Ok) : OkL t.kids := by cases t; simp only [Ok, kids] at *; exact h.2.2
theorem ok_kind {t : Tr} (h : t.Ok) : fits .i64 t.kind := by cases t; simp only [Ok, kind] at *; exact h.1
theorem ok_num {t : Tr} (h : t.Ok) : fits .i64 t.num := by cases t; simp only [Ok, num] at *; exact h.2.1
theorem ok_mem {ks : List Tr} {t : Tr} (h : t ∈ ks) (hk : OkL ks) : t.Ok := by
  induction ks with
  | nil => cases h
  | cons x r ih =>
    simp only [OkL] at hk
    rcases List.mem_cons.1 h with rfl | h
    · exact hk.1
    · exact ih h hk.2
theorem okL_of {ks : List Tr} (h : ∀ t ∈ ks, t.Ok) : OkL ks := by
  induction ks with
  | nil => simp [OkL]
  | cons x r ih => simp only [OkL]; exact ⟨h x (by simp), ih fun t ht => h t (by simp [ht])⟩
end Tr
/-- The slice at address a (its capacity: cap) reads as the trees; the blocks that it goes through are in F. -/
inductive Kids (w : World) (F : Nat → Prop) : Option Addr → Nat → List Tr → Prop
  | nil : Kids w F none 0 []
  | empty (a : Addr) (cap : Nat) : Kids w F (some a) cap []
  | row (b off cap : Nat) (ks : List Tr) (A : Nat → Option Addr) (C : Nat → Nat) (hpos : 0 < ks.length) (hl : ks.length ≤ cap) (hF : F b)
      (h0 : ∀ i, i < ks.length → w.cell? ⟨b, off + i * 3, none⟩ = some (.int .i64 (Tr.kid ks i).kind))
      (h1 : ∀ i, i < ks.length → w.cell? ⟨b, off + i * 3 + 1, none⟩ = some (.int .i64 (Tr.kid ks i).num))
      (h2 : ∀ i, i < ks.length → w.cell? ⟨b, off + i * 3 + 2, none⟩ = some (.slice (A i) (Tr.kid ks i).kids.length (C i)))
      (hk : ∀ i, i < ks.length → Kids w F (A i) (C i) (Tr.kid ks i).kids) : Kids w F (some ⟨b, off, none⟩) cap ks
theorem Kids.mono {w : World} {F G : Nat → Prop} {a : Option Addr} {cap : Nat} {ks : List Tr} (h : Kids w F a cap ks) (hs : ∀ b, F b → G b) : Kids w G a cap ks := by
  induction h with
  | nil => exact .nil
  | empty a cap => exact .empty a cap
  | row b off cap ks A C hpos hl hF h0 h1 h2 _ ih => exact .row b off cap ks A C hpos hl (hs b hF) h0 h1 h2 ih
/-- What leaves the blocks in F alone leaves the trees. -/
theorem Kids.stay {w w' : World} {F : Nat → Prop} {a : Option Addr} {cap : Nat} {ks : List Tr} (h : Kids w F a cap ks) (hs : ∀ b, F b → b < w.heap.size → w'.heap[b]? = w.heap[b]?) : Kids w' F a cap ks := by
  induction h with
  | nil => exact .nil
  | empty a cap => exact .empty a cap
  | row b off cap ks A C hpos hl hF h0 h1 h2 _ ih =>
    have hb : b < w.heap.size := World.block_lt_of_cell? w _ (h0 0 hpos)
    have e := fun o => World.cell?_of_block (w := w) (w' := w') (a := ⟨b, o, none⟩) (hs b hF hb)
    exact .row b off cap ks A C hpos hl hF (fun i hi => (e _).trans (h0 i hi)) (fun i hi => (e _).trans (h1 i hi)) (fun i hi => (e _).trans (h2 i hi)) ih
theorem Kids.cap {w : World} {F : Nat → Prop} {a : Option Addr} {cap : Nat} {ks : List Tr} (h : Kids w F a cap ks) : OkCap a ks.length cap := by
  cases h with
  | nil => exact ⟨Nat.le_refl _, fun _ => rfl⟩
  | empty a cap => exact ⟨Nat.zero_le _, fun h => by cases h⟩
  | row b off cap ks A C hpos hl => exact ⟨hl, fun h => by cases h⟩
/-- Two numbers and a slice read as a tree. -/
structure IsT (w : World) (F : Nat → Prop) (k n : Int) (a : Option Addr) (m cap : Nat) (t : Tr) : Prop where
  ek : k = t.kind
  en : n = t.num
  em : m = t.kids.length
  ok : t.Ok
  kids : Kids w F a cap t.kids
theorem IsT.mono {w : World} {F G : Nat → Prop} {k n : Int} {a : Option Addr} {m cap : Nat} {t : Tr} (h : IsT w F k n a m cap t) (hs : ∀ b, F b → G b) : IsT w G k n a m cap t := ⟨h.ek, h.en, h.em, h.ok, h.kids.mono hs⟩
theorem IsT.stay {w w' : World} {F : Nat → Prop} {k n : Int} {a : Option Addr} {m cap : Nat} {t : Tr} (h : IsT w F k n a m cap t) (hs : ∀ b, F b → b < w.heap.size → w'.heap[b]? = w.heap[b]?) : IsT w' F k n a m cap t := ⟨h.ek, h.en, h.em, h.ok, h.kids.stay hs⟩
theorem IsT.below {w w' : World} {F : Nat → Prop} {k n : Int} {a : Option Addr} {m cap : Nat} {t : Tr} (h : IsT w F k n a m cap t) (hb : Below w.heap.size w w') : IsT w' F k n a m cap t := h.stay fun b _ hlt => hb.block b hlt
/-- The i-th kid. -/
theorem IsT.kid {w : World} {F : Nat → Prop} {k n : Int} {a : Option Addr} {m cap : Nat} {t : Tr} (h : IsT w F k n a m cap t) (i : Nat) (hi : i < m) :
    ∃ b off k' n' a' m' c', a = some ⟨b, off, none⟩ ∧ F b ∧ b < w.heap.size ∧ w.cell? ⟨b, off + i * 3, none⟩ = some (.int .i64 k') ∧ w.cell? ⟨b, off + i * 3 + 1, none⟩ = some (.int .i64 n') ∧ w.cell? ⟨b, off + i * 3 + 2, none⟩ = some (.slice a' m' c') ∧
      IsT w F k' n' a' m' c' (Tr.kid t.kids i) := by
  have hi' := hi
  rw [h.em] at hi'
  have hok := Tr.ok_mem (Tr.kid_mem hi') (Tr.ok_kids h.ok)
  have hk := h.kids
  generalize t.kids = ks at hk hi' hok ⊢
  cases hk with
  | nil => simp at hi'
  | empty => simp at hi'
  | row b off cap ks A C hpos hl hF h0 h1 h2 hk =>
    exact ⟨b, off, _, _, _, _, _, rfl, hF, World.block_lt_of_cell? w _ (h0 0 hpos), h0 i hi', h1 i hi', h2 i hi', rfl, rfl, rfl, hok, hk i hi'⟩
end Go.Proofs.Ytcckfeikaolfgaa

namespace Go.Proofs.Ytcckfeikaolfgaa
open Go.RowKit
set_option linter.unusedVariables false
set_option linter.unusedSimpArgs false
set_option maxRecDepth 100000
/-- Cells that read as trees, three a tree; what is below lies in F. -/
inductive CellsT (w : World) (F : Nat → Prop) : List Value → List Tr → Prop
  | nil : CellsT w F [] []
  | cons {k n : Int} {a : Option Addr} {m c : Nat} {t : Tr} {xs : List Value} {ts : List Tr} (h : IsT w F k n a m c t) (hs : CellsT w F xs ts) : CellsT w F (.int .i64 k :: .int .i64 n :: .slice a m c :: xs) (t :: ts)
theorem CellsT.len {w : World} {F : Nat → Prop} {xs : List Value} {ts : List Tr} (h : CellsT w F xs ts) : xs.length = ts.length * 3 := by
  induction h with
  | nil => rfl
  | cons _ _ ih => simp only [List.length_cons, ih]; omega
theorem CellsT.append {w : World} {F : Nat → Prop} {xs ys : List Value} {ts us : List Tr} (h : CellsT w F xs ts) (h2 : CellsT w F ys us) : CellsT w F (xs ++ ys) (ts ++ us) := by
  induction h with
  | nil => exact h2
  | cons h _ ih => exact .cons h ih
theorem CellsT.one {w : World} {F : Nat → Prop} {k n : Int} {a : Option Addr} {m c : Nat} {t : Tr} (h : IsT w F k n a m c t) : CellsT w F [.int .i64 k, .int .i64 n, .slice a m c] [t] := .cons h .nil
theorem CellsT.mono {w : World} {F G : Nat → Prop} {xs : List Value} {ts : List Tr} (h : CellsT w F xs ts) (hs : ∀ b, F b → G b) : CellsT w G xs ts := by
  induction h with
  | nil => exact .nil
  | cons h _ ih => exact .cons (h.mono hs) ih
theorem CellsT.stay {w w' : World} {F : Nat → Prop} {xs : List Value} {ts : List Tr} (h : CellsT w F xs ts) (hs : ∀ b, F b → b < w.heap.size → w'.heap[b]? = w.heap[b]?) : CellsT w' F xs ts := by
  induction h with
  | nil => exact .nil
  | cons h _ ih => exact .cons (h.stay hs) ih
theorem CellsT.later {w w' : World} {F : Nat → Prop} {xs : List Value} {ts : List Tr} (h : CellsT w F xs ts) (hb : Below w.heap.size w w') : CellsT w' F xs ts := h.stay fun b _ hlt => hb.block b hlt
theorem CellsT.ok {w : World} {F : Nat → Prop} {xs : List Value} {ts : List Tr} (h : CellsT w F xs ts) : ∀ t ∈ ts, t.Ok := by
  induction h with
  | nil => intro t ht; cases ht
  | cons h _ ih =>
    intro t ht
    rcases List.mem_cons.1 ht with rfl | ht
    · exact h.ok
    · exact ih t ht
theorem CellsT.at {w : World} {F : Nat → Prop} {xs : List Value} {ts : List Tr} (h : CellsT w F xs ts) : ∀ i, i < ts.length → ∃ k n a m c, xs[i * 3]? = some (.int .i64 k) ∧ xs[i * 3 + 1]? = some (.int .i64 n) ∧ xs[i * 3 + 2]? = some (.slice a m c) ∧ IsT w F k n a m c (Tr.kid ts i) := by
  induction h with
  | nil => intro i hi; simp at hi
  | cons h hs ih =>
    intro i hi
    cases i with
    | zero => exact ⟨_, _, _, _, _, rfl, rfl, rfl, h⟩
    | succ i =>
      obtain ⟨k, n, a, m, c, h0, h1, h2, h3⟩ := ih i (by simpa using hi)
      refine ⟨k, n, a, m, c, ?_, ?_, ?_, h3⟩
      · rw [show (i + 1) * 3 = i * 3 + 3 by omega]; exact h0
      · rw [show (i + 1) * 3 + 1 = i * 3 + 1 + 3 by omega]; exact h1
      · rw [show (i + 1) * 3 + 2 = i * 3 + 2 + 3 by omega]; exact h2
theorem own_later3 {w w' : World} {B : Nat} {e : TypeId} {s : Nat} {v : Value} {n : Nat} {xs : List Value} (h : w.ownsRow B e s v n xs) (hb : Below w.heap.size w w') : w'.ownsRow B e s v n xs :=
  h.kept (row := none) ⟨hb.os, hb.tape, hb.output, hb.size, fun j hj _ => hb.block j hj⟩ (by cases v.ownBlock <;> simp)
theorem own_lt3 {wr : World} {e : TypeId} {s : Nat} {v : Value} {n : Nat} {xs : List Value} {B : Nat} (h : wr.ownsRow B e s v n xs) : ∀ k, v.ownBlock = some k → B ≤ k := fun k hk => (h.lt k hk).1
namespace Tr
end Tr
end Go.Proofs.Ytcckfeikaolfgaa

namespace Go.Proofs.Ytcckfeikaolfgaa
open Go.RowKit
set_option linter.unusedVariables false
set_option linter.unusedSimpArgs false
set_option maxRecDepth 100000
def Lt (B : Nat) (b : Nat) : Prop := b < B
end Go.Proofs.Ytcckfeikaolfgaa

namespace Go.Proofs.Ytcckfeikaolfgaa
open Go.RowKit
set_option linter.unusedVariables false
set_option linter.unusedSimpArgs false
set_option maxRecDepth 100000
/-- The slice at address a reads as the trees; its blocks are in F, and no two nodes' kids share one; all may be written. -/
inductive Sep (w : World) : (Nat → Prop) → Option Addr → Nat → List Tr → Prop
  | nil (F : Nat → Prop) : Sep w F none 0 []
  | empty (F : Nat → Prop) (a : Addr) (cap : Nat) : Sep w F (some a) cap []
  | row (F : Nat → Prop) (b cap : Nat) (ks : List Tr) (A : Nat → Option Addr) (C : Nat → Nat) (G : Nat → Nat → Prop) (hpos : 0 < ks.length) (hl : ks.length ≤ cap) (hF : F b)
      (hG : ∀ i x, i < ks.length → G i x → F x ∧ x ≠ b) (hd : ∀ i j x, i < ks.length → j < ks.length → G i x → G j x → i = j) (hfz : ∀ o, w.frozen? ⟨b, o, none⟩ = false)
      (h0 : ∀ i, i < ks.length → w.cell? ⟨b, i * 3, none⟩ = some (.int .i64 (Tr.kid ks i).kind))
      (h1 : ∀ i, i < ks.length → w.cell? ⟨b, i * 3 + 1, none⟩ = some (.int .i64 (Tr.kid ks i).num))
      (h2 : ∀ i, i < ks.length → w.cell? ⟨b, i * 3 + 2, none⟩ = some (.slice (A i) (Tr.kid ks i).kids.length (C i)))
      (hk : ∀ i, i < ks.length → Sep w (G i) (A i) (C i) (Tr.kid ks i).kids) : Sep w F (some ⟨b, 0, none⟩) cap ks
theorem Sep.kids {w : World} {F : Nat → Prop} {a : Option Addr} {cap : Nat} {ks : List Tr} (h : Sep w F a cap ks) : Kids w F a cap ks := by
  induction h with
  | nil => exact .nil
  | empty F a cap => exact .empty a cap
  | row F b cap ks A C G hpos hl hF hG hd hfz h0 h1 h2 _ ih =>
    exact .row b 0 cap ks A C hpos hl hF (fun i hi => by rw [Nat.zero_add]; exact h0 i hi) (fun i hi => by rw [Nat.zero_add]; exact h1 i hi) (fun i hi => by rw [Nat.zero_add]; exact h2 i hi) fun i hi => (ih i hi).mono fun x hx => (hG i x hi hx).1
theorem Sep.mono {w : World} {F G : Nat → Prop} {a : Option Addr} {cap : Nat} {ks : List Tr} (h : Sep w F a cap ks) (hs : ∀ b, F b → G b) : Sep w G a cap ks := by
  cases h with
  | nil => exact .nil _
  | empty F a cap => exact .empty _ a cap
  | row F b cap ks A C H hpos hl hF hG hd hfz h0 h1 h2 hk => exact .row _ b cap ks A C H hpos hl (hs b hF) (fun i x hi hx => ⟨hs x (hG i x hi hx).1, (hG i x hi hx).2⟩) hd hfz h0 h1 h2 hk
theorem Sep.stay {w w' : World} {F : Nat → Prop} {a : Option Addr} {cap : Nat} {ks : List Tr} (h : Sep w F a cap ks) : (∀ b, F b → b < w.heap.size → w'.heap[b]? = w.heap[b]?) → Sep w' F a cap ks := by
  induction h with
  | nil => intro _; exact .nil _
  | empty F a cap => intro _; exact .empty _ a cap
  | row F b cap ks A C G hpos hl hF hG hd hfz h0 h1 h2 _ ih =>
    intro hs
    have hb : b < w.heap.size := World.block_lt_of_cell? w _ (h0 0 hpos)
    have e := fun o => World.cell?_of_block (w := w) (w' := w') (a := ⟨b, o, none⟩) (hs b hF hb)
    have e2 := fun o => World.frozen?_of_block (w := w) (w' := w') (a := ⟨b, o, none⟩) (hs b hF hb)
    exact .row F b cap ks A C G hpos hl hF hG hd (fun o => (e2 o).trans (hfz o)) (fun i hi => (e _).trans (h0 i hi)) (fun i hi => (e _).trans (h1 i hi)) (fun i hi => (e _).trans (h2 i hi)) fun i hi => ih i hi fun x hx hlt => hs x (hG i x hi hx).1 hlt
/-- Two numbers and a slice read as a tree that shares nothing. -/
structure IsS (w : World) (F : Nat → Prop) (k n : Int) (a : Option Addr) (m cap : Nat) (t : Tr) : Prop where
  ek : k = t.kind
  en : n = t.num
  em : m = t.kids.length
  ok : t.Ok
  sep : Sep w F a cap t.kids
theorem IsS.tree {w : World} {F : Nat → Prop} {k n : Int} {a : Option Addr} {m cap : Nat} {t : Tr} (h : IsS w F k n a m cap t) : IsT w F k n a m cap t := ⟨h.ek, h.en, h.em, h.ok, h.sep.kids⟩
theorem IsS.mono {w : World} {F G : Nat → Prop} {k n : Int} {a : Option Addr} {m cap : Nat} {t : Tr} (h : IsS w F k n a m cap t) (hs : ∀ b, F b → G b) : IsS w G k n a m cap t := ⟨h.ek, h.en, h.em, h.ok, h.sep.mono hs⟩
theorem IsS.stay {w w' : World} {F : Nat → Prop} {k n : Int} {a : Option Addr} {m cap : Nat} {t : Tr} (h : IsS w F k n a m cap t) (hs : ∀ b, F b → b < w.heap.size → w'.heap[b]? = w.heap[b]?) : IsS w' F k n a m cap t := ⟨h.ek, h.en, h.em, h.ok, h.sep.stay hs⟩
theorem IsS.later {w w' : World} {F : Nat → Prop} {k n : Int} {a : Option Addr} {m cap : Nat} {t : Tr} (h : IsS w F k n a m cap t) (hb : Below w.heap.size w w') : IsS w' F k n a m cap t := h.stay fun b _ hlt => hb.block b hlt
/-- Cells that read as trees that share nothing. -/
inductive CellsS (w : World) : (Nat → Prop) → List Value → List Tr → Prop
  | nil (F : Nat → Prop) : CellsS w F [] []
  | cons {F H G : Nat → Prop} {k n : Int} {a : Option Addr} {m c : Nat} {t : Tr} {xs : List Value} {ts : List Tr} (h : IsS w H k n a m c t) (hs : CellsS w G xs ts) (hH : ∀ x, H x → F x) (hG : ∀ x, G x → F x) (hd : ∀ x, H x → ¬ G x) :
      CellsS w F (.int .i64 k :: .int .i64 n :: .slice a m c :: xs) (t :: ts)
theorem CellsS.cells {w : World} {F : Nat → Prop} {xs : List Value} {ts : List Tr} (h : CellsS w F xs ts) : CellsT w F xs ts := by
  induction h with
  | nil => exact .nil
  | cons h _ hH hG _ ih => exact .cons (h.tree.mono hH) (ih.mono hG)
theorem CellsS.mono {w : World} {F G : Nat → Prop} {xs : List Value} {ts : List Tr} (h : CellsS w F xs ts) (hs : ∀ b, F b → G b) : CellsS w G xs ts := by
  cases h with
  | nil => exact .nil _
  | cons h h2 hH hG hd => exact .cons h h2 (fun x hx => hs x (hH x hx)) (fun x hx => hs x (hG x hx)) hd
theorem CellsS.stay {w w' : World} {F : Nat → Prop} {xs : List Value} {ts : List Tr} (h : CellsS w F xs ts) : (∀ b, F b → b < w.heap.size → w'.heap[b]? = w.heap[b]?) → CellsS w' F xs ts := by
  induction h with
  | nil => intro _; exact .nil _
  | cons h _ hH hG hd ih => intro hs; exact .cons (h.stay fun b hb => hs b (hH b hb)) (ih fun b hb => hs b (hG b hb)) hH hG hd
end Go.Proofs.Ytcckfeikaolfgaa

namespace Go.Proofs.Ytcckfeikaolfgaa
open Go.RowKit
set_option linter.unusedVariables false
set_option linter.unusedSimpArgs false
set_option maxRecDepth 100000
theorem block_cell {w : World} {b : Nat} {cs : Array Value} {t : TypeId} (h : w.heap[b]? = some (.cells cs t (0, 0))) (i : Nat) : w.cell? ⟨b, i, none⟩ = cs[i]? := cell_of_row w b i cs t (0, 0) h
theorem block_free {w : World} {b : Nat} {cs : Array Value} {t : TypeId} (h : w.heap[b]? = some (.cells cs t (0, 0))) (i : Nat) : w.frozen? ⟨b, i, none⟩ = false := by simp [World.frozen?, h]
theorem block_lt {w : World} {b : Nat} {o : Obj} (h : w.heap[b]? = some o) : b < w.heap.size := by
  rcases Nat.lt_or_ge b w.heap.size with h' | h'
  · exact h'
  · simp [Array.getElem?_eq_none h'] at h
theorem block_set {w : World} {b : Nat} {cs : Array Value} {t : TypeId} (h : w.heap[b]? = some (.cells cs t (0, 0))) (i : Nat) (u : Value) : (w.setCell ⟨b, i, none⟩ u).heap[b]? = some (.cells (cs.setIfInBounds i u) t (0, 0)) := by
  have hlt := block_lt h
  have h' : w.heap[b] = .cells cs t (0, 0) := by simpa [Array.getElem?_eq_getElem hlt] using h
  show (w.heap.modify b _)[b]? = _
  rw [Array.getElem?_eq_getElem (by simpa using hlt), Array.getElem_modify_self, h']
  rfl
theorem block_new {w : World} {o : Obj} {n : Nat} (h : n = w.heap.size) : (w.alloc o).heap[n]? = some o := by subst h; exact heap_alloc_new _ _
theorem set_far (w : World) (a : Addr) (u : Value) (b : Nat) (h : b ≠ a.block) : (w.setCell a u).heap[b]? = w.heap[b]? := Below.heap_setCell _ _ _ _ (by first | exact h | exact Ne.symm h)
end Go.Proofs.Ytcckfeikaolfgaa

namespace Go.Proofs.Ytcckfeikaolfgaa
open Go.RowKit
set_option linter.unusedVariables false
set_option linter.unusedSimpArgs false
set_option maxRecDepth 100000
theorem Kids.lt {w : World} {F : Nat → Prop} {a : Option Addr} {cap : Nat} {ks : List Tr} (h : Kids w F a cap ks) : Kids w (Lt w.heap.size) a cap ks := by
  induction h with
  | nil => exact .nil
  | empty a cap => exact .empty a cap
  | row b off cap ks A C hpos hl hF h0 h1 h2 _ ih => exact .row b off cap ks A C hpos hl (World.block_lt_of_cell? w _ (h0 0 hpos)) h0 h1 h2 ih
theorem IsT.lt {w : World} {F : Nat → Prop} {k n : Int} {a : Option Addr} {m cap : Nat} {t : Tr} (h : IsT w F k n a m cap t) : IsT w (Lt w.heap.size) k n a m cap t := ⟨h.ek, h.en, h.em, h.ok, h.kids.lt⟩
namespace Tr
/-- The node at a place. -/
def at? (t : Tr) : List Int → Option Tr
  | [] => some t
  | i :: p => if 0 ≤ i ∧ i < (t.kids.length : Int) then at? (kid t.kids i.toNat) p else none
theorem at_yes {t s : Tr} {i : Int} {p : List Int} (h : at? t (i :: p) = some s) : 0 ≤ i ∧ i < (t.kids.length : Int) ∧ at? (kid t.kids i.toNat) p = some s := by
  unfold at? at h
  split at h
  · rename_i hc; exact ⟨hc.1, hc.2, h⟩
  · cases h
theorem at_in {t : Tr} {i : Int} {p : List Int} (h0 : 0 ≤ i) (h1 : i < (t.kids.length : Int)) : at? t (i :: p) = at? (kid t.kids i.toNat) p := by
  rw [at?, if_pos ⟨h0, h1⟩]
/-- No tree. -/
def zero : Tr := node 0 0 []
end Tr
end Go.Proofs.Ytcckfeikaolfgaa

namespace Go.Proofs.Ytcckfeikaolfgaa
open Go.RowKit Go.Shelf
set_option linter.unusedVariables false
set_option linter.unusedSimpArgs false
set_option maxRecDepth 100000
attribute [local go_sem] Oper.semAt_some
/-- All cells but those of the block b0 are as they were. -/
structure KeepsBut (b0 : Nat) (A B : World) : Prop where
  size : A.heap.size ≤ B.heap.size
  cell : ∀ (a : Addr) (v : Value), a.block ≠ b0 → A.cell? a = some v → B.cell? a = some v
theorem KeepsBut.refl (b0 : Nat) (A : World) : KeepsBut b0 A A := ⟨Nat.le_refl _, fun _ _ _ h => h⟩
theorem KeepsBut.trans {b0 : Nat} {A B C : World} (h : KeepsBut b0 A B) (k : KeepsBut b0 B C) : KeepsBut b0 A C := ⟨Nat.le_trans h.size k.size, fun a v hb hv => k.cell a v hb (h.cell a v hb hv)⟩
theorem KeepsBut.putObj {b0 : Nat} (W : World) (l : Nat) (o o' : Obj) (h : W.heap[l]? = some o) (hc : o.isCells = false) : KeepsBut b0 W (W.putObj l o') :=
  ⟨(grownBy_putObj' W l o').size, fun a v _ hv => by
    refine (World.cell?_of_block ((grownBy_putObj' W l o').block a.block (World.block_lt_of_cell? W a hv) ?_)).trans hv
    intro e
    cases e
    rw [show W.cell? a = none from ?_] at hv
    · cases hv
    · unfold World.cell?
      rw [h]
      cases o <;> simp_all [Obj.isCells]⟩
theorem KeepsBut.setCell {b0 : Nat} (W : World) (o : Nat) (v : Value) : KeepsBut b0 W (W.setCell ⟨b0, o, none⟩ v) :=
  ⟨by simp, fun a u hb hu => (World.cell?_of_block (set_far W _ v a.block hb)).trans hu⟩
end Go.Proofs.Ytcckfeikaolfgaa

namespace Go.Proofs.Ytcckfeikaolfgaa
open Go.RowKit
set_option linter.unusedVariables false
set_option linter.unusedSimpArgs false
set_option maxRecDepth 100000
namespace Tr
/-- Another kid at a place. -/
def setKid (t : Tr) (i : Nat) (u : Tr) : Tr := node t.kind t.num (t.kids.set i u)
/-- Another node at a place. -/
def put (t : Tr) : List Int → Tr → Tr
  | [], u => u
  | i :: p, u => setKid t i.toNat (put (kid t.kids i.toNat) p u)
theorem kid_set (ks : List Tr) (i j : Nat) (u : Tr) (hi : i < ks.length) : kid (ks.set i u) j = if j = i then u else kid ks j := by
  unfold kid
  by_cases h : j = i
  · subst h; rw [if_pos rfl]; simp [hi]
  · rw [if_neg h]; simp [List.getD, List.getElem?_set_ne (Ne.symm h)]
theorem put_snoc {t s : Tr} : ∀ {q : List Int} (i : Int) (u : Tr), at? t q = some s → put t (q ++ [i]) u = put t q (setKid s i.toNat u) := by
  intro q
  induction q generalizing t with
  | nil => intro i u h; unfold at? at h; cases h; rfl
  | cons j q ih =>
    intro i u h
    obtain ⟨h0, h1, h2⟩ := at_yes h
    show setKid t j.toNat (put (kid t.kids j.toNat) (q ++ [i]) u) = setKid t j.toNat (put (kid t.kids j.toNat) q (setKid s i.toNat u))
    rw [ih i u h2]
theorem at_snoc {t s : Tr} : ∀ {q : List Int} (i : Nat), at? t q = some s → i < s.kids.length → at? t (q ++ [(i : Int)]) = some (kid s.kids i) := by
  intro q
  induction q generalizing t with
  | nil =>
    intro i h hi
    unfold at? at h; cases h
    show at? s [(i : Int)] = _
    rw [at_in (by omega) (by omega)]
    simp [at?]
  | cons j q ih =>
    intro i h hi
    obtain ⟨h0, h1, h2⟩ := at_yes h
    show at? t (j :: (q ++ [(i : Int)])) = _
    rw [at_in h0 h1]
    exact ih i h2 hi
theorem okL_set {ks : List Tr} (h : OkL ks) (i : Nat) {u : Tr} (hu : u.Ok) : OkL (ks.set i u) :=
  okL_of fun t ht => by
    rcases List.mem_or_eq_of_mem_set ht with h1 | rfl
    · exact ok_mem h1 h
    · exact hu
theorem setKid_ok {t u : Tr} (h : t.Ok) (i : Nat) (hu : u.Ok) : (setKid t i u).Ok := by
  unfold setKid
  simp only [Ok]
  exact ⟨ok_kind h, ok_num h, okL_set (ok_kids h) i hu⟩
end Tr
/-- The three cells at a place read as a tree; what is below lies in Z. -/
def Slot (Z : Nat → Prop) (w : World) (b o : Nat) (t : Tr) : Prop :=
  ∃ k n a m c, w.cell? ⟨b, o, none⟩ = some (.int .i64 k) ∧ w.cell? ⟨b, o + 1, none⟩ = some (.int .i64 n) ∧ w.cell? ⟨b, o + 2, none⟩ = some (.slice a m c) ∧ IsT w Z k n a m c t
/-- Cells stay, but for the blocks in F and the three cells at the place. -/
def KeepsHole (F : Nat → Prop) (b o : Nat) (w w' : World) : Prop :=
  ∀ (x y : Nat) (v : Value), ¬ F x → ¬ (x = b ∧ o ≤ y ∧ y < o + 3) → w.cell? ⟨x, y, none⟩ = some v → w'.cell? ⟨x, y, none⟩ = some v
/-- Whatever is put at the place (b', o'), the root reads as with that node at the path q. -/
def Ctx (Z : Nat → Prop) (w : World) (b o : Nat) (t : Tr) (q : List Int) (F' : Nat → Prop) (b' o' : Nat) : Prop :=
  ∀ (w' : World) (u : Tr), KeepsHole F' b' o' w w' → Slot Z w' b' o' u → Slot Z w' b o (t.put q u)
theorem Kids.stayS {w w' : World} {F : Nat → Prop} {a : Option Addr} {cap : Nat} {ks : List Tr} (h : Kids w F a cap ks) (hs : ∀ x y v, F x → w.cell? ⟨x, y, none⟩ = some v → w'.cell? ⟨x, y, none⟩ = some v) : Kids w' F a cap ks := by
  induction h with
  | nil => exact .nil
  | empty a cap => exact .empty a cap
  | row b off cap ks A C hpos hl hF h0 h1 h2 _ ih =>
    exact .row b off cap ks A C hpos hl hF (fun i hi => hs _ _ _ hF (h0 i hi)) (fun i hi => hs _ _ _ hF (h1 i hi)) (fun i hi => hs _ _ _ hF (h2 i hi)) ih
/-- One step down: the i-th kid of the node at the place. -/
theorem Ctx.step {Z : Nat → Prop} {w : World} {b o : Nat} {t s : Tr} {q : List Int} {F' : Nat → Prop} {b' o' : Nat} {k n : Int} {a : Option Addr} {m c : Nat} (h : Ctx Z w b o t q F' b' o') (hat : Tr.at? t q = some s) (hS : IsS w F' k n a m c s) (hb' : ¬ F' b') (hZ : ∀ x, F' x → Z x)
    (c0 : w.cell? ⟨b', o', none⟩ = some (.int .i64 k)) (c1 : w.cell? ⟨b', o' + 1, none⟩ = some (.int .i64 n)) (c2 : w.cell? ⟨b', o' + 2, none⟩ = some (.slice a m c)) (i : Nat) (hi : i < m) :
    ∃ g k2 n2 a2 m2 c2 G, a = some ⟨g, 0, none⟩ ∧ F' g ∧ (∀ o, w.frozen? ⟨g, o, none⟩ = false) ∧ w.cell? ⟨g, i * 3, none⟩ = some (.int .i64 k2) ∧ w.cell? ⟨g, i * 3 + 1, none⟩ = some (.int .i64 n2) ∧ w.cell? ⟨g, i * 3 + 2, none⟩ = some (.slice a2 m2 c2) ∧
      IsS w G k2 n2 a2 m2 c2 (Tr.kid s.kids i) ∧ ¬ G g ∧ (∀ x, G x → F' x) ∧ Ctx Z w b o t (q ++ [(i : Int)]) G g (i * 3) ∧ Tr.at? t (q ++ [(i : Int)]) = some (Tr.kid s.kids i) := by
  have hi' := hi
  rw [hS.em] at hi'
  obtain ⟨ek, en, em, hok, hsep⟩ := hS
  cases s with
  | node ks' kn kk =>
    simp only [Tr.kids, Tr.kind, Tr.num] at ek en em hi' hsep ⊢
    cases hsep with
    | nil => simp at hi'
    | empty => simp at hi'
    | row _ g cap _ A C G hpos hl hF hG hd hfz h0 h1 h2 hk =>
      have hokk := Tr.ok_mem (Tr.kid_mem hi') (Tr.ok_kids hok)
      refine ⟨g, _, _, _, _, _, G i, rfl, hF, hfz, h0 i hi', h1 i hi', h2 i hi', ⟨rfl, rfl, rfl, hokk, hk i hi'⟩, fun hg => (hG i g hi' hg).2 rfl, fun x hx => (hG i x hi' hx).1, ?_, Tr.at_snoc i hat hi'⟩
      intro w' u hkeep hslot
      have hne : b' ≠ g := fun e => hb' (e ▸ hF)
      rw [Tr.put_snoc (i : Int) u hat, Int.toNat_natCast]
      obtain ⟨ku, nu, au, mu, cu, u0, u1, u2, hU⟩ := hslot
      refine h w' _ (fun x y v hx hxy hv => hkeep x y v (fun hg => hx (hG i x hi' hg).1) (fun hh => hx (hh.1 ▸ hF)) hv) ⟨k, n, some ⟨g, 0, none⟩, m, c, ?_, ?_, ?_, ?_⟩
      · exact hkeep _ _ _ (fun hg => hb' (hG i b' hi' hg).1) (fun hh => hne hh.1) c0
      · exact hkeep _ _ _ (fun hg => hb' (hG i b' hi' hg).1) (fun hh => hne hh.1) c1
      · exact hkeep _ _ _ (fun hg => hb' (hG i b' hi' hg).1) (fun hh => hne hh.1) c2
      · refine ⟨ek, en, ?_, Tr.setKid_ok hok i hU.ok, ?_⟩
        · rw [em]; simp [Tr.setKid, Tr.kids]
        · show Kids w' _ (some ⟨g, 0, none⟩) c (kk.set i u)
          have hln : (kk.set i u).length = kk.length := List.length_set
          refine .row g 0 c _ (fun j => if j = i then au else A j) (fun j => if j = i then cu else C j) (by rw [hln]; exact hpos) (by rw [hln]; exact hl) (hZ g hF) (fun j hj => ?_) (fun j hj => ?_) (fun j hj => ?_) (fun j hj => ?_)
          all_goals rw [hln] at hj
          all_goals rw [Tr.kid_set kk i j u hi']
          all_goals by_cases hji : j = i
          · subst hji; rw [if_pos rfl, Nat.zero_add, ← hU.ek]; exact u0
          · rw [if_neg hji, Nat.zero_add]; exact hkeep _ _ _ (fun hg => (hG i g hi' hg).2 rfl) (fun hh => by omega) (h0 j hj)
          · subst hji; rw [if_pos rfl, Nat.zero_add, ← hU.en]; exact u1
          · rw [if_neg hji, Nat.zero_add]; exact hkeep _ _ _ (fun hg => (hG i g hi' hg).2 rfl) (fun hh => by omega) (h1 j hj)
          · subst hji; simp only [if_true]; rw [Nat.zero_add, ← hU.em]; exact u2
          · simp only [if_neg hji]; rw [Nat.zero_add]; exact hkeep _ _ _ (fun hg => (hG i g hi' hg).2 rfl) (fun hh => by omega) (h2 j hj)
          · subst hji; simp only [if_true]; exact hU.kids
          · simp only [if_neg hji]
            exact ((hk j hj).kids.stayS fun x y v hx hv => hkeep x y v (fun hg => hji (hd j i x hj hi' hx hg)) (fun hh => (hG j x hj hx).2 hh.1) hv).mono fun x hx => hZ x (hG j x hj hx).1
end Go.Proofs.Ytcckfeikaolfgaa

namespace Go.Proofs.Ytcckfeikaolfgaa
open Go.RowKit
set_option linter.unusedVariables false
set_option linter.unusedSimpArgs false
set_option maxRecDepth 100000
theorem btrue {a b : Int} (h : a = b) : (a == b) = true := by simp [h]
theorem bno {a b : Int} (h : a ≠ b) : (a == b) = false := by simp [h]
theorem bdiff {a b : Int} (h : a ≠ b) : (a != b) = true := by simp [h]
theorem bfalse' {a b : Int} (h : a = b) : (a != b) = false := by simp [h]
theorem bdiff' {a b : Int} (h : a ≠ b) : (a != b) = true := by simp [h]
end Go.Proofs.Ytcckfeikaolfgaa

namespace Go.Proofs.Ytcckfeikaolfgaa
open Go.RowKit
set_option linter.unusedVariables false
set_option linter.unusedSimpArgs false
set_option maxRecDepth 100000
/-- Is n a size? -/
def hasSz (n : Int) : Bool := decide (1 ≤ n ∧ n ≤ 16777216 ∧ 18446744069414584320 % n = 0)
theorem hasSz_iff {n : Int} : hasSz n = true ↔ 1 ≤ n ∧ n ≤ 16777216 ∧ 18446744069414584320 % n = 0 := by simp [hasSz]
theorem rootHas_yes (n : Int) (w : World) (h : hasSz n = true) :
    Calls Try.prog 66 #[.int .i64 n] w fun e w' => e = .returned (.bool true) ∧ w = w' := by
  obtain ⟨h1, h2, h3⟩ := hasSz_iff.1 h
  have hz : (18446744069414584320 % n == 0) = true := btrue h3
  have h0 : (n == 0) = false := bno (by omega)
  clear h h3
  go_enter Try.func66, Try.ntmps66
  go_wp2_with fail
  go_ret
  exact ⟨rfl, rfl⟩
theorem rootHas_no (n : Int) (w : World) (h : hasSz n = false) (hn : -9223372036854775808 ≤ n ∧ n < 9223372036854775808) :
    Calls Try.prog 66 #[.int .i64 n] w fun e w' => e = .returned (.bool false) ∧ w = w' := by
  have hd : n < 1 ∨ (1 ≤ n ∧ 16777216 < n) ∨ (1 ≤ n ∧ n ≤ 16777216 ∧ 18446744069414584320 % n ≠ 0) := by
    have h' : ¬ (1 ≤ n ∧ n ≤ 16777216 ∧ 18446744069414584320 % n = 0) := by intro e; rw [hasSz_iff.2 e] at h; cases h
    by_cases a : 1 ≤ n
    · by_cases b : n ≤ 16777216
      · exact .inr (.inr ⟨a, b, fun e => h' ⟨a, b, e⟩⟩)
      · exact .inr (.inl ⟨a, by omega⟩)
    · exact .inl (by omega)
  clear h
  rcases hd with h1 | ⟨h1, h2⟩ | ⟨h1, h2, h3⟩
  · go_enter Try.func66, Try.ntmps66
    go_wp2_with fail
    go_ret
    exact ⟨rfl, rfl⟩
  · go_enter Try.func66, Try.ntmps66
    go_wp2_with fail
    go_ret
    exact ⟨rfl, rfl⟩
  · have hz : (18446744069414584320 % n == 0) = false := bno h3
    have h0 : (n == 0) = false := bno (by omega)
    clear h3
    go_enter Try.func66, Try.ntmps66
    go_wp2_with fail
    go_ret
    exact ⟨rfl, rfl⟩
theorem refHas_yes (n : Int) (w : World) (h : hasSz n = true) :
    Calls Try.prog 35 #[.int .i64 n] w fun e w' => e = .returned (.bool true) ∧ w = w' := by
  obtain ⟨h1, h2, h3⟩ := hasSz_iff.1 h
  have hz : (18446744069414584320 % n == 0) = true := btrue h3
  have h0 : (n == 0) = false := bno (by omega)
  clear h h3
  go_enter Try.func35, Try.ntmps35
  go_wp2_with fail
  go_ret
  exact ⟨rfl, rfl⟩
theorem refHas_no (n : Int) (w : World) (h : hasSz n = false) (hn : -9223372036854775808 ≤ n ∧ n < 9223372036854775808) :
    Calls Try.prog 35 #[.int .i64 n] w fun e w' => e = .returned (.bool false) ∧ w = w' := by
  have hd : n < 1 ∨ (1 ≤ n ∧ 16777216 < n) ∨ (1 ≤ n ∧ n ≤ 16777216 ∧ 18446744069414584320 % n ≠ 0) := by
    have h' : ¬ (1 ≤ n ∧ n ≤ 16777216 ∧ 18446744069414584320 % n = 0) := by intro e; rw [hasSz_iff.2 e] at h; cases h
    by_cases a : 1 ≤ n
    · by_cases b : n ≤ 16777216
      · exact .inr (.inr ⟨a, b, fun e => h' ⟨a, b, e⟩⟩)
      · exact .inr (.inl ⟨a, by omega⟩)
    · exact .inl (by omega)
  clear h
  rcases hd with h1 | ⟨h1, h2⟩ | ⟨h1, h2, h3⟩
  · go_enter Try.func35, Try.ntmps35
    go_wp2_with fail
    go_ret
    exact ⟨rfl, rfl⟩
  · go_enter Try.func35, Try.ntmps35
    go_wp2_with fail
    go_ret
    exact ⟨rfl, rfl⟩
  · have hz : (18446744069414584320 % n == 0) = false := bno h3
    have h0 : (n == 0) = false := bno (by omega)
    clear h3
    go_enter Try.func35, Try.ntmps35
    go_wp2_with fail
    go_ret
    exact ⟨rfl, rfl⟩
end Go.Proofs.Ytcckfeikaolfgaa

namespace Go.Proofs.Ytcckfeikaolfgaa
open Go.RowKit
set_option linter.unusedVariables false
set_option linter.unusedSimpArgs false
set_option maxRecDepth 100000
theorem bits_and_nat (a b : Nat) (ha : a < 9223372036854775808) (hb : b < 9223372036854775808) : bits .and .i64 (a : Int) (b : Int) = ((a &&& b : Nat) : Int) := by
  have h : a &&& b ≤ a := Nat.and_le_left
  show IntKind.i64.wrap (((BitVec.ofInt 64 (a : Int)) &&& (BitVec.ofInt 64 (b : Int))).toNat : Int) = _
  rw [BitVec.ofInt_natCast, BitVec.ofInt_natCast, BitVec.toNat_and, BitVec.toNat_ofNat, BitVec.toNat_ofNat, Nat.mod_eq_of_lt (by omega), Nat.mod_eq_of_lt (by omega)]
  exact IntWalk.i64_in _ (by omega)
/-- Is it a power of two? -/
def isP2 (n : Int) : Bool := decide (0 < n) && decide (n.toNat &&& (n.toNat - 1) = 0)
theorem isP2_nat (n : Nat) : isP2 n = (decide (0 < n) && decide (n &&& (n - 1) = 0)) := by unfold isP2; simp
theorem isP2_iff (n : Nat) : isP2 n = true ↔ ∃ k, n = 2 ^ k := by
  rw [isP2_nat]
  by_cases h : n = 0
  · subst h
    simp only [Nat.lt_irrefl, decide_false, Bool.false_and, Bool.false_eq_true, false_iff]
    rintro ⟨k, hk⟩
    have : 0 < 2 ^ k := Nat.pow_pos (by omega)
    omega
  · rw [show decide (0 < n) = true by simp; omega, Bool.true_and, decide_eq_true_eq]
    exact Nat.and_sub_one_eq_zero_iff_isPowerOfTwo h
theorem isP2_neg (n : Int) (h : n ≤ 0) : isP2 n = false := by unfold isP2; rw [show decide (0 < n) = false by simp; omega]; rfl
theorem isP2_pos (n : Int) (h : isP2 n = true) : 0 < n := by
  by_cases h0 : 0 < n
  · exact h0
  · rw [isP2_neg n (by omega)] at h; cases h
theorem isP2_one : isP2 1 = true := by decide
theorem isP2_half (n : Nat) (h : 0 < n) : isP2 ((2 * n : Nat) : Int) = isP2 n := by
  rw [Bool.eq_iff_iff, isP2_iff, isP2_iff]
  constructor
  · rintro ⟨k, hk⟩
    cases k with
    | zero => rw [Nat.pow_zero] at hk; omega
    | succ k => exact ⟨k, by rw [Nat.pow_succ] at hk; omega⟩
  · rintro ⟨k, hk⟩
    exact ⟨k + 1, by rw [Nat.pow_succ]; omega⟩
theorem isP2_odd (n : Nat) (h : n % 2 = 1) (h1 : 1 < n) : isP2 n = false := by
  cases hb : isP2 (n : Int) with
  | false => rfl
  | true =>
    obtain ⟨k, hk⟩ := (isP2_iff n).1 hb
    cases k with
    | zero => rw [Nat.pow_zero] at hk; omega
    | succ k => rw [Nat.pow_succ] at hk; omega
theorem refPower (n : Int) (w : World) (hn : -9223372036854775808 ≤ n ∧ n ≤ 9223372036854775807) :
    Calls Try.prog 37 #[.int .i64 n] w fun e w' => e = .returned (.bool (isP2 n)) ∧ w = w' := by
  by_cases h0 : n ≤ 0
  · have HP := Lib.hid (isP2_neg n h0)
    have hb : (n == 1) = false := by simp; omega
    go_enter Try.func37, Try.ntmps37
    go_wp2_with fail
    go_loopw [0] (fun v wr => v = .int .i64 n ∧ w = wr) (fun v _ => 0)
    case atStart => exact ⟨rfl, rfl⟩
    case round =>
      obtain ⟨rfl, rfl⟩ := hrel
      go_wp2_with fail
      go_ret
      exact ⟨ret_bool HP.out.symm, rfl⟩
  · obtain ⟨N, rfl⟩ := Int.eq_ofNat_of_zero_le (show 0 ≤ n by omega)
    obtain ⟨B, hB⟩ : ∃ B, isP2 (N : Int) = B := ⟨_, rfl⟩
    rw [hB]
    have HB := Lib.hid hB
    clear hB
    go_enter Try.func37, Try.ntmps37
    go_wp2_with fail
    go_loopw [0] (fun v wr => ∃ m : Nat, 0 < m ∧ m ≤ N ∧ v = .int .i64 m ∧ Hid (isP2 (m : Int) = B) ∧ w = wr) (fun v _ => (intOf v).toNat)
    case atStart => exact ⟨N, by omega, Nat.le_refl _, rfl, HB.out, rfl⟩
    case round =>
      obtain ⟨m, hm0, hm, rfl, HM, rfl⟩ := hrel
      by_cases h1 : m = 1
      · subst h1
        have HT : Hid (B = true) := by unfold Hid; rw [← HM.out]; exact isP2_one
        go_wp2_with fail
        go_ret
        exact ⟨ret_bool (by rw [HT.out]), rfl⟩
      · by_cases h2 : m % 2 = 1
        · have HT : Hid (B = false) := by unfold Hid; rw [← HM.out]; exact isP2_odd m h2 (by omega)
          have e1 : (m : Int) % 2 = 1 := by omega
          have e2 : ((m : Int) == 1) = false := by simp; omega
          have e3 : (1 : Int) < (m : Int) := by omega
          go_wp2_with fail
          go_ret
          exact ⟨ret_bool (by rw [HT.out]), rfl⟩
        · obtain ⟨t, rfl⟩ : ∃ t, m = 2 * t := ⟨m / 2, by omega⟩
          have HT : Hid (isP2 (t : Int) = B) := by unfold Hid; rw [← HM.out]; exact (isP2_half t (by omega)).symm
          obtain ⟨m, hm'⟩ : ∃ m, 2 * t = m := ⟨_, rfl⟩
          rw [hm'] at hm hm0 h1 h2 ⊢
          have e1 : (m : Int) % 2 = 0 := by omega
          have e2 : (m : Int) / 2 = (t : Int) := by omega
          have e3 : (1 : Int) < (m : Int) := by omega
          have ht : t < m := by omega
          have ht0 : 0 < t := by omega
          have htN : t ≤ N := by omega
          clear HM hm' h1 h2
          go_wp2_with fail
          go_roundw
          case rel => exact ⟨t, ht0, htN, rfl, HT.out, trivial⟩
          case measure => simp [intOf]; omega
end Go.Proofs.Ytcckfeikaolfgaa

namespace Go.Proofs.Ytcckfeikaolfgaa
open Go.RowKit
set_option linter.unusedVariables false
set_option linter.unusedSimpArgs false
set_option maxRecDepth 100000
theorem stock_power (n : Int) (w : World) (hn : -9223372036854775808 ≤ n ∧ n ≤ 9223372036854775807) :
    Calls Try.prog 91 #[.int .i64 n] w fun e w' => e = .returned (.bool (isP2 n)) ∧ w = w' := by
  by_cases h0 : n ≤ 0
  · have HP := Lib.hid (isP2_neg n h0)
    go_enter Try.func91, Try.ntmps91
    go_wp2_with fail
    go_ret
    exact ⟨ret_bool HP.out.symm, rfl⟩
  · obtain ⟨N, rfl⟩ := Int.eq_ofNat_of_zero_le (show 0 ≤ n by omega)
    obtain ⟨V, hV⟩ : ∃ V, N &&& (N - 1) = V := ⟨_, rfl⟩
    have e1 : bits .and .i64 (N : Int) ((N : Int) - 1) = (V : Int) := by
      have := bits_and_nat N (N - 1) (by omega) (by omega)
      rw [hV] at this
      rw [← this]; congr 1; omega
    have hP : isP2 (N : Int) = decide (V = 0) := by
      rw [isP2_nat, hV, show decide (0 < N) = true by simp; omega, Bool.true_and]
    have HP := Lib.hid hP
    clear hV hP
    by_cases hv : V = 0
    · have e2 : ((V : Int) == 0) = true := by simp; omega
      have HV := Lib.hid hv
      clear hv
      go_enter Try.func91, Try.ntmps91
      go_wp2_with fail
      go_ret
      exact ⟨ret_bool (by rw [HP.out]; simp [HV.out]), rfl⟩
    · have e2 : ((V : Int) == 0) = false := by simp; omega
      have HV := Lib.hid hv
      clear hv
      go_enter Try.func91, Try.ntmps91
      go_wp2_with fail
      go_ret
      exact ⟨ret_bool (by rw [HP.out]; simp [HV.out]), rfl⟩
/-- May there be so many? -/
def hasP2 (n : Int) : Bool := isP2 n && decide (n ≤ 16777216)
theorem hasP2_iff (n : Int) : hasP2 n = true ↔ ∃ k, k ≤ 24 ∧ n = ((2 ^ k : Nat) : Int) := by
  unfold hasP2
  rw [Bool.and_eq_true, decide_eq_true_eq]
  constructor
  · rintro ⟨h1, h2⟩
    have h0 := isP2_pos n h1
    obtain ⟨N, rfl⟩ := Int.eq_ofNat_of_zero_le (show 0 ≤ n by omega)
    obtain ⟨k, rfl⟩ := (isP2_iff N).1 h1
    refine ⟨k, ?_, rfl⟩
    by_cases hk : k ≤ 24
    · exact hk
    · have : 2 ^ 25 ≤ 2 ^ k := Nat.pow_le_pow_right (by omega) (by omega)
      have e : (2 : Nat) ^ 25 = 33554432 := by decide
      omega
  · rintro ⟨k, hk, rfl⟩
    refine ⟨(isP2_iff _).2 ⟨k, rfl⟩, ?_⟩
    have : 2 ^ k ≤ 2 ^ 24 := Nat.pow_le_pow_right (by omega) hk
    have e : (2 : Nat) ^ 24 = 16777216 := by decide
    omega
theorem stock_Has (n : Int) (w : World) (hn : -9223372036854775808 ≤ n ∧ n ≤ 9223372036854775807) :
    Calls Try.prog 68 #[.int .i64 n] w fun e w' => e = .returned (.bool (hasP2 n)) ∧ w = w' := by
  obtain ⟨B, hB⟩ : ∃ B, isP2 n = B := ⟨_, rfl⟩
  have HP := Lib.hid hB
  have HH : Hid (hasP2 n = (B && decide (n ≤ 16777216))) := by unfold Hid hasP2; rw [hB]
  have C1 : Hid (∀ w : World, Calls Try.prog 91 #[.int .i64 n] w fun e w' => e = .returned (.bool B) ∧ w = w') := fun w => by rw [← hB]; exact stock_power n w hn
  clear hB
  cases B
  all_goals
    go_enter Try.func68, Try.ntmps68
    go_wp2_with fail
    refine (C1.out _).mono ?_; rintro e w' ⟨rfl, rfl⟩
    go_wp2_with fail
    go_ret
    exact ⟨ret_bool (by rw [HH.out]; first | rfl | simp), rfl⟩
end Go.Proofs.Ytcckfeikaolfgaa

namespace Go.Proofs.Ytcckfeikaolfgaa
open Go.RowKit
set_option linter.unusedVariables false
set_option linter.unusedSimpArgs false
set_option maxRecDepth 100000
/-- n without d as often as it divides; e and how often. -/
def stripF : Nat → Nat → Nat → Nat → Nat × Nat
  | 0, _, n, e => (n, e)
  | f + 1, d, n, e => if n % d = 0 then stripF f d (n / d) (e + 1) else (n, e)
/-- The primes that divide n, from d on. -/
def facF : Nat → Nat → Nat → List (Nat × Nat)
  | 0, _, _ => []
  | f + 1, d, n => if d * d ≤ n then (match stripF 25 d n 0 with | (m, e) => if e = 0 then facF f (d + 1) m else (d, e) :: facF f (d + 1) m) else if 1 < n then [(n, 1)] else []
def facL (n : Nat) : List (Nat × Nat) := facF 4998 2 n
theorem stripF_le (f : Nat) : ∀ d n e, 2 ≤ d → 1 ≤ n → 1 ≤ (stripF f d n e).1 ∧ (stripF f d n e).1 ≤ n ∧ e ≤ (stripF f d n e).2 ∧ ((stripF f d n e).2 = e → (stripF f d n e).1 = n) := by
  induction f with
  | zero => intro d n e _ h; exact ⟨h, Nat.le_refl _, Nat.le_refl _, fun _ => rfl⟩
  | succ f ih =>
    intro d n e hd hn
    simp only [stripF]
    by_cases h : n % d = 0
    · rw [if_pos h]
      have h1 : 1 ≤ n / d := Nat.div_pos (Nat.le_of_dvd hn (Nat.dvd_of_mod_eq_zero h)) (by omega)
      obtain ⟨a, b, c, _⟩ := ih d (n / d) (e + 1) hd h1
      have := Nat.div_le_self n d
      exact ⟨a, by omega, by omega, fun h => by omega⟩
    · rw [if_neg h]; exact ⟨hn, Nat.le_refl _, Nat.le_refl _, fun _ => rfl⟩
theorem strip_step {n d e : Nat} (hd : 2 ≤ d) (h : n % d = 0) (hn : 1 ≤ n) (hb : n * 2 ^ e ≤ 16777216) : 1 ≤ n / d ∧ n / d * 2 ^ (e + 1) ≤ 16777216 ∧ n / d ≤ n := by
  have hdv := Nat.dvd_of_mod_eq_zero h
  have h1 : 1 ≤ n / d := Nat.div_pos (Nat.le_of_dvd hn hdv) (by omega)
  refine ⟨h1, ?_, Nat.div_le_self _ _⟩
  have h2 : n / d * 2 ≤ n := Nat.le_trans (Nat.mul_le_mul_left _ hd) (Nat.div_mul_le_self n d)
  calc n / d * 2 ^ (e + 1) = n / d * 2 * 2 ^ e := by rw [Nat.pow_succ, Nat.mul_comm (2 ^ e) 2, Nat.mul_assoc]
    _ ≤ n * 2 ^ e := Nat.mul_le_mul_right _ h2
    _ ≤ _ := hb
theorem strip_few {n e : Nat} (hn : 1 ≤ n) (hb : n * 2 ^ e ≤ 16777216) : e ≤ 24 := by
  by_cases h : e ≤ 24
  · exact h
  · have h1 : 2 ^ 25 ≤ 2 ^ e := Nat.pow_le_pow_right (by omega) (by omega)
    have h2 : 1 * 2 ^ e ≤ n * 2 ^ e := Nat.mul_le_mul_right _ hn
    have e2 : (2 : Nat) ^ 25 = 33554432 := by decide
    omega
/-- Is it a prime, as the program has it? -/
def prB (l : List (Nat × Nat)) : Bool := match l with | [(_, 1)] => true | _ => false
theorem facF_some (f : Nat) : ∀ d n, 2 ≤ d → 1 < n → n < (f + d) * (f + d) → facF (f + 1) d n ≠ [] := by
  induction f with
  | zero =>
    intro d n hd hn hf
    rw [Nat.zero_add] at hf
    simp only [facF]
    rw [if_neg (by omega), if_pos hn]
    simp
  | succ f ih =>
    intro d n hd hn hf
    have hle := stripF_le 25 d n 0 hd (by omega)
    rw [facF]
    by_cases h : d * d ≤ n
    · rw [if_pos h]
      rcases hs : stripF 25 d n 0 with ⟨m, e⟩
      rw [hs] at hle
      simp only [] at hle ⊢
      by_cases he : e = 0
      · rw [if_pos he]
        have hm : m = n := hle.2.2.2 he
        subst hm
        exact ih (d + 1) m (by omega) hn (by rw [show f + (d + 1) = f + 1 + d by omega]; exact hf)
      · rw [if_neg he]; simp
    · rw [if_neg h, if_pos hn]; simp
/-- No number from d on whose square is not above n divides n. -/
def NoDiv (d n : Nat) : Prop := 1 < n ∧ ∀ k, d ≤ k → k * k ≤ n → n % k ≠ 0
theorem facF_prime (f : Nat) : ∀ d n, 2 ≤ d → 1 ≤ n → n < (f + d) * (f + d) → (prB (facF (f + 1) d n) = true ↔ NoDiv d n) := by
  induction f with
  | zero =>
    intro d n hd hn hf
    rw [Nat.zero_add] at hf
    simp only [facF]
    rw [if_neg (by omega)]
    by_cases h1 : 1 < n
    · rw [if_pos h1]
      simp only [prB, true_iff]
      refine ⟨h1, fun k hk hkk _ => ?_⟩
      have := Nat.mul_le_mul hk hk
      omega
    · rw [if_neg h1]
      simp only [prB, Bool.false_eq_true, false_iff]
      exact fun h => h1 h.1
  | succ f ih =>
    intro d n hd hn hf
    have hle := stripF_le 25 d n 0 hd hn
    rw [facF]
    by_cases h : d * d ≤ n
    · rw [if_pos h]
      by_cases hdv : n % d = 0
      · have hnd : n / d * d = n := Nat.div_mul_cancel (Nat.dvd_of_mod_eq_zero hdv)
        have hge : d ≤ n / d := (Nat.le_div_iff_mul_le (by omega)).2 h
        have h24 : stripF 25 d n 0 = stripF 24 d (n / d) 1 := by rw [stripF, if_pos hdv]
        have hle2 := stripF_le 24 d (n / d) 1 hd (by omega)
        rw [← h24] at hle2
        have hno : ¬ NoDiv d n := fun hN => hN.2 d (Nat.le_refl _) h hdv
        rcases hs : stripF 25 d n 0 with ⟨m, e⟩
        rw [hs] at hle hle2
        simp only [] at hle hle2 ⊢
        rw [if_neg (by omega)]
        constructor
        · intro hp
          exfalso
          have he : e = 1 := by
            by_cases he : e = 1
            · exact he
            · exfalso
              simp only [prB] at hp
              split at hp
              · rename_i heq; simp only [List.cons.injEq, Prod.mk.injEq] at heq; exact he heq.1.2
              · cases hp
          have hm : m = n / d := hle2.2.2.2 he
          have hlt : m < (f + (d + 1)) * (f + (d + 1)) := by rw [show f + (d + 1) = f + 1 + d by omega]; omega
          have hsome := facF_some f (d + 1) m (by omega) (by omega) hlt
          simp only [prB] at hp
          split at hp
          · rename_i heq
            simp only [List.cons.injEq] at heq
            exact hsome heq.2
          · cases hp
        · intro hN; exact absurd hN hno
      · have hs : stripF 25 d n 0 = (n, 0) := by rw [stripF, if_neg hdv]
        rw [hs]
        simp only [if_true]
        rw [ih (d + 1) n (by omega) hn (by rw [show f + (d + 1) = f + 1 + d by omega]; exact hf)]
        constructor
        · rintro ⟨a, b⟩
          refine ⟨a, fun k hk hkk => ?_⟩
          by_cases e : k = d
          · subst e; exact hdv
          · exact b k (by omega) hkk
        · rintro ⟨a, b⟩
          exact ⟨a, fun k hk hkk => b k (by omega) hkk⟩
    · rw [if_neg h]
      by_cases h1 : 1 < n
      · rw [if_pos h1]
        simp only [prB, true_iff]
        refine ⟨h1, fun k hk hkk _ => ?_⟩
        have := Nat.mul_le_mul hk hk
        omega
      · rw [if_neg h1]
        simp only [prB, Bool.false_eq_true, false_iff]
        exact fun h => h1 h.1
theorem facL_prime (n : Nat) (h1 : 1 ≤ n) (h2 : n ≤ 16777216) : prB (facL n) = true ↔ NoDiv 2 n := facF_prime 4997 2 n (by omega) h1 (by omega)
/-- Is it a prime? -/
def isPr (n : Int) : Bool := decide (1 ≤ n ∧ n ≤ 16777216) && prB (facL n.toNat)
theorem isPr_nat (n : Nat) (h1 : 1 ≤ n) (h2 : n ≤ 16777216) : isPr (n : Int) = prB (facL n) := by
  unfold isPr
  rw [show decide (1 ≤ (n : Int) ∧ (n : Int) ≤ 16777216) = true by simp; omega, Bool.true_and, Int.toNat_natCast]
theorem isPr_iff (n : Nat) (h1 : 1 ≤ n) (h2 : n ≤ 16777216) : isPr (n : Int) = true ↔ NoDiv 2 n := by rw [isPr_nat n h1 h2, facL_prime n h1 h2]
/-- Pairs as cells. -/
def cellsP (ps : List (Nat × Nat)) : List Value := ps.flatMap fun p => [.int .i64 p.1, .int .i64 p.2]
theorem cellsP_snoc (ps : List (Nat × Nat)) (p : Nat × Nat) : cellsP (ps ++ [p]) = cellsP ps ++ [.int .i64 p.1, .int .i64 p.2] := by simp [cellsP]
end Go.Proofs.Ytcckfeikaolfgaa

namespace Go.Proofs.Ytcckfeikaolfgaa
open Go.RowKit
set_option linter.unusedVariables false
set_option linter.unusedSimpArgs false
set_option maxRecDepth 100000
theorem hasSz_bd {n : Int} (h : hasSz n = true) : 1 ≤ n ∧ n ≤ 16777216 := by have := hasSz_iff.1 h; exact ⟨this.1, this.2.1⟩
namespace Tr
end Tr
end Go.Proofs.Ytcckfeikaolfgaa

namespace Go.Proofs.Ytcckfeikaolfgaa
open Go.RowKit
set_option linter.unusedVariables false
set_option linter.unusedSimpArgs false
set_option maxRecDepth 100000
theorem there_yes (n : Nat) (w : World) (h1 : 1 ≤ n) (h2 : n ≤ 16777216) :
    Calls Try.prog 108 #[.int .i64 n] w fun e w' => e = .returned (.bool true) ∧ w = w' := by
  go_enter Try.func108, Try.ntmps108
  go_wp2_with fail
  go_ret
  exact ⟨ret_bool (by simp; omega), rfl⟩
theorem there_no (n : Int) (w : World) (h : n < 1 ∨ 16777216 < n) :
    Calls Try.prog 108 #[.int .i64 n] w fun e w' => e = .returned (.bool false) ∧ w = w' := by
  by_cases h1 : n < 1
  · clear h
    go_enter Try.func108, Try.ntmps108
    go_wp2_with fail
    go_ret
    exact ⟨ret_bool (by simp; try omega), rfl⟩
  · have h2 : 16777216 < n := by omega
    clear h
    go_enter Try.func108, Try.ntmps108
    go_wp2_with fail
    go_ret
    exact ⟨ret_bool (by simp; try omega), rfl⟩
theorem info_power : (Try.prog.info? 114).map (fun i => (i.zero, i.size, i.bytes)) = some (some (.agg #[.int .i64 0, .int .i64 0]), 2, 16) := by kernel_rfl
theorem cell_two_new (w : World) (x y : Value) (t : TypeId) : ∀ j u, [x, y][j]? = some u → (w.alloc (.cells #[x, y] t)).cell? ((⟨w.heap.size, 0, none⟩ : Addr).add j) = some u := by
  intro j u hj
  match j, hj with
  | 0, hj => simp at hj; subst hj; simp [Addr.add]
  | 1, hj => simp at hj; subst hj; simp [Addr.add]
theorem one_two (x y : Int) : ∀ u ∈ [Value.int .i64 x, Value.int .i64 y], u.oneCell' = true := by
  intro u hu
  simp at hu
  rcases hu with rfl | rfl <;> rfl
/-- A result: a new row that reads as the pairs; no error. -/
def GivesP (ps : List (Nat × Nat)) (w : World) (e : Ending) (w' : World) : Prop :=
  ∃ v, e = .returned (.tuple #[v, .int .i64 0]) ∧ w'.ownsRow w.heap.size 114 2 v ps.length (cellsP ps) ∧ Below w.heap.size w w'
theorem fac_unfold_le {d n m e : Nat} (hd : d ≤ 4097) (h : d * d ≤ n) (hs : stripF 25 d n 0 = (m, e)) : facF (5000 - d) d n = if e = 0 then facF (5000 - (d + 1)) (d + 1) m else (d, e) :: facF (5000 - (d + 1)) (d + 1) m := by
  rw [show 5000 - d = (5000 - (d + 1)) + 1 by omega, facF, if_pos h, hs]
theorem fac_unfold_gt {d n : Nat} (hd : d ≤ 4097) (h : ¬ d * d ≤ n) : facF (5000 - d) d n = if 1 < n then [(n, 1)] else [] := by
  rw [show 5000 - d = (5000 - (d + 1)) + 1 by omega, facF, if_neg h]
set_option maxHeartbeats 4000000 in
theorem fact_Factors (N : Nat) (w : World) (h1 : 1 ≤ N) (h2 : N ≤ 16777216) :
    Calls Try.prog 90 #[.int .i64 N] w (GivesP (facL N) w) := by
  obtain ⟨i0, hi, hz0, hz1, hz2⟩ := info_parts info_power
  obtain ⟨PS, hPS⟩ : ∃ PS, facL N = PS := ⟨_, rfl⟩
  rw [hPS]
  have HPS := Lib.hid hPS
  clear hPS
  go_enter Try.func90, Try.ntmps90
  go_wp2_with fail
  go_step3
  go_wp2_with fail
  refine (there_yes N _ h1 h2).mono ?_; rintro e w' ⟨rfl, rfl⟩
  go_wp2_with fail
  go_step3
  go_wp2_with fail
  go_loopw [0, 4, 5] (fun n v d wr => ∃ (n0 d0 : Nat) (acc : List (Nat × Nat)), 1 ≤ n0 ∧ n0 ≤ 16777216 ∧ 2 ≤ d0 ∧ d0 ≤ 4097 ∧ n = .int .i64 n0 ∧ d = .int .i64 d0 ∧ acc.length ≤ d0 ∧ Hid (acc ++ facF (5000 - d0) d0 n0 = PS) ∧ Hid (wr.ownsRow w.heap.size 114 2 v acc.length (cellsP acc)) ∧ Below w.heap.size w wr) (fun _ _ d _ => 5000 - (intOf d).toNat)
  case atStart => exact ⟨N, 2, [], h1, h2, by omega, by omega, rfl, rfl, by simp, HPS.out, World.ownsRow_nil _ _ _ _, Below.refl _ _⟩
  case round =>
    obtain ⟨n, d, acc, hn1, hn2, hd1, hd2, rfl, rfl, hal, HF, HO, hbel⟩ := hrel
    obtain ⟨q, hq⟩ : ∃ q, d * d = q := ⟨_, rfl⟩
    have eq1 : (d : Int) * (d : Int) = (q : Int) := by rw [← hq]; simp
    have hq9 : q ≤ 4097 * 4097 := by rw [← hq]; exact Nat.mul_le_mul hd2 hd2
    by_cases hle : q ≤ n
    · have hd3 : d ≤ 4096 := by
        by_cases h : d ≤ 4096
        · exact h
        · have := Nat.mul_le_mul (show 4097 ≤ d by omega) (show 4097 ≤ d by omega)
          omega
      have HQ := Lib.hid hq
      clear hq
      obtain ⟨wo, rfl⟩ : ∃ wo : World, wo = wr := ⟨_, rfl⟩
      have hS : Hid (∃ m e, stripF 25 d n 0 = (m, e)) := ⟨_, _, rfl⟩
      obtain ⟨M, E, hs⟩ := hS.out
      have HS := Lib.hid hs
      clear hs hS
      have hbs := hbel.size
      go_wp2_with fail
      clear eq1
      go_loopw [0] (fun m wi => ∃ (m0 e0 : Nat), m = .int .i64 m0 ∧ 1 ≤ m0 ∧ m0 ≤ n ∧ e0 ≤ 24 ∧ Hid (m0 * 2 ^ e0 ≤ 16777216) ∧ Hid (stripF (25 - e0) d m0 e0 = (M, E)) ∧ Hid (wi.heap[wo.heap.size]? = some (.cells #[.int .i64 d, .int .i64 e0] 114 (0, 0))) ∧ Below wo.heap.size wo wi) (fun m _ => (intOf m).toNat)
      case atStart => exact ⟨n, 0, rfl, hn1, Nat.le_refl _, by omega, by unfold Hid; omega, HS.out, block_new rfl, (Below.refl _ _).alloc (Nat.le_refl _) _⟩
      case round =>
        obtain ⟨m, e, rfl, hm1, hmn, he24, HB, HR, HX, hbi⟩ := hrel
        have e1 : (m : Int).tmod (d : Int) = ((m % d : Nat) : Int) := by rw [Int.tmod_eq_emod_of_nonneg (by omega), Int.natCast_emod]
        have e2 : (m : Int) % (d : Int) = ((m % d : Nat) : Int) := by rw [← Int.natCast_emod]
        obtain ⟨r, hr⟩ : ∃ r, m % d = r := ⟨_, rfl⟩
        rw [hr] at e1 e2
        have z1 : ((d : Int) == 0) = false := bno (by omega)
        have z2 : ¬ (d : Int) = 0 := by omega
        by_cases h0 : r = 0
        · have HR0 := Lib.hid hr
          have e3 : (m : Int).tdiv (d : Int) = ((m / d : Nat) : Int) := by rw [Int.tdiv_eq_ediv_of_nonneg (by omega), Int.natCast_ediv]
          have e4 : (m : Int) / (d : Int) = ((m / d : Nat) : Int) := by rw [← Int.natCast_ediv]
          have hst := strip_step hd1 (by rw [hr]; exact h0) hm1 HB.out
          have hlt : m / d < m := Nat.div_lt_self (by omega) (by omega)
          have hfew := strip_few hst.1 hst.2.1
          obtain ⟨p, hp⟩ : ∃ p, m / d = p := ⟨_, rfl⟩
          have HR2 : Hid (stripF (25 - (e + 1)) d p (e + 1) = (M, E)) := by
            unfold Hid
            have := HR.out
            rw [show 25 - e = (25 - (e + 1)) + 1 by omega, stripF, if_pos (by rw [hr]; exact h0), hp] at this
            exact this
          rw [hp] at e3 e4 hst hlt
          obtain ⟨g1, g2, g3⟩ := hst
          have G2 := Lib.hid g2
          clear hr hp g2
          subst h0
          have c1 : wr.cell? ⟨wo.heap.size, 1, none⟩ = some (.int .i64 (e : Int)) := block_cell HX.out 1
          have f1 : wr.frozen? ⟨wo.heap.size, 1, none⟩ = false := block_free HX.out 1
          have hset : (wr.setCell ⟨wo.heap.size, 1, none⟩ (.int .i64 ((e : Int) + 1))).heap[wo.heap.size]? = some (.cells #[.int .i64 d, .int .i64 ((e : Int) + 1)] 114 (0, 0)) := block_set HX.out 1 _
          have HSET := Lib.hid hset
          have hbi2 := Lib.hid (hbi.setCell (p := ⟨wo.heap.size, 1, none⟩) (Nat.le_refl _) (.int .i64 ((e : Int) + 1)))
          clear hset
          go_wp2_with fail
          go_roundw
          case rel => exact ⟨p, e + 1, rfl, g1, by omega, by omega, G2.out, HR2.out, HSET.out, hbi2.out⟩
          case measure => simp [intOf]; omega
        · have hME : (m, e) = (M, E) := by
            have := HR.out
            rw [show 25 - e = (24 - e) + 1 by omega, stripF, if_neg (by rw [hr]; exact h0)] at this
            exact this
          simp only [Prod.mk.injEq] at hME
          obtain ⟨rfl, rfl⟩ := hME
          have h0' : ((r : Int) == 0) = false := bno (by omega)
          have HUN := Lib.hid (fac_unfold_le (n := n) hd2 (by rw [HQ.out]; exact hle) HS.out)
          have hown := own_later3 HO.out hbi
          have c0 : wr.cell? ⟨wo.heap.size, 0, none⟩ = some (.int .i64 (d : Int)) := block_cell HX.out 0
          have c1 : wr.cell? ⟨wo.heap.size, 1, none⟩ = some (.int .i64 (e : Int)) := block_cell HX.out 1
          have hb3 := chain hbel hbi
          have hbs3 := hb3.size
          have HME : Hid (m % d ≠ 0) := by unfold Hid; rw [hr]; exact h0
          clear hr
          by_cases he : e = 0
          · have t1 : ((e : Int) == 0) = true := btrue (by omega)
            have HE := Lib.hid he
            have HOW := Lib.hid hown
            clear he hown
            go_wp2_with fail
            go_roundw
            case rel => exact ⟨m, d + 1, acc, hm1, by omega, by omega, by omega, rfl, by go_num, by omega, by have := HF.out; rw [HUN.out, if_pos HE.out] at this; exact this, HOW.out, hb3⟩
            case measure => simp [intOf]; omega
          · have t1 : ((e : Int) == 0) = false := bno (by omega)
            have HE := Lib.hid he
            clear he
            go_wp2_with (at_builtin; refine wpList_append_own _ rfl _ _ 110 rfl w.heap.size 114 i0 (.agg #[.int .i64 0, .int .i64 0]) 2 16 Try.underlying110 hi hz0 hz1 hz2 rfl (by decide) _ acc.length (cellsP acc) rfl (hown.alloc _) ⟨wr.heap.size, 0, none⟩ 1 1 [.int .i64 d, .int .i64 e] rfl rfl (cell_two_new _ _ _ _) (one_two _ _) (by unfold maxLen; omega) (by omega) (by simp; omega) ?_)
            intro v' w2 hown2 hgrow _
            have HOW : Hid (w2.ownsRow w.heap.size 114 2 v' (acc ++ [(d, e)]).length (cellsP (acc ++ [(d, e)]))) := by unfold Hid; rw [cellsP_snoc, List.length_append, List.length_singleton]; exact hown2
            have hb4 : Below w.heap.size w w2 := below_grown hb3 hbs3 (own_lt3 hown) hgrow
            have hlen : (acc ++ [(d, e)]).length ≤ d + 1 := by simp; omega
            clear hown hown2 hgrow
            go_wp2_with fail
            go_roundw
            case rel => exact ⟨m, d + 1, acc ++ [(d, e)], hm1, by omega, by omega, by omega, rfl, by go_num, hlen, by have := HF.out; rw [HUN.out, if_neg HE.out] at this; unfold Hid; rw [List.append_assoc]; exact this, HOW.out, hb4⟩
            case measure => simp [intOf]; omega
    · have HUN := Lib.hid (fac_unfold_gt (n := n) hd2 (by rw [hq]; exact hle))
      have hbs := hbel.size
      clear hq
      by_cases hn : 1 < n
      · have hown := HO.out
        have HN := Lib.hid hn
        go_wp2_with (at_builtin; refine wpList_append_own _ rfl _ _ 110 rfl w.heap.size 114 i0 (.agg #[.int .i64 0, .int .i64 0]) 2 16 Try.underlying110 hi hz0 hz1 hz2 rfl (by decide) _ acc.length (cellsP acc) rfl (hown.alloc _) ⟨wr.heap.size, 0, none⟩ 1 1 [.int .i64 n, .int .i64 1] rfl rfl (cell_two_new _ _ _ _) (one_two _ _) (by unfold maxLen; omega) (by omega) (by simp; omega) ?_)
        intro v' w2 hown2 hgrow _
        have HPE : Hid (acc ++ [(n, 1)] = PS) := by have := HF.out; rw [HUN.out, if_pos hn] at this; exact this
        have HOW : Hid (w2.ownsRow w.heap.size 114 2 v' PS.length (cellsP PS)) := by unfold Hid; rw [← HPE.out, cellsP_snoc, List.length_append, List.length_singleton]; exact hown2
        have hb4 : Below w.heap.size w w2 := below_grown hbel hbs (own_lt3 hown) hgrow
        clear hown hown2 hgrow
        go_wp2_with fail
        rw [Exit.noGoto_ret]
        go_ret2
        exact ⟨v', rfl, HOW.out, hb4⟩
      · have HPE : Hid (acc = PS) := by have := HF.out; rw [HUN.out, if_neg hn, List.append_nil] at this; exact this
        have HOW := HO.out
        rw [HPE.out] at HOW
        have HOW := Lib.hid HOW
        go_wp2_with fail
        rw [Exit.noGoto_ret]
        go_ret2
        exact ⟨_, rfl, HOW.out, hbel⟩
theorem fact_Factors_no (n : Int) (w : World) (h : n < 1 ∨ 16777216 < n) :
    Calls Try.prog 90 #[.int .i64 n] w fun e w' => e = .returned (.tuple #[.slice none 0 0, .int .i64 3]) ∧ w = w' := by
  have C1 : Hid (∀ W, Calls Try.prog 108 #[.int .i64 n] W fun e w' => e = .returned (.bool false) ∧ W = w') := fun W => there_no n W h
  clear h
  go_enter Try.func90, Try.ntmps90
  go_wp2_with fail
  go_step3
  go_wp2_with fail
  refine (C1.out _).mono ?_; rintro e w' ⟨rfl, rfl⟩
  go_wp2_with fail
  rw [Exit.noGoto_ret]
  go_ret2
  exact ⟨rfl, rfl⟩
theorem own_slice2 {w : World} {B : Nat} {e : TypeId} {v : Value} {n s : Nat} {xs : List Value} (h : w.ownsRow B e s v n xs) : ∃ a cap, v = .slice a n cap ∧ OkCap a n cap ∧ (0 < n → ∃ g, a = some ⟨g, 0, none⟩) := by
  rcases h.2 with ⟨rfl, h0⟩ | ⟨g, cap, cur, rfl, _, _, hc, _⟩
  · exact ⟨none, 0, by rw [h0], ⟨by omega, fun _ => rfl⟩, fun h => by omega⟩
  · exact ⟨_, _, rfl, ⟨hc, fun h => by cases h⟩, fun _ => ⟨g, rfl⟩⟩
set_option maxHeartbeats 1000000 in
theorem fact_Prime (n : Int) (w : World) (hn : -9223372036854775808 ≤ n ∧ n < 9223372036854775808) :
    Calls Try.prog 67 #[.int .i64 n] w fun e w' => e = .returned (.bool (isPr n)) ∧ Below w.heap.size w w' := by
  by_cases h : n < 1 ∨ 16777216 < n
  · have C1 : Hid (∀ W, Calls Try.prog 90 #[.int .i64 n] W fun e w' => e = .returned (.tuple #[.slice none 0 0, .int .i64 3]) ∧ W = w') := fun W => fact_Factors_no n W h
    have HP : Hid (isPr n = false) := by unfold Hid isPr; rw [show decide (1 ≤ n ∧ n ≤ 16777216) = false by simp; omega, Bool.false_and]
    clear h
    go_enter Try.func67, Try.ntmps67
    go_wp2_with fail
    refine (C1.out _).mono ?_; rintro e w' ⟨rfl, rfl⟩
    go_wp2_with fail
    go_ret
    exact ⟨ret_bool HP.out.symm, Below.refl _ _⟩
  · obtain ⟨N, rfl⟩ := Int.eq_ofNat_of_zero_le (show 0 ≤ n by omega)
    have C1 := Lib.hid (fact_Factors N w (by omega) (by omega))
    have HP := Lib.hid (isPr_nat N (by omega) (by omega))
    obtain ⟨ps, hps⟩ : ∃ ps, facL N = ps := ⟨_, rfl⟩
    rw [hps] at C1 HP
    clear hps h hn
    go_enter Try.func67, Try.ntmps67
    go_wp2_with fail
    refine C1.out.mono ?_; rintro e w1 ⟨v, rfl, hown, hb⟩
    obtain ⟨a, cap, rfl, hcap, hg⟩ := own_slice2 hown
    match ps, hg, hown, HP with
    | [], hg, hown, HP =>
      clear hown hg
      go_wp2_with fail
      go_ret
      exact ⟨ret_bool (by rw [HP.out]; rfl), hb⟩
    | [(p, x)], hg, hown, HP =>
      obtain ⟨g, rfl⟩ := hg (by simp)
      have hc : w1.cell? ⟨g, 1, none⟩ = some (.int .i64 (x : Int)) := hown.cellAt 1 (by simp)
      clear hown hg hcap
      by_cases hx : x = 1
      · have t1 : ((x : Int) == 1) = true := btrue (by omega)
        have HX := Lib.hid hx
        clear hx
        go_wp2_with fail
        go_ret
        exact ⟨ret_bool (by rw [HP.out, HX.out]; rfl), hb⟩
      · have t1 : ((x : Int) == 1) = false := bno (by omega)
        have HX := Lib.hid hx
        clear hx
        go_wp2_with fail
        go_ret
        exact ⟨ret_bool (by rw [HP.out]; simp only [prB]; split <;> simp_all [Hid]), hb⟩
    | p :: q :: r, hg, hown, HP =>
      have t1 : ((((p :: q :: r).length : Nat) : Int) == 1) = false := bno (by simp; omega)
      obtain ⟨L, hL⟩ : ∃ L, (p :: q :: r).length = L := ⟨_, rfl⟩
      rw [hL] at t1 ⊢
      clear hown hg hL hcap
      go_wp2_with fail
      go_ret
      exact ⟨ret_bool (by rw [HP.out]; obtain ⟨a, b⟩ := p; simp [prB]), hb⟩
set_option maxHeartbeats 1000000 in
theorem ref03_Prime (N : Nat) (w : World) (h1 : 1 ≤ N) (h2 : N ≤ 16777216) :
    Calls Try.prog 36 #[.int .i64 N] w fun e w' => e = .returned (.bool (isPr N)) ∧ w = w' := by
  obtain ⟨B, hB⟩ : ∃ B, isPr N = B := ⟨_, rfl⟩
  rw [hB]
  have HI1 : Hid (B = true → NoDiv 2 N) := by unfold Hid; rw [← hB]; exact (isPr_iff N h1 h2).1
  have HI2 : Hid (NoDiv 2 N → B = true) := by unfold Hid; rw [← hB]; exact (isPr_iff N h1 h2).2
  clear hB
  go_enter Try.func36, Try.ntmps36
  go_wp2_with fail
  go_loopw [3] (fun d wr => ∃ d0 : Nat, 2 ≤ d0 ∧ d0 ≤ 4097 ∧ d = .int .i64 d0 ∧ Hid (∀ k, 2 ≤ k → k < d0 → N % k ≠ 0) ∧ w = wr) (fun d _ => 5000 - (intOf d).toNat)
  case atStart => exact ⟨2, by omega, by omega, rfl, fun k hk hk2 => by omega, rfl⟩
  case round =>
    obtain ⟨d, hd1, hd2, rfl, HD, rfl⟩ := hrel
    obtain ⟨q, hq⟩ : ∃ q, d * d = q := ⟨_, rfl⟩
    have eq1 : (d : Int) * (d : Int) = (q : Int) := by rw [← hq]; simp
    have hq9 : q ≤ 4097 * 4097 := by rw [← hq]; exact Nat.mul_le_mul hd2 hd2
    by_cases hle : q ≤ N
    · have hd3 : d ≤ 4096 := by
        by_cases h : d ≤ 4096
        · exact h
        · have := Nat.mul_le_mul (show 4097 ≤ d by omega) (show 4097 ≤ d by omega)
          omega
      obtain ⟨r, hr⟩ : ∃ r, N % d = r := ⟨_, rfl⟩
      have e1 : (N : Int).tmod (d : Int) = (r : Int) := by rw [Int.tmod_eq_emod_of_nonneg (by omega), ← Int.natCast_emod, hr]
      have e2 : (N : Int) % (d : Int) = (r : Int) := by rw [← Int.natCast_emod, hr]
      have z1 : ((d : Int) == 0) = false := bno (by omega)
      have z2 : ¬ (d : Int) = 0 := by omega
      have HR := Lib.hid hr
      have HQ := Lib.hid hq
      clear hr hq
      by_cases h0 : r = 0
      · subst h0
        have HB : Hid (B = false) := Bool.eq_false_iff.2 fun h => (HI1.out h).2 d hd1 (by rw [HQ.out]; exact hle) HR.out
        go_wp2_with fail
        go_ret
        exact ⟨ret_bool HB.out.symm, by first | rfl | trivial⟩
      · have h0' : ((r : Int) == 0) = false := bno (by omega)
        go_wp2_with fail
        go_roundw
        case rel => exact ⟨d + 1, by omega, by omega, by go_num, fun k hk hk2 => by
          by_cases e : k = d
          · subst e; rw [HR.out]; exact h0
          · exact HD.out k hk (by omega), by first | rfl | trivial⟩
        case measure => simp [intOf]; omega
    · have HND : Hid (1 < N → NoDiv 2 N) := fun h => ⟨h, fun k hk hkk => HD.out k hk (by
        by_cases hkd : k < d
        · exact hkd
        · have := Nat.mul_le_mul (show d ≤ k by omega) (show d ≤ k by omega)
          omega)⟩
      clear hq
      by_cases hN : 2 ≤ N
      · have HB : Hid (B = true) := HI2.out (HND.out (by omega))
        go_wp2_with fail
        go_ret
        exact ⟨ret_bool (by rw [HB.out]; simp; omega), by first | rfl | trivial⟩
      · have HB : Hid (B = false) := Bool.eq_false_iff.2 fun h => by have := (HI1.out h).1; omega
        go_wp2_with fail
        go_ret
        exact ⟨ret_bool HB.out.symm, by first | rfl | trivial⟩
end Go.Proofs.Ytcckfeikaolfgaa

namespace Go.Proofs.Ytcckfeikaolfgaa
open Go.RowKit
set_option linter.unusedVariables false
set_option linter.unusedSimpArgs false
set_option maxRecDepth 100000
set_option maxRecDepth 20000
theorem box_any (W : World) (cs : Array Value) (T : TypeId) : ∃ W', W.alloc (.cells cs T) = W' ∧ Below W.heap.size W W' ∧ W'.heap[W.heap.size]? = some (.cells cs T (0, 0)) :=
  ⟨_, rfl, (Below.refl _ _).alloc (Nat.le_refl _) _, block_new rfl⟩
/-- A result: a path (from ps on) and whether there is one. -/
def GivesWr (ps : List Int) (r : Option (List Int)) (w : World) (e : Ending) (w' : World) : Prop :=
  match r with
  | none => e = .returned (.tuple #[.slice none 0 0, .bool false]) ∧ Below w.heap.size w w'
  | some q => ∃ a l c, e = .returned (.tuple #[.slice a l c, .bool true]) ∧ (ps ++ q).length = l ∧ Row .i64 w' a (ps ++ q) ∧ OkCap a l c ∧ Below w.heap.size w w'
theorem GivesWr.from {ps : List Int} {r : Option (List Int)} {w wr : World} {e : Ending} {w' : World} (h : GivesWr ps r wr e w') (hb : Below w.heap.size w wr) : GivesWr ps r w e w' := by
  cases r with
  | none => exact ⟨h.1, chain hb h.2⟩
  | some q =>
    obtain ⟨a, l, c, h1, h2, h3, h4, h5⟩ := h
    exact ⟨a, l, c, h1, h2, h3, h4, chain hb h5⟩
namespace Tr
end Tr
end Go.Proofs.Ytcckfeikaolfgaa

namespace Go.Proofs.Ytcckfeikaolfgaa
open Go.RowKit Go.Shelf
set_option linter.unusedVariables false
set_option linter.unusedSimpArgs false
set_option maxRecDepth 100000
set_option maxRecDepth 20000
attribute [local go_sem] Oper.semAt_some
theorem GivesWr.any {ps : List Int} {r : Option (List Int)} {w : World} {e : Ending} {w' : World} (h : GivesWr ps r w e w') : ∃ a l c, e = .returned (.tuple #[.slice a l c, .bool r.isSome]) ∧ Below w.heap.size w w' := by
  cases r with
  | none => exact ⟨none, 0, 0, h.1, h.2⟩
  | some q =>
    obtain ⟨a, l, c, h1, _, _, _, h5⟩ := h
    exact ⟨a, l, c, h1, h5⟩
end Go.Proofs.Ytcckfeikaolfgaa

namespace Go.Proofs.Ytcckfeikaolfgaa
open Go.RowKit
set_option linter.unusedVariables false
set_option linter.unusedSimpArgs false
set_option maxRecDepth 100000
def oddL : List Nat := [1, 3, 5, 15, 17, 51, 85, 255].flatMap fun a => [a, a * 257, a * 65537, a * 257 * 65537]
theorem dvd_two (k : Nat) : ∀ d, d ∣ 2 ^ k → ∃ j, d = 2 ^ j := by
  induction k with
  | zero => intro d h; exact ⟨0, by simpa using h⟩
  | succ k ih =>
    intro d h
    by_cases h2 : d % 2 = 0
    · obtain ⟨e, rfl⟩ := Nat.dvd_of_mod_eq_zero h2
      rw [Nat.pow_succ, Nat.mul_comm (2 ^ k) 2] at h
      obtain ⟨j, rfl⟩ := ih e (Nat.dvd_of_mul_dvd_mul_left (by omega) h)
      exact ⟨j + 1, by rw [Nat.pow_succ]; omega⟩
    · have hc : Nat.Coprime d 2 := by
        unfold Nat.Coprime
        rw [Nat.gcd_comm, Nat.gcd_rec, show d % 2 = 1 by omega]
        rfl
      rw [Nat.pow_succ] at h
      exact ih d (hc.dvd_of_dvd_mul_right h)
theorem dvd_fewer {p s : Nat} (hp : 0 < p) (hs : p < (s + 1) * (s + 1)) (h : ∀ k, k < s + 1 → 2 ≤ k → p % k ≠ 0) (d : Nat) (hd : d ∣ p) : d = 1 ∨ d = p := by
  obtain ⟨e, rfl⟩ := hd
  have hd0 : d ≠ 0 := by rintro rfl; simp at hp
  have he0 : e ≠ 0 := by rintro rfl; simp at hp
  by_cases h1 : d = 1
  · exact .inl h1
  by_cases h2 : e = 1
  · exact .inr (by rw [h2, Nat.mul_one])
  exfalso
  by_cases hk : d < s + 1
  · exact h d hk (by omega) (Nat.mul_mod_right d e)
  · by_cases hk2 : e < s + 1
    · exact h e hk2 (by omega) (Nat.mul_mod_left d e)
    · have := Nat.mul_le_mul (show s + 1 ≤ d by omega) (show s + 1 ≤ e by omega)
      omega
theorem gcd_split {n a b : Nat} (hc : Nat.Coprime a b) (h : n ∣ a * b) : n = Nat.gcd n a * Nat.gcd n b := by
  rw [← hc.gcd_mul, Nat.gcd_eq_left h]
theorem size_form (n : Nat) (h1 : 1 ≤ n) (h2 : n ≤ 16777216) (h : n ∣ 18446744069414584320) : ∃ g ∈ oddL, ∃ j, j < 25 ∧ n = 2 ^ j * g := by
  have e : 18446744069414584320 = 2 ^ 32 * (3 * (5 * (17 * (257 * 65537)))) := by decide
  rw [e] at h
  obtain ⟨j, hj⟩ := dvd_two 32 (Nat.gcd n (2 ^ 32)) (Nat.gcd_dvd_right _ _)
  have s0 := gcd_split (by decide) h
  have f0 : Nat.gcd n (3 * (5 * (17 * (257 * 65537)))) ∣ 3 * (5 * (17 * (257 * 65537))) := Nat.gcd_dvd_right _ _
  rw [hj] at s0
  obtain ⟨m, hm⟩ : ∃ m, Nat.gcd n (3 * (5 * (17 * (257 * 65537)))) = m := ⟨_, rfl⟩
  rw [hm] at s0 f0
  have s1 := gcd_split (by decide) f0
  have f1 : Nat.gcd m (5 * (17 * (257 * 65537))) ∣ 5 * (17 * (257 * 65537)) := Nat.gcd_dvd_right _ _
  have g3 := dvd_fewer (p := 3) (s := 1) (by omega) (by omega) (by decide) _ (Nat.gcd_dvd_right m 3)
  obtain ⟨m1, hm1⟩ : ∃ x, Nat.gcd m (5 * (17 * (257 * 65537))) = x := ⟨_, rfl⟩
  obtain ⟨a3, ha3⟩ : ∃ x, Nat.gcd m 3 = x := ⟨_, rfl⟩
  rw [hm1] at s1 f1; rw [ha3] at s1 g3
  have s2 := gcd_split (by decide) f1
  have f2 : Nat.gcd m1 (17 * (257 * 65537)) ∣ 17 * (257 * 65537) := Nat.gcd_dvd_right _ _
  have g5 := dvd_fewer (p := 5) (s := 2) (by omega) (by omega) (by decide) _ (Nat.gcd_dvd_right m1 5)
  obtain ⟨m2, hm2⟩ : ∃ x, Nat.gcd m1 (17 * (257 * 65537)) = x := ⟨_, rfl⟩
  obtain ⟨a5, ha5⟩ : ∃ x, Nat.gcd m1 5 = x := ⟨_, rfl⟩
  rw [hm2] at s2 f2; rw [ha5] at s2 g5
  have s3 := gcd_split (by decide) f2
  have f3 : Nat.gcd m2 (257 * 65537) ∣ 257 * 65537 := Nat.gcd_dvd_right _ _
  have g17 := dvd_fewer (p := 17) (s := 4) (by omega) (by omega) (by decide) _ (Nat.gcd_dvd_right m2 17)
  obtain ⟨m3, hm3⟩ : ∃ x, Nat.gcd m2 (257 * 65537) = x := ⟨_, rfl⟩
  obtain ⟨a17, ha17⟩ : ∃ x, Nat.gcd m2 17 = x := ⟨_, rfl⟩
  rw [hm3] at s3 f3; rw [ha17] at s3 g17
  have s4 := gcd_split (by decide) f3
  have g257 := dvd_fewer (p := 257) (s := 16) (by omega) (by omega) (by decide) _ (Nat.gcd_dvd_right m3 257)
  have g655 := dvd_fewer (p := 65537) (s := 256) (by omega) (by omega) (by decide +kernel) _ (Nat.gcd_dvd_right m3 65537)
  obtain ⟨a257, ha257⟩ : ∃ x, Nat.gcd m3 257 = x := ⟨_, rfl⟩
  obtain ⟨a655, ha655⟩ : ∃ x, Nat.gcd m3 65537 = x := ⟨_, rfl⟩
  rw [ha257] at s4 g257; rw [ha655] at s4 g655
  have hmo : m ∈ oddL := by
    rw [s1, s2, s3, s4]
    clear s0 s1 s2 s3 s4 f0 f1 f2 f3 hm hm1 hm2 hm3 ha3 ha5 ha17 ha257 ha655 e h hj
    rcases g3 with rfl | rfl <;> rcases g5 with rfl | rfl <;> rcases g17 with rfl | rfl <;> rcases g257 with rfl | rfl <;> rcases g655 with rfl | rfl <;> decide
  refine ⟨m, hmo, j, ?_, s0⟩
  by_cases hj25 : j < 25
  · exact hj25
  · exfalso
    have h25 : 2 ^ 25 ≤ 2 ^ j := Nat.pow_le_pow_right (by omega) (by omega)
    have e2 : (2 : Nat) ^ 25 = 33554432 := by decide
    have hm0 : 1 ≤ m := by
      rcases Nat.eq_zero_or_pos m with h0 | h0
      · rw [h0] at s0; omega
      · exact h0
    have := Nat.mul_le_mul h25 hm0
    omega
end Go.Proofs.Ytcckfeikaolfgaa

namespace Go.Proofs.Ytcckfeikaolfgaa
open Go.RowKit
set_option linter.unusedVariables false
set_option linter.unusedSimpArgs false
set_option maxRecDepth 100000
set_option maxHeartbeats 400000 in
theorem gold_Red (a : Int) (w : World) (h0 : 0 ≤ a) (h1 : a < 18446744073709551616) :
    Calls Try.prog 54 #[.int .u64 a] w fun e w' => e = .returned (.int .u64 (a % 18446744069414584321)) ∧ w = w' := by
  by_cases h : 18446744069414584321 ≤ a
  all_goals
    go_enter Try.func54, Try.ntmps54
    go_wp2
    go_ret
    exact ⟨ret_int (by omega), rfl⟩
theorem add64 (x y : Int) (hx0 : 0 ≤ x) (hx : x < 18446744073709551616) (hy0 : 0 ≤ y) (hy : y < 18446744073709551616) (w : World) :
    (callFunc 115 #[.int .u64 x, .int .u64 y, .int .u64 0]).run Try.prog w = .ok (.value (.tuple #[.int .u64 ((x + y) % 18446744073709551616), .int .u64 ((x + y) / 18446744073709551616)])) w := by
  rw [run_callFunc_extern Try.func115 (by kernel_rfl) (by kernel_rfl) (by kernel_rfl) (e := add64Entry) (by kernel_rfl), run_add64 x y 0 (by omega) (by omega) (by omega) (by omega)]
  simp
theorem sub64 (x y : Int) (hx0 : 0 ≤ x) (hx : x < 18446744073709551616) (hy0 : 0 ≤ y) (hy : y < 18446744073709551616) (w : World) :
    (callFunc 114 #[.int .u64 x, .int .u64 y, .int .u64 0]).run Try.prog w = .ok (.value (.tuple #[.int .u64 ((x - y) % 18446744073709551616), .int .u64 (if x < y then 1 else 0)])) w := by
  obtain ⟨a, rfl⟩ := Int.eq_ofNat_of_zero_le hx0
  obtain ⟨b, rfl⟩ := Int.eq_ofNat_of_zero_le hy0
  have h := Go.Proofs.run_sub64 (P := Try.prog) a b 0 (by omega) w
  have e1 : (((a + 18446744073709551616 - b - 0) % 18446744073709551616 : Nat) : Int) = ((a : Int) - b) % 18446744073709551616 := by omega
  have e2 : ((if a < b + 0 then 1 else 0 : Nat) : Int) = if (a : Int) < b then 1 else 0 := by
    by_cases hab : a < b
    · rw [if_pos (by omega), if_pos (by omega)]; rfl
    · rw [if_neg (by omega), if_neg (by omega)]; rfl
  rw [e1, e2] at h
  rw [run_callFunc_extern Try.func114 (by kernel_rfl) (by kernel_rfl) (by kernel_rfl) (e := Go.Proofs.sub64Entry) (by kernel_rfl)]
  have h' : (Go.Proofs.sub64Entry #[.int .u64 (a : Int), .int .u64 (b : Int), .int .u64 0]).run Try.prog w = _ := h
  rw [h']
  rfl
set_option maxHeartbeats 400000 in
theorem gold_Add (a b : Int) (w : World) (ha0 : 0 ≤ a) (ha : a < 18446744073709551616) (hb0 : 0 ≤ b) (hb : b < 18446744073709551616) :
    Calls Try.prog 123 #[.int .u64 a, .int .u64 b] w fun e w' => e = .returned (.int .u64 ((a + b) % 18446744069414584321)) ∧ w = w' := by
  have e1 := add64 (a % 18446744069414584321) (b % 18446744069414584321) (by omega) (by omega) (by omega) (by omega) w
  go_enter Try.func123, Try.ntmps123
  go_wp2_with fail
  refine (gold_Red a _ ha0 ha).mono ?_; rintro e w' ⟨rfl, rfl⟩
  go_wp2_with fail
  refine (gold_Red b _ hb0 hb).mono ?_; rintro e w' ⟨rfl, rfl⟩
  go_wp2_with fail
  all_goals
    go_ret
    refine ⟨ret_int ?_, rfl⟩
    simp only [beq_iff_eq, beq_eq_false_iff_ne, IntKind.wrap_u64] at *
    omega
set_option maxHeartbeats 400000 in
theorem gold_Neg (a : Int) (w : World) (ha0 : 0 ≤ a) (ha : a < 18446744073709551616) :
    Calls Try.prog 131 #[.int .u64 a] w fun e w' => e = .returned (.int .u64 ((-a) % 18446744069414584321)) ∧ w = w' := by
  go_enter Try.func131, Try.ntmps131
  go_wp2_with fail
  refine (gold_Red a _ ha0 ha).mono ?_; rintro e w' ⟨rfl, rfl⟩
  go_wp2_with fail
  all_goals
    go_ret
    refine ⟨ret_int ?_, rfl⟩
    try simp only [bne_iff_ne, bne_eq_false_iff_eq] at *
    omega
set_option maxHeartbeats 400000 in
theorem gold_Sub (a b : Int) (w : World) (ha0 : 0 ≤ a) (ha : a < 18446744073709551616) (hb0 : 0 ≤ b) (hb : b < 18446744073709551616) :
    Calls Try.prog 124 #[.int .u64 a, .int .u64 b] w fun e w' => e = .returned (.int .u64 ((a - b) % 18446744069414584321)) ∧ w = w' := by
  go_enter Try.func124, Try.ntmps124
  go_wp2_with fail
  refine (gold_Neg b _ hb0 hb).mono ?_; rintro e w' ⟨rfl, rfl⟩
  go_wp2_with fail
  refine (gold_Add a _ _ ha0 ha (by omega) (by omega)).mono ?_; rintro e w' ⟨rfl, rfl⟩
  go_wp2_with fail
  go_ret
  exact ⟨ret_int (by omega), rfl⟩
theorem add64_lt (x y : Int) (hx0 : 0 ≤ x) (hy0 : 0 ≤ y) (h : x + y < 18446744073709551616) (w : World) :
    (callFunc 115 #[.int .u64 x, .int .u64 y, .int .u64 0]).run Try.prog w = .ok (.value (.tuple #[.int .u64 (x + y), .int .u64 0])) w := by
  rw [add64 x y hx0 (by omega) hy0 (by omega) w, Int.emod_eq_of_lt (by omega) h, Int.ediv_eq_zero_of_lt (by omega) h]
theorem add64_ge (x y : Int) (hx0 : 0 ≤ x) (hx : x < 18446744073709551616) (hy0 : 0 ≤ y) (hy : y < 18446744073709551616) (h : 18446744073709551616 ≤ x + y) (w : World) :
    (callFunc 115 #[.int .u64 x, .int .u64 y, .int .u64 0]).run Try.prog w = .ok (.value (.tuple #[.int .u64 (x + y - 18446744073709551616), .int .u64 1])) w := by
  rw [add64 x y hx0 hx hy0 hy w, show (x + y) % 18446744073709551616 = x + y - 18446744073709551616 from by omega, show (x + y) / 18446744073709551616 = 1 from by omega]
theorem sub64_ge (x y : Int) (hx : x < 18446744073709551616) (hy0 : 0 ≤ y) (h : y ≤ x) (w : World) :
    (callFunc 114 #[.int .u64 x, .int .u64 y, .int .u64 0]).run Try.prog w = .ok (.value (.tuple #[.int .u64 (x - y), .int .u64 0])) w := by
  rw [sub64 x y (by omega) hx hy0 (by omega) w, show (x - y) % 18446744073709551616 = x - y from by omega, if_neg (by omega)]
theorem sub64_lt (x y : Int) (hx0 : 0 ≤ x) (hy : y < 18446744073709551616) (h : x < y) (w : World) :
    (callFunc 114 #[.int .u64 x, .int .u64 y, .int .u64 0]).run Try.prog w = .ok (.value (.tuple #[.int .u64 (x - y + 18446744073709551616), .int .u64 1])) w := by
  rw [sub64 x y hx0 (by omega) (by omega) hy w, show (x - y) % 18446744073709551616 = x - y + 18446744073709551616 from by omega, if_pos h]
set_option maxHeartbeats 800000 in
theorem gold_fold (hi lo : Int) (w : World) (ha0 : 0 ≤ hi) (ha : hi < 18446744073709551616) (hb0 : 0 ≤ lo) (hb : lo < 18446744073709551616) :
    Calls Try.prog 100 #[.int .u64 hi, .int .u64 lo] w fun e w' => e = .returned (.int .u64 ((hi * 18446744073709551616 + lo) % 18446744069414584321)) ∧ w = w' := by
  have m1 := and_low32 hi ha0 ha
  by_cases h1 : lo < hi / 4294967296
  · have e1 := sub64_lt lo (hi / 4294967296) hb0 (by omega) h1 w
    by_cases h2 : lo - hi / 4294967296 + 18446744073709551616 - 4294967295 + hi % 4294967296 * 4294967295 < 18446744073709551616
    · have e2 := add64_lt (lo - hi / 4294967296 + 18446744073709551616 - 4294967295) (hi % 4294967296 * 4294967295) (by omega) (by omega) h2 w
      go_enter Try.func100, Try.ntmps100
      go_wp2_with fail
      refine (gold_Red _ _ (by omega) (by omega)).mono ?_; rintro e w' ⟨rfl, rfl⟩
      go_wp2_with fail
      go_ret
      exact ⟨ret_int (by omega), rfl⟩
    · have e2 := add64_ge (lo - hi / 4294967296 + 18446744073709551616 - 4294967295) (hi % 4294967296 * 4294967295) (by omega) (by omega) (by omega) (by omega) (by omega) w
      go_enter Try.func100, Try.ntmps100
      go_wp2_with fail
      refine (gold_Red _ _ (by omega) (by omega)).mono ?_; rintro e w' ⟨rfl, rfl⟩
      go_wp2_with fail
      go_ret
      exact ⟨ret_int (by omega), rfl⟩
  · have e1 := sub64_ge lo (hi / 4294967296) hb (by omega) (by omega) w
    by_cases h2 : lo - hi / 4294967296 + hi % 4294967296 * 4294967295 < 18446744073709551616
    · have e2 := add64_lt (lo - hi / 4294967296) (hi % 4294967296 * 4294967295) (by omega) (by omega) h2 w
      go_enter Try.func100, Try.ntmps100
      go_wp2_with fail
      refine (gold_Red _ _ (by omega) (by omega)).mono ?_; rintro e w' ⟨rfl, rfl⟩
      go_wp2_with fail
      go_ret
      exact ⟨ret_int (by omega), rfl⟩
    · have e2 := add64_ge (lo - hi / 4294967296) (hi % 4294967296 * 4294967295) (by omega) (by omega) (by omega) (by omega) (by omega) w
      go_enter Try.func100, Try.ntmps100
      go_wp2_with fail
      refine (gold_Red _ _ (by omega) (by omega)).mono ?_; rintro e w' ⟨rfl, rfl⟩
      go_wp2_with fail
      go_ret
      exact ⟨ret_int (by omega), rfl⟩
end Go.Proofs.Ytcckfeikaolfgaa

namespace Go.Proofs.Ytcckfeikaolfgaa.Fld
/-- The prime. -/
def pn : Nat := 18446744069414584321
theorem pn_pos : 0 < pn := by decide
theorem pow_add_mod (a m n p : Nat) : a ^ (m + n) % p = (a ^ m % p) * (a ^ n % p) % p := by
  rw [Nat.pow_add, Nat.mul_mod]
theorem pow_mul_one (a b q p : Nat) (hp : 1 < p) (h : a ^ b % p = 1) : a ^ (b * q) % p = 1 := by
  rw [Nat.pow_mul, Nat.pow_mod, h]
  simp [Nat.mod_eq_of_lt hp]
theorem pow_mod_one (a m b p : Nat) (hp : 1 < p) (hb : a ^ b % p = 1) : a ^ (m % b) % p = a ^ m % p := by
  have e : m = b * (m / b) + m % b := (Nat.div_add_mod m b).symm
  have h : a ^ m % p = (a ^ (b * (m / b)) % p) * (a ^ (m % b) % p) % p := by
    rw [← pow_add_mod, ← e]
  rw [h, pow_mul_one a b _ p hp hb, Nat.one_mul, Nat.mod_mod]
theorem pow_gcd_one (a p : Nat) (hp : 1 < p) (m n : Nat) : a ^ m % p = 1 → a ^ n % p = 1 → a ^ (Nat.gcd m n) % p = 1 := by
  induction m, n using Nat.gcd.induction with
  | H0 n => intro _ h; simpa using h
  | H1 m n hm ih =>
    intro h1 h2
    rw [Nat.gcd_rec]
    exact ih (by rw [pow_mod_one a n m p hp h1]; exact h2) h1
/-- A power modulo p, by squares. -/
def pm (p : Nat) : Nat → Nat → Nat → Nat
  | 0, _, _ => 1 % p
  | f + 1, a, n => if n % 2 = 1 then (a * pm p f (a * a % p) (n / 2)) % p else pm p f (a * a % p) (n / 2)
theorem pm_eq (p : Nat) (f : Nat) : ∀ a n, n < 2 ^ f → pm p f a n = a ^ n % p := by
  induction f with
  | zero => intro a n h; have : n = 0 := by simpa using h
            subst this; simp [pm]
  | succ f ih =>
    intro a n h
    have h2 : n / 2 < 2 ^ f := by rw [Nat.pow_succ] at h; omega
    have e : (a * a % p) ^ (n / 2) % p = a ^ (2 * (n / 2)) % p := by
      rw [← Nat.pow_mod, Nat.pow_mul, Nat.pow_two]
    simp only [pm, ih _ _ h2, e]
    split
    · rename_i h1
      have e2 : n = 2 * (n / 2) + 1 := by omega
      rw [Nat.mul_mod_mod, ← Nat.pow_succ', Nat.succ_eq_add_one, ← e2]
    · rename_i h1
      have e2 : n = 2 * (n / 2) := by omega
      rw [← e2]
theorem dvd_small (q : Nat) (hq : q = 2 ∨ q = 3 ∨ q = 5 ∨ q = 17 ∨ q = 257 ∨ q = 65537) (m : Nat) : q ∣ m ∨ Nat.gcd m q = 1 := by
  have hd : Nat.gcd m q ∣ q := Nat.gcd_dvd_right m q
  have key : ∀ d, d ∣ q → d = 1 ∨ d = q := by
    intro d ⟨e, he⟩
    have hall : ∀ q ∈ [2, 3, 5, 17, 257, 65537], ∀ d ∈ List.range 257, d ≤ 1 ∨ d = q ∨ q % d ≠ 0 := by decide +kernel
    have hq' : q ∈ [2, 3, 5, 17, 257, 65537] := by simp; exact hq
    have hpos : 0 < q := by rcases hq with h | h | h | h | h | h <;> omega
    have d0 : d ≠ 0 := by rintro rfl; simp at he; omega
    have e0 : e ≠ 0 := by rintro rfl; simp at he; omega
    by_cases hd : d ≤ 256
    · rcases hall q hq' d (by simp; omega) with h | h | h
      · left; omega
      · right; exact h
      · exfalso; apply h; rw [he]; simp
    · by_cases he' : e ≤ 256
      · rcases hall q hq' e (by simp; omega) with h | h | h
        · have : e = 1 := by omega
          subst this; right; omega
        · have h3 : q * d = q * 1 := by rw [Nat.mul_comm q d, ← h, ← he]; omega
          have := Nat.eq_of_mul_eq_mul_left hpos h3
          left; exact this
        · exfalso; apply h; rw [he]; simp
      · exfalso
        have : 257 * 257 ≤ d * e := Nat.mul_le_mul (by omega) (by omega)
        rcases hq with h | h | h | h | h | h <;> omega
  rcases key _ hd with h | h
  · exact Or.inr h
  · exact Or.inl (h ▸ Nat.gcd_dvd_left m q)
theorem split_off (m a b : Nat) (h : m ∣ a * b) (hc : Nat.gcd m a = 1) : m ∣ b :=
  Nat.Coprime.dvd_of_dvd_mul_left (k := m) (m := a) (n := b) hc h
theorem gcd_pow_one (m a n : Nat) (h : Nat.gcd m a = 1) : Nat.gcd m (a ^ n) = 1 :=
  Nat.Coprime.pow_right n h
theorem seven (k : Nat) (h : 7 ^ k % pn = 1) : pn - 1 ∣ k := by
  have hp : 1 < pn := by decide
  have h1 : 7 ^ (pn - 1) % pn = 1 := by rw [← pm_eq pn 64 7 _ (by decide)]; decide +kernel
  have hg := pow_gcd_one 7 pn hp k (pn - 1) h h1
  obtain ⟨m, hm⟩ := Nat.gcd_dvd_right k (pn - 1)
  have hmd : m ∣ pn - 1 := ⟨Nat.gcd k (pn - 1), by rw [Nat.mul_comm]; exact hm⟩
  have no : ∀ q, (q = 2 ∨ q = 3 ∨ q = 5 ∨ q = 17 ∨ q = 257 ∨ q = 65537) → Nat.gcd m q = 1 := by
    intro q hq
    rcases dvd_small q hq m with ⟨c, hc⟩ | h'
    · exfalso
      have hq0 : 0 < q := by omega
      have e1 : (pn - 1) / q = Nat.gcd k (pn - 1) * c := by
        have : pn - 1 = q * (Nat.gcd k (pn - 1) * c) := by rw [← Nat.mul_assoc, Nat.mul_comm q, Nat.mul_assoc, ← hc]; exact hm
        rw [this, Nat.mul_div_cancel_left _ hq0, ← this]
      have e2 : 7 ^ ((pn - 1) / q) % pn = 1 := by rw [e1]; exact pow_mul_one _ _ _ _ hp hg
      rw [← pm_eq pn 64 7 _ (Nat.lt_of_le_of_lt (Nat.div_le_self _ _) (by decide))] at e2
      revert e2
      rcases hq with h | h | h | h | h | h <;> subst h <;> decide +kernel
    · exact h'
  have f : pn - 1 = 2 ^ 32 * (3 * (5 * (17 * (257 * (65537 * 1))))) := by decide +kernel
  rw [f] at hmd
  have m1 := split_off _ _ _ hmd (gcd_pow_one _ _ _ (no 2 (by simp)))
  have m2 := split_off _ _ _ m1 (no 3 (by simp))
  have m3 := split_off _ _ _ m2 (no 5 (by simp))
  have m4 := split_off _ _ _ m3 (no 17 (by simp))
  have m5 := split_off _ _ _ m4 (no 257 (by simp))
  have m6 := split_off _ _ _ m5 (no 65537 (by simp))
  have : m = 1 := Nat.dvd_one.1 m6
  rw [this, Nat.mul_one] at hm
  rw [hm]
  exact Nat.gcd_dvd_left k (pn - 1)
/-- Pigeons: what takes n places to n places, no two to one, meets each. -/
theorem onto (n : Nat) : ∀ f : Nat → Nat, (∀ i, i < n → f i < n) → (∀ i j, i < j → j < n → f i ≠ f j) → ∀ b, b < n → ∃ i, i < n ∧ f i = b := by
  induction n with
  | zero => intro f _ _ b hb; omega
  | succ n ih =>
    intro f hf hi b hb
    by_cases hlast : f n = b
    · exact ⟨n, by omega, hlast⟩
    · -- strike f n out of the places
      let t : Nat := f n
      let g : Nat → Nat := fun i => if f i < t then f i else f i - 1
      have ht : t < n + 1 := hf n (by omega)
      have hg : ∀ i, i < n → g i < n := by
        intro i hi'
        have h1 := hf i (by omega)
        have h2 := hi i n hi' (by omega)
        show (if f i < t then f i else f i - 1) < n
        have h3 : f i ≠ t := h2
        split <;> omega
      have hinj : ∀ i j, i < j → j < n → g i ≠ g j := by
        intro i j hij hj
        have h1 := hi i j hij (by omega)
        have h2 : f i ≠ t := hi i n (by omega) (by omega)
        have h3 : f j ≠ t := hi j n (by omega) (by omega)
        show (if f i < t then f i else f i - 1) ≠ (if f j < t then f j else f j - 1)
        split <;> split <;> omega
      have hbt : b ≠ t := fun e => hlast e.symm
      obtain ⟨i, hi1, hi2⟩ := ih g hg hinj (if b < t then b else b - 1) (by split <;> omega)
      refine ⟨i, by omega, ?_⟩
      have h2 : f i ≠ t := hi i n (by omega) (by omega)
      have h3 : (if f i < t then f i else f i - 1) = (if b < t then b else b - 1) := hi2
      revert h3
      split <;> split <;> omega
theorem seven_pow_ne_zero (k : Nat) : 7 ^ k % pn ≠ 0 := by
  have hp : 1 < pn := by decide
  have h1 : 7 ^ (pn - 1) % pn = 1 := by rw [← pm_eq pn 64 7 _ (by decide)]; decide +kernel
  intro h
  have h2 : 7 ^ ((pn - 1) * k) % pn = 1 := pow_mul_one _ _ _ _ hp h1
  have e : (pn - 1) * k = k + (pn - 2) * k := by
    have : pn - 1 = 1 + (pn - 2) := by decide
    rw [this, Nat.add_mul, Nat.one_mul]
  rw [e, pow_add_mod, h] at h2
  simp at h2
/-- Each number that P does not divide is a power of 7. -/
theorem power (a : Nat) (h : a % pn ≠ 0) : ∃ i, 7 ^ i % pn = a % pn := by
  have hp : 1 < pn := by decide
  have key := onto (pn - 1) (fun i => 7 ^ i % pn - 1) (fun i _ => by
      have := Nat.mod_lt (7 ^ i) pn_pos
      have := seven_pow_ne_zero i
      show 7 ^ i % pn - 1 < pn - 1
      omega) (fun i j hij hj => by
      show 7 ^ i % pn - 1 ≠ 7 ^ j % pn - 1
      have h1 := seven_pow_ne_zero i
      have h2 := seven_pow_ne_zero j
      intro e
      have e' : 7 ^ i % pn = 7 ^ j % pn := by omega
      -- 7 ^ (j - i) leaves 1
      have hone : 7 ^ (pn - 1) % pn = 1 := by rw [← pm_eq pn 64 7 _ (by decide)]; decide +kernel
      have c : 7 ^ (j - i) % pn = 1 := by
        have hA : 7 ^ ((pn - 1) * i - i + j) % pn = 7 ^ ((pn - 1) * i - i + i) % pn := by
          rw [pow_add_mod, ← e', ← pow_add_mod]
        have hle : i ≤ (pn - 1) * i := Nat.le_mul_of_pos_left i (by decide)
        have e1 : (pn - 1) * i - i + i = (pn - 1) * i := by omega
        have e2 : (pn - 1) * i - i + j = (pn - 1) * i + (j - i) := by omega
        rw [e1, e2, pow_add_mod, pow_mul_one _ _ _ _ hp hone, Nat.one_mul, Nat.mod_mod] at hA
        exact hA
      have hd := seven (j - i) c
      have := Nat.le_of_dvd (by omega) hd
      omega) (a % pn - 1) (by have := Nat.mod_lt a pn_pos; omega)
  obtain ⟨i, _, hi⟩ := key
  refine ⟨i, ?_⟩
  have := seven_pow_ne_zero i
  have hi' : 7 ^ i % pn - 1 = a % pn - 1 := hi
  omega
/-- Fermat's theorem at P. -/
theorem fermat (a : Nat) (h : a % pn ≠ 0) : a ^ (pn - 1) % pn = 1 := by
  have hp : 1 < pn := by decide
  have hone : 7 ^ (pn - 1) % pn = 1 := by rw [← pm_eq pn 64 7 _ (by decide)]; decide +kernel
  obtain ⟨i, hi⟩ := power a h
  rw [Nat.pow_mod, ← hi, ← Nat.pow_mod, ← Nat.pow_mul, Nat.mul_comm]
  exact pow_mul_one _ _ _ _ hp hone
end Go.Proofs.Ytcckfeikaolfgaa.Fld

namespace Go.Proofs.Ytcckfeikaolfgaa
open Go.RowKit
set_option linter.unusedVariables false
set_option linter.unusedSimpArgs false
set_option maxRecDepth 100000
set_option maxHeartbeats 1000000 in
theorem bits_Mul64 (x y : Nat) (hx : x < 18446744073709551616) (hy : y < 18446744073709551616) (w : World) :
    Calls Try.prog 99 #[.int .u64 x, .int .u64 y] w fun e w' => e = .returned (.tuple #[.int .u64 ((x * y / 18446744073709551616 : Nat) : Int), .int .u64 ((x * y % 18446744073709551616 : Nat) : Int)]) ∧ w = w' := by
  obtain ⟨bd, bt, bw, hhi⟩ := Lib.mul64_hi x y hx hy
  have ba := Lib.half_mul_le (a := x / 4294967296) (b := y / 4294967296) (by omega) (by omega)
  have bb := Lib.half_mul_le (a := x / 4294967296) (b := y % 4294967296) (by omega) (by omega)
  have bc := Lib.half_mul_le (a := x % 4294967296) (b := y / 4294967296) (by omega) (by omega)
  have ba' : x / 4294967296 * (y / 4294967296) < 18446744073709551616 := by omega
  have bb' : x / 4294967296 * (y % 4294967296) < 18446744073709551616 := by omega
  have bc' : x % 4294967296 * (y / 4294967296) < 18446744073709551616 := by omega
  have bh1 : x / 4294967296 * (y / 4294967296) + (x / 4294967296 * (y % 4294967296) + x % 4294967296 * (y % 4294967296) / 4294967296) / 4294967296 < 18446744073709551616 := by omega
  have bh : x / 4294967296 * (y / 4294967296) + (x / 4294967296 * (y % 4294967296) + x % 4294967296 * (y % 4294967296) / 4294967296) / 4294967296 + ((x / 4294967296 * (y % 4294967296) + x % 4294967296 * (y % 4294967296) / 4294967296) % 4294967296 + x % 4294967296 * (y / 4294967296)) / 4294967296 < 18446744073709551616 := by omega
  go_enter Try.func99, Try.ntmps99
  go_wp2
  simp only [Go.Proofs.Mul64.maskN x hx, Go.Proofs.Mul64.maskN y hy, Go.Proofs.Mul64.divN, Go.Proofs.Mul64.mulN, Go.Proofs.Mul64.addN, Go.Proofs.Mul64.wrapN _ bd, Go.Proofs.Mul64.wrapN _ bb', Go.Proofs.Mul64.wrapN _ bt, Go.Proofs.Mul64.maskN _ bt, Go.Proofs.Mul64.wrapN _ bc', Go.Proofs.Mul64.wrapN _ bw, Go.Proofs.Mul64.wrapN _ ba', Go.Proofs.Mul64.wrapN _ bh1, Go.Proofs.Mul64.wrapN _ bh, Go.Proofs.Mul64.wrapM (x * y)]
  rw [hhi]
  go_ret2
  exact ⟨rfl, rfl⟩
theorem mul64_any (x y : Int) (w : World) (hx0 : 0 ≤ x) (hx : x < 18446744073709551616) (hy0 : 0 ≤ y) (hy : y < 18446744073709551616) :
    Calls Try.prog 99 #[.int .u64 x, .int .u64 y] w fun e w' => e = .returned (.tuple #[.int .u64 (x * y / 18446744073709551616), .int .u64 (x * y % 18446744073709551616)]) ∧ w = w' := by
  obtain ⟨a, rfl⟩ := Int.eq_ofNat_of_zero_le hx0
  obtain ⟨b, rfl⟩ := Int.eq_ofNat_of_zero_le hy0
  refine (bits_Mul64 a b (by omega) (by omega) w).mono fun e w' ⟨he, hw⟩ => ⟨?_, hw⟩
  rw [he]
  simp only [Int.natCast_ediv, Int.natCast_emod, Int.natCast_mul]
  rfl
theorem mul_lt (x y : Int) (hx0 : 0 ≤ x) (hx : x < 18446744073709551616) (hy0 : 0 ≤ y) (hy : y < 18446744073709551616) : 0 ≤ x * y ∧ x * y < 18446744073709551616 * 18446744073709551616 :=
  ⟨Int.mul_nonneg hx0 hy0, Int.lt_of_le_of_lt (Int.mul_le_mul_of_nonneg_right (by omega : x ≤ 18446744073709551616) hy0) (Int.mul_lt_mul_of_pos_left hy (by omega))⟩
set_option maxHeartbeats 400000 in
theorem gold_Mul (a b : Int) (w : World) (ha0 : 0 ≤ a) (ha : a < 18446744073709551616) (hb0 : 0 ≤ b) (hb : b < 18446744073709551616) :
    Calls Try.prog 85 #[.int .u64 a, .int .u64 b] w fun e w' => e = .returned (.int .u64 (a * b % 18446744069414584321)) ∧ w = w' := by
  obtain ⟨m0, m1⟩ := mul_lt a b ha0 ha hb0 hb
  go_enter Try.func85, Try.ntmps85
  go_wp2_with fail
  refine (mul64_any a b _ ha0 ha hb0 hb).mono ?_; rintro e w' ⟨rfl, rfl⟩
  go_wp2_with fail
  refine (gold_fold _ _ _ (by omega) (by omega) (by omega) (by omega)).mono ?_; rintro e w' ⟨rfl, rfl⟩
  go_wp2_with fail
  go_ret
  exact ⟨ret_int (by omega), rfl⟩
/-- A power, modulo P. (Irreducible: else a tactic that brings terms to head form would reckon it.) -/
@[irreducible] def pw (a : Int) (n : Nat) : Int := a ^ n % 18446744069414584321
theorem pw_range (a : Int) (n : Nat) : 0 ≤ pw a n ∧ pw a n < 18446744069414584321 := by
  unfold pw; omega
theorem modmul_l (a b p : Int) : (a % p) * b % p = a * b % p := by rw [Int.mul_emod, Int.emod_emod, ← Int.mul_emod]
theorem modmul_r (a b p : Int) : a * (b % p) % p = a * b % p := by rw [Int.mul_emod, Int.emod_emod, ← Int.mul_emod]
theorem modpow (a p : Int) (n : Nat) : (a % p) ^ n % p = a ^ n % p := by
  induction n with
  | zero => simp
  | succ n ih => rw [Int.pow_succ, Int.pow_succ, modmul_r, ← modmul_l, ih, modmul_l]
theorem pow_step0 (p a : Int) (m : Nat) (h : m % 2 = 0) : p * (a * a % 18446744069414584321) ^ (m / 2) % 18446744069414584321 = p * a ^ m % 18446744069414584321 := by
  have e : a ^ m = (a * a) ^ (m / 2) := by
    rw [show a * a = a ^ 2 from by rw [Int.pow_succ, Int.pow_succ, Int.pow_zero, Int.one_mul], ← Int.pow_mul, show 2 * (m / 2) = m from by omega]
  rw [e, ← modmul_r, modpow, modmul_r]
theorem pow_step1 (p a : Int) (m : Nat) (h : m % 2 = 1) : (p * a % 18446744069414584321) * (a * a % 18446744069414584321) ^ (m / 2) % 18446744069414584321 = p * a ^ m % 18446744069414584321 := by
  have h2 := pow_step0 (p * a % 18446744069414584321) a (m - 1) (by omega)
  rw [show (m - 1) / 2 = m / 2 from by omega] at h2
  rw [h2, modmul_l]
  rw [Int.mul_assoc, ← Int.pow_succ', show m - 1 + 1 = m from by omega]
set_option maxHeartbeats 400000 in
theorem gold_Pow (a n : Int) (w : World) (ha0 : 0 ≤ a) (ha : a < 18446744073709551616) (hn0 : 0 ≤ n) (hn : n < 18446744073709551616) :
    Calls Try.prog 109 #[.int .u64 a, .int .u64 n] w fun e w' => e = .returned (.int .u64 (pw a n.toNat)) ∧ w = w' := by
  go_enter Try.func109, Try.ntmps109
  go_wp2_with fail
  refine (gold_Red a _ ha0 ha).mono ?_; rintro e w' ⟨rfl, rfl⟩
  go_wp2_with fail
  go_loop [5, 0, 1] (fun v5 v0 v1 => ∃ p b m : Int, v5 = .int .u64 p ∧ v0 = .int .u64 b ∧ v1 = .int .u64 m ∧ 0 ≤ p ∧ p < 18446744069414584321 ∧ 0 ≤ b ∧ b < 18446744069414584321 ∧ 0 ≤ m ∧ m < 18446744073709551616 ∧ Hid (p * b ^ m.toNat % 18446744069414584321 = pw a n.toNat)) (fun v5 v0 v1 => (intOf v1).toNat)
  case atStart =>
    refine ⟨1, a % 18446744069414584321, n, rfl, rfl, rfl, by omega, by omega, by omega, by omega, hn0, hn, ?_⟩
    unfold Hid pw
    rw [Int.one_mul, modpow]
  case round =>
    obtain ⟨p, b, m, rfl, rfl, rfl, hp0, hp, hb0, hb, hm0, hm, H⟩ := hrel
    by_cases h0 : 0 < m
    · have ha := and_one_u64 m (by omega) (by omega)
      have hs : IntKind.u64.wrap (m / 2) = m / 2 := by rw [IntKind.wrap_u64]; omega
      by_cases h1 : m % 2 = 1
      · have hb1 : (m % 2 == 1) = true := by rw [beq_iff_eq]; exact h1
        have H1 := Lib.hid h1; clear h1
        go_wp2_with fail
        refine (gold_Mul p b _ (by omega) (by omega) (by omega) (by omega)).mono ?_; rintro e w' ⟨rfl, rfl⟩
        go_wp2_with fail
        refine (gold_Mul b b _ (by omega) (by omega) (by omega) (by omega)).mono ?_; rintro e w' ⟨rfl, rfl⟩
        go_wp2_with fail
        go_round
        case rel =>
          refine ⟨p * b % 18446744069414584321, b * b % 18446744069414584321, m / 2, rfl, rfl, rfl, by omega, by omega, by omega, by omega, by omega, by omega, ?_⟩
          unfold Hid
          have e1 : (m / 2).toNat = m.toNat / 2 := by omega
          have h1 := H1.out
          rw [e1, pow_step1 _ _ _ (by omega)]; exact H.out
        case measure => simp [intOf]; omega
      · have hb1 : (m % 2 == 1) = false := by rw [beq_eq_false_iff_ne]; exact h1
        have H1 := Lib.hid h1; clear h1
        go_wp2_with fail
        refine (gold_Mul b b _ (by omega) (by omega) (by omega) (by omega)).mono ?_; rintro e w' ⟨rfl, rfl⟩
        go_wp2_with fail
        go_round
        case rel =>
          refine ⟨p, b * b % 18446744069414584321, m / 2, rfl, rfl, rfl, by omega, by omega, by omega, by omega, by omega, by omega, ?_⟩
          unfold Hid
          have e1 : (m / 2).toNat = m.toNat / 2 := by omega
          have h1 := H1.out
          rw [e1, pow_step0 _ _ _ (by omega)]; exact H.out
        case measure => simp [intOf]; omega
    · go_wp2_with fail
      go_ret
      refine ⟨ret_int ?_, rfl⟩
      have h := H.out
      rw [show m.toNat = 0 from by omega, Int.pow_zero, Int.mul_one] at h
      omega
theorem gold_Inv (a : Int) (w : World) (ha0 : 0 ≤ a) (ha : a < 18446744073709551616) :
    Calls Try.prog 110 #[.int .u64 a] w fun e w' => e = .returned (.int .u64 (pw a 18446744069414584319)) ∧ w = w' := by
  go_enter Try.func110, Try.ntmps110
  go_wp2_with fail
  refine (gold_Pow a _ _ ha0 ha (by omega) (by omega)).mono ?_; rintro e w' ⟨rfl, rfl⟩
  go_wp2_with fail
  go_ret
  exact ⟨rfl, rfl⟩
end Go.Proofs.Ytcckfeikaolfgaa

namespace Go.Proofs.Ytcckfeikaolfgaa
open Go.RowKit
set_option linter.unusedVariables false
set_option linter.unusedSimpArgs false
set_option maxRecDepth 100000
theorem ref_Red (a : Int) (w : World) (h0 : 0 ≤ a) (h1 : a < 18446744073709551616) :
    Calls Try.prog 82 #[.int .u64 a] w fun e w' => e = .returned (.int .u64 (a % 18446744069414584321)) ∧ w = w' := by
  go_enter Try.func82, Try.ntmps82
  go_wp2_with fail
  go_ret
  exact ⟨rfl, rfl⟩
theorem ref_Add (a b : Int) (w : World) (ha0 : 0 ≤ a) (ha : a < 18446744069414584321) (hb0 : 0 ≤ b) (hb : b < 18446744069414584321) :
    Calls Try.prog 81 #[.int .u64 a, .int .u64 b] w fun e w' => e = .returned (.int .u64 ((a + b) % 18446744069414584321)) ∧ w = w' := by
  by_cases h : 18446744069414584321 - b ≤ a
  all_goals
    go_enter Try.func81, Try.ntmps81
    go_wp2_with fail
    go_ret
    exact ⟨ret_int (by omega), rfl⟩
/-- One bit more of a number. -/
theorem bit_step (a : Int) (j : Nat) : a / 2 ^ j = 2 * (a / 2 ^ (j + 1)) + a / 2 ^ j % 2 := by
  rw [Int.pow_succ, ← Int.ediv_ediv_of_nonneg (Int.le_of_lt (Int.pow_pos (by omega)))]; omega
theorem div_pow64 (a : Int) (h0 : 0 ≤ a) (h : a < 18446744073709551616) : a / 2 ^ 64 = 0 := Int.ediv_eq_zero_of_lt h0 h
theorem div_pow_nonneg (a : Int) (j : Nat) (h0 : 0 ≤ a) : 0 ≤ a / 2 ^ j := Int.ediv_nonneg h0 (Int.le_of_lt (Int.pow_pos (by omega)))
set_option maxHeartbeats 400000 in
theorem ref_Mul (a b : Int) (w : World) (ha0 : 0 ≤ a) (ha : a < 18446744073709551616) (hb0 : 0 ≤ b) (hb : b < 18446744069414584321) :
    Calls Try.prog 79 #[.int .u64 a, .int .u64 b] w fun e w' => e = .returned (.int .u64 (a * b % 18446744069414584321)) ∧ w = w' := by
  go_enter Try.func79, Try.ntmps79
  go_wp2_with fail
  go_loop [5, 6] (fun s i => ∃ (k : Nat) (t : Int), k ≤ 64 ∧ 0 ≤ t ∧ t < 18446744069414584321 ∧ i = .int .i64 ((k : Int) - 1) ∧ s = .int .u64 t ∧ Hid (t = a / 2 ^ k * b % 18446744069414584321)) (fun _ i => (intOf i + 1).toNat)
  case atStart => exact ⟨64, 0, by omega, by omega, by omega, rfl, rfl, by unfold Hid; rw [div_pow64 a ha0 ha]; simp⟩
  case round =>
    obtain ⟨k, t, hk, ht0, ht, rfl, rfl, H⟩ := hrel
    by_cases h0 : 1 ≤ k
    · obtain ⟨j, rfl⟩ : ∃ j, k = j + 1 := ⟨k - 1, by omega⟩
      have hd := div_pow_nonneg a j ha0
      have hbs := Lib.hid (bit_step a j)
      by_cases h1 : a / 2 ^ j % 2 = 1
      · have hb1 : (a / 2 ^ j % 2 == 1) = true := by rw [beq_iff_eq]; exact h1
        have H1 := Lib.hid h1; clear h1
        go_wp2_with fail
        refine (ref_Add t t _ (by omega) (by omega) (by omega) (by omega)).mono ?_; rintro e w' ⟨rfl, rfl⟩
        go_wp2_with fail
        refine (ref_Add _ b _ (by omega) (by omega) (by omega) (by omega)).mono ?_; rintro e w' ⟨rfl, rfl⟩
        go_wp2_with fail
        go_round
        case rel =>
          refine ⟨j, _, by omega, ?_, ?_, by go_num, rfl, ?_⟩
          · omega
          · omega
          · have e := hbs.out; have e2 := H1.out; have e3 := H.out
            unfold Hid
            rw [e, e2, e3]
            generalize a / 2 ^ (j + 1) = q
            rw [show (2 * q + 1) * b = q * b + q * b + b from by rw [Int.add_mul, Int.two_mul, Int.add_mul, Int.one_mul]]
            generalize q * b = z
            omega
        case measure => simp [intOf]
      · have hb1 : (a / 2 ^ j % 2 == 1) = false := by rw [beq_eq_false_iff_ne]; exact h1
        have h2 : a / 2 ^ j % 2 = 0 := by omega
        have H1 := Lib.hid h2; clear h1 h2
        go_wp2_with fail
        refine (ref_Add t t _ (by omega) (by omega) (by omega) (by omega)).mono ?_; rintro e w' ⟨rfl, rfl⟩
        go_wp2_with fail
        go_round
        case rel =>
          refine ⟨j, _, by omega, ?_, ?_, by go_num, rfl, ?_⟩
          · omega
          · omega
          · have e := hbs.out; have e2 := H1.out; have e3 := H.out
            unfold Hid
            rw [e, e2, e3]
            generalize a / 2 ^ (j + 1) = q
            rw [show (2 * q + 0) * b = q * b + q * b from by rw [Int.add_zero, Int.two_mul, Int.add_mul]]
            generalize q * b = z
            omega
        case measure => simp [intOf]
    · obtain rfl : k = 0 := by omega
      go_wp2_with fail
      go_ret
      exact ⟨ret_int (by rw [H.out]; simp), rfl⟩
theorem pow_bit (a n : Int) (j : Nat) (h0 : 0 ≤ n) : (n / 2 ^ j).toNat = 2 * (n / 2 ^ (j + 1)).toNat + (n / 2 ^ j % 2).toNat := by
  have := bit_step n j
  have := div_pow_nonneg n j h0
  have := div_pow_nonneg n (j + 1) h0
  omega
set_option maxHeartbeats 400000 in
theorem ref_Pow (a n : Int) (w : World) (ha0 : 0 ≤ a) (ha : a < 18446744069414584321) (hn0 : 0 ≤ n) (hn : n < 18446744073709551616) :
    Calls Try.prog 46 #[.int .u64 a, .int .u64 n] w fun e w' => e = .returned (.int .u64 (pw a n.toNat)) ∧ w = w' := by
  go_enter Try.func46, Try.ntmps46
  go_wp2_with fail
  go_loop [5, 6] (fun s i => ∃ (k : Nat) (t : Int), k ≤ 64 ∧ 0 ≤ t ∧ t < 18446744069414584321 ∧ i = .int .i64 ((k : Int) - 1) ∧ s = .int .u64 t ∧ Hid (t = pw a (n / 2 ^ k).toNat)) (fun _ i => (intOf i + 1).toNat)
  case atStart => exact ⟨64, 1, by omega, by omega, by omega, rfl, rfl, by unfold Hid; rw [div_pow64 n hn0 hn]; simp [pw]⟩
  case round =>
    obtain ⟨k, t, hk, ht0, ht, rfl, rfl, H⟩ := hrel
    by_cases h0 : 1 ≤ k
    · obtain ⟨j, rfl⟩ : ∃ j, k = j + 1 := ⟨k - 1, by omega⟩
      have hd := div_pow_nonneg n j hn0
      have hbs := Lib.hid (pow_bit a n j hn0)
      by_cases h1 : n / 2 ^ j % 2 = 1
      · have hb1 : (n / 2 ^ j % 2 == 1) = true := by rw [beq_iff_eq]; exact h1
        have H1 := Lib.hid h1; clear h1
        go_wp2_with fail
        refine (ref_Mul t t _ (by omega) (by omega) (by omega) (by omega)).mono ?_; rintro e w' ⟨rfl, rfl⟩
        go_wp2_with fail
        refine (ref_Mul _ a _ (by omega) (by omega) (by omega) (by omega)).mono ?_; rintro e w' ⟨rfl, rfl⟩
        go_wp2_with fail
        go_round
        case rel =>
          refine ⟨j, _, by omega, ?_, ?_, by go_num, rfl, ?_⟩
          · omega
          · omega
          · have e := hbs.out; have e2 := H1.out; have e3 := H.out
            unfold Hid
            rw [e, e2, e3]
            unfold pw
            generalize (n / 2 ^ (j + 1)).toNat = q
            rw [show (1 : Int).toNat = 1 from rfl, Int.pow_succ, Nat.two_mul, Int.pow_add, modmul_l, ← modmul_l, ← modmul_l (a ^ q * a ^ q), modmul_l (a ^ q), modmul_r (a ^ q)]
        case measure => simp [intOf]
      · have hb1 : (n / 2 ^ j % 2 == 1) = false := by rw [beq_eq_false_iff_ne]; exact h1
        have h2 : n / 2 ^ j % 2 = 0 := by omega
        have H1 := Lib.hid h2; clear h1 h2
        go_wp2_with fail
        refine (ref_Mul t t _ (by omega) (by omega) (by omega) (by omega)).mono ?_; rintro e w' ⟨rfl, rfl⟩
        go_wp2_with fail
        go_round
        case rel =>
          refine ⟨j, _, by omega, ?_, ?_, by go_num, rfl, ?_⟩
          · omega
          · omega
          · have e := hbs.out; have e2 := H1.out; have e3 := H.out
            unfold Hid
            rw [e, e2, e3]
            unfold pw
            generalize (n / 2 ^ (j + 1)).toNat = q
            rw [show (0 : Int).toNat = 0 from rfl, Nat.add_zero, Nat.two_mul, Int.pow_add, modmul_l, modmul_r]
        case measure => simp [intOf]
    · obtain rfl : k = 0 := by omega
      go_wp2_with fail
      go_ret
      exact ⟨ret_int (by rw [H.out]; simp), rfl⟩
set_option maxHeartbeats 400000 in
/-- Two rows: are they the same? -/
theorem ref_Same (a b : Option Addr) (ca cb : Nat) (xs ys : List Int) (w : World) (hx : Row .u64 w a xs) (hy : Row .u64 w b ys) :
    Calls Try.prog 13 #[.slice a xs.length ca, .slice b ys.length cb] w fun e w' => e = .returned (.bool (decide (xs = ys))) ∧ Below w.heap.size w w' := by
  have hlx := hx.len
  have hly := hy.len
  by_cases hl : xs.length = ys.length
  · have HL := Lib.hid hl
    have HX := Lib.hid hx
    have HY := Lib.hid hy
    have hne : ((xs.length : Int) != (ys.length : Int)) = false := by simp [hl]
    clear hx hy hl
    go_enter Try.func13, Try.ntmps13
    go_wp2_with fail
    go_loopw [5] (fun i wr => ∃ k : Nat, k ≤ xs.length ∧ i = .int .i64 k ∧ Below w.heap.size w wr ∧ Hid (∀ j, j < k → nth xs j = nth ys j)) (fun i _ => xs.length - (intOf i).toNat)
    case atStart => exact ⟨0, Nat.zero_le _, rfl, Below.refl _ _, fun j hj => by omega⟩
    case round =>
      obtain ⟨k, hk, rfl, hb, H⟩ := hrel
      by_cases hlt : k < xs.length
      · have hlt' : k < ys.length := by have := HL.out; omega
        have i1 : (0 : Int) ≤ (k : Int) := by omega
        have i2 : (k : Int) < (xs.length : Int) := by omega
        have i3 : (k : Int) < (ys.length : Int) := by omega
        obtain ⟨b1, o1, rfl, hc1⟩ := (HX.out.below hb).at (by omega)
        obtain ⟨b2, o2, rfl, hc2⟩ := (HY.out.below hb).at (by omega)
        have h1 := hc1 k hlt
        have h2 := hc2 k hlt'
        clear hc1 hc2
        by_cases he : nth xs k = nth ys k
        · have hbe : (nth xs k != nth ys k) = false := by simp [he]
          have HE := Lib.hid he
          clear he
          go_wp2_with fail
          go_quiet (fail)
          go_wp2_with fail
          go_roundw
          case rel =>
            refine ⟨k + 1, by omega, by go_num, by first | exact below_drewN hb _ | exact hb.drew, ?_⟩
            intro j hj
            by_cases hjk : j < k
            · exact H.out j hjk
            · obtain rfl : j = k := by omega
              exact HE.out
          case measure => simp [intOf]; omega
        · have hbe : (nth xs k != nth ys k) = true := by simp [he]
          have HE : Hid (xs ≠ ys) := by
            intro h; apply he; rw [h]
          clear he
          go_wp2_with fail
          go_quiet (fail)
          go_wp2_with fail
          go_ret
          exact ⟨ret_bool (by have := HE.out; simp [this]), by first | exact below_drewN hb _ | exact hb.drew⟩
      · go_wp2_with fail
        go_ret
        have : xs = ys := ext_nth HL.out (fun i hi => H.out i (by omega))
        exact ⟨ret_bool (by simp [this]), hb⟩
  · have HL := Lib.hid hl
    have hne : ((xs.length : Int) != (ys.length : Int)) = true := by simp; omega
    have : xs ≠ ys := fun h => hl (by rw [h])
    have HE := Lib.hid this
    clear this hl hx hy
    go_enter Try.func13, Try.ntmps13
    go_wp2_with fail
    go_ret
    exact ⟨ret_bool (by have := HE.out; simp [this]), Below.refl _ _⟩
end Go.Proofs.Ytcckfeikaolfgaa

namespace Go.Proofs.Ytcckfeikaolfgaa
open Go.RowKit
set_option linter.unusedVariables false
set_option linter.unusedSimpArgs false
set_option maxRecDepth 100000
theorem fermat_int (n e p : Nat) (q : Int) (hq : (p : Int) = q) (h : n ^ e % p = 1) : (n : Int) ^ e % q = 1 := by
  have h3 : ((n ^ e % p : Nat) : Int) = 1 := by rw [h]; rfl
  rw [Int.natCast_emod, Int.natCast_pow, hq] at h3
  exact h3
theorem pn_sub : Fld.pn - 1 = 18446744069414584320 := rfl
/-- Fermat's theorem over the integers. -/
theorem fermatZ (a : Int) (h0 : 0 ≤ a) (h : a % 18446744069414584321 ≠ 0) : pw a 18446744069414584320 = 1 := by
  obtain ⟨n, rfl⟩ := Int.eq_ofNat_of_zero_le h0
  have h1 : n % Fld.pn ≠ 0 := by
    unfold Fld.pn; omega
  have h2 := Fld.fermat n h1
  rw [pn_sub] at h2
  unfold pw
  exact fermat_int n _ Fld.pn _ rfl h2
theorem pw_inv (a : Int) (h0 : 0 ≤ a) (h : a % 18446744069414584321 ≠ 0) : a * pw a 18446744069414584319 % 18446744069414584321 = 1 := by
  have h1 := fermatZ a h0 h
  unfold pw at *
  rw [modmul_r, ← Int.pow_succ']
  exact h1
end Go.Proofs.Ytcckfeikaolfgaa

namespace Go.Proofs.Ytcckfeikaolfgaa
open Go.RowKit
set_option linter.unusedVariables false
set_option linter.unusedSimpArgs false
set_option maxRecDepth 100000
set_option maxHeartbeats 400000 in
theorem vec_each (n : Nat) (g : Nat → Int) (fid : Nat) (caps : Array Value) (w : World) (hn : n ≤ 16777216) (hg : ∀ i, i < n → fits .u64 (g i)) 
    (hent : ∀ args w, (callFunc fid args).run Try.prog w = .ok (.enter fid args) w)
    (hf : ∀ (i : Nat) (wr : World), i < n → Below w.heap.size w wr → Calls Try.prog fid (#[.int .i64 i] ++ caps) wr fun e w' => e = .returned (.int .u64 (g i)) ∧ Below wr.heap.size wr w') :
    Calls Try.prog 75 #[.int .i64 n, .func (.func fid) #[] caps] w (GivesRow .u64 ((List.range n).map g) w) := by
  obtain ⟨i0, hi, hz0, hz1, hz2⟩ := info_parts info_u64
  have HF := Lib.hid hf
  have HG := Lib.hid hg
  clear hf hg
  go_enter Try.func75, Try.ntmps75
  go_wp2_with (at_make; refine wpList_make_full _ rfl _ _ 25 rfl w.heap.size 34 i0 (.int .u64 0) 1 Try.underlying25 hi hz0 hz1 .i64 .i64 n n n rfl rfl rfl rfl (by rw [hz2]; omega) (by unfold maxLen; omega) (Nat.le_refl _) ?_)
  intro w1 hown0 hgrow0
  have hown := Own.made hown0 hgrow0
  clear hown0 hgrow0
  go_wp2_with fail
  go_loopw [11] (fun i wr => ∃ k : Nat, k ≤ n ∧ i = .int .i64 k ∧ OwnAt .u64 34 w wr w.heap.size n (fun j => if j < k then g j else 0)) (fun i _ => n - (intOf i).toNat)
  case atStart => exact ⟨0, Nat.zero_le _, rfl, by simpa using hown⟩
  case round =>
    obtain ⟨k, hk, rfl, hown⟩ := hrel
    by_cases hlt : k < n
    · have hcall := HF.out k wr hlt hown.below
      go_wp2_with fail
      refine hcall.mono ?_
      rintro e w' ⟨rfl, hb'⟩
      have hown2 := hown.later hb'
      have hc := hown2.cell k hlt
      rw [if_neg (Nat.lt_irrefl k)] at hc
      have hfz := hown2.free k
      have hnext := hown2.store k hlt (g k) (f' := fun j => if j < k + 1 then g j else 0) (by simp) (fun j _ hj => by
        by_cases h1 : j < k
        · simp [h1, show j < k + 1 by omega]
        · simp [h1, show ¬ j < k + 1 by omega])
      have HN := Lib.hid hnext
      clear hnext hcall hown hown2 hb'
      go_wp2_with fail
      go_roundw
      case rel => exact ⟨k + 1, by omega, by go_num, HN.out⟩
      case measure => simp [intOf]; omega
    · have hres := hown.gives (xs := (List.range n).map g) (by simp) (fun x hx => by obtain ⟨i, hi, rfl⟩ := List.mem_map.1 hx; exact HG.out i (by simpa using hi)) (fun i hi => by rw [nth_ofFn _ _ _ hi, if_pos (by omega)]) hn
      clear hown
      go_wp2_with fail
      go_ret
      exact hres
theorem modfits (f : Nat → Int) {n : Nat} : ∀ i, i < n → fits .u64 (f i % 18446744069414584321) := fun i _ => fits_u64.2 (by omega)
set_option maxHeartbeats 400000 in
theorem vec_Red1 (i : Nat) (a : Option Addr) (cap : Nat) (xs : List Int) (p : Nat) (w : World) (hi : i < xs.length) (hc : w.cell? ⟨p, 0, none⟩ = some (.slice a xs.length cap)) (hx : Row .u64 w a xs) :
    Calls Try.prog 76 #[.int .i64 i, .pointer (some ⟨p, 0, none⟩)] w fun e w' => e = .returned (.int .u64 (nth xs i % 18446744069414584321)) ∧ w = w' := by
  have hl := hx.len
  obtain ⟨b, off, rfl, hcs⟩ := hx.at (by omega)
  have hck := hcs i hi
  have hf := fits_u64.1 (hx.wf _ (nth_mem hi))
  clear hcs hx
  go_enter Try.func76, Try.ntmps76
  go_wp2_with (first | (go_at_call 54; refine (gold_Red _ _ (by omega) (by omega)).mono ?_; rintro e w' ⟨rfl, rfl⟩))
  go_ret
  exact ⟨rfl, rfl⟩
set_option maxHeartbeats 400000 in
theorem vec_Red (a : Option Addr) (cap : Nat) (xs : List Int) (w : World) (hx : Row .u64 w a xs) (hl : xs.length ≤ 16777216) :
    Calls Try.prog 43 #[.slice a xs.length cap] w (GivesRow .u64 (xs.map (· % 18446744069414584321)) w) := by
  have hent : ∀ args w, (callFunc 76 args).run Try.prog w = .ok (.enter 76 args) w := enters_of Try.func76 (by kernel_rfl) rfl
  have HX : Hid (Row .u64 w a xs) := hx
  clear hx
  have hc0 := one_new w (.slice a xs.length cap) 25
  have hf : ∀ (i : Nat) (wr : World), i < xs.length → Below (w.alloc (.cells #[.slice a xs.length cap] 25)).heap.size (w.alloc (.cells #[.slice a xs.length cap] 25)) wr →
      Calls Try.prog 76 (#[.int .i64 i] ++ #[.pointer (some ⟨w.heap.size, 0, none⟩)]) wr fun e w' => e = .returned (.int .u64 (nth xs i % 18446744069414584321)) ∧ Below wr.heap.size wr w' :=
    fun i wr hi hb => (vec_Red1 i a cap xs w.heap.size wr hi (by rw [hb.cell (by simp)]; exact hc0) ((HX.out.below ((Below.refl _ _).alloc (Nat.le_refl _) _)).below hb)).mono fun e w' ⟨he, hw⟩ => ⟨he, hw ▸ Below.refl _ _⟩
  have HF := Lib.hid hf
  clear hf
  go_enter Try.func43, Try.ntmps43
  go_wp2_with fail
  refine (vec_each xs.length (fun i => nth xs i % 18446744069414584321) _ _ _ hl (modfits _) hent (HF.out)).mono ?_
  rintro e w' ⟨a', cap', rfl, hr, hnil, hb⟩
  go_wp2_with fail
  go_ret
  exact ⟨a', cap', by simp, by rw [map_nth]; exact hr, by simpa using hnil, ((Below.refl _ _).alloc (Nat.le_refl _) _).trans (hb.mono (by simp))⟩
/-- Place i of a row of n, backwards. -/
def revAt (n i : Nat) : Nat := (n - i) % n
theorem revAt_lt {n i : Nat} (h : i < n) : revAt n i < n := Nat.mod_lt _ (by omega)
theorem revAt_int {n i : Nat} (h : i < n) : ((n : Int) - (i : Int)).tmod (n : Int) = (revAt n i : Nat) := by
  unfold revAt
  rw [Int.tmod_eq_emod_of_nonneg (by omega), Int.natCast_emod]
  congr 1
  omega
end Go.Proofs.Ytcckfeikaolfgaa

namespace Go.Proofs.Ytcckfeikaolfgaa
open Go.RowKit
set_option linter.unusedVariables false
set_option linter.unusedSimpArgs false
set_option maxRecDepth 100000
def revL (xs : List Int) : List Int := (List.range xs.length).map fun i => nth xs (revAt xs.length i) % 18446744069414584321
theorem revL_len (xs : List Int) : (revL xs).length = xs.length := by simp [revL]
theorem ref_SameN (a b : Option Addr) (n m ca cb : Nat) (xs ys : List Int) (w : World) (hx : Row .u64 w a xs) (hy : Row .u64 w b ys) (hn : xs.length = n) (hm : ys.length = m) :
    Calls Try.prog 13 #[.slice a n ca, .slice b m cb] w fun e w' => e = .returned (.bool (decide (xs = ys))) ∧ Below w.heap.size w w' := by
  subst hn hm; exact ref_Same a b ca cb xs ys w hx hy
/-- Two rows that are the same. -/
theorem ref_SameT (a b : Option Addr) (n m ca cb : Nat) (xs ys : List Int) (w : World) (hx : Row .u64 w a xs) (hy : Row .u64 w b ys) (hn : xs.length = n) (hm : ys.length = m) (h : xs = ys) :
    Calls Try.prog 13 #[.slice a n ca, .slice b m cb] w fun e w' => e = .returned (.bool true) ∧ Below w.heap.size w w' :=
  (ref_SameN a b n m ca cb xs ys w hx hy hn hm).mono fun e w' ⟨he, hb⟩ => ⟨by rw [he]; simp [h], hb⟩
end Go.Proofs.Ytcckfeikaolfgaa

namespace Go.Proofs.Ytcckfeikaolfgaa
open Go.RowKit
set_option linter.unusedVariables false
set_option linter.unusedSimpArgs false
set_option maxRecDepth 100000
/-- A result: a new row, and an error's number. -/
def GivesRowE (k : IntKind) (xs : List Int) (err : Int) (w : World) (e : Ending) (w' : World) : Prop :=
  ∃ a cap, e = .returned (.tuple #[.slice a xs.length cap, .int .i64 err]) ∧ Row k w' a xs ∧ OkCap a xs.length cap ∧ Below w.heap.size w w'
end Go.Proofs.Ytcckfeikaolfgaa

namespace Go.Proofs.Ytcckfeikaolfgaa.Sm
/-- The same modulo P. -/
def Eqm (a b : Int) : Prop := a % 18446744069414584321 = b % 18446744069414584321
theorem rfl' (a : Int) : Eqm a a := rfl
theorem Eqm.symm {a b : Int} (h : Eqm a b) : Eqm b a := by unfold Eqm at *; exact h.symm
theorem Eqm.trans {a b c : Int} (h : Eqm a b) (k : Eqm b c) : Eqm a c := by unfold Eqm at *; exact h.trans k
theorem Eqm.mod (a : Int) : Eqm (a % 18446744069414584321) a := by unfold Eqm; exact Int.emod_emod _ _
theorem Eqm.add {a b c d : Int} (h : Eqm a b) (k : Eqm c d) : Eqm (a + c) (b + d) := by
  unfold Eqm at *; omega
theorem Eqm.sub {a b c d : Int} (h : Eqm a b) (k : Eqm c d) : Eqm (a - c) (b - d) := by
  unfold Eqm at *; omega
theorem Eqm.mul {a b c d : Int} (h : Eqm a b) (k : Eqm c d) : Eqm (a * c) (b * d) := by
  unfold Eqm at *
  rw [Int.mul_emod, h, k, ← Int.mul_emod]
theorem Eqm.pow {a b : Int} (h : Eqm a b) (n : Nat) : Eqm (a ^ n) (b ^ n) := by
  induction n with
  | zero => rw [Int.pow_zero, Int.pow_zero]; exact rfl' _
  | succ n ih => rw [Int.pow_succ, Int.pow_succ]; exact ih.mul h
/-- The sum of the first n. -/
def S : Nat → (Nat → Int) → Int
  | 0, _ => 0
  | n + 1, f => S n f + f n
theorem S_congr {n : Nat} {f g : Nat → Int} (h : ∀ i, i < n → f i = g i) : S n f = S n g := by
  induction n with
  | zero => rfl
  | succ n ih => simp only [S]; rw [ih (fun i hi => h i (by omega)), h n (by omega)]
theorem S_eqm {n : Nat} {f g : Nat → Int} (h : ∀ i, i < n → Eqm (f i) (g i)) : Eqm (S n f) (S n g) := by
  induction n with
  | zero => exact rfl' _
  | succ n ih => exact (ih (fun i hi => h i (by omega))).add (h n (by omega))
theorem S_add (n : Nat) (f g : Nat → Int) : S n (fun i => f i + g i) = S n f + S n g := by
  induction n with
  | zero => rfl
  | succ n ih => simp only [S, ih]; omega
theorem S_mul (n : Nat) (c : Int) (f : Nat → Int) : S n (fun i => c * f i) = c * S n f := by
  induction n with
  | zero => simp [S]
  | succ n ih => simp only [S, ih, Int.mul_add]
theorem S_mul_r (n : Nat) (c : Int) (f : Nat → Int) : S n (fun i => f i * c) = S n f * c := by
  induction n with
  | zero => simp [S]
  | succ n ih => simp only [S, ih, Int.add_mul]
theorem S_zero (n : Nat) : S n (fun _ => 0) = 0 := by
  induction n with
  | zero => rfl
  | succ n ih => simp only [S, ih]; rfl
theorem S_const (n : Nat) (c : Int) : S n (fun _ => c) = n * c := by
  induction n with
  | zero => simp [S]
  | succ n ih => simp only [S, ih]; rw [Int.natCast_succ, Int.add_mul, Int.one_mul]
theorem S_swap (n m : Nat) (f : Nat → Nat → Int) : S n (fun i => S m (fun j => f i j)) = S m (fun j => S n (fun i => f i j)) := by
  induction n with
  | zero => simp only [S]; rw [S_zero]
  | succ n ih => simp only [S, ih]; rw [← S_add]
/-- A sum with one place that counts. -/
theorem S_one (n k : Nat) (f : Nat → Int) (hk : k < n) (h : ∀ i, i < n → i ≠ k → Eqm (f i) 0) : Eqm (S n f) (f k) := by
  induction n with
  | zero => omega
  | succ n ih =>
    simp only [S]
    by_cases hkn : k = n
    · subst hkn
      have : Eqm (S k f) (S k (fun _ => 0)) := S_eqm (fun i hi => h i (by omega) (by omega))
      rw [S_zero] at this
      have := this.add (rfl' (f k))
      rwa [Int.zero_add] at this
    · have := (ih (by omega) (fun i hi hik => h i (by omega) hik)).add (h n (by omega) (fun e => hkn e.symm))
      rwa [Int.add_zero] at this
theorem pow_mul' (a b : Int) (n : Nat) : (a * b) ^ n = a ^ n * b ^ n := by
  induction n with
  | zero => simp
  | succ n ih => rw [Int.pow_succ, Int.pow_succ, Int.pow_succ, ih]; simp only [Int.mul_assoc, Int.mul_comm, Int.mul_left_comm]
theorem geo (z : Int) (n : Nat) : (z - 1) * S n (fun i => z ^ i) = z ^ n - 1 := by
  induction n with
  | zero => simp [S]
  | succ n ih => simp only [S, Int.mul_add, ih]; rw [Int.pow_succ, Int.sub_mul, Int.one_mul, Int.mul_comm]; omega
/-- A number that P does not divide can be struck. -/
theorem strike (a b : Int) (h0 : 0 ≤ a) (ha : ¬ Eqm a 0) (h : Eqm (a * b) 0) : Eqm b 0 := by
  obtain ⟨n, rfl⟩ := Int.eq_ofNat_of_zero_le h0
  have h1 : n % Fld.pn ≠ 0 := by
    intro e; apply ha
    unfold Eqm; unfold Fld.pn at e; omega
  have h2 := Fld.fermat n h1
  have h3 : ((n ^ (Fld.pn - 1) % Fld.pn : Nat) : Int) = 1 := by rw [h2]; rfl
  obtain ⟨m, hm⟩ : ∃ m, Fld.pn - 1 = m + 1 := ⟨18446744069414584319, rfl⟩
  rw [hm, Int.natCast_emod, Int.natCast_pow, Int.pow_succ] at h3
  have hp : ((Fld.pn : Nat) : Int) = 18446744069414584321 := rfl
  rw [hp] at h3
  have h4 : Eqm ((n : Int) ^ m * ((n : Int) * b)) ((n : Int) ^ m * 0) := (rfl' _).mul h
  rw [← Int.mul_assoc, Int.mul_zero] at h4
  have h5 : Eqm ((n : Int) ^ m * (n : Int) * b) (1 * b) := Eqm.mul (by unfold Eqm; rw [h3]; rfl) (rfl' b)
  rw [Int.one_mul] at h5
  exact h5.symm.trans h4
theorem strike' (a b : Int) (ha : ¬ Eqm a 0) (h : Eqm (a * b) 0) : Eqm b 0 :=
  strike (a % 18446744069414584321) b (Int.emod_nonneg _ (by omega)) (fun e => ha ((Eqm.mod a).symm.trans e)) (((Eqm.mod a).mul (rfl' b)).trans h)
theorem geo_zero (z : Int) (n : Nat) (h1 : ¬ Eqm z 1) (hn : Eqm (z ^ n) 1) : Eqm (S n (fun i => z ^ i)) 0 := by
  refine strike' (z - 1) _ (fun h => h1 ?_) ?_
  · have := h.add (rfl' 1)
    rwa [Int.sub_add_cancel, Int.zero_add] at this
  · rw [geo]
    have := hn.sub (rfl' 1)
    rwa [Int.sub_self] at this
/-- w is a root of unity of order n, and u its inverse. -/
structure IsRoot (w u : Int) (n : Nat) : Prop where
  pos : 0 < n
  one : Eqm (w ^ n) 1
  least : ∀ m, 0 < m → m < n → ¬ Eqm (w ^ m) 1
  inv : Eqm (w * u) 1
theorem IsRoot.inv_pow {w u : Int} {n : Nat} (h : IsRoot w u n) (i : Nat) : Eqm (w ^ i * u ^ i) 1 := by
  rw [← pow_mul']
  have := h.inv.pow i
  rwa [Int.one_pow] at this
theorem IsRoot.oneU {w u : Int} {n : Nat} (h : IsRoot w u n) : Eqm (u ^ n) 1 := by
  have h1 := h.inv_pow n
  have h2 := h.one.mul (rfl' (u ^ n))
  rw [Int.one_mul] at h2
  exact h2.symm.trans h1
theorem IsRoot.back {w u : Int} {n : Nat} (h : IsRoot w u n) : IsRoot u w n := by
  refine ⟨h.pos, h.oneU, fun m h0 h1 e => h.least m h0 h1 ?_, by rw [Int.mul_comm]; exact h.inv⟩
  have h2 := (rfl' (w ^ m)).mul e
  rw [Int.mul_one] at h2
  exact h2.symm.trans (h.inv_pow m)
theorem IsRoot.times {w u : Int} {n : Nat} (h : IsRoot w u n) (i : Nat) : Eqm (w ^ (n * i)) 1 := by
  rw [Int.pow_mul]
  have := h.one.pow i
  rwa [Int.one_pow] at this
theorem IsRoot.pow_mod {w u : Int} {n : Nat} (h : IsRoot w u n) (i : Nat) : Eqm (w ^ (i % n)) (w ^ i) := by
  have e : i = n * (i / n) + i % n := (Nat.div_add_mod i n).symm
  have h1 : w ^ i = w ^ (n * (i / n)) * w ^ (i % n) := by rw [← Int.pow_add, ← e]
  rw [h1]
  have := (h.times (i / n)).mul (rfl' (w ^ (i % n)))
  rw [Int.one_mul] at this
  exact this.symm
theorem pow_jk (w u : Int) (j i k : Nat) : w ^ (j * i) * u ^ (j * k) = (w ^ i * u ^ k) ^ j := by
  rw [pow_mul', ← Int.pow_mul, ← Int.pow_mul, Nat.mul_comm j i, Nat.mul_comm j k]
/-- Sums of powers of a root. -/
theorem orth {w u : Int} {n : Nat} (h : IsRoot w u n) (i k : Nat) (hi : i < n) (hk : k < n) : Eqm (S n (fun j => w ^ (j * i) * u ^ (j * k))) (if i = k then n else 0) := by
  have e : S n (fun j => w ^ (j * i) * u ^ (j * k)) = S n (fun j => (w ^ i * u ^ k) ^ j) := S_congr (fun j _ => pow_jk w u j i k)
  rw [e]
  by_cases hik : i = k
  · subst hik
    rw [if_pos rfl]
    have h1 : Eqm (S n (fun j => (w ^ i * u ^ i) ^ j)) (S n (fun _ => 1)) := S_eqm (fun j _ => by
      have := (h.inv_pow i).pow j
      rwa [Int.one_pow] at this)
    rwa [S_const, Int.mul_one] at h1
  · rw [if_neg hik]
    refine geo_zero _ n ?_ ?_
    · intro hz
      by_cases hlt : k < i
      · refine h.least (i - k) (by omega) (by omega) ?_
        have e1 : w ^ i * u ^ k = w ^ (i - k) * (w ^ k * u ^ k) := by
          rw [← Int.mul_assoc, ← Int.pow_add, show i - k + k = i by omega]
        rw [e1] at hz
        have h2 := (rfl' (w ^ (i - k))).mul (h.inv_pow k)
        rw [Int.mul_one] at h2
        exact h2.symm.trans hz
      · refine h.back.least (k - i) (by omega) (by omega) ?_
        have e1 : w ^ i * u ^ k = (w ^ i * u ^ i) * u ^ (k - i) := by
          rw [Int.mul_assoc, ← Int.pow_add, show i + (k - i) = k by omega]
        rw [e1] at hz
        have h2 := (h.inv_pow i).mul (rfl' (u ^ (k - i)))
        rw [Int.one_mul] at h2
        exact h2.symm.trans hz
    · rw [pow_mul', ← Int.pow_mul, ← Int.pow_mul, Nat.mul_comm i n, Nat.mul_comm k n]
      have := (h.times i).mul (h.back.times k)
      rwa [Int.one_mul] at this
/-- The transform of X at k. -/
def T (n : Nat) (w : Int) (X : Nat → Int) (k : Nat) : Int := S n (fun i => X i * w ^ (i * k))
theorem T_eqm {n : Nat} {w w' : Int} {X Y : Nat → Int} (hw : Eqm w w') (h : ∀ i, i < n → Eqm (X i) (Y i)) (k : Nat) : Eqm (T n w X k) (T n w' Y k) :=
  S_eqm (fun i hi => (h i hi).mul (hw.pow _))
theorem T_back {w u : Int} {n : Nat} (h : IsRoot w u n) (X : Nat → Int) (k : Nat) (hk : k < n) : Eqm (T n u (T n w X) k) (n * X k) := by
  have e1 : T n u (T n w X) k = S n (fun i => X i * S n (fun j => w ^ (j * i) * u ^ (j * k))) := by
    unfold T
    have : S n (fun j => S n (fun i => X i * w ^ (i * j)) * u ^ (j * k)) = S n (fun j => S n (fun i => X i * (w ^ (j * i) * u ^ (j * k)))) := S_congr (fun j _ => by
      rw [← S_mul_r]; exact S_congr (fun i _ => by rw [Int.mul_assoc, Nat.mul_comm i j]))
    rw [this, S_swap]
    exact S_congr (fun i _ => S_mul n (X i) _)
  rw [e1]
  refine (S_one n k _ hk (fun i hi hik => ?_)).trans ?_
  · have := (rfl' (X i)).mul (orth h i k hi hk)
    rwa [if_neg hik, Int.mul_zero] at this
  · have := (rfl' (X k)).mul (orth h k k hk hk)
    rw [if_pos rfl] at this
    rw [Int.mul_comm (n : Int)]
    exact this
/-- Twice there: backwards, times the length. -/
theorem T_twice {w u : Int} {n : Nat} (h : IsRoot w u n) (X : Nat → Int) (k : Nat) (hk : k < n) : Eqm (T n w (T n w X) k) (n * X ((n - k) % n)) := by
  have h1 : Eqm (T n w (T n w X) k) (T n u (T n w X) ((n - k) % n)) := by
    refine S_eqm (fun i _ => (rfl' _).mul ?_)
    have h2 : Eqm (w ^ k) (u ^ ((n - k) % n)) := by
      refine Eqm.trans ?_ (h.back.pow_mod (n - k)).symm
      have h3 := (h.inv_pow k)
      have h4 := h3.mul (rfl' (u ^ (n - k)))
      rw [Int.mul_assoc, ← Int.pow_add, show k + (n - k) = n by omega, Int.one_mul] at h4
      have h5 := (rfl' (w ^ k)).mul h.oneU
      rw [Int.mul_one] at h5
      exact h5.symm.trans h4
    rw [Nat.mul_comm i k, Nat.mul_comm i, Int.pow_mul, Int.pow_mul]
    exact h2.pow i
  exact h1.trans (T_back h X _ (Nat.mod_lt _ h.pos))
end Go.Proofs.Ytcckfeikaolfgaa.Sm

