/- The contracts and plain laws that the statements PolyMuls PolySizes PolyPowers PolyBig need, part 1 of 9: Mem Open Gold Field GoldB GoldR Bool0 GoldLaws Rowing Vec VecB VecC Sums ConvB SzA Roots RootW VecD VecE DftA DftB VecF DftC DftL ConvL ConvP Tree TreeA TreeB TreeC. -/
import Derived.Test.YtlnlijeamflpiaaGreatProg
import Derived.WalkKit
import Derived.WalkSpells
import Derived.WalkLawsBesides
import Derived.Handy
import Derived.Lib.Hide
import Derived.ProofKit
import Derived.OpenShut
import Derived.Carry
import Derived.Lib.SmallJoins
import Derived.ChangeArms
import Derived.Deep.Slices
import Derived.DataReads
import Derived.Lib.Mul64
import Derived.Laws.Externs
import Derived.Shelf.Spec.BitsCarry
import Derived.PlainAid
import Derived.Laws.Bits64b
import Derived.Shelf.Bits.Mul64
import Derived.Deep.QuietTactic
import Derived.BigQuiet
import Derived.Laws.AppendOwnNone
import Derived.Deep.RegionHeld3
import Derived.Deep.AppendLies
import Derived.Deep.DrawnRows
import Derived.RangeFuncNested
import Derived.RangeFuncBound
import Derived.RangeFuncCalls
import Derived.RangeFuncLeaves
import Derived.RangeFuncBox
import Derived.RangeFuncWrites
import Derived.Shelf.Abstract
import Derived.Shelf.RegionOpen
import Derived.OwnWalkIn
import Derived.TacticsInMore
import Derived.LoopNIn
import Derived.LoopIn
import Derived.Deep.RegionLaw
import Derived.StillTailTactics
import Derived.RangeFuncIn
import Derived.ArgAppend
import Derived.Shelf.Lay
import Derived.Shelf.LaySoft
import Derived.Shelf.Small.Bits
import Derived.Ground.Names2Prog
import Derived.Lib.AppendZeros
import Derived.Lib.AppendZerosOnto
import Derived.BigFrame
import Derived.OrdersIn
import Derived.Laws.EntriesVeiled
import Derived.ScopeJumps
import Derived.WalkMore
import Derived.Lib.BitFns
import Derived.WideKeyRuns
import Derived.MapKept
import Derived.RangeFuncRecord
import Derived.Maps.AppendAt
import Derived.Lib.BufferWrite
import Derived.Deep.CutRange
import Derived.Laws.CopyOwn
import Derived.Deep.Cut
import Derived.Deep.RegionWith
import Derived.ShutString
import Derived.ChangeOld
namespace Go.Proofs.YtlnlijeamflpiaaGreat
open Go.RowKit
set_option linter.unusedVariables false
set_option linter.unusedSimpArgs false
set_option maxRecDepth 100000
theorem ret_int {k : IntKind} {a b : Int} (h : a = b) : Ending.returned (.int k a) = .returned (.int k b) := by rw [h]
theorem ret_bool {a b : Bool} (h : a = b) : Ending.returned (.bool a) = .returned (.bool b) := by rw [h]
/-- The i-th number of a list (a name that the walk's simp leaves alone). -/
def nth (xs : List Int) (i : Nat) : Int := xs.getD i 0
theorem nth_map (f : Int → Int) (xs : List Int) (i : Nat) (h : i < xs.length) : nth (xs.map f) i = f (nth xs i) := by
  simp [nth, h]
theorem nth_mem {xs : List Int} {i : Nat} (h : i < xs.length) : nth xs i ∈ xs := by
  simp [nth, h]
theorem nth_append_left {xs ys : List Int} {i : Nat} (h : i < xs.length) : nth (xs ++ ys) i = nth xs i := by
  simp [nth, List.getElem?_append_left h]
theorem nth_append_right {xs ys : List Int} {i : Nat} (h : xs.length ≤ i) : nth (xs ++ ys) i = nth ys (i - xs.length) := by
  simp [nth, List.getElem?_append_right h]
theorem nth_take {xs : List Int} {n i : Nat} (h : i < n) : nth (xs.take n) i = nth xs i := by
  simp [nth, h]
theorem nth_drop (xs : List Int) (n i : Nat) : nth (xs.drop n) i = nth xs (n + i) := by
  simp [nth]
theorem take_succ_nth {xs : List Int} {k : Nat} (h : k < xs.length) : xs.take (k + 1) = xs.take k ++ [nth xs k] := by
  rw [List.take_succ_eq_append_getElem h]; simp [nth, h]
theorem ext_nth {xs ys : List Int} (hl : xs.length = ys.length) (h : ∀ i, i < xs.length → nth xs i = nth ys i) : xs = ys := by
  apply List.ext_getElem hl
  intro i h1 h2
  have := h i h1
  simpa [nth, h1, h2] using this
theorem nth_ofFn (f : Nat → Int) (n i : Nat) (h : i < n) : nth ((List.range n).map f) i = f i := by
  simp [nth, h]
theorem map_nth (f : Int → Int) (xs : List Int) : xs.map f = (List.range xs.length).map fun i => f (nth xs i) :=
  ext_nth (by simp) (fun i hi => by
    have h1 : i < xs.length := by simpa using hi
    rw [nth_map f xs i h1, nth_ofFn _ _ _ h1])
/-- Kind k holds the number x. -/
def fits (k : IntKind) (x : Int) : Prop := (Lit.int k x).wf = true
theorem fits_u64 {x : Int} : fits .u64 x ↔ 0 ≤ x ∧ x < 18446744073709551616 := by
  unfold fits
  simp only [Lit.wf, Bool.and_eq_true, decide_eq_true_eq, show IntKind.u64.min = 0 from rfl, show IntKind.u64.max = 18446744073709551615 from rfl]
  omega
theorem fits_i64 {x : Int} : fits .i64 x ↔ -9223372036854775808 ≤ x ∧ x < 9223372036854775808 := by
  unfold fits
  simp only [Lit.wf, Bool.and_eq_true, decide_eq_true_eq, show IntKind.i64.min = -9223372036854775808 from rfl, show IntKind.i64.max = 9223372036854775807 from rfl]
  omega
/-- The slice at address a (length: the list's) holds the numbers xs, of kind k. -/
structure Row (k : IntKind) (w : World) (a : Option Addr) (xs : List Int) : Prop where
  len : xs.length ≤ 9223372036854775807
  wf : ∀ x ∈ xs, fits k x
  lies : xs = [] ∨ ∃ b off, a = some ⟨b, off, none⟩ ∧ ∀ i, i < xs.length → w.cell? ⟨b, off + i, none⟩ = some (.int k (nth xs i))
theorem Row.nil (k : IntKind) (w : World) (a : Option Addr) : Row k w a [] := ⟨by simp, by simp, .inl rfl⟩
theorem Row.at {k : IntKind} {w : World} {a : Option Addr} {xs : List Int} (h : Row k w a xs) (h0 : 0 < xs.length) : ∃ b off, a = some ⟨b, off, none⟩ ∧ ∀ i, i < xs.length → w.cell? ⟨b, off + i, none⟩ = some (.int k (nth xs i)) := by
  rcases h.lies with h1 | h1
  · subst h1; simp at h0
  · exact h1
theorem Row.below {k : IntKind} {w w' : World} {a : Option Addr} {xs : List Int} (h : Row k w a xs) (hb : Below w.heap.size w w') : Row k w' a xs := by
  refine ⟨h.len, h.wf, ?_⟩
  rcases h.lies with h1 | ⟨b, off, h1, h2⟩
  · exact .inl h1
  · refine .inr ⟨b, off, h1, fun i hi => ?_⟩
    rw [hb.cell (World.block_lt_of_cell? w _ (h2 i hi))]
    exact h2 i hi
theorem Row.grown {k : IntKind} {w w' : World} {a : Option Addr} {xs : List Int} (h : Row k w a xs) (hb : w.grownBy w' none) : Row k w' a xs :=
  h.below ⟨hb.os, hb.tape, hb.output, hb.size, fun k hk => hb.block k hk (by simp)⟩
/-- A part of it: from i on, n numbers. -/
theorem Row.cut {k : IntKind} {w : World} {b off : Nat} {xs : List Int} (h : Row k w (some ⟨b, off, none⟩) xs) (i j : Nat) : Row k w (some ⟨b, off + i, none⟩) ((xs.take j).drop i) := by
  refine ⟨Nat.le_trans (by simp; omega) h.len, fun x hx => h.wf x (List.mem_of_mem_take (List.mem_of_mem_drop hx)), ?_⟩
  rcases h.lies with h1 | ⟨b', off', h1, h2⟩
  · left; subst h1; simp
  · right
    simp only [Option.some.injEq, Addr.mk.injEq, and_true] at h1
    obtain ⟨rfl, rfl⟩ := h1
    refine ⟨b, off + i, rfl, fun t ht => ?_⟩
    simp at ht
    rw [Nat.add_assoc, h2 (i + t) (by omega), nth_drop, nth_take (by omega)]
/-- What the call owns, as a row that reads. -/
theorem Row.of_own {k : IntKind} {w : World} {base : Nat} {e : TypeId} {a : Option Addr} {n cap : Nat} {xs : List Int} (hn : xs.length = n) (hl : n ≤ 9223372036854775807) (hf : ∀ x ∈ xs, fits k x)
    (h : w.ownsRow base e 1 (.slice a n cap) n (xs.map (Value.int k))) : Row k w a xs := by
  refine ⟨by omega, hf, ?_⟩
  obtain ⟨h1, h2 | ⟨g, c, cur, hv, _⟩⟩ := h
  · left; obtain ⟨_, rfl⟩ := h2; exact List.length_eq_zero_iff.1 hn
  · right
    simp only [Value.slice.injEq] at hv
    obtain ⟨rfl, _, rfl⟩ := hv
    refine ⟨g, 0, rfl, fun i hi => ?_⟩
    have := World.ownsRow.cellAt ⟨h1, .inr ⟨g, cap, cur, rfl, by assumption⟩⟩ i (by omega)
    rw [Nat.zero_add, this]
    simp [nth, hi]
/-- The capacity of a slice of n elements. -/
def OkCap (a : Option Addr) (n cap : Nat) : Prop := n ≤ cap ∧ (a = none → cap = 0)
/-- Below, one behind the other. -/
theorem chain {w w1 w2 : World} (h : Below w.heap.size w w1) (h2 : Below w1.heap.size w1 w2) : Below w.heap.size w w2 := h.trans (h2.mono h.size)
theorem chainA {w w1 w2 : World} {o : Obj} (h : Below w.heap.size w w1) (h2 : Below (w1.alloc o).heap.size (w1.alloc o) w2) : Below w.heap.size w w2 :=
  (h.alloc h.size o).trans (h2.mono (by have := h.size; simp; omega))
theorem info_u64 : (Tryz.prog.info? 23).map (fun i => (i.zero, i.size, i.bytes)) = some (some (.int .u64 0), 1, 8) := by kernel_rfl
theorem info_int : (Tryz.prog.info? 3).map (fun i => (i.zero, i.size, i.bytes)) = some (some (.int .i64 0), 1, 8) := by kernel_rfl
end Go.Proofs.YtlnlijeamflpiaaGreat

namespace Go.Proofs.YtlnlijeamflpiaaGreat
open Go.ChangeShapes Go.WideShapes Go.ChangeAt Go.RowKit
set_option linter.unusedVariables false
set_option linter.unusedSimpArgs false
set_option maxRecDepth 100000
theorem open_row {H : Type} {enc : TypeId × Value → H} {P : Program} {W : World} {r : Reach} {b0 base : Nat} {sp : Nat → Bool} {held : Bool} {t e : TypeId} {k : IntKind} {v : Value} {d : DataW H} {p : List MemPlace}
    (ht : P.underlying t = some (.slice e)) (he : P.underlying e = some (.int k)) (hc : P.cellsOf e = 1) (hv : Value.okWide P W r b0 t v) (h : DataW.Trod enc P W base sp held t v d p) :
    ∃ (a : Option Addr) (c : Nat) (xs : List Int), v = .slice a xs.length c ∧ Row k W a xs ∧ OkCap a xs.length c := by
  obtain ⟨a0, len0, cap0, rfl⟩ := okWide_slice ht hv
  obtain ⟨fuel, hf⟩ := h
  rcases open_ints ht he hc hf with ⟨hcs, _⟩ | ⟨x, l, c, zs, hcs, _, hl, hm, hz, _, hcell, hwz⟩
  · simp [Value.cells] at hcs
    obtain ⟨rfl, rfl, rfl⟩ := hcs
    exact ⟨none, 0, [], rfl, Row.nil _ _ _, Nat.le_refl _, fun _ => rfl⟩
  · simp [Value.cells] at hcs
    obtain ⟨rfl, rfl, rfl⟩ := hcs
    have hle : len0 ≤ zs.length := by rw [hz]; split <;> omega
    have hlt : (zs.take len0).length = len0 := by simp; omega
    have hm' : len0 ≤ 9223372036854775807 := by have := Nat.le_trans hl hm; unfold maxLen at this; omega
    refine ⟨some x, cap0, zs.take len0, by rw [hlt], ⟨by omega, fun y hy => hwz y (List.mem_of_mem_take hy), ?_⟩, by rw [hlt]; exact hl, fun h => by cases h⟩
    by_cases h0 : len0 = 0
    · left; subst h0; rfl
    · right
      obtain ⟨b, off, spot⟩ := x
      have hc0 := hcell 0 (by omega)
      have hspot : spot = none := by simpa [Addr.add] using World.cell?_spot hc0
      subst hspot
      refine ⟨b, off, rfl, fun i hi => ?_⟩
      have := hcell i (by omega)
      rw [nth_take (by omega)]
      by_cases hi0 : i = 0
      · subst hi0; simpa [Addr.add, nth] using this
      · simpa [Addr.add, nth, hi0] using this
end Go.Proofs.YtlnlijeamflpiaaGreat
namespace Go.Proofs.YtlnlijeamflpiaaGreat
open Go.ChangeShapes Go.WideShapes Go.ChangeAt Go.RowKit
set_option linter.unusedVariables false
set_option linter.unusedSimpArgs false
end Go.Proofs.YtlnlijeamflpiaaGreat

namespace Go.Proofs.YtlnlijeamflpiaaGreat
open Go.RowKit
set_option linter.unusedVariables false
set_option linter.unusedSimpArgs false
set_option maxRecDepth 100000
set_option maxHeartbeats 400000 in
theorem gold_Red (a : Int) (w : World) (h0 : 0 ≤ a) (h1 : a < 18446744073709551616) :
    Calls Tryz.prog 76 #[.int .u64 a] w fun e w' => e = .returned (.int .u64 (a % 18446744069414584321)) ∧ w = w' := by
  by_cases h : 18446744069414584321 ≤ a
  all_goals
    go_enter Tryz.func76, Tryz.ntmps76
    go_wp2
    go_ret
    exact ⟨ret_int (by omega), rfl⟩
theorem add64 (x y : Int) (hx0 : 0 ≤ x) (hx : x < 18446744073709551616) (hy0 : 0 ≤ y) (hy : y < 18446744073709551616) (w : World) :
    (callFunc 77 #[.int .u64 x, .int .u64 y, .int .u64 0]).run Tryz.prog w = .ok (.value (.tuple #[.int .u64 ((x + y) % 18446744073709551616), .int .u64 ((x + y) / 18446744073709551616)])) w := by
  rw [run_callFunc_extern Tryz.func77 (by kernel_rfl) (by kernel_rfl) (by kernel_rfl) (e := add64Entry) (by kernel_rfl), run_add64 x y 0 (by omega) (by omega) (by omega) (by omega)]
  simp
theorem sub64 (x y : Int) (hx0 : 0 ≤ x) (hx : x < 18446744073709551616) (hy0 : 0 ≤ y) (hy : y < 18446744073709551616) (w : World) :
    (callFunc 105 #[.int .u64 x, .int .u64 y, .int .u64 0]).run Tryz.prog w = .ok (.value (.tuple #[.int .u64 ((x - y) % 18446744073709551616), .int .u64 (if x < y then 1 else 0)])) w := by
  obtain ⟨a, rfl⟩ := Int.eq_ofNat_of_zero_le hx0
  obtain ⟨b, rfl⟩ := Int.eq_ofNat_of_zero_le hy0
  have h := Go.Proofs.run_sub64 (P := Tryz.prog) a b 0 (by omega) w
  have e1 : (((a + 18446744073709551616 - b - 0) % 18446744073709551616 : Nat) : Int) = ((a : Int) - b) % 18446744073709551616 := by omega
  have e2 : ((if a < b + 0 then 1 else 0 : Nat) : Int) = if (a : Int) < b then 1 else 0 := by
    by_cases hab : a < b
    · rw [if_pos (by omega), if_pos (by omega)]; rfl
    · rw [if_neg (by omega), if_neg (by omega)]; rfl
  rw [e1, e2] at h
  rw [run_callFunc_extern Tryz.func105 (by kernel_rfl) (by kernel_rfl) (by kernel_rfl) (e := Go.Proofs.sub64Entry) (by kernel_rfl)]
  have h' : (Go.Proofs.sub64Entry #[.int .u64 (a : Int), .int .u64 (b : Int), .int .u64 0]).run Tryz.prog w = _ := h
  rw [h']
  rfl
set_option maxHeartbeats 400000 in
theorem gold_Add (a b : Int) (w : World) (ha0 : 0 ≤ a) (ha : a < 18446744073709551616) (hb0 : 0 ≤ b) (hb : b < 18446744073709551616) :
    Calls Tryz.prog 45 #[.int .u64 a, .int .u64 b] w fun e w' => e = .returned (.int .u64 ((a + b) % 18446744069414584321)) ∧ w = w' := by
  have e1 := add64 (a % 18446744069414584321) (b % 18446744069414584321) (by omega) (by omega) (by omega) (by omega) w
  go_enter Tryz.func45, Tryz.ntmps45
  go_wp2_with fail
  refine (gold_Red a _ ha0 ha).mono ?_; rintro e w' ⟨rfl, rfl⟩
  go_wp2_with fail
  refine (gold_Red b _ hb0 hb).mono ?_; rintro e w' ⟨rfl, rfl⟩
  go_wp2_with fail
  all_goals
    go_ret
    refine ⟨ret_int ?_, rfl⟩
    simp only [beq_iff_eq, beq_eq_false_iff_ne, IntKind.wrap_u64] at *
    omega
set_option maxHeartbeats 400000 in
theorem gold_Neg (a : Int) (w : World) (ha0 : 0 ≤ a) (ha : a < 18446744073709551616) :
    Calls Tryz.prog 208 #[.int .u64 a] w fun e w' => e = .returned (.int .u64 ((-a) % 18446744069414584321)) ∧ w = w' := by
  go_enter Tryz.func208, Tryz.ntmps208
  go_wp2_with fail
  refine (gold_Red a _ ha0 ha).mono ?_; rintro e w' ⟨rfl, rfl⟩
  go_wp2_with fail
  all_goals
    go_ret
    refine ⟨ret_int ?_, rfl⟩
    try simp only [bne_iff_ne, bne_eq_false_iff_eq] at *
    omega
set_option maxHeartbeats 400000 in
theorem gold_Sub (a b : Int) (w : World) (ha0 : 0 ≤ a) (ha : a < 18446744073709551616) (hb0 : 0 ≤ b) (hb : b < 18446744073709551616) :
    Calls Tryz.prog 201 #[.int .u64 a, .int .u64 b] w fun e w' => e = .returned (.int .u64 ((a - b) % 18446744069414584321)) ∧ w = w' := by
  go_enter Tryz.func201, Tryz.ntmps201
  go_wp2_with fail
  refine (gold_Neg b _ hb0 hb).mono ?_; rintro e w' ⟨rfl, rfl⟩
  go_wp2_with fail
  refine (gold_Add a _ _ ha0 ha (by omega) (by omega)).mono ?_; rintro e w' ⟨rfl, rfl⟩
  go_wp2_with fail
  go_ret
  exact ⟨ret_int (by omega), rfl⟩
theorem add64_lt (x y : Int) (hx0 : 0 ≤ x) (hy0 : 0 ≤ y) (h : x + y < 18446744073709551616) (w : World) :
    (callFunc 77 #[.int .u64 x, .int .u64 y, .int .u64 0]).run Tryz.prog w = .ok (.value (.tuple #[.int .u64 (x + y), .int .u64 0])) w := by
  rw [add64 x y hx0 (by omega) hy0 (by omega) w, Int.emod_eq_of_lt (by omega) h, Int.ediv_eq_zero_of_lt (by omega) h]
theorem add64_ge (x y : Int) (hx0 : 0 ≤ x) (hx : x < 18446744073709551616) (hy0 : 0 ≤ y) (hy : y < 18446744073709551616) (h : 18446744073709551616 ≤ x + y) (w : World) :
    (callFunc 77 #[.int .u64 x, .int .u64 y, .int .u64 0]).run Tryz.prog w = .ok (.value (.tuple #[.int .u64 (x + y - 18446744073709551616), .int .u64 1])) w := by
  rw [add64 x y hx0 hx hy0 hy w, show (x + y) % 18446744073709551616 = x + y - 18446744073709551616 from by omega, show (x + y) / 18446744073709551616 = 1 from by omega]
theorem sub64_ge (x y : Int) (hx : x < 18446744073709551616) (hy0 : 0 ≤ y) (h : y ≤ x) (w : World) :
    (callFunc 105 #[.int .u64 x, .int .u64 y, .int .u64 0]).run Tryz.prog w = .ok (.value (.tuple #[.int .u64 (x - y), .int .u64 0])) w := by
  rw [sub64 x y (by omega) hx hy0 (by omega) w, show (x - y) % 18446744073709551616 = x - y from by omega, if_neg (by omega)]
theorem sub64_lt (x y : Int) (hx0 : 0 ≤ x) (hy : y < 18446744073709551616) (h : x < y) (w : World) :
    (callFunc 105 #[.int .u64 x, .int .u64 y, .int .u64 0]).run Tryz.prog w = .ok (.value (.tuple #[.int .u64 (x - y + 18446744073709551616), .int .u64 1])) w := by
  rw [sub64 x y hx0 (by omega) (by omega) hy w, show (x - y) % 18446744073709551616 = x - y + 18446744073709551616 from by omega, if_pos h]
set_option maxHeartbeats 800000 in
theorem gold_fold (hi lo : Int) (w : World) (ha0 : 0 ≤ hi) (ha : hi < 18446744073709551616) (hb0 : 0 ≤ lo) (hb : lo < 18446744073709551616) :
    Calls Tryz.prog 79 #[.int .u64 hi, .int .u64 lo] w fun e w' => e = .returned (.int .u64 ((hi * 18446744073709551616 + lo) % 18446744069414584321)) ∧ w = w' := by
  have m1 := and_low32 hi ha0 ha
  by_cases h1 : lo < hi / 4294967296
  · have e1 := sub64_lt lo (hi / 4294967296) hb0 (by omega) h1 w
    by_cases h2 : lo - hi / 4294967296 + 18446744073709551616 - 4294967295 + hi % 4294967296 * 4294967295 < 18446744073709551616
    · have e2 := add64_lt (lo - hi / 4294967296 + 18446744073709551616 - 4294967295) (hi % 4294967296 * 4294967295) (by omega) (by omega) h2 w
      go_enter Tryz.func79, Tryz.ntmps79
      go_wp2_with fail
      refine (gold_Red _ _ (by omega) (by omega)).mono ?_; rintro e w' ⟨rfl, rfl⟩
      go_wp2_with fail
      go_ret
      exact ⟨ret_int (by omega), rfl⟩
    · have e2 := add64_ge (lo - hi / 4294967296 + 18446744073709551616 - 4294967295) (hi % 4294967296 * 4294967295) (by omega) (by omega) (by omega) (by omega) (by omega) w
      go_enter Tryz.func79, Tryz.ntmps79
      go_wp2_with fail
      refine (gold_Red _ _ (by omega) (by omega)).mono ?_; rintro e w' ⟨rfl, rfl⟩
      go_wp2_with fail
      go_ret
      exact ⟨ret_int (by omega), rfl⟩
  · have e1 := sub64_ge lo (hi / 4294967296) hb (by omega) (by omega) w
    by_cases h2 : lo - hi / 4294967296 + hi % 4294967296 * 4294967295 < 18446744073709551616
    · have e2 := add64_lt (lo - hi / 4294967296) (hi % 4294967296 * 4294967295) (by omega) (by omega) h2 w
      go_enter Tryz.func79, Tryz.ntmps79
      go_wp2_with fail
      refine (gold_Red _ _ (by omega) (by omega)).mono ?_; rintro e w' ⟨rfl, rfl⟩
      go_wp2_with fail
      go_ret
      exact ⟨ret_int (by omega), rfl⟩
    · have e2 := add64_ge (lo - hi / 4294967296) (hi % 4294967296 * 4294967295) (by omega) (by omega) (by omega) (by omega) (by omega) w
      go_enter Tryz.func79, Tryz.ntmps79
      go_wp2_with fail
      refine (gold_Red _ _ (by omega) (by omega)).mono ?_; rintro e w' ⟨rfl, rfl⟩
      go_wp2_with fail
      go_ret
      exact ⟨ret_int (by omega), rfl⟩
end Go.Proofs.YtlnlijeamflpiaaGreat

namespace Go.Proofs.YtlnlijeamflpiaaGreat.Fld
/-- The prime. -/
def pn : Nat := 18446744069414584321
theorem pn_pos : 0 < pn := by decide
theorem pow_add_mod (a m n p : Nat) : a ^ (m + n) % p = (a ^ m % p) * (a ^ n % p) % p := by
  rw [Nat.pow_add, Nat.mul_mod]
theorem pow_mul_one (a b q p : Nat) (hp : 1 < p) (h : a ^ b % p = 1) : a ^ (b * q) % p = 1 := by
  rw [Nat.pow_mul, Nat.pow_mod, h]
  simp [Nat.mod_eq_of_lt hp]
theorem pow_mod_one (a m b p : Nat) (hp : 1 < p) (hb : a ^ b % p = 1) : a ^ (m % b) % p = a ^ m % p := by
  have e : m = b * (m / b) + m % b := (Nat.div_add_mod m b).symm
  have h : a ^ m % p = (a ^ (b * (m / b)) % p) * (a ^ (m % b) % p) % p := by
    rw [← pow_add_mod, ← e]
  rw [h, pow_mul_one a b _ p hp hb, Nat.one_mul, Nat.mod_mod]
theorem pow_gcd_one (a p : Nat) (hp : 1 < p) (m n : Nat) : a ^ m % p = 1 → a ^ n % p = 1 → a ^ (Nat.gcd m n) % p = 1 := by
  induction m, n using Nat.gcd.induction with
  | H0 n => intro _ h; simpa using h
  | H1 m n hm ih =>
    intro h1 h2
    rw [Nat.gcd_rec]
    exact ih (by rw [pow_mod_one a n m p hp h1]; exact h2) h1
/-- A power modulo p, by squares. -/
def pm (p : Nat) : Nat → Nat → Nat → Nat
  | 0, _, _ => 1 % p
  | f + 1, a, n => if n % 2 = 1 then (a * pm p f (a * a % p) (n / 2)) % p else pm p f (a * a % p) (n / 2)
theorem pm_eq (p : Nat) (f : Nat) : ∀ a n, n < 2 ^ f → pm p f a n = a ^ n % p := by
  induction f with
  | zero => intro a n h; have : n = 0 := by simpa using h
            subst this; simp [pm]
  | succ f ih =>
    intro a n h
    have h2 : n / 2 < 2 ^ f := by rw [Nat.pow_succ] at h; omega
    have e : (a * a % p) ^ (n / 2) % p = a ^ (2 * (n / 2)) % p := by
      rw [← Nat.pow_mod, Nat.pow_mul, Nat.pow_two]
    simp only [pm, ih _ _ h2, e]
    split
    · rename_i h1
      have e2 : n = 2 * (n / 2) + 1 := by omega
      rw [Nat.mul_mod_mod, ← Nat.pow_succ', Nat.succ_eq_add_one, ← e2]
    · rename_i h1
      have e2 : n = 2 * (n / 2) := by omega
      rw [← e2]
theorem dvd_small (q : Nat) (hq : q = 2 ∨ q = 3 ∨ q = 5 ∨ q = 17 ∨ q = 257 ∨ q = 65537) (m : Nat) : q ∣ m ∨ Nat.gcd m q = 1 := by
  have hd : Nat.gcd m q ∣ q := Nat.gcd_dvd_right m q
  have key : ∀ d, d ∣ q → d = 1 ∨ d = q := by
    intro d ⟨e, he⟩
    have hall : ∀ q ∈ [2, 3, 5, 17, 257, 65537], ∀ d ∈ List.range 257, d ≤ 1 ∨ d = q ∨ q % d ≠ 0 := by decide +kernel
    have hq' : q ∈ [2, 3, 5, 17, 257, 65537] := by simp; exact hq
    have hpos : 0 < q := by rcases hq with h | h | h | h | h | h <;> omega
    have d0 : d ≠ 0 := by rintro rfl; simp at he; omega
    have e0 : e ≠ 0 := by rintro rfl; simp at he; omega
    by_cases hd : d ≤ 256
    · rcases hall q hq' d (by simp; omega) with h | h | h
      · left; omega
      · right; exact h
      · exfalso; apply h; rw [he]; simp
    · by_cases he' : e ≤ 256
      · rcases hall q hq' e (by simp; omega) with h | h | h
        · have : e = 1 := by omega
          subst this; right; omega
        · have h3 : q * d = q * 1 := by rw [Nat.mul_comm q d, ← h, ← he]; omega
          have := Nat.eq_of_mul_eq_mul_left hpos h3
          left; exact this
        · exfalso; apply h; rw [he]; simp
      · exfalso
        have : 257 * 257 ≤ d * e := Nat.mul_le_mul (by omega) (by omega)
        rcases hq with h | h | h | h | h | h <;> omega
  rcases key _ hd with h | h
  · exact Or.inr h
  · exact Or.inl (h ▸ Nat.gcd_dvd_left m q)
theorem split_off (m a b : Nat) (h : m ∣ a * b) (hc : Nat.gcd m a = 1) : m ∣ b :=
  Nat.Coprime.dvd_of_dvd_mul_left (k := m) (m := a) (n := b) hc h
theorem gcd_pow_one (m a n : Nat) (h : Nat.gcd m a = 1) : Nat.gcd m (a ^ n) = 1 :=
  Nat.Coprime.pow_right n h
theorem seven (k : Nat) (h : 7 ^ k % pn = 1) : pn - 1 ∣ k := by
  have hp : 1 < pn := by decide
  have h1 : 7 ^ (pn - 1) % pn = 1 := by rw [← pm_eq pn 64 7 _ (by decide)]; decide +kernel
  have hg := pow_gcd_one 7 pn hp k (pn - 1) h h1
  obtain ⟨m, hm⟩ := Nat.gcd_dvd_right k (pn - 1)
  have hmd : m ∣ pn - 1 := ⟨Nat.gcd k (pn - 1), by rw [Nat.mul_comm]; exact hm⟩
  have no : ∀ q, (q = 2 ∨ q = 3 ∨ q = 5 ∨ q = 17 ∨ q = 257 ∨ q = 65537) → Nat.gcd m q = 1 := by
    intro q hq
    rcases dvd_small q hq m with ⟨c, hc⟩ | h'
    · exfalso
      have hq0 : 0 < q := by omega
      have e1 : (pn - 1) / q = Nat.gcd k (pn - 1) * c := by
        have : pn - 1 = q * (Nat.gcd k (pn - 1) * c) := by rw [← Nat.mul_assoc, Nat.mul_comm q, Nat.mul_assoc, ← hc]; exact hm
        rw [this, Nat.mul_div_cancel_left _ hq0, ← this]
      have e2 : 7 ^ ((pn - 1) / q) % pn = 1 := by rw [e1]; exact pow_mul_one _ _ _ _ hp hg
      rw [← pm_eq pn 64 7 _ (Nat.lt_of_le_of_lt (Nat.div_le_self _ _) (by decide))] at e2
      revert e2
      rcases hq with h | h | h | h | h | h <;> subst h <;> decide +kernel
    · exact h'
  have f : pn - 1 = 2 ^ 32 * (3 * (5 * (17 * (257 * (65537 * 1))))) := by decide +kernel
  rw [f] at hmd
  have m1 := split_off _ _ _ hmd (gcd_pow_one _ _ _ (no 2 (by simp)))
  have m2 := split_off _ _ _ m1 (no 3 (by simp))
  have m3 := split_off _ _ _ m2 (no 5 (by simp))
  have m4 := split_off _ _ _ m3 (no 17 (by simp))
  have m5 := split_off _ _ _ m4 (no 257 (by simp))
  have m6 := split_off _ _ _ m5 (no 65537 (by simp))
  have : m = 1 := Nat.dvd_one.1 m6
  rw [this, Nat.mul_one] at hm
  rw [hm]
  exact Nat.gcd_dvd_left k (pn - 1)
/-- Pigeons: what takes n places to n places, no two to one, meets each. -/
theorem onto (n : Nat) : ∀ f : Nat → Nat, (∀ i, i < n → f i < n) → (∀ i j, i < j → j < n → f i ≠ f j) → ∀ b, b < n → ∃ i, i < n ∧ f i = b := by
  induction n with
  | zero => intro f _ _ b hb; omega
  | succ n ih =>
    intro f hf hi b hb
    by_cases hlast : f n = b
    · exact ⟨n, by omega, hlast⟩
    · -- strike f n out of the places
      let t : Nat := f n
      let g : Nat → Nat := fun i => if f i < t then f i else f i - 1
      have ht : t < n + 1 := hf n (by omega)
      have hg : ∀ i, i < n → g i < n := by
        intro i hi'
        have h1 := hf i (by omega)
        have h2 := hi i n hi' (by omega)
        show (if f i < t then f i else f i - 1) < n
        have h3 : f i ≠ t := h2
        split <;> omega
      have hinj : ∀ i j, i < j → j < n → g i ≠ g j := by
        intro i j hij hj
        have h1 := hi i j hij (by omega)
        have h2 : f i ≠ t := hi i n (by omega) (by omega)
        have h3 : f j ≠ t := hi j n (by omega) (by omega)
        show (if f i < t then f i else f i - 1) ≠ (if f j < t then f j else f j - 1)
        split <;> split <;> omega
      have hbt : b ≠ t := fun e => hlast e.symm
      obtain ⟨i, hi1, hi2⟩ := ih g hg hinj (if b < t then b else b - 1) (by split <;> omega)
      refine ⟨i, by omega, ?_⟩
      have h2 : f i ≠ t := hi i n (by omega) (by omega)
      have h3 : (if f i < t then f i else f i - 1) = (if b < t then b else b - 1) := hi2
      revert h3
      split <;> split <;> omega
theorem seven_pow_ne_zero (k : Nat) : 7 ^ k % pn ≠ 0 := by
  have hp : 1 < pn := by decide
  have h1 : 7 ^ (pn - 1) % pn = 1 := by rw [← pm_eq pn 64 7 _ (by decide)]; decide +kernel
  intro h
  have h2 : 7 ^ ((pn - 1) * k) % pn = 1 := pow_mul_one _ _ _ _ hp h1
  have e : (pn - 1) * k = k + (pn - 2) * k := by
    have : pn - 1 = 1 + (pn - 2) := by decide
    rw [this, Nat.add_mul, Nat.one_mul]
  rw [e, pow_add_mod, h] at h2
  simp at h2
/-- Each number that P does not divide is a power of 7. -/
theorem power (a : Nat) (h : a % pn ≠ 0) : ∃ i, 7 ^ i % pn = a % pn := by
  have hp : 1 < pn := by decide
  have key := onto (pn - 1) (fun i => 7 ^ i % pn - 1) (fun i _ => by
      have := Nat.mod_lt (7 ^ i) pn_pos
      have := seven_pow_ne_zero i
      show 7 ^ i % pn - 1 < pn - 1
      omega) (fun i j hij hj => by
      show 7 ^ i % pn - 1 ≠ 7 ^ j % pn - 1
      have h1 := seven_pow_ne_zero i
      have h2 := seven_pow_ne_zero j
      intro e
      have e' : 7 ^ i % pn = 7 ^ j % pn := by omega
      -- 7 ^ (j - i) leaves 1
      have hone : 7 ^ (pn - 1) % pn = 1 := by rw [← pm_eq pn 64 7 _ (by decide)]; decide +kernel
      have c : 7 ^ (j - i) % pn = 1 := by
        have hA : 7 ^ ((pn - 1) * i - i + j) % pn = 7 ^ ((pn - 1) * i - i + i) % pn := by
          rw [pow_add_mod, ← e', ← pow_add_mod]
        have hle : i ≤ (pn - 1) * i := Nat.le_mul_of_pos_left i (by decide)
        have e1 : (pn - 1) * i - i + i = (pn - 1) * i := by omega
        have e2 : (pn - 1) * i - i + j = (pn - 1) * i + (j - i) := by omega
        rw [e1, e2, pow_add_mod, pow_mul_one _ _ _ _ hp hone, Nat.one_mul, Nat.mod_mod] at hA
        exact hA
      have hd := seven (j - i) c
      have := Nat.le_of_dvd (by omega) hd
      omega) (a % pn - 1) (by have := Nat.mod_lt a pn_pos; omega)
  obtain ⟨i, _, hi⟩ := key
  refine ⟨i, ?_⟩
  have := seven_pow_ne_zero i
  have hi' : 7 ^ i % pn - 1 = a % pn - 1 := hi
  omega
/-- Fermat's theorem at P. -/
theorem fermat (a : Nat) (h : a % pn ≠ 0) : a ^ (pn - 1) % pn = 1 := by
  have hp : 1 < pn := by decide
  have hone : 7 ^ (pn - 1) % pn = 1 := by rw [← pm_eq pn 64 7 _ (by decide)]; decide +kernel
  obtain ⟨i, hi⟩ := power a h
  rw [Nat.pow_mod, ← hi, ← Nat.pow_mod, ← Nat.pow_mul, Nat.mul_comm]
  exact pow_mul_one _ _ _ _ hp hone
end Go.Proofs.YtlnlijeamflpiaaGreat.Fld

namespace Go.Proofs.YtlnlijeamflpiaaGreat
open Go.RowKit
set_option linter.unusedVariables false
set_option linter.unusedSimpArgs false
set_option maxRecDepth 100000
set_option maxHeartbeats 1000000 in
theorem bits_Mul64 (x y : Nat) (hx : x < 18446744073709551616) (hy : y < 18446744073709551616) (w : World) :
    Calls Tryz.prog 78 #[.int .u64 x, .int .u64 y] w fun e w' => e = .returned (.tuple #[.int .u64 ((x * y / 18446744073709551616 : Nat) : Int), .int .u64 ((x * y % 18446744073709551616 : Nat) : Int)]) ∧ w = w' := by
  obtain ⟨bd, bt, bw, hhi⟩ := Lib.mul64_hi x y hx hy
  have ba := Lib.half_mul_le (a := x / 4294967296) (b := y / 4294967296) (by omega) (by omega)
  have bb := Lib.half_mul_le (a := x / 4294967296) (b := y % 4294967296) (by omega) (by omega)
  have bc := Lib.half_mul_le (a := x % 4294967296) (b := y / 4294967296) (by omega) (by omega)
  have ba' : x / 4294967296 * (y / 4294967296) < 18446744073709551616 := by omega
  have bb' : x / 4294967296 * (y % 4294967296) < 18446744073709551616 := by omega
  have bc' : x % 4294967296 * (y / 4294967296) < 18446744073709551616 := by omega
  have bh1 : x / 4294967296 * (y / 4294967296) + (x / 4294967296 * (y % 4294967296) + x % 4294967296 * (y % 4294967296) / 4294967296) / 4294967296 < 18446744073709551616 := by omega
  have bh : x / 4294967296 * (y / 4294967296) + (x / 4294967296 * (y % 4294967296) + x % 4294967296 * (y % 4294967296) / 4294967296) / 4294967296 + ((x / 4294967296 * (y % 4294967296) + x % 4294967296 * (y % 4294967296) / 4294967296) % 4294967296 + x % 4294967296 * (y / 4294967296)) / 4294967296 < 18446744073709551616 := by omega
  go_enter Tryz.func78, Tryz.ntmps78
  go_wp2
  simp only [Go.Proofs.Mul64.maskN x hx, Go.Proofs.Mul64.maskN y hy, Go.Proofs.Mul64.divN, Go.Proofs.Mul64.mulN, Go.Proofs.Mul64.addN, Go.Proofs.Mul64.wrapN _ bd, Go.Proofs.Mul64.wrapN _ bb', Go.Proofs.Mul64.wrapN _ bt, Go.Proofs.Mul64.maskN _ bt, Go.Proofs.Mul64.wrapN _ bc', Go.Proofs.Mul64.wrapN _ bw, Go.Proofs.Mul64.wrapN _ ba', Go.Proofs.Mul64.wrapN _ bh1, Go.Proofs.Mul64.wrapN _ bh, Go.Proofs.Mul64.wrapM (x * y)]
  rw [hhi]
  go_ret2
  exact ⟨rfl, rfl⟩
theorem mul64_any (x y : Int) (w : World) (hx0 : 0 ≤ x) (hx : x < 18446744073709551616) (hy0 : 0 ≤ y) (hy : y < 18446744073709551616) :
    Calls Tryz.prog 78 #[.int .u64 x, .int .u64 y] w fun e w' => e = .returned (.tuple #[.int .u64 (x * y / 18446744073709551616), .int .u64 (x * y % 18446744073709551616)]) ∧ w = w' := by
  obtain ⟨a, rfl⟩ := Int.eq_ofNat_of_zero_le hx0
  obtain ⟨b, rfl⟩ := Int.eq_ofNat_of_zero_le hy0
  refine (bits_Mul64 a b (by omega) (by omega) w).mono fun e w' ⟨he, hw⟩ => ⟨?_, hw⟩
  rw [he]
  simp only [Int.natCast_ediv, Int.natCast_emod, Int.natCast_mul]
  rfl
theorem mul_lt (x y : Int) (hx0 : 0 ≤ x) (hx : x < 18446744073709551616) (hy0 : 0 ≤ y) (hy : y < 18446744073709551616) : 0 ≤ x * y ∧ x * y < 18446744073709551616 * 18446744073709551616 :=
  ⟨Int.mul_nonneg hx0 hy0, Int.lt_of_le_of_lt (Int.mul_le_mul_of_nonneg_right (by omega : x ≤ 18446744073709551616) hy0) (Int.mul_lt_mul_of_pos_left hy (by omega))⟩
set_option maxHeartbeats 400000 in
theorem gold_Mul (a b : Int) (w : World) (ha0 : 0 ≤ a) (ha : a < 18446744073709551616) (hb0 : 0 ≤ b) (hb : b < 18446744073709551616) :
    Calls Tryz.prog 46 #[.int .u64 a, .int .u64 b] w fun e w' => e = .returned (.int .u64 (a * b % 18446744069414584321)) ∧ w = w' := by
  obtain ⟨m0, m1⟩ := mul_lt a b ha0 ha hb0 hb
  go_enter Tryz.func46, Tryz.ntmps46
  go_wp2_with fail
  refine (mul64_any a b _ ha0 ha hb0 hb).mono ?_; rintro e w' ⟨rfl, rfl⟩
  go_wp2_with fail
  refine (gold_fold _ _ _ (by omega) (by omega) (by omega) (by omega)).mono ?_; rintro e w' ⟨rfl, rfl⟩
  go_wp2_with fail
  go_ret
  exact ⟨ret_int (by omega), rfl⟩
set_option maxHeartbeats 400000 in
theorem gold_Half (a : Int) (w : World) (ha0 : 0 ≤ a) (ha : a < 18446744073709551616) :
    Calls Tryz.prog 212 #[.int .u64 a] w fun e w' => e = .returned (.int .u64 (a * 9223372034707292161 % 18446744069414584321)) ∧ w = w' := by
  go_enter Tryz.func212, Tryz.ntmps212
  go_wp2_with fail
  refine (gold_Red a _ ha0 ha).mono ?_; rintro e w' ⟨rfl, rfl⟩
  have hm := and_one_u64 (a % 18446744069414584321) (by omega) (by omega)
  go_wp2_with fail
  all_goals
    go_ret
    refine ⟨ret_int ?_, rfl⟩
    simp only [beq_iff_eq, beq_eq_false_iff_ne] at *
    omega
/-- A power, modulo P. (Irreducible: else a tactic that brings terms to head form would reckon it.) -/
@[irreducible] def pw (a : Int) (n : Nat) : Int := a ^ n % 18446744069414584321
theorem pw_range (a : Int) (n : Nat) : 0 ≤ pw a n ∧ pw a n < 18446744069414584321 := by
  unfold pw; omega
theorem modmul_l (a b p : Int) : (a % p) * b % p = a * b % p := by rw [Int.mul_emod, Int.emod_emod, ← Int.mul_emod]
theorem modmul_r (a b p : Int) : a * (b % p) % p = a * b % p := by rw [Int.mul_emod, Int.emod_emod, ← Int.mul_emod]
theorem modpow (a p : Int) (n : Nat) : (a % p) ^ n % p = a ^ n % p := by
  induction n with
  | zero => simp
  | succ n ih => rw [Int.pow_succ, Int.pow_succ, modmul_r, ← modmul_l, ih, modmul_l]
theorem pow_step0 (p a : Int) (m : Nat) (h : m % 2 = 0) : p * (a * a % 18446744069414584321) ^ (m / 2) % 18446744069414584321 = p * a ^ m % 18446744069414584321 := by
  have e : a ^ m = (a * a) ^ (m / 2) := by
    rw [show a * a = a ^ 2 from by rw [Int.pow_succ, Int.pow_succ, Int.pow_zero, Int.one_mul], ← Int.pow_mul, show 2 * (m / 2) = m from by omega]
  rw [e, ← modmul_r, modpow, modmul_r]
theorem pow_step1 (p a : Int) (m : Nat) (h : m % 2 = 1) : (p * a % 18446744069414584321) * (a * a % 18446744069414584321) ^ (m / 2) % 18446744069414584321 = p * a ^ m % 18446744069414584321 := by
  have h2 := pow_step0 (p * a % 18446744069414584321) a (m - 1) (by omega)
  rw [show (m - 1) / 2 = m / 2 from by omega] at h2
  rw [h2, modmul_l]
  rw [Int.mul_assoc, ← Int.pow_succ', show m - 1 + 1 = m from by omega]
set_option maxHeartbeats 400000 in
theorem gold_Pow (a n : Int) (w : World) (ha0 : 0 ≤ a) (ha : a < 18446744073709551616) (hn0 : 0 ≤ n) (hn : n < 18446744073709551616) :
    Calls Tryz.prog 128 #[.int .u64 a, .int .u64 n] w fun e w' => e = .returned (.int .u64 (pw a n.toNat)) ∧ w = w' := by
  go_enter Tryz.func128, Tryz.ntmps128
  go_wp2_with fail
  refine (gold_Red a _ ha0 ha).mono ?_; rintro e w' ⟨rfl, rfl⟩
  go_wp2_with fail
  go_loop [5, 0, 1] (fun v5 v0 v1 => ∃ p b m : Int, v5 = .int .u64 p ∧ v0 = .int .u64 b ∧ v1 = .int .u64 m ∧ 0 ≤ p ∧ p < 18446744069414584321 ∧ 0 ≤ b ∧ b < 18446744069414584321 ∧ 0 ≤ m ∧ m < 18446744073709551616 ∧ Hid (p * b ^ m.toNat % 18446744069414584321 = pw a n.toNat)) (fun v5 v0 v1 => (intOf v1).toNat)
  case atStart =>
    refine ⟨1, a % 18446744069414584321, n, rfl, rfl, rfl, by omega, by omega, by omega, by omega, hn0, hn, ?_⟩
    unfold Hid pw
    rw [Int.one_mul, modpow]
  case round =>
    obtain ⟨p, b, m, rfl, rfl, rfl, hp0, hp, hb0, hb, hm0, hm, H⟩ := hrel
    by_cases h0 : 0 < m
    · have ha := and_one_u64 m (by omega) (by omega)
      have hs : IntKind.u64.wrap (m / 2) = m / 2 := by rw [IntKind.wrap_u64]; omega
      by_cases h1 : m % 2 = 1
      · have hb1 : (m % 2 == 1) = true := by rw [beq_iff_eq]; exact h1
        have H1 := Lib.hid h1; clear h1
        go_wp2_with fail
        refine (gold_Mul p b _ (by omega) (by omega) (by omega) (by omega)).mono ?_; rintro e w' ⟨rfl, rfl⟩
        go_wp2_with fail
        refine (gold_Mul b b _ (by omega) (by omega) (by omega) (by omega)).mono ?_; rintro e w' ⟨rfl, rfl⟩
        go_wp2_with fail
        go_round
        case rel =>
          refine ⟨p * b % 18446744069414584321, b * b % 18446744069414584321, m / 2, rfl, rfl, rfl, by omega, by omega, by omega, by omega, by omega, by omega, ?_⟩
          unfold Hid
          have e1 : (m / 2).toNat = m.toNat / 2 := by omega
          have h1 := H1.out
          rw [e1, pow_step1 _ _ _ (by omega)]; exact H.out
        case measure => simp [intOf]; omega
      · have hb1 : (m % 2 == 1) = false := by rw [beq_eq_false_iff_ne]; exact h1
        have H1 := Lib.hid h1; clear h1
        go_wp2_with fail
        refine (gold_Mul b b _ (by omega) (by omega) (by omega) (by omega)).mono ?_; rintro e w' ⟨rfl, rfl⟩
        go_wp2_with fail
        go_round
        case rel =>
          refine ⟨p, b * b % 18446744069414584321, m / 2, rfl, rfl, rfl, by omega, by omega, by omega, by omega, by omega, by omega, ?_⟩
          unfold Hid
          have e1 : (m / 2).toNat = m.toNat / 2 := by omega
          have h1 := H1.out
          rw [e1, pow_step0 _ _ _ (by omega)]; exact H.out
        case measure => simp [intOf]; omega
    · go_wp2_with fail
      go_ret
      refine ⟨ret_int ?_, rfl⟩
      have h := H.out
      rw [show m.toNat = 0 from by omega, Int.pow_zero, Int.mul_one] at h
      omega
theorem gold_Inv (a : Int) (w : World) (ha0 : 0 ≤ a) (ha : a < 18446744073709551616) :
    Calls Tryz.prog 104 #[.int .u64 a] w fun e w' => e = .returned (.int .u64 (pw a 18446744069414584319)) ∧ w = w' := by
  go_enter Tryz.func104, Tryz.ntmps104
  go_wp2_with fail
  refine (gold_Pow a _ _ ha0 ha (by omega) (by omega)).mono ?_; rintro e w' ⟨rfl, rfl⟩
  go_wp2_with fail
  go_ret
  exact ⟨rfl, rfl⟩
/-- The sum of all, modulo P. -/
def sumP (xs : List Int) : Int := xs.foldl (fun s x => (s + x) % 18446744069414584321) 0
theorem sumP_snoc (xs : List Int) (x : Int) : sumP (xs ++ [x]) = (sumP xs + x) % 18446744069414584321 := by
  simp [sumP, List.foldl_append]
theorem sumP_range (xs : List Int) : 0 ≤ sumP xs ∧ sumP xs < 18446744069414584321 := by
  rcases List.eq_nil_or_concat xs with rfl | ⟨l, b, rfl⟩
  · simp [sumP]
  · rw [List.concat_eq_append, sumP_snoc]; omega
set_option maxHeartbeats 400000 in
theorem gold_Sum (a : Option Addr) (cap : Nat) (xs : List Int) (w : World) (hx : Row .u64 w a xs) :
    Calls Tryz.prog 189 #[.slice a xs.length cap] w fun e w' => e = .returned (.int .u64 (sumP xs)) ∧ w = w' := by
  have hlen := hx.len
  have HX : Hid (Row .u64 w a xs) := hx
  clear hx
  go_enter Tryz.func189, Tryz.ntmps189
  go_wp2_with fail
  go_loop [3, 8] (fun s i => ∃ k : Nat, k ≤ xs.length ∧ i = .int .i64 k ∧ s = .int .u64 (sumP (xs.take k))) (fun _ i => xs.length - (intOf i).toNat)
  case atStart => exact ⟨0, Nat.zero_le _, rfl, rfl⟩
  case round =>
    obtain ⟨k, hk, rfl, rfl⟩ := hrel
    have hs := sumP_range (xs.take k)
    by_cases hlt : k < xs.length
    · obtain ⟨b, off, rfl, hc⟩ := HX.out.at (by omega)
      have hck := hc k hlt
      have hf := fits_u64.1 (HX.out.wf _ (nth_mem hlt))
      clear hc
      go_wp2_with fail
      refine (gold_Add _ _ _ (by omega) (by omega) (by omega) (by omega)).mono ?_; rintro e w' ⟨rfl, rfl⟩
      go_wp2_with fail
      go_round
      case rel => exact ⟨k + 1, by omega, by go_num, by rw [take_succ_nth hlt, sumP_snoc]⟩
      case measure => simp [intOf]; omega
    · go_wp2_with fail
      go_ret
      exact ⟨ret_int (by rw [List.take_of_length_le (by omega)]), rfl⟩
end Go.Proofs.YtlnlijeamflpiaaGreat

namespace Go.Proofs.YtlnlijeamflpiaaGreat
open Go.RowKit
set_option linter.unusedVariables false
set_option linter.unusedSimpArgs false
set_option maxRecDepth 100000
theorem ref_Red (a : Int) (w : World) (h0 : 0 ≤ a) (h1 : a < 18446744073709551616) :
    Calls Tryz.prog 44 #[.int .u64 a] w fun e w' => e = .returned (.int .u64 (a % 18446744069414584321)) ∧ w = w' := by
  go_enter Tryz.func44, Tryz.ntmps44
  go_wp2_with fail
  go_ret
  exact ⟨rfl, rfl⟩
theorem ref_Add (a b : Int) (w : World) (ha0 : 0 ≤ a) (ha : a < 18446744069414584321) (hb0 : 0 ≤ b) (hb : b < 18446744069414584321) :
    Calls Tryz.prog 43 #[.int .u64 a, .int .u64 b] w fun e w' => e = .returned (.int .u64 ((a + b) % 18446744069414584321)) ∧ w = w' := by
  by_cases h : 18446744069414584321 - b ≤ a
  all_goals
    go_enter Tryz.func43, Tryz.ntmps43
    go_wp2_with fail
    go_ret
    exact ⟨ret_int (by omega), rfl⟩
/-- One bit more of a number. -/
theorem bit_step (a : Int) (j : Nat) : a / 2 ^ j = 2 * (a / 2 ^ (j + 1)) + a / 2 ^ j % 2 := by
  rw [Int.pow_succ, ← Int.ediv_ediv_of_nonneg (Int.le_of_lt (Int.pow_pos (by omega)))]; omega
theorem div_pow64 (a : Int) (h0 : 0 ≤ a) (h : a < 18446744073709551616) : a / 2 ^ 64 = 0 := Int.ediv_eq_zero_of_lt h0 h
theorem div_pow_nonneg (a : Int) (j : Nat) (h0 : 0 ≤ a) : 0 ≤ a / 2 ^ j := Int.ediv_nonneg h0 (Int.le_of_lt (Int.pow_pos (by omega)))
set_option maxHeartbeats 400000 in
theorem ref_Mul (a b : Int) (w : World) (ha0 : 0 ≤ a) (ha : a < 18446744073709551616) (hb0 : 0 ≤ b) (hb : b < 18446744069414584321) :
    Calls Tryz.prog 17 #[.int .u64 a, .int .u64 b] w fun e w' => e = .returned (.int .u64 (a * b % 18446744069414584321)) ∧ w = w' := by
  go_enter Tryz.func17, Tryz.ntmps17
  go_wp2_with fail
  go_loop [5, 6] (fun s i => ∃ (k : Nat) (t : Int), k ≤ 64 ∧ 0 ≤ t ∧ t < 18446744069414584321 ∧ i = .int .i64 ((k : Int) - 1) ∧ s = .int .u64 t ∧ Hid (t = a / 2 ^ k * b % 18446744069414584321)) (fun _ i => (intOf i + 1).toNat)
  case atStart => exact ⟨64, 0, by omega, by omega, by omega, rfl, rfl, by unfold Hid; rw [div_pow64 a ha0 ha]; simp⟩
  case round =>
    obtain ⟨k, t, hk, ht0, ht, rfl, rfl, H⟩ := hrel
    by_cases h0 : 1 ≤ k
    · obtain ⟨j, rfl⟩ : ∃ j, k = j + 1 := ⟨k - 1, by omega⟩
      have hd := div_pow_nonneg a j ha0
      have hbs := Lib.hid (bit_step a j)
      by_cases h1 : a / 2 ^ j % 2 = 1
      · have hb1 : (a / 2 ^ j % 2 == 1) = true := by rw [beq_iff_eq]; exact h1
        have H1 := Lib.hid h1; clear h1
        go_wp2_with fail
        refine (ref_Add t t _ (by omega) (by omega) (by omega) (by omega)).mono ?_; rintro e w' ⟨rfl, rfl⟩
        go_wp2_with fail
        refine (ref_Add _ b _ (by omega) (by omega) (by omega) (by omega)).mono ?_; rintro e w' ⟨rfl, rfl⟩
        go_wp2_with fail
        go_round
        case rel =>
          refine ⟨j, _, by omega, ?_, ?_, by go_num, rfl, ?_⟩
          · omega
          · omega
          · have e := hbs.out; have e2 := H1.out; have e3 := H.out
            unfold Hid
            rw [e, e2, e3]
            generalize a / 2 ^ (j + 1) = q
            rw [show (2 * q + 1) * b = q * b + q * b + b from by rw [Int.add_mul, Int.two_mul, Int.add_mul, Int.one_mul]]
            generalize q * b = z
            omega
        case measure => simp [intOf]
      · have hb1 : (a / 2 ^ j % 2 == 1) = false := by rw [beq_eq_false_iff_ne]; exact h1
        have h2 : a / 2 ^ j % 2 = 0 := by omega
        have H1 := Lib.hid h2; clear h1 h2
        go_wp2_with fail
        refine (ref_Add t t _ (by omega) (by omega) (by omega) (by omega)).mono ?_; rintro e w' ⟨rfl, rfl⟩
        go_wp2_with fail
        go_round
        case rel =>
          refine ⟨j, _, by omega, ?_, ?_, by go_num, rfl, ?_⟩
          · omega
          · omega
          · have e := hbs.out; have e2 := H1.out; have e3 := H.out
            unfold Hid
            rw [e, e2, e3]
            generalize a / 2 ^ (j + 1) = q
            rw [show (2 * q + 0) * b = q * b + q * b from by rw [Int.add_zero, Int.two_mul, Int.add_mul]]
            generalize q * b = z
            omega
        case measure => simp [intOf]
    · obtain rfl : k = 0 := by omega
      go_wp2_with fail
      go_ret
      exact ⟨ret_int (by rw [H.out]; simp), rfl⟩
theorem pow_bit (a n : Int) (j : Nat) (h0 : 0 ≤ n) : (n / 2 ^ j).toNat = 2 * (n / 2 ^ (j + 1)).toNat + (n / 2 ^ j % 2).toNat := by
  have := bit_step n j
  have := div_pow_nonneg n j h0
  have := div_pow_nonneg n (j + 1) h0
  omega
set_option maxHeartbeats 400000 in
theorem ref_Pow (a n : Int) (w : World) (ha0 : 0 ≤ a) (ha : a < 18446744069414584321) (hn0 : 0 ≤ n) (hn : n < 18446744073709551616) :
    Calls Tryz.prog 23 #[.int .u64 a, .int .u64 n] w fun e w' => e = .returned (.int .u64 (pw a n.toNat)) ∧ w = w' := by
  go_enter Tryz.func23, Tryz.ntmps23
  go_wp2_with fail
  go_loop [5, 6] (fun s i => ∃ (k : Nat) (t : Int), k ≤ 64 ∧ 0 ≤ t ∧ t < 18446744069414584321 ∧ i = .int .i64 ((k : Int) - 1) ∧ s = .int .u64 t ∧ Hid (t = pw a (n / 2 ^ k).toNat)) (fun _ i => (intOf i + 1).toNat)
  case atStart => exact ⟨64, 1, by omega, by omega, by omega, rfl, rfl, by unfold Hid; rw [div_pow64 n hn0 hn]; simp [pw]⟩
  case round =>
    obtain ⟨k, t, hk, ht0, ht, rfl, rfl, H⟩ := hrel
    by_cases h0 : 1 ≤ k
    · obtain ⟨j, rfl⟩ : ∃ j, k = j + 1 := ⟨k - 1, by omega⟩
      have hd := div_pow_nonneg n j hn0
      have hbs := Lib.hid (pow_bit a n j hn0)
      by_cases h1 : n / 2 ^ j % 2 = 1
      · have hb1 : (n / 2 ^ j % 2 == 1) = true := by rw [beq_iff_eq]; exact h1
        have H1 := Lib.hid h1; clear h1
        go_wp2_with fail
        refine (ref_Mul t t _ (by omega) (by omega) (by omega) (by omega)).mono ?_; rintro e w' ⟨rfl, rfl⟩
        go_wp2_with fail
        refine (ref_Mul _ a _ (by omega) (by omega) (by omega) (by omega)).mono ?_; rintro e w' ⟨rfl, rfl⟩
        go_wp2_with fail
        go_round
        case rel =>
          refine ⟨j, _, by omega, ?_, ?_, by go_num, rfl, ?_⟩
          · omega
          · omega
          · have e := hbs.out; have e2 := H1.out; have e3 := H.out
            unfold Hid
            rw [e, e2, e3]
            unfold pw
            generalize (n / 2 ^ (j + 1)).toNat = q
            rw [show (1 : Int).toNat = 1 from rfl, Int.pow_succ, Nat.two_mul, Int.pow_add, modmul_l, ← modmul_l, ← modmul_l (a ^ q * a ^ q), modmul_l (a ^ q), modmul_r (a ^ q)]
        case measure => simp [intOf]
      · have hb1 : (n / 2 ^ j % 2 == 1) = false := by rw [beq_eq_false_iff_ne]; exact h1
        have h2 : n / 2 ^ j % 2 = 0 := by omega
        have H1 := Lib.hid h2; clear h1 h2
        go_wp2_with fail
        refine (ref_Mul t t _ (by omega) (by omega) (by omega) (by omega)).mono ?_; rintro e w' ⟨rfl, rfl⟩
        go_wp2_with fail
        go_round
        case rel =>
          refine ⟨j, _, by omega, ?_, ?_, by go_num, rfl, ?_⟩
          · omega
          · omega
          · have e := hbs.out; have e2 := H1.out; have e3 := H.out
            unfold Hid
            rw [e, e2, e3]
            unfold pw
            generalize (n / 2 ^ (j + 1)).toNat = q
            rw [show (0 : Int).toNat = 0 from rfl, Nat.add_zero, Nat.two_mul, Int.pow_add, modmul_l, modmul_r]
        case measure => simp [intOf]
    · obtain rfl : k = 0 := by omega
      go_wp2_with fail
      go_ret
      exact ⟨ret_int (by rw [H.out]; simp), rfl⟩
set_option maxHeartbeats 400000 in
/-- Two rows: are they the same? -/
theorem ref_Same (a b : Option Addr) (ca cb : Nat) (xs ys : List Int) (w : World) (hx : Row .u64 w a xs) (hy : Row .u64 w b ys) :
    Calls Tryz.prog 13 #[.slice a xs.length ca, .slice b ys.length cb] w fun e w' => e = .returned (.bool (decide (xs = ys))) ∧ Below w.heap.size w w' := by
  have hlx := hx.len
  have hly := hy.len
  by_cases hl : xs.length = ys.length
  · have HL := Lib.hid hl
    have HX := Lib.hid hx
    have HY := Lib.hid hy
    have hne : ((xs.length : Int) != (ys.length : Int)) = false := by simp [hl]
    clear hx hy hl
    go_enter Tryz.func13, Tryz.ntmps13
    go_wp2_with fail
    go_loopw [5] (fun i wr => ∃ k : Nat, k ≤ xs.length ∧ i = .int .i64 k ∧ Below w.heap.size w wr ∧ Hid (∀ j, j < k → nth xs j = nth ys j)) (fun i _ => xs.length - (intOf i).toNat)
    case atStart => exact ⟨0, Nat.zero_le _, rfl, Below.refl _ _, fun j hj => by omega⟩
    case round =>
      obtain ⟨k, hk, rfl, hb, H⟩ := hrel
      by_cases hlt : k < xs.length
      · have hlt' : k < ys.length := by have := HL.out; omega
        have i1 : (0 : Int) ≤ (k : Int) := by omega
        have i2 : (k : Int) < (xs.length : Int) := by omega
        have i3 : (k : Int) < (ys.length : Int) := by omega
        obtain ⟨b1, o1, rfl, hc1⟩ := (HX.out.below hb).at (by omega)
        obtain ⟨b2, o2, rfl, hc2⟩ := (HY.out.below hb).at (by omega)
        have h1 := hc1 k hlt
        have h2 := hc2 k hlt'
        clear hc1 hc2
        by_cases he : nth xs k = nth ys k
        · have hbe : (nth xs k != nth ys k) = false := by simp [he]
          have HE := Lib.hid he
          clear he
          go_wp2_with fail
          go_quiet (fail)
          go_wp2_with fail
          go_roundw
          case rel =>
            refine ⟨k + 1, by omega, by go_num, by first | exact below_drewN hb _ | exact hb.drew, ?_⟩
            intro j hj
            by_cases hjk : j < k
            · exact H.out j hjk
            · obtain rfl : j = k := by omega
              exact HE.out
          case measure => simp [intOf]; omega
        · have hbe : (nth xs k != nth ys k) = true := by simp [he]
          have HE : Hid (xs ≠ ys) := by
            intro h; apply he; rw [h]
          clear he
          go_wp2_with fail
          go_quiet (fail)
          go_wp2_with fail
          go_ret
          exact ⟨ret_bool (by have := HE.out; simp [this]), by first | exact below_drewN hb _ | exact hb.drew⟩
      · go_wp2_with fail
        go_ret
        have : xs = ys := ext_nth HL.out (fun i hi => H.out i (by omega))
        exact ⟨ret_bool (by simp [this]), hb⟩
  · have HL := Lib.hid hl
    have hne : ((xs.length : Int) != (ys.length : Int)) = true := by simp; omega
    have : xs ≠ ys := fun h => hl (by rw [h])
    have HE := Lib.hid this
    clear this hl hx hy
    go_enter Tryz.func13, Tryz.ntmps13
    go_wp2_with fail
    go_ret
    exact ⟨ret_bool (by have := HE.out; simp [this]), Below.refl _ _⟩
end Go.Proofs.YtlnlijeamflpiaaGreat

namespace Go.Proofs.YtlnlijeamflpiaaGreat
open Go.RowKit
set_option linter.unusedVariables false
set_option linter.unusedSimpArgs false
set_option maxRecDepth 100000
theorem btrue {a b : Int} (h : a = b) : (a == b) = true := by simp [h]
theorem bno {a b : Int} (h : a ≠ b) : (a == b) = false := by simp [h]
theorem bfalse {a b : Int} (h : a = b) : (a != b) = false := by simp [h]
theorem bdiff {a b : Int} (h : a ≠ b) : (a != b) = true := by simp [h]
theorem bfalse' {a b : Int} (h : a = b) : (a != b) = false := by simp [h]
end Go.Proofs.YtlnlijeamflpiaaGreat

namespace Go.Proofs.YtlnlijeamflpiaaGreat
open Go.RowKit
set_option linter.unusedVariables false
set_option linter.unusedSimpArgs false
set_option maxRecDepth 100000
theorem fermat_int (n e p : Nat) (q : Int) (hq : (p : Int) = q) (h : n ^ e % p = 1) : (n : Int) ^ e % q = 1 := by
  have h3 : ((n ^ e % p : Nat) : Int) = 1 := by rw [h]; rfl
  rw [Int.natCast_emod, Int.natCast_pow, hq] at h3
  exact h3
theorem pn_sub : Fld.pn - 1 = 18446744069414584320 := rfl
/-- Fermat's theorem over the integers. -/
theorem fermatZ (a : Int) (h0 : 0 ≤ a) (h : a % 18446744069414584321 ≠ 0) : pw a 18446744069414584320 = 1 := by
  obtain ⟨n, rfl⟩ := Int.eq_ofNat_of_zero_le h0
  have h1 : n % Fld.pn ≠ 0 := by
    unfold Fld.pn; omega
  have h2 := Fld.fermat n h1
  rw [pn_sub] at h2
  unfold pw
  exact fermat_int n _ Fld.pn _ rfl h2
theorem pw_inv (a : Int) (h0 : 0 ≤ a) (h : a % 18446744069414584321 ≠ 0) : a * pw a 18446744069414584319 % 18446744069414584321 = 1 := by
  have h1 := fermatZ a h0 h
  unfold pw at *
  rw [modmul_r, ← Int.pow_succ']
  exact h1
end Go.Proofs.YtlnlijeamflpiaaGreat

namespace Go.Proofs.YtlnlijeamflpiaaGreat
open Go.RowKit
set_option linter.unusedVariables false
set_option linter.unusedSimpArgs false
set_option maxRecDepth 100000
/-- The value in a new block of one cell (a captured variable). -/
theorem one_new (w : World) (v : Value) (t : TypeId) : (w.alloc (.cells #[v] t)).cell? ⟨w.heap.size, 0, none⟩ = some v := by
  simp
theorem cell_new {w : World} {v : Value} {t : TypeId} {n : Nat} (h : n = w.heap.size) : (w.alloc (.cells #[v] t)).cell? ⟨n, 0, none⟩ = some v := by
  subst h; simp
theorem cell_past (w : World) (o : Obj) (a : Addr) (h : a.block < w.heap.size) : (w.alloc o).cell? a = w.cell? a := ((Below.refl _ _).alloc (Nat.le_refl _) o).cell h
theorem grown_of_drew {w w1 : World} {row : Option Nat} (hg : w.drew.grownBy w1 row) : w.grownBy w1 row := ⟨hg.os, hg.tape, hg.output, hg.size, hg.block⟩
/-- A result: a new row that reads as the list. -/
def GivesRow (k : IntKind) (xs : List Int) (w : World) (e : Ending) (w' : World) : Prop :=
  ∃ a cap, e = .returned (.slice a xs.length cap) ∧ Row k w' a xs ∧ OkCap a xs.length cap ∧ Below w.heap.size w w'
/-- The slice value v, of n numbers (the i-th: f i), is the call's own: it was made behind the world w. -/
structure Own (k : IntKind) (e : TypeId) (w wr : World) (v : Value) (n : Nat) (f : Nat → Int) : Prop where
  own : wr.ownsRow w.heap.size e 1 v n ((List.range n).map fun j => Value.int k (f j))
  below : Below w.heap.size w wr
theorem Own.nil (k : IntKind) (e : TypeId) (w : World) (f : Nat → Int) : Own k e w w (.slice none 0 0) 0 f := ⟨World.ownsRow_nil _ _ _ _, Below.refl _ _⟩
theorem own_lt {wr : World} {e : TypeId} {v : Value} {n : Nat} {xs : List Value} {B : Nat} (h : wr.ownsRow B e 1 v n xs) : ∀ k, v.ownBlock = some k → B ≤ k := fun k hk => (h.lt k hk).1
theorem below_grown {w wr w1 : World} {o : Obj} {B : Nat} {row : Option Nat} (hb : Below B w wr) (hB : B ≤ wr.heap.size) (hr : ∀ k, row = some k → B ≤ k) (hg : (wr.alloc o).grownBy w1 row) : Below B w w1 :=
  (hb.alloc hB o).grown hg (by simp; omega) hr
theorem size_alloc_le {w wr : World} (hb : Below w.heap.size w wr) (o : Obj) : w.heap.size ≤ (wr.alloc o).heap.size := by
  have := hb.size; simp; omega
theorem one_cell (k : IntKind) (x : Int) : ∀ u ∈ [Value.int k x], u.oneCell' = true := by
  intro u hu; simp at hu; subst hu; rfl
theorem Own.push {k : IntKind} {e : TypeId} {w wr w1 : World} {v v' : Value} {n : Nat} {f : Nat → Int} {o : Obj} (h : Own k e w wr v n f) (x : Int) (hx : x = f n)
    (hown : w1.ownsRow w.heap.size e 1 v' (n + 1) (((List.range n).map fun j => Value.int k (f j)) ++ [.int k x])) (hg : (wr.alloc o).grownBy w1 v.ownBlock) : Own k e w w1 v' (n + 1) f := by
  subst hx
  refine ⟨?_, below_grown h.below h.below.size (own_lt h.own) hg⟩
  rw [List.range_succ, List.map_append]
  exact hown
theorem Own.drew {k : IntKind} {e : TypeId} {w wr : World} {v : Value} {n : Nat} {f : Nat → Int} (h : Own k e w wr v n f) : Own k e w wr.drew v n f := ⟨h.own.drew, h.below.drew⟩
theorem Own.later {k : IntKind} {e : TypeId} {w wr w' : World} {v : Value} {n : Nat} {f : Nat → Int} (h : Own k e w wr v n f) (hb : Below wr.heap.size wr w') : Own k e w w' v n f :=
  ⟨h.own.kept (row := none) ⟨hb.os, hb.tape, hb.output, hb.size, fun j hj _ => hb.block j hj⟩ (by cases v.ownBlock <;> simp), h.below.trans (hb.mono h.below.size)⟩
theorem own_slice {w : World} {B : Nat} {e : TypeId} {v : Value} {n : Nat} {xs : List Value} (h : w.ownsRow B e 1 v n xs) : ∃ a cap, v = .slice a n cap ∧ OkCap a n cap := by
  rcases h.2 with ⟨rfl, rfl⟩ | ⟨g, cap, cur, rfl, _, _, hc, _⟩
  · exact ⟨none, 0, rfl, Nat.le_refl _, fun _ => rfl⟩
  · exact ⟨_, _, rfl, hc, fun h => by cases h⟩
theorem Own.gives {k : IntKind} {e : TypeId} {w wr : World} {v : Value} {n : Nat} {f : Nat → Int} (h : Own k e w wr v n f) {xs : List Int} (hn : xs.length = n) (hw : ∀ x ∈ xs, fits k x) (hf : ∀ i, i < n → nth xs i = f i) (hl : n ≤ 16777216) :
    GivesRow k xs w (.returned v) wr := by
  obtain ⟨a, cap, rfl, hnil⟩ := own_slice h.own
  refine ⟨a, cap, by rw [hn], ?_, by rw [hn]; exact hnil, h.below⟩
  refine Row.of_own hn (by omega) hw (base := w.heap.size) (e := e) (cap := cap) ?_
  have e1 : xs.map (Value.int k) = (List.range n).map fun j => Value.int k (f j) := by
    apply List.ext_getElem (by simp [hn])
    intro i h1 h2
    have h3 : i < n := by simpa [hn] using h1
    have := hf i h3
    simp only [List.getElem_map, List.getElem_range]
    rw [← this]
    simp [nth, show i < xs.length by omega]
  rw [e1]
  exact h.own
/-- The row of n numbers at the head of block g is the call's own. -/
structure OwnAt (k : IntKind) (e : TypeId) (w wr : World) (g n : Nat) (f : Nat → Int) : Prop where
  own : wr.ownsRow w.heap.size e 1 (.slice (some ⟨g, 0, none⟩) n n) n ((List.range n).map fun j => Value.int k (f j))
  below : Below w.heap.size w wr
theorem OwnAt.cell {k : IntKind} {e : TypeId} {w wr : World} {g n : Nat} {f : Nat → Int} (h : OwnAt k e w wr g n f) (i : Nat) (hi : i < n) : wr.cell? ⟨g, i, none⟩ = some (.int k (f i)) := by
  rw [h.own.cellAt i (by omega)]; simp [hi]
theorem OwnAt.free {k : IntKind} {e : TypeId} {w wr : World} {g n : Nat} {f : Nat → Int} (h : OwnAt k e w wr g n f) (i : Nat) : wr.frozen? ⟨g, i, none⟩ = false := h.own.frozenAt i
theorem OwnAt.base {k : IntKind} {e : TypeId} {w wr : World} {g n : Nat} {f : Nat → Int} (h : OwnAt k e w wr g n f) : w.heap.size ≤ g ∧ g < wr.heap.size := h.own.lt g rfl
theorem OwnAt.later {k : IntKind} {e : TypeId} {w wr w' : World} {g n : Nat} {f : Nat → Int} (h : OwnAt k e w wr g n f) (hb : Below wr.heap.size wr w') : OwnAt k e w w' g n f := by
  refine ⟨?_, h.below.trans (hb.mono h.below.size)⟩
  exact h.own.kept (row := none) ⟨hb.os, hb.tape, hb.output, hb.size, fun j hj _ => hb.block j hj⟩ (.inr (by simp [Value.ownBlock]))
theorem list_store {k : IntKind} (n i : Nat) (hi : i < n) (f f' : Nat → Int) (x : Int) (hx : f' i = x) (hf : ∀ j, j < n → j ≠ i → f' j = f j) :
    ((List.range n).map fun j => Value.int k (f j)).set i (.int k x) = (List.range n).map fun j => Value.int k (f' j) := by
  apply List.ext_getElem (by simp)
  intro j h1 h2
  have hj : j < n := by simpa using h2
  by_cases hji : j = i
  · subst hji; simp [hx]
  · rw [List.getElem_set_ne (Ne.symm hji)]; simp [hf j hj hji]
theorem OwnAt.store {k : IntKind} {e : TypeId} {w wr : World} {g n : Nat} {f f' : Nat → Int} (h : OwnAt k e w wr g n f) (i : Nat) (hi : i < n) (x : Int) (hx : f' i = x) (hf : ∀ j, j < n → j ≠ i → f' j = f j) :
    OwnAt k e w (wr.setCell ⟨g, i, none⟩ (.int k x)) g n f' := by
  refine ⟨?_, h.below.setCell h.base.1 _⟩
  have h1 := h.own.stored i (.int k x)
  rw [list_store n i hi f f' x hx hf] at h1
  exact h1.1
theorem OwnAt.gives {k : IntKind} {e : TypeId} {w wr : World} {g n : Nat} {f : Nat → Int} (h : OwnAt k e w wr g n f) {xs : List Int} (hn : xs.length = n) (hw : ∀ x ∈ xs, fits k x) (hf : ∀ i, i < n → nth xs i = f i) (hl : n ≤ 16777216) :
    GivesRow k xs w (.returned (.slice (some ⟨g, 0, none⟩) n n)) wr :=
  Own.gives (e := e) ⟨h.own, h.below⟩ hn hw hf hl
theorem OwnAt.row {k : IntKind} {e : TypeId} {w wr : World} {g n : Nat} {f : Nat → Int} (h : OwnAt k e w wr g n f) {xs : List Int} (hn : xs.length = n) (hw : ∀ x ∈ xs, fits k x) (hf : ∀ i, i < n → nth xs i = f i) (hl : n ≤ 16777216) :
    Row k wr (some ⟨g, 0, none⟩) xs := by
  obtain ⟨a, cap, he, hr, _⟩ := h.gives hn hw hf hl
  simp only [Ending.returned.injEq, Value.slice.injEq] at he
  rw [he.1]; exact hr
theorem Own.made {k : IntKind} {e : TypeId} {w w1 : World} {n : Nat} (h : w1.ownsRow w.heap.size e 1 (.slice (some ⟨w.heap.size, 0, none⟩) n n) n (madeCells #[Value.int k 0] n).toList) (hg : w.grownBy w1 none) :
    OwnAt k e w w1 w.heap.size n (fun _ => 0) := by
  refine ⟨?_, (Below.refl _ _).grown hg (Nat.le_refl _) (by simp)⟩
  have e1 : (madeCells #[Value.int k 0] n).toList = (List.range n).map fun j => Value.int k 0 := by
    rw [toList_madeCells_one]
    apply List.ext_getElem (by simp)
    intro i h1 h2
    simp
  rw [e1] at h
  exact h
theorem own_later {w w' : World} {B : Nat} {e : TypeId} {v : Value} {n : Nat} {xs : List Value} (h : w.ownsRow B e 1 v n xs) (hb : Below w.heap.size w w') : w'.ownsRow B e 1 v n xs :=
  h.kept (row := none) ⟨hb.os, hb.tape, hb.output, hb.size, fun j hj _ => hb.block j hj⟩ (by cases v.ownBlock <;> simp)
theorem gives_of_own {k : IntKind} {e : TypeId} {w wr : World} {v : Value} {n : Nat} {L : List Value} (h : wr.ownsRow w.heap.size e 1 v n L) (hb : Below w.heap.size w wr) {xs : List Int} (hL : L = xs.map (Value.int k)) (hn : xs.length = n) (hw : ∀ x ∈ xs, fits k x) (hl : n ≤ 16777216) :
    GivesRow k xs w (.returned v) wr := by
  subst hL
  obtain ⟨a, cap, rfl, hnil⟩ := own_slice h
  exact ⟨a, cap, by rw [hn], Row.of_own hn (by omega) hw h, by rw [hn]; exact hnil, hb⟩
theorem append_below {w w1 w2 : World} {B : Nat} {e : TypeId} {v : Value} {n : Nat} {xs : List Value} (hb : Below B w w1) (hB : B ≤ w1.heap.size) (hown : w1.ownsRow B e 1 v n xs) (hg : w1.grownBy w2 v.ownBlock) : Below B w w2 :=
  hb.grown hg hB (own_lt hown)
/-- A new block that holds the numbers, as a row. -/
theorem row_new (k : IntKind) (w : World) (t : TypeId) (xs : List Int) (hw : ∀ x ∈ xs, fits k x) (hl : xs.length ≤ 16777216) : Row k (w.alloc (.cells (xs.map (Value.int k)).toArray t)) (some ⟨w.heap.size, 0, none⟩) xs := by
  have h := World.ownsRow_lit (base := 0) (e := t) (size := 1) w (xs.map (Value.int k)).toArray xs.length (Nat.zero_le _) (by unfold maxLen; omega) (by simp)
  exact Row.of_own (base := 0) (e := t) (cap := xs.length) rfl (by omega) hw (by simpa using h)
end Go.Proofs.YtlnlijeamflpiaaGreat

namespace Go.Proofs.YtlnlijeamflpiaaGreat
open Go.RowKit
set_option linter.unusedVariables false
set_option linter.unusedSimpArgs false
set_option maxRecDepth 100000
set_option maxHeartbeats 400000 in
theorem vec_each (n : Nat) (g : Nat → Int) (fid : Nat) (caps : Array Value) (w : World) (hn : n ≤ 16777216) (hg : ∀ i, i < n → fits .u64 (g i)) 
    (hent : ∀ args w, (callFunc fid args).run Tryz.prog w = .ok (.enter fid args) w)
    (hf : ∀ (i : Nat) (wr : World), i < n → Below w.heap.size w wr → Calls Tryz.prog fid (#[.int .i64 i] ++ caps) wr fun e w' => e = .returned (.int .u64 (g i)) ∧ Below wr.heap.size wr w') :
    Calls Tryz.prog 82 #[.int .i64 n, .func (.func fid) #[] caps] w (GivesRow .u64 ((List.range n).map g) w) := by
  obtain ⟨i0, hi, hz0, hz1, hz2⟩ := info_parts info_u64
  have HF := Lib.hid hf
  have HG := Lib.hid hg
  clear hf hg
  go_enter Tryz.func82, Tryz.ntmps82
  go_wp2_with (at_make; refine wpList_make_full _ rfl _ _ 22 rfl w.heap.size 23 i0 (.int .u64 0) 1 Tryz.underlying22 hi hz0 hz1 .i64 .i64 n n n rfl rfl rfl rfl (by rw [hz2]; omega) (by unfold maxLen; omega) (Nat.le_refl _) ?_)
  intro w1 hown0 hgrow0
  have hown := Own.made hown0 hgrow0
  clear hown0 hgrow0
  go_wp2_with fail
  go_loopw [11] (fun i wr => ∃ k : Nat, k ≤ n ∧ i = .int .i64 k ∧ OwnAt .u64 23 w wr w.heap.size n (fun j => if j < k then g j else 0)) (fun i _ => n - (intOf i).toNat)
  case atStart => exact ⟨0, Nat.zero_le _, rfl, by simpa using hown⟩
  case round =>
    obtain ⟨k, hk, rfl, hown⟩ := hrel
    by_cases hlt : k < n
    · have hcall := HF.out k wr hlt hown.below
      go_wp2_with fail
      refine hcall.mono ?_
      rintro e w' ⟨rfl, hb'⟩
      have hown2 := hown.later hb'
      have hc := hown2.cell k hlt
      rw [if_neg (Nat.lt_irrefl k)] at hc
      have hfz := hown2.free k
      have hnext := hown2.store k hlt (g k) (f' := fun j => if j < k + 1 then g j else 0) (by simp) (fun j _ hj => by
        by_cases h1 : j < k
        · simp [h1, show j < k + 1 by omega]
        · simp [h1, show ¬ j < k + 1 by omega])
      have HN := Lib.hid hnext
      clear hnext hcall hown hown2 hb'
      go_wp2_with fail
      go_roundw
      case rel => exact ⟨k + 1, by omega, by go_num, HN.out⟩
      case measure => simp [intOf]; omega
    · have hres := hown.gives (xs := (List.range n).map g) (by simp) (fun x hx => by obtain ⟨i, hi, rfl⟩ := List.mem_map.1 hx; exact HG.out i (by simpa using hi)) (fun i hi => by rw [nth_ofFn _ _ _ hi, if_pos (by omega)]) hn
      clear hown
      go_wp2_with fail
      go_ret
      exact hres
theorem modfits (f : Nat → Int) {n : Nat} : ∀ i, i < n → fits .u64 (f i % 18446744069414584321) := fun i _ => fits_u64.2 (by omega)
set_option maxHeartbeats 400000 in
theorem vec_Red1 (i : Nat) (a : Option Addr) (cap : Nat) (xs : List Int) (p : Nat) (w : World) (hi : i < xs.length) (hc : w.cell? ⟨p, 0, none⟩ = some (.slice a xs.length cap)) (hx : Row .u64 w a xs) :
    Calls Tryz.prog 83 #[.int .i64 i, .pointer (some ⟨p, 0, none⟩)] w fun e w' => e = .returned (.int .u64 (nth xs i % 18446744069414584321)) ∧ w = w' := by
  have hl := hx.len
  obtain ⟨b, off, rfl, hcs⟩ := hx.at (by omega)
  have hck := hcs i hi
  have hf := fits_u64.1 (hx.wf _ (nth_mem hi))
  clear hcs hx
  go_enter Tryz.func83, Tryz.ntmps83
  go_wp2_with (first | (go_at_call 76; refine (gold_Red _ _ (by omega) (by omega)).mono ?_; rintro e w' ⟨rfl, rfl⟩))
  go_ret
  exact ⟨rfl, rfl⟩
set_option maxHeartbeats 400000 in
theorem vec_Red (a : Option Addr) (cap : Nat) (xs : List Int) (w : World) (hx : Row .u64 w a xs) (hl : xs.length ≤ 16777216) :
    Calls Tryz.prog 49 #[.slice a xs.length cap] w (GivesRow .u64 (xs.map (· % 18446744069414584321)) w) := by
  have hent : ∀ args w, (callFunc 83 args).run Tryz.prog w = .ok (.enter 83 args) w := enters_of Tryz.func83 (by kernel_rfl) rfl
  have HX : Hid (Row .u64 w a xs) := hx
  clear hx
  have hc0 := one_new w (.slice a xs.length cap) 22
  have hf : ∀ (i : Nat) (wr : World), i < xs.length → Below (w.alloc (.cells #[.slice a xs.length cap] 22)).heap.size (w.alloc (.cells #[.slice a xs.length cap] 22)) wr →
      Calls Tryz.prog 83 (#[.int .i64 i] ++ #[.pointer (some ⟨w.heap.size, 0, none⟩)]) wr fun e w' => e = .returned (.int .u64 (nth xs i % 18446744069414584321)) ∧ Below wr.heap.size wr w' :=
    fun i wr hi hb => (vec_Red1 i a cap xs w.heap.size wr hi (by rw [hb.cell (by simp)]; exact hc0) ((HX.out.below ((Below.refl _ _).alloc (Nat.le_refl _) _)).below hb)).mono fun e w' ⟨he, hw⟩ => ⟨he, hw ▸ Below.refl _ _⟩
  have HF := Lib.hid hf
  clear hf
  go_enter Tryz.func49, Tryz.ntmps49
  go_wp2_with fail
  refine (vec_each xs.length (fun i => nth xs i % 18446744069414584321) _ _ _ hl (modfits _) hent (HF.out)).mono ?_
  rintro e w' ⟨a', cap', rfl, hr, hnil, hb⟩
  go_wp2_with fail
  go_ret
  exact ⟨a', cap', by simp, by rw [map_nth]; exact hr, by simpa using hnil, ((Below.refl _ _).alloc (Nat.le_refl _) _).trans (hb.mono (by simp))⟩
/-- gold.Red inside a region that draws. -/
theorem red_quiet (a : Int) (w : World) (n : Nat) (h0 : 0 ≤ a) (h1 : a < 18446744073709551616) :
    Calls Tryz.prog 76 #[.int .u64 a] (w.drewN n) fun e w' => e = .returned (.int .u64 (a % 18446744069414584321)) ∧ ∃ m, w' = w.drewN m :=
  Calls.quiet_of_same ((gold_Red a _ h0 h1).mono fun e w' ⟨x, y⟩ => ⟨x, y.symm⟩)
/-- Place i of a row of n, backwards. -/
def revAt (n i : Nat) : Nat := (n - i) % n
theorem revAt_lt {n i : Nat} (h : i < n) : revAt n i < n := Nat.mod_lt _ (by omega)
theorem revAt_int {n i : Nat} (h : i < n) : ((n : Int) - (i : Int)).tmod (n : Int) = (revAt n i : Nat) := by
  unfold revAt
  rw [Int.tmod_eq_emod_of_nonneg (by omega), Int.natCast_emod]
  congr 1
  omega
set_option maxHeartbeats 400000 in
theorem vec_Rev1 (i : Nat) (a : Option Addr) (cap : Nat) (xs : List Int) (p q : Nat) (w : World) (hi : i < xs.length) (hc : w.cell? ⟨p, 0, none⟩ = some (.slice a xs.length cap)) (hc2 : w.cell? ⟨q, 0, none⟩ = some (.int .i64 xs.length)) (hx : Row .u64 w a xs) :
    Calls Tryz.prog 127 #[.int .i64 i, .pointer (some ⟨p, 0, none⟩), .pointer (some ⟨q, 0, none⟩)] w fun e w' => e = .returned (.int .u64 (nth xs (revAt xs.length i) % 18446744069414584321)) ∧ Below w.heap.size w w' := by
  have hl := hx.len
  obtain ⟨b, off, rfl, hcs⟩ := hx.at (by omega)
  have hj := revAt_lt hi
  have hck := hcs _ hj
  have hf := fits_u64.1 (hx.wf _ (nth_mem hj))
  have e1 : IntKind.i64.wrap ((xs.length : Int) - (i : Int)) = (xs.length : Int) - (i : Int) := IntWalk.i64_in _ (by omega)
  have e2 := revAt_int hi
  generalize revAt xs.length i = j at *
  have j0 : (0 : Int) ≤ (j : Int) := by omega
  have j1 : (j : Int) < (xs.length : Int) := by omega
  have hn0 : ((xs.length : Int) == 0) = false := by simp; intro h; subst h; simp at hi
  clear hcs hx
  go_enter Tryz.func127, Tryz.ntmps127
  go_wp2_with fail
  go_quiet ((go_at_call 76; exact red_quiet _ _ _ (by omega) (by omega)))
  go_wp2_with fail
  go_ret
  exact ⟨rfl, below_drewN (Below.refl _ _) _⟩
end Go.Proofs.YtlnlijeamflpiaaGreat

namespace Go.Proofs.YtlnlijeamflpiaaGreat
open Go.RowKit
set_option linter.unusedVariables false
set_option linter.unusedSimpArgs false
set_option maxRecDepth 100000
def revL (xs : List Int) : List Int := (List.range xs.length).map fun i => nth xs (revAt xs.length i) % 18446744069414584321
theorem revL_len (xs : List Int) : (revL xs).length = xs.length := by simp [revL]
set_option maxHeartbeats 400000 in
theorem vec_Rev (a : Option Addr) (cap : Nat) (xs : List Int) (w : World) (hx : Row .u64 w a xs) (hl : xs.length ≤ 16777216) :
    Calls Tryz.prog 103 #[.slice a xs.length cap] w (GivesRow .u64 (revL xs) w) := by
  have hent : ∀ args w, (callFunc 127 args).run Tryz.prog w = .ok (.enter 127 args) w := enters_of Tryz.func127 (by kernel_rfl) rfl
  obtain ⟨W, hW⟩ : ∃ W : World, W = (w.alloc (.cells #[.slice a xs.length cap] 22)).alloc (.cells #[.int .i64 xs.length] 3) := ⟨_, rfl⟩
  have hWb : Below w.heap.size w W := hW ▸ ((Below.refl _ _).alloc (Nat.le_refl _) _).alloc (by simp) _
  have hc0 : W.cell? ⟨w.heap.size, 0, none⟩ = some (.slice a xs.length cap) := by subst hW; simp
  have hc1 : W.cell? ⟨w.heap.size + 1, 0, none⟩ = some (.int .i64 xs.length) := by subst hW; simp
  have hsz : w.heap.size + 2 = W.heap.size := by subst hW; simp
  have hf : ∀ (i : Nat) (wr : World), i < xs.length → Below W.heap.size W wr →
      Calls Tryz.prog 127 (#[.int .i64 i] ++ #[.pointer (some ⟨w.heap.size, 0, none⟩), .pointer (some ⟨w.heap.size + 1, 0, none⟩)]) wr fun e w' => e = .returned (.int .u64 (nth xs (revAt xs.length i) % 18446744069414584321)) ∧ Below wr.heap.size wr w' :=
    fun i wr hi hb => vec_Rev1 i a cap xs w.heap.size (w.heap.size + 1) wr hi (by rw [hb.cell (by show w.heap.size < W.heap.size; omega)]; exact hc0) (by rw [hb.cell (by show w.heap.size + 1 < W.heap.size; omega)]; exact hc1) ((hx.below hWb).below hb)
  have HF := Lib.hid hf
  have HW := Lib.hid hW
  have HB := Lib.hid hWb
  clear hf hx hWb hc0 hc1 hsz
  subst hW
  go_enter Tryz.func103, Tryz.ntmps103
  go_wp2_with fail
  refine (vec_each xs.length (fun i => nth xs (revAt xs.length i) % 18446744069414584321) _ _ _ hl (modfits _) hent HF.out).mono ?_
  rintro e w' ⟨a', cap', rfl, hr, hnil, hb⟩
  go_wp2_with fail
  go_ret
  exact ⟨a', cap', by simp [revL], hr, hnil, HB.out.trans (hb.mono HB.out.size)⟩
theorem ref_SameN (a b : Option Addr) (n m ca cb : Nat) (xs ys : List Int) (w : World) (hx : Row .u64 w a xs) (hy : Row .u64 w b ys) (hn : xs.length = n) (hm : ys.length = m) :
    Calls Tryz.prog 13 #[.slice a n ca, .slice b m cb] w fun e w' => e = .returned (.bool (decide (xs = ys))) ∧ Below w.heap.size w w' := by
  subst hn hm; exact ref_Same a b ca cb xs ys w hx hy
/-- Two rows that are the same. -/
theorem ref_SameT (a b : Option Addr) (n m ca cb : Nat) (xs ys : List Int) (w : World) (hx : Row .u64 w a xs) (hy : Row .u64 w b ys) (hn : xs.length = n) (hm : ys.length = m) (h : xs = ys) :
    Calls Tryz.prog 13 #[.slice a n ca, .slice b m cb] w fun e w' => e = .returned (.bool true) ∧ Below w.heap.size w w' :=
  (ref_SameN a b n m ca cb xs ys w hx hy hn hm).mono fun e w' ⟨he, hb⟩ => ⟨by rw [he]; simp [h], hb⟩
theorem vec_RevN (a : Option Addr) (n cap : Nat) (xs : List Int) (w : World) (hx : Row .u64 w a xs) (hn : xs.length = n) (hl : xs.length ≤ 16777216) :
    Calls Tryz.prog 103 #[.slice a n cap] w (GivesRow .u64 (revL xs) w) := by
  subst hn; exact vec_Rev a cap xs w hx hl
end Go.Proofs.YtlnlijeamflpiaaGreat

namespace Go.Proofs.YtlnlijeamflpiaaGreat
open Go.RowKit
set_option linter.unusedVariables false
set_option linter.unusedSimpArgs false
set_option maxRecDepth 100000
def zipL (op : Int → Int → Int) (xs ys : List Int) : List Int := (List.range xs.length).map fun i => op (nth xs i) (nth ys i) % 18446744069414584321
def mulL (xs ys : List Int) : List Int := zipL (fun x y => x * y) xs ys
theorem zipL_len (op : Int → Int → Int) (xs ys : List Int) : (zipL op xs ys).length = xs.length := by simp [zipL]
theorem modL_fits {l : List Nat} (f : Nat → Int) : ∀ x ∈ l.map (fun i => f i % 18446744069414584321), fits .u64 x := by
  intro x hx; obtain ⟨i, _, rfl⟩ := List.mem_map.1 hx; exact fits_u64.2 (by omega)
theorem mulL_at (x y : Int) : (x % 18446744069414584321) * (y % 18446744069414584321) % 18446744069414584321 = x * y % 18446744069414584321 := by rw [modmul_l, modmul_r]
/-- What a function value answers of two numbers: op, modulo P. -/
def IsOp (fid : Nat) (op : Int → Int → Int) : Prop := ∀ (a b : Int) (w : World), 0 ≤ a → a < 18446744073709551616 → 0 ≤ b → b < 18446744073709551616 →
  Calls Tryz.prog fid #[.int .u64 a, .int .u64 b] w fun e w' => e = .returned (.int .u64 (op a b % 18446744069414584321)) ∧ w = w'
set_option maxHeartbeats 400000 in
theorem vec_both1 (fid : Nat) (op : Int → Int → Int) (hent : ∀ args w, (callFunc fid args).run Tryz.prog w = .ok (.enter fid args) w) (hop : IsOp fid op) (i : Nat) (a b : Option Addr) (ca cb : Nat) (xs ys : List Int) (p q r : Nat) (w : World) (hi : i < xs.length) (hi2 : i < ys.length)
    (hc : w.cell? ⟨p, 0, none⟩ = some (.func (.func fid) #[] #[])) (hc1 : w.cell? ⟨q, 0, none⟩ = some (.slice a xs.length ca)) (hc2 : w.cell? ⟨r, 0, none⟩ = some (.slice b ys.length cb)) (hx : Row .u64 w a xs) (hy : Row .u64 w b ys) :
    Calls Tryz.prog 125 #[.int .i64 i, .pointer (some ⟨p, 0, none⟩), .pointer (some ⟨q, 0, none⟩), .pointer (some ⟨r, 0, none⟩)] w fun e w' => e = .returned (.int .u64 (op (nth xs i) (nth ys i) % 18446744069414584321)) ∧ Below w.heap.size w w' := by
  obtain ⟨b1, o1, rfl, hcx⟩ := hx.at (by omega)
  obtain ⟨b2, o2, rfl, hcy⟩ := hy.at (by omega)
  have h1 := hcx i hi
  have h2 := hcy i hi2
  have f1 := fits_u64.1 (hx.wf _ (nth_mem hi))
  have f2 := fits_u64.1 (hy.wf _ (nth_mem hi2))
  have j0 : (0 : Int) ≤ (i : Int) := by omega
  have j1 : (i : Int) < (xs.length : Int) := by omega
  have j2 : (i : Int) < (ys.length : Int) := by omega
  have HOP := Lib.hid hop
  clear hcx hcy hx hy hop
  go_enter Tryz.func125, Tryz.ntmps125
  go_wp2_with fail
  go_quiet ((exact Calls.quiet_of_same ((HOP.out _ _ _ f1.1 f1.2 f2.1 f2.2).mono fun e w' ⟨x, y⟩ => ⟨x, y.symm⟩)))
  go_wp2_with fail
  go_ret
  exact ⟨rfl, below_drewN (Below.refl _ _) _⟩
/-- A result: a new row, and an error's number. -/
def GivesRowE (k : IntKind) (xs : List Int) (err : Int) (w : World) (e : Ending) (w' : World) : Prop :=
  ∃ a cap, e = .returned (.tuple #[.slice a xs.length cap, .int .i64 err]) ∧ Row k w' a xs ∧ OkCap a xs.length cap ∧ Below w.heap.size w w'
set_option maxHeartbeats 400000 in
theorem vec_both (fid : Nat) (op : Int → Int → Int) (hent : ∀ args w, (callFunc fid args).run Tryz.prog w = .ok (.enter fid args) w) (hop : IsOp fid op) (a b : Option Addr) (ca cb : Nat) (xs ys : List Int) (w : World) (hx : Row .u64 w a xs) (hy : Row .u64 w b ys) (hl : xs.length = ys.length) (hm : xs.length ≤ 16777216) :
    Calls Tryz.prog 101 #[.slice a xs.length ca, .slice b ys.length cb, .func (.func fid) #[] #[]] w (GivesRowE .u64 (zipL op xs ys) 0 w) := by
  have hent2 : ∀ args w, (callFunc 125 args).run Tryz.prog w = .ok (.enter 125 args) w := enters_of Tryz.func125 (by kernel_rfl) rfl
  obtain ⟨W, hW⟩ : ∃ W : World, W = ((w.alloc (.cells #[.slice a xs.length ca] 22)).alloc (.cells #[.slice b ys.length cb] 22)).alloc (.cells #[.func (.func fid) #[] #[]] 31) := ⟨_, rfl⟩
  have hWb : Below w.heap.size w W := hW ▸ (((Below.refl _ _).alloc (Nat.le_refl _) _).alloc (by simp) _).alloc (by simp; omega) _
  have hc0 : W.cell? ⟨w.heap.size, 0, none⟩ = some (.slice a xs.length ca) := by subst hW; rw [cell_past _ _ _ (by simp; omega), cell_past _ _ _ (by simp), one_new]
  have hc1 : W.cell? ⟨w.heap.size + 1, 0, none⟩ = some (.slice b ys.length cb) := by subst hW; rw [cell_past _ _ _ (by simp)]; exact cell_new (by simp)
  have hc2 : W.cell? ⟨w.heap.size + 2, 0, none⟩ = some (.func (.func fid) #[] #[]) := by subst hW; exact cell_new (by simp)
  have hsz : w.heap.size + 3 = W.heap.size := by subst hW; simp
  have hf : ∀ (i : Nat) (wr : World), i < xs.length → Below W.heap.size W wr →
      Calls Tryz.prog 125 (#[.int .i64 i] ++ #[.pointer (some ⟨w.heap.size + 2, 0, none⟩), .pointer (some ⟨w.heap.size, 0, none⟩), .pointer (some ⟨w.heap.size + 1, 0, none⟩)]) wr fun e w' => e = .returned (.int .u64 (op (nth xs i) (nth ys i) % 18446744069414584321)) ∧ Below wr.heap.size wr w' :=
    fun i wr hi hb => vec_both1 fid op hent hop i a b ca cb xs ys (w.heap.size + 2) w.heap.size (w.heap.size + 1) wr hi (by omega) (by rw [hb.cell (by show w.heap.size + 2 < W.heap.size; omega)]; exact hc2) (by rw [hb.cell (by show w.heap.size < W.heap.size; omega)]; exact hc0) (by rw [hb.cell (by show w.heap.size + 1 < W.heap.size; omega)]; exact hc1) ((hx.below hWb).below hb) ((hy.below hWb).below hb)
  have HF := Lib.hid hf
  have HB := Lib.hid hWb
  have hne : ((xs.length : Int) != (ys.length : Int)) = false := by simp [hl]
  clear hf hx hy hWb hc0 hc1 hc2 hsz hl
  subst hW
  go_enter Tryz.func101, Tryz.ntmps101
  go_wp2_with fail
  refine (vec_each xs.length (fun i => op (nth xs i) (nth ys i) % 18446744069414584321) _ _ _ hm (modfits _) hent2 HF.out).mono ?_
  rintro e w' ⟨a', cap', rfl, hr, hnil, hb⟩
  go_wp2_with fail
  go_ret2
  exact ⟨a', cap', by simp [zipL], hr, hnil, HB.out.trans (hb.mono HB.out.size)⟩
end Go.Proofs.YtlnlijeamflpiaaGreat

namespace Go.Proofs.YtlnlijeamflpiaaGreat.Sm
/-- The same modulo P. -/
def Eqm (a b : Int) : Prop := a % 18446744069414584321 = b % 18446744069414584321
theorem rfl' (a : Int) : Eqm a a := rfl
theorem Eqm.symm {a b : Int} (h : Eqm a b) : Eqm b a := by unfold Eqm at *; exact h.symm
theorem Eqm.trans {a b c : Int} (h : Eqm a b) (k : Eqm b c) : Eqm a c := by unfold Eqm at *; exact h.trans k
theorem Eqm.mod (a : Int) : Eqm (a % 18446744069414584321) a := by unfold Eqm; exact Int.emod_emod _ _
theorem Eqm.add {a b c d : Int} (h : Eqm a b) (k : Eqm c d) : Eqm (a + c) (b + d) := by
  unfold Eqm at *; omega
theorem Eqm.sub {a b c d : Int} (h : Eqm a b) (k : Eqm c d) : Eqm (a - c) (b - d) := by
  unfold Eqm at *; omega
theorem Eqm.mul {a b c d : Int} (h : Eqm a b) (k : Eqm c d) : Eqm (a * c) (b * d) := by
  unfold Eqm at *
  rw [Int.mul_emod, h, k, ← Int.mul_emod]
theorem Eqm.pow {a b : Int} (h : Eqm a b) (n : Nat) : Eqm (a ^ n) (b ^ n) := by
  induction n with
  | zero => rw [Int.pow_zero, Int.pow_zero]; exact rfl' _
  | succ n ih => rw [Int.pow_succ, Int.pow_succ]; exact ih.mul h
/-- The sum of the first n. -/
def S : Nat → (Nat → Int) → Int
  | 0, _ => 0
  | n + 1, f => S n f + f n
theorem S_congr {n : Nat} {f g : Nat → Int} (h : ∀ i, i < n → f i = g i) : S n f = S n g := by
  induction n with
  | zero => rfl
  | succ n ih => simp only [S]; rw [ih (fun i hi => h i (by omega)), h n (by omega)]
theorem S_eqm {n : Nat} {f g : Nat → Int} (h : ∀ i, i < n → Eqm (f i) (g i)) : Eqm (S n f) (S n g) := by
  induction n with
  | zero => exact rfl' _
  | succ n ih => exact (ih (fun i hi => h i (by omega))).add (h n (by omega))
theorem S_add (n : Nat) (f g : Nat → Int) : S n (fun i => f i + g i) = S n f + S n g := by
  induction n with
  | zero => rfl
  | succ n ih => simp only [S, ih]; omega
theorem S_mul (n : Nat) (c : Int) (f : Nat → Int) : S n (fun i => c * f i) = c * S n f := by
  induction n with
  | zero => simp [S]
  | succ n ih => simp only [S, ih, Int.mul_add]
theorem S_mul_r (n : Nat) (c : Int) (f : Nat → Int) : S n (fun i => f i * c) = S n f * c := by
  induction n with
  | zero => simp [S]
  | succ n ih => simp only [S, ih, Int.add_mul]
theorem S_zero (n : Nat) : S n (fun _ => 0) = 0 := by
  induction n with
  | zero => rfl
  | succ n ih => simp only [S, ih]; rfl
theorem S_const (n : Nat) (c : Int) : S n (fun _ => c) = n * c := by
  induction n with
  | zero => simp [S]
  | succ n ih => simp only [S, ih]; rw [Int.natCast_succ, Int.add_mul, Int.one_mul]
theorem S_swap (n m : Nat) (f : Nat → Nat → Int) : S n (fun i => S m (fun j => f i j)) = S m (fun j => S n (fun i => f i j)) := by
  induction n with
  | zero => simp only [S]; rw [S_zero]
  | succ n ih => simp only [S, ih]; rw [← S_add]
/-- A sum with one place that counts. -/
theorem S_one (n k : Nat) (f : Nat → Int) (hk : k < n) (h : ∀ i, i < n → i ≠ k → Eqm (f i) 0) : Eqm (S n f) (f k) := by
  induction n with
  | zero => omega
  | succ n ih =>
    simp only [S]
    by_cases hkn : k = n
    · subst hkn
      have : Eqm (S k f) (S k (fun _ => 0)) := S_eqm (fun i hi => h i (by omega) (by omega))
      rw [S_zero] at this
      have := this.add (rfl' (f k))
      rwa [Int.zero_add] at this
    · have := (ih (by omega) (fun i hi hik => h i (by omega) hik)).add (h n (by omega) (fun e => hkn e.symm))
      rwa [Int.add_zero] at this
/-- The first one apart. -/
theorem S_head (n : Nat) (f : Nat → Int) : S (n + 1) f = f 0 + S n (fun i => f (i + 1)) := by
  induction n with
  | zero => simp [S]
  | succ n ih => rw [S, ih]; simp only [S]; omega
theorem pow_mul' (a b : Int) (n : Nat) : (a * b) ^ n = a ^ n * b ^ n := by
  induction n with
  | zero => simp
  | succ n ih => rw [Int.pow_succ, Int.pow_succ, Int.pow_succ, ih]; simp only [Int.mul_assoc, Int.mul_comm, Int.mul_left_comm]
theorem geo (z : Int) (n : Nat) : (z - 1) * S n (fun i => z ^ i) = z ^ n - 1 := by
  induction n with
  | zero => simp [S]
  | succ n ih => simp only [S, Int.mul_add, ih]; rw [Int.pow_succ, Int.sub_mul, Int.one_mul, Int.mul_comm]; omega
/-- A number that P does not divide can be struck. -/
theorem strike (a b : Int) (h0 : 0 ≤ a) (ha : ¬ Eqm a 0) (h : Eqm (a * b) 0) : Eqm b 0 := by
  obtain ⟨n, rfl⟩ := Int.eq_ofNat_of_zero_le h0
  have h1 : n % Fld.pn ≠ 0 := by
    intro e; apply ha
    unfold Eqm; unfold Fld.pn at e; omega
  have h2 := Fld.fermat n h1
  have h3 : ((n ^ (Fld.pn - 1) % Fld.pn : Nat) : Int) = 1 := by rw [h2]; rfl
  obtain ⟨m, hm⟩ : ∃ m, Fld.pn - 1 = m + 1 := ⟨18446744069414584319, rfl⟩
  rw [hm, Int.natCast_emod, Int.natCast_pow, Int.pow_succ] at h3
  have hp : ((Fld.pn : Nat) : Int) = 18446744069414584321 := rfl
  rw [hp] at h3
  have h4 : Eqm ((n : Int) ^ m * ((n : Int) * b)) ((n : Int) ^ m * 0) := (rfl' _).mul h
  rw [← Int.mul_assoc, Int.mul_zero] at h4
  have h5 : Eqm ((n : Int) ^ m * (n : Int) * b) (1 * b) := Eqm.mul (by unfold Eqm; rw [h3]; rfl) (rfl' b)
  rw [Int.one_mul] at h5
  exact h5.symm.trans h4
theorem strike' (a b : Int) (ha : ¬ Eqm a 0) (h : Eqm (a * b) 0) : Eqm b 0 :=
  strike (a % 18446744069414584321) b (Int.emod_nonneg _ (by omega)) (fun e => ha ((Eqm.mod a).symm.trans e)) (((Eqm.mod a).mul (rfl' b)).trans h)
theorem geo_zero (z : Int) (n : Nat) (h1 : ¬ Eqm z 1) (hn : Eqm (z ^ n) 1) : Eqm (S n (fun i => z ^ i)) 0 := by
  refine strike' (z - 1) _ (fun h => h1 ?_) ?_
  · have := h.add (rfl' 1)
    rwa [Int.sub_add_cancel, Int.zero_add] at this
  · rw [geo]
    have := hn.sub (rfl' 1)
    rwa [Int.sub_self] at this
/-- w is a root of unity of order n, and u its inverse. -/
structure IsRoot (w u : Int) (n : Nat) : Prop where
  pos : 0 < n
  one : Eqm (w ^ n) 1
  least : ∀ m, 0 < m → m < n → ¬ Eqm (w ^ m) 1
  inv : Eqm (w * u) 1
theorem IsRoot.inv_pow {w u : Int} {n : Nat} (h : IsRoot w u n) (i : Nat) : Eqm (w ^ i * u ^ i) 1 := by
  rw [← pow_mul']
  have := h.inv.pow i
  rwa [Int.one_pow] at this
theorem IsRoot.oneU {w u : Int} {n : Nat} (h : IsRoot w u n) : Eqm (u ^ n) 1 := by
  have h1 := h.inv_pow n
  have h2 := h.one.mul (rfl' (u ^ n))
  rw [Int.one_mul] at h2
  exact h2.symm.trans h1
theorem IsRoot.back {w u : Int} {n : Nat} (h : IsRoot w u n) : IsRoot u w n := by
  refine ⟨h.pos, h.oneU, fun m h0 h1 e => h.least m h0 h1 ?_, by rw [Int.mul_comm]; exact h.inv⟩
  have h2 := (rfl' (w ^ m)).mul e
  rw [Int.mul_one] at h2
  exact h2.symm.trans (h.inv_pow m)
theorem IsRoot.times {w u : Int} {n : Nat} (h : IsRoot w u n) (i : Nat) : Eqm (w ^ (n * i)) 1 := by
  rw [Int.pow_mul]
  have := h.one.pow i
  rwa [Int.one_pow] at this
theorem IsRoot.pow_mod {w u : Int} {n : Nat} (h : IsRoot w u n) (i : Nat) : Eqm (w ^ (i % n)) (w ^ i) := by
  have e : i = n * (i / n) + i % n := (Nat.div_add_mod i n).symm
  have h1 : w ^ i = w ^ (n * (i / n)) * w ^ (i % n) := by rw [← Int.pow_add, ← e]
  rw [h1]
  have := (h.times (i / n)).mul (rfl' (w ^ (i % n)))
  rw [Int.one_mul] at this
  exact this.symm
theorem pow_jk (w u : Int) (j i k : Nat) : w ^ (j * i) * u ^ (j * k) = (w ^ i * u ^ k) ^ j := by
  rw [pow_mul', ← Int.pow_mul, ← Int.pow_mul, Nat.mul_comm j i, Nat.mul_comm j k]
/-- Sums of powers of a root. -/
theorem orth {w u : Int} {n : Nat} (h : IsRoot w u n) (i k : Nat) (hi : i < n) (hk : k < n) : Eqm (S n (fun j => w ^ (j * i) * u ^ (j * k))) (if i = k then n else 0) := by
  have e : S n (fun j => w ^ (j * i) * u ^ (j * k)) = S n (fun j => (w ^ i * u ^ k) ^ j) := S_congr (fun j _ => pow_jk w u j i k)
  rw [e]
  by_cases hik : i = k
  · subst hik
    rw [if_pos rfl]
    have h1 : Eqm (S n (fun j => (w ^ i * u ^ i) ^ j)) (S n (fun _ => 1)) := S_eqm (fun j _ => by
      have := (h.inv_pow i).pow j
      rwa [Int.one_pow] at this)
    rwa [S_const, Int.mul_one] at h1
  · rw [if_neg hik]
    refine geo_zero _ n ?_ ?_
    · intro hz
      by_cases hlt : k < i
      · refine h.least (i - k) (by omega) (by omega) ?_
        have e1 : w ^ i * u ^ k = w ^ (i - k) * (w ^ k * u ^ k) := by
          rw [← Int.mul_assoc, ← Int.pow_add, show i - k + k = i by omega]
        rw [e1] at hz
        have h2 := (rfl' (w ^ (i - k))).mul (h.inv_pow k)
        rw [Int.mul_one] at h2
        exact h2.symm.trans hz
      · refine h.back.least (k - i) (by omega) (by omega) ?_
        have e1 : w ^ i * u ^ k = (w ^ i * u ^ i) * u ^ (k - i) := by
          rw [Int.mul_assoc, ← Int.pow_add, show i + (k - i) = k by omega]
        rw [e1] at hz
        have h2 := (h.inv_pow i).mul (rfl' (u ^ (k - i)))
        rw [Int.one_mul] at h2
        exact h2.symm.trans hz
    · rw [pow_mul', ← Int.pow_mul, ← Int.pow_mul, Nat.mul_comm i n, Nat.mul_comm k n]
      have := (h.times i).mul (h.back.times k)
      rwa [Int.one_mul] at this
/-- The transform of X at k. -/
def T (n : Nat) (w : Int) (X : Nat → Int) (k : Nat) : Int := S n (fun i => X i * w ^ (i * k))
theorem T_eqm {n : Nat} {w w' : Int} {X Y : Nat → Int} (hw : Eqm w w') (h : ∀ i, i < n → Eqm (X i) (Y i)) (k : Nat) : Eqm (T n w X k) (T n w' Y k) :=
  S_eqm (fun i hi => (h i hi).mul (hw.pow _))
theorem T_back {w u : Int} {n : Nat} (h : IsRoot w u n) (X : Nat → Int) (k : Nat) (hk : k < n) : Eqm (T n u (T n w X) k) (n * X k) := by
  have e1 : T n u (T n w X) k = S n (fun i => X i * S n (fun j => w ^ (j * i) * u ^ (j * k))) := by
    unfold T
    have : S n (fun j => S n (fun i => X i * w ^ (i * j)) * u ^ (j * k)) = S n (fun j => S n (fun i => X i * (w ^ (j * i) * u ^ (j * k)))) := S_congr (fun j _ => by
      rw [← S_mul_r]; exact S_congr (fun i _ => by rw [Int.mul_assoc, Nat.mul_comm i j]))
    rw [this, S_swap]
    exact S_congr (fun i _ => S_mul n (X i) _)
  rw [e1]
  refine (S_one n k _ hk (fun i hi hik => ?_)).trans ?_
  · have := (rfl' (X i)).mul (orth h i k hi hk)
    rwa [if_neg hik, Int.mul_zero] at this
  · have := (rfl' (X k)).mul (orth h k k hk hk)
    rw [if_pos rfl] at this
    rw [Int.mul_comm (n : Int)]
    exact this
/-- Twice there: backwards, times the length. -/
theorem T_twice {w u : Int} {n : Nat} (h : IsRoot w u n) (X : Nat → Int) (k : Nat) (hk : k < n) : Eqm (T n w (T n w X) k) (n * X ((n - k) % n)) := by
  have h1 : Eqm (T n w (T n w X) k) (T n u (T n w X) ((n - k) % n)) := by
    refine S_eqm (fun i _ => (rfl' _).mul ?_)
    have h2 : Eqm (w ^ k) (u ^ ((n - k) % n)) := by
      refine Eqm.trans ?_ (h.back.pow_mod (n - k)).symm
      have h3 := (h.inv_pow k)
      have h4 := h3.mul (rfl' (u ^ (n - k)))
      rw [Int.mul_assoc, ← Int.pow_add, show k + (n - k) = n by omega, Int.one_mul] at h4
      have h5 := (rfl' (w ^ k)).mul h.oneU
      rw [Int.mul_one] at h5
      exact h5.symm.trans h4
    rw [Nat.mul_comm i k, Nat.mul_comm i, Int.pow_mul, Int.pow_mul]
    exact h2.pow i
  exact h1.trans (T_back h X _ (Nat.mod_lt _ h.pos))
end Go.Proofs.YtlnlijeamflpiaaGreat.Sm

namespace Go.Proofs.YtlnlijeamflpiaaGreat
open Go.RowKit Go.Shelf Sm
set_option linter.unusedVariables false
set_option linter.unusedSimpArgs false
set_option maxRecDepth 100000
/-- One product, if it belongs to the place. -/
def cvT (xs ys : List Int) (n t i j : Nat) : Int := if (i + j) % n = t then nth xs i * nth ys j else 0
def cvS (xs ys : List Int) (n t : Nat) : Int := S xs.length (fun i => S ys.length (fun j => cvT xs ys n t i j))
def cvL (xs ys : List Int) (n : Nat) : List Int := (List.range n).map fun t => cvS xs ys n t % 18446744069414584321
theorem cvL_len (xs ys : List Int) (n : Nat) : (cvL xs ys n).length = n := by simp [cvL]
theorem nth_cvL (xs ys : List Int) (n t : Nat) (h : t < n) : nth (cvL xs ys n) t = cvS xs ys n t % 18446744069414584321 := nth_ofFn _ _ _ h
theorem cvL_fits (xs ys : List Int) (n : Nat) : ∀ x ∈ cvL xs ys n, fits .u64 x := modL_fits _
theorem OwnAt.heap {k : IntKind} {e : TypeId} {w wr : World} {g n : Nat} {f : Nat → Int} (h : OwnAt k e w wr g n f) :
    wr.heap[g]? = some (.cells ((List.range n).map fun j => Value.int k (f j)).toArray e (0, 0)) := by
  obtain ⟨hl, h1 | ⟨g', cap, cur, hv, hg, hc, hcap, hm, hs, ht⟩⟩ := h.own
  · cases h1.1
  · simp only [Value.slice.injEq, Option.some.injEq, Addr.mk.injEq] at hv
    obtain ⟨⟨rfl, _, _⟩, _, rfl⟩ := hv
    rw [hc, ← ht, List.take_of_length_le (by simp; omega)]
theorem OwnAt.of_heap {k : IntKind} {e : TypeId} {w wr : World} {g n : Nat} {f : Nat → Int} (hg : w.heap.size ≤ g) (hm : n ≤ maxLen) (hb : Below w.heap.size w wr)
    (h : wr.heap[g]? = some (.cells ((List.range n).map fun j => Value.int k (f j)).toArray e (0, 0))) : OwnAt k e w wr g n f :=
  ⟨⟨by simp, .inr ⟨g, n, _, rfl, hg, h, Nat.le_refl _, hm, by simp, by rw [List.take_of_length_le (by simp)]⟩⟩, hb⟩
theorem OwnAt.made {k : IntKind} {e : TypeId} {w wx w1 : World} {g n : Nat} (hb : Below w.heap.size w wx) (h : w1.ownsRow w.heap.size e 1 (.slice (some ⟨g, 0, none⟩) n n) n (madeCells #[Value.int k 0] n).toList) (hg : wx.grownBy w1 none) :
    OwnAt k e w w1 g n (fun _ => 0) := by
  refine ⟨?_, hb.grown hg hb.size (by simp)⟩
  have e1 : (madeCells #[Value.int k 0] n).toList = (List.range n).map fun j => Value.int k 0 := by
    rw [toList_madeCells_one]
    apply List.ext_getElem (by simp)
    intro i h1 h2
    simp
  rw [e1] at h
  exact h
end Go.Proofs.YtlnlijeamflpiaaGreat

namespace Go.Proofs.YtlnlijeamflpiaaGreat
open Go.RowKit
set_option linter.unusedVariables false
set_option linter.unusedSimpArgs false
set_option maxRecDepth 100000
/-- Is n a size? -/
def hasSz (n : Int) : Bool := decide (1 ≤ n ∧ n ≤ 16777216 ∧ 18446744069414584320 % n = 0)
theorem hasSz_iff {n : Int} : hasSz n = true ↔ 1 ≤ n ∧ n ≤ 16777216 ∧ 18446744069414584320 % n = 0 := by simp [hasSz]
theorem rootHas_yes (n : Int) (w : World) (h : hasSz n = true) :
    Calls Tryz.prog 41 #[.int .i64 n] w fun e w' => e = .returned (.bool true) ∧ w = w' := by
  obtain ⟨h1, h2, h3⟩ := hasSz_iff.1 h
  have hz : (18446744069414584320 % n == 0) = true := btrue h3
  have h0 : (n == 0) = false := bno (by omega)
  clear h h3
  go_enter Tryz.func41, Tryz.ntmps41
  go_wp2_with fail
  go_ret
  exact ⟨rfl, rfl⟩
theorem rootHas_no (n : Int) (w : World) (h : hasSz n = false) (hn : -9223372036854775808 ≤ n ∧ n < 9223372036854775808) :
    Calls Tryz.prog 41 #[.int .i64 n] w fun e w' => e = .returned (.bool false) ∧ w = w' := by
  have hd : n < 1 ∨ (1 ≤ n ∧ 16777216 < n) ∨ (1 ≤ n ∧ n ≤ 16777216 ∧ 18446744069414584320 % n ≠ 0) := by
    have h' : ¬ (1 ≤ n ∧ n ≤ 16777216 ∧ 18446744069414584320 % n = 0) := by intro e; rw [hasSz_iff.2 e] at h; cases h
    by_cases a : 1 ≤ n
    · by_cases b : n ≤ 16777216
      · exact .inr (.inr ⟨a, b, fun e => h' ⟨a, b, e⟩⟩)
      · exact .inr (.inl ⟨a, by omega⟩)
    · exact .inl (by omega)
  clear h
  rcases hd with h1 | ⟨h1, h2⟩ | ⟨h1, h2, h3⟩
  · go_enter Tryz.func41, Tryz.ntmps41
    go_wp2_with fail
    go_ret
    exact ⟨rfl, rfl⟩
  · go_enter Tryz.func41, Tryz.ntmps41
    go_wp2_with fail
    go_ret
    exact ⟨rfl, rfl⟩
  · have hz : (18446744069414584320 % n == 0) = false := bno h3
    have h0 : (n == 0) = false := bno (by omega)
    clear h3
    go_enter Tryz.func41, Tryz.ntmps41
    go_wp2_with fail
    go_ret
    exact ⟨rfl, rfl⟩
theorem refHas_yes (n : Int) (w : World) (h : hasSz n = true) :
    Calls Tryz.prog 18 #[.int .i64 n] w fun e w' => e = .returned (.bool true) ∧ w = w' := by
  obtain ⟨h1, h2, h3⟩ := hasSz_iff.1 h
  have hz : (18446744069414584320 % n == 0) = true := btrue h3
  have h0 : (n == 0) = false := bno (by omega)
  clear h h3
  go_enter Tryz.func18, Tryz.ntmps18
  go_wp2_with fail
  go_ret
  exact ⟨rfl, rfl⟩
theorem refHas_no (n : Int) (w : World) (h : hasSz n = false) (hn : -9223372036854775808 ≤ n ∧ n < 9223372036854775808) :
    Calls Tryz.prog 18 #[.int .i64 n] w fun e w' => e = .returned (.bool false) ∧ w = w' := by
  have hd : n < 1 ∨ (1 ≤ n ∧ 16777216 < n) ∨ (1 ≤ n ∧ n ≤ 16777216 ∧ 18446744069414584320 % n ≠ 0) := by
    have h' : ¬ (1 ≤ n ∧ n ≤ 16777216 ∧ 18446744069414584320 % n = 0) := by intro e; rw [hasSz_iff.2 e] at h; cases h
    by_cases a : 1 ≤ n
    · by_cases b : n ≤ 16777216
      · exact .inr (.inr ⟨a, b, fun e => h' ⟨a, b, e⟩⟩)
      · exact .inr (.inl ⟨a, by omega⟩)
    · exact .inl (by omega)
  clear h
  rcases hd with h1 | ⟨h1, h2⟩ | ⟨h1, h2, h3⟩
  · go_enter Tryz.func18, Tryz.ntmps18
    go_wp2_with fail
    go_ret
    exact ⟨rfl, rfl⟩
  · go_enter Tryz.func18, Tryz.ntmps18
    go_wp2_with fail
    go_ret
    exact ⟨rfl, rfl⟩
  · have hz : (18446744069414584320 % n == 0) = false := bno h3
    have h0 : (n == 0) = false := bno (by omega)
    clear h3
    go_enter Tryz.func18, Tryz.ntmps18
    go_wp2_with fail
    go_ret
    exact ⟨rfl, rfl⟩
end Go.Proofs.YtlnlijeamflpiaaGreat

namespace Go.Proofs.YtlnlijeamflpiaaGreat
open Sm
theorem root_one (n q : Nat) (hq : q * n = Fld.pn - 1) : (7 ^ q) ^ n % Fld.pn = 1 := by
  rw [← Nat.pow_mul, hq]; exact Fld.fermat 7 (by decide)
theorem root_least (n q m : Nat) (hq : q * n = Fld.pn - 1) (h0 : 0 < m) (hm : m < n) : (7 ^ q) ^ m % Fld.pn ≠ 1 := by
  intro h
  rw [← Nat.pow_mul] at h
  have h1 := Fld.seven (q * m) h
  have hq0 : 0 < q := Nat.pos_of_ne_zero (fun e => by subst e; rw [Nat.zero_mul] at hq; exact absurd hq (by decide))
  have h2 : 0 < q * m := Nat.mul_pos hq0 h0
  have h3 := Nat.le_of_dvd h2 h1
  have h4 : q * m < q * n := Nat.mul_lt_mul_of_pos_left hm hq0
  omega
/-- The root of the size n; its inverse. -/
def rtExp (n : Nat) : Nat := 18446744069414584320 / n
def rt (n : Nat) : Int := pw 7 (rtExp n)
def bk (n : Nat) : Int := pw (rt n) 18446744069414584319
def dirRt (n : Nat) (d : Int) : Int := if d = 1 then bk n else rt n
def dirBk (n : Nat) (d : Int) : Int := if d = 1 then rt n else bk n
theorem rtExp_mul (n : Nat) (h : hasSz n = true) : rtExp n * n = Fld.pn - 1 := by
  obtain ⟨h1, _, h3⟩ := hasSz_iff.1 h
  have h4 : 18446744069414584320 % n = 0 := by
    have h5 : ((18446744069414584320 % n : Nat) : Int) = 0 := by rw [Int.natCast_emod]; exact h3
    omega
  exact Nat.div_mul_cancel (Nat.dvd_of_mod_eq_zero h4)
theorem pw_eqm (a : Int) (n : Nat) : Eqm (pw a n) (a ^ n) := by
  unfold pw; exact Eqm.mod _
theorem cast_pow_mod (a e p : Nat) (q : Int) (hq : (p : Int) = q) : ((a ^ e % p : Nat) : Int) = (a : Int) ^ e % q := by
  rw [Int.natCast_emod, Int.natCast_pow, hq]
theorem eqm_pow_one (q n : Nat) : Eqm (((7 : Int) ^ q) ^ n) 1 ↔ (7 ^ q) ^ n % Fld.pn = 1 := by
  have h : ((((7 ^ q) ^ n % Fld.pn : Nat)) : Int) = (((7 ^ q : Nat) : Int)) ^ n % 18446744069414584321 := cast_pow_mod _ _ Fld.pn _ rfl
  rw [Int.natCast_pow] at h
  unfold Eqm
  have h7 : ((7 : Nat) : Int) = 7 := rfl
  rw [h7] at h
  rw [← h, show (1 : Int) % 18446744069414584321 = 1 from rfl]
  omega
theorem rt_pow (n m : Nat) : Eqm (rt n ^ m) (((7 : Int) ^ rtExp n) ^ m) := (pw_eqm 7 _).pow m
theorem rt_range (n : Nat) : 0 ≤ rt n ∧ rt n < 18446744069414584321 := pw_range _ _
theorem bk_range (n : Nat) : 0 ≤ bk n ∧ bk n < 18446744069414584321 := pw_range _ _
theorem dirRt_range (n : Nat) (d : Int) : 0 ≤ dirRt n d ∧ dirRt n d < 18446744069414584321 := by
  unfold dirRt; split
  · exact bk_range n
  · exact rt_range n
theorem isRoot_rt (n : Nat) (h : hasSz n = true) : IsRoot (rt n) (bk n) n := by
  have hm := rtExp_mul n h
  have hn := (hasSz_iff.1 h).1
  have h1 : Eqm (rt n ^ n) 1 := (rt_pow n n).trans ((eqm_pow_one _ _).2 (root_one n _ hm))
  refine ⟨by omega, h1, fun m h0 hlt e => root_least n _ m hm h0 hlt ((eqm_pow_one _ _).1 ((rt_pow n m).symm.trans e)), ?_⟩
  have hz : rt n % 18446744069414584321 ≠ 0 := by
    intro e
    have e0 : Eqm (rt n) 0 := by unfold Eqm; rw [e]; rfl
    obtain ⟨k, hk⟩ : ∃ k, n = k + 1 := ⟨n - 1, by omega⟩
    have h2 := (rfl' (rt n ^ k)).mul e0
    rw [← Int.pow_succ, Nat.succ_eq_add_one, ← hk, Int.mul_zero] at h2
    have h3 := h1.symm.trans h2
    exact absurd h3 (by unfold Eqm; decide)
  have := pw_inv (rt n) (rt_range n).1 hz
  unfold Eqm bk
  rw [this]; rfl
theorem isRoot_dir (n : Nat) (d : Int) (h : hasSz n = true) : IsRoot (dirRt n d) (dirBk n d) n := by
  unfold dirRt dirBk
  split
  · exact (isRoot_rt n h).back
  · exact isRoot_rt n h
end Go.Proofs.YtlnlijeamflpiaaGreat

namespace Go.Proofs.YtlnlijeamflpiaaGreat
open Go.RowKit
set_option linter.unusedVariables false
set_option linter.unusedSimpArgs false
set_option maxRecDepth 100000
theorem quo_bd (n : Int) (h : 1 ≤ n) : 0 ≤ 18446744069414584320 / n ∧ 18446744069414584320 / n ≤ 18446744069414584320 :=
  ⟨Int.ediv_nonneg (by omega) (by omega), Int.ediv_le_self _ (by omega)⟩
theorem toNat_quo (n : Nat) : (18446744069414584320 / (n : Int)).toNat = rtExp n := by
  unfold rtExp
  have h : (18446744069414584320 / (n : Int)) = ((18446744069414584320 / n : Nat) : Int) := by rw [Int.natCast_ediv]; rfl
  rw [h, Int.toNat_natCast]
set_option maxHeartbeats 400000 in
theorem rootRoot_yes (n : Nat) (w : World) (h : hasSz n = true) :
    Calls Tryz.prog 170 #[.int .i64 n] w fun e w' => e = .returned (.tuple #[.int .u64 (rt n), .int .i64 0]) ∧ w = w' := by
  obtain ⟨h1, h2, h3⟩ := hasSz_iff.1 h
  have hq := quo_bd (n : Int) h1
  have h0 : ((n : Int) == 0) = false := bno (by omega)
  have ht := Lib.hid (toNat_quo n)
  have H := Lib.hid h
  clear h h3
  go_enter Tryz.func170, Tryz.ntmps170
  go_wp2_with fail
  refine (rootHas_yes _ _ H.out).mono ?_; rintro e w' ⟨rfl, rfl⟩
  go_wp2_with (go_at_call 128; refine (gold_Pow _ _ _ (by omega) (by omega) (by omega) (by omega)).mono ?_; rintro e w' ⟨rfl, rfl⟩)
  go_ret2
  exact ⟨by rw [ht.out]; rfl, rfl⟩
theorem rootBack_yes (n : Nat) (w : World) (h : hasSz n = true) :
    Calls Tryz.prog 171 #[.int .i64 n] w fun e w' => e = .returned (.tuple #[.int .u64 (bk n), .int .i64 0]) ∧ w = w' := by
  have H := Lib.hid h
  have hr := rt_range n
  clear h
  go_enter Tryz.func171, Tryz.ntmps171
  go_wp2_with fail
  refine (rootRoot_yes _ _ H.out).mono ?_; rintro e w' ⟨rfl, rfl⟩
  go_wp2_with (go_at_call 104; refine (gold_Inv _ _ (by omega) (by omega)).mono ?_; rintro e w' ⟨rfl, rfl⟩)
  go_ret2
  exact ⟨rfl, rfl⟩
set_option maxHeartbeats 400000 in
theorem refRoot (n : Nat) (w : World) (h1 : 1 ≤ n) (h2 : n ≤ 16777216) :
    Calls Tryz.prog 24 #[.int .i64 n] w fun e w' => e = .returned (.int .u64 (rt n)) ∧ w = w' := by
  have hq := quo_bd (n : Int) (by omega)
  have h0 : ((n : Int) == 0) = false := bno (by omega)
  have ht := Lib.hid (toNat_quo n)
  go_enter Tryz.func24, Tryz.ntmps24
  go_wp2_with (go_at_call 23; refine (ref_Pow _ _ _ (by omega) (by omega) (by omega) (by omega)).mono ?_; rintro e w' ⟨rfl, rfl⟩)
  go_ret
  exact ⟨by rw [ht.out]; rfl, rfl⟩
def powL (a : Int) (n : Nat) : List Int := (List.range n).map fun i => pw a i
theorem powL_len (a : Int) (n : Nat) : (powL a n).length = n := by simp [powL]
theorem powL_fits (a : Int) (n : Nat) : ∀ x ∈ powL a n, fits .u64 x := by
  intro x hx; obtain ⟨i, _, rfl⟩ := List.mem_map.1 hx
  have := pw_range a i
  exact fits_u64.2 (by omega)
theorem pw_succ (a : Int) (i : Nat) : pw a i * a % 18446744069414584321 = pw a (i + 1) := by
  unfold pw; rw [modmul_l, ← Int.pow_succ]
theorem pw_0 (a : Int) : pw a 0 = 1 := by unfold pw; simp
end Go.Proofs.YtlnlijeamflpiaaGreat

namespace Go.Proofs.YtlnlijeamflpiaaGreat
open Go.RowKit
set_option linter.unusedVariables false
set_option linter.unusedSimpArgs false
set_option maxRecDepth 100000
set_option maxHeartbeats 400000 in
theorem vec_Mul (a b : Option Addr) (n m ca cb : Nat) (xs ys : List Int) (w : World) (hx : Row .u64 w a xs) (hy : Row .u64 w b ys) (hn : xs.length = n) (hm : ys.length = m) (hl : n = m) (hs : n ≤ 16777216) :
    Calls Tryz.prog 74 #[.slice a n ca, .slice b m cb] w (GivesRowE .u64 (mulL xs ys) 0 w) := by
  subst hn hm
  have hent : ∀ args w, (callFunc 46 args).run Tryz.prog w = .ok (.enter 46 args) w := enters_of Tryz.func46 (by kernel_rfl) rfl
  have hop : IsOp 46 (fun x y => x * y) := fun a b w a0 a1 b0 b1 => gold_Mul a b w a0 a1 b0 b1
  have HOP := Lib.hid hop
  have HL := Lib.hid hl
  have HX := Lib.hid hx
  have HY := Lib.hid hy
  clear hop hl hx hy
  go_enter Tryz.func74, Tryz.ntmps74
  go_wp2_with fail
  refine (vec_both 46 (fun x y => x * y) hent HOP.out a b ca cb xs ys _ HX.out HY.out HL.out (by omega)).mono ?_
  rintro e w' ⟨a', cap', rfl, hr, hnil, hb⟩
  go_wp2_with fail
  go_ret2
  exact ⟨a', cap', rfl, hr, hnil, hb⟩
end Go.Proofs.YtlnlijeamflpiaaGreat

namespace Go.Proofs.YtlnlijeamflpiaaGreat
open Go.RowKit
set_option linter.unusedVariables false
set_option linter.unusedSimpArgs false
set_option maxRecDepth 100000
def scaleL (xs : List Int) (c : Int) : List Int := (List.range xs.length).map fun i => nth xs i * c % 18446744069414584321
theorem mul_quiet (a b : Int) (w : World) (n : Nat) (h0 : 0 ≤ a) (h1 : a < 18446744073709551616) (h2 : 0 ≤ b) (h3 : b < 18446744073709551616) :
    Calls Tryz.prog 46 #[.int .u64 a, .int .u64 b] (w.drewN n) fun e w' => e = .returned (.int .u64 (a * b % 18446744069414584321)) ∧ ∃ m, w' = w.drewN m :=
  Calls.quiet_of_same ((gold_Mul a b _ h0 h1 h2 h3).mono fun e w' ⟨x, y⟩ => ⟨x, y.symm⟩)
set_option maxHeartbeats 400000 in
theorem vec_Scale1 (i : Nat) (a : Option Addr) (cap : Nat) (xs : List Int) (c : Int) (p q : Nat) (w : World) (hi : i < xs.length) (hc : w.cell? ⟨p, 0, none⟩ = some (.slice a xs.length cap)) (hc2 : w.cell? ⟨q, 0, none⟩ = some (.int .u64 c)) (h0 : 0 ≤ c) (h1 : c < 18446744073709551616) (hx : Row .u64 w a xs) :
    Calls Tryz.prog 126 #[.int .i64 i, .pointer (some ⟨p, 0, none⟩), .pointer (some ⟨q, 0, none⟩)] w fun e w' => e = .returned (.int .u64 (nth xs i * c % 18446744069414584321)) ∧ Below w.heap.size w w' := by
  have hl := hx.len
  obtain ⟨b, off, rfl, hcs⟩ := hx.at (by omega)
  have hck := hcs _ hi
  have hf := fits_u64.1 (hx.wf _ (nth_mem hi))
  have j0 : (0 : Int) ≤ (i : Int) := by omega
  have j1 : (i : Int) < (xs.length : Int) := by omega
  clear hcs hx
  go_enter Tryz.func126, Tryz.ntmps126
  go_wp2_with fail
  go_quiet ((go_at_call 46; exact mul_quiet _ _ _ _ hf.1 hf.2 h0 h1))
  go_wp2_with fail
  go_ret
  exact ⟨rfl, below_drewN (Below.refl _ _) _⟩
set_option maxHeartbeats 400000 in
theorem vec_Scale (a : Option Addr) (cap : Nat) (xs : List Int) (c : Int) (w : World) (hx : Row .u64 w a xs) (hl : xs.length ≤ 16777216) (h0 : 0 ≤ c) (h1 : c < 18446744073709551616) :
    Calls Tryz.prog 102 #[.slice a xs.length cap, .int .u64 c] w (GivesRow .u64 (scaleL xs c) w) := by
  have hent : ∀ args w, (callFunc 126 args).run Tryz.prog w = .ok (.enter 126 args) w := enters_of Tryz.func126 (by kernel_rfl) rfl
  obtain ⟨W, hW⟩ : ∃ W : World, W = (w.alloc (.cells #[.slice a xs.length cap] 22)).alloc (.cells #[.int .u64 c] 23) := ⟨_, rfl⟩
  have hWb : Below w.heap.size w W := hW ▸ ((Below.refl _ _).alloc (Nat.le_refl _) _).alloc (by simp) _
  have hc0 : W.cell? ⟨w.heap.size, 0, none⟩ = some (.slice a xs.length cap) := by subst hW; simp
  have hc1 : W.cell? ⟨w.heap.size + 1, 0, none⟩ = some (.int .u64 c) := by subst hW; simp
  have hsz : w.heap.size + 2 = W.heap.size := by subst hW; simp
  have hf : ∀ (i : Nat) (wr : World), i < xs.length → Below W.heap.size W wr →
      Calls Tryz.prog 126 (#[.int .i64 i] ++ #[.pointer (some ⟨w.heap.size, 0, none⟩), .pointer (some ⟨w.heap.size + 1, 0, none⟩)]) wr fun e w' => e = .returned (.int .u64 (nth xs i * c % 18446744069414584321)) ∧ Below wr.heap.size wr w' :=
    fun i wr hi hb => vec_Scale1 i a cap xs c w.heap.size (w.heap.size + 1) wr hi (by rw [hb.cell (by show w.heap.size < W.heap.size; omega)]; exact hc0) (by rw [hb.cell (by show w.heap.size + 1 < W.heap.size; omega)]; exact hc1) h0 h1 ((hx.below hWb).below hb)
  have HF := Lib.hid hf
  have HB := Lib.hid hWb
  clear hf hx hWb hc0 hc1 hsz
  subst hW
  go_enter Tryz.func102, Tryz.ntmps102
  go_wp2_with fail
  refine (vec_each xs.length (fun i => nth xs i * c % 18446744069414584321) _ _ _ hl (modfits _) hent HF.out).mono ?_
  rintro e w' ⟨a', cap', rfl, hr, hnil, hb⟩
  go_wp2_with fail
  go_ret
  exact ⟨a', cap', by simp [scaleL], hr, hnil, HB.out.trans (hb.mono HB.out.size)⟩
end Go.Proofs.YtlnlijeamflpiaaGreat

namespace Go.Proofs.YtlnlijeamflpiaaGreat
open Go.RowKit Sm
set_option linter.unusedVariables false
set_option linter.unusedSimpArgs false
set_option maxRecDepth 100000
/-- The sum of a row times the powers of a number. -/
def pt (xs : List Int) (st : Int) : Int := S xs.length (fun i => nth xs i * st ^ i) % 18446744069414584321
def hor (xs : List Int) (st : Int) (j : Nat) : Int := S (xs.length - j) (fun i => nth xs (j + i) * st ^ i)
theorem pt_range (xs : List Int) (st : Int) : 0 ≤ pt xs st ∧ pt xs st < 18446744069414584321 := by unfold pt; omega
theorem hor_end (xs : List Int) (st : Int) : hor xs st xs.length = 0 := by unfold hor; rw [Nat.sub_self]; rfl
theorem hor_zero (xs : List Int) (st : Int) : hor xs st 0 % 18446744069414584321 = pt xs st := by
  unfold hor pt; rw [Nat.sub_zero]
  congr 1
  exact S_congr (fun i _ => by rw [Nat.zero_add])
theorem hor_step (xs : List Int) (st : Int) (j : Nat) (h : j < xs.length) : hor xs st j = hor xs st (j + 1) * st + nth xs j := by
  unfold hor
  obtain ⟨m, hm⟩ : ∃ m, xs.length - j = m + 1 := ⟨xs.length - j - 1, by omega⟩
  rw [hm, show xs.length - (j + 1) = m by omega, S_head, Nat.add_zero, Int.pow_zero, Int.mul_one, Int.add_comm, ← S_mul_r]
  congr 1
  exact S_congr (fun i _ => by rw [Int.pow_succ, ← Int.mul_assoc, show j + (i + 1) = j + 1 + i by omega])
theorem hor_t (xs : List Int) (st : Int) (j : Nat) (t : Int) (h : j < xs.length) (ht : t = hor xs st (j + 1) % 18446744069414584321) : (t * st % 18446744069414584321 + nth xs j) % 18446744069414584321 = hor xs st j % 18446744069414584321 := by
  rw [hor_step xs st j h, ht, modmul_l, Int.emod_add_emod]
theorem add_quiet (a b : Int) (w : World) (n : Nat) (h0 : 0 ≤ a) (h1 : a < 18446744073709551616) (h2 : 0 ≤ b) (h3 : b < 18446744073709551616) :
    Calls Tryz.prog 45 #[.int .u64 a, .int .u64 b] (w.drewN n) fun e w' => e = .returned (.int .u64 ((a + b) % 18446744069414584321)) ∧ ∃ m, w' = w.drewN m :=
  Calls.quiet_of_same ((gold_Add a b _ h0 h1 h2 h3).mono fun e w' ⟨x, y⟩ => ⟨x, y.symm⟩)
theorem pt_mod (xs : List Int) (st : Int) : pt xs (st % 18446744069414584321) = pt xs st :=
  S_eqm (fun i _ => (rfl' _).mul ((Eqm.mod st).pow i))
theorem pt_snoc (xs : List Int) (st : Int) (k : Nat) : (S k (fun i => nth xs i * st ^ i) + nth xs k * st ^ k) = S (k + 1) (fun i => nth xs i * st ^ i) := rfl
theorem S_step (xs : List Int) (st : Int) (k : Nat) (t : Int) (ht : t = S k (fun i => nth xs i * st ^ i) % 18446744069414584321) : (t + (nth xs k % 18446744069414584321) * pw st k % 18446744069414584321) % 18446744069414584321 = S (k + 1) (fun i => nth xs i * st ^ i) % 18446744069414584321 := by
  rw [ht, modmul_l, ← pt_snoc]
  have h1 : Eqm (nth xs k * pw st k) (nth xs k * st ^ k) := (rfl' _).mul (Eqm.mod _ |> fun h => by unfold pw; exact h)
  unfold Eqm at h1
  rw [Int.add_emod, Int.emod_emod, h1]
  omega
end Go.Proofs.YtlnlijeamflpiaaGreat

namespace Go.Proofs.YtlnlijeamflpiaaGreat
open Go.RowKit Sm
set_option linter.unusedVariables false
set_option linter.unusedSimpArgs false
set_option maxRecDepth 100000
def dftL (xs : List Int) (z : Int) : List Int := (List.range xs.length).map fun k => pt xs (pw z k)
theorem dftL_len (xs : List Int) (z : Int) : (dftL xs z).length = xs.length := by simp [dftL]
theorem dftL_fits (xs : List Int) (z : Int) : ∀ x ∈ dftL xs z, fits .u64 x := by
  intro x hx; obtain ⟨i, _, rfl⟩ := List.mem_map.1 hx
  have := pt_range xs (pw z i)
  exact fits_u64.2 (by omega)
end Go.Proofs.YtlnlijeamflpiaaGreat

namespace Go.Proofs.YtlnlijeamflpiaaGreat
open Go.RowKit
set_option linter.unusedVariables false
set_option linter.unusedSimpArgs false
set_option maxRecDepth 100000
theorem scaleL_len (xs : List Int) (c : Int) : (scaleL xs c).length = xs.length := by simp [scaleL]
end Go.Proofs.YtlnlijeamflpiaaGreat

namespace Go.Proofs.YtlnlijeamflpiaaGreat
open Go.RowKit Sm
set_option linter.unusedVariables false
set_option linter.unusedSimpArgs false
set_option maxRecDepth 100000
theorem vec_ScaleN (a : Option Addr) (n cap : Nat) (xs : List Int) (c : Int) (w : World) (hx : Row .u64 w a xs) (hn : xs.length = n) (hl : xs.length ≤ 16777216) (h0 : 0 ≤ c) (h1 : c < 18446744073709551616) :
    Calls Tryz.prog 102 #[.slice a n cap, .int .u64 c] w (GivesRow .u64 (scaleL xs c) w) := by
  subst hn; exact vec_Scale a cap xs c w hx hl h0 h1
theorem GivesRow.step {k : IntKind} {xs : List Int} {w w1 w2 : World} {e : Ending} (h : GivesRow k xs w1 e w2) (hb : Below w.heap.size w w1) : GivesRow k xs w e w2 := by
  obtain ⟨a, cap, he, hr, hc, hb2⟩ := h
  exact ⟨a, cap, he, hr, hc, chain hb hb2⟩
def invN (n : Nat) : Int := pw (n : Int) 18446744069414584319
theorem invN_range (n : Nat) : 0 ≤ invN n ∧ invN n < 18446744069414584321 := pw_range _ _
end Go.Proofs.YtlnlijeamflpiaaGreat

namespace Go.Proofs.YtlnlijeamflpiaaGreat
open Sm
set_option linter.unusedVariables false
set_option linter.unusedSimpArgs false
set_option maxRecDepth 100000
theorem eq_of_eqm {a b : Int} (h : Eqm a b) (a0 : 0 ≤ a) (a1 : a < 18446744069414584321) (b0 : 0 ≤ b) (b1 : b < 18446744069414584321) : a = b := by
  unfold Eqm at h
  rwa [Int.emod_eq_of_lt a0 a1, Int.emod_eq_of_lt b0 b1] at h
theorem pt_T (xs : List Int) (z : Int) (k : Nat) : Eqm (pt xs (pw z k)) (T xs.length z (nth xs) k) := by
  unfold pt T
  refine (Eqm.mod _).trans (S_eqm fun i _ => (rfl' _).mul ?_)
  rw [Nat.mul_comm, Int.pow_mul]
  exact (pw_eqm z k).pow i
theorem nth_dftL (xs : List Int) (z : Int) (k : Nat) (h : k < xs.length) : nth (dftL xs z) k = pt xs (pw z k) := nth_ofFn _ _ _ h
theorem dftL_T (xs : List Int) (z : Int) (k : Nat) (h : k < xs.length) : Eqm (nth (dftL xs z) k) (T xs.length z (nth xs) k) := by
  rw [nth_dftL xs z k h]; exact pt_T xs z k
theorem nth_scaleL (xs : List Int) (c : Int) (k : Nat) (h : k < xs.length) : nth (scaleL xs c) k = nth xs k * c % 18446744069414584321 := nth_ofFn _ _ _ h
theorem inv_n (n : Nat) (h1 : 1 ≤ n) (h2 : n ≤ 16777216) : Eqm ((n : Int) * invN n) 1 := by
  have := pw_inv (n : Int) (by omega) (by omega)
  unfold Eqm invN
  rw [this]; rfl
theorem dir_swap (n : Nat) (d : Int) (hd : d = 0 ∨ d = 1) : dirRt n (1 - d) = dirBk n d := by
  unfold dirRt dirBk
  rcases hd with h | h
  · rw [if_pos (by omega), if_neg (by omega)]
  · rw [if_neg (by omega), if_pos h]
theorem dft_twice (xs : List Int) (d : Int) (hs : hasSz xs.length = true) : dftL (dftL xs (dirRt xs.length d)) (dirRt xs.length d) = scaleL (revL xs) xs.length := by
  have hr := isRoot_dir xs.length d hs
  apply ext_nth (by rw [dftL_len, dftL_len, scaleL_len, revL_len])
  intro k hk
  have hk' : k < xs.length := by rwa [dftL_len, dftL_len] at hk
  have hku : k < (dftL xs (dirRt xs.length d)).length := by rwa [dftL_len]
  have e1 := dftL_T (dftL xs (dirRt xs.length d)) (dirRt xs.length d) k hku
  rw [dftL_len] at e1
  have e2 := (T_eqm (rfl' (dirRt xs.length d)) (fun i hi => dftL_T xs (dirRt xs.length d) i hi) k).trans (T_twice hr (nth xs) k hk')
  rw [nth_scaleL _ _ _ (by rw [revL_len]; exact hk')]
  have e3 : nth (revL xs) k = nth xs (revAt xs.length k) % 18446744069414584321 := nth_ofFn _ _ _ hk'
  rw [e3]
  refine eq_of_eqm ((e1.trans e2).trans ?_) ?_ ?_ (by omega) (by omega)
  · rw [Int.mul_comm]
    exact (((Eqm.mod _).symm).mul (rfl' _)).trans (Eqm.mod _).symm
  · rw [nth_dftL _ _ _ hku]; exact (pt_range _ _).1
  · rw [nth_dftL _ _ _ hku]; exact (pt_range _ _).2
end Go.Proofs.YtlnlijeamflpiaaGreat

namespace Go.Proofs.YtlnlijeamflpiaaGreat
open Sm
set_option linter.unusedVariables false
set_option linter.unusedSimpArgs false
set_option maxRecDepth 100000
theorem mul_step (t s x y : Int) (ht : t = s % 18446744069414584321) : (t + (x % 18446744069414584321) * (y % 18446744069414584321) % 18446744069414584321) % 18446744069414584321 = (s + x * y) % 18446744069414584321 := by
  rw [mulL_at, ht]; generalize x * y = z; omega
/-- Where the other number stands, around n places. -/
def othAt (n k i : Nat) : Nat := (k + n - i) % n
theorem othAt_lt (n k i : Nat) (h : 0 < n) : othAt n k i < n := Nat.mod_lt _ h
theorem othAt_sum (n k i : Nat) (hi : i < n) (hk : k < n) : (i + othAt n k i) % n = k := by
  unfold othAt
  rw [Nat.add_mod_mod, show i + (k + n - i) = k + n by omega, Nat.add_mod_right, Nat.mod_eq_of_lt hk]
theorem othAt_of (n k i j : Nat) (hi : i < n) (hj : j < n) (h : (i + j) % n = k) : j = othAt n k i := by
  unfold othAt
  by_cases hlt : i + j < n
  · rw [Nat.mod_eq_of_lt hlt] at h
    rw [show k + n - i = j + n by omega, Nat.add_mod_right, Nat.mod_eq_of_lt hj]
  · have e : (i + j) % n = i + j - n := by
      rw [Nat.mod_eq_sub_mod (by omega), Nat.mod_eq_of_lt (by omega)]
    rw [e] at h
    rw [show k + n - i = j by omega, Nat.mod_eq_of_lt hj]
theorem othAt_int (n k i : Nat) (hi : i < n) (hk : k < n) : ((k : Int) - (i : Int) + (n : Int)).tmod (n : Int) = (othAt n k i : Nat) ∧ ((k : Int) - (i : Int) + (n : Int)) % (n : Int) = (othAt n k i : Nat) := by
  have e : (k : Int) - (i : Int) + (n : Int) = ((k + n - i : Nat) : Int) := by omega
  rw [e]
  unfold othAt
  exact ⟨by rw [Int.tmod_eq_emod_of_nonneg (by omega), ← Int.natCast_emod], by rw [← Int.natCast_emod]⟩
theorem emod_of_eqm {a b : Int} (h : Eqm a b) : a % 18446744069414584321 = b % 18446744069414584321 := h
theorem cyc_at (xs ys : List Int) (n k : Nat) (hx : xs.length = n) (hy : ys.length = n) (hk : k < n) :
    cvS xs ys n k % 18446744069414584321 = S n (fun i => nth xs i * nth ys (othAt n k i)) % 18446744069414584321 := by
  refine emod_of_eqm ?_
  unfold cvS
  rw [hx, hy]
  refine S_eqm fun i hi => ?_
  have h := S_one n (othAt n k i) (fun j => cvT xs ys n k i j) (othAt_lt n k i (by omega)) (fun j hj hne => by
    unfold cvT; rw [if_neg (fun e => hne (othAt_of n k i j hi hj e))]; exact rfl' _)
  refine h.trans ?_
  show Eqm (cvT xs ys n k i (othAt n k i)) _
  unfold cvT; rw [if_pos (othAt_sum n k i hi hk)]; exact rfl' _
/-- One product of those that are not around. -/
def lnT (xs ys : List Int) (k i : Nat) : Int := if i ≤ k ∧ k - i < ys.length then nth xs i * nth ys (k - i) else 0
theorem lin_at (xs ys : List Int) (n k : Nat) (hn : n = xs.length + ys.length - 1) (hx : 0 < xs.length) (hy : 0 < ys.length) (hk : k < n) :
    cvS xs ys n k % 18446744069414584321 = S xs.length (lnT xs ys k) % 18446744069414584321 := by
  refine emod_of_eqm ?_
  unfold cvS
  refine S_eqm fun i hi => ?_
  unfold lnT
  by_cases h : i ≤ k ∧ k - i < ys.length
  · rw [if_pos h]
    have h1 := S_one ys.length (k - i) (fun j => cvT xs ys n k i j) h.2 (fun j hj hne => by
      unfold cvT; rw [if_neg (fun e => hne (by rw [Nat.mod_eq_of_lt (by omega)] at e; omega))]; exact rfl' _)
    refine h1.trans ?_
    show Eqm (cvT xs ys n k i (k - i)) _
    unfold cvT; rw [if_pos (by rw [Nat.mod_eq_of_lt (by omega)]; omega)]; exact rfl' _
  · rw [if_neg h]
    have e : S ys.length (fun j => cvT xs ys n k i j) = S ys.length (fun _ => 0) := S_congr fun j hj => by
      unfold cvT; rw [if_neg (fun e => h (by rw [Nat.mod_eq_of_lt (by omega)] at e; omega))]
    rw [e, S_zero]; exact rfl' _
def wrT (xs : List Int) (m k i : Nat) : Int := if i % m = k then nth xs i else 0
def wrL (xs : List Int) (m : Nat) : List Int := (List.range m).map fun k => S xs.length (wrT xs m k) % 18446744069414584321
theorem wrL_len (xs : List Int) (m : Nat) : (wrL xs m).length = m := by simp [wrL]
theorem nth_wrL (xs : List Int) (m k : Nat) (h : k < m) : nth (wrL xs m) k = S xs.length (wrT xs m k) % 18446744069414584321 := nth_ofFn _ _ _ h
theorem wrL_fits (xs : List Int) (m : Nat) : ∀ x ∈ wrL xs m, fits .u64 x := modL_fits _
theorem nth_out (xs : List Int) (i : Nat) (h : xs.length ≤ i) : nth xs i = 0 := by simp [nth, h]
/-- The transform of a product around. -/
theorem T_conv (w u : Int) (n : Nat) (h : IsRoot w u n) (xs ys : List Int) (hx : xs.length = n) (hy : ys.length = n) (k : Nat) : Eqm (T n w (fun t => cvS xs ys n t) k) (T n w (nth xs) k * T n w (nth ys) k) := by
  have e1 : T n w (fun t => cvS xs ys n t) k = S n (fun i => S n (fun j => S n (fun t => cvT xs ys n t i j * w ^ (t * k)))) := by
    unfold T cvS
    rw [hx, hy]
    have e2 : S n (fun t => S n (fun i => S n (fun j => cvT xs ys n t i j)) * w ^ (t * k)) = S n (fun t => S n (fun i => S n (fun j => cvT xs ys n t i j * w ^ (t * k)))) := S_congr fun t _ => by
      rw [← S_mul_r]; exact S_congr fun i _ => by rw [← S_mul_r]
    rw [e2, S_swap]
    exact S_congr fun i _ => S_swap _ _ _
  have e3 : T n w (nth xs) k * T n w (nth ys) k = S n (fun i => S n (fun j => (nth xs i * w ^ (i * k)) * (nth ys j * w ^ (j * k)))) := by
    unfold T
    rw [← S_mul_r]
    exact S_congr fun i _ => by rw [← S_mul]
  rw [e1, e3]
  refine S_eqm fun i hi => S_eqm fun j hj => ?_
  have h1 := S_one n ((i + j) % n) (fun t => cvT xs ys n t i j * w ^ (t * k)) (Nat.mod_lt _ (by omega)) (fun t ht hne => by
    show Eqm (cvT xs ys n t i j * w ^ (t * k)) 0
    unfold cvT; rw [if_neg (fun e => hne e.symm), Int.zero_mul]; exact rfl' _)
  refine h1.trans ?_
  show Eqm (cvT xs ys n ((i + j) % n) i j * w ^ ((i + j) % n * k)) _
  unfold cvT
  rw [if_pos rfl]
  have h2 : Eqm (w ^ ((i + j) % n * k)) (w ^ (i * k) * w ^ (j * k)) := by
    rw [Int.pow_mul, ← Int.pow_add, ← Nat.add_mul, show w ^ ((i + j) * k) = (w ^ (i + j)) ^ k from Int.pow_mul]
    exact (h.pow_mod (i + j)).pow k
  have e4 : nth xs i * w ^ (i * k) * (nth ys j * w ^ (j * k)) = nth xs i * nth ys j * (w ^ (i * k) * w ^ (j * k)) := by
    simp only [Int.mul_assoc, Int.mul_left_comm, Int.mul_comm]
  rw [e4]
  exact (rfl' _).mul h2
theorem nth_mulL (xs ys : List Int) (k : Nat) (h : k < xs.length) : nth (mulL xs ys) k = nth xs k * nth ys k % 18446744069414584321 := nth_ofFn _ _ _ h
theorem dft_conv (xs ys : List Int) (n : Nat) (z u : Int) (hr : IsRoot z u n) (hx : xs.length = n) (hy : ys.length = n) : dftL (cvL xs ys n) z = mulL (dftL xs z) (dftL ys z) := by
  apply ext_nth (by rw [dftL_len, cvL_len, show (mulL (dftL xs z) (dftL ys z)).length = (dftL xs z).length from zipL_len _ _ _, dftL_len, hx])
  intro k hk
  rw [dftL_len, cvL_len] at hk
  rw [nth_mulL _ _ _ (by rw [dftL_len]; omega), nth_dftL _ _ _ (by rw [cvL_len]; exact hk), nth_dftL _ _ _ (by omega), nth_dftL _ _ _ (by omega)]
  have h1 := pt_T (cvL xs ys n) z k
  rw [cvL_len] at h1
  have h2 : Eqm (T n z (nth (cvL xs ys n)) k) (T n z (fun t => cvS xs ys n t) k) := T_eqm (rfl' z) (fun t ht => by rw [nth_cvL _ _ _ _ ht]; exact Eqm.mod _) k
  have h3 := T_conv z u n hr xs ys hx hy k
  have h4 := (pt_T xs z k).mul (pt_T ys z k)
  rw [hx, hy] at h4
  have h5 := ((h1.trans h2).trans h3).trans h4.symm
  have b := pt_range (cvL xs ys n) (pw z k)
  unfold Eqm at h5
  rw [Int.emod_eq_of_lt b.1 b.2] at h5
  exact h5
end Go.Proofs.YtlnlijeamflpiaaGreat

namespace Go.Proofs.YtlnlijeamflpiaaGreat
open Go.RowKit
set_option linter.unusedVariables false
set_option linter.unusedSimpArgs false
set_option maxRecDepth 100000
/-- Products that are not around. -/
def lnL (xs ys : List Int) : List Int := if xs.length = 0 ∨ ys.length = 0 then [] else cvL xs ys (xs.length + ys.length - 1)
theorem lnL_nil (xs ys : List Int) (h : xs.length = 0 ∨ ys.length = 0) : lnL xs ys = [] := if_pos h
theorem lnL_some (xs ys : List Int) (h : ¬ (xs.length = 0 ∨ ys.length = 0)) : lnL xs ys = cvL xs ys (xs.length + ys.length - 1) := if_neg h
/-- A row, reduced, with noughts behind. -/
def padL (xs : List Int) (m : Nat) : List Int := xs.map (· % 18446744069414584321) ++ List.replicate (m - xs.length) 0
theorem padL_len (xs : List Int) (m : Nat) (h : xs.length ≤ m) : (padL xs m).length = m := by simp [padL]; omega
theorem padL_fits (xs : List Int) (m : Nat) : ∀ x ∈ padL xs m, fits .u64 x := by
  intro x hx
  rcases List.mem_append.1 hx with h | h
  · obtain ⟨y, _, rfl⟩ := List.mem_map.1 h; exact fits_u64.2 (by omega)
  · rw [List.eq_of_mem_replicate h]; exact fits_u64.2 (by omega)
theorem padL_cells (xs : List Int) (m : Nat) : (xs.map (· % 18446744069414584321)).map (Value.int .u64) ++ List.replicate (m - xs.length) (Value.int .u64 0) = (padL xs m).map (Value.int .u64) := by
  simp [padL]
end Go.Proofs.YtlnlijeamflpiaaGreat

namespace Go.Proofs.YtlnlijeamflpiaaGreat
open Go.RowKit
set_option linter.unusedVariables false
set_option linter.unusedSimpArgs false
set_option maxRecDepth 100000
/-- A tree: two numbers, and trees below. -/
inductive Tr where
  | node (k n : Int) (ks : List Tr) : Tr
namespace Tr
def kind : Tr → Int | node k _ _ => k
def num : Tr → Int | node _ n _ => n
def kids : Tr → List Tr | node _ _ ks => ks
mutual
def size : Tr → Nat
  | node _ _ ks => sizeL ks + 1
def sizeL : List Tr → Nat
  | [] => 0
  | t :: ts => size t + sizeL ts
end
mutual
def Ok : Tr → Prop
  | node k n ks => fits .i64 k ∧ fits .i64 n ∧ OkL ks
def OkL : List Tr → Prop
  | [] => True
  | t :: ts => Ok t ∧ OkL ts
end
theorem size_kids (t : Tr) : t.size = sizeL t.kids + 1 := by cases t; simp [size, kids]
theorem size_pos (t : Tr) : 1 ≤ t.size := by rw [size_kids]; omega
theorem len_le_sizeL (ks : List Tr) : ks.length ≤ sizeL ks := by
  induction ks with
  | nil => simp
  | cons t ts ih => have := size_pos t; simp only [List.length_cons, sizeL]; omega
theorem sizeL_append (l r : List Tr) : sizeL (l ++ r) = sizeL l + sizeL r := by
  induction l with
  | nil => simp [sizeL]
  | cons t ts ih => simp only [List.cons_append, sizeL, ih]; omega
/-- The i-th of some trees. -/
def kid (ks : List Tr) (i : Nat) : Tr := ks.getD i (node 0 0 [])
theorem kid_mem {ks : List Tr} {i : Nat} (h : i < ks.length) : kid ks i ∈ ks := by simp [kid, h]
theorem kid_get {ks : List Tr} {i : Nat} (h : i < ks.length) : kid ks i = ks[i] := by simp [kid, h]
theorem take_kid {ks : List Tr} {k : Nat} (h : k < ks.length) : ks.take (k + 1) = ks.take k ++ [kid ks k] := by
  rw [List.take_succ_eq_append_getElem h]; simp [kid, h]
theorem drop_kid {ks : List Tr} {k : Nat} (h : k < ks.length) : ks.drop k = kid ks k :: ks.drop (k + 1) := by
  rw [List.drop_eq_getElem_cons h, kid_get h]
theorem size_mem {ks : List Tr} {t : Tr} (h : t ∈ ks) : t.size ≤ sizeL ks := by
  induction ks with
  | nil => cases h
  | cons x r ih =>
    simp only [sizeL]
    rcases List.mem_cons.1 h with rfl | h
    · omega
    · have := ih h; omega
theorem size_kid (t : Tr) (i : Nat) (h : i < t.kids.length) : (kid t.kids i).size < t.size := by
  have := size_mem (kid_mem h)
  rw [size_kids t]; omega
theorem ok_kids {t : Tr} (h : t.Ok) : OkL t.kids := by cases t; simp only [Ok, kids] at *; exact h.2.2
theorem ok_kind {t : Tr} (h : t.Ok) : fits .i64 t.kind := by cases t; simp only [Ok, kind] at *; exact h.1
theorem ok_num {t : Tr} (h : t.Ok) : fits .i64 t.num := by cases t; simp only [Ok, num] at *; exact h.2.1
theorem ok_mem {ks : List Tr} {t : Tr} (h : t ∈ ks) (hk : OkL ks) : t.Ok := by
  induction ks with
  | nil => cases h
  | cons x r ih =>
    simp only [OkL] at hk
    rcases List.mem_cons.1 h with rfl | h
    · exact hk.1
    · exact ih h hk.2
theorem okL_of {ks : List Tr} (h : ∀ t ∈ ks, t.Ok) : OkL ks := by
  induction ks with
  | nil => simp [OkL]
  | cons x r ih => simp only [OkL]; exact ⟨h x (by simp), ih fun t ht => h t (by simp [ht])⟩
end Tr
/-- The slice at address a (its capacity: cap) reads as the trees; the blocks that it goes through are in F. -/
inductive Kids (w : World) (F : Nat → Prop) : Option Addr → Nat → List Tr → Prop
  | nil : Kids w F none 0 []
  | empty (a : Addr) (cap : Nat) : Kids w F (some a) cap []
  | row (b off cap : Nat) (ks : List Tr) (A : Nat → Option Addr) (C : Nat → Nat) (hpos : 0 < ks.length) (hl : ks.length ≤ cap) (hF : F b)
      (h0 : ∀ i, i < ks.length → w.cell? ⟨b, off + i * 3, none⟩ = some (.int .i64 (Tr.kid ks i).kind))
      (h1 : ∀ i, i < ks.length → w.cell? ⟨b, off + i * 3 + 1, none⟩ = some (.int .i64 (Tr.kid ks i).num))
      (h2 : ∀ i, i < ks.length → w.cell? ⟨b, off + i * 3 + 2, none⟩ = some (.slice (A i) (Tr.kid ks i).kids.length (C i)))
      (hk : ∀ i, i < ks.length → Kids w F (A i) (C i) (Tr.kid ks i).kids) : Kids w F (some ⟨b, off, none⟩) cap ks
theorem Kids.mono {w : World} {F G : Nat → Prop} {a : Option Addr} {cap : Nat} {ks : List Tr} (h : Kids w F a cap ks) (hs : ∀ b, F b → G b) : Kids w G a cap ks := by
  induction h with
  | nil => exact .nil
  | empty a cap => exact .empty a cap
  | row b off cap ks A C hpos hl hF h0 h1 h2 _ ih => exact .row b off cap ks A C hpos hl (hs b hF) h0 h1 h2 ih
/-- What leaves the blocks in F alone leaves the trees. -/
theorem Kids.stay {w w' : World} {F : Nat → Prop} {a : Option Addr} {cap : Nat} {ks : List Tr} (h : Kids w F a cap ks) (hs : ∀ b, F b → b < w.heap.size → w'.heap[b]? = w.heap[b]?) : Kids w' F a cap ks := by
  induction h with
  | nil => exact .nil
  | empty a cap => exact .empty a cap
  | row b off cap ks A C hpos hl hF h0 h1 h2 _ ih =>
    have hb : b < w.heap.size := World.block_lt_of_cell? w _ (h0 0 hpos)
    have e := fun o => World.cell?_of_block (w := w) (w' := w') (a := ⟨b, o, none⟩) (hs b hF hb)
    exact .row b off cap ks A C hpos hl hF (fun i hi => (e _).trans (h0 i hi)) (fun i hi => (e _).trans (h1 i hi)) (fun i hi => (e _).trans (h2 i hi)) ih
theorem Kids.cap {w : World} {F : Nat → Prop} {a : Option Addr} {cap : Nat} {ks : List Tr} (h : Kids w F a cap ks) : OkCap a ks.length cap := by
  cases h with
  | nil => exact ⟨Nat.le_refl _, fun _ => rfl⟩
  | empty a cap => exact ⟨Nat.zero_le _, fun h => by cases h⟩
  | row b off cap ks A C hpos hl => exact ⟨hl, fun h => by cases h⟩
/-- Two numbers and a slice read as a tree. -/
structure IsT (w : World) (F : Nat → Prop) (k n : Int) (a : Option Addr) (m cap : Nat) (t : Tr) : Prop where
  ek : k = t.kind
  en : n = t.num
  em : m = t.kids.length
  ok : t.Ok
  kids : Kids w F a cap t.kids
theorem IsT.fk {w : World} {F : Nat → Prop} {k n : Int} {a : Option Addr} {m cap : Nat} {t : Tr} (h : IsT w F k n a m cap t) : -9223372036854775808 ≤ k ∧ k < 9223372036854775808 := by
  have := fits_i64.1 (Tr.ok_kind h.ok); rw [h.ek]; exact this
theorem IsT.fn {w : World} {F : Nat → Prop} {k n : Int} {a : Option Addr} {m cap : Nat} {t : Tr} (h : IsT w F k n a m cap t) : -9223372036854775808 ≤ n ∧ n < 9223372036854775808 := by
  have := fits_i64.1 (Tr.ok_num h.ok); rw [h.en]; exact this
theorem IsT.mono {w : World} {F G : Nat → Prop} {k n : Int} {a : Option Addr} {m cap : Nat} {t : Tr} (h : IsT w F k n a m cap t) (hs : ∀ b, F b → G b) : IsT w G k n a m cap t := ⟨h.ek, h.en, h.em, h.ok, h.kids.mono hs⟩
theorem IsT.stay {w w' : World} {F : Nat → Prop} {k n : Int} {a : Option Addr} {m cap : Nat} {t : Tr} (h : IsT w F k n a m cap t) (hs : ∀ b, F b → b < w.heap.size → w'.heap[b]? = w.heap[b]?) : IsT w' F k n a m cap t := ⟨h.ek, h.en, h.em, h.ok, h.kids.stay hs⟩
theorem IsT.below {w w' : World} {F : Nat → Prop} {k n : Int} {a : Option Addr} {m cap : Nat} {t : Tr} (h : IsT w F k n a m cap t) (hb : Below w.heap.size w w') : IsT w' F k n a m cap t := h.stay fun b _ hlt => hb.block b hlt
/-- The i-th kid. -/
theorem IsT.kid {w : World} {F : Nat → Prop} {k n : Int} {a : Option Addr} {m cap : Nat} {t : Tr} (h : IsT w F k n a m cap t) (i : Nat) (hi : i < m) :
    ∃ b off k' n' a' m' c', a = some ⟨b, off, none⟩ ∧ F b ∧ b < w.heap.size ∧ w.cell? ⟨b, off + i * 3, none⟩ = some (.int .i64 k') ∧ w.cell? ⟨b, off + i * 3 + 1, none⟩ = some (.int .i64 n') ∧ w.cell? ⟨b, off + i * 3 + 2, none⟩ = some (.slice a' m' c') ∧
      IsT w F k' n' a' m' c' (Tr.kid t.kids i) := by
  have hi' := hi
  rw [h.em] at hi'
  have hok := Tr.ok_mem (Tr.kid_mem hi') (Tr.ok_kids h.ok)
  have hk := h.kids
  generalize t.kids = ks at hk hi' hok ⊢
  cases hk with
  | nil => simp at hi'
  | empty => simp at hi'
  | row b off cap ks A C hpos hl hF h0 h1 h2 hk =>
    exact ⟨b, off, _, _, _, _, _, rfl, hF, World.block_lt_of_cell? w _ (h0 0 hpos), h0 i hi', h1 i hi', h2 i hi', rfl, rfl, rfl, hok, hk i hi'⟩
theorem fits_zero : fits .i64 0 := by rw [fits_i64]; omega
end Go.Proofs.YtlnlijeamflpiaaGreat

namespace Go.Proofs.YtlnlijeamflpiaaGreat
open Go.RowKit
set_option linter.unusedVariables false
set_option linter.unusedSimpArgs false
set_option maxRecDepth 100000
namespace Tr
mutual
def depth : Tr → Nat
  | node _ _ ks => depthL ks + 1
def depthL : List Tr → Nat
  | [] => 0
  | t :: ts => max (depth t) (depthL ts)
end
theorem depth_kids (t : Tr) : t.depth = depthL t.kids + 1 := by cases t; simp [depth, kids]
theorem depthL_append (l r : List Tr) : depthL (l ++ r) = max (depthL l) (depthL r) := by
  induction l with
  | nil => simp [depthL]
  | cons t ts ih => simp only [List.cons_append, depthL, ih]; omega
theorem depthL_snoc (l : List Tr) (t : Tr) : depthL (l ++ [t]) = max (depthL l) t.depth := by rw [depthL_append]; simp [depthL]
theorem depth_le (N : Nat) : ∀ t : Tr, t.size ≤ N → t.depth ≤ t.size := by
  induction N with
  | zero => intro t h; have := size_pos t; omega
  | succ N ih =>
    intro t h
    rw [size_kids] at h ⊢
    rw [depth_kids]
    have h2 : ∀ ks : List Tr, sizeL ks ≤ N → depthL ks ≤ sizeL ks := by
      intro ks
      induction ks with
      | nil => intro _; simp [depthL]
      | cons t ts ih2 => intro hk; simp only [sizeL] at hk; simp only [depthL, sizeL]; have := ih t (by omega); have := ih2 (by omega); omega
    have := h2 t.kids (by omega)
    omega
end Tr
set_option maxHeartbeats 1000000 in
theorem desc_Depth (N : Nat) (hN : N ≤ 4194304) : ∀ (t : Tr) (k n : Int) (a : Option Addr) (m cap : Nat) (w : World) (F : Nat → Prop), t.size ≤ N → IsT w F k n a m cap t →
    Calls Tryz.prog 115 #[.agg #[.int .i64 k, .int .i64 n, .slice a m cap]] w fun e w' => e = .returned (.int .i64 (t.depth : Nat)) ∧ Below w.heap.size w w' := by
  induction N with
  | zero => intro t k n a m cap w F h; have := Tr.size_pos t; omega
  | succ N ih =>
    intro t k n a m cap w F hs hT
    have IH := Lib.hid (ih (by omega))
    clear ih
    have HT := Lib.hid hT
    have hm : m ≤ N := by
      have := Tr.len_le_sizeL t.kids
      rw [Tr.size_kids] at hs
      rw [hT.em]; omega
    have HS := Lib.hid hs
    clear hT hs
    go_enter Tryz.func115, Tryz.ntmps115
    go_wp2_with fail
    go_loopw [3, 9] (fun v i wr => ∃ j d : Nat, j ≤ m ∧ i = .int .i64 j ∧ v = .int .i64 d ∧ d ≤ 4194304 ∧ Hid (d = Tr.depthL (t.kids.take j)) ∧ Below w.heap.size w wr) (fun _ i _ => m - (intOf i).toNat)
    case atStart => exact ⟨0, 0, Nat.zero_le _, rfl, rfl, by omega, by simp [Hid, Tr.depthL], (Below.refl _ _).alloc (Nat.le_refl _) _⟩
    case round =>
      obtain ⟨j, d, hj, rfl, rfl, hd, HD, hbel⟩ := hrel
      by_cases hlt : j < m
      · obtain ⟨b, off, k', n', a', m', c', rfl, hF, hbl, h0, h1, h2, hT'⟩ := (HT.out.below hbel).kid j hlt
        have hj2 : j < t.kids.length := by rw [← HT.out.em]; exact hlt
        have hsz := Tr.size_kid t j hj2
        have hd1 := Tr.depth_le _ (Tr.kid t.kids j) (Nat.le_refl _)
        have hst := Tr.take_kid hj2
        have hs1 : (Tr.kid t.kids j).size ≤ N := by have := HS.out; omega
        obtain ⟨t', ht'⟩ : ∃ t', Tr.kid t.kids j = t' := ⟨_, rfl⟩
        rw [ht'] at hT' hd1 hst hs1
        have CK : Hid (∀ W, Below wr.heap.size wr W → Calls Tryz.prog 115 #[.agg #[.int .i64 k', .int .i64 n', .slice a' m' c']] W fun e w' => e = .returned (.int .i64 (t'.depth : Nat)) ∧ Below W.heap.size W w') := fun W hb => IH.out t' k' n' a' m' c' W F hs1 (hT'.below hb)
        have HN : Hid (max d t'.depth = Tr.depthL (t.kids.take (j + 1))) := by unfold Hid; rw [hst, Tr.depthL_snoc, ← HD.out]
        obtain ⟨e, he⟩ : ∃ e, t'.depth = e := ⟨_, rfl⟩
        rw [he] at CK HN hd1
        have hmx : max d e ≤ 4194304 := by omega
        clear hT' hst hd1 hsz hj2 ht' he HD
        go_wp2_with fail
        refine (CK.out _ ((Below.refl _ _).alloc (Nat.le_refl _) _)).mono ?_; rintro e1 w1 ⟨rfl, hb1⟩
        go_wp2_with fail
        go_roundw
        case rel => exact ⟨j + 1, max d e, by omega, by go_num, by first | (split <;> (congr 1; omega)) | (congr 1; first | omega | simp), hmx, HN.out, chainA hbel hb1⟩
        case measure => simp [intOf]; omega
      · have hjm : j = m := by omega
        have HE : Hid (t.depth = d + 1) := by unfold Hid; rw [Tr.depth_kids, HD.out, List.take_of_length_le (by rw [← HT.out.em]; omega)]
        clear HD
        go_wp2_with fail
        go_ret
        exact ⟨by rw [HE.out]; go_num, hbel⟩
end Go.Proofs.YtlnlijeamflpiaaGreat

namespace Go.Proofs.YtlnlijeamflpiaaGreat
open Go.RowKit
set_option linter.unusedVariables false
set_option linter.unusedSimpArgs false
set_option maxRecDepth 100000
/-- Cells that read as trees, three a tree; what is below lies in F. -/
inductive CellsT (w : World) (F : Nat → Prop) : List Value → List Tr → Prop
  | nil : CellsT w F [] []
  | cons {k n : Int} {a : Option Addr} {m c : Nat} {t : Tr} {xs : List Value} {ts : List Tr} (h : IsT w F k n a m c t) (hs : CellsT w F xs ts) : CellsT w F (.int .i64 k :: .int .i64 n :: .slice a m c :: xs) (t :: ts)
theorem CellsT.len {w : World} {F : Nat → Prop} {xs : List Value} {ts : List Tr} (h : CellsT w F xs ts) : xs.length = ts.length * 3 := by
  induction h with
  | nil => rfl
  | cons _ _ ih => simp only [List.length_cons, ih]; omega
theorem CellsT.append {w : World} {F : Nat → Prop} {xs ys : List Value} {ts us : List Tr} (h : CellsT w F xs ts) (h2 : CellsT w F ys us) : CellsT w F (xs ++ ys) (ts ++ us) := by
  induction h with
  | nil => exact h2
  | cons h _ ih => exact .cons h ih
theorem CellsT.one {w : World} {F : Nat → Prop} {k n : Int} {a : Option Addr} {m c : Nat} {t : Tr} (h : IsT w F k n a m c t) : CellsT w F [.int .i64 k, .int .i64 n, .slice a m c] [t] := .cons h .nil
theorem CellsT.mono {w : World} {F G : Nat → Prop} {xs : List Value} {ts : List Tr} (h : CellsT w F xs ts) (hs : ∀ b, F b → G b) : CellsT w G xs ts := by
  induction h with
  | nil => exact .nil
  | cons h _ ih => exact .cons (h.mono hs) ih
theorem CellsT.stay {w w' : World} {F : Nat → Prop} {xs : List Value} {ts : List Tr} (h : CellsT w F xs ts) (hs : ∀ b, F b → b < w.heap.size → w'.heap[b]? = w.heap[b]?) : CellsT w' F xs ts := by
  induction h with
  | nil => exact .nil
  | cons h _ ih => exact .cons (h.stay hs) ih
theorem CellsT.later {w w' : World} {F : Nat → Prop} {xs : List Value} {ts : List Tr} (h : CellsT w F xs ts) (hb : Below w.heap.size w w') : CellsT w' F xs ts := h.stay fun b _ hlt => hb.block b hlt
theorem CellsT.oneCell {w : World} {F : Nat → Prop} {xs : List Value} {ts : List Tr} (h : CellsT w F xs ts) : ∀ u ∈ xs, u.oneCell' = true := by
  induction h with
  | nil => intro u hu; cases hu
  | cons _ _ ih =>
    intro u hu
    simp only [List.mem_cons] at hu
    rcases hu with rfl | rfl | rfl | hu
    · rfl
    · rfl
    · rfl
    · exact ih u hu
theorem CellsT.ok {w : World} {F : Nat → Prop} {xs : List Value} {ts : List Tr} (h : CellsT w F xs ts) : ∀ t ∈ ts, t.Ok := by
  induction h with
  | nil => intro t ht; cases ht
  | cons h _ ih =>
    intro t ht
    rcases List.mem_cons.1 ht with rfl | ht
    · exact h.ok
    · exact ih t ht
theorem CellsT.at {w : World} {F : Nat → Prop} {xs : List Value} {ts : List Tr} (h : CellsT w F xs ts) : ∀ i, i < ts.length → ∃ k n a m c, xs[i * 3]? = some (.int .i64 k) ∧ xs[i * 3 + 1]? = some (.int .i64 n) ∧ xs[i * 3 + 2]? = some (.slice a m c) ∧ IsT w F k n a m c (Tr.kid ts i) := by
  induction h with
  | nil => intro i hi; simp at hi
  | cons h hs ih =>
    intro i hi
    cases i with
    | zero => exact ⟨_, _, _, _, _, rfl, rfl, rfl, h⟩
    | succ i =>
      obtain ⟨k, n, a, m, c, h0, h1, h2, h3⟩ := ih i (by simpa using hi)
      refine ⟨k, n, a, m, c, ?_, ?_, ?_, h3⟩
      · rw [show (i + 1) * 3 = i * 3 + 3 by omega]; exact h0
      · rw [show (i + 1) * 3 + 1 = i * 3 + 1 + 3 by omega]; exact h1
      · rw [show (i + 1) * 3 + 2 = i * 3 + 2 + 3 by omega]; exact h2
/-- A row of trees that the call owns, as kids that read. -/
theorem kids_of_own {w : World} {base : Nat} {e : TypeId} {a : Option Addr} {n cap : Nat} {xs : List Value} {F G : Nat → Prop} {ts : List Tr} (h : w.ownsRow base e 3 (.slice a n cap) n xs) (hc : CellsT w F xs ts) (hn : ts.length = n)
    (hF : ∀ b, F b → G b) (hG : ∀ g, a = some ⟨g, 0, none⟩ → G g) : Kids w G a cap ts := by
  rcases h.2 with ⟨hv, h0⟩ | ⟨g, cap', cur, hv, hb, hg, hnc, hcm, hcs, htake⟩
  · simp only [Value.slice.injEq] at hv
    obtain ⟨rfl, _, rfl⟩ := hv
    obtain rfl : ts = [] := List.length_eq_zero_iff.1 (by omega)
    exact .nil
  · simp only [Value.slice.injEq, true_and] at hv
    obtain ⟨rfl, rfl⟩ := hv
    rcases Nat.eq_zero_or_pos n with h0 | hpos
    · obtain rfl : ts = [] := List.length_eq_zero_iff.1 (by omega)
      exact .empty _ _
    · have hat := hc.at
      have hA : ∃ A : Nat → Option Addr × Nat, ∀ i, i < ts.length → ∃ k n, xs[i * 3]? = some (.int .i64 k) ∧ xs[i * 3 + 1]? = some (.int .i64 n) ∧ ∃ m, xs[i * 3 + 2]? = some (.slice (A i).1 m (A i).2) ∧ IsT w F k n (A i).1 m (A i).2 (Tr.kid ts i) := by
        have hp : ∀ i, ∃ p : Option Addr × Nat, i < ts.length → ∃ k n, xs[i * 3]? = some (.int .i64 k) ∧ xs[i * 3 + 1]? = some (.int .i64 n) ∧ ∃ m, xs[i * 3 + 2]? = some (.slice p.1 m p.2) ∧ IsT w F k n p.1 m p.2 (Tr.kid ts i) := fun i => by
          by_cases hi : i < ts.length
          · obtain ⟨k, n, a, m, c, h0, h1, h2, h3⟩ := hat i hi
            exact ⟨(a, c), fun _ => ⟨k, n, h0, h1, m, h2, h3⟩⟩
          · exact ⟨(none, 0), fun h => absurd h hi⟩
        exact ⟨fun i => Classical.choose (hp i), fun i hi => Classical.choose_spec (hp i) hi⟩
      obtain ⟨A, hA⟩ := hA
      have hcell : ∀ j, j < n * 3 → w.cell? ⟨g, j, none⟩ = xs[j]? := fun j hj => World.ownsRow.cellAt ⟨h.1, .inr ⟨g, cap, cur, rfl, hb, hg, hnc, hcm, hcs, htake⟩⟩ j hj
      refine .row g 0 cap ts (fun i => (A i).1) (fun i => (A i).2) (by omega) (by omega) (hG g rfl) (fun i hi => ?_) (fun i hi => ?_) (fun i hi => ?_) (fun i hi => ?_)
      · obtain ⟨k, n', h0, h1, m, h2, h3⟩ := hA i hi
        rw [Nat.zero_add, hcell _ (by omega), h0, h3.ek]
      · obtain ⟨k, n', h0, h1, m, h2, h3⟩ := hA i hi
        rw [Nat.zero_add, hcell _ (by omega), h1, h3.en]
      · obtain ⟨k, n', h0, h1, m, h2, h3⟩ := hA i hi
        rw [Nat.zero_add, hcell _ (by omega), h2, h3.em]
      · obtain ⟨k, n', h0, h1, m, h2, h3⟩ := hA i hi
        exact h3.kids.mono hF
theorem own_later3 {w w' : World} {B : Nat} {e : TypeId} {s : Nat} {v : Value} {n : Nat} {xs : List Value} (h : w.ownsRow B e s v n xs) (hb : Below w.heap.size w w') : w'.ownsRow B e s v n xs :=
  h.kept (row := none) ⟨hb.os, hb.tape, hb.output, hb.size, fun j hj _ => hb.block j hj⟩ (by cases v.ownBlock <;> simp)
theorem own_lt3 {wr : World} {e : TypeId} {s : Nat} {v : Value} {n : Nat} {xs : List Value} {B : Nat} (h : wr.ownsRow B e s v n xs) : ∀ k, v.ownBlock = some k → B ≤ k := fun k hk => (h.lt k hk).1
theorem info_desc : (Tryz.prog.info? 48).map (fun i => (i.zero, i.size, i.bytes)) = some (some (.agg #[.int .i64 0, .int .i64 0, .slice none 0 0]), 3, 40) := by kernel_rfl
namespace Tr
mutual
/-- All nodes, a node ahead of those below it. -/
def nodes : Tr → List Tr
  | node k n ks => node k n ks :: nodesL ks
def nodesL : List Tr → List Tr
  | [] => []
  | t :: ts => nodes t ++ nodesL ts
end
theorem nodes_kids (t : Tr) : t.nodes = t :: nodesL t.kids := by cases t; simp [nodes, kids]
theorem nodesL_append (l r : List Tr) : nodesL (l ++ r) = nodesL l ++ nodesL r := by
  induction l with
  | nil => simp [nodesL]
  | cons t ts ih => simp only [List.cons_append, nodesL, ih, List.append_assoc]
theorem nodes_len (N : Nat) : ∀ t : Tr, t.size ≤ N → t.nodes.length = t.size := by
  induction N with
  | zero => intro t h; have := size_pos t; omega
  | succ N ih =>
    intro t h
    rw [size_kids] at h ⊢
    rw [nodes_kids, List.length_cons]
    have h2 : ∀ ks : List Tr, sizeL ks ≤ N → (nodesL ks).length = sizeL ks := by
      intro ks
      induction ks with
      | nil => intro _; simp [nodesL, sizeL]
      | cons t ts ih2 => intro hk; simp only [sizeL] at hk; simp only [nodesL, sizeL, List.length_append]; rw [ih t (by omega), ih2 (by omega)]
    rw [h2 t.kids (by omega)]
theorem nodesL_len (ks : List Tr) : (nodesL ks).length = sizeL ks := by
  induction ks with
  | nil => simp [nodesL, sizeL]
  | cons t ts ih => simp only [nodesL, sizeL, List.length_append]; rw [nodes_len _ t (Nat.le_refl _), ih]
theorem sizeL_take (ks : List Tr) (j : Nat) : sizeL (ks.take j) ≤ sizeL ks := by
  have h := sizeL_append (ks.take j) (ks.drop j)
  rw [List.take_append_drop] at h
  omega
end Tr
end Go.Proofs.YtlnlijeamflpiaaGreat

namespace Go.Proofs.YtlnlijeamflpiaaGreat
open Go.RowKit
set_option linter.unusedVariables false
set_option linter.unusedSimpArgs false
set_option maxRecDepth 100000
def Lt (B : Nat) (b : Nat) : Prop := b < B
end Go.Proofs.YtlnlijeamflpiaaGreat

