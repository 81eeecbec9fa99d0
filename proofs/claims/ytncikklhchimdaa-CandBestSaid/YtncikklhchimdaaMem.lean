/- Words on memory: a slice of integers that reads as a list; what stays so when the world grows. No function of the program is named. -/
import Derived.Test.YtncikklhchimdaaProg
import Derived.WalkKit
import Derived.WalkSpells
import Derived.WalkLawsBesides
import Derived.Handy
import Derived.Lib.Hide
namespace Go.Proofs.Ytncikklhchimdaa
open Go.RowKit
set_option linter.unusedVariables false
set_option linter.unusedSimpArgs false
set_option maxRecDepth 100000

theorem ret_int {k : IntKind} {a b : Int} (h : a = b) : Ending.returned (.int k a) = .returned (.int k b) := by rw [h]
theorem ret_bool {a b : Bool} (h : a = b) : Ending.returned (.bool a) = .returned (.bool b) := by rw [h]

/-- The i-th number of a list (a name that the walk's simp leaves alone). -/
def nth (xs : List Int) (i : Nat) : Int := xs.getD i 0

theorem nth_map (f : Int → Int) (xs : List Int) (i : Nat) (h : i < xs.length) : nth (xs.map f) i = f (nth xs i) := by
  simp [nth, h]
theorem nth_mem {xs : List Int} {i : Nat} (h : i < xs.length) : nth xs i ∈ xs := by
  simp [nth, h]
theorem nth_append_left {xs ys : List Int} {i : Nat} (h : i < xs.length) : nth (xs ++ ys) i = nth xs i := by
  simp [nth, List.getElem?_append_left h]
theorem nth_append_right {xs ys : List Int} {i : Nat} (h : xs.length ≤ i) : nth (xs ++ ys) i = nth ys (i - xs.length) := by
  simp [nth, List.getElem?_append_right h]
theorem nth_take {xs : List Int} {n i : Nat} (h : i < n) : nth (xs.take n) i = nth xs i := by
  simp [nth, h]
theorem nth_drop (xs : List Int) (n i : Nat) : nth (xs.drop n) i = nth xs (n + i) := by
  simp [nth]
theorem take_succ_nth {xs : List Int} {k : Nat} (h : k < xs.length) : xs.take (k + 1) = xs.take k ++ [nth xs k] := by
  rw [List.take_succ_eq_append_getElem h]; simp [nth, h]
theorem ext_nth {xs ys : List Int} (hl : xs.length = ys.length) (h : ∀ i, i < xs.length → nth xs i = nth ys i) : xs = ys := by
  apply List.ext_getElem hl
  intro i h1 h2
  have := h i h1
  simpa [nth, h1, h2] using this
theorem nth_ofFn (f : Nat → Int) (n i : Nat) (h : i < n) : nth ((List.range n).map f) i = f i := by
  simp [nth, h]

theorem map_nth (f : Int → Int) (xs : List Int) : xs.map f = (List.range xs.length).map fun i => f (nth xs i) :=
  ext_nth (by simp) (fun i hi => by
    have h1 : i < xs.length := by simpa using hi
    rw [nth_map f xs i h1, nth_ofFn _ _ _ h1])

/-- Kind k holds the number x. -/
def fits (k : IntKind) (x : Int) : Prop := (Lit.int k x).wf = true
theorem fits_u64 {x : Int} : fits .u64 x ↔ 0 ≤ x ∧ x < 18446744073709551616 := by
  unfold fits
  simp only [Lit.wf, Bool.and_eq_true, decide_eq_true_eq, show IntKind.u64.min = 0 from rfl, show IntKind.u64.max = 18446744073709551615 from rfl]
  omega
theorem fits_i64 {x : Int} : fits .i64 x ↔ -9223372036854775808 ≤ x ∧ x < 9223372036854775808 := by
  unfold fits
  simp only [Lit.wf, Bool.and_eq_true, decide_eq_true_eq, show IntKind.i64.min = -9223372036854775808 from rfl, show IntKind.i64.max = 9223372036854775807 from rfl]
  omega

/-- The slice at address a (length: the list's) holds the numbers xs, of kind k. -/
structure Row (k : IntKind) (w : World) (a : Option Addr) (xs : List Int) : Prop where
  len : xs.length ≤ 9223372036854775807
  wf : ∀ x ∈ xs, fits k x
  lies : xs = [] ∨ ∃ b off, a = some ⟨b, off, none⟩ ∧ ∀ i, i < xs.length → w.cell? ⟨b, off + i, none⟩ = some (.int k (nth xs i))

theorem Row.nil (k : IntKind) (w : World) (a : Option Addr) : Row k w a [] := ⟨by simp, by simp, .inl rfl⟩

theorem Row.at {k : IntKind} {w : World} {a : Option Addr} {xs : List Int} (h : Row k w a xs) (h0 : 0 < xs.length) : ∃ b off, a = some ⟨b, off, none⟩ ∧ ∀ i, i < xs.length → w.cell? ⟨b, off + i, none⟩ = some (.int k (nth xs i)) := by
  rcases h.lies with h1 | h1
  · subst h1; simp at h0
  · exact h1

theorem Row.below {k : IntKind} {w w' : World} {a : Option Addr} {xs : List Int} (h : Row k w a xs) (hb : Below w.heap.size w w') : Row k w' a xs := by
  refine ⟨h.len, h.wf, ?_⟩
  rcases h.lies with h1 | ⟨b, off, h1, h2⟩
  · exact .inl h1
  · refine .inr ⟨b, off, h1, fun i hi => ?_⟩
    rw [hb.cell (World.block_lt_of_cell? w _ (h2 i hi))]
    exact h2 i hi

theorem Row.grown {k : IntKind} {w w' : World} {a : Option Addr} {xs : List Int} (h : Row k w a xs) (hb : w.grownBy w' none) : Row k w' a xs :=
  h.below ⟨hb.os, hb.tape, hb.output, hb.size, fun k hk => hb.block k hk (by simp)⟩

/-- A part of it: from i on, n numbers. -/
theorem Row.cut {k : IntKind} {w : World} {b off : Nat} {xs : List Int} (h : Row k w (some ⟨b, off, none⟩) xs) (i j : Nat) : Row k w (some ⟨b, off + i, none⟩) ((xs.take j).drop i) := by
  refine ⟨Nat.le_trans (by simp; omega) h.len, fun x hx => h.wf x (List.mem_of_mem_take (List.mem_of_mem_drop hx)), ?_⟩
  rcases h.lies with h1 | ⟨b', off', h1, h2⟩
  · left; subst h1; simp
  · right
    simp only [Option.some.injEq, Addr.mk.injEq, and_true] at h1
    obtain ⟨rfl, rfl⟩ := h1
    refine ⟨b, off + i, rfl, fun t ht => ?_⟩
    simp at ht
    rw [Nat.add_assoc, h2 (i + t) (by omega), nth_drop, nth_take (by omega)]

/-- What the call owns, as a row that reads. -/
theorem Row.of_own {k : IntKind} {w : World} {base : Nat} {e : TypeId} {a : Option Addr} {n cap : Nat} {xs : List Int} (hn : xs.length = n) (hl : n ≤ 9223372036854775807) (hf : ∀ x ∈ xs, fits k x)
    (h : w.ownsRow base e 1 (.slice a n cap) n (xs.map (Value.int k))) : Row k w a xs := by
  refine ⟨by omega, hf, ?_⟩
  obtain ⟨h1, h2 | ⟨g, c, cur, hv, _⟩⟩ := h
  · left; obtain ⟨_, rfl⟩ := h2; exact List.length_eq_zero_iff.1 hn
  · right
    simp only [Value.slice.injEq] at hv
    obtain ⟨rfl, _, rfl⟩ := hv
    refine ⟨g, 0, rfl, fun i hi => ?_⟩
    have := World.ownsRow.cellAt ⟨h1, .inr ⟨g, cap, cur, rfl, by assumption⟩⟩ i (by omega)
    rw [Nat.zero_add, this]
    simp [nth, hi]

/-- The capacity of a slice of n elements. -/
def OkCap (a : Option Addr) (n cap : Nat) : Prop := n ≤ cap ∧ (a = none → cap = 0)

/-- Below, one behind the other. -/
theorem chain {w w1 w2 : World} (h : Below w.heap.size w w1) (h2 : Below w1.heap.size w1 w2) : Below w.heap.size w w2 := h.trans (h2.mono h.size)
theorem chainA {w w1 w2 : World} {o : Obj} (h : Below w.heap.size w w1) (h2 : Below (w1.alloc o).heap.size (w1.alloc o) w2) : Below w.heap.size w w2 :=
  (h.alloc h.size o).trans (h2.mono (by have := h.size; simp; omega))

theorem info_u64 : (Try.prog.info? 81).map (fun i => (i.zero, i.size, i.bytes)) = some (some (.int .u64 0), 1, 8) := by kernel_rfl
theorem info_int : (Try.prog.info? 3).map (fun i => (i.zero, i.size, i.bytes)) = some (some (.int .i64 0), 1, 8) := by kernel_rfl
end Go.Proofs.Ytncikklhchimdaa
