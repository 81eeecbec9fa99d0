/- Plans that are worth a trial: nodes, the plan without a choice. -/
import Derived.Test.YtncikklhchimdaaCandL
import Derived.Test.YtncikklhchimdaaFactA
import Derived.Test.YtncikklhchimdaaTreeB
import Derived.Test.YtncikklhchimdaaTreeH
namespace Go.Proofs.Ytncikklhchimdaa
open Go.RowKit
set_option linter.unusedVariables false
set_option linter.unusedSimpArgs false
set_option maxRecDepth 100000
set_option maxRecDepth 20000

/-! ### Nodes -/
/-- Blocks from B on. -/
def Since (B : Nat) (b : Nat) : Prop := B ≤ b
theorem kids_one {w : World} {g : Nat} {k n : Int} {a : Option Addr} {m c : Nat} {T : TypeId} {F : Nat → Prop} {t : Tr} (hF : F g) (h : w.heap[g]? = some (.cells #[.int .i64 k, .int .i64 n, .slice a m c] T (0, 0))) (hT : IsT w F k n a m c t) : Kids w F (some ⟨g, 0, none⟩) 1 [t] := by
  refine .row g 0 1 _ (fun _ => a) (fun _ => c) (by simp) (by simp) hF ?_ ?_ ?_ ?_
  all_goals
    intro i hi
    obtain rfl : i = 0 := by simpa using hi
  · rw [block_cell h]; exact congrArg (fun x => some (Value.int .i64 x)) hT.ek
  · rw [block_cell h]; exact congrArg (fun x => some (Value.int .i64 x)) hT.en
  · rw [block_cell h]; exact congrArg (fun x => some (Value.slice a x c)) hT.em
  · exact hT.kids
theorem kids_twoT {w : World} {g : Nat} {k n k' n' : Int} {a a' : Option Addr} {m c m' c' : Nat} {T : TypeId} {F : Nat → Prop} {t u : Tr} (hF : F g) (h : w.heap[g]? = some (.cells #[.int .i64 k, .int .i64 n, .slice a m c, .int .i64 k', .int .i64 n', .slice a' m' c'] T (0, 0)))
    (hT : IsT w F k n a m c t) (hU : IsT w F k' n' a' m' c' u) : Kids w F (some ⟨g, 0, none⟩) 2 [t, u] := by
  refine .row g 0 2 _ (fun i => if i = 0 then a else a') (fun i => if i = 0 then c else c') (by simp) (by simp) hF ?_ ?_ ?_ ?_
  all_goals
    intro i hi
    obtain rfl | rfl : i = 0 ∨ i = 1 := by simp at hi; omega
  · rw [block_cell h]; exact congrArg (fun x => some (Value.int .i64 x)) hT.ek
  · rw [block_cell h]; exact congrArg (fun x => some (Value.int .i64 x)) hU.ek
  · rw [block_cell h]; exact congrArg (fun x => some (Value.int .i64 x)) hT.en
  · rw [block_cell h]; exact congrArg (fun x => some (Value.int .i64 x)) hU.en
  · rw [block_cell h]; exact congrArg (fun x => some (Value.slice a x c)) hT.em
  · rw [block_cell h]; exact congrArg (fun x => some (Value.slice a' x c')) hU.em
  · exact hT.kids
  · exact hU.kids
theorem isT_none (w : World) (F : Nat → Prop) {k n : Int} (hk : fits .i64 k) (hn : fits .i64 n) : IsT w F k n none 0 0 (.node k n []) := ⟨rfl, rfl, rfl, by simp only [Tr.Ok, Tr.OkL]; exact ⟨hk, hn, trivial⟩, .nil⟩
theorem isT_node {w : World} {F : Nat → Prop} {k n : Int} {a : Option Addr} {c : Nat} {ts : List Tr} (hk : fits .i64 k) (hn : fits .i64 n) (ho : ∀ t ∈ ts, t.Ok) (h : Kids w F a c ts) : IsT w F k n a ts.length c (.node k n ts) := ⟨rfl, rfl, rfl, by simp only [Tr.Ok]; exact ⟨hk, hn, Tr.okL_of ho⟩, h⟩

/-- A result: a new tree. -/
def GivesD (t : Tr) (w : World) (e : Ending) (w' : World) : Prop :=
  ∃ k n a m c, e = .returned (.agg #[.int .i64 k, .int .i64 n, .slice a m c]) ∧ IsT w' (Since w.heap.size) k n a m c t ∧ Below w.heap.size w w'

theorem fin3 {w wr : World} {x y z : Value} {T : TypeId} (hb : Below w.heap.size w wr) (hx : wr.heap[w.heap.size]? = some (.cells #[x, y, z] T (0, 0))) (x' y' z' : Value) :
    ∃ w', ((wr.setCell ⟨w.heap.size, 0, none⟩ x').setCell ⟨w.heap.size, 1, none⟩ y').setCell ⟨w.heap.size, 2, none⟩ z' = w' ∧ Below w.heap.size w w' ∧ w'.cell? ⟨w.heap.size, 0, none⟩ = some x' ∧ w'.cell? ⟨w.heap.size, 1, none⟩ = some y' ∧ w'.cell? ⟨w.heap.size, 2, none⟩ = some z' ∧ (∀ c, c ≠ w.heap.size → w'.heap[c]? = wr.heap[c]?) := by
  have h := set3 (x' := x') (y' := y') (z' := z') hx
  exact ⟨_, rfl, set3_below hb _ (Nat.le_refl _) _ _ _, block_cell h 0, block_cell h 1, block_cell h 2, fun c hc => set3_far wr w.heap.size _ _ _ c hc⟩
theorem box_fresh (W : World) (cs : Array Value) (T : TypeId) : ∃ W', W.alloc (.cells cs T) = W' ∧ Below W.heap.size W W' ∧ W'.heap[W.heap.size]? = some (.cells cs T (0, 0)) := ⟨_, rfl, (Below.refl _ _).alloc (Nat.le_refl _) _, block_new rfl⟩
theorem okF_sz {f n : Nat} (h : okF f n = true) : hasSz n = true := by
  cases f with
  | zero => cases h
  | succ f => unfold okF at h; rw [Bool.and_eq_true] at h; exact h.1
theorem zfacts {w : World} {b : Nat} {x y z : Value} {T : TypeId} (h : w.heap[b]? = some (.cells #[x, y, z] T (0, 0))) : w.cell? ⟨b, 0, none⟩ = some x ∧ w.cell? ⟨b, 1, none⟩ = some y ∧ w.cell? ⟨b, 2, none⟩ = some z ∧ w.frozen? ⟨b, 0, none⟩ = false ∧ w.frozen? ⟨b, 1, none⟩ = false ∧ w.frozen? ⟨b, 2, none⟩ = false :=
  ⟨block_cell h 0, block_cell h 1, block_cell h 2, block_free h 0, block_free h 1, block_free h 2⟩
theorem zbox (w : World) (T : TypeId) : ∃ W0, w.alloc (.cells #[.int .i64 0, .int .i64 0, .slice none 0 0] T) = W0 ∧ Below w.heap.size w W0 ∧ W0.heap[w.heap.size]? = some (.cells #[.int .i64 0, .int .i64 0, .slice none 0 0] T (0, 0)) := ⟨_, rfl, (Below.refl _ _).alloc (Nat.le_refl _) _, block_new rfl⟩

theorem cand_node (k n : Int) (a : Option Addr) (m c : Nat) (w : World) :
    Calls Try.prog 75 #[.int .i64 k, .int .i64 n, .slice a m c] w fun e w' => e = .returned (.agg #[.int .i64 k, .int .i64 n, .slice a m c]) ∧ Below w.heap.size w w' := by
  obtain ⟨W0, hW0, hb0, x0⟩ := zbox w 24
  obtain ⟨p0, p1, p2, f0, f1, f2⟩ := zfacts x0
  go_enter Try.func75, Try.ntmps75
  go_wp2_with fail
  obtain ⟨w', hw', hb, r0, r1, r2, _⟩ := fin3 hb0 x0 (.int .i64 k) (.int .i64 n) (.slice a m c)
  rw [hw']
  exact bodyPost_ret (v := .agg #[.int .i64 k, .int .i64 n, .slice a m c]) (by simp [results, Try.results75, go_sem, r0, r1, r2]) rfl ⟨rfl, hb⟩
theorem ref19_leaf (k n : Int) (w : World) :
    Calls Try.prog 78 #[.int .i64 k, .int .i64 n] w fun e w' => e = .returned (.agg #[.int .i64 k, .int .i64 n, .slice none 0 0]) ∧ Below w.heap.size w w' := by
  obtain ⟨W0, hW0, hb0, x0⟩ := zbox w 24
  obtain ⟨p0, p1, p2, f0, f1, f2⟩ := zfacts x0
  go_enter Try.func78, Try.ntmps78
  go_wp2_with fail
  obtain ⟨w', hw', hb, r0, r1, r2, _⟩ := fin3 hb0 x0 (.int .i64 k) (.int .i64 n) (.slice none 0 0)
  rw [hw']
  exact bodyPost_ret (v := .agg #[.int .i64 k, .int .i64 n, .slice none 0 0]) (by simp [results, Try.results78, go_sem, r0, r1, r2]) rfl ⟨rfl, hb⟩
end Go.Proofs.Ytncikklhchimdaa
