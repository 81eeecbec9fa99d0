/- The law of orders of trees, as a call that returns true. -/
import Derived.Test.YtncikklhchimdaaTreeO
namespace Go.Proofs.Ytncikklhchimdaa
open Go.RowKit
set_option linter.unusedVariables false
set_option linter.unusedSimpArgs false
set_option maxRecDepth 100000

theorem three_boxes (w : World) (k n k' n' k2 n2 : Int) (a a' a2 : Option Addr) (m c m' c' m2 c2 : Nat) (T : TypeId) :
    ∃ W0, ((w.alloc (.cells #[.int .i64 k, .int .i64 n, .slice a m c] T)).alloc (.cells #[.int .i64 k', .int .i64 n', .slice a' m' c'] T)).alloc (.cells #[.int .i64 k2, .int .i64 n2, .slice a2 m2 c2] T) = W0 ∧ Below w.heap.size w W0 ∧ W0.heap.size = w.heap.size + 3 ∧
      W0.heap[w.heap.size]? = some (.cells #[.int .i64 k, .int .i64 n, .slice a m c] T (0, 0)) ∧ W0.heap[w.heap.size + 1]? = some (.cells #[.int .i64 k', .int .i64 n', .slice a' m' c'] T (0, 0)) ∧ W0.heap[w.heap.size + 1 + 1]? = some (.cells #[.int .i64 k2, .int .i64 n2, .slice a2 m2 c2] T (0, 0)) :=
  ⟨_, rfl, (((Below.refl _ _).alloc (Nat.le_refl _) _).alloc (by simp) _).alloc (by simp; omega) _, by simp, block_old (by simp; omega) (block_old (by simp) (block_new rfl)), block_old (by simp) (block_new (by simp)), block_new (by simp)⟩

end Go.Proofs.Ytncikklhchimdaa
