/- Trees: the page's example. -/
import Derived.Test.YtncikklhchimdaaTreeM
namespace Go.Proofs.Ytncikklhchimdaa
open Go.RowKit
set_option linter.unusedVariables false
set_option linter.unusedSimpArgs false
set_option maxRecDepth 100000

theorem kids_two {w : World} {b : Nat} {k0 n0 k1 n1 : Int} {T : TypeId} {F : Nat → Prop} (hF : F b) (h : w.heap[b]? = some (.cells #[.int .i64 k0, .int .i64 n0, .slice none 0 0, .int .i64 k1, .int .i64 n1, .slice none 0 0] T (0, 0))) :
    Kids w F (some ⟨b, 0, none⟩) 2 [.node k0 n0 [], .node k1 n1 []] := by
  refine .row b 0 2 _ (fun _ => none) (fun _ => 0) (by simp) (by simp) hF ?_ ?_ ?_ ?_
  · intro i hi
    match i, hi with
    | 0, _ => rw [block_cell h]; rfl
    | 1, _ => rw [block_cell h]; rfl
  · intro i hi
    match i, hi with
    | 0, _ => rw [block_cell h]; rfl
    | 1, _ => rw [block_cell h]; rfl
  · intro i hi
    match i, hi with
    | 0, _ => rw [block_cell h]; rfl
    | 1, _ => rw [block_cell h]; rfl
  · intro i hi
    match i, hi with
    | 0, _ => exact .nil
    | 1, _ => exact .nil

def exT : Tr := .node 4 6 [.node 2 2 [], .node 2 3 []]
theorem exT_ok : exT.Ok := by
  simp only [exT, Tr.Ok, Tr.OkL, and_true]
  refine ⟨?_, ?_, ⟨?_, ?_⟩, ?_, ?_⟩ <;> exact fits_i64.2 (by omega)
theorem exT_size : exT.size = 3 := by simp [exT, Tr.size, Tr.sizeL]
theorem exT_depth : exT.depth = 2 := by simp [exT, Tr.depth, Tr.depthL]
theorem exT_at : Tr.at? exT [1] = some (.node 2 3 []) := by
  rw [Tr.at_in (by omega) (by simp [exT, Tr.kids])]; rfl

end Go.Proofs.Ytncikklhchimdaa
