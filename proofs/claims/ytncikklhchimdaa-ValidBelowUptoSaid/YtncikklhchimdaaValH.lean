/- The law of plans: the page's example, and the walk. -/
import Derived.Test.YtncikklhchimdaaValG
import Derived.Test.YtncikklhchimdaaSameI
import Derived.Test.YtncikklhchimdaaTreeC
namespace Go.Proofs.Ytncikklhchimdaa
open Go.RowKit
set_option linter.unusedVariables false
set_option linter.unusedSimpArgs false
set_option maxRecDepth 100000
set_option maxRecDepth 20000

def exA : Tr := .node 6 17 [.node 3 16 []]
def exB : Tr := .node 5 4 [.node 2 2 [], .node 2 2 []]
theorem nodeB_63 : nodeB 6 17 1 16 0 = true := by decide +kernel
theorem nodeB_30 : nodeB 3 16 0 0 0 = true := by decide +kernel
theorem nodeB_50 : nodeB 5 4 2 2 2 = false := by decide +kernel
theorem exA_node : nodeOk exA = true := nodeB_63
theorem exA_chk : chk exA = 0 := by
  have h1 : nodeOk exA = true := nodeB_63
  have h2 : nodeOk (.node 3 16 []) = true := nodeB_30
  have hb : bigB exA = false := by simp [bigB, exA, Tr.size, Tr.sizeL, Tr.depth, Tr.depthL]
  have hw : exA.wrong = none := by
    rw [Tr.wrong_kids, if_pos h1]
    simp [exA, Tr.kids, Tr.wrongL, Tr.wrong, h2]
  simp [chk, hb, hw]
theorem exB_chk : chk exB = 8 := by
  have h1 : nodeOk exB = false := nodeB_50
  have hb : bigB exB = false := by simp [bigB, exB, Tr.size, Tr.sizeL, Tr.depth, Tr.depthL]
  have hw : exB.wrong = some [] := by
    rw [Tr.wrong_kids, if_neg (by rw [h1]; simp)]
  simp [chk, hb, hw]

theorem kids_1 {w : World} {b : Nat} {k0 n0 : Int} {T : TypeId} {F : Nat → Prop} (hF : F b) (h : w.heap[b]? = some (.cells #[.int .i64 k0, .int .i64 n0, .slice none 0 0] T (0, 0))) : Kids w F (some ⟨b, 0, none⟩) 1 [.node k0 n0 []] := by
  refine .row b 0 1 _ (fun _ => none) (fun _ => 0) (by simp) (by simp) hF ?_ ?_ ?_ ?_
  all_goals
    intro i hi
    obtain rfl : i = 0 := by simpa using hi
    first | (rw [block_cell h]; rfl) | exact .nil
theorem kids_2 {w : World} {b : Nat} {k0 n0 k1 n1 : Int} {T : TypeId} {F : Nat → Prop} (hF : F b) (h : w.heap[b]? = some (.cells #[.int .i64 k0, .int .i64 n0, .slice none 0 0, .int .i64 k1, .int .i64 n1, .slice none 0 0] T (0, 0))) :
    Kids w F (some ⟨b, 0, none⟩) 2 [.node k0 n0 [], .node k1 n1 []] := by
  refine .row b 0 2 _ (fun _ => none) (fun _ => 0) (by simp) (by simp) hF ?_ ?_ ?_ ?_
  all_goals
    intro i hi
    match i, hi with
    | 0, _ => first | (rw [block_cell h]; rfl) | exact .nil
    | 1, _ => first | (rw [block_cell h]; rfl) | exact .nil

theorem live_boxes (w : World) (T : TypeId) : ∃ W0, (((w.alloc (.cells #[.int .i64 3, .int .i64 16, .slice none 0 0] T)).alloc (.cells #[.int .i64 6, .int .i64 17, .slice (some ⟨w.heap.size, 0, none⟩) 1 1] T)).alloc (.cells #[.int .i64 2, .int .i64 2, .slice none 0 0, .int .i64 2, .int .i64 2, .slice none 0 0] T)).alloc (.cells #[.int .i64 5, .int .i64 4, .slice (some ⟨w.heap.size + 1 + 1, 0, none⟩) 2 2] T) = W0 ∧ Below w.heap.size w W0 ∧
    W0.heap[w.heap.size]? = some (.cells #[.int .i64 3, .int .i64 16, .slice none 0 0] T (0, 0)) ∧ W0.heap[w.heap.size + 1]? = some (.cells #[.int .i64 6, .int .i64 17, .slice (some ⟨w.heap.size, 0, none⟩) 1 1] T (0, 0)) ∧
    W0.heap[w.heap.size + 1 + 1]? = some (.cells #[.int .i64 2, .int .i64 2, .slice none 0 0, .int .i64 2, .int .i64 2, .slice none 0 0] T (0, 0)) ∧ W0.heap[w.heap.size + 1 + 1 + 1]? = some (.cells #[.int .i64 5, .int .i64 4, .slice (some ⟨w.heap.size + 1 + 1, 0, none⟩) 2 2] T (0, 0)) :=
  ⟨_, rfl, ((((Below.refl _ _).alloc (Nat.le_refl _) _).alloc (by simp) _).alloc (by simp <;> omega) _).alloc (by simp <;> omega) _, block_old (by simp <;> omega) (block_old (by simp <;> omega) (block_old (by simp) (block_new rfl))), block_old (by simp <;> omega) (block_old (by simp) (block_new (by simp))), block_old (by simp) (block_new (by simp)), block_new (by simp)⟩

theorem exA_ok : exA.Ok := by
  simp only [exA, Tr.Ok, Tr.OkL, and_true]
  refine ⟨?_, ?_, ?_, ?_⟩ <;> exact fits_i64.2 (by omega)
theorem exB_ok : exB.Ok := by
  simp only [exB, Tr.Ok, Tr.OkL, and_true]
  refine ⟨?_, ?_, ⟨?_, ?_⟩, ?_, ?_⟩ <;> exact fits_i64.2 (by omega)
theorem exA_size : exA.size ≤ 4194304 := by simp [exA, Tr.size, Tr.sizeL]
theorem exB_size : exB.size ≤ 4194304 := by simp [exB, Tr.size, Tr.sizeL]

set_option maxHeartbeats 1000000 in
theorem live14 (w : World) : Calls Try.prog 15 #[] w fun e w' => e = .returned (.bool true) ∧ Below w.heap.size w w' := by
  obtain ⟨W0, hW0, hb0, x0, x1, x2, x3⟩ := live_boxes w 24
  have hA : IsT W0 (fun _ => True) 6 17 (some ⟨w.heap.size, 0, none⟩) 1 1 exA := ⟨rfl, rfl, rfl, exA_ok, kids_1 trivial x0⟩
  have hB : IsT W0 (fun _ => True) 5 4 (some ⟨w.heap.size + 1 + 1, 0, none⟩) 2 2 exB := ⟨rfl, rfl, rfl, exB_ok, kids_2 trivial x2⟩
  have CN : Hid (∀ W, Below W0.heap.size W0 W → Calls Try.prog 21 #[.agg #[.int .i64 6, .int .i64 17, .slice (some ⟨w.heap.size, 0, none⟩) 1 1]] W fun e w' => e = .returned (.bool true) ∧ Below W.heap.size W w') := fun W hb => by
    have := valid_Node exA _ _ _ _ _ W _ (hA.below hb); rwa [exA_node] at this
  have CA : Hid (∀ W, Below W0.heap.size W0 W → Calls Try.prog 17 #[.agg #[.int .i64 6, .int .i64 17, .slice (some ⟨w.heap.size, 0, none⟩) 1 1]] W fun e w' => e = .returned (.int .i64 0) ∧ Below W.heap.size W w') := fun W hb => by
    have := valid_Check exA _ _ _ _ _ W _ exA_size (hA.below hb); rwa [exA_chk] at this
  have CB : Hid (∀ W, Below W0.heap.size W0 W → Calls Try.prog 17 #[.agg #[.int .i64 5, .int .i64 4, .slice (some ⟨w.heap.size + 1 + 1, 0, none⟩) 2 2]] W fun e w' => e = .returned (.int .i64 8) ∧ Below W.heap.size W w') := fun W hb => by
    have := valid_Check exB _ _ _ _ _ W _ exB_size (hB.below hb); rwa [exB_chk] at this
  have HB0 := Lib.hid hb0
  have HW0 := Lib.hid hW0
  have X1 := Lib.hid x1
  have X3 := Lib.hid x3
  have c10 : W0.cell? ⟨w.heap.size + 1, 0, none⟩ = some (.int .i64 6) := block_cell x1 0
  have c11 : W0.cell? ⟨w.heap.size + 1, 1, none⟩ = some (.int .i64 17) := block_cell x1 1
  have c12 : W0.cell? ⟨w.heap.size + 1, 2, none⟩ = some (.slice (some ⟨w.heap.size, 0, none⟩) 1 1) := block_cell x1 2
  clear hA hB hW0 x0 x1 x2 x3 hb0
  go_enter Try.func15, Try.ntmps15
  go_wp2_with fail
  rw [HW0.out]
  refine (CN.out _ (Below.refl _ _)).mono ?_; rintro e w1 ⟨rfl, hb1⟩
  have HB1 := Lib.hid hb1
  have hx1 := (hb1.block _ (block_lt X1.out)).trans X1.out
  have d10 : w1.cell? ⟨w.heap.size + 1, 0, none⟩ = some (.int .i64 6) := block_cell hx1 0
  have d11 : w1.cell? ⟨w.heap.size + 1, 1, none⟩ = some (.int .i64 17) := block_cell hx1 1
  have d12 : w1.cell? ⟨w.heap.size + 1, 2, none⟩ = some (.slice (some ⟨w.heap.size, 0, none⟩) 1 1) := block_cell hx1 2
  clear c10 c11 c12 hb1 hx1
  go_wp2_with fail
  refine (CA.out _ HB1.out).mono ?_; rintro e w2 ⟨rfl, hb2⟩
  have HB2 := Lib.hid (chain HB1.out hb2)
  have hx3 := ((chain HB1.out hb2).block _ (block_lt X3.out)).trans X3.out
  have e30 : w2.cell? ⟨w.heap.size + 1 + 1 + 1, 0, none⟩ = some (.int .i64 5) := block_cell hx3 0
  have e31 : w2.cell? ⟨w.heap.size + 1 + 1 + 1, 1, none⟩ = some (.int .i64 4) := block_cell hx3 1
  have e32 : w2.cell? ⟨w.heap.size + 1 + 1 + 1, 2, none⟩ = some (.slice (some ⟨w.heap.size + 1 + 1, 0, none⟩) 2 2) := block_cell hx3 2
  clear d10 d11 d12 hb2 hx3
  go_wp2_with fail
  refine (CB.out _ HB2.out).mono ?_; rintro e w3 ⟨rfl, hb3⟩
  have hbe := chain HB0.out (chain HB2.out hb3)
  clear hb3 e30 e31 e32
  go_wp2_with fail
  go_ret
  exact ⟨rfl, hbe⟩
end Go.Proofs.Ytncikklhchimdaa
