/- Trees: the page's example. -/
import Derived.Test.YtpehbgcbifgokaaTreeM
namespace Go.Proofs.Ytpehbgcbifgokaa
open Go.RowKit
set_option linter.unusedVariables false
set_option linter.unusedSimpArgs false

theorem kids_two {w : World} {b : Nat} {k0 n0 k1 n1 : Int} {T : TypeId} {F : Nat → Prop} (hF : F b) (h : w.heap[b]? = some (.cells #[.int .i64 k0, .int .i64 n0, .slice none 0 0, .int .i64 k1, .int .i64 n1, .slice none 0 0] T (0, 0))) :
    Kids w F (some ⟨b, 0, none⟩) 2 [.node k0 n0 [], .node k1 n1 []] := by
  refine .row b 0 2 _ (fun _ => none) (fun _ => 0) (by simp) (by simp) hF ?_ ?_ ?_ ?_
  · intro i hi
    match i, hi with
    | 0, _ => rw [block_cell h]; rfl
    | 1, _ => rw [block_cell h]; rfl
  · intro i hi
    match i, hi with
    | 0, _ => rw [block_cell h]; rfl
    | 1, _ => rw [block_cell h]; rfl
  · intro i hi
    match i, hi with
    | 0, _ => rw [block_cell h]; rfl
    | 1, _ => rw [block_cell h]; rfl
  · intro i hi
    match i, hi with
    | 0, _ => exact .nil
    | 1, _ => exact .nil

def exT : Tr := .node 4 6 [.node 2 2 [], .node 2 3 []]
theorem exT_ok : exT.Ok := by
  simp only [exT, Tr.Ok, Tr.OkL, and_true]
  refine ⟨?_, ?_, ⟨?_, ?_⟩, ?_, ?_⟩ <;> exact fits_i64.2 (by omega)
theorem exT_size : exT.size = 3 := by simp [exT, Tr.size, Tr.sizeL]
theorem exT_depth : exT.depth = 2 := by simp [exT, Tr.depth, Tr.depthL]
theorem exT_at : Tr.at? exT [1] = some (.node 2 3 []) := by
  rw [Tr.at_in (by omega) (by simp [exT, Tr.kids])]; rfl

set_option maxHeartbeats 1000000 in
theorem live13 (w : World) : Calls Try.prog 13 #[] w fun e w' => e = .returned (.bool true) ∧ Below w.heap.size w w' := by
  go_enter Try.func13, Try.ntmps13
  go_wp2_with fail
  obtain ⟨W0, hW0⟩ : ∃ W0, ((w.alloc (.cells #[.int .i64 2, .int .i64 2, .slice none 0 0, .int .i64 2, .int .i64 3, .slice none 0 0] 24)).alloc (.cells #[.int .i64 4, .int .i64 6, .slice (some ⟨w.heap.size, 0, none⟩) 2 2] 24)).alloc (.cells #[.int .i64 1] 3) = W0 := ⟨_, rfl⟩
  have hb0 : Below w.heap.size w W0 := by rw [← hW0]; exact (((Below.refl _ _).alloc (Nat.le_refl _) _).alloc (by simp) _).alloc (by simp; omega) _
  have hk0 : W0.heap[w.heap.size]? = some (.cells #[.int .i64 2, .int .i64 2, .slice none 0 0, .int .i64 2, .int .i64 3, .slice none 0 0] 24 (0, 0)) := by rw [← hW0]; exact block_old (by simp; omega) (block_old (by simp) (block_new rfl))
  have hd0 : W0.heap[w.heap.size + 1]? = some (.cells #[.int .i64 4, .int .i64 6, .slice (some ⟨w.heap.size, 0, none⟩) 2 2] 24 (0, 0)) := by rw [← hW0]; exact block_old (by simp) (block_new (by simp))
  have hp0 : Row .i64 W0 (some ⟨w.heap.size + 1 + 1, 0, none⟩) [1] := by
    rw [← hW0]
    have := row_new .i64 ((w.alloc (.cells #[.int .i64 2, .int .i64 2, .slice none 0 0, .int .i64 2, .int .i64 3, .slice none 0 0] 24)).alloc (.cells #[.int .i64 4, .int .i64 6, .slice (some ⟨w.heap.size, 0, none⟩) 2 2] 24)) 3 [1] (by intro x hx; simp at hx; subst hx; exact fits_i64.2 (by omega)) (by simp)
    simpa using this
  rw [hW0]
  clear hW0
  have hT : IsT W0 (fun _ => True) 4 6 (some ⟨w.heap.size, 0, none⟩) 2 2 exT := ⟨rfl, rfl, rfl, exT_ok, kids_two trivial hk0⟩
  have HT := Lib.hid hT
  have HD := Lib.hid hd0
  have HB0 := Lib.hid hb0
  have hs : exT.size ≤ 4194304 := by rw [exT_size]; omega
  refine (desc_At_yes exT (.node 2 3 []) 4 6 _ 2 2 _ 1 1 [1] W0 (fun _ => True) hs hT hp0 rfl exT_at).mono ?_
  rintro e w1 ⟨k1, n1, a1, m1, c1, rfl, hS, hb1⟩
  obtain rfl : n1 = 3 := hS.en
  have hl1 := block_lt HD.out
  have HD1 := Lib.hid ((hb1.block _ hl1).trans HD.out)
  have HT1 := Lib.hid (HT.out.below hb1)
  have hb1' : Below w.heap.size w w1 := chain HB0.out hb1
  have HB1 := Lib.hid hb1'
  clear hT hd0 hb0 hk0 hp0 hS hb1 hb1'
  have c0 := block_cell HD1.out 0
  have c1' := block_cell HD1.out 1
  have c2 := block_cell HD1.out 2
  simp at c0 c1' c2
  have hl2 := block_lt HD1.out
  have CN : Hid (∀ W, Below w1.heap.size w1 W → Calls Try.prog 16 #[.agg #[.int .i64 4, .int .i64 6, .slice (some ⟨w.heap.size, 0, none⟩) 2 2]] W fun e w' => e = .returned (.int .i64 3) ∧ Below W.heap.size W w') := fun W hb => by
    have := desc_Nodes exT 4 6 (some ⟨w.heap.size, 0, none⟩) 2 2 W (fun _ => True) hs (HT1.out.below hb)
    rw [exT_size] at this
    exact this
  have CD : Hid (∀ W, Below w1.heap.size w1 W → Calls Try.prog 17 #[.agg #[.int .i64 4, .int .i64 6, .slice (some ⟨w.heap.size, 0, none⟩) 2 2]] W fun e w' => e = .returned (.int .i64 2) ∧ Below W.heap.size W w') := fun W hb => by
    have := desc_Depth 4194304 (by omega) exT 4 6 (some ⟨w.heap.size, 0, none⟩) 2 2 W (fun _ => True) hs (HT1.out.below hb)
    rw [exT_depth] at this
    exact this
  go_wp2_with fail
  refine (CN.out _ ((Below.refl _ _).alloc (Nat.le_refl _) _)).mono ?_
  rintro e w2 ⟨rfl, hb2⟩
  have hbn : Below w1.heap.size w1 w2 := chain ((Below.refl _ _).alloc (Nat.le_refl _) _) hb2
  have hkb : w2.heap[w1.heap.size]? = some (.cells #[.int .i64 k1, .int .i64 3, .slice a1 m1 c1] 24 (0, 0)) := (hb2.block _ (by simp)).trans (block_new rfl)
  have d0 := (hbn.cell (p := ⟨w.heap.size + 1, 0, none⟩) hl2).trans c0
  have d1 := (hbn.cell (p := ⟨w.heap.size + 1, 1, none⟩) hl2).trans c1'
  have d2 := (hbn.cell (p := ⟨w.heap.size + 1, 2, none⟩) hl2).trans c2
  have HBN := Lib.hid hbn
  have HKB := Lib.hid hkb
  clear hb2 hbn hkb
  go_wp2_with fail
  refine (CD.out _ HBN.out).mono ?_
  rintro e w3 ⟨rfl, hb3⟩
  have hl4 := block_lt HKB.out
  have k1' := (hb3.cell (p := ⟨w1.heap.size, 1, none⟩) hl4).trans (block_cell HKB.out 1)
  simp at k1'
  have hbe : Below w.heap.size w w3 := chain HB1.out (chain HBN.out hb3)
  have HBE := Lib.hid hbe
  clear hb3 hbe
  go_wp2_with fail
  go_ret
  exact ⟨rfl, HBE.out⟩
end Go.Proofs.Ytpehbgcbifgokaa
