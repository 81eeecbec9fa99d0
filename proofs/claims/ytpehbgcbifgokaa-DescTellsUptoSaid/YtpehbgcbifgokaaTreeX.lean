/- The law of nodes of trees: the walk. -/
import Derived.Test.YtpehbgcbifgokaaTreeW
import Derived.Test.YtpehbgcbifgokaaTreeQ
namespace Go.Proofs.Ytpehbgcbifgokaa
open Go.RowKit Go.Shelf
set_option linter.unusedVariables false
set_option linter.unusedSimpArgs false
set_option maxRecDepth 20000
attribute [local go_sem] Oper.semAt_some

theorem tells_boxes (w : World) (k n : Int) (a : Option Addr) (m c : Nat) (st : Int) (T U V : TypeId) :
    ∃ W0, ((w.alloc (.cells #[.int .i64 k, .int .i64 n, .slice a m c] T)).alloc (.cells #[.int .u8 st] U)).alloc (.cells #[.bool false] V) = W0 ∧ Below w.heap.size w W0 ∧
      W0.heap[w.heap.size]? = some (.cells #[.int .i64 k, .int .i64 n, .slice a m c] T (0, 0)) ∧ W0.heap[w.heap.size + 1]? = some (.cells #[.int .u8 st] U (0, 0)) ∧ W0.heap[w.heap.size + 1 + 1]? = some (.cells #[.bool false] V (0, 0)) :=
  ⟨_, rfl, (((Below.refl _ _).alloc (Nat.le_refl _) _).alloc (by simp) _).alloc (by simp; omega) _, block_old (by simp; omega) (block_old (by simp) (block_new rfl)), block_old (by simp) (block_new (by simp)), block_new (by simp)⟩

set_option maxHeartbeats 1000000 in
theorem descTells_big (td : Tr) (k n : Int) (a : Option Addr) (m c : Nat) (st : Int) (w : World) (hs : td.size ≤ 4194304) (hT : IsT w (Lt w.heap.size) k n a m c td) (h : 80 < td.size) :
    Calls Try.prog 3 #[.agg #[.int .i64 k, .int .i64 n, .slice a m c], .int .u8 st] w fun e w' => e = .returned (.bool true) ∧ Below w.heap.size w w' := by
  have CA : Hid (∀ W, Below w.heap.size w W → Calls Try.prog 12 #[.agg #[.int .i64 k, .int .i64 n, .slice a m c]] W fun e w' => e = .returned (.bool true) ∧ Below W.heap.size W w') := fun W hb => by
    have := ref_Much td _ _ _ _ _ W w.heap.size (by omega) (hT.below hb) hb.size
    rwa [show decide (80 < td.size) = true by simp; omega] at this
  clear hT hs h
  obtain ⟨w0, hW0, hb0, x0, x1, x2⟩ := tells_boxes w k n a m c st 24 5 4
  have HB := Lib.hid hb0
  have HW0 := Lib.hid hW0
  have XR := Lib.hid x2
  clear hb0 hW0 x0 x1 x2
  refine (callsIn_wide (n := 8)).1 ?_
  refine callsIn_of_wp_marks Try.func3 rfl trivial ?_ rfl
  simp only [Try.ntmps3, List.size_toArray, List.length_cons, List.length_nil, Nat.reduceAdd, Nat.reduceSub, Array.replicate_succ, Array.replicate_zero, List.push_toArray, List.append_toArray, List.nil_append, List.cons_append]
  refine wpIn_wide.2 ?_
  go_wp2_with fail
  rw [HW0.out]
  refine (CA.out _ HB.out).mono ?_; rintro e w1 ⟨rfl, hb1⟩
  have HB := Lib.hid (chain HB.out hb1)
  have XR := Lib.hid ((hb1.block _ (block_lt XR.out)).trans XR.out)
  clear hb1
  go_wp2_with fail
  refine (live13 _).mono ?_; rintro e w2 ⟨rfl, hb2⟩
  have HB := Lib.hid (chain HB.out hb2)
  have hx := (hb2.block _ (block_lt XR.out)).trans XR.out
  have r0 := block_cell hx 0
  have f0 := block_free hx 0
  simp at r0
  have XR := Lib.hid hx
  clear hb2 hx
  have hw3 := World.cell?_setCell_same w2 ⟨w.heap.size + 1 + 1, 0, none⟩ (.bool true) r0
  have hbe := HB.out.setCell (p := ⟨w.heap.size + 1 + 1, 0, none⟩) (by show w.heap.size ≤ w.heap.size + 1 + 1; omega) (.bool true)
  go_wp2_with fail
  clear HB XR CA HW0
  refine ⟨.bool true, ?_, rfl, hbe⟩
  simp [results, Try.results3, go_sem, hw3]
end Go.Proofs.Ytpehbgcbifgokaa
