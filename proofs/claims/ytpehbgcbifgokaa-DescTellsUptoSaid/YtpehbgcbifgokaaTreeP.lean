/- The law of orders of trees, as a call that returns true. -/
import Derived.Test.YtpehbgcbifgokaaTreeO
namespace Go.Proofs.Ytpehbgcbifgokaa
open Go.RowKit
set_option linter.unusedVariables false
set_option linter.unusedSimpArgs false

theorem three_boxes (w : World) (k n k' n' k2 n2 : Int) (a a' a2 : Option Addr) (m c m' c' m2 c2 : Nat) (T : TypeId) :
    ∃ W0, ((w.alloc (.cells #[.int .i64 k, .int .i64 n, .slice a m c] T)).alloc (.cells #[.int .i64 k', .int .i64 n', .slice a' m' c'] T)).alloc (.cells #[.int .i64 k2, .int .i64 n2, .slice a2 m2 c2] T) = W0 ∧ Below w.heap.size w W0 ∧ W0.heap.size = w.heap.size + 3 ∧
      W0.heap[w.heap.size]? = some (.cells #[.int .i64 k, .int .i64 n, .slice a m c] T (0, 0)) ∧ W0.heap[w.heap.size + 1]? = some (.cells #[.int .i64 k', .int .i64 n', .slice a' m' c'] T (0, 0)) ∧ W0.heap[w.heap.size + 1 + 1]? = some (.cells #[.int .i64 k2, .int .i64 n2, .slice a2 m2 c2] T (0, 0)) :=
  ⟨_, rfl, (((Below.refl _ _).alloc (Nat.le_refl _) _).alloc (by simp) _).alloc (by simp; omega) _, by simp, block_old (by simp; omega) (block_old (by simp) (block_new rfl)), block_old (by simp) (block_new (by simp)), block_new (by simp)⟩

set_option maxHeartbeats 1000000 in
theorem descOrders_big (ta tb tc : Tr) (k n : Int) (a : Option Addr) (m c : Nat) (k' n' : Int) (a' : Option Addr) (m' c' : Nat) (k2 n2 : Int) (a2 : Option Addr) (m2 c2 : Nat) (w : World) (hsa : ta.size ≤ 4194304) (hsb : tb.size ≤ 4194304) (hsc : tc.size ≤ 4194304)
    (hA : IsT w (Lt w.heap.size) k n a m c ta) (hB : IsT w (Lt w.heap.size) k' n' a' m' c' tb) (hC : IsT w (Lt w.heap.size) k2 n2 a2 m2 c2 tc) (h : 80 < ta.size ∨ 80 < tb.size ∨ 80 < tc.size) :
    Calls Try.prog 8 #[.agg #[.int .i64 k, .int .i64 n, .slice a m c], .agg #[.int .i64 k', .int .i64 n', .slice a' m' c'], .agg #[.int .i64 k2, .int .i64 n2, .slice a2 m2 c2]] w fun e w' => e = .returned (.bool true) ∧ Below w.heap.size w w' := by
  have CA : Hid (∀ W, Below w.heap.size w W → Calls Try.prog 12 #[.agg #[.int .i64 k, .int .i64 n, .slice a m c]] W fun e w' => e = .returned (.bool (decide (80 < ta.size))) ∧ Below W.heap.size W w') := fun W hb => ref_Much ta k n a m c W w.heap.size hsa (hA.below hb) hb.size
  have CB : Hid (∀ W, Below w.heap.size w W → Calls Try.prog 12 #[.agg #[.int .i64 k', .int .i64 n', .slice a' m' c']] W fun e w' => e = .returned (.bool (decide (80 < tb.size))) ∧ Below W.heap.size W w') := fun W hb => ref_Much tb k' n' a' m' c' W w.heap.size hsb (hB.below hb) hb.size
  have CC : Hid (∀ W, Below w.heap.size w W → Calls Try.prog 12 #[.agg #[.int .i64 k2, .int .i64 n2, .slice a2 m2 c2]] W fun e w' => e = .returned (.bool (decide (80 < tc.size))) ∧ Below W.heap.size W w') := fun W hb => ref_Much tc k2 n2 a2 m2 c2 W w.heap.size hsc (hC.below hb) hb.size
  obtain ⟨SA, hSA⟩ : ∃ S, ta.size = S := ⟨_, rfl⟩
  obtain ⟨SB, hSB⟩ : ∃ S, tb.size = S := ⟨_, rfl⟩
  obtain ⟨SC, hSC⟩ : ∃ S, tc.size = S := ⟨_, rfl⟩
  rw [hSA] at CA h
  rw [hSB] at CB h
  rw [hSC] at CC h
  clear hSA hSB hSC hA hB hC hsa hsb hsc
  obtain ⟨W0, hW0, hb0, hs0, x0, x1, x2⟩ := three_boxes w k n k' n' k2 n2 a a' a2 m c m' c' m2 c2 24
  have HB0 := Lib.hid hb0
  have HW0 := Lib.hid hW0
  have HX1 := Lib.hid x1
  have HX2 := Lib.hid x2
  have HS0 := Lib.hid hs0
  clear hb0 hW0 x0 x1 x2 hs0
  rcases (show 80 < SA ∨ (¬ 80 < SA ∧ 80 < SB) ∨ (¬ 80 < SA ∧ ¬ 80 < SB ∧ 80 < SC) by omega) with h1 | ⟨h1, h2⟩ | ⟨h1, h2, h3⟩
  · rw [show decide (80 < SA) = true by simp; omega] at CA
    clear h
    go_enter Try.func8, Try.ntmps8
    go_wp2_with fail
    rw [HW0.out]
    refine (CA.out _ HB0.out).mono ?_; rintro e w1 ⟨rfl, hb1⟩
    have hb := chain HB0.out hb1
    clear hb1
    go_wp2_with fail
    refine (live13 _).mono ?_; rintro e w2 ⟨rfl, hb2⟩
    have hb' := chain hb hb2
    clear hb2
    go_wp2_with fail
    go_ret
    exact ⟨rfl, hb'⟩
  · rw [show decide (80 < SA) = false by simp; omega] at CA
    rw [show decide (80 < SB) = true by simp; omega] at CB
    clear h
    go_enter Try.func8, Try.ntmps8
    go_wp2_with fail
    rw [HW0.out]
    refine (CA.out _ HB0.out).mono ?_; rintro e w1 ⟨rfl, hb1⟩
    have HB1 := Lib.hid (chain HB0.out hb1)
    have hx1 := (hb1.block _ (block_lt HX1.out)).trans HX1.out
    have c0 := block_cell hx1 0
    have c1 := block_cell hx1 1
    have c2 := block_cell hx1 2
    simp at c0 c1 c2
    clear hb1 hx1
    go_wp2_with fail
    refine (CB.out _ HB1.out).mono ?_; rintro e w2 ⟨rfl, hb2⟩
    have HB2 := Lib.hid (chain HB1.out hb2)
    clear hb2 c0 c1 c2
    go_wp2_with fail
    refine (live13 _).mono ?_; rintro e w3 ⟨rfl, hb3⟩
    have hb' := chain HB2.out hb3
    clear hb3
    go_wp2_with fail
    go_ret
    exact ⟨rfl, hb'⟩
  · rw [show decide (80 < SA) = false by simp; omega] at CA
    rw [show decide (80 < SB) = false by simp; omega] at CB
    rw [show decide (80 < SC) = true by simp; omega] at CC
    clear h
    go_enter Try.func8, Try.ntmps8
    go_wp2_with fail
    rw [HW0.out]
    refine (CA.out _ HB0.out).mono ?_; rintro e w1 ⟨rfl, hb1⟩
    have HB1 := Lib.hid (chain HB0.out hb1)
    have hx1 := (hb1.block _ (block_lt HX1.out)).trans HX1.out
    have HX2' := Lib.hid ((hb1.block _ (block_lt HX2.out)).trans HX2.out)
    have c0 := block_cell hx1 0
    have c1 := block_cell hx1 1
    have c2 := block_cell hx1 2
    simp at c0 c1 c2
    clear hb1 hx1
    go_wp2_with fail
    refine (CB.out _ HB1.out).mono ?_; rintro e w2 ⟨rfl, hb2⟩
    have HB2 := Lib.hid (chain HB1.out hb2)
    have hx2 := (hb2.block _ (block_lt HX2'.out)).trans HX2'.out
    have d0 := block_cell hx2 0
    have d1 := block_cell hx2 1
    have d2 := block_cell hx2 2
    simp at d0 d1 d2
    clear hb2 c0 c1 c2 hx2
    go_wp2_with fail
    refine (CC.out _ HB2.out).mono ?_; rintro e w3 ⟨rfl, hb3⟩
    have HB3 := Lib.hid (chain HB2.out hb3)
    clear hb3 d0 d1 d2
    go_wp2_with fail
    refine (live13 _).mono ?_; rintro e w4 ⟨rfl, hb4⟩
    have hb' := chain HB3.out hb4
    clear hb4
    go_wp2_with fail
    go_ret
    exact ⟨rfl, hb'⟩
end Go.Proofs.Ytpehbgcbifgokaa
