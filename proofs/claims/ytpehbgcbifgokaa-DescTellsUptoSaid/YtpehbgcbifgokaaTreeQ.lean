/- The law of orders of trees: the main way. -/
import Derived.Test.YtpehbgcbifgokaaTreeP
import Derived.Deep.RegionHeld3
namespace Go.Proofs.Ytpehbgcbifgokaa
open Go.RowKit
set_option linter.unusedVariables false
set_option linter.unusedSimpArgs false

set_option maxHeartbeats 4000000 in
theorem descOrders_ok (ta tb tc : Tr) (k n : Int) (a : Option Addr) (m c : Nat) (k' n' : Int) (a' : Option Addr) (m' c' : Nat) (k2 n2 : Int) (a2 : Option Addr) (m2 c2 : Nat) (w : World)
    (hA : IsT w (Lt w.heap.size) k n a m c ta) (hB : IsT w (Lt w.heap.size) k' n' a' m' c' tb) (hC : IsT w (Lt w.heap.size) k2 n2 a2 m2 c2 tc) (hsa : ta.size ≤ 80) (hsb : tb.size ≤ 80) (hsc : tc.size ≤ 80) :
    Calls Try.prog 8 #[.agg #[.int .i64 k, .int .i64 n, .slice a m c], .agg #[.int .i64 k', .int .i64 n', .slice a' m' c'], .agg #[.int .i64 k2, .int .i64 n2, .slice a2 m2 c2]] w fun e w' => e = .returned (.bool true) ∧ Below w.heap.size w w' := by
  have CA : Hid (∀ W, Below w.heap.size w W → Calls Try.prog 12 #[.agg #[.int .i64 k, .int .i64 n, .slice a m c]] W fun e w' => e = .returned (.bool false) ∧ Below W.heap.size W w') := fun W hb => by
    have := ref_Much ta k n a m c W w.heap.size (by omega) (hA.below hb) hb.size
    rwa [show decide (80 < ta.size) = false by simp; omega] at this
  have CB : Hid (∀ W, Below w.heap.size w W → Calls Try.prog 12 #[.agg #[.int .i64 k', .int .i64 n', .slice a' m' c']] W fun e w' => e = .returned (.bool false) ∧ Below W.heap.size W w') := fun W hb => by
    have := ref_Much tb k' n' a' m' c' W w.heap.size (by omega) (hB.below hb) hb.size
    rwa [show decide (80 < tb.size) = false by simp; omega] at this
  have CC : Hid (∀ W, Below w.heap.size w W → Calls Try.prog 12 #[.agg #[.int .i64 k2, .int .i64 n2, .slice a2 m2 c2]] W fun e w' => e = .returned (.bool false) ∧ Below W.heap.size W w') := fun W hb => by
    have := ref_Much tc k2 n2 a2 m2 c2 W w.heap.size (by omega) (hC.below hb) hb.size
    rwa [show decide (80 < tc.size) = false by simp; omega] at this
  have PAB : Hid (∀ W, Below w.heap.size w W → Calls Try.prog 42 #[.agg #[.int .i64 k, .int .i64 n, .slice a m c], .agg #[.int .i64 k', .int .i64 n', .slice a' m' c']] W fun e w' => e = .returned (.int .i64 (Tr.cmp ta tb)) ∧ Below W.heap.size W w') := fun W hb => desc_Cmp 4194304 (by omega) _ _ _ _ _ _ _ _ _ _ _ _ W _ _ (by omega) (by omega) (hA.below hb) (hB.below hb)
  have PBC : Hid (∀ W, Below w.heap.size w W → Calls Try.prog 42 #[.agg #[.int .i64 k', .int .i64 n', .slice a' m' c'], .agg #[.int .i64 k2, .int .i64 n2, .slice a2 m2 c2]] W fun e w' => e = .returned (.int .i64 (Tr.cmp tb tc)) ∧ Below W.heap.size W w') := fun W hb => desc_Cmp 4194304 (by omega) _ _ _ _ _ _ _ _ _ _ _ _ W _ _ (by omega) (by omega) (hB.below hb) (hC.below hb)
  have PAC : Hid (∀ W, Below w.heap.size w W → Calls Try.prog 42 #[.agg #[.int .i64 k, .int .i64 n, .slice a m c], .agg #[.int .i64 k2, .int .i64 n2, .slice a2 m2 c2]] W fun e w' => e = .returned (.int .i64 (Tr.cmp ta tc)) ∧ Below W.heap.size W w') := fun W hb => desc_Cmp 4194304 (by omega) _ _ _ _ _ _ _ _ _ _ _ _ W _ _ (by omega) (by omega) (hA.below hb) (hC.below hb)
  have PBA : Hid (∀ W, Below w.heap.size w W → Calls Try.prog 42 #[.agg #[.int .i64 k', .int .i64 n', .slice a' m' c'], .agg #[.int .i64 k, .int .i64 n, .slice a m c]] W fun e w' => e = .returned (.int .i64 (- Tr.cmp ta tb)) ∧ Below W.heap.size W w') := fun W hb => by
    rw [← Tr.cmp_neg]
    exact desc_Cmp 4194304 (by omega) _ _ _ _ _ _ _ _ _ _ _ _ W _ _ (by omega) (by omega) (hB.below hb) (hA.below hb)
  have RAB : Hid (∀ W, Below w.heap.size w W → Calls Try.prog 43 #[.agg #[.int .i64 k, .int .i64 n, .slice a m c], .agg #[.int .i64 k', .int .i64 n', .slice a' m' c']] W fun e w' => e = .returned (.int .i64 (Tr.cmp ta tb)) ∧ Below W.heap.size W w') := fun W hb => ref13_Cmp 4194304 (by omega) _ _ _ _ _ _ _ _ _ _ _ _ W _ _ (by omega) (by omega) (hA.below hb) (hB.below hb)
  have RBC : Hid (∀ W, Below w.heap.size w W → Calls Try.prog 43 #[.agg #[.int .i64 k', .int .i64 n', .slice a' m' c'], .agg #[.int .i64 k2, .int .i64 n2, .slice a2 m2 c2]] W fun e w' => e = .returned (.int .i64 (Tr.cmp tb tc)) ∧ Below W.heap.size W w') := fun W hb => ref13_Cmp 4194304 (by omega) _ _ _ _ _ _ _ _ _ _ _ _ W _ _ (by omega) (by omega) (hB.below hb) (hC.below hb)
  have RAC : Hid (∀ W, Below w.heap.size w W → Calls Try.prog 43 #[.agg #[.int .i64 k, .int .i64 n, .slice a m c], .agg #[.int .i64 k2, .int .i64 n2, .slice a2 m2 c2]] W fun e w' => e = .returned (.int .i64 (Tr.cmp ta tc)) ∧ Below W.heap.size W w') := fun W hb => ref13_Cmp 4194304 (by omega) _ _ _ _ _ _ _ _ _ _ _ _ W _ _ (by omega) (by omega) (hA.below hb) (hC.below hb)
  have SAB : Hid (∀ W, Below w.heap.size w W → Calls Try.prog 44 #[.agg #[.int .i64 k, .int .i64 n, .slice a m c], .agg #[.int .i64 k', .int .i64 n', .slice a' m' c']] W fun e w' => e = .returned (.bool (decide (Tr.cmp ta tb = 0))) ∧ Below W.heap.size W w') := fun W hb => desc_Same _ _ _ _ _ _ _ _ _ _ _ _ W _ _ (by omega) (by omega) (hA.below hb) (hB.below hb)
  have SAA : Hid (∀ W, Below w.heap.size w W → Calls Try.prog 44 #[.agg #[.int .i64 k, .int .i64 n, .slice a m c], .agg #[.int .i64 k, .int .i64 n, .slice a m c]] W fun e w' => e = .returned (.bool true) ∧ Below W.heap.size W w') := fun W hb => by
    have := desc_Same _ _ _ _ _ _ _ _ _ _ _ _ W _ _ (by omega) (by omega) (hA.below hb) (hA.below hb)
    rwa [show decide (Tr.cmp ta ta = 0) = true by rw [Tr.cmp_self]; rfl] at this
  have hx := Tr.cmp_bd _ ta tb (Nat.le_refl _)
  have hy := Tr.cmp_bd _ tb tc (Nat.le_refl _)
  have hz := Tr.cmp_bd _ ta tc (Nat.le_refl _)
  have ht := (Tr.cmp_T3 ta tb tc).1
  obtain ⟨X, hX⟩ : ∃ X, Tr.cmp ta tb = X := ⟨_, rfl⟩
  obtain ⟨Y, hY⟩ : ∃ Y, Tr.cmp tb tc = Y := ⟨_, rfl⟩
  obtain ⟨Z, hZ⟩ : ∃ Z, Tr.cmp ta tc = Z := ⟨_, rfl⟩
  rw [hX] at hx ht PAB PBA RAB SAB
  rw [hY] at hy ht PBC RBC
  rw [hZ] at hz ht PAC RAC
  have HT := Lib.hid ht
  have HSAB : Hid ((decide (X = 0) != (X == 0)) = false) := by unfold Hid; by_cases h : X = 0 <;> simp [h]
  obtain ⟨S, hS⟩ : ∃ S, decide (X = 0) = S := ⟨_, rfl⟩
  rw [hS] at SAB
  have hS2 : (X == 0) = S := by rw [← hS]; by_cases h : X = 0 <;> simp [h]
  have hN : IntKind.i64.wrap (-X) = -X := IntWalk.i64_in _ (by omega)
  clear hX hY hZ hA hB hC hsa hsb hsc ht hS HSAB
  obtain ⟨W0, hW0, hb0, hs0, x0, x1, x2⟩ := three_boxes w k n k' n' k2 n2 a a' a2 m c m' c' m2 c2 24
  have HB0 := Lib.hid hb0
  have HW0 := Lib.hid hW0
  have HX0 := Lib.hid x0
  have HX1 := Lib.hid x1
  have HX2 := Lib.hid x2
  clear hb0 hW0 x0 x1 x2 hs0
  go_enter Try.func8, Try.ntmps8
  go_wp2_with fail
  rw [HW0.out]
  refine (CA.out _ HB0.out).mono ?_; rintro e w1 ⟨rfl, hb1⟩
  have HB1 := Lib.hid (chain HB0.out hb1)
  have HX0' := Lib.hid ((hb1.block _ (block_lt HX0.out)).trans HX0.out)
  have hx1 := (hb1.block _ (block_lt HX1.out)).trans HX1.out
  have HX1' := Lib.hid hx1
  have HX2' := Lib.hid ((hb1.block _ (block_lt HX2.out)).trans HX2.out)
  have c0 := block_cell hx1 0
  have c1 := block_cell hx1 1
  have c2' := block_cell hx1 2
  simp at c0 c1 c2'
  clear hb1 hx1
  go_wp2_with fail
  refine (CB.out _ HB1.out).mono ?_; rintro e w2 ⟨rfl, hb2⟩
  have HB2 := Lib.hid (chain HB1.out hb2)
  have HX0'' := Lib.hid ((hb2.block _ (block_lt HX0'.out)).trans HX0'.out)
  have HX1'' := Lib.hid ((hb2.block _ (block_lt HX1'.out)).trans HX1'.out)
  have hx2 := (hb2.block _ (block_lt HX2'.out)).trans HX2'.out
  have HX2'' := Lib.hid hx2
  have d0 := block_cell hx2 0
  have d1 := block_cell hx2 1
  have d2 := block_cell hx2 2
  simp at d0 d1 d2
  clear hb2 c0 c1 c2' hx2
  go_wp2_with fail
  refine (CC.out _ HB2.out).mono ?_; rintro e w3 ⟨rfl, hb3⟩
  have HB3 := Lib.hid (chain HB2.out hb3)
  have E0 := Lib.hid ((hb3.block _ (block_lt HX0''.out)).trans HX0''.out)
  have E1 := Lib.hid ((hb3.block _ (block_lt HX1''.out)).trans HX1''.out)
  have E2 := Lib.hid ((hb3.block _ (block_lt HX2''.out)).trans HX2''.out)
  clear hb3 d0 d1 d2 HX0 HX0' HX0'' HX1 HX1' HX1'' HX2 HX2' HX2'' HB0 HB1 HB2 HW0
  have l0 := block_lt E0.out
  have l1 := block_lt E1.out
  have l2 := block_lt E2.out
  have a0 : w3.cell? ⟨w.heap.size, 0, none⟩ = some (.int .i64 k) := block_cell E0.out 0
  have a1 : w3.cell? ⟨w.heap.size, 1, none⟩ = some (.int .i64 n) := block_cell E0.out 1
  have a2' : w3.cell? ⟨w.heap.size, 2, none⟩ = some (.slice a m c) := block_cell E0.out 2
  have b0 : w3.cell? ⟨w.heap.size + 1, 0, none⟩ = some (.int .i64 k') := block_cell E1.out 0
  have b1 : w3.cell? ⟨w.heap.size + 1, 1, none⟩ = some (.int .i64 n') := block_cell E1.out 1
  have b2 : w3.cell? ⟨w.heap.size + 1, 2, none⟩ = some (.slice a' m' c') := block_cell E1.out 2
  have c0 : w3.cell? ⟨w.heap.size + 1 + 1, 0, none⟩ = some (.int .i64 k2) := block_cell E2.out 0
  have c1 : w3.cell? ⟨w.heap.size + 1 + 1, 1, none⟩ = some (.int .i64 n2) := block_cell E2.out 1
  have c2'' : w3.cell? ⟨w.heap.size + 1 + 1, 2, none⟩ = some (.slice a2 m2 c2) := block_cell E2.out 2
  go_wp2_with fail
  have hB : Below w3.heap.size w3 w3.drew := (Below.refl _ _).drew
  go_region_held3 (fun w' => (w'.cell? ⟨w.heap.size, 0, none⟩ = some (.int .i64 k) ∧ w'.cell? ⟨w.heap.size, 1, none⟩ = some (.int .i64 n) ∧ w'.cell? ⟨w.heap.size, 2, none⟩ = some (.slice a m c)) ∧ (w'.cell? ⟨w.heap.size + 1, 0, none⟩ = some (.int .i64 k') ∧ w'.cell? ⟨w.heap.size + 1, 1, none⟩ = some (.int .i64 n') ∧ w'.cell? ⟨w.heap.size + 1, 2, none⟩ = some (.slice a' m' c')) ∧ (w'.cell? ⟨w.heap.size + 1 + 1, 0, none⟩ = some (.int .i64 k2) ∧ w'.cell? ⟨w.heap.size + 1 + 1, 1, none⟩ = some (.int .i64 n2) ∧ w'.cell? ⟨w.heap.size + 1 + 1, 2, none⟩ = some (.slice a2 m2 c2))) (first | exact ⟨⟨a0, a1, a2'⟩, ⟨b0, b1, b2⟩, ⟨c0, c1, c2''⟩⟩ | exact ⟨⟨(hB.cell (p := ⟨w.heap.size, 0, none⟩) l0).trans a0, (hB.cell (p := ⟨w.heap.size, 1, none⟩) l0).trans a1, (hB.cell (p := ⟨w.heap.size, 2, none⟩) l0).trans a2'⟩, ⟨(hB.cell (p := ⟨w.heap.size + 1, 0, none⟩) l1).trans b0, (hB.cell (p := ⟨w.heap.size + 1, 1, none⟩) l1).trans b1, (hB.cell (p := ⟨w.heap.size + 1, 2, none⟩) l1).trans b2⟩, ⟨(hB.cell (p := ⟨w.heap.size + 1 + 1, 0, none⟩) l2).trans c0, (hB.cell (p := ⟨w.heap.size + 1 + 1, 1, none⟩) l2).trans c1, (hB.cell (p := ⟨w.heap.size + 1 + 1, 2, none⟩) l2).trans c2''⟩⟩) ((first | (go_at_call 42; ((with_reducible refine (PAB.out _ (chain HB3.out hB)).mono ?_); rintro e w4 ⟨rfl, hb4⟩; have hB := chain hB hb4)) | (go_at_call 42; ((with_reducible refine (PBC.out _ (chain HB3.out hB)).mono ?_); rintro e w4 ⟨rfl, hb4⟩; have hB := chain hB hb4)) | (go_at_call 42; ((with_reducible refine (PAC.out _ (chain HB3.out hB)).mono ?_); rintro e w4 ⟨rfl, hb4⟩; have hB := chain hB hb4))))
  have Aa0 := Lib.hid a0
  have Aa1 := Lib.hid a1
  have Aa2' := Lib.hid a2'
  have Ab0 := Lib.hid b0
  have Ab1 := Lib.hid b1
  have Ab2 := Lib.hid b2
  have Ac0 := Lib.hid c0
  have Ac1 := Lib.hid c1
  have Ac2'' := Lib.hid c2''
  clear a0 a1 a2' b0 b1 b2 c0 c1 c2''
  obtain ⟨v0, hv0⟩ : ∃ v, w4 = v := ⟨_, rfl⟩
  rw [hv0] at hB ⊢
  clear hv0
  have hB0 := hB
  clear hB
  have hB := hB0
  clear hB0
  have za0 := (hB.cell (p := ⟨w.heap.size, 0, none⟩) l0).trans Aa0.out
  have za1 := (hB.cell (p := ⟨w.heap.size, 1, none⟩) l0).trans Aa1.out
  have za2' := (hB.cell (p := ⟨w.heap.size, 2, none⟩) l0).trans Aa2'.out
  have zb0 := (hB.cell (p := ⟨w.heap.size + 1, 0, none⟩) l1).trans Ab0.out
  have zb1 := (hB.cell (p := ⟨w.heap.size + 1, 1, none⟩) l1).trans Ab1.out
  have zb2 := (hB.cell (p := ⟨w.heap.size + 1, 2, none⟩) l1).trans Ab2.out
  have zc0 := (hB.cell (p := ⟨w.heap.size + 1 + 1, 0, none⟩) l2).trans Ac0.out
  have zc1 := (hB.cell (p := ⟨w.heap.size + 1 + 1, 1, none⟩) l2).trans Ac1.out
  have zc2'' := (hB.cell (p := ⟨w.heap.size + 1 + 1, 2, none⟩) l2).trans Ac2''.out
  go_wp2_with fail
  refine (RAB.out _ (chain HB3.out hB)).mono ?_; rintro e w5 ⟨rfl, hb5⟩
  have hB' := chain hB hb5
  clear za0 za1 za2' zb0 zb1 zb2 zc0 zc1 zc2'' hB hb5
  have hB := hB'
  clear hB'
  have za0 := (hB.cell (p := ⟨w.heap.size, 0, none⟩) l0).trans Aa0.out
  have za1 := (hB.cell (p := ⟨w.heap.size, 1, none⟩) l0).trans Aa1.out
  have za2' := (hB.cell (p := ⟨w.heap.size, 2, none⟩) l0).trans Aa2'.out
  have zb0 := (hB.cell (p := ⟨w.heap.size + 1, 0, none⟩) l1).trans Ab0.out
  have zb1 := (hB.cell (p := ⟨w.heap.size + 1, 1, none⟩) l1).trans Ab1.out
  have zb2 := (hB.cell (p := ⟨w.heap.size + 1, 2, none⟩) l1).trans Ab2.out
  have zc0 := (hB.cell (p := ⟨w.heap.size + 1 + 1, 0, none⟩) l2).trans Ac0.out
  have zc1 := (hB.cell (p := ⟨w.heap.size + 1 + 1, 1, none⟩) l2).trans Ac1.out
  have zc2'' := (hB.cell (p := ⟨w.heap.size + 1 + 1, 2, none⟩) l2).trans Ac2''.out
  go_wp2_with fail
  refine (RBC.out _ (chain HB3.out hB)).mono ?_; rintro e w6 ⟨rfl, hb6⟩
  have hB' := chain hB hb6
  clear za0 za1 za2' zb0 zb1 zb2 zc0 zc1 zc2'' hB hb6
  have hB := hB'
  clear hB'
  have za0 := (hB.cell (p := ⟨w.heap.size, 0, none⟩) l0).trans Aa0.out
  have za1 := (hB.cell (p := ⟨w.heap.size, 1, none⟩) l0).trans Aa1.out
  have za2' := (hB.cell (p := ⟨w.heap.size, 2, none⟩) l0).trans Aa2'.out
  have zb0 := (hB.cell (p := ⟨w.heap.size + 1, 0, none⟩) l1).trans Ab0.out
  have zb1 := (hB.cell (p := ⟨w.heap.size + 1, 1, none⟩) l1).trans Ab1.out
  have zb2 := (hB.cell (p := ⟨w.heap.size + 1, 2, none⟩) l1).trans Ab2.out
  have zc0 := (hB.cell (p := ⟨w.heap.size + 1 + 1, 0, none⟩) l2).trans Ac0.out
  have zc1 := (hB.cell (p := ⟨w.heap.size + 1 + 1, 1, none⟩) l2).trans Ac1.out
  have zc2'' := (hB.cell (p := ⟨w.heap.size + 1 + 1, 2, none⟩) l2).trans Ac2''.out
  go_wp2_with fail
  refine (RAC.out _ (chain HB3.out hB)).mono ?_; rintro e w7 ⟨rfl, hb7⟩
  have hB' := chain hB hb7
  clear za0 za1 za2' zb0 zb1 zb2 zc0 zc1 zc2'' hB hb7
  have hB := hB'
  clear hB'
  have za0 := (hB.cell (p := ⟨w.heap.size, 0, none⟩) l0).trans Aa0.out
  have za1 := (hB.cell (p := ⟨w.heap.size, 1, none⟩) l0).trans Aa1.out
  have za2' := (hB.cell (p := ⟨w.heap.size, 2, none⟩) l0).trans Aa2'.out
  have zb0 := (hB.cell (p := ⟨w.heap.size + 1, 0, none⟩) l1).trans Ab0.out
  have zb1 := (hB.cell (p := ⟨w.heap.size + 1, 1, none⟩) l1).trans Ab1.out
  have zb2 := (hB.cell (p := ⟨w.heap.size + 1, 2, none⟩) l1).trans Ab2.out
  have zc0 := (hB.cell (p := ⟨w.heap.size + 1 + 1, 0, none⟩) l2).trans Ac0.out
  have zc1 := (hB.cell (p := ⟨w.heap.size + 1 + 1, 1, none⟩) l2).trans Ac1.out
  have zc2'' := (hB.cell (p := ⟨w.heap.size + 1 + 1, 2, none⟩) l2).trans Ac2''.out
  go_wp2_with fail
  refine (SAB.out _ (chain HB3.out hB)).mono ?_; rintro e w8 ⟨rfl, hb8⟩
  have hB' := chain hB hb8
  clear za0 za1 za2' zb0 zb1 zb2 zc0 zc1 zc2'' hB hb8
  have hB := hB'
  clear hB'
  have za0 := (hB.cell (p := ⟨w.heap.size, 0, none⟩) l0).trans Aa0.out
  have za1 := (hB.cell (p := ⟨w.heap.size, 1, none⟩) l0).trans Aa1.out
  have za2' := (hB.cell (p := ⟨w.heap.size, 2, none⟩) l0).trans Aa2'.out
  have zb0 := (hB.cell (p := ⟨w.heap.size + 1, 0, none⟩) l1).trans Ab0.out
  have zb1 := (hB.cell (p := ⟨w.heap.size + 1, 1, none⟩) l1).trans Ab1.out
  have zb2 := (hB.cell (p := ⟨w.heap.size + 1, 2, none⟩) l1).trans Ab2.out
  have zc0 := (hB.cell (p := ⟨w.heap.size + 1 + 1, 0, none⟩) l2).trans Ac0.out
  have zc1 := (hB.cell (p := ⟨w.heap.size + 1 + 1, 1, none⟩) l2).trans Ac1.out
  have zc2'' := (hB.cell (p := ⟨w.heap.size + 1 + 1, 2, none⟩) l2).trans Ac2''.out
  go_wp2_with fail
  refine (PBA.out _ (chain HB3.out hB)).mono ?_; rintro e w9 ⟨rfl, hb9⟩
  have hB' := chain hB hb9
  clear za0 za1 za2' zb0 zb1 zb2 zc0 zc1 zc2'' hB hb9
  have hB := hB'
  clear hB'
  have za0 := (hB.cell (p := ⟨w.heap.size, 0, none⟩) l0).trans Aa0.out
  have za1 := (hB.cell (p := ⟨w.heap.size, 1, none⟩) l0).trans Aa1.out
  have za2' := (hB.cell (p := ⟨w.heap.size, 2, none⟩) l0).trans Aa2'.out
  have zb0 := (hB.cell (p := ⟨w.heap.size + 1, 0, none⟩) l1).trans Ab0.out
  have zb1 := (hB.cell (p := ⟨w.heap.size + 1, 1, none⟩) l1).trans Ab1.out
  have zb2 := (hB.cell (p := ⟨w.heap.size + 1, 2, none⟩) l1).trans Ab2.out
  have zc0 := (hB.cell (p := ⟨w.heap.size + 1 + 1, 0, none⟩) l2).trans Ac0.out
  have zc1 := (hB.cell (p := ⟨w.heap.size + 1 + 1, 1, none⟩) l2).trans Ac1.out
  have zc2'' := (hB.cell (p := ⟨w.heap.size + 1 + 1, 2, none⟩) l2).trans Ac2''.out
  have hcase : decide (X > 0) = true ∨ (decide (X > 0) = false ∧ decide (Y > 0) = true) ∨ (decide (X > 0) = false ∧ decide (Y > 0) = false ∧ decide (Z ≤ 0) = true) := by
    simp only [decide_eq_true_eq, decide_eq_false_iff_not]
    have := HT.out
    omega
  rcases hcase with h1 | ⟨h1, h2⟩ | ⟨h1, h2, h3⟩
  all_goals
    go_wp2_with fail
    refine (SAA.out _ (chain HB3.out hB)).mono ?_; rintro e w10 ⟨rfl, hb10⟩
    have hB' := chain hB hb10
    clear za0 za1 za2' zb0 zb1 zb2 zc0 zc1 zc2'' hB hb10
    have hB := hB'
    clear hB'
    have za0 := (hB.cell (p := ⟨w.heap.size, 0, none⟩) l0).trans Aa0.out
    have za1 := (hB.cell (p := ⟨w.heap.size, 1, none⟩) l0).trans Aa1.out
    have za2' := (hB.cell (p := ⟨w.heap.size, 2, none⟩) l0).trans Aa2'.out
    have zb0 := (hB.cell (p := ⟨w.heap.size + 1, 0, none⟩) l1).trans Ab0.out
    have zb1 := (hB.cell (p := ⟨w.heap.size + 1, 1, none⟩) l1).trans Ab1.out
    have zb2 := (hB.cell (p := ⟨w.heap.size + 1, 2, none⟩) l1).trans Ab2.out
    have zc0 := (hB.cell (p := ⟨w.heap.size + 1 + 1, 0, none⟩) l2).trans Ac0.out
    have zc1 := (hB.cell (p := ⟨w.heap.size + 1 + 1, 1, none⟩) l2).trans Ac1.out
    have zc2'' := (hB.cell (p := ⟨w.heap.size + 1 + 1, 2, none⟩) l2).trans Ac2''.out
    clear za0 za1 za2' zb0 zb1 zb2 zc0 zc1 zc2''
    go_wp2_with fail
    refine (live13 _).mono ?_; rintro e w12 ⟨rfl, hb12⟩
    have hbe := chain HB3.out (chain hB hb12)
    clear hb12 hB
    go_wp2_with fail
    go_ret
    exact ⟨rfl, hbe⟩

theorem descOrdersW (t0 : Tr) (k0 n0 : Int) (a0 : Option Addr) (m0 c0 : Nat) (t1 : Tr) (k1 n1 : Int) (a1 : Option Addr) (m1 c1 : Nat) (t2 : Tr) (k2 n2 : Int) (a2 : Option Addr) (m2 c2 : Nat) (w : World)
    (s0 : t0.size ≤ 1048576) (h0 : IsT w (fun _ => True) k0 n0 a0 m0 c0 t0) (s1 : t1.size ≤ 1048576) (h1 : IsT w (fun _ => True) k1 n1 a1 m1 c1 t1) (s2 : t2.size ≤ 1048576) (h2 : IsT w (fun _ => True) k2 n2 a2 m2 c2 t2) :
    Calls Try.prog 8 #[.agg #[.int .i64 k0, .int .i64 n0, .slice a0 m0 c0], .agg #[.int .i64 k1, .int .i64 n1, .slice a1 m1 c1], .agg #[.int .i64 k2, .int .i64 n2, .slice a2 m2 c2]] w fun e w' => e = .returned (.bool true) ∧ Below w.heap.size w w' := by
  by_cases h : 80 < t0.size ∨ 80 < t1.size ∨ 80 < t2.size
  · exact descOrders_big t0 t1 t2 k0 n0 a0 m0 c0 k1 n1 a1 m1 c1 k2 n2 a2 m2 c2 w (by omega) (by omega) (by omega) h0.lt h1.lt h2.lt h
  · exact descOrders_ok t0 t1 t2 k0 n0 a0 m0 c0 k1 n1 a1 m1 c1 k2 n2 a2 m2 c2 w h0.lt h1.lt h2.lt (by omega) (by omega) (by omega)
end Go.Proofs.Ytpehbgcbifgokaa
