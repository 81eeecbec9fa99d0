/- Contracts: names of tables: how many numbers, and how they stand to each other. The program and the reference. -/
import Derived.Test.YtncikklhchimdaaNeedA
namespace Go.Proofs.Ytncikklhchimdaa
open Go.RowKit
set_option linter.unusedVariables false
set_option linter.unusedSimpArgs false
set_option maxRecDepth 100000
set_option maxRecDepth 20000

theorem right_bd {x : Nm} (h : rightB x = true) : 1 ≤ x.2.1 ∧ x.2.1 ≤ 16777216 := by
  unfold rightB at h
  simp only [Bool.and_eq_true] at h
  exact hasSz_bd h.1.1
theorem roomN_no {x : Nm} (h : rightB x = false) : roomN x = 0 := if_pos h
theorem roomN_yes {x : Nm} (h : rightB x = true) : roomN x = if x.1 = 3 then x.2.1 - 1 else if x.1 = 4 then x.2.2.1 else x.2.1 := if_neg (by rw [h]; simp)

set_option maxHeartbeats 2000000 in
theorem need_Room (k n m d : Int) (w : World) (hx : NmOk (k, n, m, d)) :
    Calls Try.prog 47 #[.agg #[.int .i64 k, .int .i64 n, .int .i64 m, .int .i64 d]] w fun e w' => e = .returned (.int .i64 (roomN (k, n, m, d))) ∧ Below w.heap.size w w' := by
  have CR : Hid (∀ W, Below w.heap.size w W → Calls Try.prog 46 #[.agg #[.int .i64 k, .int .i64 n, .int .i64 m, .int .i64 d]] W fun e w' => e = .returned (.bool (rightB (k, n, m, d))) ∧ Below W.heap.size W w') := fun W _ => need_Right k n m d W hx
  have hbd : rightB (k, n, m, d) = true → 1 ≤ n ∧ n ≤ 16777216 := right_bd
  have hno : rightB (k, n, m, d) = false → roomN (k, n, m, d) = 0 := roomN_no
  have hyes : rightB (k, n, m, d) = true → roomN (k, n, m, d) = if k = 3 then n - 1 else if k = 4 then m else n := roomN_yes
  obtain ⟨W0, hW0, hb0, x0⟩ := box_any w #[.int .i64 k, .int .i64 n, .int .i64 m, .int .i64 d] 57
  have HW0 := Lib.hid hW0
  have HB := Lib.hid hb0
  have XD := Lib.hid x0
  have D0 : W0.cell? ⟨w.heap.size, 0, none⟩ = some (.int .i64 k) := block_cell XD.out 0
  have D1 : W0.cell? ⟨w.heap.size, 1, none⟩ = some (.int .i64 n) := block_cell XD.out 1
  have D2 : W0.cell? ⟨w.heap.size, 2, none⟩ = some (.int .i64 m) := block_cell XD.out 2
  have D3 : W0.cell? ⟨w.heap.size, 3, none⟩ = some (.int .i64 d) := block_cell XD.out 3
  clear hW0 hb0 x0
  obtain ⟨R, hR⟩ : ∃ R, rightB (k, n, m, d) = R := ⟨_, rfl⟩
  rw [hR] at CR hbd hno hyes
  clear hR hx
  cases R with
  | false =>
    rw [hno rfl]
    clear hbd hno hyes
    go_enter Try.func47, Try.ntmps47
    go_wp2_with fail
    rw [HW0.out]
    refine (CR.out _ HB.out).mono ?_; rintro e w1 ⟨rfl, hb1⟩
    clear D0 D1 D2 D3
    have XD := Lib.hid ((hb1.block _ (block_lt XD.out)).trans XD.out)
    have HB := Lib.hid (chain HB.out hb1)
    clear hb1
    have D0 : w1.cell? ⟨w.heap.size, 0, none⟩ = some (.int .i64 k) := block_cell XD.out 0
    have D1 : w1.cell? ⟨w.heap.size, 1, none⟩ = some (.int .i64 n) := block_cell XD.out 1
    have D2 : w1.cell? ⟨w.heap.size, 2, none⟩ = some (.int .i64 m) := block_cell XD.out 2
    have D3 : w1.cell? ⟨w.heap.size, 3, none⟩ = some (.int .i64 d) := block_cell XD.out 3
    go_wp2_with fail
    go_ret
    exact ⟨rfl, HB.out⟩
  | true =>
    have hb := hbd rfl
    rw [hyes rfl]
    clear hbd hno hyes
    by_cases h3 : k = 3
    · subst h3
      rw [if_pos rfl]
      go_enter Try.func47, Try.ntmps47
      go_wp2_with fail
      rw [HW0.out]
      refine (CR.out _ HB.out).mono ?_; rintro e w1 ⟨rfl, hb1⟩
      clear D0 D1 D2 D3
      have XD := Lib.hid ((hb1.block _ (block_lt XD.out)).trans XD.out)
      have HB := Lib.hid (chain HB.out hb1)
      clear hb1
      have D0 : w1.cell? ⟨w.heap.size, 0, none⟩ = some (.int .i64 3) := block_cell XD.out 0
      have D1 : w1.cell? ⟨w.heap.size, 1, none⟩ = some (.int .i64 n) := block_cell XD.out 1
      have D2 : w1.cell? ⟨w.heap.size, 2, none⟩ = some (.int .i64 m) := block_cell XD.out 2
      have D3 : w1.cell? ⟨w.heap.size, 3, none⟩ = some (.int .i64 d) := block_cell XD.out 3
      go_wp2_with fail
      go_ret
      exact ⟨rfl, HB.out⟩
    · rw [if_neg h3]
      have t3 : (k == 3) = false := bno h3
      by_cases h4 : k = 4
      · subst h4
        rw [if_pos rfl]
        clear h3
        go_enter Try.func47, Try.ntmps47
        go_wp2_with fail
        rw [HW0.out]
        refine (CR.out _ HB.out).mono ?_; rintro e w1 ⟨rfl, hb1⟩
        clear D0 D1 D2 D3
        have XD := Lib.hid ((hb1.block _ (block_lt XD.out)).trans XD.out)
        have HB := Lib.hid (chain HB.out hb1)
        clear hb1
        have D0 : w1.cell? ⟨w.heap.size, 0, none⟩ = some (.int .i64 4) := block_cell XD.out 0
        have D1 : w1.cell? ⟨w.heap.size, 1, none⟩ = some (.int .i64 n) := block_cell XD.out 1
        have D2 : w1.cell? ⟨w.heap.size, 2, none⟩ = some (.int .i64 m) := block_cell XD.out 2
        have D3 : w1.cell? ⟨w.heap.size, 3, none⟩ = some (.int .i64 d) := block_cell XD.out 3
        go_wp2_with fail
        go_ret
        exact ⟨rfl, HB.out⟩
      · rw [if_neg h4]
        have t4 : (k == 4) = false := bno h4
        clear h3 h4
        go_enter Try.func47, Try.ntmps47
        go_wp2_with fail
        rw [HW0.out]
        refine (CR.out _ HB.out).mono ?_; rintro e w1 ⟨rfl, hb1⟩
        clear D0 D1 D2 D3
        have XD := Lib.hid ((hb1.block _ (block_lt XD.out)).trans XD.out)
        have HB := Lib.hid (chain HB.out hb1)
        clear hb1
        have D0 : w1.cell? ⟨w.heap.size, 0, none⟩ = some (.int .i64 k) := block_cell XD.out 0
        have D1 : w1.cell? ⟨w.heap.size, 1, none⟩ = some (.int .i64 n) := block_cell XD.out 1
        have D2 : w1.cell? ⟨w.heap.size, 2, none⟩ = some (.int .i64 m) := block_cell XD.out 2
        have D3 : w1.cell? ⟨w.heap.size, 3, none⟩ = some (.int .i64 d) := block_cell XD.out 3
        go_wp2_with fail
        go_ret
        exact ⟨rfl, HB.out⟩

set_option maxHeartbeats 2000000 in
theorem ref15_Room (k n m d : Int) (w : World) (hx : NmOk (k, n, m, d)) :
    Calls Try.prog 48 #[.agg #[.int .i64 k, .int .i64 n, .int .i64 m, .int .i64 d]] w fun e w' => e = .returned (.int .i64 (roomN (k, n, m, d))) ∧ Below w.heap.size w w' := by
  have CR : Hid (∀ W, Below w.heap.size w W → Calls Try.prog 45 #[.agg #[.int .i64 k, .int .i64 n, .int .i64 m, .int .i64 d]] W fun e w' => e = .returned (.bool (rightB (k, n, m, d))) ∧ Below W.heap.size W w') := fun W _ => ref15_Right k n m d W hx
  have hbd : rightB (k, n, m, d) = true → 1 ≤ n ∧ n ≤ 16777216 := right_bd
  have hno : rightB (k, n, m, d) = false → roomN (k, n, m, d) = 0 := roomN_no
  have hyes : rightB (k, n, m, d) = true → roomN (k, n, m, d) = if k = 3 then n - 1 else if k = 4 then m else n := roomN_yes
  obtain ⟨W0, hW0, hb0, x0⟩ := box_any w #[.int .i64 k, .int .i64 n, .int .i64 m, .int .i64 d] 57
  have HW0 := Lib.hid hW0
  have HB := Lib.hid hb0
  have XD := Lib.hid x0
  have D0 : W0.cell? ⟨w.heap.size, 0, none⟩ = some (.int .i64 k) := block_cell XD.out 0
  have D1 : W0.cell? ⟨w.heap.size, 1, none⟩ = some (.int .i64 n) := block_cell XD.out 1
  have D2 : W0.cell? ⟨w.heap.size, 2, none⟩ = some (.int .i64 m) := block_cell XD.out 2
  have D3 : W0.cell? ⟨w.heap.size, 3, none⟩ = some (.int .i64 d) := block_cell XD.out 3
  clear hW0 hb0 x0
  obtain ⟨R, hR⟩ : ∃ R, rightB (k, n, m, d) = R := ⟨_, rfl⟩
  rw [hR] at CR hbd hno hyes
  clear hR hx
  cases R with
  | false =>
    rw [hno rfl]
    clear hbd hno hyes
    go_enter Try.func48, Try.ntmps48
    go_wp2_with fail
    rw [HW0.out]
    refine (CR.out _ HB.out).mono ?_; rintro e w1 ⟨rfl, hb1⟩
    clear D0 D1 D2 D3
    have XD := Lib.hid ((hb1.block _ (block_lt XD.out)).trans XD.out)
    have HB := Lib.hid (chain HB.out hb1)
    clear hb1
    have D0 : w1.cell? ⟨w.heap.size, 0, none⟩ = some (.int .i64 k) := block_cell XD.out 0
    have D1 : w1.cell? ⟨w.heap.size, 1, none⟩ = some (.int .i64 n) := block_cell XD.out 1
    have D2 : w1.cell? ⟨w.heap.size, 2, none⟩ = some (.int .i64 m) := block_cell XD.out 2
    have D3 : w1.cell? ⟨w.heap.size, 3, none⟩ = some (.int .i64 d) := block_cell XD.out 3
    go_wp2_with fail
    go_ret
    exact ⟨rfl, HB.out⟩
  | true =>
    have hb := hbd rfl
    rw [hyes rfl]
    clear hbd hno hyes
    by_cases h3 : k = 3
    · subst h3
      rw [if_pos rfl]
      go_enter Try.func48, Try.ntmps48
      go_wp2_with fail
      rw [HW0.out]
      refine (CR.out _ HB.out).mono ?_; rintro e w1 ⟨rfl, hb1⟩
      clear D0 D1 D2 D3
      have XD := Lib.hid ((hb1.block _ (block_lt XD.out)).trans XD.out)
      have HB := Lib.hid (chain HB.out hb1)
      clear hb1
      have D0 : w1.cell? ⟨w.heap.size, 0, none⟩ = some (.int .i64 3) := block_cell XD.out 0
      have D1 : w1.cell? ⟨w.heap.size, 1, none⟩ = some (.int .i64 n) := block_cell XD.out 1
      have D2 : w1.cell? ⟨w.heap.size, 2, none⟩ = some (.int .i64 m) := block_cell XD.out 2
      have D3 : w1.cell? ⟨w.heap.size, 3, none⟩ = some (.int .i64 d) := block_cell XD.out 3
      go_wp2_with fail
      go_ret
      exact ⟨rfl, HB.out⟩
    · rw [if_neg h3]
      have t3 : (k == 3) = false := bno h3
      by_cases h4 : k = 4
      · subst h4
        rw [if_pos rfl]
        clear h3
        go_enter Try.func48, Try.ntmps48
        go_wp2_with fail
        rw [HW0.out]
        refine (CR.out _ HB.out).mono ?_; rintro e w1 ⟨rfl, hb1⟩
        clear D0 D1 D2 D3
        have XD := Lib.hid ((hb1.block _ (block_lt XD.out)).trans XD.out)
        have HB := Lib.hid (chain HB.out hb1)
        clear hb1
        have D0 : w1.cell? ⟨w.heap.size, 0, none⟩ = some (.int .i64 4) := block_cell XD.out 0
        have D1 : w1.cell? ⟨w.heap.size, 1, none⟩ = some (.int .i64 n) := block_cell XD.out 1
        have D2 : w1.cell? ⟨w.heap.size, 2, none⟩ = some (.int .i64 m) := block_cell XD.out 2
        have D3 : w1.cell? ⟨w.heap.size, 3, none⟩ = some (.int .i64 d) := block_cell XD.out 3
        go_wp2_with fail
        go_ret
        exact ⟨rfl, HB.out⟩
      · rw [if_neg h4]
        have t4 : (k == 4) = false := bno h4
        clear h3 h4
        go_enter Try.func48, Try.ntmps48
        go_wp2_with fail
        rw [HW0.out]
        refine (CR.out _ HB.out).mono ?_; rintro e w1 ⟨rfl, hb1⟩
        clear D0 D1 D2 D3
        have XD := Lib.hid ((hb1.block _ (block_lt XD.out)).trans XD.out)
        have HB := Lib.hid (chain HB.out hb1)
        clear hb1
        have D0 : w1.cell? ⟨w.heap.size, 0, none⟩ = some (.int .i64 k) := block_cell XD.out 0
        have D1 : w1.cell? ⟨w.heap.size, 1, none⟩ = some (.int .i64 n) := block_cell XD.out 1
        have D2 : w1.cell? ⟨w.heap.size, 2, none⟩ = some (.int .i64 m) := block_cell XD.out 2
        have D3 : w1.cell? ⟨w.heap.size, 3, none⟩ = some (.int .i64 d) := block_cell XD.out 3
        go_wp2_with fail
        go_ret
        exact ⟨rfl, HB.out⟩

theorem orL_four (x y z u : Int) : orL [x, y, z, u] = orI x (orI y (orI z u)) := by
  simp only [orL]
  unfold orI
  split <;> (try split) <;> (try split) <;> (try split) <;> first | rfl | omega

set_option maxHeartbeats 4000000 in
theorem need_Cmp (k n m d k' n' m' d' : Int) (w : World) :
    Calls Try.prog 49 #[.agg #[.int .i64 k, .int .i64 n, .int .i64 m, .int .i64 d], .agg #[.int .i64 k', .int .i64 n', .int .i64 m', .int .i64 d']] w fun e w' => e = .returned (.int .i64 (cmpN (k, n, m, d) (k', n', m', d'))) ∧ Below w.heap.size w w' := by
  have C0 : Hid (∀ W, Calls Try.prog 93 #[.int .i64 k, .int .i64 k'] W fun e w' => e = .returned (.int .i64 (cmpI k k')) ∧ W = w') := fun W => cmp_Compare _ _ _
  have b0 := cmpI_bd k k'
  have C1 : Hid (∀ W, Calls Try.prog 93 #[.int .i64 n, .int .i64 n'] W fun e w' => e = .returned (.int .i64 (cmpI n n')) ∧ W = w') := fun W => cmp_Compare _ _ _
  have b1 := cmpI_bd n n'
  have C2 : Hid (∀ W, Calls Try.prog 93 #[.int .i64 m, .int .i64 m'] W fun e w' => e = .returned (.int .i64 (cmpI m m')) ∧ W = w') := fun W => cmp_Compare _ _ _
  have b2 := cmpI_bd m m'
  have C3 : Hid (∀ W, Calls Try.prog 93 #[.int .i64 d, .int .i64 d'] W fun e w' => e = .returned (.int .i64 (cmpI d d')) ∧ W = w') := fun W => cmp_Compare _ _ _
  have b3 := cmpI_bd d d'
  show Calls Try.prog 49 _ w fun e w' => e = .returned (.int .i64 (orI (cmpI k k') (orI (cmpI n n') (orI (cmpI m m') (cmpI d d'))))) ∧ Below w.heap.size w w'
  obtain ⟨x0, hx0⟩ : ∃ x, cmpI k k' = x := ⟨_, rfl⟩
  rw [hx0] at C0 b0 ⊢
  obtain ⟨x1, hx1⟩ : ∃ x, cmpI n n' = x := ⟨_, rfl⟩
  rw [hx1] at C1 b1 ⊢
  obtain ⟨x2, hx2⟩ : ∃ x, cmpI m m' = x := ⟨_, rfl⟩
  rw [hx2] at C2 b2 ⊢
  obtain ⟨x3, hx3⟩ : ∃ x, cmpI d d' = x := ⟨_, rfl⟩
  rw [hx3] at C3 b3 ⊢
  clear hx0 hx1 hx2 hx3
  have COr : Hid (∀ (W : World) (b : Nat), Row .i64 W (some ⟨b, 0, none⟩) [x0, x1, x2, x3] → Calls Try.prog 92 #[.slice (some ⟨b, 0, none⟩) 4 4] W fun e w' => e = .returned (.int .i64 (orI x0 (orI x1 (orI x2 x3)))) ∧ W = w') := fun W b hr => by
    have := cmp_Or (some ⟨b, 0, none⟩) 4 4 [x0, x1, x2, x3] W hr rfl (by omega)
    rwa [orL_four] at this
  have HFR : Hid (∀ z ∈ [x0, x1, x2, x3], fits .i64 z) := by
    intro z hz
    simp only [List.mem_cons, List.not_mem_nil, or_false] at hz
    rcases hz with rfl | rfl | rfl | rfl <;> exact fits_i64.2 (by omega)
  clear b0 b1 b2 b3
  obtain ⟨W0, hW0, hb0, y0, y1⟩ := two_boxes w #[.int .i64 k, .int .i64 n, .int .i64 m, .int .i64 d] #[.int .i64 k', .int .i64 n', .int .i64 m', .int .i64 d'] 57 57
  have HB := Lib.hid hb0
  have HW0 := Lib.hid hW0
  have XD := Lib.hid y0
  have XE := Lib.hid y1
  clear hb0 hW0 y0 y1
  go_enter Try.func49, Try.ntmps49
  go_wp2_with fail
  rw [HW0.out]
  have D0 : W0.cell? ⟨w.heap.size, 0, none⟩ = some (.int .i64 k) := block_cell XD.out 0
  have D1 : W0.cell? ⟨w.heap.size, 1, none⟩ = some (.int .i64 n) := block_cell XD.out 1
  have D2 : W0.cell? ⟨w.heap.size, 2, none⟩ = some (.int .i64 m) := block_cell XD.out 2
  have D3 : W0.cell? ⟨w.heap.size, 3, none⟩ = some (.int .i64 d) := block_cell XD.out 3
  have E0 : W0.cell? ⟨w.heap.size + 1, 0, none⟩ = some (.int .i64 k') := block_cell XE.out 0
  have E1 : W0.cell? ⟨w.heap.size + 1, 1, none⟩ = some (.int .i64 n') := block_cell XE.out 1
  have E2 : W0.cell? ⟨w.heap.size + 1, 2, none⟩ = some (.int .i64 m') := block_cell XE.out 2
  have E3 : W0.cell? ⟨w.heap.size + 1, 3, none⟩ = some (.int .i64 d') := block_cell XE.out 3
  have lD := block_lt XD.out
  have lE := block_lt XE.out
  have hb : Below W0.heap.size W0 W0.drew := (Below.refl _ _).drew
  have hq : Below W0.heap.size W0 (W0.alloc (.cells #[.int .i64 x0, .int .i64 x1, .int .i64 x2, .int .i64 x3] 3)).drew := (Below.refl W0.heap.size W0).alloc (Nat.le_refl _) _ |>.drew
  refine wp_region_still_tail 20 (by kernel_rfl) (by kernel_rfl) ?_; simp only [List.take_succ_cons, List.take_zero, List.drop_succ_cons, List.drop_zero]
  repeat still_step
  still_call (sameW (C0.out _))
  repeat still_step
  still_call (sameW (C1.out _))
  repeat still_step
  still_call (sameW (C2.out _))
  repeat still_step
  still_call (sameW (C3.out _))
  repeat still_step
  try refine wpStill_nil ?_
  have hrow : Row .i64 (W0.alloc (.cells #[.int .i64 x0, .int .i64 x1, .int .i64 x2, .int .i64 x3] 3)).drew (some ⟨W0.heap.size, 0, none⟩) [x0, x1, x2, x3] := (row_new .i64 W0 3 [x0, x1, x2, x3] HFR.out (by simp)).below (Below.refl _ _).drew
  have HROW := Lib.hid hrow
  clear hrow
  go_wp2_with fail
  refine (COr.out _ _ HROW.out).mono ?_; rintro e z ⟨rfl, rfl⟩
  go_wp2_with fail
  go_ret
  exact ⟨rfl, chain HB.out hq⟩
  
def lexC : List Int → List Int → Int
  | x :: xs, y :: ys => orI (cmpI x y) (lexC xs ys)
  | _, _ => 0
def quad (x : Nm) : List Int := [x.1, x.2.1, x.2.2.1, x.2.2.2]
theorem lexC_quad (x y : Nm) : lexC (quad x) (quad y) = cmpN x y := by
  simp only [quad, lexC, cmpN]
  rw [show orI (cmpI x.2.2.2 y.2.2.2) 0 = cmpI x.2.2.2 y.2.2.2 by unfold orI; split <;> omega]
theorem lexC_step (xs ys : List Int) (j : Nat) (h : j < xs.length) (h2 : j < ys.length) : lexC (xs.drop j) (ys.drop j) = orI (cmpI (nth xs j) (nth ys j)) (lexC (xs.drop (j + 1)) (ys.drop (j + 1))) := by
  rw [dropT xs j h, dropT ys j h2]; rfl
set_option maxHeartbeats 4000000 in
theorem ref15_Cmp (k n m d k' n' m' d' : Int) (w : World) (hx : NmOk (k, n, m, d)) (hy : NmOk (k', n', m', d')) :
    Calls Try.prog 50 #[.agg #[.int .i64 k, .int .i64 n, .int .i64 m, .int .i64 d], .agg #[.int .i64 k', .int .i64 n', .int .i64 m', .int .i64 d']] w fun e w' => e = .returned (.int .i64 (cmpN (k, n, m, d) (k', n', m', d'))) ∧ Below w.heap.size w w' := by
  have HXF : Hid (∀ z ∈ quad (k, n, m, d), fits .i64 z) := by
    intro z hz
    unfold NmOk at hx
    simp only [quad, List.mem_cons, List.not_mem_nil, or_false] at hz hx
    rcases hz with rfl | rfl | rfl | rfl <;> exact fits_i64.2 (by omega)
  have HYF : Hid (∀ z ∈ quad (k', n', m', d'), fits .i64 z) := by
    intro z hz
    unfold NmOk at hy
    simp only [quad, List.mem_cons, List.not_mem_nil, or_false] at hz hy
    rcases hz with rfl | rfl | rfl | rfl <;> exact fits_i64.2 (by omega)
  obtain ⟨V, hV⟩ : ∃ V, cmpN (k, n, m, d) (k', n', m', d') = V := ⟨_, rfl⟩
  rw [hV]
  have HV : Hid (lexC ((quad (k, n, m, d)).drop 0) ((quad (k', n', m', d')).drop 0) = V) := (lexC_quad _ _).trans hV
  clear hV hx hy
  go_enter Try.func50, Try.ntmps50
  go_wp2_with fail
  obtain ⟨W0, hW0⟩ : ∃ W0, (((w.alloc (.cells #[.int .i64 k, .int .i64 n, .int .i64 m, .int .i64 d] 57)).alloc (.cells #[.int .i64 k', .int .i64 n', .int .i64 m', .int .i64 d'] 57)).alloc (.cells #[.int .i64 k, .int .i64 n, .int .i64 m, .int .i64 d] 3)).alloc (.cells #[.int .i64 k', .int .i64 n', .int .i64 m', .int .i64 d'] 3) = W0 := ⟨_, rfl⟩
  have hb0 : Below w.heap.size w W0 := by rw [← hW0]; exact ((((Below.refl _ _).alloc (Nat.le_refl _) _).alloc (by simp) _).alloc (by simp <;> omega) _).alloc (by simp <;> omega) _
  have hX : Row .i64 W0 (some ⟨w.heap.size + 1 + 1, 0, none⟩) (quad (k, n, m, d)) := by
    rw [← hW0]
    refine Row.below ?_ ((Below.refl _ _).alloc (Nat.le_refl _) _)
    have h := row_new .i64 ((w.alloc (.cells #[.int .i64 k, .int .i64 n, .int .i64 m, .int .i64 d] 57)).alloc (.cells #[.int .i64 k', .int .i64 n', .int .i64 m', .int .i64 d'] 57)) 3 (quad (k, n, m, d)) HXF.out (by simp [quad])
    simpa [quad] using h
  have hY : Row .i64 W0 (some ⟨w.heap.size + 1 + 1 + 1, 0, none⟩) (quad (k', n', m', d')) := by
    rw [← hW0]
    have h := row_new .i64 (((w.alloc (.cells #[.int .i64 k, .int .i64 n, .int .i64 m, .int .i64 d] 57)).alloc (.cells #[.int .i64 k', .int .i64 n', .int .i64 m', .int .i64 d'] 57)).alloc (.cells #[.int .i64 k, .int .i64 n, .int .i64 m, .int .i64 d] 3)) 3 (quad (k', n', m', d')) HYF.out (by simp [quad])
    simpa [quad] using h
  rw [hW0]
  clear hW0
  have HX0 := Lib.hid hX
  have HY0 := Lib.hid hY
  clear hX hY
  go_loopw [7] (fun i wr => ∃ j : Nat, j ≤ 4 ∧ i = .int .i64 j ∧ Hid (lexC ((quad (k, n, m, d)).drop j) ((quad (k', n', m', d')).drop j) = V) ∧ Below W0.heap.size W0 wr) (fun i _ => 4 - (intOf i).toNat)
  case atStart => exact ⟨0, by omega, rfl, HV.out, Below.refl _ _⟩
  case round =>
    obtain ⟨j, hj, rfl, HE, hbel⟩ := hrel
    by_cases hlt : j < 4
    · obtain ⟨b1, o1, e1, hc1⟩ := (HX0.out.below hbel).at (by simp [quad])
      obtain ⟨b2, o2, e2, hc2⟩ := (HY0.out.below hbel).at (by simp [quad])
      have h1 := hc1 j hlt
      have h2 := hc2 j hlt
      simp only [Option.some.injEq, Addr.mk.injEq, and_true] at e1 e2
      obtain ⟨rfl, rfl⟩ := e1
      obtain ⟨rfl, rfl⟩ := e2
      have fx := fits_i64.1 (HXF.out _ (nth_mem (show j < (quad (k, n, m, d)).length from hlt)))
      have fy := fits_i64.1 (HYF.out _ (nth_mem (show j < (quad (k', n', m', d')).length from hlt)))
      have hst := lexC_step (quad (k, n, m, d)) (quad (k', n', m', d')) j hlt hlt
      rw [HE.out] at hst
      obtain ⟨x, hx⟩ : ∃ x, nth (quad (k, n, m, d)) j = x := ⟨_, rfl⟩
      obtain ⟨y, hy⟩ : ∃ y, nth (quad (k', n', m', d')) j = y := ⟨_, rfl⟩
      rw [hx] at h1 fx hst
      rw [hy] at h2 fy hst
      rw [Nat.zero_add] at h1 h2
      have g1 : (0 : Int) ≤ (j : Int) := by omega
      have g2 : (j : Int) < 4 := by omega
      have HST := Lib.hid hst
      clear hc1 hc2 hx hy HE hst
      have hh1 := World.block_lt_of_cell? _ _ h1
      have hh2 := World.block_lt_of_cell? _ _ h2
      by_cases hxy : x < y
      · have HR : Hid (V = -1) := by unfold Hid; rw [HST.out]; unfold cmpI; rw [if_pos hxy]; rfl
        clear HST
        go_wp2_with fail
        go_quiet (fail)
        have hb := below_drewN (Below.refl wr.heap.size wr) nq
        obtain ⟨w1, hw1⟩ : ∃ w1, wr.drewN nq = w1 := ⟨_, rfl⟩
        rw [hw1] at hb ⊢
        clear hw1
        go_wp2_with fail
        go_ret
        exact ⟨by simp [HR.out], chain hb0 (chain hbel hb)⟩
      · by_cases hyx : y < x
        · have HR : Hid (V = 1) := by unfold Hid; rw [HST.out]; unfold cmpI; rw [if_neg hxy, if_pos hyx]; rfl
          have q1 : decide (x < y) = false := by simp; omega
          have q2 : decide (x > y) = true := by simp; omega
          clear HST
          go_wp2_with fail
          go_quiet (fail)
          have hb := below_drewN (Below.refl wr.heap.size wr) nq
          have h1' := (hb.cell (p := ⟨w.heap.size + 1 + 1, j, none⟩) hh1).trans h1
          have h2' := (hb.cell (p := ⟨w.heap.size + 1 + 1 + 1, j, none⟩) hh2).trans h2
          obtain ⟨w1, hw1⟩ : ∃ w1, wr.drewN nq = w1 := ⟨_, rfl⟩
          rw [hw1] at hb h1' h2' ⊢
          clear hw1
          go_wp2_with fail
          go_quiet (fail)
          have hb2 := below_drewN (Below.refl w1.heap.size w1) nq
          obtain ⟨w2, hw2⟩ : ∃ w2, w1.drewN nq = w2 := ⟨_, rfl⟩
          rw [hw2] at hb2 ⊢
          clear hw2
          go_wp2_with fail
          go_ret
          exact ⟨by simp [HR.out], chain hb0 (chain (chain hbel hb) hb2)⟩
        · have HR : Hid (lexC ((quad (k, n, m, d)).drop (j + 1)) ((quad (k', n', m', d')).drop (j + 1)) = V) := by unfold Hid; rw [HST.out]; unfold cmpI; rw [if_neg hxy, if_neg hyx]; rfl
          have q1 : decide (x < y) = false := by simp; omega
          have q2 : decide (x > y) = false := by simp; omega
          clear HST
          go_wp2_with fail
          go_quiet (fail)
          have hb := below_drewN (Below.refl wr.heap.size wr) nq
          have h1' := (hb.cell (p := ⟨w.heap.size + 1 + 1, j, none⟩) hh1).trans h1
          have h2' := (hb.cell (p := ⟨w.heap.size + 1 + 1 + 1, j, none⟩) hh2).trans h2
          obtain ⟨w1, hw1⟩ : ∃ w1, wr.drewN nq = w1 := ⟨_, rfl⟩
          rw [hw1] at hb h1' h2' ⊢
          clear hw1
          go_wp2_with fail
          go_quiet (fail)
          have hb2 := below_drewN (Below.refl w1.heap.size w1) nq
          obtain ⟨w2, hw2⟩ : ∃ w2, w1.drewN nq = w2 := ⟨_, rfl⟩
          rw [hw2] at hb2 ⊢
          clear hw2
          have HBE := Lib.hid (chain (chain hbel hb) hb2)
          clear hb hb2 h1 h2 h1' h2' hbel
          go_wp2_with fail
          go_roundw
          case rel => exact ⟨j + 1, by omega, by go_num, HR.out, HBE.out⟩
          case measure => simp [intOf]; omega
    · obtain rfl : j = 4 := by omega
      have HZ : Hid (0 = V) := by rw [← HE.out]; rfl
      clear HE
      go_wp2_with fail
      go_ret
      exact ⟨by simp [← HZ.out], chain hb0 hbel⟩

end Go.Proofs.Ytncikklhchimdaa
