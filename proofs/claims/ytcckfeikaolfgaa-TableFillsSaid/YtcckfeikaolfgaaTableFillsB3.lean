/- The contracts and plain laws that the statement TableFills needs, part 3 of 3: NeedA NeedB TabA DftD TabB TabC TabD PermA TabF. -/
import Derived.Test.YtcckfeikaolfgaaTableFillsB2
namespace Go.Proofs.Ytcckfeikaolfgaa
open Go.RowKit
set_option linter.unusedVariables false
set_option linter.unusedSimpArgs false
set_option maxRecDepth 100000
set_option maxRecDepth 20000
/-- Four numbers that may be. -/
def NmOk (x : Nm) : Prop := (-9223372036854775808 ≤ x.1 ∧ x.1 < 9223372036854775808) ∧ (-9223372036854775808 ≤ x.2.1 ∧ x.2.1 < 9223372036854775808) ∧ (-9223372036854775808 ≤ x.2.2.1 ∧ x.2.2.1 < 9223372036854775808) ∧ (-9223372036854775808 ≤ x.2.2.2 ∧ x.2.2.2 < 9223372036854775808)
set_option maxHeartbeats 4000000 in
theorem need_Right (k n m d : Int) (w : World) (hx : NmOk (k, n, m, d)) :
    Calls Try.prog 38 #[.agg #[.int .i64 k, .int .i64 n, .int .i64 m, .int .i64 d]] w fun e w' => e = .returned (.bool (rightB (k, n, m, d))) ∧ Below w.heap.size w w' := by
  obtain ⟨hk, hn, hm, hd⟩ := hx
  simp only at hk hn hm hd
  obtain ⟨W0, hW0, hb0, x0⟩ := box_any w #[.int .i64 k, .int .i64 n, .int .i64 m, .int .i64 d] 23
  have HW0 := Lib.hid hW0
  have HB := Lib.hid hb0
  have D0 : W0.cell? ⟨w.heap.size, 0, none⟩ = some (.int .i64 k) := block_cell x0 0
  have D1 : W0.cell? ⟨w.heap.size, 1, none⟩ = some (.int .i64 n) := block_cell x0 1
  have D2 : W0.cell? ⟨w.heap.size, 2, none⟩ = some (.int .i64 m) := block_cell x0 2
  have D3 : W0.cell? ⟨w.heap.size, 3, none⟩ = some (.int .i64 d) := block_cell x0 3
  clear hW0 hb0 x0
  by_cases hsz : hasSz n = true
  case neg =>
    have hsz' : hasSz n = false := by simpa using hsz
    have HS : Hid (∀ W, Calls Try.prog 66 #[.int .i64 n] W fun e w' => e = .returned (.bool false) ∧ W = w') := fun W => rootHas_no n W hsz' hn
    have HV : Hid (rightB (k, n, m, d) = false) := by simp [Hid, rightB, hsz']
    clear hsz hsz'
    go_enter Try.func38, Try.ntmps38
    go_wp2_with fail
    rw [HW0.out]
    refine (HS.out _).mono ?_; rintro e w1 ⟨rfl, rfl⟩
    go_wp2_with fail
    go_ret
    exact ⟨ret_bool HV.out.symm, HB.out⟩
  have HS : Hid (∀ W, Calls Try.prog 66 #[.int .i64 n] W fun e w' => e = .returned (.bool true) ∧ W = w') := fun W => rootHas_yes n W hsz
  have hnb := hasSz_bd hsz
  by_cases hdd : d = 0 ∨ d = 1
  case neg =>
    have HV : Hid (rightB (k, n, m, d) = false) := by simp [Hid, rightB, hdd]
    have t0 : (d != 0) = true := bdiff (by omega)
    have t1 : (d != 1) = true := bdiff (by omega)
    clear hsz hdd
    go_enter Try.func38, Try.ntmps38
    go_wp2_with fail
    rw [HW0.out]
    refine (HS.out _).mono ?_; rintro e w1 ⟨rfl, rfl⟩
    go_wp2_with fail
    go_ret
    exact ⟨ret_bool HV.out.symm, HB.out⟩
  have HD : Hid (decide (d = 0 ∨ d = 1) = true) := decide_eq_true hdd
  have HZ := Lib.hid hsz
  rcases hdd with rfl | rfl

  · clear hsz
    rcases (show k = 1 ∨ k = 2 ∨ k = 3 ∨ k = 4 ∨ (k ≠ 1 ∧ k ≠ 2 ∧ k ≠ 3 ∧ k ≠ 4) by omega) with rfl | rfl | rfl | rfl | ⟨k1, k2, k3, k4⟩
    · by_cases hm0 : m = 0
      · subst hm0
        have HV : Hid (rightB (1, n, 0, 0) = true) := by unfold Hid rightB; simp only [HZ.out]; simp
        clear HZ HD
        go_enter Try.func38, Try.ntmps38
        go_wp2_with fail
        rw [HW0.out]
        refine (HS.out _).mono ?_; rintro e w1 ⟨rfl, rfl⟩
        go_wp2_with fail
        go_ret
        exact ⟨ret_bool HV.out.symm, HB.out⟩
      · have t2 : (m == 0) = false := bno hm0
        have HV : Hid (rightB (1, n, m, 0) = false) := by unfold Hid rightB; simp only [HZ.out]; simp [hm0]
        clear HZ HD hm0
        go_enter Try.func38, Try.ntmps38
        go_wp2_with fail
        rw [HW0.out]
        refine (HS.out _).mono ?_; rintro e w1 ⟨rfl, rfl⟩
        go_wp2_with fail
        go_ret
        exact ⟨ret_bool HV.out.symm, HB.out⟩
    · by_cases hm0 : m = 0
      · subst hm0
        have HV : Hid (rightB (2, n, 0, 0) = true) := by unfold Hid rightB; simp only [HZ.out]; simp
        clear HZ HD
        go_enter Try.func38, Try.ntmps38
        go_wp2_with fail
        rw [HW0.out]
        refine (HS.out _).mono ?_; rintro e w1 ⟨rfl, rfl⟩
        go_wp2_with fail
        go_ret
        exact ⟨ret_bool HV.out.symm, HB.out⟩
      · have t2 : (m == 0) = false := bno hm0
        have HV : Hid (rightB (2, n, m, 0) = false) := by unfold Hid rightB; simp only [HZ.out]; simp [hm0]
        clear HZ HD hm0
        go_enter Try.func38, Try.ntmps38
        go_wp2_with fail
        rw [HW0.out]
        refine (HS.out _).mono ?_; rintro e w1 ⟨rfl, rfl⟩
        go_wp2_with fail
        go_ret
        exact ⟨ret_bool HV.out.symm, HB.out⟩
    · by_cases hm0 : m = 0
      · subst hm0
        by_cases h3 : 3 ≤ n
        · have t3 : decide (n ≥ 3) = true := by simp; omega
          obtain ⟨P, hP⟩ : ∃ P, isPr n = P := ⟨_, rfl⟩
          have HP : Hid (∀ W, Calls Try.prog 67 #[.int .i64 n] W fun e w' => e = .returned (.bool P) ∧ Below W.heap.size W w') := fun W => by rw [← hP]; exact fact_Prime n W hn
          have HV : Hid (rightB (3, n, 0, 0) = P) := by unfold Hid rightB; simp only [HZ.out]; simp [h3, hP]
          clear HZ HD hP
          go_enter Try.func38, Try.ntmps38
          go_wp2_with fail
          rw [HW0.out]
          refine (HS.out _).mono ?_; rintro e w1 ⟨rfl, rfl⟩
          go_wp2_with fail
          refine (HP.out _).mono ?_; rintro e w2 ⟨rfl, hb2⟩
          have HB := Lib.hid (chain HB.out hb2)
          clear hb2 D0 D1 D2 D3
          go_wp2_with fail
          go_ret
          exact ⟨ret_bool HV.out.symm, HB.out⟩
        · have t3 : decide (n ≥ 3) = false := by simp; omega
          have HV : Hid (rightB (3, n, 0, 0) = false) := by unfold Hid rightB; simp only [HZ.out]; simp [h3]
          clear HZ HD h3
          go_enter Try.func38, Try.ntmps38
          go_wp2_with fail
          rw [HW0.out]
          refine (HS.out _).mono ?_; rintro e w1 ⟨rfl, rfl⟩
          go_wp2_with fail
          go_ret
          exact ⟨ret_bool HV.out.symm, HB.out⟩
      · have t2 : (m == 0) = false := bno hm0
        have HV : Hid (rightB (3, n, m, 0) = false) := by unfold Hid rightB; simp only [HZ.out]; simp [hm0]
        clear HZ HD hm0
        go_enter Try.func38, Try.ntmps38
        go_wp2_with fail
        rw [HW0.out]
        refine (HS.out _).mono ?_; rintro e w1 ⟨rfl, rfl⟩
        go_wp2_with fail
        go_ret
        exact ⟨ret_bool HV.out.symm, HB.out⟩
    · by_cases h2 : 2 ≤ n
      · have t4 : decide (n ≥ 2) = true := by simp; omega
        by_cases h5 : 2 * n - 1 ≤ m
        · have t5 : decide (m ≥ 2 * n - 1) = true := by simp; omega
          obtain ⟨P, hP⟩ : ∃ P, hasP2 m = P := ⟨_, rfl⟩
          have HP : Hid (∀ W, Calls Try.prog 68 #[.int .i64 m] W fun e w' => e = .returned (.bool P) ∧ W = w') := fun W => by rw [← hP]; exact stock_Has m W ⟨hm.1, by omega⟩
          have HV : Hid (rightB (4, n, m, 0) = P) := by unfold Hid rightB; simp only [HZ.out]; simp [h2, h5, hP]
          clear HZ HD hP
          go_enter Try.func38, Try.ntmps38
          go_wp2_with fail
          rw [HW0.out]
          refine (HS.out _).mono ?_; rintro e w1 ⟨rfl, rfl⟩
          go_wp2_with fail
          refine (HP.out _).mono ?_; rintro e w2 ⟨rfl, rfl⟩
          go_wp2_with fail
          go_ret
          exact ⟨ret_bool HV.out.symm, HB.out⟩
        · have t5 : decide (m ≥ 2 * n - 1) = false := by simp; omega
          have HV : Hid (rightB (4, n, m, 0) = false) := by unfold Hid rightB; simp only [HZ.out]; simp [h5]
          clear HZ HD h5
          go_enter Try.func38, Try.ntmps38
          go_wp2_with fail
          rw [HW0.out]
          refine (HS.out _).mono ?_; rintro e w1 ⟨rfl, rfl⟩
          go_wp2_with fail
          go_ret
          exact ⟨ret_bool HV.out.symm, HB.out⟩
      · have t4 : decide (n ≥ 2) = false := by simp; omega
        have HV : Hid (rightB (4, n, m, 0) = false) := by unfold Hid rightB; simp only [HZ.out]; simp [h2]
        clear HZ HD h2
        go_enter Try.func38, Try.ntmps38
        go_wp2_with fail
        rw [HW0.out]
        refine (HS.out _).mono ?_; rintro e w1 ⟨rfl, rfl⟩
        go_wp2_with fail
        go_ret
        exact ⟨ret_bool HV.out.symm, HB.out⟩
    · have u1 := bno k1
      have u2 := bno k2
      have u3 := bno k3
      have u4 := bno k4
      have HV : Hid (rightB (k, n, m, 0) = false) := by unfold Hid rightB; simp only [HZ.out]; simp [k1, k2, k3, k4]
      clear HZ HD k1 k2 k3 k4
      go_enter Try.func38, Try.ntmps38
      go_wp2_with fail
      rw [HW0.out]
      refine (HS.out _).mono ?_; rintro e w1 ⟨rfl, rfl⟩
      go_wp2_with fail
      go_ret
      exact ⟨ret_bool HV.out.symm, HB.out⟩

  · clear hsz
    rcases (show k = 1 ∨ k = 2 ∨ k = 3 ∨ k = 4 ∨ (k ≠ 1 ∧ k ≠ 2 ∧ k ≠ 3 ∧ k ≠ 4) by omega) with rfl | rfl | rfl | rfl | ⟨k1, k2, k3, k4⟩
    · by_cases hm0 : m = 0
      · subst hm0
        have HV : Hid (rightB (1, n, 0, 1) = true) := by unfold Hid rightB; simp only [HZ.out]; simp
        clear HZ HD
        go_enter Try.func38, Try.ntmps38
        go_wp2_with fail
        rw [HW0.out]
        refine (HS.out _).mono ?_; rintro e w1 ⟨rfl, rfl⟩
        go_wp2_with fail
        go_ret
        exact ⟨ret_bool HV.out.symm, HB.out⟩
      · have t2 : (m == 0) = false := bno hm0
        have HV : Hid (rightB (1, n, m, 1) = false) := by unfold Hid rightB; simp only [HZ.out]; simp [hm0]
        clear HZ HD hm0
        go_enter Try.func38, Try.ntmps38
        go_wp2_with fail
        rw [HW0.out]
        refine (HS.out _).mono ?_; rintro e w1 ⟨rfl, rfl⟩
        go_wp2_with fail
        go_ret
        exact ⟨ret_bool HV.out.symm, HB.out⟩
    · by_cases hm0 : m = 0
      · subst hm0
        have HV : Hid (rightB (2, n, 0, 1) = true) := by unfold Hid rightB; simp only [HZ.out]; simp
        clear HZ HD
        go_enter Try.func38, Try.ntmps38
        go_wp2_with fail
        rw [HW0.out]
        refine (HS.out _).mono ?_; rintro e w1 ⟨rfl, rfl⟩
        go_wp2_with fail
        go_ret
        exact ⟨ret_bool HV.out.symm, HB.out⟩
      · have t2 : (m == 0) = false := bno hm0
        have HV : Hid (rightB (2, n, m, 1) = false) := by unfold Hid rightB; simp only [HZ.out]; simp [hm0]
        clear HZ HD hm0
        go_enter Try.func38, Try.ntmps38
        go_wp2_with fail
        rw [HW0.out]
        refine (HS.out _).mono ?_; rintro e w1 ⟨rfl, rfl⟩
        go_wp2_with fail
        go_ret
        exact ⟨ret_bool HV.out.symm, HB.out⟩
    · by_cases hm0 : m = 0
      · subst hm0
        by_cases h3 : 3 ≤ n
        · have t3 : decide (n ≥ 3) = true := by simp; omega
          obtain ⟨P, hP⟩ : ∃ P, isPr n = P := ⟨_, rfl⟩
          have HP : Hid (∀ W, Calls Try.prog 67 #[.int .i64 n] W fun e w' => e = .returned (.bool P) ∧ Below W.heap.size W w') := fun W => by rw [← hP]; exact fact_Prime n W hn
          have HV : Hid (rightB (3, n, 0, 1) = P) := by unfold Hid rightB; simp only [HZ.out]; simp [h3, hP]
          clear HZ HD hP
          go_enter Try.func38, Try.ntmps38
          go_wp2_with fail
          rw [HW0.out]
          refine (HS.out _).mono ?_; rintro e w1 ⟨rfl, rfl⟩
          go_wp2_with fail
          refine (HP.out _).mono ?_; rintro e w2 ⟨rfl, hb2⟩
          have HB := Lib.hid (chain HB.out hb2)
          clear hb2 D0 D1 D2 D3
          go_wp2_with fail
          go_ret
          exact ⟨ret_bool HV.out.symm, HB.out⟩
        · have t3 : decide (n ≥ 3) = false := by simp; omega
          have HV : Hid (rightB (3, n, 0, 1) = false) := by unfold Hid rightB; simp only [HZ.out]; simp [h3]
          clear HZ HD h3
          go_enter Try.func38, Try.ntmps38
          go_wp2_with fail
          rw [HW0.out]
          refine (HS.out _).mono ?_; rintro e w1 ⟨rfl, rfl⟩
          go_wp2_with fail
          go_ret
          exact ⟨ret_bool HV.out.symm, HB.out⟩
      · have t2 : (m == 0) = false := bno hm0
        have HV : Hid (rightB (3, n, m, 1) = false) := by unfold Hid rightB; simp only [HZ.out]; simp [hm0]
        clear HZ HD hm0
        go_enter Try.func38, Try.ntmps38
        go_wp2_with fail
        rw [HW0.out]
        refine (HS.out _).mono ?_; rintro e w1 ⟨rfl, rfl⟩
        go_wp2_with fail
        go_ret
        exact ⟨ret_bool HV.out.symm, HB.out⟩
    · by_cases h2 : 2 ≤ n
      · have t4 : decide (n ≥ 2) = true := by simp; omega
        by_cases h5 : 2 * n - 1 ≤ m
        · have t5 : decide (m ≥ 2 * n - 1) = true := by simp; omega
          obtain ⟨P, hP⟩ : ∃ P, hasP2 m = P := ⟨_, rfl⟩
          have HP : Hid (∀ W, Calls Try.prog 68 #[.int .i64 m] W fun e w' => e = .returned (.bool P) ∧ W = w') := fun W => by rw [← hP]; exact stock_Has m W ⟨hm.1, by omega⟩
          have HV : Hid (rightB (4, n, m, 1) = P) := by unfold Hid rightB; simp only [HZ.out]; simp [h2, h5, hP]
          clear HZ HD hP
          go_enter Try.func38, Try.ntmps38
          go_wp2_with fail
          rw [HW0.out]
          refine (HS.out _).mono ?_; rintro e w1 ⟨rfl, rfl⟩
          go_wp2_with fail
          refine (HP.out _).mono ?_; rintro e w2 ⟨rfl, rfl⟩
          go_wp2_with fail
          go_ret
          exact ⟨ret_bool HV.out.symm, HB.out⟩
        · have t5 : decide (m ≥ 2 * n - 1) = false := by simp; omega
          have HV : Hid (rightB (4, n, m, 1) = false) := by unfold Hid rightB; simp only [HZ.out]; simp [h5]
          clear HZ HD h5
          go_enter Try.func38, Try.ntmps38
          go_wp2_with fail
          rw [HW0.out]
          refine (HS.out _).mono ?_; rintro e w1 ⟨rfl, rfl⟩
          go_wp2_with fail
          go_ret
          exact ⟨ret_bool HV.out.symm, HB.out⟩
      · have t4 : decide (n ≥ 2) = false := by simp; omega
        have HV : Hid (rightB (4, n, m, 1) = false) := by unfold Hid rightB; simp only [HZ.out]; simp [h2]
        clear HZ HD h2
        go_enter Try.func38, Try.ntmps38
        go_wp2_with fail
        rw [HW0.out]
        refine (HS.out _).mono ?_; rintro e w1 ⟨rfl, rfl⟩
        go_wp2_with fail
        go_ret
        exact ⟨ret_bool HV.out.symm, HB.out⟩
    · have u1 := bno k1
      have u2 := bno k2
      have u3 := bno k3
      have u4 := bno k4
      have HV : Hid (rightB (k, n, m, 1) = false) := by unfold Hid rightB; simp only [HZ.out]; simp [k1, k2, k3, k4]
      clear HZ HD k1 k2 k3 k4
      go_enter Try.func38, Try.ntmps38
      go_wp2_with fail
      rw [HW0.out]
      refine (HS.out _).mono ?_; rintro e w1 ⟨rfl, rfl⟩
      go_wp2_with fail
      go_ret
      exact ⟨ret_bool HV.out.symm, HB.out⟩
set_option maxHeartbeats 4000000 in
theorem ref15_Right (k n m d : Int) (w : World) (hx : NmOk (k, n, m, d)) :
    Calls Try.prog 9 #[.agg #[.int .i64 k, .int .i64 n, .int .i64 m, .int .i64 d]] w fun e w' => e = .returned (.bool (rightB (k, n, m, d))) ∧ Below w.heap.size w w' := by
  obtain ⟨hk, hn, hm, hd⟩ := hx
  simp only at hk hn hm hd
  obtain ⟨W0, hW0, hb0, x0⟩ := box_any w #[.int .i64 k, .int .i64 n, .int .i64 m, .int .i64 d] 23
  have HW0 := Lib.hid hW0
  have HB := Lib.hid hb0
  have D0 : W0.cell? ⟨w.heap.size, 0, none⟩ = some (.int .i64 k) := block_cell x0 0
  have D1 : W0.cell? ⟨w.heap.size, 1, none⟩ = some (.int .i64 n) := block_cell x0 1
  have D2 : W0.cell? ⟨w.heap.size, 2, none⟩ = some (.int .i64 m) := block_cell x0 2
  have D3 : W0.cell? ⟨w.heap.size, 3, none⟩ = some (.int .i64 d) := block_cell x0 3
  clear hW0 hb0 x0
  by_cases hsz : hasSz n = true
  case neg =>
    have hsz' : hasSz n = false := by simpa using hsz
    have HS : Hid (∀ W, Calls Try.prog 35 #[.int .i64 n] W fun e w' => e = .returned (.bool false) ∧ W = w') := fun W => refHas_no n W hsz' hn
    have HV : Hid (rightB (k, n, m, d) = false) := by simp [Hid, rightB, hsz']
    clear hsz hsz'
    go_enter Try.func9, Try.ntmps9
    go_wp2_with fail
    rw [HW0.out]
    refine (HS.out _).mono ?_; rintro e w1 ⟨rfl, rfl⟩
    go_wp2_with fail
    go_ret
    exact ⟨ret_bool HV.out.symm, HB.out⟩
  have HS : Hid (∀ W, Calls Try.prog 35 #[.int .i64 n] W fun e w' => e = .returned (.bool true) ∧ W = w') := fun W => refHas_yes n W hsz
  have hnb := hasSz_bd hsz
  by_cases hdd : d = 0 ∨ d = 1
  case neg =>
    have HV : Hid (rightB (k, n, m, d) = false) := by simp [Hid, rightB, hdd]
    rcases (show d < 0 ∨ (0 ≤ d ∧ 1 < d) by omega) with h | ⟨h, h2⟩
    · have t0 : decide (d < 0) = true := by simp; omega
      clear hsz hdd
      go_enter Try.func9, Try.ntmps9
      go_wp2_with fail
      rw [HW0.out]
      refine (HS.out _).mono ?_; rintro e w1 ⟨rfl, rfl⟩
      go_wp2_with fail
      go_ret
      exact ⟨ret_bool HV.out.symm, HB.out⟩
    · have t0 : decide (d < 0) = false := by simp; omega
      have t1 : decide (d > 1) = true := by simp; omega
      clear hsz hdd
      go_enter Try.func9, Try.ntmps9
      go_wp2_with fail
      rw [HW0.out]
      refine (HS.out _).mono ?_; rintro e w1 ⟨rfl, rfl⟩
      go_wp2_with fail
      go_ret
      exact ⟨ret_bool HV.out.symm, HB.out⟩
  have HD : Hid (decide (d = 0 ∨ d = 1) = true) := decide_eq_true hdd
  have HZ := Lib.hid hsz
  rcases hdd with rfl | rfl

  · clear hsz
    rcases (show k = 1 ∨ k = 2 ∨ k = 3 ∨ k = 4 ∨ (k ≠ 1 ∧ k ≠ 2 ∧ k ≠ 3 ∧ k ≠ 4) by omega) with rfl | rfl | rfl | rfl | ⟨k1, k2, k3, k4⟩
    · by_cases hm0 : m = 0
      · subst hm0
        have HV : Hid (rightB (1, n, 0, 0) = true) := by unfold Hid rightB; simp only [HZ.out]; simp
        clear HZ HD
        go_enter Try.func9, Try.ntmps9
        go_wp2_with fail
        rw [HW0.out]
        refine (HS.out _).mono ?_; rintro e w1 ⟨rfl, rfl⟩
        go_wp2_with fail
        go_ret
        exact ⟨ret_bool HV.out.symm, HB.out⟩
      · have t2 : (m == 0) = false := bno hm0
        have HV : Hid (rightB (1, n, m, 0) = false) := by unfold Hid rightB; simp only [HZ.out]; simp [hm0]
        clear HZ HD hm0
        go_enter Try.func9, Try.ntmps9
        go_wp2_with fail
        rw [HW0.out]
        refine (HS.out _).mono ?_; rintro e w1 ⟨rfl, rfl⟩
        go_wp2_with fail
        go_ret
        exact ⟨ret_bool HV.out.symm, HB.out⟩
    · by_cases hm0 : m = 0
      · subst hm0
        have HV : Hid (rightB (2, n, 0, 0) = true) := by unfold Hid rightB; simp only [HZ.out]; simp
        clear HZ HD
        go_enter Try.func9, Try.ntmps9
        go_wp2_with fail
        rw [HW0.out]
        refine (HS.out _).mono ?_; rintro e w1 ⟨rfl, rfl⟩
        go_wp2_with fail
        go_ret
        exact ⟨ret_bool HV.out.symm, HB.out⟩
      · have t2 : (m == 0) = false := bno hm0
        have HV : Hid (rightB (2, n, m, 0) = false) := by unfold Hid rightB; simp only [HZ.out]; simp [hm0]
        clear HZ HD hm0
        go_enter Try.func9, Try.ntmps9
        go_wp2_with fail
        rw [HW0.out]
        refine (HS.out _).mono ?_; rintro e w1 ⟨rfl, rfl⟩
        go_wp2_with fail
        go_ret
        exact ⟨ret_bool HV.out.symm, HB.out⟩
    · by_cases hm0 : m = 0
      · subst hm0
        by_cases h3 : 3 ≤ n
        · have t3 : decide (n > 2) = true := by simp; omega
          obtain ⟨P, hP⟩ : ∃ P, isPr n = P := ⟨_, rfl⟩
          have HP : Hid (∀ W, Calls Try.prog 36 #[.int .i64 n] W fun e w' => e = .returned (.bool P) ∧ W = w') := fun W => by obtain ⟨x, rfl⟩ := Int.eq_ofNat_of_zero_le (show 0 ≤ n by omega); rw [← hP]; exact ref03_Prime x W (by omega) (by omega)
          have HV : Hid (rightB (3, n, 0, 0) = P) := by unfold Hid rightB; simp only [HZ.out]; simp [h3, hP]
          clear HZ HD hP
          go_enter Try.func9, Try.ntmps9
          go_wp2_with fail
          rw [HW0.out]
          refine (HS.out _).mono ?_; rintro e w1 ⟨rfl, rfl⟩
          go_wp2_with fail
          refine (HP.out _).mono ?_; rintro e w2 ⟨rfl, rfl⟩
          go_wp2_with fail
          go_ret
          exact ⟨ret_bool HV.out.symm, HB.out⟩
        · have t3 : decide (n > 2) = false := by simp; omega
          have HV : Hid (rightB (3, n, 0, 0) = false) := by unfold Hid rightB; simp only [HZ.out]; simp [h3]
          clear HZ HD h3
          go_enter Try.func9, Try.ntmps9
          go_wp2_with fail
          rw [HW0.out]
          refine (HS.out _).mono ?_; rintro e w1 ⟨rfl, rfl⟩
          go_wp2_with fail
          go_ret
          exact ⟨ret_bool HV.out.symm, HB.out⟩
      · have t2 : (m == 0) = false := bno hm0
        have HV : Hid (rightB (3, n, m, 0) = false) := by unfold Hid rightB; simp only [HZ.out]; simp [hm0]
        clear HZ HD hm0
        go_enter Try.func9, Try.ntmps9
        go_wp2_with fail
        rw [HW0.out]
        refine (HS.out _).mono ?_; rintro e w1 ⟨rfl, rfl⟩
        go_wp2_with fail
        go_ret
        exact ⟨ret_bool HV.out.symm, HB.out⟩
    · by_cases h2 : 2 ≤ n
      · have t4 : decide (n ≥ 2) = true := by simp; omega
        by_cases h5 : 2 * n - 1 ≤ m
        · have t5 : decide (m ≥ 2 * n - 1) = true := by simp; omega
          by_cases hml : m ≤ 16777216
          · have t6 : decide (m ≤ 16777216) = true := by simp; omega
            obtain ⟨P, hP⟩ : ∃ P, isP2 m = P := ⟨_, rfl⟩
            have HP : Hid (∀ W, Calls Try.prog 37 #[.int .i64 m] W fun e w' => e = .returned (.bool P) ∧ W = w') := fun W => by rw [← hP]; exact refPower m W ⟨hm.1, by omega⟩
            have HV : Hid (rightB (4, n, m, 0) = P) := by unfold Hid rightB hasP2; simp only [HZ.out]; simp [h2, h5, hml, hP]
            clear HZ HD hP
            go_enter Try.func9, Try.ntmps9
            go_wp2_with fail
            rw [HW0.out]
            refine (HS.out _).mono ?_; rintro e w1 ⟨rfl, rfl⟩
            go_wp2_with fail
            refine (HP.out _).mono ?_; rintro e w2 ⟨rfl, rfl⟩
            go_wp2_with fail
            go_ret
            exact ⟨ret_bool HV.out.symm, HB.out⟩
          · have t6 : decide (m ≤ 16777216) = false := by simp; omega
            have HV : Hid (rightB (4, n, m, 0) = false) := by unfold Hid rightB hasP2; simp only [HZ.out]; simp [h2, h5, hml]
            clear HZ HD hml
            go_enter Try.func9, Try.ntmps9
            go_wp2_with fail
            rw [HW0.out]
            refine (HS.out _).mono ?_; rintro e w1 ⟨rfl, rfl⟩
            go_wp2_with fail
            go_ret
            exact ⟨ret_bool HV.out.symm, HB.out⟩
        · have t5 : decide (m ≥ 2 * n - 1) = false := by simp; omega
          have HV : Hid (rightB (4, n, m, 0) = false) := by unfold Hid rightB; simp only [HZ.out]; simp [h5]
          clear HZ HD h5
          go_enter Try.func9, Try.ntmps9
          go_wp2_with fail
          rw [HW0.out]
          refine (HS.out _).mono ?_; rintro e w1 ⟨rfl, rfl⟩
          go_wp2_with fail
          go_ret
          exact ⟨ret_bool HV.out.symm, HB.out⟩
      · have t4 : decide (n ≥ 2) = false := by simp; omega
        have HV : Hid (rightB (4, n, m, 0) = false) := by unfold Hid rightB; simp only [HZ.out]; simp [h2]
        clear HZ HD h2
        go_enter Try.func9, Try.ntmps9
        go_wp2_with fail
        rw [HW0.out]
        refine (HS.out _).mono ?_; rintro e w1 ⟨rfl, rfl⟩
        go_wp2_with fail
        go_ret
        exact ⟨ret_bool HV.out.symm, HB.out⟩
    · have u1 := bno k1
      have u2 := bno k2
      have u3 := bno k3
      have u4 := bno k4
      have HV : Hid (rightB (k, n, m, 0) = false) := by unfold Hid rightB; simp only [HZ.out]; simp [k1, k2, k3, k4]
      clear HZ HD k1 k2 k3 k4
      go_enter Try.func9, Try.ntmps9
      go_wp2_with fail
      rw [HW0.out]
      refine (HS.out _).mono ?_; rintro e w1 ⟨rfl, rfl⟩
      go_wp2_with fail
      go_ret
      exact ⟨ret_bool HV.out.symm, HB.out⟩

  · clear hsz
    rcases (show k = 1 ∨ k = 2 ∨ k = 3 ∨ k = 4 ∨ (k ≠ 1 ∧ k ≠ 2 ∧ k ≠ 3 ∧ k ≠ 4) by omega) with rfl | rfl | rfl | rfl | ⟨k1, k2, k3, k4⟩
    · by_cases hm0 : m = 0
      · subst hm0
        have HV : Hid (rightB (1, n, 0, 1) = true) := by unfold Hid rightB; simp only [HZ.out]; simp
        clear HZ HD
        go_enter Try.func9, Try.ntmps9
        go_wp2_with fail
        rw [HW0.out]
        refine (HS.out _).mono ?_; rintro e w1 ⟨rfl, rfl⟩
        go_wp2_with fail
        go_ret
        exact ⟨ret_bool HV.out.symm, HB.out⟩
      · have t2 : (m == 0) = false := bno hm0
        have HV : Hid (rightB (1, n, m, 1) = false) := by unfold Hid rightB; simp only [HZ.out]; simp [hm0]
        clear HZ HD hm0
        go_enter Try.func9, Try.ntmps9
        go_wp2_with fail
        rw [HW0.out]
        refine (HS.out _).mono ?_; rintro e w1 ⟨rfl, rfl⟩
        go_wp2_with fail
        go_ret
        exact ⟨ret_bool HV.out.symm, HB.out⟩
    · by_cases hm0 : m = 0
      · subst hm0
        have HV : Hid (rightB (2, n, 0, 1) = true) := by unfold Hid rightB; simp only [HZ.out]; simp
        clear HZ HD
        go_enter Try.func9, Try.ntmps9
        go_wp2_with fail
        rw [HW0.out]
        refine (HS.out _).mono ?_; rintro e w1 ⟨rfl, rfl⟩
        go_wp2_with fail
        go_ret
        exact ⟨ret_bool HV.out.symm, HB.out⟩
      · have t2 : (m == 0) = false := bno hm0
        have HV : Hid (rightB (2, n, m, 1) = false) := by unfold Hid rightB; simp only [HZ.out]; simp [hm0]
        clear HZ HD hm0
        go_enter Try.func9, Try.ntmps9
        go_wp2_with fail
        rw [HW0.out]
        refine (HS.out _).mono ?_; rintro e w1 ⟨rfl, rfl⟩
        go_wp2_with fail
        go_ret
        exact ⟨ret_bool HV.out.symm, HB.out⟩
    · by_cases hm0 : m = 0
      · subst hm0
        by_cases h3 : 3 ≤ n
        · have t3 : decide (n > 2) = true := by simp; omega
          obtain ⟨P, hP⟩ : ∃ P, isPr n = P := ⟨_, rfl⟩
          have HP : Hid (∀ W, Calls Try.prog 36 #[.int .i64 n] W fun e w' => e = .returned (.bool P) ∧ W = w') := fun W => by obtain ⟨x, rfl⟩ := Int.eq_ofNat_of_zero_le (show 0 ≤ n by omega); rw [← hP]; exact ref03_Prime x W (by omega) (by omega)
          have HV : Hid (rightB (3, n, 0, 1) = P) := by unfold Hid rightB; simp only [HZ.out]; simp [h3, hP]
          clear HZ HD hP
          go_enter Try.func9, Try.ntmps9
          go_wp2_with fail
          rw [HW0.out]
          refine (HS.out _).mono ?_; rintro e w1 ⟨rfl, rfl⟩
          go_wp2_with fail
          refine (HP.out _).mono ?_; rintro e w2 ⟨rfl, rfl⟩
          go_wp2_with fail
          go_ret
          exact ⟨ret_bool HV.out.symm, HB.out⟩
        · have t3 : decide (n > 2) = false := by simp; omega
          have HV : Hid (rightB (3, n, 0, 1) = false) := by unfold Hid rightB; simp only [HZ.out]; simp [h3]
          clear HZ HD h3
          go_enter Try.func9, Try.ntmps9
          go_wp2_with fail
          rw [HW0.out]
          refine (HS.out _).mono ?_; rintro e w1 ⟨rfl, rfl⟩
          go_wp2_with fail
          go_ret
          exact ⟨ret_bool HV.out.symm, HB.out⟩
      · have t2 : (m == 0) = false := bno hm0
        have HV : Hid (rightB (3, n, m, 1) = false) := by unfold Hid rightB; simp only [HZ.out]; simp [hm0]
        clear HZ HD hm0
        go_enter Try.func9, Try.ntmps9
        go_wp2_with fail
        rw [HW0.out]
        refine (HS.out _).mono ?_; rintro e w1 ⟨rfl, rfl⟩
        go_wp2_with fail
        go_ret
        exact ⟨ret_bool HV.out.symm, HB.out⟩
    · by_cases h2 : 2 ≤ n
      · have t4 : decide (n ≥ 2) = true := by simp; omega
        by_cases h5 : 2 * n - 1 ≤ m
        · have t5 : decide (m ≥ 2 * n - 1) = true := by simp; omega
          by_cases hml : m ≤ 16777216
          · have t6 : decide (m ≤ 16777216) = true := by simp; omega
            obtain ⟨P, hP⟩ : ∃ P, isP2 m = P := ⟨_, rfl⟩
            have HP : Hid (∀ W, Calls Try.prog 37 #[.int .i64 m] W fun e w' => e = .returned (.bool P) ∧ W = w') := fun W => by rw [← hP]; exact refPower m W ⟨hm.1, by omega⟩
            have HV : Hid (rightB (4, n, m, 1) = P) := by unfold Hid rightB hasP2; simp only [HZ.out]; simp [h2, h5, hml, hP]
            clear HZ HD hP
            go_enter Try.func9, Try.ntmps9
            go_wp2_with fail
            rw [HW0.out]
            refine (HS.out _).mono ?_; rintro e w1 ⟨rfl, rfl⟩
            go_wp2_with fail
            refine (HP.out _).mono ?_; rintro e w2 ⟨rfl, rfl⟩
            go_wp2_with fail
            go_ret
            exact ⟨ret_bool HV.out.symm, HB.out⟩
          · have t6 : decide (m ≤ 16777216) = false := by simp; omega
            have HV : Hid (rightB (4, n, m, 1) = false) := by unfold Hid rightB hasP2; simp only [HZ.out]; simp [h2, h5, hml]
            clear HZ HD hml
            go_enter Try.func9, Try.ntmps9
            go_wp2_with fail
            rw [HW0.out]
            refine (HS.out _).mono ?_; rintro e w1 ⟨rfl, rfl⟩
            go_wp2_with fail
            go_ret
            exact ⟨ret_bool HV.out.symm, HB.out⟩
        · have t5 : decide (m ≥ 2 * n - 1) = false := by simp; omega
          have HV : Hid (rightB (4, n, m, 1) = false) := by unfold Hid rightB; simp only [HZ.out]; simp [h5]
          clear HZ HD h5
          go_enter Try.func9, Try.ntmps9
          go_wp2_with fail
          rw [HW0.out]
          refine (HS.out _).mono ?_; rintro e w1 ⟨rfl, rfl⟩
          go_wp2_with fail
          go_ret
          exact ⟨ret_bool HV.out.symm, HB.out⟩
      · have t4 : decide (n ≥ 2) = false := by simp; omega
        have HV : Hid (rightB (4, n, m, 1) = false) := by unfold Hid rightB; simp only [HZ.out]; simp [h2]
        clear HZ HD h2
        go_enter Try.func9, Try.ntmps9
        go_wp2_with fail
        rw [HW0.out]
        refine (HS.out _).mono ?_; rintro e w1 ⟨rfl, rfl⟩
        go_wp2_with fail
        go_ret
        exact ⟨ret_bool HV.out.symm, HB.out⟩
    · have u1 := bno k1
      have u2 := bno k2
      have u3 := bno k3
      have u4 := bno k4
      have HV : Hid (rightB (k, n, m, 1) = false) := by unfold Hid rightB; simp only [HZ.out]; simp [k1, k2, k3, k4]
      clear HZ HD k1 k2 k3 k4
      go_enter Try.func9, Try.ntmps9
      go_wp2_with fail
      rw [HW0.out]
      refine (HS.out _).mono ?_; rintro e w1 ⟨rfl, rfl⟩
      go_wp2_with fail
      go_ret
      exact ⟨ret_bool HV.out.symm, HB.out⟩
end Go.Proofs.Ytcckfeikaolfgaa

namespace Go.Proofs.Ytcckfeikaolfgaa
open Go.RowKit
set_option linter.unusedVariables false
set_option linter.unusedSimpArgs false
set_option maxRecDepth 100000
set_option maxRecDepth 20000
theorem right_bd {x : Nm} (h : rightB x = true) : 1 ≤ x.2.1 ∧ x.2.1 ≤ 16777216 := by
  unfold rightB at h
  simp only [Bool.and_eq_true] at h
  exact hasSz_bd h.1.1
theorem roomN_no {x : Nm} (h : rightB x = false) : roomN x = 0 := if_pos h
theorem roomN_yes {x : Nm} (h : rightB x = true) : roomN x = if x.1 = 3 then x.2.1 - 1 else if x.1 = 4 then x.2.2.1 else x.2.1 := if_neg (by rw [h]; simp)
set_option maxHeartbeats 2000000 in
theorem need_Room (k n m d : Int) (w : World) (hx : NmOk (k, n, m, d)) :
    Calls Try.prog 55 #[.agg #[.int .i64 k, .int .i64 n, .int .i64 m, .int .i64 d]] w fun e w' => e = .returned (.int .i64 (roomN (k, n, m, d))) ∧ Below w.heap.size w w' := by
  have CR : Hid (∀ W, Below w.heap.size w W → Calls Try.prog 38 #[.agg #[.int .i64 k, .int .i64 n, .int .i64 m, .int .i64 d]] W fun e w' => e = .returned (.bool (rightB (k, n, m, d))) ∧ Below W.heap.size W w') := fun W _ => need_Right k n m d W hx
  have hbd : rightB (k, n, m, d) = true → 1 ≤ n ∧ n ≤ 16777216 := right_bd
  have hno : rightB (k, n, m, d) = false → roomN (k, n, m, d) = 0 := roomN_no
  have hyes : rightB (k, n, m, d) = true → roomN (k, n, m, d) = if k = 3 then n - 1 else if k = 4 then m else n := roomN_yes
  obtain ⟨W0, hW0, hb0, x0⟩ := box_any w #[.int .i64 k, .int .i64 n, .int .i64 m, .int .i64 d] 23
  have HW0 := Lib.hid hW0
  have HB := Lib.hid hb0
  have XD := Lib.hid x0
  have D0 : W0.cell? ⟨w.heap.size, 0, none⟩ = some (.int .i64 k) := block_cell XD.out 0
  have D1 : W0.cell? ⟨w.heap.size, 1, none⟩ = some (.int .i64 n) := block_cell XD.out 1
  have D2 : W0.cell? ⟨w.heap.size, 2, none⟩ = some (.int .i64 m) := block_cell XD.out 2
  have D3 : W0.cell? ⟨w.heap.size, 3, none⟩ = some (.int .i64 d) := block_cell XD.out 3
  clear hW0 hb0 x0
  obtain ⟨R, hR⟩ : ∃ R, rightB (k, n, m, d) = R := ⟨_, rfl⟩
  rw [hR] at CR hbd hno hyes
  clear hR hx
  cases R with
  | false =>
    rw [hno rfl]
    clear hbd hno hyes
    go_enter Try.func55, Try.ntmps55
    go_wp2_with fail
    rw [HW0.out]
    refine (CR.out _ HB.out).mono ?_; rintro e w1 ⟨rfl, hb1⟩
    clear D0 D1 D2 D3
    have XD := Lib.hid ((hb1.block _ (block_lt XD.out)).trans XD.out)
    have HB := Lib.hid (chain HB.out hb1)
    clear hb1
    have D0 : w1.cell? ⟨w.heap.size, 0, none⟩ = some (.int .i64 k) := block_cell XD.out 0
    have D1 : w1.cell? ⟨w.heap.size, 1, none⟩ = some (.int .i64 n) := block_cell XD.out 1
    have D2 : w1.cell? ⟨w.heap.size, 2, none⟩ = some (.int .i64 m) := block_cell XD.out 2
    have D3 : w1.cell? ⟨w.heap.size, 3, none⟩ = some (.int .i64 d) := block_cell XD.out 3
    go_wp2_with fail
    go_ret
    exact ⟨rfl, HB.out⟩
  | true =>
    have hb := hbd rfl
    rw [hyes rfl]
    clear hbd hno hyes
    by_cases h3 : k = 3
    · subst h3
      rw [if_pos rfl]
      go_enter Try.func55, Try.ntmps55
      go_wp2_with fail
      rw [HW0.out]
      refine (CR.out _ HB.out).mono ?_; rintro e w1 ⟨rfl, hb1⟩
      clear D0 D1 D2 D3
      have XD := Lib.hid ((hb1.block _ (block_lt XD.out)).trans XD.out)
      have HB := Lib.hid (chain HB.out hb1)
      clear hb1
      have D0 : w1.cell? ⟨w.heap.size, 0, none⟩ = some (.int .i64 3) := block_cell XD.out 0
      have D1 : w1.cell? ⟨w.heap.size, 1, none⟩ = some (.int .i64 n) := block_cell XD.out 1
      have D2 : w1.cell? ⟨w.heap.size, 2, none⟩ = some (.int .i64 m) := block_cell XD.out 2
      have D3 : w1.cell? ⟨w.heap.size, 3, none⟩ = some (.int .i64 d) := block_cell XD.out 3
      go_wp2_with fail
      go_ret
      exact ⟨rfl, HB.out⟩
    · rw [if_neg h3]
      have t3 : (k == 3) = false := bno h3
      by_cases h4 : k = 4
      · subst h4
        rw [if_pos rfl]
        clear h3
        go_enter Try.func55, Try.ntmps55
        go_wp2_with fail
        rw [HW0.out]
        refine (CR.out _ HB.out).mono ?_; rintro e w1 ⟨rfl, hb1⟩
        clear D0 D1 D2 D3
        have XD := Lib.hid ((hb1.block _ (block_lt XD.out)).trans XD.out)
        have HB := Lib.hid (chain HB.out hb1)
        clear hb1
        have D0 : w1.cell? ⟨w.heap.size, 0, none⟩ = some (.int .i64 4) := block_cell XD.out 0
        have D1 : w1.cell? ⟨w.heap.size, 1, none⟩ = some (.int .i64 n) := block_cell XD.out 1
        have D2 : w1.cell? ⟨w.heap.size, 2, none⟩ = some (.int .i64 m) := block_cell XD.out 2
        have D3 : w1.cell? ⟨w.heap.size, 3, none⟩ = some (.int .i64 d) := block_cell XD.out 3
        go_wp2_with fail
        go_ret
        exact ⟨rfl, HB.out⟩
      · rw [if_neg h4]
        have t4 : (k == 4) = false := bno h4
        clear h3 h4
        go_enter Try.func55, Try.ntmps55
        go_wp2_with fail
        rw [HW0.out]
        refine (CR.out _ HB.out).mono ?_; rintro e w1 ⟨rfl, hb1⟩
        clear D0 D1 D2 D3
        have XD := Lib.hid ((hb1.block _ (block_lt XD.out)).trans XD.out)
        have HB := Lib.hid (chain HB.out hb1)
        clear hb1
        have D0 : w1.cell? ⟨w.heap.size, 0, none⟩ = some (.int .i64 k) := block_cell XD.out 0
        have D1 : w1.cell? ⟨w.heap.size, 1, none⟩ = some (.int .i64 n) := block_cell XD.out 1
        have D2 : w1.cell? ⟨w.heap.size, 2, none⟩ = some (.int .i64 m) := block_cell XD.out 2
        have D3 : w1.cell? ⟨w.heap.size, 3, none⟩ = some (.int .i64 d) := block_cell XD.out 3
        go_wp2_with fail
        go_ret
        exact ⟨rfl, HB.out⟩
set_option maxHeartbeats 2000000 in
theorem ref15_Room (k n m d : Int) (w : World) (hx : NmOk (k, n, m, d)) :
    Calls Try.prog 18 #[.agg #[.int .i64 k, .int .i64 n, .int .i64 m, .int .i64 d]] w fun e w' => e = .returned (.int .i64 (roomN (k, n, m, d))) ∧ Below w.heap.size w w' := by
  have CR : Hid (∀ W, Below w.heap.size w W → Calls Try.prog 9 #[.agg #[.int .i64 k, .int .i64 n, .int .i64 m, .int .i64 d]] W fun e w' => e = .returned (.bool (rightB (k, n, m, d))) ∧ Below W.heap.size W w') := fun W _ => ref15_Right k n m d W hx
  have hbd : rightB (k, n, m, d) = true → 1 ≤ n ∧ n ≤ 16777216 := right_bd
  have hno : rightB (k, n, m, d) = false → roomN (k, n, m, d) = 0 := roomN_no
  have hyes : rightB (k, n, m, d) = true → roomN (k, n, m, d) = if k = 3 then n - 1 else if k = 4 then m else n := roomN_yes
  obtain ⟨W0, hW0, hb0, x0⟩ := box_any w #[.int .i64 k, .int .i64 n, .int .i64 m, .int .i64 d] 23
  have HW0 := Lib.hid hW0
  have HB := Lib.hid hb0
  have XD := Lib.hid x0
  have D0 : W0.cell? ⟨w.heap.size, 0, none⟩ = some (.int .i64 k) := block_cell XD.out 0
  have D1 : W0.cell? ⟨w.heap.size, 1, none⟩ = some (.int .i64 n) := block_cell XD.out 1
  have D2 : W0.cell? ⟨w.heap.size, 2, none⟩ = some (.int .i64 m) := block_cell XD.out 2
  have D3 : W0.cell? ⟨w.heap.size, 3, none⟩ = some (.int .i64 d) := block_cell XD.out 3
  clear hW0 hb0 x0
  obtain ⟨R, hR⟩ : ∃ R, rightB (k, n, m, d) = R := ⟨_, rfl⟩
  rw [hR] at CR hbd hno hyes
  clear hR hx
  cases R with
  | false =>
    rw [hno rfl]
    clear hbd hno hyes
    go_enter Try.func18, Try.ntmps18
    go_wp2_with fail
    rw [HW0.out]
    refine (CR.out _ HB.out).mono ?_; rintro e w1 ⟨rfl, hb1⟩
    clear D0 D1 D2 D3
    have XD := Lib.hid ((hb1.block _ (block_lt XD.out)).trans XD.out)
    have HB := Lib.hid (chain HB.out hb1)
    clear hb1
    have D0 : w1.cell? ⟨w.heap.size, 0, none⟩ = some (.int .i64 k) := block_cell XD.out 0
    have D1 : w1.cell? ⟨w.heap.size, 1, none⟩ = some (.int .i64 n) := block_cell XD.out 1
    have D2 : w1.cell? ⟨w.heap.size, 2, none⟩ = some (.int .i64 m) := block_cell XD.out 2
    have D3 : w1.cell? ⟨w.heap.size, 3, none⟩ = some (.int .i64 d) := block_cell XD.out 3
    go_wp2_with fail
    go_ret
    exact ⟨rfl, HB.out⟩
  | true =>
    have hb := hbd rfl
    rw [hyes rfl]
    clear hbd hno hyes
    by_cases h3 : k = 3
    · subst h3
      rw [if_pos rfl]
      go_enter Try.func18, Try.ntmps18
      go_wp2_with fail
      rw [HW0.out]
      refine (CR.out _ HB.out).mono ?_; rintro e w1 ⟨rfl, hb1⟩
      clear D0 D1 D2 D3
      have XD := Lib.hid ((hb1.block _ (block_lt XD.out)).trans XD.out)
      have HB := Lib.hid (chain HB.out hb1)
      clear hb1
      have D0 : w1.cell? ⟨w.heap.size, 0, none⟩ = some (.int .i64 3) := block_cell XD.out 0
      have D1 : w1.cell? ⟨w.heap.size, 1, none⟩ = some (.int .i64 n) := block_cell XD.out 1
      have D2 : w1.cell? ⟨w.heap.size, 2, none⟩ = some (.int .i64 m) := block_cell XD.out 2
      have D3 : w1.cell? ⟨w.heap.size, 3, none⟩ = some (.int .i64 d) := block_cell XD.out 3
      go_wp2_with fail
      go_ret
      exact ⟨rfl, HB.out⟩
    · rw [if_neg h3]
      have t3 : (k == 3) = false := bno h3
      by_cases h4 : k = 4
      · subst h4
        rw [if_pos rfl]
        clear h3
        go_enter Try.func18, Try.ntmps18
        go_wp2_with fail
        rw [HW0.out]
        refine (CR.out _ HB.out).mono ?_; rintro e w1 ⟨rfl, hb1⟩
        clear D0 D1 D2 D3
        have XD := Lib.hid ((hb1.block _ (block_lt XD.out)).trans XD.out)
        have HB := Lib.hid (chain HB.out hb1)
        clear hb1
        have D0 : w1.cell? ⟨w.heap.size, 0, none⟩ = some (.int .i64 4) := block_cell XD.out 0
        have D1 : w1.cell? ⟨w.heap.size, 1, none⟩ = some (.int .i64 n) := block_cell XD.out 1
        have D2 : w1.cell? ⟨w.heap.size, 2, none⟩ = some (.int .i64 m) := block_cell XD.out 2
        have D3 : w1.cell? ⟨w.heap.size, 3, none⟩ = some (.int .i64 d) := block_cell XD.out 3
        go_wp2_with fail
        go_ret
        exact ⟨rfl, HB.out⟩
      · rw [if_neg h4]
        have t4 : (k == 4) = false := bno h4
        clear h3 h4
        go_enter Try.func18, Try.ntmps18
        go_wp2_with fail
        rw [HW0.out]
        refine (CR.out _ HB.out).mono ?_; rintro e w1 ⟨rfl, hb1⟩
        clear D0 D1 D2 D3
        have XD := Lib.hid ((hb1.block _ (block_lt XD.out)).trans XD.out)
        have HB := Lib.hid (chain HB.out hb1)
        clear hb1
        have D0 : w1.cell? ⟨w.heap.size, 0, none⟩ = some (.int .i64 k) := block_cell XD.out 0
        have D1 : w1.cell? ⟨w.heap.size, 1, none⟩ = some (.int .i64 n) := block_cell XD.out 1
        have D2 : w1.cell? ⟨w.heap.size, 2, none⟩ = some (.int .i64 m) := block_cell XD.out 2
        have D3 : w1.cell? ⟨w.heap.size, 3, none⟩ = some (.int .i64 d) := block_cell XD.out 3
        go_wp2_with fail
        go_ret
        exact ⟨rfl, HB.out⟩
end Go.Proofs.Ytcckfeikaolfgaa

namespace Go.Proofs.Ytcckfeikaolfgaa
open Go.RowKit
set_option linter.unusedVariables false
set_option linter.unusedSimpArgs false
set_option maxRecDepth 100000
theorem dirRt_zero (n : Nat) : dirRt n 0 = rt n := by unfold dirRt; rw [if_neg (by omega)]
theorem dirRt_one (n : Nat) : dirRt n 1 = bk n := by unfold dirRt; rw [if_pos rfl]
set_option maxHeartbeats 1000000 in
theorem tab_way (k : Int) (n : Nat) (m d : Int) (w : World) (h : hasSz n = true) (hd : d = 0 ∨ d = 1) :
    Calls Try.prog 70 #[.agg #[.int .i64 k, .int .i64 n, .int .i64 m, .int .i64 d]] w fun e w' => e = .returned (.int .u64 (dirRt n d)) ∧ Below w.heap.size w w' := by
  have HS := Lib.hid h
  clear h
  obtain ⟨W0, hW0, hb0, x0⟩ := box_any w #[.int .i64 k, .int .i64 n, .int .i64 m, .int .i64 d] 71
  have HW0 := Lib.hid hW0
  have HB := Lib.hid hb0
  have D1 : W0.cell? ⟨w.heap.size, 1, none⟩ = some (.int .i64 n) := block_cell x0 1
  have D3 : W0.cell? ⟨w.heap.size, 3, none⟩ = some (.int .i64 d) := block_cell x0 3
  clear hW0 hb0 x0
  rcases hd with rfl | rfl
  · go_enter Try.func70, Try.ntmps70
    go_wp2_with fail
    rw [HW0.out]
    refine (rootRoot_yes n _ HS.out).mono ?_; rintro e w' ⟨rfl, rfl⟩
    go_wp2_with fail
    go_ret
    exact ⟨by simp [dirRt_zero], HB.out⟩
  · go_enter Try.func70, Try.ntmps70
    go_wp2_with fail
    rw [HW0.out]
    refine (rootRoot_yes n _ HS.out).mono ?_; rintro e w' ⟨rfl, rfl⟩
    go_wp2_with fail
    refine (rootBack_yes n _ HS.out).mono ?_; rintro e w' ⟨rfl, rfl⟩
    go_wp2_with fail
    go_ret
    exact ⟨by simp [dirRt_one], HB.out⟩
set_option maxHeartbeats 1000000 in
theorem tab_powers (k : Int) (n : Nat) (m d : Int) (w : World) (h : hasSz n = true) (hd : d = 0 ∨ d = 1) :
    Calls Try.prog 39 #[.agg #[.int .i64 k, .int .i64 n, .int .i64 m, .int .i64 d]] w (GivesRow .u64 (powL (dirRt n d) n) w) := by
  have hn2 : n ≤ 16777216 := by have := (hasSz_iff.1 h).2.1; omega
  have hz := dirRt_range n d
  have C0 : Hid (∀ W, Calls Try.prog 70 #[.agg #[.int .i64 k, .int .i64 n, .int .i64 m, .int .i64 d]] W fun e w' => e = .returned (.int .u64 (dirRt n d)) ∧ Below W.heap.size W w') := fun W => tab_way k n m d W h hd
  obtain ⟨z, hz'⟩ : ∃ z, dirRt n d = z := ⟨_, rfl⟩
  rw [hz'] at C0 hz ⊢
  have C1 : Hid (∀ W, Calls Try.prog 69 #[.int .u64 z, .int .i64 n] W (GivesRowE .u64 (powL z n) 0 W)) := fun W => rootPowers z n W hz.1 (by omega) hn2
  have HL : Hid ((powL z n).length = n) := powL_len z n
  clear h hd hz hz'
  obtain ⟨W0, hW0, hb0, x0⟩ := box_any w #[.int .i64 k, .int .i64 n, .int .i64 m, .int .i64 d] 71
  have HW0 := Lib.hid hW0
  have HB := Lib.hid hb0
  have D0 : W0.cell? ⟨w.heap.size, 0, none⟩ = some (.int .i64 k) := block_cell x0 0
  have D1 : W0.cell? ⟨w.heap.size, 1, none⟩ = some (.int .i64 n) := block_cell x0 1
  have D2 : W0.cell? ⟨w.heap.size, 2, none⟩ = some (.int .i64 m) := block_cell x0 2
  have D3 : W0.cell? ⟨w.heap.size, 3, none⟩ = some (.int .i64 d) := block_cell x0 3
  have lD := block_lt x0
  clear hW0 hb0 x0
  go_enter Try.func39, Try.ntmps39
  go_wp2_with fail
  rw [HW0.out]
  have hb : Below W0.heap.size W0 W0.drew := (Below.refl _ _).drew
  go_region_held3 (fun w' => w'.cell? ⟨w.heap.size, 0, none⟩ = some (.int .i64 k) ∧ w'.cell? ⟨w.heap.size, 1, none⟩ = some (.int .i64 n) ∧ w'.cell? ⟨w.heap.size, 2, none⟩ = some (.int .i64 m) ∧ w'.cell? ⟨w.heap.size, 3, none⟩ = some (.int .i64 d))
    (first | exact ⟨D0, D1, D2, D3⟩ | exact ⟨(hb.cell (p := ⟨w.heap.size, 0, none⟩) lD).trans D0, (hb.cell (p := ⟨w.heap.size, 1, none⟩) lD).trans D1, (hb.cell (p := ⟨w.heap.size, 2, none⟩) lD).trans D2, (hb.cell (p := ⟨w.heap.size, 3, none⟩) lD).trans D3⟩)
    ((first
      | (go_at_call 70; ((with_reducible refine (C0.out _).mono ?_); rintro e z1 ⟨rfl, hc⟩; have hb := chain hb hc))
      | (go_at_call 69; ((with_reducible refine (C1.out _).mono ?_); rintro e z1 ⟨a1, cap1, rfl, hr1, hcap1, hc⟩; have hb := chain hb hc))))
  simp only [HL.out] at hcap1 ⊢
  have HBF := Lib.hid (chain HB.out hb)
  clear hb
  go_wp2_with fail
  go_ret
  exact ⟨a1, cap1, by simp [HL.out], hr1, by rw [HL.out]; exact hcap1, HBF.out⟩
set_option maxHeartbeats 1000000 in
theorem tab_chirps (k : Int) (n : Nat) (m d d' : Int) (w : World) (h : hasSz n = true) (hd : d = 0 ∨ d = 1) (hd' : d' = 1 - d) :
    Calls Try.prog 40 #[.agg #[.int .i64 k, .int .i64 n, .int .i64 m, .int .i64 d]] w (GivesRow .u64 (rowT (dirRt n d') n n) w) := by
  have hn2 : n ≤ 16777216 := by have := (hasSz_iff.1 h).2.1; omega
  have C1 : Hid (∀ W, Calls Try.prog 71 #[.int .i64 n, .int .i64 d', .int .i64 n] W (GivesOwnE .u64 34 (rowT (dirRt n d') n n) W)) := fun W => chirp_Row n n d' W h (by omega) hn2
  obtain ⟨z, hz⟩ : ∃ z, rowT (dirRt n d') n n = z := ⟨_, rfl⟩
  have HL : Hid (z.length = n) := by unfold Hid; rw [← hz]; exact rowT_len _ _ _
  have HF : Hid (∀ x ∈ z, fits .u64 x) := by unfold Hid; rw [← hz]; exact rowT_fits _ _ _
  rw [hz] at C1 ⊢
  have hdd : 1 - d = d' := hd'.symm
  clear h hz hd'
  obtain ⟨W0, hW0, hb0, x0⟩ := box_any w #[.int .i64 k, .int .i64 n, .int .i64 m, .int .i64 d] 71
  have HW0 := Lib.hid hW0
  have HB := Lib.hid hb0
  have D1 : W0.cell? ⟨w.heap.size, 1, none⟩ = some (.int .i64 n) := block_cell x0 1
  have D3 : W0.cell? ⟨w.heap.size, 3, none⟩ = some (.int .i64 d) := block_cell x0 3
  clear hW0 hb0 x0
  go_enter Try.func40, Try.ntmps40
  go_wp2_with fail
  rw [HW0.out]
  refine (C1.out _).mono ?_; rintro e w1 ⟨a1, cap1, rfl, _, hr1, hcap1, hb1⟩
  simp only [HL.out] at hcap1 ⊢
  have HBF := Lib.hid (chain HB.out hb1)
  clear D1 D3 hb1
  go_wp2_with fail
  go_ret
  exact ⟨a1, cap1, by simp [HL.out], hr1, by rw [HL.out]; exact hcap1, HBF.out⟩
def tabRaderL (n : Nat) (d : Int) : List Int := dftL (radL (dirRt n d) n) (dirRt (n - 1) 0)
set_option maxHeartbeats 2000000 in
theorem tab_raders (k : Int) (n : Nat) (m d : Int) (w : World) (h : hasSz n = true) (hd : d = 0 ∨ d = 1) (hq : IsFq n) :
    Calls Try.prog 41 #[.agg #[.int .i64 k, .int .i64 n, .int .i64 m, .int .i64 d]] w (GivesRow .u64 (tabRaderL n d) w) := by
  have hbq := fq_bd hq
  obtain ⟨lg, hlg1, hlg2, hlg⟩ := fq_log hq
  have C0 : Hid (∀ W, Calls Try.prog 39 #[.agg #[.int .i64 k, .int .i64 n, .int .i64 m, .int .i64 d]] W (GivesRow .u64 (powL (dirRt n d) n) W)) := fun W => tab_powers k n m d W h hd
  have C1 : Hid (∀ W, Calls Try.prog 72 #[.int .i64 n] W (GivesRowE .i64 (genL n) 0 W)) := fun W => gen_Powers W hq
  have C2 : Hid (∀ (a : Option Addr) (c : Nat) (xs : List Int) (W : World), Row .u64 W a xs → xs.length = n - 1 → Calls Try.prog 73 #[.slice a (n - 1 : Nat) c, .int .i64 0] W (GivesRowE .u64 (dftL xs (dirRt (n - 1) 0)) 0 W)) := fun a c xs W hx hl => do_ok a (n - 1) lg c 0 xs W hx hl (Or.inl rfl) (by omega) hlg
  have HG : Hid (∀ i, gp n i < n) := fun i => gp_lt n i (by omega)
  have HRL : Hid ((tabRaderL n d).length = n - 1) := by unfold Hid tabRaderL; rw [dftL_len, radL_len]
  have HPL : Hid ((powL (dirRt n d) n).length = n) := powL_len _ _
  have HGL : Hid ((genL n).length = n - 1) := genL_len _
  have HRD : Hid (dftL (radL (dirRt n d) n) (dirRt (n - 1) 0) = tabRaderL n d) := rfl
  obtain ⟨z, hz⟩ : ∃ z, dirRt n d = z := ⟨_, rfl⟩
  obtain ⟨q1, hq1⟩ : ∃ q1, n - 1 = q1 := ⟨_, rfl⟩
  obtain ⟨RL, hRL⟩ : ∃ L, tabRaderL n d = L := ⟨_, rfl⟩
  rw [hz, hq1] at HRD
  rw [hz] at C0 HPL
  rw [hq1] at C2 HGL HRL
  rw [hRL] at HRD HRL ⊢
  have HQ1 := Lib.hid hq1
  have hq2 : 2 ≤ q1 ∧ q1 ≤ 65536 := by omega
  clear h hd hq hlg hz hq1 hRL
  obtain ⟨i0, hi, hz0, hz1, hz2⟩ := info_parts info_u64
  obtain ⟨W0, hW0, hb0, x0⟩ := box_any w #[.int .i64 k, .int .i64 n, .int .i64 m, .int .i64 d] 71
  have HW0 := Lib.hid hW0
  have HB := Lib.hid hb0
  have X0 := Lib.hid x0
  have D0 : W0.cell? ⟨w.heap.size, 0, none⟩ = some (.int .i64 k) := block_cell x0 0
  have D1 : W0.cell? ⟨w.heap.size, 1, none⟩ = some (.int .i64 n) := block_cell x0 1
  have D2 : W0.cell? ⟨w.heap.size, 2, none⟩ = some (.int .i64 m) := block_cell x0 2
  have D3 : W0.cell? ⟨w.heap.size, 3, none⟩ = some (.int .i64 d) := block_cell x0 3
  clear hW0 hb0 x0
  go_enter Try.func41, Try.ntmps41
  go_wp2_with fail
  rw [HW0.out]
  go_wp2_with fail
  refine (C0.out _).mono ?_; rintro e w1 ⟨a1, cap1, rfl, hr1, hcap1, hb1⟩
  clear D0 D1 D2 D3
  have D1 : w1.cell? ⟨w.heap.size, 1, none⟩ = some (.int .i64 n) := (hb1.cell (p := ⟨w.heap.size, 1, none⟩) (block_lt X0.out)).trans (block_cell X0.out 1)
  simp only [HPL.out] at hcap1 ⊢
  go_wp2_with fail
  refine (C1.out _).mono ?_; rintro e w2 ⟨a2, cap2, rfl, hr2, hcap2, hb2⟩
  simp only [HGL.out] at hcap2 ⊢
  have hb12 := chain hb1 hb2
  have HR1 := Lib.hid (hr1.below hb2)
  have HR2 := Lib.hid hr2
  have HB2 := Lib.hid (chain HB.out hb12)
  clear hr1 hr2 hb1 hb2 hb12 D1 hcap1 hcap2
  go_wp2_with (at_make; refine wpList_make_full _ rfl _ _ 25 rfl w2.heap.size 34 i0 (.int .u64 0) 1 Try.underlying25 hi hz0 hz1 .i64 .i64 q1 q1 q1 rfl rfl rfl rfl (by rw [hz2]; omega) (by unfold maxLen; omega) (Nat.le_refl _) ?_)
  intro w3 hown0 hgrow0
  have hown := Own.made hown0 hgrow0
  clear hown0 hgrow0
  go_wp2_with fail
  have HRV : Hid (∀ i, i < q1 → revAt q1 (revAt q1 i) = i) := fun i hi => by
    unfold revAt
    by_cases h0 : i = 0
    · subst h0; simp
    · rw [Nat.mod_eq_of_lt (show q1 - i < q1 by omega), show q1 - (q1 - i) = i by omega, Nat.mod_eq_of_lt hi]
  go_loopw [23] (fun i wr => ∃ k : Nat, k ≤ q1 ∧ i = .int .i64 k ∧ OwnAt .u64 34 w2 wr w2.heap.size q1 (fun j => if revAt q1 j < k then pw z (gp n (revAt q1 j)) else 0)) (fun i _ => q1 - (intOf i).toNat)
  case atStart => exact ⟨0, Nat.zero_le _, rfl, own_eqz hown (fun j => if_neg (by omega))⟩
  case round =>
    obtain ⟨k, hk, rfl, hown⟩ := hrel
    by_cases hlt : k < q1
    · obtain ⟨b1, o1, rfl, hc1⟩ := (HR2.out.below hown.below).at (by rw [HGL.out]; omega)
      obtain ⟨b2, o2, rfl, hc2⟩ := (HR1.out.below hown.below).at (by rw [HPL.out]; omega)
      have h1 := hc1 k (by rw [HGL.out]; exact hlt)
      rw [nth_genL n k (by rw [HQ1.out]; exact hlt)] at h1
      have hgl := HG.out k
      obtain ⟨x, hx⟩ : ∃ x, gp n k = x := ⟨_, rfl⟩
      rw [hx] at h1 hgl
      have h2 := hc2 x (by rw [HPL.out]; exact hgl)
      rw [show nth (powL z n) x = pw z x from nth_ofFn _ _ _ hgl] at h2
      have hrl := revAt_lt hlt
      have e1 := revAt_int hlt
      obtain ⟨r, hr⟩ : ∃ r, revAt q1 k = r := ⟨_, rfl⟩
      have hrr : revAt q1 r = k := by rw [← hr]; exact HRV.out k hlt
      rw [hr] at hrl e1
      have e2 : ((q1 : Int) - (k : Int)) % (q1 : Int) = (r : Int) := by rw [← e1, Int.tmod_eq_emod_of_nonneg (by omega)]
      have z1 : ((q1 : Int) == 0) = false := bno (by omega)
      have z2 : ¬ (q1 : Int) = 0 := by omega
      have z3 : ¬ q1 = 0 := by omega
      have e0 : IntKind.i64.wrap ((q1 : Int) - (k : Int)) = (q1 : Int) - (k : Int) := IntWalk.i64_in _ (by omega)
      have hcell := hown.cell r hrl
      have hfz := hown.free r
      have hpr := pw_range z x
      have hnext := hown.store r hrl (pw z x) (f' := fun j => if revAt q1 j < k + 1 then pw z (gp n (revAt q1 j)) else 0) (by show (if revAt q1 r < k + 1 then _ else _) = _; rw [hrr, if_pos (by omega), hx]) (fun j hj hjr => by
        show (if revAt q1 j < k + 1 then _ else _) = (if revAt q1 j < k then _ else _)
        have hne : revAt q1 j ≠ k := fun e => hjr (by rw [← HRV.out j hj, e, hr])
        by_cases h : revAt q1 j < k
        · rw [if_pos h, if_pos (by omega)]
        · rw [if_neg h, if_neg (by omega)])
      have HNX := Lib.hid hnext
      obtain ⟨v, hv⟩ : ∃ v : Int, (if revAt q1 r < k then pw z (gp n (revAt q1 r)) else 0) = v := ⟨_, rfl⟩
      rw [hv] at hcell
      have g1 : (0 : Int) ≤ (r : Int) := by omega
      have g2 : (r : Int) < (q1 : Int) := by omega
      have g3 : (0 : Int) ≤ (x : Int) := by omega
      have g4 : (x : Int) < (n : Int) := by omega
      obtain ⟨y, hy⟩ : ∃ y, pw z x = y := ⟨_, rfl⟩
      rw [hy] at h2 hpr HNX
      clear hc1 hc2 hx hr hrr hnext hv hown hy
      go_wp2_with fail
      go_still_tail 13, (by kernel_rfl)
      go_wp2_with fail
      go_roundw
      case rel => exact ⟨k + 1, by omega, by go_num, HNX.out.later (Below.refl _ _).drew⟩
      case measure => simp [intOf]; omega
    · have hkn : k = q1 := by omega
      have hrow := hown.row (xs := radL z n) (by rw [radL_len]; exact HQ1.out) (radL_fits z n) (fun i hi => by
        rw [nth_radL z n i (by rw [HQ1.out]; exact hi), if_pos (by have := revAt_lt hi; omega)]
        unfold radAt revAt; rw [HQ1.out]) (by omega)
      have HB3 := Lib.hid (chain HB2.out hown.below)
      have HR := Lib.hid hrow
      have HLR : Hid ((radL z n).length = q1) := (radL_len z n).trans HQ1.out
      clear hown hrow
      go_wp2_with fail
      refine (C2.out _ _ _ _ HR.out HLR.out).mono ?_; rintro e w4 ⟨a4, cap4, rfl, hr4, hcap4, hb4⟩
      rw [HRD.out] at hr4 hcap4 ⊢
      have HB4 := Lib.hid (chain HB3.out hb4)
      have HR4 := Lib.hid hr4
      have HC4 := Lib.hid hcap4
      clear hr4 hcap4 hb4
      go_wp2_with fail
      go_ret
      exact ⟨a4, cap4, rfl, HR4.out, HC4.out, HB4.out⟩
def tabBlueL (n m : Nat) (d : Int) : List Int := dftL (zeroL (rowT (dirRt n d) n (2 * n - 1)) m) (dirRt m 0)
set_option maxHeartbeats 1000000 in
theorem tab_blues (k : Int) (n m lg : Nat) (d : Int) (w : World) (h : hasSz n = true) (hd : d = 0 ∨ d = 1) (hlg : lg ≤ 24) (hm : m = 2 ^ lg) (hl : 2 * n - 1 ≤ m) :
    Calls Try.prog 42 #[.agg #[.int .i64 k, .int .i64 n, .int .i64 m, .int .i64 d]] w (GivesRow .u64 (tabBlueL n m d) w) := by
  have hms : hasSz m = true := by rw [hm]; exact hasSz_pow lg hlg
  have C0 : Hid (∀ W, Calls Try.prog 74 #[.int .i64 n, .int .i64 m, .int .i64 d] W (GivesRowE .u64 (zeroL (rowT (dirRt n d) n (2 * n - 1)) m) 0 W)) := fun W => kernel_ok n m d W h hd hms hl
  have C1 : Hid (∀ (a : Option Addr) (c : Nat) (xs : List Int) (W : World), Row .u64 W a xs → xs.length = m → Calls Try.prog 73 #[.slice a m c, .int .i64 0] W (GivesRowE .u64 (dftL xs (dirRt m 0)) 0 W)) := fun a c xs W hx hl => do_ok a m lg c 0 xs W hx hl (Or.inl rfl) (by omega) hm
  have HD : Hid (dftL (zeroL (rowT (dirRt n d) n (2 * n - 1)) m) (dirRt m 0) = tabBlueL n m d) := rfl
  have HZ : Hid ((zeroL (rowT (dirRt n d) n (2 * n - 1)) m).length = m) := zeroL_len _ _ (by rw [rowT_len]; exact hl)
  have HL : Hid ((tabBlueL n m d).length = m) := by unfold Hid; rw [← HD.out, dftL_len]; exact HZ.out
  obtain ⟨K, hK⟩ : ∃ K, zeroL (rowT (dirRt n d) n (2 * n - 1)) m = K := ⟨_, rfl⟩
  rw [hK] at C0 HD HZ
  clear h hd hm hms hK
  obtain ⟨W0, hW0, hb0, x0⟩ := box_any w #[.int .i64 k, .int .i64 n, .int .i64 m, .int .i64 d] 71
  have HW0 := Lib.hid hW0
  have HB := Lib.hid hb0
  have D1 : W0.cell? ⟨w.heap.size, 1, none⟩ = some (.int .i64 n) := block_cell x0 1
  have D2 : W0.cell? ⟨w.heap.size, 2, none⟩ = some (.int .i64 m) := block_cell x0 2
  have D3 : W0.cell? ⟨w.heap.size, 3, none⟩ = some (.int .i64 d) := block_cell x0 3
  clear hW0 hb0 x0
  go_enter Try.func42, Try.ntmps42
  go_wp2_with fail
  rw [HW0.out]
  refine (C0.out _).mono ?_; rintro e w1 ⟨a1, cap1, rfl, hr1, hcap1, hb1⟩
  rw [HZ.out]
  clear D1 D2 D3
  go_wp2_with fail
  refine (C1.out _ _ _ _ hr1 HZ.out).mono ?_; rintro e w4 ⟨a4, cap4, rfl, hr4, hcap4, hb4⟩
  rw [HD.out] at hr4 hcap4 ⊢
  have HB4 := Lib.hid (chain (chain HB.out hb1) hb4)
  have HR4 := Lib.hid hr4
  have HC4 := Lib.hid hcap4
  clear hr4 hcap4 hb4
  go_wp2_with fail
  go_ret
  exact ⟨a4, cap4, rfl, HR4.out, HC4.out, HB4.out⟩
end Go.Proofs.Ytcckfeikaolfgaa

namespace Go.Proofs.Ytcckfeikaolfgaa
open Go.RowKit Sm
set_option linter.unusedVariables false
set_option linter.unusedSimpArgs false
set_option maxRecDepth 100000
theorem rt_two : rt 2 = 18446744069414584320 := by
  have hs : hasSz ((2 : Nat) : Int) = true := by decide
  have hr := isRoot_rt 2 hs
  have h1 : Eqm ((rt 2 - 1) * (rt 2 + 1)) 0 := by
    have h2 := hr.one.sub (rfl' 1)
    have e : rt 2 ^ 2 - 1 = (rt 2 - 1) * (rt 2 + 1) := by
      rw [Int.sub_mul, Int.mul_add, Int.one_mul, Int.mul_one, Int.pow_succ, Int.pow_succ, Int.pow_zero, Int.one_mul]; omega
    rw [e, Int.sub_self] at h2
    exact h2
  have h3 : ¬ Eqm (rt 2 - 1) 0 := by
    intro h
    have h4 := h.add (rfl' 1)
    rw [Int.sub_add_cancel, Int.zero_add] at h4
    exact hr.least 1 (by omega) (by omega) (by rw [Int.pow_succ, Int.pow_zero, Int.one_mul]; exact h4)
  have h5 := strike' _ _ h3 h1
  have b := rt_range 2
  generalize rt 2 = r at *
  unfold Eqm at h5
  omega
end Go.Proofs.Ytcckfeikaolfgaa

namespace Go.Proofs.Ytcckfeikaolfgaa
open Go.RowKit
set_option linter.unusedVariables false
set_option linter.unusedSimpArgs false
set_option maxRecDepth 100000
def tblL (k : Int) (n m : Nat) (d : Int) : List Int :=
  if k = 1 then powL (dirRt n d) n else if k = 2 then rowT (dirRt n (1 - d)) n n else if k = 3 then tabRaderL n d else tabBlueL n m d
theorem tab1 (n m : Nat) (d : Int) : tblL 1 n m d = powL (dirRt n d) n := rfl
theorem tab2 (n m : Nat) (d : Int) : tblL 2 n m d = rowT (dirRt n (1 - d)) n n := rfl
theorem tab3 (n m : Nat) (d : Int) : tblL 3 n m d = tabRaderL n d := rfl
theorem tab4 (n m : Nat) (d : Int) : tblL 4 n m d = tabBlueL n m d := rfl
/-- Reduced. -/
def RedL (xs : List Int) : Prop := ∀ x ∈ xs, 0 ≤ x ∧ x < 18446744069414584321
theorem red_id {xs : List Int} (h : RedL xs) : xs.map (· % 18446744069414584321) = xs := by
  have : ∀ x ∈ xs, (x % 18446744069414584321) = id x := fun x hx => by have := h x hx; exact Int.emod_eq_of_lt this.1 this.2
  rw [List.map_congr_left this, List.map_id]
theorem red_pow (z : Int) (n : Nat) : RedL (powL z n) := by
  intro x hx; obtain ⟨i, _, rfl⟩ := List.mem_map.1 hx; exact pw_range z i
theorem red_rowT (z : Int) (n m : Nat) : RedL (rowT z n m) := by
  intro x hx; obtain ⟨i, _, rfl⟩ := List.mem_map.1 hx; exact pw_range z _
theorem red_dft (xs : List Int) (z : Int) : RedL (dftL xs z) := by
  intro x hx; obtain ⟨i, _, rfl⟩ := List.mem_map.1 hx; exact pt_range xs _
theorem red_tab (k : Int) (n m : Nat) (d : Int) : RedL (tblL k n m d) := by
  unfold tblL
  split
  · exact red_pow _ _
  · split
    · exact red_rowT _ _ _
    · split
      · exact red_dft _ _
      · exact red_dft _ _
theorem red_fits {xs : List Int} (h : RedL xs) : ∀ x ∈ xs, fits .u64 x := fun x hx => by have := h x hx; exact fits_u64.2 (by omega)
/-- What a right name is. -/
theorem right_cases {k n m d : Int} (h : rightB (k, n, m, d) = true) : ∃ N : Nat, n = N ∧ hasSz (N : Int) = true ∧ (d = 0 ∨ d = 1) ∧
    ((k = 1 ∧ m = 0) ∨ (k = 2 ∧ m = 0) ∨ (k = 3 ∧ m = 0 ∧ IsFq N) ∨ (k = 4 ∧ ∃ M lg : Nat, m = M ∧ 2 ≤ N ∧ lg ≤ 24 ∧ M = 2 ^ lg ∧ 2 * N - 1 ≤ M)) := by
  simp only [rightB, Bool.and_eq_true, decide_eq_true_eq] at h
  obtain ⟨⟨h1, h2⟩, h3⟩ := h
  have hb := hasSz_iff.1 h1
  obtain ⟨N, rfl⟩ := Int.eq_ofNat_of_zero_le (show 0 ≤ n by omega)
  refine ⟨N, rfl, h1, h2, ?_⟩
  by_cases k1 : k = 1 ∨ k = 2
  · rw [if_pos k1] at h3
    have := of_decide_eq_true h3
    rcases k1 with k1 | k1
    · exact Or.inl ⟨k1, this⟩
    · exact Or.inr (Or.inl ⟨k1, this⟩)
  · rw [if_neg k1] at h3
    by_cases k3 : k = 3
    · rw [if_pos k3] at h3
      simp only [Bool.and_eq_true, decide_eq_true_eq] at h3
      exact Or.inr (Or.inr (Or.inl ⟨k3, h3.1.1, fq_of h1 h3.2 (by omega)⟩))
    · rw [if_neg k3] at h3
      by_cases k4 : k = 4
      · rw [if_pos k4] at h3
        simp only [Bool.and_eq_true, decide_eq_true_eq] at h3
        obtain ⟨lg, hlg, he⟩ := (hasP2_iff _).1 h3.2
        exact Or.inr (Or.inr (Or.inr ⟨k4, 2 ^ lg, lg, he, by omega, hlg, rfl, by omega⟩))
      · rw [if_neg k4] at h3; cases h3
theorem room_right {k n m d : Int} (h : rightB (k, n, m, d) = true) (N M : Nat) (hn : n = N) (hm : m = M) : roomN (k, n, m, d) = ((tblL k N M d).length : Nat) ∧ (tblL k N M d).length ≤ 16777216 := by
  obtain ⟨N', hN, hs, hd, hc⟩ := right_cases h
  have hb := hasSz_iff.1 hs
  have : N' = N := by omega
  subst this
  unfold roomN
  rw [if_neg (by rw [h]; simp)]
  simp only
  rcases hc with ⟨rfl, _⟩ | ⟨rfl, _⟩ | ⟨rfl, _, hq⟩ | ⟨rfl, M', lg, hM, h2, hlg, he, hle⟩
  · rw [if_neg (by omega), if_neg (by omega), tab1, powL_len]; exact ⟨hN, by omega⟩
  · rw [if_neg (by omega), if_neg (by omega), tab2, rowT_len]; exact ⟨hN, by omega⟩
  · have := fq_bd hq
    rw [if_pos rfl, tab3, tabRaderL, dftL_len, radL_len]; omega
  · have hMM : M' = M := by omega
    subst hMM
    have := (hasSz_iff.1 (hasSz_pow lg hlg)).2.1
    rw [← he] at this
    rw [if_neg (by omega), if_pos rfl, tab4, tabBlueL, dftL_len, zeroL_len _ _ (by rw [rowT_len]; exact hle)]
    omega
set_option maxHeartbeats 1000000 in
theorem table_made (k n m d : Int) (xs : List Int) (L : Nat) (w : World) (hx : NmOk (k, n, m, d)) (h : rightB (k, n, m, d) = true) (hl : xs.length = L) (hl2 : L ≤ 16777216) (hr : RedL xs)
    (hc : ∀ W, Calls Try.prog (if k = 2 then 40 else if k = 3 then 41 else if k = 4 then 42 else 39) #[.agg #[.int .i64 k, .int .i64 n, .int .i64 m, .int .i64 d]] W (GivesRow .u64 xs W)) (hk : k = 1 ∨ k = 2 ∨ k = 3 ∨ k = 4) :
    Calls Try.prog 10 #[.agg #[.int .i64 k, .int .i64 n, .int .i64 m, .int .i64 d]] w (GivesRowE .u64 xs 0 w) := by
  have C0 : Hid (∀ W, Calls Try.prog 38 #[.agg #[.int .i64 k, .int .i64 n, .int .i64 m, .int .i64 d]] W fun e w' => e = .returned (.bool true) ∧ Below W.heap.size W w') := fun W => by rw [← h]; exact need_Right k n m d W hx
  have C2 : Hid (∀ (a : Option Addr) (c : Nat) (W : World), Row .u64 W a xs → Calls Try.prog 43 #[.slice a L c] W (GivesRow .u64 xs W)) := fun a c W hr' => by
    have := vec_RedN2 a L c xs W hr' hl hl2
    rwa [red_id hr] at this
  have HL := Lib.hid hl
  clear h hx hr hl
  obtain ⟨W0, hW0, hb0, x0⟩ := box_any w #[.int .i64 k, .int .i64 n, .int .i64 m, .int .i64 d] 23
  have HW0 := Lib.hid hW0
  have HB := Lib.hid hb0
  have X0 := Lib.hid x0
  have D0 : W0.cell? ⟨w.heap.size, 0, none⟩ = some (.int .i64 k) := block_cell x0 0
  have D1 : W0.cell? ⟨w.heap.size, 1, none⟩ = some (.int .i64 n) := block_cell x0 1
  have D2 : W0.cell? ⟨w.heap.size, 2, none⟩ = some (.int .i64 m) := block_cell x0 2
  have D3 : W0.cell? ⟨w.heap.size, 3, none⟩ = some (.int .i64 d) := block_cell x0 3
  clear hW0 hb0 x0
  rcases hk with rfl | rfl | rfl | rfl
  · have C1 : Hid (∀ W, Calls Try.prog 39 #[.agg #[.int .i64 1, .int .i64 n, .int .i64 m, .int .i64 d]] W (GivesRow .u64 xs W)) := hc
    clear hc
    go_enter Try.func10, Try.ntmps10
    go_wp2_with fail
    rw [HW0.out]
    refine (C0.out _).mono ?_; rintro e w1 ⟨rfl, hb1⟩
    have HB1 := Lib.hid (chain HB.out hb1)
    clear D0 D1 D2 D3
    have X1 := Lib.hid ((hb1.block _ (block_lt X0.out)).trans X0.out)
    have D0 : w1.cell? ⟨w.heap.size, 0, none⟩ = some (.int .i64 1) := block_cell X1.out 0
    have D1 : w1.cell? ⟨w.heap.size, 1, none⟩ = some (.int .i64 n) := block_cell X1.out 1
    have D2 : w1.cell? ⟨w.heap.size, 2, none⟩ = some (.int .i64 m) := block_cell X1.out 2
    have D3 : w1.cell? ⟨w.heap.size, 3, none⟩ = some (.int .i64 d) := block_cell X1.out 3
    obtain ⟨W2, hW2, hb2, x2⟩ := box_any w1 #[.int .i64 1, .int .i64 n, .int .i64 m, .int .i64 d] 71
    have E0 : (w1.alloc (.cells #[.int .i64 1, .int .i64 n, .int .i64 m, .int .i64 d] 71)).cell? ⟨w.heap.size, 0, none⟩ = some (.int .i64 1) := (cell_past _ _ _ (block_lt X1.out)).trans D0
    have HW2 := Lib.hid hW2
    have HB2 := Lib.hid (chain HB1.out hb2)
    clear hb1 hW2 hb2 x2
    go_wp2_with fail
    rw [HW2.out]
    refine (C1.out _).mono ?_; rintro e w3 ⟨a3, cap3, rfl, hr3, hcap3, hb3⟩
    simp only [HL.out] at hcap3 ⊢
    have HB3 := Lib.hid (chain HB2.out hb3)
    have HR3 := Lib.hid hr3
    clear D0 D1 D2 D3 E0 hr3 hcap3 hb3
    go_wp2_with fail
    refine (C2.out _ _ _ HR3.out).mono ?_; rintro e w4 ⟨a4, cap4, rfl, hr4, hcap4, hb4⟩
    simp only [HL.out] at hcap4 ⊢
    have HB4 := Lib.hid (chain HB3.out hb4)
    have HR4 := Lib.hid hr4
    clear hr4 hb4
    go_wp2_with fail
    go_ret2
    exact ⟨a4, cap4, by simp [HL.out], HR4.out, by rw [HL.out]; exact hcap4, HB4.out⟩
  · have C1 : Hid (∀ W, Calls Try.prog 40 #[.agg #[.int .i64 2, .int .i64 n, .int .i64 m, .int .i64 d]] W (GivesRow .u64 xs W)) := hc
    clear hc
    go_enter Try.func10, Try.ntmps10
    go_wp2_with fail
    rw [HW0.out]
    refine (C0.out _).mono ?_; rintro e w1 ⟨rfl, hb1⟩
    have HB1 := Lib.hid (chain HB.out hb1)
    clear D0 D1 D2 D3
    have X1 := Lib.hid ((hb1.block _ (block_lt X0.out)).trans X0.out)
    have D0 : w1.cell? ⟨w.heap.size, 0, none⟩ = some (.int .i64 2) := block_cell X1.out 0
    have D1 : w1.cell? ⟨w.heap.size, 1, none⟩ = some (.int .i64 n) := block_cell X1.out 1
    have D2 : w1.cell? ⟨w.heap.size, 2, none⟩ = some (.int .i64 m) := block_cell X1.out 2
    have D3 : w1.cell? ⟨w.heap.size, 3, none⟩ = some (.int .i64 d) := block_cell X1.out 3
    obtain ⟨W2, hW2, hb2, x2⟩ := box_any w1 #[.int .i64 2, .int .i64 n, .int .i64 m, .int .i64 d] 71
    have E0 : (w1.alloc (.cells #[.int .i64 2, .int .i64 n, .int .i64 m, .int .i64 d] 71)).cell? ⟨w.heap.size, 0, none⟩ = some (.int .i64 2) := (cell_past _ _ _ (block_lt X1.out)).trans D0
    have HW2 := Lib.hid hW2
    have HB2 := Lib.hid (chain HB1.out hb2)
    clear hb1 hW2 hb2 x2
    go_wp2_with fail
    rw [HW2.out]
    refine (C1.out _).mono ?_; rintro e w3 ⟨a3, cap3, rfl, hr3, hcap3, hb3⟩
    simp only [HL.out] at hcap3 ⊢
    have HB3 := Lib.hid (chain HB2.out hb3)
    have HR3 := Lib.hid hr3
    clear D0 D1 D2 D3 E0 hr3 hcap3 hb3
    go_wp2_with fail
    refine (C2.out _ _ _ HR3.out).mono ?_; rintro e w4 ⟨a4, cap4, rfl, hr4, hcap4, hb4⟩
    simp only [HL.out] at hcap4 ⊢
    have HB4 := Lib.hid (chain HB3.out hb4)
    have HR4 := Lib.hid hr4
    clear hr4 hb4
    go_wp2_with fail
    go_ret2
    exact ⟨a4, cap4, by simp [HL.out], HR4.out, by rw [HL.out]; exact hcap4, HB4.out⟩
  · have C1 : Hid (∀ W, Calls Try.prog 41 #[.agg #[.int .i64 3, .int .i64 n, .int .i64 m, .int .i64 d]] W (GivesRow .u64 xs W)) := hc
    clear hc
    go_enter Try.func10, Try.ntmps10
    go_wp2_with fail
    rw [HW0.out]
    refine (C0.out _).mono ?_; rintro e w1 ⟨rfl, hb1⟩
    have HB1 := Lib.hid (chain HB.out hb1)
    clear D0 D1 D2 D3
    have X1 := Lib.hid ((hb1.block _ (block_lt X0.out)).trans X0.out)
    have D0 : w1.cell? ⟨w.heap.size, 0, none⟩ = some (.int .i64 3) := block_cell X1.out 0
    have D1 : w1.cell? ⟨w.heap.size, 1, none⟩ = some (.int .i64 n) := block_cell X1.out 1
    have D2 : w1.cell? ⟨w.heap.size, 2, none⟩ = some (.int .i64 m) := block_cell X1.out 2
    have D3 : w1.cell? ⟨w.heap.size, 3, none⟩ = some (.int .i64 d) := block_cell X1.out 3
    obtain ⟨W2, hW2, hb2, x2⟩ := box_any w1 #[.int .i64 3, .int .i64 n, .int .i64 m, .int .i64 d] 71
    have E0 : (w1.alloc (.cells #[.int .i64 3, .int .i64 n, .int .i64 m, .int .i64 d] 71)).cell? ⟨w.heap.size, 0, none⟩ = some (.int .i64 3) := (cell_past _ _ _ (block_lt X1.out)).trans D0
    have HW2 := Lib.hid hW2
    have HB2 := Lib.hid (chain HB1.out hb2)
    clear hb1 hW2 hb2 x2
    go_wp2_with fail
    rw [HW2.out]
    refine (C1.out _).mono ?_; rintro e w3 ⟨a3, cap3, rfl, hr3, hcap3, hb3⟩
    simp only [HL.out] at hcap3 ⊢
    have HB3 := Lib.hid (chain HB2.out hb3)
    have HR3 := Lib.hid hr3
    clear D0 D1 D2 D3 E0 hr3 hcap3 hb3
    go_wp2_with fail
    refine (C2.out _ _ _ HR3.out).mono ?_; rintro e w4 ⟨a4, cap4, rfl, hr4, hcap4, hb4⟩
    simp only [HL.out] at hcap4 ⊢
    have HB4 := Lib.hid (chain HB3.out hb4)
    have HR4 := Lib.hid hr4
    clear hr4 hb4
    go_wp2_with fail
    go_ret2
    exact ⟨a4, cap4, by simp [HL.out], HR4.out, by rw [HL.out]; exact hcap4, HB4.out⟩
  · have C1 : Hid (∀ W, Calls Try.prog 42 #[.agg #[.int .i64 4, .int .i64 n, .int .i64 m, .int .i64 d]] W (GivesRow .u64 xs W)) := hc
    clear hc
    go_enter Try.func10, Try.ntmps10
    go_wp2_with fail
    rw [HW0.out]
    refine (C0.out _).mono ?_; rintro e w1 ⟨rfl, hb1⟩
    have HB1 := Lib.hid (chain HB.out hb1)
    clear D0 D1 D2 D3
    have X1 := Lib.hid ((hb1.block _ (block_lt X0.out)).trans X0.out)
    have D0 : w1.cell? ⟨w.heap.size, 0, none⟩ = some (.int .i64 4) := block_cell X1.out 0
    have D1 : w1.cell? ⟨w.heap.size, 1, none⟩ = some (.int .i64 n) := block_cell X1.out 1
    have D2 : w1.cell? ⟨w.heap.size, 2, none⟩ = some (.int .i64 m) := block_cell X1.out 2
    have D3 : w1.cell? ⟨w.heap.size, 3, none⟩ = some (.int .i64 d) := block_cell X1.out 3
    obtain ⟨W2, hW2, hb2, x2⟩ := box_any w1 #[.int .i64 4, .int .i64 n, .int .i64 m, .int .i64 d] 71
    have E0 : (w1.alloc (.cells #[.int .i64 4, .int .i64 n, .int .i64 m, .int .i64 d] 71)).cell? ⟨w.heap.size, 0, none⟩ = some (.int .i64 4) := (cell_past _ _ _ (block_lt X1.out)).trans D0
    have HW2 := Lib.hid hW2
    have HB2 := Lib.hid (chain HB1.out hb2)
    clear hb1 hW2 hb2 x2
    go_wp2_with fail
    rw [HW2.out]
    refine (C1.out _).mono ?_; rintro e w3 ⟨a3, cap3, rfl, hr3, hcap3, hb3⟩
    simp only [HL.out] at hcap3 ⊢
    have HB3 := Lib.hid (chain HB2.out hb3)
    have HR3 := Lib.hid hr3
    clear D0 D1 D2 D3 E0 hr3 hcap3 hb3
    go_wp2_with fail
    refine (C2.out _ _ _ HR3.out).mono ?_; rintro e w4 ⟨a4, cap4, rfl, hr4, hcap4, hb4⟩
    simp only [HL.out] at hcap4 ⊢
    have HB4 := Lib.hid (chain HB3.out hb4)
    have HR4 := Lib.hid hr4
    clear hr4 hb4
    go_wp2_with fail
    go_ret2
    exact ⟨a4, cap4, by simp [HL.out], HR4.out, by rw [HL.out]; exact hcap4, HB4.out⟩
theorem table_Make (k n m d : Int) (N M : Nat) (w : World) (hx : NmOk (k, n, m, d)) (h : rightB (k, n, m, d) = true) (hn : n = N) (hm : m = M) :
    Calls Try.prog 10 #[.agg #[.int .i64 k, .int .i64 n, .int .i64 m, .int .i64 d]] w (GivesRowE .u64 (tblL k N M d) 0 w) := by
  have hl := (room_right h N M hn hm).2
  obtain ⟨N', hN, hs, hd, hc⟩ := right_cases h
  have : N' = N := by omega
  subst this
  subst hn
  refine table_made k N' m d _ _ w hx h rfl hl (red_tab _ _ _ _) ?_ (by rcases hc with ⟨h, _⟩ | ⟨h, _⟩ | ⟨h, _⟩ | ⟨h, _⟩ <;> omega)
  intro W
  rcases hc with ⟨rfl, _⟩ | ⟨rfl, _⟩ | ⟨rfl, _, hq⟩ | ⟨rfl, M', lg, hM, h2, hlg, he, hle⟩
  · exact tab_powers 1 N' m d W hs hd
  · exact tab_chirps 2 N' m d _ W hs hd rfl
  · exact tab_raders 3 N' m d W hs hd hq
  · have hMM : M' = M := by omega
    subst hMM
    rw [hm]
    exact tab_blues 4 N' M' lg d W hs hd hlg he hle
theorem name2 : rightB (1, 2, 0, 0) = true := by decide
theorem live16 (w : World) : Calls Try.prog 11 #[] w fun e w' => e = .returned (.bool true) ∧ Below w.heap.size w w' := by
  have C0 : Hid (∀ W, Calls Try.prog 10 #[.agg #[.int .i64 1, .int .i64 2, .int .i64 0, .int .i64 0]] W (GivesRowE .u64 [1, 18446744069414584320] 0 W)) := fun W => by
    have := table_Make 1 2 0 0 2 0 W (by unfold NmOk; simp) name2 rfl rfl
    rwa [tab1, dirRt_zero, show powL (rt 2) 2 = [1, 18446744069414584320] by rw [rt_two]; unfold powL; simp only [List.range_succ_eq_map, List.range_zero, List.map_nil, List.map_cons]; rw [pw_0, show pw 18446744069414584320 (Nat.succ 0) = 18446744069414584320 by unfold pw; decide]] at this
  have r1 : ∀ (w : World) (n : Nat), n = w.heap.size → Row .u64 (w.alloc (.cells #[.int .u64 1, .int .u64 18446744069414584320] 34)) (some ⟨n, 0, none⟩) [1, 18446744069414584320] := fun w n hn => litRow w _ n [1, 18446744069414584320] hn (by decide) (by simp)
  have R1 := Lib.hid r1
  clear r1
  go_enter Try.func11, Try.ntmps11
  go_wp2_with fail
  refine (C0.out _).mono ?_; rintro e w1 ⟨a1, cap1, rfl, hr1, hcap1, hb1⟩
  simp only [List.length_cons, List.length_nil]
  go_wp2_with fail
  refine (ref_SameT _ _ _ _ _ _ [1, 18446744069414584320] [1, 18446744069414584320] _ (hr1.below ((Below.refl _ _).alloc (Nat.le_refl _) _)) (R1.out _ _ rfl) rfl rfl rfl).mono ?_
  rintro e w3 ⟨rfl, hb3⟩
  go_wp2_with fail
  go_ret
  exact ⟨rfl, chainA hb1 hb3⟩
end Go.Proofs.Ytcckfeikaolfgaa

namespace Go.Proofs.Ytcckfeikaolfgaa
open Go.RowKit
set_option linter.unusedVariables false
set_option linter.unusedSimpArgs false
set_option maxRecDepth 100000
theorem rad_pow {q : Nat} (h : IsFq q) (i : Nat) (hi : i < q - 1) : gp q (i * (q - 2)) = radAt q i := by
  have hb := fq_bd h
  by_cases h0 : i = 0
  · subst h0; rw [Nat.zero_mul, gp_zero h, radAt_zero h]
  · rw [radAt_eq h i hi]
    obtain ⟨j, rfl⟩ : ∃ j, i = j + 1 := ⟨i - 1, by omega⟩
    obtain ⟨r, rfl⟩ : ∃ r, q = r + 2 := ⟨q - 2, by omega⟩
    have e : (j + 1) * (r + 2 - 2) = (r + 2 - 1) * j + (r + 2 - 1 - (j + 1)) := by
      rw [show r + 2 - 2 = r by omega, show r + 2 - 1 = r + 1 by omega, Nat.succ_mul, Nat.succ_mul, Nat.mul_comm j r]; omega
    rw [e, gp_add, gp_mul h, Nat.one_mul, Nat.mod_eq_of_lt (gp_lt _ _ (by omega))]
set_option maxHeartbeats 1000000 in
theorem ref16_pow (n : Nat) (m d : Int) (w : World) (h : hasSz n = true) (hd : d = 0 ∨ d = 1) :
    Calls Try.prog 14 #[.agg #[.int .i64 1, .int .i64 n, .int .i64 m, .int .i64 d]] w (GivesRow .u64 (tblL 1 n 0 d) w) := by
  have hz := dirRt_range n d
  have hnb := hasSz_bd h
  have C0 : Hid (∀ W, Calls Try.prog 44 #[.int .i64 n, .int .i64 d] W fun e w' => e = .returned (.int .u64 (dirRt n d)) ∧ W = w') := fun W => refDir n d W h (by omega)
  rw [tab1]
  obtain ⟨z, hz'⟩ : ∃ z, dirRt n d = z := ⟨_, rfl⟩
  rw [hz'] at C0 hz ⊢
  have C1 : Hid (∀ W, Calls Try.prog 45 #[.int .u64 z, .int .i64 n] W (GivesRow .u64 (powL z n) W)) := fun W => refPowers z n W hz.1 hz.2 (by omega)
  clear h hd hz'
  obtain ⟨W0, hW0, hb0, x0⟩ := box_any w #[.int .i64 1, .int .i64 n, .int .i64 m, .int .i64 d] 23
  have HW0 := Lib.hid hW0
  have HB := Lib.hid hb0
  have D0 : W0.cell? ⟨w.heap.size, 0, none⟩ = some (.int .i64 1) := block_cell x0 0
  have D1 : W0.cell? ⟨w.heap.size, 1, none⟩ = some (.int .i64 n) := block_cell x0 1
  have D3 : W0.cell? ⟨w.heap.size, 3, none⟩ = some (.int .i64 d) := block_cell x0 3
  clear hW0 hb0 x0
  go_enter Try.func14, Try.ntmps14
  go_wp2_with fail
  rw [HW0.out]
  refine (C0.out _).mono ?_; rintro e w1 ⟨rfl, rfl⟩
  go_wp2_with fail
  refine (C1.out _).mono ?_; rintro e w1 ⟨a1, cap1, rfl, hr1, hcap1, hb1⟩
  have HBF := Lib.hid (chain HB.out hb1)
  clear D0 D1 D3 hb1
  go_wp2_with fail
  go_ret
  exact ⟨a1, cap1, rfl, hr1, hcap1, HBF.out⟩
set_option maxHeartbeats 4000000 in
theorem ref16_chirp (n : Nat) (m d d' : Int) (w : World) (h : hasSz n = true) (hd : d = 0 ∨ d = 1) (hd' : d' = 1 - d) (hn : n ≤ 16777216) :
    Calls Try.prog 14 #[.agg #[.int .i64 2, .int .i64 n, .int .i64 m, .int .i64 d]] w (GivesRow .u64 (rowT (dirRt n d') n n) w) := by
  obtain ⟨i0, hi, hz0, hz1, hz2⟩ := info_parts info_u64
  have hnb := hasSz_bd h
  have C0 : Hid (∀ W, Calls Try.prog 44 #[.int .i64 n, .int .i64 d] W fun e w' => e = .returned (.int .u64 (dirRt n d)) ∧ W = w') := fun W => refDir n d W h (by omega)
  have C1 : Hid (∀ W, Calls Try.prog 44 #[.int .i64 n, .int .i64 d'] W fun e w' => e = .returned (.int .u64 (dirRt n d')) ∧ W = w') := fun W => refDir n d' W h (by omega)
  have hz := dirRt_range n d'
  obtain ⟨z, hz'⟩ : ∃ z, dirRt n d' = z := ⟨_, rfl⟩
  obtain ⟨z0, hz0'⟩ : ∃ z, dirRt n d = z := ⟨_, rfl⟩
  rw [hz'] at C1 hz ⊢
  rw [hz0'] at C0
  have hdd : 1 - d = d' := hd'.symm
  have hwd : IntKind.i64.wrap d' = d' := IntWalk.i64_in _ (by omega)
  clear h hd hd' hz' hz0'
  obtain ⟨W0, hW0, hb0, x0⟩ := box_any w #[.int .i64 2, .int .i64 n, .int .i64 m, .int .i64 d] 23
  have HW0 := Lib.hid hW0
  have HB := Lib.hid hb0
  have X0 := Lib.hid x0
  have D0 : W0.cell? ⟨w.heap.size, 0, none⟩ = some (.int .i64 2) := block_cell x0 0
  have D1 : W0.cell? ⟨w.heap.size, 1, none⟩ = some (.int .i64 n) := block_cell x0 1
  have D3 : W0.cell? ⟨w.heap.size, 3, none⟩ = some (.int .i64 d) := block_cell x0 3
  clear hW0 hb0 x0
  go_enter Try.func14, Try.ntmps14
  go_wp2_with fail
  rw [HW0.out]
  refine (C0.out _).mono ?_; rintro e w1 ⟨rfl, rfl⟩
  go_wp2_with fail
  clear D0 D1 D3
  go_loopw [4, 5] (fun v i wr => ∃ k : Nat, k ≤ n ∧ i = .int .i64 k ∧ Own .u64 34 W0 wr v k (fun j => pw z (triN n j))) (fun _ i _ => n - (intOf i).toNat)
  case atStart => exact ⟨0, Nat.zero_le _, rfl, Own.nil _ _ _ _⟩
  case round =>
    obtain ⟨k, hk, rfl, hown⟩ := hrel
    have lD := block_lt X0.out
    have D1 : wr.cell? ⟨w.heap.size, 1, none⟩ = some (.int .i64 n) := (hown.below.cell (p := ⟨w.heap.size, 1, none⟩) lD).trans (block_cell X0.out 1)
    have D3 : wr.cell? ⟨w.heap.size, 3, none⟩ = some (.int .i64 d) := (hown.below.cell (p := ⟨w.heap.size, 3, none⟩) lD).trans (block_cell X0.out 3)
    by_cases hlt : k < n
    · have hlt2 := triN_lt n k (by omega)
      obtain ⟨t, ht⟩ : ∃ t, triN n k = t := ⟨_, rfl⟩
      have C2 : Hid (∀ w : World, Calls Try.prog 47 #[.int .i64 n, .int .i64 k] w fun e w' => e = .returned (.int .i64 t) ∧ w = w') := fun w => by
        rw [← ht]; exact ref_Tri n k w (by omega) (by omega) (by omega)
      have C3 : Hid (∀ w : World, Calls Try.prog 46 #[.int .u64 z, .int .u64 t] w fun e w' => e = .returned (.int .u64 (pw z t)) ∧ w = w') := fun w => ref_PowN z t w hz.1 hz.2 (by omega)
      rw [ht] at hlt2
      have HT := Lib.hid ht
      have hwt : IntKind.u64.wrap (t : Int) = (t : Int) := by rw [IntKind.wrap_u64]; omega
      have hsz := hown.below.size
      clear ht
      go_wp2_with fail
      have n1 : u4.ownBlock ≠ some w.heap.size := fun h => by have := (hown.own.lt _ h).1; omega
      have hb : Below wr.heap.size wr wr.drew := (Below.refl _ _).drew
      go_region_held3 (fun w' => w'.cell? ⟨w.heap.size, 1, none⟩ = some (.int .i64 n) ∧ w'.cell? ⟨w.heap.size, 3, none⟩ = some (.int .i64 d)) (first | exact ⟨D1, D3⟩ | exact ⟨(cell_past _ _ _ (World.block_lt_of_cell? _ _ D1)).trans D1, (cell_past _ _ _ (World.block_lt_of_cell? _ _ D3)).trans D3⟩ | exact ⟨cell_grown D1 n1 hgrow, cell_grown D3 n1 hgrow⟩ | fail)
        ((first
          | (go_at_call 44; ((with_reducible refine (C1.out _).mono ?_); rintro e z1 ⟨rfl, rfl⟩))
          | (go_at_call 47; ((with_reducible refine (C2.out _).mono ?_); rintro e z1 ⟨rfl, rfl⟩))
          | (go_at_call 46; ((with_reducible refine (C3.out _).mono ?_); rintro e z1 ⟨rfl, rfl⟩))
          | (refine step_append_lies _ (by rfl) _ _ 25 (by rfl) W0.heap.size 34 i0 _ 1 8 Try.underlying25 hi hz0 hz1 hz2 rfl (by omega) _ k _ (by rfl) ((hown.own.alloc _).drew) ⟨wr.heap.size, 0, none⟩ 1 1 [.int .u64 (pw z t)] (by rfl) (by rfl) (cell_one_new _ _ _) (one_cell _ _) (by omega) (by unfold maxLen; omega) (by omega) (size_alloc_le hown.below _) (wr.heap.size + 1) (by simp) ?_; intro gg cap w1 hown' hgrow hat hlt0) | fail))
      have hnext := hown.push (pw z t) (by rw [HT.out]) hown' (grown_of_drew hgrow)
      clear hown' hgrow
      go_wp2_with fail
      go_roundw
      case rel => exact ⟨k + 1, by omega, by go_num, hnext⟩
      case measure => simp [intOf]; omega
    · have hk' : k = n := by omega
      have hres := hown.gives (xs := rowT z n n) (by rw [rowT_len]; omega) (rowT_fits z n n) (fun i hi => nth_rowT _ _ _ _ (by omega)) (by omega)
      clear hown
      go_wp2_with fail
      go_ret
      exact hres.step HB.out
set_option maxHeartbeats 4000000 in
theorem ref16_rader (n : Nat) (m d : Int) (w : World) (h : hasSz n = true) (hd : d = 0 ∨ d = 1) (hq : IsFq n) (hn : n ≤ 17) :
    Calls Try.prog 14 #[.agg #[.int .i64 3, .int .i64 n, .int .i64 m, .int .i64 d]] w (GivesRow .u64 (tabRaderL n d) w) := by
  obtain ⟨i0, hi, hz0, hz1, hz2⟩ := info_parts info_u64
  have hb := fq_bd hq
  have hg := gq_bd hq
  obtain ⟨lg, hlg1, hlg2, hlg⟩ := fq_log hq
  have C0 : Hid (∀ W, Calls Try.prog 44 #[.int .i64 n, .int .i64 d] W fun e w' => e = .returned (.int .u64 (dirRt n d)) ∧ W = w') := fun W => refDir n d W h (by omega)
  have C1 : Hid (∀ W, Calls Try.prog 48 #[.int .i64 n] W fun e w' => e = .returned (.int .i64 (gq n : Nat)) ∧ W = w') := fun W => ref09_Gen W hq hn
  have hs1 : hasSz ((n - 1 : Nat) : Int) = true := by rw [hlg]; exact hasSz_pow lg (by omega)
  have HRD : Hid (dftL (radL (dirRt n d) n) (dirRt (n - 1) 0) = tabRaderL n d) := rfl
  have HR0 : Hid (∀ i, i < n - 1 → gp n (i * (n - 2)) = radAt n i) := fun i hi => rad_pow hq i hi
  have HGL : Hid (∀ i, gp n i < n) := fun i => gp_lt n i (by omega)
  have HGS : Hid (∀ i, gp n i * gq n % n = gp n (i + 1)) := fun i => (gp_succ n i).symm
  have HG0 : Hid (gp n 0 = 1) := gp_zero hq
  have hz := dirRt_range n d
  obtain ⟨z, hz'⟩ : ∃ z, dirRt n d = z := ⟨_, rfl⟩
  rw [hz'] at C0 hz HRD
  obtain ⟨q1, hq1⟩ : ∃ q1, n - 1 = q1 := ⟨_, rfl⟩
  obtain ⟨q2, hq2⟩ : ∃ q2, n - 2 = q2 := ⟨_, rfl⟩
  rw [hq1] at HRD HR0 hs1
  rw [hq2] at HR0
  have HQ1 := Lib.hid hq1
  have C2 : Hid (∀ (a : Option Addr) (c : Nat) (xs : List Int) (W : World), Row .u64 W a xs → xs.length = q1 → Calls Try.prog 49 #[.slice a q1 c, .int .i64 0] W (GivesRow .u64 (dftL xs (dirRt q1 0)) W)) := fun a c xs W hx hl => refDft a q1 c xs 0 W hx hl hs1 (by omega) (Or.inl rfl)
  obtain ⟨G, hG⟩ : ∃ G, gq n = G := ⟨_, rfl⟩
  rw [hG] at C1 HGS hg
  have hi1 : (n : Int) - 1 = (q1 : Int) := by omega
  have hi2 : (n : Int) - 2 = (q2 : Int) := by omega
  have z1 : ((n : Int) == 0) = false := bno (by omega)
  have z2 : ¬ (n : Int) = 0 := by omega
  have z3 : ¬ n = 0 := by omega
  have hqb : q1 ≤ 16 ∧ q2 ≤ 15 ∧ 2 ≤ q1 := by omega
  clear h hd hq hs1 hlg hz' hG hq1 hq2
  obtain ⟨W0, hW0, hb0, x0⟩ := box_any w #[.int .i64 3, .int .i64 n, .int .i64 m, .int .i64 d] 23
  have HW0 := Lib.hid hW0
  have HB := Lib.hid hb0
  have X0 := Lib.hid x0
  have D0 : W0.cell? ⟨w.heap.size, 0, none⟩ = some (.int .i64 3) := block_cell x0 0
  have D1 : W0.cell? ⟨w.heap.size, 1, none⟩ = some (.int .i64 n) := block_cell x0 1
  have D3 : W0.cell? ⟨w.heap.size, 3, none⟩ = some (.int .i64 d) := block_cell x0 3
  clear hW0 hb0 x0
  go_enter Try.func14, Try.ntmps14
  go_wp2_with fail
  rw [HW0.out]
  refine (C0.out _).mono ?_; rintro e w1 ⟨rfl, rfl⟩
  go_wp2_with fail
  refine (C1.out _).mono ?_; rintro e w1 ⟨rfl, rfl⟩
  go_wp2_with fail
  clear D0 D1 D3
  go_loopw [4, 7, 8] (fun v pv iv wr => ∃ (i p : Nat), i ≤ q1 ∧ iv = .int .i64 i ∧ pv = .int .i64 p ∧ Hid (p = gp n (i * q2)) ∧ Own .u64 34 W0 wr v i (fun j => pw z (radAt n j))) (fun _ _ iv _ => q1 - (intOf iv).toNat)
  case atStart => exact ⟨0, 1, by omega, rfl, rfl, by unfold Hid; rw [Nat.zero_mul, HG0.out], Own.nil _ _ _ _⟩
  case round =>
    obtain ⟨i, p, hi9, rfl, rfl, HP, hown⟩ := hrel
    have lD := block_lt X0.out
    have D1 : wr.cell? ⟨w.heap.size, 1, none⟩ = some (.int .i64 n) := (hown.below.cell (p := ⟨w.heap.size, 1, none⟩) lD).trans (block_cell X0.out 1)
    by_cases hlt : i < q1
    · have hp : p < n := by rw [HP.out]; exact HGL.out _
      have hpr := HR0.out i hlt
      rw [← HP.out] at hpr
      have HPR := Lib.hid hpr
      have C3 : Hid (∀ w : World, Calls Try.prog 46 #[.int .u64 z, .int .u64 p] w fun e w' => e = .returned (.int .u64 (pw z p)) ∧ w = w') := fun w => ref_PowN z p w hz.1 hz.2 (by omega)
      have hsz := hown.below.size
      clear hpr
      go_wp2_with fail
      refine (C3.out _).mono ?_; rintro e w' ⟨rfl, rfl⟩
      go_wp2_with (at_builtin; refine wpList_append_own _ rfl _ _ 25 rfl W0.heap.size 34 i0 (.int .u64 0) 1 8 Try.underlying25 hi hz0 hz1 hz2 rfl (by decide) _ _ _ rfl (hown.own.alloc _) ⟨wr.heap.size, 0, none⟩ 1 1 [.int .u64 (pw z p)] rfl rfl (cell_one_new _ _ _) (one_cell _ _) (by unfold maxLen; omega) (by omega) (size_alloc_le hown.below _) ?_)
      intro v' w1 hown' hgrow _
      have hnext := Lib.hid (hown.push (pw z p) (by rw [HPR.out]) hown' hgrow)
      clear hown' hgrow hown D1
      have D1 : w1.cell? ⟨w.heap.size, 1, none⟩ = some (.int .i64 n) := (hnext.out.below.cell (p := ⟨w.heap.size, 1, none⟩) lD).trans (block_cell X0.out 1)
      go_wp2_with fail
      go_loopw [7, 9] (fun pv kv wi => ∃ (k t : Nat), k ≤ q2 ∧ kv = .int .i64 k ∧ pv = .int .i64 t ∧ Hid (t = gp n (i * q2 + k)) ∧ Hid (w1 = wi)) (fun _ kv _ => q2 - (intOf kv).toNat)
      case atStart => exact ⟨0, p, by omega, rfl, rfl, HP.out, rfl⟩
      case round =>
        obtain ⟨k, t, hk, rfl, rfl, HT, HW⟩ := hrel
        obtain rfl := HW.out
        by_cases hlk : k < q2
        · have htn : t < n := by rw [HT.out]; exact HGL.out _
          obtain ⟨s, hs⟩ : ∃ s, t * G = s := ⟨_, rfl⟩
          have hs1 : s ≤ 17 * 17 := by rw [← hs]; exact Nat.mul_le_mul (by omega) (by omega)
          have m1 := mulN t G s hs
          obtain ⟨r, hr⟩ : ∃ r, s % n = r := ⟨_, rfl⟩
          have r1 := (modN s n r hr).1
          have r2 := (modN s n r hr).2
          have HN : Hid (r = gp n (i * q2 + (k + 1))) := by unfold Hid; rw [← Nat.add_assoc, ← HGS.out, ← HT.out, hs, hr]
          clear hs hr
          go_wp2_with fail
          go_roundw
          case rel => exact ⟨k + 1, r, by omega, by go_num, rfl, HN.out, (by first | exact rfl | exact trivial)⟩
          case measure => simp [intOf]; omega
        · have hkq : k = q2 := by omega
          have HN : Hid (t = gp n ((i + 1) * q2)) := by unfold Hid; rw [HT.out, hkq, Nat.succ_mul]
          clear hkq HT
          go_wp2_with fail
          go_roundw
          case rel => exact ⟨i + 1, t, by omega, by go_num, rfl, HN.out, hnext.out⟩
          case measure => simp [intOf]; omega
    · have hiq : i = q1 := by omega
      subst hiq
      have hres := hown.gives (xs := radL z n) (by rw [radL_len]; exact HQ1.out) (radL_fits z n) (fun j hj => nth_radL _ _ _ (by rw [HQ1.out]; exact hj)) (by omega)
      obtain ⟨a1, cap1, he, hr1, hcap1, hb1⟩ := hres
      have hlen : (radL z n).length = i := (radL_len z n).trans HQ1.out
      rw [hlen] at he
      simp only [Ending.returned.injEq] at he
      subst he
      have HR1 := Lib.hid hr1
      have HL1 := Lib.hid hlen
      have HB1 := Lib.hid (chain HB.out hb1)
      clear hown hr1 hcap1 hlen hb1
      go_wp2_with fail
      refine (C2.out _ _ _ _ HR1.out HL1.out).mono ?_; rintro e w4 ⟨a4, cap4, rfl, hr4, hcap4, hb4⟩
      rw [HRD.out] at hr4 hcap4 ⊢
      have HB4 := Lib.hid (chain HB1.out hb4)
      have HR4 := Lib.hid hr4
      have HC4 := Lib.hid hcap4
      clear hr4 hcap4 hb4
      go_wp2_with fail
      go_ret
      exact ⟨a4, cap4, rfl, HR4.out, HC4.out, HB4.out⟩
set_option maxHeartbeats 2000000 in
theorem ref16_blue (n m : Nat) (d : Int) (w : World) (h : hasSz n = true) (hd : d = 0 ∨ d = 1) (hms : hasSz m = true) (hl : 2 * n - 1 ≤ m) (hm : m ≤ 140) :
    Calls Try.prog 14 #[.agg #[.int .i64 4, .int .i64 n, .int .i64 m, .int .i64 d]] w (GivesRow .u64 (tabBlueL n m d) w) := by
  obtain ⟨i0, hi, hz0, hz1, hz2⟩ := info_parts info_u64
  have hnb := hasSz_bd h
  have C0 : Hid (∀ W, Calls Try.prog 44 #[.int .i64 n, .int .i64 d] W fun e w' => e = .returned (.int .u64 (dirRt n d)) ∧ W = w') := fun W => refDir n d W h (by omega)
  obtain ⟨q, hq⟩ : ∃ q : Nat, 2 * n - 1 = q := ⟨2 * n - 1, rfl⟩
  have hq1 : 2 * (n : Int) - 1 = q := by omega
  have C1 : Hid (∀ W, Calls Try.prog 50 #[.int .i64 n, .int .i64 d, .int .i64 q] W (GivesOwn .u64 34 (rowT (dirRt n d) n q) W)) := fun W => ref_Row12 n q d W h hd (by omega)
  have C2 : Hid (∀ (a : Option Addr) (c : Nat) (xs : List Int) (W : World), Row .u64 W a xs → xs.length = m → Calls Try.prog 49 #[.slice a m c, .int .i64 0] W (GivesRow .u64 (dftL xs (dirRt m 0)) W)) := fun a c xs W hx hl => refDft a m c xs 0 W hx hl hms (by omega) (Or.inl rfl)
  have HD : Hid (dftL (zeroL (rowT (dirRt n d) n q) m) (dirRt m 0) = tabBlueL n m d) := by unfold Hid tabBlueL; rw [hq]
  have HXL : Hid ((rowT (dirRt n d) n q).length = q) := rowT_len _ _ _
  have HXF : Hid (∀ x ∈ rowT (dirRt n d) n q, fits .u64 x) := rowT_fits _ _ _
  obtain ⟨xs, hxs⟩ : ∃ xs, rowT (dirRt n d) n q = xs := ⟨_, rfl⟩
  rw [hxs] at C1 HD HXL HXF
  have HZL : Hid ((zeroL xs m).length = m) := zeroL_len xs m (by rw [HXL.out]; omega)
  obtain ⟨dd, hdd⟩ : ∃ dd : Nat, m - q = dd := ⟨m - q, rfl⟩
  have hd1 : (m : Int) - (q : Int) = dd := by omega
  have HDD := Lib.hid hdd
  have hqd : q + dd ≤ 1000 := by omega
  have hqm : q ≤ m := by omega
  clear h hms hxs hq hdd hd
  obtain ⟨W0, hW0, hb0, x0⟩ := box_any w #[.int .i64 4, .int .i64 n, .int .i64 m, .int .i64 d] 23
  have HW0 := Lib.hid hW0
  have HB := Lib.hid hb0
  have X0 := Lib.hid x0
  have D0 : W0.cell? ⟨w.heap.size, 0, none⟩ = some (.int .i64 4) := block_cell x0 0
  have D1 : W0.cell? ⟨w.heap.size, 1, none⟩ = some (.int .i64 n) := block_cell x0 1
  have D3 : W0.cell? ⟨w.heap.size, 3, none⟩ = some (.int .i64 d) := block_cell x0 3
  clear hW0 hb0 x0
  go_enter Try.func14, Try.ntmps14
  go_wp2_with fail
  rw [HW0.out]
  refine (C0.out _).mono ?_; rintro e w1 ⟨rfl, rfl⟩
  go_wp2_with fail
  refine (C1.out _).mono ?_; rintro e w1 ⟨a1, cap1, rfl, ho1, _, _, hb1⟩
  rw [HXL.out] at ho1 ⊢
  have HO := Lib.hid ho1
  have hsz := hb1.size
  have D2 : w1.cell? ⟨w.heap.size, 2, none⟩ = some (.int .i64 m) := (hb1.cell (p := ⟨w.heap.size, 2, none⟩) (block_lt X0.out)).trans (block_cell X0.out 2)
  have HB1 := Lib.hid hb1
  clear ho1 D0 D1 D3 hb1
  go_wp2_with (at_builtin; refine wpList_append_zeros _ rfl _ _ 25 3 rfl W0.heap.size 34 i0 .u64 .i64 .i64 Try.underlying25 Try.underlying3 hi hz0 hz1 hz2 _ q _ rfl HO.out dd rfl (by omega) hsz ?_)
  intro v' w2 hown' hgrow
  have hb2 : Below W0.heap.size W0 w2 := append_below HB1.out hsz HO.out hgrow
  obtain ⟨a2, cap2, rfl, hcap2⟩ := own_slice hown'
  rw [show List.replicate dd (Value.int .u64 0) = List.replicate (m - xs.length) (Value.int .u64 0) by rw [HXL.out, HDD.out], zeroL_cells, show q + dd = m by have := HDD.out; omega] at hown'
  rw [show q + dd = m by have := HDD.out; omega] at hcap2 ⊢
  have hrow := Row.of_own (a := a2) (cap := cap2) HZL.out (by omega) (zeroL_fits xs m HXF.out) hown'
  have HR := Lib.hid hrow
  have HB2 := Lib.hid (chain HB.out hb2)
  clear hown' hgrow hrow hb2 D2
  go_wp2_with fail
  refine (C2.out _ _ _ _ HR.out HZL.out).mono ?_; rintro e w4 ⟨a4, cap4, rfl, hr4, hcap4, hb4⟩
  rw [HD.out] at hr4 hcap4 ⊢
  have HB4 := Lib.hid (chain HB2.out hb4)
  have HR4 := Lib.hid hr4
  have HC4 := Lib.hid hcap4
  clear hr4 hcap4 hb4
  go_wp2_with fail
  go_ret
  exact ⟨a4, cap4, rfl, HR4.out, HC4.out, HB4.out⟩
theorem ref16_Make (k n m d : Int) (N M : Nat) (w : World) (h : rightB (k, n, m, d) = true) (hn : n = N) (hm : m = M) (h1 : N ≤ 140) (h2 : M ≤ 140) :
    Calls Try.prog 14 #[.agg #[.int .i64 k, .int .i64 n, .int .i64 m, .int .i64 d]] w (GivesRow .u64 (tblL k N M d) w) := by
  obtain ⟨N', hN, hs, hd, hc⟩ := right_cases h
  have : N' = N := by omega
  subst this
  subst hn
  rcases hc with ⟨rfl, rfl⟩ | ⟨rfl, _⟩ | ⟨rfl, _, hq⟩ | ⟨rfl, M', lg, hM, h2', hlg, he, hle⟩
  · obtain rfl : M = 0 := by omega
    exact ref16_pow N' 0 d w hs hd
  · exact ref16_chirp N' m d _ w hs hd rfl (by omega)
  · have : N' ≤ 17 := by unfold IsFq at hq; omega
    exact ref16_rader N' m d w hs hd hq this
  · have hMM : M' = M := by omega
    subst hMM
    rw [hm]
    exact ref16_blue N' M' d w hs hd (by rw [he]; exact hasSz_pow lg hlg) hle h2
end Go.Proofs.Ytcckfeikaolfgaa

namespace Go.Proofs.Ytcckfeikaolfgaa
open Go.RowKit Sm
set_option linter.unusedVariables false
set_option linter.unusedSimpArgs false
set_option maxRecDepth 100000
def zeroB (xs : List Int) : Bool := xs.all (· == 0)
theorem zeroB_no {xs : List Int} (i : Nat) (h : i < xs.length) (hx : nth xs i ≠ 0) : zeroB xs = false := by
  simp only [zeroB, List.all_eq_false]
  exact ⟨nth xs i, nth_mem h, by simpa using hx⟩
theorem zeroB_all {xs : List Int} (h : zeroB xs = true) : xs = List.replicate xs.length 0 := by
  apply List.eq_replicate_iff.2
  refine ⟨rfl, fun x hx => ?_⟩
  have := List.all_eq_true.1 h x hx
  simpa using this
theorem nth_rep (n k : Nat) : nth (List.replicate n (0 : Int)) k = 0 := by
  simp only [nth, List.getD_eq_getElem?_getD, List.getElem?_replicate]
  split <;> rfl
theorem S_all_zero (n : Nat) (f : Nat → Int) (h : ∀ i, i < n → f i = 0) : S n f = 0 := by
  rw [S_congr h]; exact S_zero n
theorem dft_zero (n : Nat) (z : Int) (k : Nat) (h : k < n) : nth (dftL (List.replicate n 0) z) k = 0 := by
  have h1 := dftL_T (List.replicate n 0) z k (by simpa using h)
  have h2 : T (List.replicate n (0 : Int)).length z (nth (List.replicate n 0)) k = 0 := by
    unfold T; exact S_all_zero _ _ fun i hi => by rw [nth_rep, Int.zero_mul]
  rw [h2] at h1
  have h3 := pt_range (List.replicate n 0) (pw z k)
  rw [← nth_dftL _ _ _ (by simpa using h)] at h3
  unfold Eqm at h1
  rw [Int.emod_eq_of_lt h3.1 h3.2] at h1
  exact h1
/-- A transform of a row that has a number is no row of noughts. -/
theorem dft_nz (xs : List Int) (d : Int) (i : Nat) (hs : hasSz xs.length = true) (hi : i < xs.length) (hx : ¬ Eqm (nth xs i) 0) : zeroB (dftL xs (dirRt xs.length d)) = false := by
  cases hz : zeroB (dftL xs (dirRt xs.length d)) with
  | false => rfl
  | true =>
    exfalso
    have h0 := zeroB_all hz
    rw [dftL_len] at h0
    have hb := hasSz_iff.1 hs
    have ht := dft_twice xs d hs
    have hr := revAt_lt hi
    have h1 : nth (dftL (dftL xs (dirRt xs.length d)) (dirRt xs.length d)) (revAt xs.length i) = 0 := by rw [h0]; exact dft_zero _ _ _ hr
    rw [ht, nth_scaleL _ _ _ (by rw [revL_len]; exact hr)] at h1
    have e2 : nth (revL xs) (revAt xs.length i) = nth xs (revAt xs.length (revAt xs.length i)) % 18446744069414584321 := nth_ofFn _ _ _ hr
    have e3 : revAt xs.length (revAt xs.length i) = i := by
      unfold revAt
      by_cases h0 : i = 0
      · subst h0; simp
      · rw [Nat.mod_eq_of_lt (show xs.length - i < xs.length by omega), show xs.length - (xs.length - i) = i by omega, Nat.mod_eq_of_lt hi]
    rw [e2, e3] at h1
    apply hx
    refine strike' (xs.length : Int) _ ?_ ?_
    · unfold Eqm; omega
    · rw [Int.mul_comm]
      refine ((Eqm.mod _).symm.mul (rfl' _)).trans ?_
      unfold Eqm
      rw [h1]; rfl
theorem pw_nz (n : Nat) (d : Int) (i : Nat) (hs : hasSz (n : Int) = true) : ¬ Eqm (pw (dirRt n d) i) 0 := by
  intro e
  have hr := isRoot_dir n d hs
  have h1 := hr.inv_pow i
  have h2 := ((pw_eqm (dirRt n d) i).symm.trans e).mul (rfl' (dirBk n d ^ i))
  rw [Int.zero_mul] at h2
  have h3 := h1.symm.trans h2
  exact absurd h3 (by unfold Eqm; decide)
theorem pw_nz' (n : Nat) (d : Int) (i : Nat) (hs : hasSz (n : Int) = true) : pw (dirRt n d) i ≠ 0 := fun e => pw_nz n d i hs (by rw [e]; exact rfl' 0)
theorem tab_nz {k n m d : Int} (h : rightB (k, n, m, d) = true) (N M : Nat) (hn : n = N) (hm : m = M) : zeroB (tblL k N M d) = false := by
  obtain ⟨N', hN, hs, hd, hc⟩ := right_cases h
  have hb := hasSz_iff.1 hs
  have : N' = N := by omega
  subst this
  rcases hc with ⟨rfl, _⟩ | ⟨rfl, _⟩ | ⟨rfl, _, hq⟩ | ⟨rfl, M', lg, hM, h2, hlg, he, hle⟩
  · rw [tab1]
    exact zeroB_no 0 (by rw [powL_len]; omega) (by rw [show nth (powL (dirRt N' d) N') 0 = pw (dirRt N' d) 0 from nth_ofFn _ _ _ (by omega)]; exact pw_nz' _ _ _ hs)
  · rw [tab2]
    exact zeroB_no 0 (by rw [rowT_len]; omega) (by rw [nth_rowT _ _ _ _ (by omega)]; exact pw_nz' _ _ _ hs)
  · have hq' := fq_bd hq
    obtain ⟨lg, hlg1, hlg2, hlg⟩ := fq_log hq
    rw [tab3, tabRaderL]
    have hl : (radL (dirRt N' d) N').length = N' - 1 := radL_len _ _
    have := dft_nz (radL (dirRt N' d) N') 0 0 (by rw [hl, hlg]; exact hasSz_pow lg (by omega)) (by rw [hl]; omega) (by rw [nth_radL _ _ _ (by omega)]; exact pw_nz _ _ _ hs)
    rwa [hl] at this
  · have hMM : M' = M := by omega
    subst hMM
    rw [tab4, tabBlueL]
    have hl : (zeroL (rowT (dirRt N' d) N' (2 * N' - 1)) M').length = M' := zeroL_len _ _ (by rw [rowT_len]; exact hle)
    have := dft_nz (zeroL (rowT (dirRt N' d) N' (2 * N' - 1)) M') 0 0 (by rw [hl, he]; exact hasSz_pow lg hlg) (by rw [hl]; omega) (by rw [nth_zeroL, nth_rowT _ _ _ _ (by omega)]; exact pw_nz _ _ _ hs)
    rwa [hl] at this
set_option maxHeartbeats 2000000 in
theorem ref16_Small (k n m d : Int) (w : World) (hx : NmOk (k, n, m, d)) :
    Calls Try.prog 12 #[.agg #[.int .i64 k, .int .i64 n, .int .i64 m, .int .i64 d]] w fun e w' => e = .returned (.bool (decide (roomN (k, n, m, d) ≤ 140) && decide (n ≤ 140))) ∧ Below w.heap.size w w' := by
  have C0 : Hid (∀ W, Calls Try.prog 18 #[.agg #[.int .i64 k, .int .i64 n, .int .i64 m, .int .i64 d]] W fun e w' => e = .returned (.int .i64 (roomN (k, n, m, d))) ∧ Below W.heap.size W w') := fun W => ref15_Room k n m d W hx
  obtain ⟨r, hr⟩ : ∃ r, roomN (k, n, m, d) = r := ⟨_, rfl⟩
  rw [hr] at C0 ⊢
  clear hr hx
  by_cases hr : r ≤ 140
  · have t1 : decide (r ≤ 140) = true := by simp; omega
    obtain ⟨W0, hW0, hb0, x0⟩ := box_any w #[.int .i64 k, .int .i64 n, .int .i64 m, .int .i64 d] 23
    have HW0 := Lib.hid hW0
    have HB := Lib.hid hb0
    have XD := Lib.hid x0
    clear hW0 hb0 x0
    have D0 : W0.cell? ⟨w.heap.size, 0, none⟩ = some (.int .i64 k) := block_cell XD.out 0
    have D1 : W0.cell? ⟨w.heap.size, 1, none⟩ = some (.int .i64 n) := block_cell XD.out 1
    have D2 : W0.cell? ⟨w.heap.size, 2, none⟩ = some (.int .i64 m) := block_cell XD.out 2
    have D3 : W0.cell? ⟨w.heap.size, 3, none⟩ = some (.int .i64 d) := block_cell XD.out 3
    go_enter Try.func12, Try.ntmps12
    go_wp2_with fail
    rw [HW0.out]
    refine (C0.out _).mono ?_; rintro e v1 ⟨rfl, hb1⟩
    clear D0 D1 D2 D3
    have XD := Lib.hid ((hb1.block _ (block_lt XD.out)).trans XD.out)
    have HB := Lib.hid (chain HB.out hb1)
    clear hb1
    have D0 : v1.cell? ⟨w.heap.size, 0, none⟩ = some (.int .i64 k) := block_cell XD.out 0
    have D1 : v1.cell? ⟨w.heap.size, 1, none⟩ = some (.int .i64 n) := block_cell XD.out 1
    have D2 : v1.cell? ⟨w.heap.size, 2, none⟩ = some (.int .i64 m) := block_cell XD.out 2
    have D3 : v1.cell? ⟨w.heap.size, 3, none⟩ = some (.int .i64 d) := block_cell XD.out 3
    go_wp2_with fail
    go_ret
    exact ⟨ret_bool (by rw [t1]; rfl), HB.out⟩
  · have t1 : decide (r ≤ 140) = false := by simp; omega
    obtain ⟨W0, hW0, hb0, x0⟩ := box_any w #[.int .i64 k, .int .i64 n, .int .i64 m, .int .i64 d] 23
    have HW0 := Lib.hid hW0
    have HB := Lib.hid hb0
    have XD := Lib.hid x0
    clear hW0 hb0 x0
    have D0 : W0.cell? ⟨w.heap.size, 0, none⟩ = some (.int .i64 k) := block_cell XD.out 0
    have D1 : W0.cell? ⟨w.heap.size, 1, none⟩ = some (.int .i64 n) := block_cell XD.out 1
    have D2 : W0.cell? ⟨w.heap.size, 2, none⟩ = some (.int .i64 m) := block_cell XD.out 2
    have D3 : W0.cell? ⟨w.heap.size, 3, none⟩ = some (.int .i64 d) := block_cell XD.out 3
    go_enter Try.func12, Try.ntmps12
    go_wp2_with fail
    rw [HW0.out]
    refine (C0.out _).mono ?_; rintro e v1 ⟨rfl, hb1⟩
    clear D0 D1 D2 D3
    have XD := Lib.hid ((hb1.block _ (block_lt XD.out)).trans XD.out)
    have HB := Lib.hid (chain HB.out hb1)
    clear hb1
    have D0 : v1.cell? ⟨w.heap.size, 0, none⟩ = some (.int .i64 k) := block_cell XD.out 0
    have D1 : v1.cell? ⟨w.heap.size, 1, none⟩ = some (.int .i64 n) := block_cell XD.out 1
    have D2 : v1.cell? ⟨w.heap.size, 2, none⟩ = some (.int .i64 m) := block_cell XD.out 2
    have D3 : v1.cell? ⟨w.heap.size, 3, none⟩ = some (.int .i64 d) := block_cell XD.out 3
    go_wp2_with fail
    go_ret
    exact ⟨ret_bool (by rw [t1]; rfl), HB.out⟩
theorem nm_ok {k n m d : Int} (h1 : fits .i64 k) (h2 : fits .i64 n) (h3 : fits .i64 m) (h4 : fits .i64 d) : NmOk (k, n, m, d) := ⟨fits_i64.1 h1, fits_i64.1 h2, fits_i64.1 h3, fits_i64.1 h4⟩
/-- The room of a right name, its table. -/
theorem right_nats {k n m d : Int} (h : rightB (k, n, m, d) = true) : ∃ N M : Nat, n = N ∧ m = M ∧ (k = 4 → roomN (k, n, m, d) = m) ∧ (k ≠ 4 → M = 0) := by
  obtain ⟨N', hN, hs, hd, hc⟩ := right_cases h
  rcases hc with ⟨rfl, hm⟩ | ⟨rfl, hm⟩ | ⟨rfl, hm, hq⟩ | ⟨rfl, M', lg, hM, h2, hlg, he, hle⟩
  · exact ⟨N', 0, hN, hm, fun h => absurd h (by omega), fun _ => rfl⟩
  · exact ⟨N', 0, hN, hm, fun h => absurd h (by omega), fun _ => rfl⟩
  · exact ⟨N', 0, hN, hm, fun h => absurd h (by omega), fun _ => rfl⟩
  · refine ⟨N', M', hN, hM, fun _ => ?_, fun h => absurd rfl h⟩
    unfold roomN
    rw [if_neg (by rw [h]; simp), if_neg (by simp), if_pos (by simp)]
end Go.Proofs.Ytcckfeikaolfgaa

namespace Go.Proofs.Ytcckfeikaolfgaa
open Go.RowKit
set_option linter.unusedVariables false
set_option linter.unusedSimpArgs false
set_option maxRecDepth 100000
/-- May there be a table of such sides? -/
def Sides (a b : Int) : Prop := 1 ≤ a ∧ a ≤ 16777216 ∧ 1 ≤ b ∧ b ≤ 16777216 ∧ a * b ≤ 16777216
instance (a b : Int) : Decidable (Sides a b) := by unfold Sides; infer_instance
end Go.Proofs.Ytcckfeikaolfgaa

namespace Go.Proofs.Ytcckfeikaolfgaa
open Go.RowKit Sm
set_option linter.unusedVariables false
set_option linter.unusedSimpArgs false
set_option maxRecDepth 100000
set_option maxHeartbeats 1000000 in
theorem fill_no (k n m d : Int) (a : Option Addr) (c cap : Nat) (w : World) (hx : NmOk (k, n, m, d)) (hr : rightB (k, n, m, d) = false) :
    Calls Try.prog 17 #[.agg #[.int .i64 k, .int .i64 n, .int .i64 m, .int .i64 d], .slice a c cap] w fun e w' => e = .returned (.int .i64 2) ∧ Below w.heap.size w w' := by
  have CR : Hid (∀ W, Calls Try.prog 38 #[.agg #[.int .i64 k, .int .i64 n, .int .i64 m, .int .i64 d]] W fun e w' => e = .returned (.bool false) ∧ Below W.heap.size W w') := fun W => by rw [← hr]; exact need_Right k n m d W hx
  clear hx hr
  obtain ⟨W0, hW0, hb0, x0⟩ := box_any w #[.int .i64 k, .int .i64 n, .int .i64 m, .int .i64 d] 23
  have HW0 := Lib.hid hW0
  have HB := Lib.hid hb0
  have XD := Lib.hid x0
  have D0 : W0.cell? ⟨w.heap.size, 0, none⟩ = some (.int .i64 k) := block_cell XD.out 0
  have D1 : W0.cell? ⟨w.heap.size, 1, none⟩ = some (.int .i64 n) := block_cell XD.out 1
  have D2 : W0.cell? ⟨w.heap.size, 2, none⟩ = some (.int .i64 m) := block_cell XD.out 2
  have D3 : W0.cell? ⟨w.heap.size, 3, none⟩ = some (.int .i64 d) := block_cell XD.out 3
  go_enter Try.func17, Try.ntmps17
  clear hW0 hb0 x0
  go_wp2_with fail
  rw [HW0.out]
  refine (CR.out _).mono ?_; rintro e v1 ⟨rfl, hb1⟩
  clear D0 D1 D2 D3
  have XD := Lib.hid ((hb1.block _ (block_lt XD.out)).trans XD.out)
  have HB := Lib.hid (chain HB.out hb1)
  clear hb1
  go_wp2_with fail
  go_ret
  exact ⟨rfl, HB.out⟩
set_option maxHeartbeats 1000000 in
theorem fill_len (k n m d : Int) (a : Option Addr) (c cap : Nat) (w : World) (hx : NmOk (k, n, m, d)) (hr : rightB (k, n, m, d) = true) (hc : (c : Int) ≠ roomN (k, n, m, d)) (hc2 : c ≤ 9223372036854775807) :
    Calls Try.prog 17 #[.agg #[.int .i64 k, .int .i64 n, .int .i64 m, .int .i64 d], .slice a c cap] w fun e w' => e = .returned (.int .i64 5) ∧ Below w.heap.size w w' := by
  have CR : Hid (∀ W, Calls Try.prog 38 #[.agg #[.int .i64 k, .int .i64 n, .int .i64 m, .int .i64 d]] W fun e w' => e = .returned (.bool true) ∧ Below W.heap.size W w') := fun W => by rw [← hr]; exact need_Right k n m d W hx
  have CM : Hid (∀ W, Calls Try.prog 55 #[.agg #[.int .i64 k, .int .i64 n, .int .i64 m, .int .i64 d]] W fun e w' => e = .returned (.int .i64 (roomN (k, n, m, d))) ∧ Below W.heap.size W w') := fun W => need_Room k n m d W hx
  obtain ⟨r, hrr⟩ : ∃ r, roomN (k, n, m, d) = r := ⟨_, rfl⟩
  rw [hrr] at CM hc
  have t1 : ((c : Int) != r) = true := bdiff hc
  clear hx hr hrr hc
  obtain ⟨W0, hW0, hb0, x0⟩ := box_any w #[.int .i64 k, .int .i64 n, .int .i64 m, .int .i64 d] 23
  have HW0 := Lib.hid hW0
  have HB := Lib.hid hb0
  have XD := Lib.hid x0
  have D0 : W0.cell? ⟨w.heap.size, 0, none⟩ = some (.int .i64 k) := block_cell XD.out 0
  have D1 : W0.cell? ⟨w.heap.size, 1, none⟩ = some (.int .i64 n) := block_cell XD.out 1
  have D2 : W0.cell? ⟨w.heap.size, 2, none⟩ = some (.int .i64 m) := block_cell XD.out 2
  have D3 : W0.cell? ⟨w.heap.size, 3, none⟩ = some (.int .i64 d) := block_cell XD.out 3
  go_enter Try.func17, Try.ntmps17
  clear hW0 hb0 x0
  go_wp2_with fail
  rw [HW0.out]
  refine (CR.out _).mono ?_; rintro e v1 ⟨rfl, hb1⟩
  clear D0 D1 D2 D3
  have XD := Lib.hid ((hb1.block _ (block_lt XD.out)).trans XD.out)
  have HB := Lib.hid (chain HB.out hb1)
  clear hb1
  have D0 : v1.cell? ⟨w.heap.size, 0, none⟩ = some (.int .i64 k) := block_cell XD.out 0
  have D1 : v1.cell? ⟨w.heap.size, 1, none⟩ = some (.int .i64 n) := block_cell XD.out 1
  have D2 : v1.cell? ⟨w.heap.size, 2, none⟩ = some (.int .i64 m) := block_cell XD.out 2
  have D3 : v1.cell? ⟨w.heap.size, 3, none⟩ = some (.int .i64 d) := block_cell XD.out 3
  go_wp2_with fail
  refine (CM.out _).mono ?_; rintro e v2 ⟨rfl, hb2⟩
  clear D0 D1 D2 D3
  have XD := Lib.hid ((hb2.block _ (block_lt XD.out)).trans XD.out)
  have HB := Lib.hid (chain HB.out hb2)
  clear hb2
  go_wp2_with fail
  go_ret
  exact ⟨rfl, HB.out⟩
/-- What an own row's block holds. -/
theorem own_block {w : World} {B : Nat} {e : TypeId} {a : Option Addr} {n cap : Nat} {xs : List Value} (h : w.ownsRow B e 1 (.slice a n cap) n xs) (hn : 0 < n) :
    ∃ g cur, a = some ⟨g, 0, none⟩ ∧ B ≤ g ∧ w.heap[g]? = some (.cells (cur : List Value).toArray e (0, 0)) ∧ n ≤ cap ∧ cap ≤ maxLen ∧ cur.length = cap ∧ cur.take n = xs := by
  rcases h.2 with ⟨_, h0⟩ | ⟨g, cap', cur, hv, hB, hg, h1, h2, h3, h4⟩
  · omega
  · simp only [Value.slice.injEq] at hv
    obtain ⟨rfl, _, rfl⟩ := hv
    exact ⟨g, cur.toList, rfl, hB, by simpa using hg, h1, h2, by simpa using h3, by simpa using h4⟩
/-- What a copy asks of its source. -/
def CopySrc (w : World) (dp : Option Addr) (g : Nat) (sp : Option Addr) (V : List Value) : Prop := 0 < V.length → dp = some ⟨g, 0, none⟩ ∧ ∃ ad, sp = some ad ∧ ∀ j v, V[j]? = some v → w.cell? (ad.add j) = some v
set_option maxHeartbeats 2000000 in
theorem fill_ok (k n m d : Int) (a : Option Addr) (c cap N M B : Nat) (vs : List Value) (w : World) (hx : NmOk (k, n, m, d)) (hr : rightB (k, n, m, d) = true) (hN : n = N) (hM : m = M) (hc : (c : Int) = roomN (k, n, m, d)) (hB : B ≤ w.heap.size) (hown : w.ownsRow B 34 1 (.slice a c cap) c vs) :
    Calls Try.prog 17 #[.agg #[.int .i64 k, .int .i64 n, .int .i64 m, .int .i64 d], .slice a c cap] w fun e w' => e = .returned (.int .i64 0) ∧ w'.ownsRow B 34 1 (.slice a c cap) c ((tblL k N M d).map (Value.int .u64)) ∧ Below B w w' := by
  have CR : Hid (∀ W, Calls Try.prog 38 #[.agg #[.int .i64 k, .int .i64 n, .int .i64 m, .int .i64 d]] W fun e w' => e = .returned (.bool true) ∧ Below W.heap.size W w') := fun W => by rw [← hr]; exact need_Right k n m d W hx
  have CO : Hid (∀ W, Calls Try.prog 55 #[.agg #[.int .i64 k, .int .i64 n, .int .i64 m, .int .i64 d]] W fun e w' => e = .returned (.int .i64 c) ∧ Below W.heap.size W w') := fun W => by rw [hc]; exact need_Room k n m d W hx
  have CM : Hid (∀ W, Calls Try.prog 10 #[.agg #[.int .i64 k, .int .i64 n, .int .i64 m, .int .i64 d]] W (GivesRowE .u64 (tblL k N M d) 0 W)) := fun W => table_Make k n m d N M W hx hr hN hM
  have hlr := room_right hr N M hN hM
  have hnz := tab_nz hr N M hN hM
  obtain ⟨X, hX⟩ : ∃ X, tblL k N M d = X := ⟨_, rfl⟩
  rw [hX] at CM hlr hnz ⊢
  have hlc : X.length = c := by have := hlr.1; omega
  have hc2 := hlr.2
  rw [hlc] at hc2
  have hc0 : 0 < c := by
    apply Nat.pos_of_ne_zero; intro e
    rw [e] at hlc
    rw [List.eq_nil_of_length_eq_zero hlc] at hnz
    cases hnz
  obtain ⟨g, cur, rfl, hBg, hg, h1, h2, h3, h4⟩ := own_block hown hc0
  have hgl : g < w.heap.size := block_lt hg
  obtain ⟨V, hV⟩ : ∃ V, X.map (Value.int .u64) = V := ⟨_, rfl⟩
  rw [hV]
  have HV := Lib.hid hV
  have HVL : Hid (V.length = c) := by unfold Hid; rw [← hV]; simpa using hlc
  have HV1 : Hid (∀ v ∈ V, v.oneCell' = true) := by unfold Hid; rw [← hV]; exact ints_oneCell _ _
  have HMN : Hid (V.length = Nat.min c c) := by unfold Hid; rw [HVL.out]; exact (Nat.min_self c).symm
  have HX := Lib.hid hlc
  have HG := Lib.hid hg
  have HC := Lib.hid h3
  have hinfo : (Try.prog.info? 34).map (·.size) = some 1 := by
    obtain ⟨i0, hi, hz0, hz1, hz2⟩ := info_parts info_u64
    rw [hi]; simp [hz1]
  have hq : ((c : Int) != (c : Int)) = false := bfalse' rfl
  clear hx hr hN hM hc hlr hnz hX hlc hown hg h3 h4 hV
  obtain ⟨W0, hW0, hb0, x0⟩ := box_any w #[.int .i64 k, .int .i64 n, .int .i64 m, .int .i64 d] 23
  have HW0 := Lib.hid hW0
  have HB := Lib.hid hb0
  have XD := Lib.hid x0
  have D0 : W0.cell? ⟨w.heap.size, 0, none⟩ = some (.int .i64 k) := block_cell XD.out 0
  have D1 : W0.cell? ⟨w.heap.size, 1, none⟩ = some (.int .i64 n) := block_cell XD.out 1
  have D2 : W0.cell? ⟨w.heap.size, 2, none⟩ = some (.int .i64 m) := block_cell XD.out 2
  have D3 : W0.cell? ⟨w.heap.size, 3, none⟩ = some (.int .i64 d) := block_cell XD.out 3
  go_enter Try.func17, Try.ntmps17
  have HBB : Hid (Below w.heap.size w W0) := hb0
  clear hW0 hb0 x0
  go_wp2_with fail
  rw [HW0.out]
  refine (CR.out _).mono ?_; rintro e v1 ⟨rfl, hb1⟩
  clear D0 D1 D2 D3
  have XD := Lib.hid ((hb1.block _ (block_lt XD.out)).trans XD.out)
  have HB := Lib.hid (chain HB.out hb1)
  clear hb1
  have D0 : v1.cell? ⟨w.heap.size, 0, none⟩ = some (.int .i64 k) := block_cell XD.out 0
  have D1 : v1.cell? ⟨w.heap.size, 1, none⟩ = some (.int .i64 n) := block_cell XD.out 1
  have D2 : v1.cell? ⟨w.heap.size, 2, none⟩ = some (.int .i64 m) := block_cell XD.out 2
  have D3 : v1.cell? ⟨w.heap.size, 3, none⟩ = some (.int .i64 d) := block_cell XD.out 3
  go_wp2_with fail
  refine (CO.out _).mono ?_; rintro e v2 ⟨rfl, hb2⟩
  clear D0 D1 D2 D3
  have XD := Lib.hid ((hb2.block _ (block_lt XD.out)).trans XD.out)
  have HB := Lib.hid (chain HB.out hb2)
  clear hb2
  have D0 : v2.cell? ⟨w.heap.size, 0, none⟩ = some (.int .i64 k) := block_cell XD.out 0
  have D1 : v2.cell? ⟨w.heap.size, 1, none⟩ = some (.int .i64 n) := block_cell XD.out 1
  have D2 : v2.cell? ⟨w.heap.size, 2, none⟩ = some (.int .i64 m) := block_cell XD.out 2
  have D3 : v2.cell? ⟨w.heap.size, 3, none⟩ = some (.int .i64 d) := block_cell XD.out 3
  go_wp2_with fail
  refine (CM.out _).mono ?_; rintro e v3 ⟨a1, cap1, rfl, hr1, hcap1, hb3⟩
  clear D0 D1 D2 D3
  have XD := Lib.hid ((hb3.block _ (block_lt XD.out)).trans XD.out)
  have HB := Lib.hid (chain HB.out hb3)
  rw [HX.out] at hcap1 ⊢
  have HR1 := Lib.hid hr1
  clear hr1 hcap1
  clear hb3
  have HGH := Lib.hid ((HB.out.block _ hgl).trans HG.out)
  have hsrc : CopySrc v3 (some ⟨g, 0, none⟩) g a1 V := fun h0 => by
    obtain ⟨b, off, rfl, hc⟩ := HR1.out.at (by rw [HX.out]; exact hc0)
    refine ⟨rfl, _, rfl, fun j v hj => ?_⟩
    have hjl : j < X.length := by have := (List.getElem?_eq_some_iff.1 hj).1; have := HVL.out; have := HX.out; omega
    have h3 := hc j hjl
    rw [← HV.out] at hj
    have h4 : v = .int .u64 (nth X j) := by
      simp [hjl] at hj
      rw [← hj]; simp [nth, hjl]
    rw [h4, ← h3]
    by_cases hj0 : j = 0
    · subst hj0; simp [Addr.add]
    · simp [Addr.add, hj0]
  have HBW : Hid (Below B w v3) := HB.out.mono hB
  go_wp2_with (refine wpList_copy_splice rfl _ _ 25 25 rfl 34 Try.underlying25 hinfo (some ⟨g, 0, none⟩) a1 c cap c cap1 (by rfl) (by rfl) g 0 cur 34 HGH.out V HMN.out hsrc (by have := HVL.out; have := HC.out; omega) HV1.out B w HBW.out hBg ?_)
  intro w9 HG9 hB9
  have hres : Hid (w9.ownsRow B 34 1 (.slice (some ⟨g, 0, none⟩) c cap) c V) := by
    refine ⟨by rw [HVL.out, Nat.mul_one], .inr ⟨g, cap, _, rfl, hBg, HG9.out, h1, h2, ?_, ?_⟩⟩
    · have := length_splice cur 0 V (by have := HVL.out; have := HC.out; omega)
      simp only [List.size_toArray, this, HC.out, Nat.mul_one]
    · simp only [splice, List.take_zero, List.nil_append, Nat.mul_one]
      rw [List.take_append_of_le_length (by rw [HVL.out]; exact Nat.le_refl _), ← HVL.out, List.take_length]
  have HB9 := Lib.hid hB9
  clear HG9 hB9
  go_wp2_with fail
  go_ret
  exact ⟨rfl, hres.out, HB9.out⟩
/-- An own row, as a row. -/
theorem own_as_row {w : World} {B : Nat} {a : Option Addr} {n cap : Nat} {xs : List Int} (hn : xs.length = n) (hl : n ≤ 16777216) (hf : ∀ x ∈ xs, fits .u64 x) (h : w.ownsRow B 34 1 (.slice a n cap) n (xs.map (Value.int .u64))) : Row .u64 w a xs :=
  Row.of_own hn (by omega) hf h
set_option maxHeartbeats 4000000 in
theorem tableFillsW (k n m d : Int) (a : Option Addr) (cap : Nat) (xs : List Int) (w : World) (h1 : fits .i64 k) (h2 : fits .i64 n) (h3 : fits .i64 m) (h4 : fits .i64 d) (hx0 : Row .u64 w a xs) (hoc : OkCap a xs.length cap) :
    Calls Try.prog 5 #[.agg #[.int .i64 k, .int .i64 n, .int .i64 m, .int .i64 d], .slice a xs.length cap] w fun e w' => e = .returned (.bool true) ∧ Below w.heap.size w w' := by
  obtain ⟨i0, hi, hz0, hz1, hz2⟩ := info_parts info_u64
  have hx := nm_ok h1 h2 h3 h4
  have hlen := hx0.len
  have hf0 := hx0.wf
  obtain ⟨c, hc⟩ : ∃ c, xs.length = c := ⟨_, rfl⟩
  rw [hc] at hlen hoc ⊢
  have HXX := Lib.hid hx0
  have HC := Lib.hid hc
  have HF0 := Lib.hid hf0
  have CR : Hid (∀ W, Calls Try.prog 9 #[.agg #[.int .i64 k, .int .i64 n, .int .i64 m, .int .i64 d]] W fun e w' => e = .returned (.bool (rightB (k, n, m, d))) ∧ Below W.heap.size W w') := fun W => ref15_Right k n m d W hx
  have CS : Hid (∀ W, Calls Try.prog 12 #[.agg #[.int .i64 k, .int .i64 n, .int .i64 m, .int .i64 d]] W fun e w' => e = .returned (.bool (decide (roomN (k, n, m, d) ≤ 140) && decide (n ≤ 140))) ∧ Below W.heap.size W w') := fun W => ref16_Small k n m d W hx
  have CRoom : Hid (∀ W, Calls Try.prog 18 #[.agg #[.int .i64 k, .int .i64 n, .int .i64 m, .int .i64 d]] W fun e w' => e = .returned (.int .i64 (roomN (k, n, m, d))) ∧ Below W.heap.size W w') := fun W => ref15_Room k n m d W hx
  clear hx0 hc hf0
  by_cases hbig : 200 < c
  · clear CR CS CRoom
    obtain ⟨W0, hW0, hb0, x0⟩ := box_any w #[.int .i64 k, .int .i64 n, .int .i64 m, .int .i64 d] 23
    have HW0 := Lib.hid hW0
    have HB := Lib.hid hb0
    have XD := Lib.hid x0
    have D0 : W0.cell? ⟨w.heap.size, 0, none⟩ = some (.int .i64 k) := block_cell XD.out 0
    have D1 : W0.cell? ⟨w.heap.size, 1, none⟩ = some (.int .i64 n) := block_cell XD.out 1
    have D2 : W0.cell? ⟨w.heap.size, 2, none⟩ = some (.int .i64 m) := block_cell XD.out 2
    have D3 : W0.cell? ⟨w.heap.size, 3, none⟩ = some (.int .i64 d) := block_cell XD.out 3
    go_enter Try.func5, Try.ntmps5
    clear hW0 hb0 x0
    go_wp2_with fail
    rw [HW0.out]
    refine (live16 _).mono ?_; rintro e v1 ⟨rfl, hb1⟩
    clear D0 D1 D2 D3
    have XD := Lib.hid ((hb1.block _ (block_lt XD.out)).trans XD.out)
    have HB := Lib.hid (chain HB.out hb1)
    clear hb1
    go_wp2_with fail
    go_ret
    exact ⟨rfl, HB.out⟩
  have hsm : c ≤ 200 := by omega
  have hsmi : decide ((c : Int) > 200) = false := by simp; omega
  cases hr : rightB (k, n, m, d) with
  | false =>
    have CF : Hid (∀ (a : Option Addr) (cap : Nat) (W : World), Calls Try.prog 17 #[.agg #[.int .i64 k, .int .i64 n, .int .i64 m, .int .i64 d], .slice a c cap] W fun e w' => e = .returned (.int .i64 2) ∧ Below W.heap.size W w') := fun a cap W => fill_no k n m d a c cap W hx hr
    rw [hr] at CR
    clear hr hx h1 h2 h3 h4 CS CRoom
    obtain ⟨W0, hW0, hb0, x0⟩ := box_any w #[.int .i64 k, .int .i64 n, .int .i64 m, .int .i64 d] 23
    have HW0 := Lib.hid hW0
    have HB := Lib.hid hb0
    have XD := Lib.hid x0
    have D0 : W0.cell? ⟨w.heap.size, 0, none⟩ = some (.int .i64 k) := block_cell XD.out 0
    have D1 : W0.cell? ⟨w.heap.size, 1, none⟩ = some (.int .i64 n) := block_cell XD.out 1
    have D2 : W0.cell? ⟨w.heap.size, 2, none⟩ = some (.int .i64 m) := block_cell XD.out 2
    have D3 : W0.cell? ⟨w.heap.size, 3, none⟩ = some (.int .i64 d) := block_cell XD.out 3
    go_enter Try.func5, Try.ntmps5
    clear hW0 hb0 x0
    go_wp2_with fail
    rw [HW0.out]
    refine (CR.out _).mono ?_; rintro e v1 ⟨rfl, hb1⟩
    clear D0 D1 D2 D3
    have XD := Lib.hid ((hb1.block _ (block_lt XD.out)).trans XD.out)
    have HB := Lib.hid (chain HB.out hb1)
    clear hb1
    have D0 : v1.cell? ⟨w.heap.size, 0, none⟩ = some (.int .i64 k) := block_cell XD.out 0
    have D1 : v1.cell? ⟨w.heap.size, 1, none⟩ = some (.int .i64 n) := block_cell XD.out 1
    have D2 : v1.cell? ⟨w.heap.size, 2, none⟩ = some (.int .i64 m) := block_cell XD.out 2
    have D3 : v1.cell? ⟨w.heap.size, 3, none⟩ = some (.int .i64 d) := block_cell XD.out 3
    have hsz1 : w.heap.size + 1 ≤ v1.heap.size := block_lt XD.out
    have hE := World.ownsRow_lit (base := w.heap.size + 1) (e := 34) (size := 1) v1 #[] 0 hsz1 (by unfold maxLen; omega) (by simp)
    have hrowE := Lib.hid (((HXX.out.below HB.out).below ((Below.refl _ _).alloc (Nat.le_refl _) (.cells #[] 34))))
    go_wp2_with (at_builtin; refine wpList_append_row rfl _ _ 25 rfl .u64 (w.heap.size + 1) 34 i0 (.int .u64 0) Try.underlying25 hi hz0 hz1 hz2 rfl _ 0 _ rfl hE a c cap xs rfl HC.out hrowE.out hoc.2 (by omega) (by simp; omega) ?_)
    intro v' w7 hown' hgrow
    have hb7 : Below w.heap.size w w7 := below_grown HB.out HB.out.size (fun k' hk => by simp only [Value.ownBlock, Option.some.injEq] at hk; have := HB.out.size; omega) hgrow
    try rw [Nat.zero_add] at hown'
    try simp only [Array.toList_empty, List.nil_append] at hown'
    obtain ⟨a7, cap7, rfl, hcap7⟩ := own_slice hown'
    have HO := Lib.hid hown'
    have XD7 := Lib.hid ((hgrow.block w.heap.size (by have := block_lt XD.out; simp; omega) (by simp only [Value.ownBlock, ne_eq, Option.some.injEq]; have := block_lt XD.out; omega)).trans ((((Below.refl _ _).alloc (Nat.le_refl _) (.cells #[] 34)).block w.heap.size (block_lt XD.out)).trans XD.out))
    have HB := Lib.hid hb7
    clear hE hrowE hown' hgrow hb7 XD
    clear D0 D1 D2 D3
    have XD := XD7
    clear XD7
    have D0 : w7.cell? ⟨w.heap.size, 0, none⟩ = some (.int .i64 k) := block_cell XD.out 0
    have D1 : w7.cell? ⟨w.heap.size, 1, none⟩ = some (.int .i64 n) := block_cell XD.out 1
    have D2 : w7.cell? ⟨w.heap.size, 2, none⟩ = some (.int .i64 m) := block_cell XD.out 2
    have D3 : w7.cell? ⟨w.heap.size, 3, none⟩ = some (.int .i64 d) := block_cell XD.out 3
    go_wp2_with fail
    refine (CF.out _ _ _).mono ?_; rintro e v2 ⟨rfl, hb2⟩
    clear D0 D1 D2 D3
    have HO := Lib.hid (own_later HO.out hb2)
    have XD := Lib.hid ((hb2.block _ (block_lt XD.out)).trans XD.out)
    have HB := Lib.hid (chain HB.out hb2)
    clear hb2
    have D0 : v2.cell? ⟨w.heap.size, 0, none⟩ = some (.int .i64 k) := block_cell XD.out 0
    have D1 : v2.cell? ⟨w.heap.size, 1, none⟩ = some (.int .i64 n) := block_cell XD.out 1
    have D2 : v2.cell? ⟨w.heap.size, 2, none⟩ = some (.int .i64 m) := block_cell XD.out 2
    have D3 : v2.cell? ⟨w.heap.size, 3, none⟩ = some (.int .i64 d) := block_cell XD.out 3
    go_wp2_with fail
    refine (CR.out _).mono ?_; rintro e v3 ⟨rfl, hb3⟩
    clear D0 D1 D2 D3
    have HO := Lib.hid (own_later HO.out hb3)
    have XD := Lib.hid ((hb3.block _ (block_lt XD.out)).trans XD.out)
    have HB := Lib.hid (chain HB.out hb3)
    clear hb3
    have hrx := own_as_row HC.out (by omega) HF0.out HO.out
    go_wp2_with fail
    refine (ref_SameT _ _ _ _ _ _ xs xs _ hrx (HXX.out.below HB.out) HC.out HC.out rfl).mono ?_; rintro e v4 ⟨rfl, hb4⟩
    have HO := Lib.hid (own_later HO.out hb4)
    have XD := Lib.hid ((hb4.block _ (block_lt XD.out)).trans XD.out)
    have HB := Lib.hid (chain HB.out hb4)
    clear hb4
    go_wp2_with fail
    refine (live16 _).mono ?_; rintro e v5 ⟨rfl, hb5⟩
    have HO := Lib.hid (own_later HO.out hb5)
    have XD := Lib.hid ((hb5.block _ (block_lt XD.out)).trans XD.out)
    have HB := Lib.hid (chain HB.out hb5)
    clear hb5
    go_wp2_with fail
    go_ret
    exact ⟨rfl, HB.out⟩
  | true =>
    rw [hr] at CR
    cases hs : (decide (roomN (k, n, m, d) ≤ 140) && decide (n ≤ 140)) with
    | false =>
      rw [hs] at CS
      clear hr hx h1 h2 h3 h4 hs CRoom
      obtain ⟨W0, hW0, hb0, x0⟩ := box_any w #[.int .i64 k, .int .i64 n, .int .i64 m, .int .i64 d] 23
      have HW0 := Lib.hid hW0
      have HB := Lib.hid hb0
      have XD := Lib.hid x0
      have D0 : W0.cell? ⟨w.heap.size, 0, none⟩ = some (.int .i64 k) := block_cell XD.out 0
      have D1 : W0.cell? ⟨w.heap.size, 1, none⟩ = some (.int .i64 n) := block_cell XD.out 1
      have D2 : W0.cell? ⟨w.heap.size, 2, none⟩ = some (.int .i64 m) := block_cell XD.out 2
      have D3 : W0.cell? ⟨w.heap.size, 3, none⟩ = some (.int .i64 d) := block_cell XD.out 3
      go_enter Try.func5, Try.ntmps5
      clear hW0 hb0 x0
      go_wp2_with fail
      rw [HW0.out]
      refine (CR.out _).mono ?_; rintro e v1 ⟨rfl, hb1⟩
      clear D0 D1 D2 D3
      have XD := Lib.hid ((hb1.block _ (block_lt XD.out)).trans XD.out)
      have HB := Lib.hid (chain HB.out hb1)
      clear hb1
      have D0 : v1.cell? ⟨w.heap.size, 0, none⟩ = some (.int .i64 k) := block_cell XD.out 0
      have D1 : v1.cell? ⟨w.heap.size, 1, none⟩ = some (.int .i64 n) := block_cell XD.out 1
      have D2 : v1.cell? ⟨w.heap.size, 2, none⟩ = some (.int .i64 m) := block_cell XD.out 2
      have D3 : v1.cell? ⟨w.heap.size, 3, none⟩ = some (.int .i64 d) := block_cell XD.out 3
      go_wp2_with fail
      refine (CS.out _).mono ?_; rintro e v2 ⟨rfl, hb2⟩
      clear D0 D1 D2 D3
      have XD := Lib.hid ((hb2.block _ (block_lt XD.out)).trans XD.out)
      have HB := Lib.hid (chain HB.out hb2)
      clear hb2
      go_wp2_with fail
      refine (live16 _).mono ?_; rintro e v3 ⟨rfl, hb3⟩
      have XD := Lib.hid ((hb3.block _ (block_lt XD.out)).trans XD.out)
      have HB := Lib.hid (chain HB.out hb3)
      clear hb3
      go_wp2_with fail
      go_ret
      exact ⟨rfl, HB.out⟩
    | true =>
      rw [hs] at CS
      simp only [Bool.and_eq_true, decide_eq_true_eq] at hs
      obtain ⟨N, M, hN, hM, h5, h6⟩ := right_nats hr
      by_cases hcr : (c : Int) = roomN (k, n, m, d)
      case neg =>
        have CF : Hid (∀ (a : Option Addr) (cap : Nat) (W : World), Calls Try.prog 17 #[.agg #[.int .i64 k, .int .i64 n, .int .i64 m, .int .i64 d], .slice a c cap] W fun e w' => e = .returned (.int .i64 5) ∧ Below W.heap.size W w') := fun a cap W => fill_len k n m d a c cap W hx hr hcr (by omega)
        obtain ⟨r, hrr⟩ : ∃ r, roomN (k, n, m, d) = r := ⟨_, rfl⟩
        rw [hrr] at CRoom hcr
        have t1 : ((c : Int) != r) = true := bdiff hcr
        clear hr hx h1 h2 h3 h4 hs hN hM h5 h6 hrr hcr
        obtain ⟨W0, hW0, hb0, x0⟩ := box_any w #[.int .i64 k, .int .i64 n, .int .i64 m, .int .i64 d] 23
        have HW0 := Lib.hid hW0
        have HB := Lib.hid hb0
        have XD := Lib.hid x0
        have D0 : W0.cell? ⟨w.heap.size, 0, none⟩ = some (.int .i64 k) := block_cell XD.out 0
        have D1 : W0.cell? ⟨w.heap.size, 1, none⟩ = some (.int .i64 n) := block_cell XD.out 1
        have D2 : W0.cell? ⟨w.heap.size, 2, none⟩ = some (.int .i64 m) := block_cell XD.out 2
        have D3 : W0.cell? ⟨w.heap.size, 3, none⟩ = some (.int .i64 d) := block_cell XD.out 3
        go_enter Try.func5, Try.ntmps5
        clear hW0 hb0 x0
        go_wp2_with fail
        rw [HW0.out]
        refine (CR.out _).mono ?_; rintro e v1 ⟨rfl, hb1⟩
        clear D0 D1 D2 D3
        have XD := Lib.hid ((hb1.block _ (block_lt XD.out)).trans XD.out)
        have HB := Lib.hid (chain HB.out hb1)
        clear hb1
        have D0 : v1.cell? ⟨w.heap.size, 0, none⟩ = some (.int .i64 k) := block_cell XD.out 0
        have D1 : v1.cell? ⟨w.heap.size, 1, none⟩ = some (.int .i64 n) := block_cell XD.out 1
        have D2 : v1.cell? ⟨w.heap.size, 2, none⟩ = some (.int .i64 m) := block_cell XD.out 2
        have D3 : v1.cell? ⟨w.heap.size, 3, none⟩ = some (.int .i64 d) := block_cell XD.out 3
        go_wp2_with fail
        refine (CS.out _).mono ?_; rintro e v2 ⟨rfl, hb2⟩
        clear D0 D1 D2 D3
        have XD := Lib.hid ((hb2.block _ (block_lt XD.out)).trans XD.out)
        have HB := Lib.hid (chain HB.out hb2)
        clear hb2
        have D0 : v2.cell? ⟨w.heap.size, 0, none⟩ = some (.int .i64 k) := block_cell XD.out 0
        have D1 : v2.cell? ⟨w.heap.size, 1, none⟩ = some (.int .i64 n) := block_cell XD.out 1
        have D2 : v2.cell? ⟨w.heap.size, 2, none⟩ = some (.int .i64 m) := block_cell XD.out 2
        have D3 : v2.cell? ⟨w.heap.size, 3, none⟩ = some (.int .i64 d) := block_cell XD.out 3
        have hsz1 : w.heap.size + 1 ≤ v2.heap.size := block_lt XD.out
        have hE := World.ownsRow_lit (base := w.heap.size + 1) (e := 34) (size := 1) v2 #[] 0 hsz1 (by unfold maxLen; omega) (by simp)
        have hrowE := Lib.hid (((HXX.out.below HB.out).below ((Below.refl _ _).alloc (Nat.le_refl _) (.cells #[] 34))))
        go_wp2_with (at_builtin; refine wpList_append_row rfl _ _ 25 rfl .u64 (w.heap.size + 1) 34 i0 (.int .u64 0) Try.underlying25 hi hz0 hz1 hz2 rfl _ 0 _ rfl hE a c cap xs rfl HC.out hrowE.out hoc.2 (by omega) (by simp; omega) ?_)
        intro v' w7 hown' hgrow
        have hb7 : Below w.heap.size w w7 := below_grown HB.out HB.out.size (fun k' hk => by simp only [Value.ownBlock, Option.some.injEq] at hk; have := HB.out.size; omega) hgrow
        try rw [Nat.zero_add] at hown'
        try simp only [Array.toList_empty, List.nil_append] at hown'
        obtain ⟨a7, cap7, rfl, hcap7⟩ := own_slice hown'
        have HO := Lib.hid hown'
        have XD7 := Lib.hid ((hgrow.block w.heap.size (by have := block_lt XD.out; simp; omega) (by simp only [Value.ownBlock, ne_eq, Option.some.injEq]; have := block_lt XD.out; omega)).trans ((((Below.refl _ _).alloc (Nat.le_refl _) (.cells #[] 34)).block w.heap.size (block_lt XD.out)).trans XD.out))
        have HB := Lib.hid hb7
        clear hE hrowE hown' hgrow hb7 XD
        clear D0 D1 D2 D3
        have XD := XD7
        clear XD7
        have D0 : w7.cell? ⟨w.heap.size, 0, none⟩ = some (.int .i64 k) := block_cell XD.out 0
        have D1 : w7.cell? ⟨w.heap.size, 1, none⟩ = some (.int .i64 n) := block_cell XD.out 1
        have D2 : w7.cell? ⟨w.heap.size, 2, none⟩ = some (.int .i64 m) := block_cell XD.out 2
        have D3 : w7.cell? ⟨w.heap.size, 3, none⟩ = some (.int .i64 d) := block_cell XD.out 3
        go_wp2_with fail
        refine (CF.out _ _ _).mono ?_; rintro e v3 ⟨rfl, hb3⟩
        clear D0 D1 D2 D3
        have HO := Lib.hid (own_later HO.out hb3)
        have XD := Lib.hid ((hb3.block _ (block_lt XD.out)).trans XD.out)
        have HB := Lib.hid (chain HB.out hb3)
        clear hb3
        have D0 : v3.cell? ⟨w.heap.size, 0, none⟩ = some (.int .i64 k) := block_cell XD.out 0
        have D1 : v3.cell? ⟨w.heap.size, 1, none⟩ = some (.int .i64 n) := block_cell XD.out 1
        have D2 : v3.cell? ⟨w.heap.size, 2, none⟩ = some (.int .i64 m) := block_cell XD.out 2
        have D3 : v3.cell? ⟨w.heap.size, 3, none⟩ = some (.int .i64 d) := block_cell XD.out 3
        go_wp2_with fail
        refine (CR.out _).mono ?_; rintro e v4 ⟨rfl, hb4⟩
        clear D0 D1 D2 D3
        have HO := Lib.hid (own_later HO.out hb4)
        have XD := Lib.hid ((hb4.block _ (block_lt XD.out)).trans XD.out)
        have HB := Lib.hid (chain HB.out hb4)
        clear hb4
        have D0 : v4.cell? ⟨w.heap.size, 0, none⟩ = some (.int .i64 k) := block_cell XD.out 0
        have D1 : v4.cell? ⟨w.heap.size, 1, none⟩ = some (.int .i64 n) := block_cell XD.out 1
        have D2 : v4.cell? ⟨w.heap.size, 2, none⟩ = some (.int .i64 m) := block_cell XD.out 2
        have D3 : v4.cell? ⟨w.heap.size, 3, none⟩ = some (.int .i64 d) := block_cell XD.out 3
        go_wp2_with fail
        refine (CRoom.out _).mono ?_; rintro e v5 ⟨rfl, hb5⟩
        clear D0 D1 D2 D3
        have HO := Lib.hid (own_later HO.out hb5)
        have XD := Lib.hid ((hb5.block _ (block_lt XD.out)).trans XD.out)
        have HB := Lib.hid (chain HB.out hb5)
        clear hb5
        have hrx := own_as_row HC.out (by omega) HF0.out HO.out
        go_wp2_with fail
        refine (ref_SameT _ _ _ _ _ _ xs xs _ hrx (HXX.out.below HB.out) HC.out HC.out rfl).mono ?_; rintro e v6 ⟨rfl, hb6⟩
        have HO := Lib.hid (own_later HO.out hb6)
        have XD := Lib.hid ((hb6.block _ (block_lt XD.out)).trans XD.out)
        have HB := Lib.hid (chain HB.out hb6)
        clear hb6
        go_wp2_with fail
        refine (live16 _).mono ?_; rintro e v7 ⟨rfl, hb7⟩
        have HO := Lib.hid (own_later HO.out hb7)
        have XD := Lib.hid ((hb7.block _ (block_lt XD.out)).trans XD.out)
        have HB := Lib.hid (chain HB.out hb7)
        clear hb7
        go_wp2_with fail
        go_ret
        exact ⟨rfl, HB.out⟩
      have hM1 : M ≤ 140 := by
        by_cases hk : k = 4
        · have := h5 hk; omega
        · have := h6 hk; omega
      have CF : Hid (∀ (a : Option Addr) (cap : Nat) (vs : List Value) (W : World), w.heap.size + 1 ≤ W.heap.size → W.ownsRow (w.heap.size + 1) 34 1 (.slice a c cap) c vs → Calls Try.prog 17 #[.agg #[.int .i64 k, .int .i64 n, .int .i64 m, .int .i64 d], .slice a c cap] W fun e w' => e = .returned (.int .i64 0) ∧ w'.ownsRow (w.heap.size + 1) 34 1 (.slice a c cap) c ((tblL k N M d).map (Value.int .u64)) ∧ Below (w.heap.size + 1) W w') := fun a cap vs W hB ho => fill_ok k n m d a c cap N M (w.heap.size + 1) vs W hx hr hN hM hcr hB ho
      have CM : Hid (∀ W, Calls Try.prog 14 #[.agg #[.int .i64 k, .int .i64 n, .int .i64 m, .int .i64 d]] W (GivesRow .u64 (tblL k N M d) W)) := fun W => ref16_Make k n m d N M W hr hN hM (by omega) hM1
      have hlr := room_right hr N M hN hM
      have HTF : Hid (∀ x ∈ tblL k N M d, fits .u64 x) := red_fits (red_tab k N M d)
      obtain ⟨X, hX⟩ : ∃ X, tblL k N M d = X := ⟨_, rfl⟩
      rw [hX] at CM CF hlr HTF
      have HXL : Hid (X.length = c) := by unfold Hid; have := hlr.1; omega
      obtain ⟨r, hrr⟩ : ∃ r, roomN (k, n, m, d) = r := ⟨_, rfl⟩
      rw [hrr] at CRoom hcr
      subst hcr
      have t1 : ((c : Int) != (c : Int)) = false := bfalse' rfl
      clear hr hx h1 h2 h3 h4 hs hN hM h5 h6 hrr hlr hX hM1
      obtain ⟨W0, hW0, hb0, x0⟩ := box_any w #[.int .i64 k, .int .i64 n, .int .i64 m, .int .i64 d] 23
      have HW0 := Lib.hid hW0
      have HB := Lib.hid hb0
      have XD := Lib.hid x0
      have D0 : W0.cell? ⟨w.heap.size, 0, none⟩ = some (.int .i64 k) := block_cell XD.out 0
      have D1 : W0.cell? ⟨w.heap.size, 1, none⟩ = some (.int .i64 n) := block_cell XD.out 1
      have D2 : W0.cell? ⟨w.heap.size, 2, none⟩ = some (.int .i64 m) := block_cell XD.out 2
      have D3 : W0.cell? ⟨w.heap.size, 3, none⟩ = some (.int .i64 d) := block_cell XD.out 3
      go_enter Try.func5, Try.ntmps5
      clear hW0 hb0 x0
      go_wp2_with fail
      rw [HW0.out]
      refine (CR.out _).mono ?_; rintro e v1 ⟨rfl, hb1⟩
      clear D0 D1 D2 D3
      have XD := Lib.hid ((hb1.block _ (block_lt XD.out)).trans XD.out)
      have HB := Lib.hid (chain HB.out hb1)
      clear hb1
      have D0 : v1.cell? ⟨w.heap.size, 0, none⟩ = some (.int .i64 k) := block_cell XD.out 0
      have D1 : v1.cell? ⟨w.heap.size, 1, none⟩ = some (.int .i64 n) := block_cell XD.out 1
      have D2 : v1.cell? ⟨w.heap.size, 2, none⟩ = some (.int .i64 m) := block_cell XD.out 2
      have D3 : v1.cell? ⟨w.heap.size, 3, none⟩ = some (.int .i64 d) := block_cell XD.out 3
      go_wp2_with fail
      refine (CS.out _).mono ?_; rintro e v2 ⟨rfl, hb2⟩
      clear D0 D1 D2 D3
      have XD := Lib.hid ((hb2.block _ (block_lt XD.out)).trans XD.out)
      have HB := Lib.hid (chain HB.out hb2)
      clear hb2
      have D0 : v2.cell? ⟨w.heap.size, 0, none⟩ = some (.int .i64 k) := block_cell XD.out 0
      have D1 : v2.cell? ⟨w.heap.size, 1, none⟩ = some (.int .i64 n) := block_cell XD.out 1
      have D2 : v2.cell? ⟨w.heap.size, 2, none⟩ = some (.int .i64 m) := block_cell XD.out 2
      have D3 : v2.cell? ⟨w.heap.size, 3, none⟩ = some (.int .i64 d) := block_cell XD.out 3
      have hsz1 : w.heap.size + 1 ≤ v2.heap.size := block_lt XD.out
      have hE := World.ownsRow_lit (base := w.heap.size + 1) (e := 34) (size := 1) v2 #[] 0 hsz1 (by unfold maxLen; omega) (by simp)
      have hrowE := Lib.hid (((HXX.out.below HB.out).below ((Below.refl _ _).alloc (Nat.le_refl _) (.cells #[] 34))))
      go_wp2_with (at_builtin; refine wpList_append_row rfl _ _ 25 rfl .u64 (w.heap.size + 1) 34 i0 (.int .u64 0) Try.underlying25 hi hz0 hz1 hz2 rfl _ 0 _ rfl hE a c cap xs rfl HC.out hrowE.out hoc.2 (by omega) (by simp; omega) ?_)
      intro v' w7 hown' hgrow
      have hb7 : Below w.heap.size w w7 := below_grown HB.out HB.out.size (fun k' hk => by simp only [Value.ownBlock, Option.some.injEq] at hk; have := HB.out.size; omega) hgrow
      try rw [Nat.zero_add] at hown'
      try simp only [Array.toList_empty, List.nil_append] at hown'
      obtain ⟨a7, cap7, rfl, hcap7⟩ := own_slice hown'
      have HO := Lib.hid hown'
      have XD7 := Lib.hid ((hgrow.block w.heap.size (by have := block_lt XD.out; simp; omega) (by simp only [Value.ownBlock, ne_eq, Option.some.injEq]; have := block_lt XD.out; omega)).trans ((((Below.refl _ _).alloc (Nat.le_refl _) (.cells #[] 34)).block w.heap.size (block_lt XD.out)).trans XD.out))
      have HB := Lib.hid hb7
      clear hE hrowE hown' hgrow hb7 XD
      clear D0 D1 D2 D3
      have XD := XD7
      clear XD7
      have D0 : w7.cell? ⟨w.heap.size, 0, none⟩ = some (.int .i64 k) := block_cell XD.out 0
      have D1 : w7.cell? ⟨w.heap.size, 1, none⟩ = some (.int .i64 n) := block_cell XD.out 1
      have D2 : w7.cell? ⟨w.heap.size, 2, none⟩ = some (.int .i64 m) := block_cell XD.out 2
      have D3 : w7.cell? ⟨w.heap.size, 3, none⟩ = some (.int .i64 d) := block_cell XD.out 3
      go_wp2_with fail
      refine (CF.out _ _ _ _ (by have := block_lt XD.out; omega) HO.out).mono ?_; rintro e w8 ⟨rfl, ho8, hb8⟩
      have HB := Lib.hid (HB.out.trans (hb8.mono (by omega)))
      have XD := Lib.hid ((hb8.block w.heap.size (by omega)).trans XD.out)
      have HO := Lib.hid ho8
      clear ho8 hb8
      clear D0 D1 D2 D3
      have D0 : w8.cell? ⟨w.heap.size, 0, none⟩ = some (.int .i64 k) := block_cell XD.out 0
      have D1 : w8.cell? ⟨w.heap.size, 1, none⟩ = some (.int .i64 n) := block_cell XD.out 1
      have D2 : w8.cell? ⟨w.heap.size, 2, none⟩ = some (.int .i64 m) := block_cell XD.out 2
      have D3 : w8.cell? ⟨w.heap.size, 3, none⟩ = some (.int .i64 d) := block_cell XD.out 3
      go_wp2_with fail
      refine (CR.out _).mono ?_; rintro e y3 ⟨rfl, hb3⟩
      clear D0 D1 D2 D3
      have HO := Lib.hid (own_later HO.out hb3)
      have XD := Lib.hid ((hb3.block _ (block_lt XD.out)).trans XD.out)
      have HB := Lib.hid (chain HB.out hb3)
      clear hb3
      have D0 : y3.cell? ⟨w.heap.size, 0, none⟩ = some (.int .i64 k) := block_cell XD.out 0
      have D1 : y3.cell? ⟨w.heap.size, 1, none⟩ = some (.int .i64 n) := block_cell XD.out 1
      have D2 : y3.cell? ⟨w.heap.size, 2, none⟩ = some (.int .i64 m) := block_cell XD.out 2
      have D3 : y3.cell? ⟨w.heap.size, 3, none⟩ = some (.int .i64 d) := block_cell XD.out 3
      go_wp2_with fail
      refine (CRoom.out _).mono ?_; rintro e y4 ⟨rfl, hb4⟩
      clear D0 D1 D2 D3
      have HO := Lib.hid (own_later HO.out hb4)
      have XD := Lib.hid ((hb4.block _ (block_lt XD.out)).trans XD.out)
      have HB := Lib.hid (chain HB.out hb4)
      clear hb4
      have D0 : y4.cell? ⟨w.heap.size, 0, none⟩ = some (.int .i64 k) := block_cell XD.out 0
      have D1 : y4.cell? ⟨w.heap.size, 1, none⟩ = some (.int .i64 n) := block_cell XD.out 1
      have D2 : y4.cell? ⟨w.heap.size, 2, none⟩ = some (.int .i64 m) := block_cell XD.out 2
      have D3 : y4.cell? ⟨w.heap.size, 3, none⟩ = some (.int .i64 d) := block_cell XD.out 3
      go_wp2_with fail
      refine (CM.out _).mono ?_; rintro e y5 ⟨a2, cap2, rfl, hr2, hcap2, hb5⟩
      clear D0 D1 D2 D3
      have HO := Lib.hid (own_later HO.out hb5)
      have XD := Lib.hid ((hb5.block _ (block_lt XD.out)).trans XD.out)
      have HB := Lib.hid (chain HB.out hb5)
      rw [HXL.out] at hcap2 ⊢
      have HR2 := Lib.hid hr2
      clear hr2 hcap2
      clear hb5
      have hrx := own_as_row HXL.out (by omega) HTF.out HO.out
      go_wp2_with fail
      refine (ref_SameT _ _ _ _ _ _ X X _ hrx HR2.out HXL.out HXL.out rfl).mono ?_; rintro e y6 ⟨rfl, hb6⟩
      have HO := Lib.hid (own_later HO.out hb6)
      have XD := Lib.hid ((hb6.block _ (block_lt XD.out)).trans XD.out)
      have HR2 := Lib.hid (HR2.out.below hb6)
      have HB := Lib.hid (chain HB.out hb6)
      clear hb6
      go_wp2_with fail
      refine (live16 _).mono ?_; rintro e y7 ⟨rfl, hb7⟩
      have HO := Lib.hid (own_later HO.out hb7)
      have XD := Lib.hid ((hb7.block _ (block_lt XD.out)).trans XD.out)
      have HR2 := Lib.hid (HR2.out.below hb7)
      have HB := Lib.hid (chain HB.out hb7)
      clear hb7
      go_wp2_with fail
      go_ret
      exact ⟨rfl, HB.out⟩
end Go.Proofs.Ytcckfeikaolfgaa

