/- Contracts: names of tables: right ones, their room, how they stand to each other. The program and the reference. -/
import Derived.Test.YtncikklhchimdaaNeedL
import Derived.Test.YtncikklhchimdaaCostG
namespace Go.Proofs.Ytncikklhchimdaa
open Go.RowKit
set_option linter.unusedVariables false
set_option linter.unusedSimpArgs false
set_option maxRecDepth 100000
set_option maxRecDepth 20000

/-- Four numbers that may be. -/
def NmOk (x : Nm) : Prop := (-9223372036854775808 ≤ x.1 ∧ x.1 < 9223372036854775808) ∧ (-9223372036854775808 ≤ x.2.1 ∧ x.2.1 < 9223372036854775808) ∧ (-9223372036854775808 ≤ x.2.2.1 ∧ x.2.2.1 < 9223372036854775808) ∧ (-9223372036854775808 ≤ x.2.2.2 ∧ x.2.2.2 < 9223372036854775808)

set_option maxHeartbeats 4000000 in
theorem need_Right (k n m d : Int) (w : World) (hx : NmOk (k, n, m, d)) :
    Calls Try.prog 46 #[.agg #[.int .i64 k, .int .i64 n, .int .i64 m, .int .i64 d]] w fun e w' => e = .returned (.bool (rightB (k, n, m, d))) ∧ Below w.heap.size w w' := by
  obtain ⟨hk, hn, hm, hd⟩ := hx
  simp only at hk hn hm hd
  obtain ⟨W0, hW0, hb0, x0⟩ := box_any w #[.int .i64 k, .int .i64 n, .int .i64 m, .int .i64 d] 57
  have HW0 := Lib.hid hW0
  have HB := Lib.hid hb0
  have D0 : W0.cell? ⟨w.heap.size, 0, none⟩ = some (.int .i64 k) := block_cell x0 0
  have D1 : W0.cell? ⟨w.heap.size, 1, none⟩ = some (.int .i64 n) := block_cell x0 1
  have D2 : W0.cell? ⟨w.heap.size, 2, none⟩ = some (.int .i64 m) := block_cell x0 2
  have D3 : W0.cell? ⟨w.heap.size, 3, none⟩ = some (.int .i64 d) := block_cell x0 3
  clear hW0 hb0 x0
  by_cases hsz : hasSz n = true
  case neg =>
    have hsz' : hasSz n = false := by simpa using hsz
    have HS : Hid (∀ W, Calls Try.prog 59 #[.int .i64 n] W fun e w' => e = .returned (.bool false) ∧ W = w') := fun W => rootHas_no n W hsz' hn
    have HV : Hid (rightB (k, n, m, d) = false) := by simp [Hid, rightB, hsz']
    clear hsz hsz'
    go_enter Try.func46, Try.ntmps46
    go_wp2_with fail
    rw [HW0.out]
    refine (HS.out _).mono ?_; rintro e w1 ⟨rfl, rfl⟩
    go_wp2_with fail
    go_ret
    exact ⟨ret_bool HV.out.symm, HB.out⟩
  have HS : Hid (∀ W, Calls Try.prog 59 #[.int .i64 n] W fun e w' => e = .returned (.bool true) ∧ W = w') := fun W => rootHas_yes n W hsz
  have hnb := hasSz_bd hsz
  by_cases hdd : d = 0 ∨ d = 1
  case neg =>
    have HV : Hid (rightB (k, n, m, d) = false) := by simp [Hid, rightB, hdd]
    have t0 : (d != 0) = true := bdiff (by omega)
    have t1 : (d != 1) = true := bdiff (by omega)
    clear hsz hdd
    go_enter Try.func46, Try.ntmps46
    go_wp2_with fail
    rw [HW0.out]
    refine (HS.out _).mono ?_; rintro e w1 ⟨rfl, rfl⟩
    go_wp2_with fail
    go_ret
    exact ⟨ret_bool HV.out.symm, HB.out⟩
  have HD : Hid (decide (d = 0 ∨ d = 1) = true) := decide_eq_true hdd
  have HZ := Lib.hid hsz
  rcases hdd with rfl | rfl

  · clear hsz
    rcases (show k = 1 ∨ k = 2 ∨ k = 3 ∨ k = 4 ∨ (k ≠ 1 ∧ k ≠ 2 ∧ k ≠ 3 ∧ k ≠ 4) by omega) with rfl | rfl | rfl | rfl | ⟨k1, k2, k3, k4⟩
    · by_cases hm0 : m = 0
      · subst hm0
        have HV : Hid (rightB (1, n, 0, 0) = true) := by unfold Hid rightB; simp only [HZ.out]; simp
        clear HZ HD
        go_enter Try.func46, Try.ntmps46
        go_wp2_with fail
        rw [HW0.out]
        refine (HS.out _).mono ?_; rintro e w1 ⟨rfl, rfl⟩
        go_wp2_with fail
        go_ret
        exact ⟨ret_bool HV.out.symm, HB.out⟩
      · have t2 : (m == 0) = false := bno hm0
        have HV : Hid (rightB (1, n, m, 0) = false) := by unfold Hid rightB; simp only [HZ.out]; simp [hm0]
        clear HZ HD hm0
        go_enter Try.func46, Try.ntmps46
        go_wp2_with fail
        rw [HW0.out]
        refine (HS.out _).mono ?_; rintro e w1 ⟨rfl, rfl⟩
        go_wp2_with fail
        go_ret
        exact ⟨ret_bool HV.out.symm, HB.out⟩
    · by_cases hm0 : m = 0
      · subst hm0
        have HV : Hid (rightB (2, n, 0, 0) = true) := by unfold Hid rightB; simp only [HZ.out]; simp
        clear HZ HD
        go_enter Try.func46, Try.ntmps46
        go_wp2_with fail
        rw [HW0.out]
        refine (HS.out _).mono ?_; rintro e w1 ⟨rfl, rfl⟩
        go_wp2_with fail
        go_ret
        exact ⟨ret_bool HV.out.symm, HB.out⟩
      · have t2 : (m == 0) = false := bno hm0
        have HV : Hid (rightB (2, n, m, 0) = false) := by unfold Hid rightB; simp only [HZ.out]; simp [hm0]
        clear HZ HD hm0
        go_enter Try.func46, Try.ntmps46
        go_wp2_with fail
        rw [HW0.out]
        refine (HS.out _).mono ?_; rintro e w1 ⟨rfl, rfl⟩
        go_wp2_with fail
        go_ret
        exact ⟨ret_bool HV.out.symm, HB.out⟩
    · by_cases hm0 : m = 0
      · subst hm0
        by_cases h3 : 3 ≤ n
        · have t3 : decide (n ≥ 3) = true := by simp; omega
          obtain ⟨P, hP⟩ : ∃ P, isPr n = P := ⟨_, rfl⟩
          have HP : Hid (∀ W, Calls Try.prog 64 #[.int .i64 n] W fun e w' => e = .returned (.bool P) ∧ Below W.heap.size W w') := fun W => by rw [← hP]; exact fact_Prime n W hn
          have HV : Hid (rightB (3, n, 0, 0) = P) := by unfold Hid rightB; simp only [HZ.out]; simp [h3, hP]
          clear HZ HD hP
          go_enter Try.func46, Try.ntmps46
          go_wp2_with fail
          rw [HW0.out]
          refine (HS.out _).mono ?_; rintro e w1 ⟨rfl, rfl⟩
          go_wp2_with fail
          refine (HP.out _).mono ?_; rintro e w2 ⟨rfl, hb2⟩
          have HB := Lib.hid (chain HB.out hb2)
          clear hb2 D0 D1 D2 D3
          go_wp2_with fail
          go_ret
          exact ⟨ret_bool HV.out.symm, HB.out⟩
        · have t3 : decide (n ≥ 3) = false := by simp; omega
          have HV : Hid (rightB (3, n, 0, 0) = false) := by unfold Hid rightB; simp only [HZ.out]; simp [h3]
          clear HZ HD h3
          go_enter Try.func46, Try.ntmps46
          go_wp2_with fail
          rw [HW0.out]
          refine (HS.out _).mono ?_; rintro e w1 ⟨rfl, rfl⟩
          go_wp2_with fail
          go_ret
          exact ⟨ret_bool HV.out.symm, HB.out⟩
      · have t2 : (m == 0) = false := bno hm0
        have HV : Hid (rightB (3, n, m, 0) = false) := by unfold Hid rightB; simp only [HZ.out]; simp [hm0]
        clear HZ HD hm0
        go_enter Try.func46, Try.ntmps46
        go_wp2_with fail
        rw [HW0.out]
        refine (HS.out _).mono ?_; rintro e w1 ⟨rfl, rfl⟩
        go_wp2_with fail
        go_ret
        exact ⟨ret_bool HV.out.symm, HB.out⟩
    · by_cases h2 : 2 ≤ n
      · have t4 : decide (n ≥ 2) = true := by simp; omega
        by_cases h5 : 2 * n - 1 ≤ m
        · have t5 : decide (m ≥ 2 * n - 1) = true := by simp; omega
          obtain ⟨P, hP⟩ : ∃ P, hasP2 m = P := ⟨_, rfl⟩
          have HP : Hid (∀ W, Calls Try.prog 61 #[.int .i64 m] W fun e w' => e = .returned (.bool P) ∧ W = w') := fun W => by rw [← hP]; exact stock_Has m W ⟨hm.1, by omega⟩
          have HV : Hid (rightB (4, n, m, 0) = P) := by unfold Hid rightB; simp only [HZ.out]; simp [h2, h5, hP]
          clear HZ HD hP
          go_enter Try.func46, Try.ntmps46
          go_wp2_with fail
          rw [HW0.out]
          refine (HS.out _).mono ?_; rintro e w1 ⟨rfl, rfl⟩
          go_wp2_with fail
          refine (HP.out _).mono ?_; rintro e w2 ⟨rfl, rfl⟩
          go_wp2_with fail
          go_ret
          exact ⟨ret_bool HV.out.symm, HB.out⟩
        · have t5 : decide (m ≥ 2 * n - 1) = false := by simp; omega
          have HV : Hid (rightB (4, n, m, 0) = false) := by unfold Hid rightB; simp only [HZ.out]; simp [h5]
          clear HZ HD h5
          go_enter Try.func46, Try.ntmps46
          go_wp2_with fail
          rw [HW0.out]
          refine (HS.out _).mono ?_; rintro e w1 ⟨rfl, rfl⟩
          go_wp2_with fail
          go_ret
          exact ⟨ret_bool HV.out.symm, HB.out⟩
      · have t4 : decide (n ≥ 2) = false := by simp; omega
        have HV : Hid (rightB (4, n, m, 0) = false) := by unfold Hid rightB; simp only [HZ.out]; simp [h2]
        clear HZ HD h2
        go_enter Try.func46, Try.ntmps46
        go_wp2_with fail
        rw [HW0.out]
        refine (HS.out _).mono ?_; rintro e w1 ⟨rfl, rfl⟩
        go_wp2_with fail
        go_ret
        exact ⟨ret_bool HV.out.symm, HB.out⟩
    · have u1 := bno k1
      have u2 := bno k2
      have u3 := bno k3
      have u4 := bno k4
      have HV : Hid (rightB (k, n, m, 0) = false) := by unfold Hid rightB; simp only [HZ.out]; simp [k1, k2, k3, k4]
      clear HZ HD k1 k2 k3 k4
      go_enter Try.func46, Try.ntmps46
      go_wp2_with fail
      rw [HW0.out]
      refine (HS.out _).mono ?_; rintro e w1 ⟨rfl, rfl⟩
      go_wp2_with fail
      go_ret
      exact ⟨ret_bool HV.out.symm, HB.out⟩

  · clear hsz
    rcases (show k = 1 ∨ k = 2 ∨ k = 3 ∨ k = 4 ∨ (k ≠ 1 ∧ k ≠ 2 ∧ k ≠ 3 ∧ k ≠ 4) by omega) with rfl | rfl | rfl | rfl | ⟨k1, k2, k3, k4⟩
    · by_cases hm0 : m = 0
      · subst hm0
        have HV : Hid (rightB (1, n, 0, 1) = true) := by unfold Hid rightB; simp only [HZ.out]; simp
        clear HZ HD
        go_enter Try.func46, Try.ntmps46
        go_wp2_with fail
        rw [HW0.out]
        refine (HS.out _).mono ?_; rintro e w1 ⟨rfl, rfl⟩
        go_wp2_with fail
        go_ret
        exact ⟨ret_bool HV.out.symm, HB.out⟩
      · have t2 : (m == 0) = false := bno hm0
        have HV : Hid (rightB (1, n, m, 1) = false) := by unfold Hid rightB; simp only [HZ.out]; simp [hm0]
        clear HZ HD hm0
        go_enter Try.func46, Try.ntmps46
        go_wp2_with fail
        rw [HW0.out]
        refine (HS.out _).mono ?_; rintro e w1 ⟨rfl, rfl⟩
        go_wp2_with fail
        go_ret
        exact ⟨ret_bool HV.out.symm, HB.out⟩
    · by_cases hm0 : m = 0
      · subst hm0
        have HV : Hid (rightB (2, n, 0, 1) = true) := by unfold Hid rightB; simp only [HZ.out]; simp
        clear HZ HD
        go_enter Try.func46, Try.ntmps46
        go_wp2_with fail
        rw [HW0.out]
        refine (HS.out _).mono ?_; rintro e w1 ⟨rfl, rfl⟩
        go_wp2_with fail
        go_ret
        exact ⟨ret_bool HV.out.symm, HB.out⟩
      · have t2 : (m == 0) = false := bno hm0
        have HV : Hid (rightB (2, n, m, 1) = false) := by unfold Hid rightB; simp only [HZ.out]; simp [hm0]
        clear HZ HD hm0
        go_enter Try.func46, Try.ntmps46
        go_wp2_with fail
        rw [HW0.out]
        refine (HS.out _).mono ?_; rintro e w1 ⟨rfl, rfl⟩
        go_wp2_with fail
        go_ret
        exact ⟨ret_bool HV.out.symm, HB.out⟩
    · by_cases hm0 : m = 0
      · subst hm0
        by_cases h3 : 3 ≤ n
        · have t3 : decide (n ≥ 3) = true := by simp; omega
          obtain ⟨P, hP⟩ : ∃ P, isPr n = P := ⟨_, rfl⟩
          have HP : Hid (∀ W, Calls Try.prog 64 #[.int .i64 n] W fun e w' => e = .returned (.bool P) ∧ Below W.heap.size W w') := fun W => by rw [← hP]; exact fact_Prime n W hn
          have HV : Hid (rightB (3, n, 0, 1) = P) := by unfold Hid rightB; simp only [HZ.out]; simp [h3, hP]
          clear HZ HD hP
          go_enter Try.func46, Try.ntmps46
          go_wp2_with fail
          rw [HW0.out]
          refine (HS.out _).mono ?_; rintro e w1 ⟨rfl, rfl⟩
          go_wp2_with fail
          refine (HP.out _).mono ?_; rintro e w2 ⟨rfl, hb2⟩
          have HB := Lib.hid (chain HB.out hb2)
          clear hb2 D0 D1 D2 D3
          go_wp2_with fail
          go_ret
          exact ⟨ret_bool HV.out.symm, HB.out⟩
        · have t3 : decide (n ≥ 3) = false := by simp; omega
          have HV : Hid (rightB (3, n, 0, 1) = false) := by unfold Hid rightB; simp only [HZ.out]; simp [h3]
          clear HZ HD h3
          go_enter Try.func46, Try.ntmps46
          go_wp2_with fail
          rw [HW0.out]
          refine (HS.out _).mono ?_; rintro e w1 ⟨rfl, rfl⟩
          go_wp2_with fail
          go_ret
          exact ⟨ret_bool HV.out.symm, HB.out⟩
      · have t2 : (m == 0) = false := bno hm0
        have HV : Hid (rightB (3, n, m, 1) = false) := by unfold Hid rightB; simp only [HZ.out]; simp [hm0]
        clear HZ HD hm0
        go_enter Try.func46, Try.ntmps46
        go_wp2_with fail
        rw [HW0.out]
        refine (HS.out _).mono ?_; rintro e w1 ⟨rfl, rfl⟩
        go_wp2_with fail
        go_ret
        exact ⟨ret_bool HV.out.symm, HB.out⟩
    · by_cases h2 : 2 ≤ n
      · have t4 : decide (n ≥ 2) = true := by simp; omega
        by_cases h5 : 2 * n - 1 ≤ m
        · have t5 : decide (m ≥ 2 * n - 1) = true := by simp; omega
          obtain ⟨P, hP⟩ : ∃ P, hasP2 m = P := ⟨_, rfl⟩
          have HP : Hid (∀ W, Calls Try.prog 61 #[.int .i64 m] W fun e w' => e = .returned (.bool P) ∧ W = w') := fun W => by rw [← hP]; exact stock_Has m W ⟨hm.1, by omega⟩
          have HV : Hid (rightB (4, n, m, 1) = P) := by unfold Hid rightB; simp only [HZ.out]; simp [h2, h5, hP]
          clear HZ HD hP
          go_enter Try.func46, Try.ntmps46
          go_wp2_with fail
          rw [HW0.out]
          refine (HS.out _).mono ?_; rintro e w1 ⟨rfl, rfl⟩
          go_wp2_with fail
          refine (HP.out _).mono ?_; rintro e w2 ⟨rfl, rfl⟩
          go_wp2_with fail
          go_ret
          exact ⟨ret_bool HV.out.symm, HB.out⟩
        · have t5 : decide (m ≥ 2 * n - 1) = false := by simp; omega
          have HV : Hid (rightB (4, n, m, 1) = false) := by unfold Hid rightB; simp only [HZ.out]; simp [h5]
          clear HZ HD h5
          go_enter Try.func46, Try.ntmps46
          go_wp2_with fail
          rw [HW0.out]
          refine (HS.out _).mono ?_; rintro e w1 ⟨rfl, rfl⟩
          go_wp2_with fail
          go_ret
          exact ⟨ret_bool HV.out.symm, HB.out⟩
      · have t4 : decide (n ≥ 2) = false := by simp; omega
        have HV : Hid (rightB (4, n, m, 1) = false) := by unfold Hid rightB; simp only [HZ.out]; simp [h2]
        clear HZ HD h2
        go_enter Try.func46, Try.ntmps46
        go_wp2_with fail
        rw [HW0.out]
        refine (HS.out _).mono ?_; rintro e w1 ⟨rfl, rfl⟩
        go_wp2_with fail
        go_ret
        exact ⟨ret_bool HV.out.symm, HB.out⟩
    · have u1 := bno k1
      have u2 := bno k2
      have u3 := bno k3
      have u4 := bno k4
      have HV : Hid (rightB (k, n, m, 1) = false) := by unfold Hid rightB; simp only [HZ.out]; simp [k1, k2, k3, k4]
      clear HZ HD k1 k2 k3 k4
      go_enter Try.func46, Try.ntmps46
      go_wp2_with fail
      rw [HW0.out]
      refine (HS.out _).mono ?_; rintro e w1 ⟨rfl, rfl⟩
      go_wp2_with fail
      go_ret
      exact ⟨ret_bool HV.out.symm, HB.out⟩

set_option maxHeartbeats 4000000 in
theorem ref15_Right (k n m d : Int) (w : World) (hx : NmOk (k, n, m, d)) :
    Calls Try.prog 45 #[.agg #[.int .i64 k, .int .i64 n, .int .i64 m, .int .i64 d]] w fun e w' => e = .returned (.bool (rightB (k, n, m, d))) ∧ Below w.heap.size w w' := by
  obtain ⟨hk, hn, hm, hd⟩ := hx
  simp only at hk hn hm hd
  obtain ⟨W0, hW0, hb0, x0⟩ := box_any w #[.int .i64 k, .int .i64 n, .int .i64 m, .int .i64 d] 57
  have HW0 := Lib.hid hW0
  have HB := Lib.hid hb0
  have D0 : W0.cell? ⟨w.heap.size, 0, none⟩ = some (.int .i64 k) := block_cell x0 0
  have D1 : W0.cell? ⟨w.heap.size, 1, none⟩ = some (.int .i64 n) := block_cell x0 1
  have D2 : W0.cell? ⟨w.heap.size, 2, none⟩ = some (.int .i64 m) := block_cell x0 2
  have D3 : W0.cell? ⟨w.heap.size, 3, none⟩ = some (.int .i64 d) := block_cell x0 3
  clear hW0 hb0 x0
  by_cases hsz : hasSz n = true
  case neg =>
    have hsz' : hasSz n = false := by simpa using hsz
    have HS : Hid (∀ W, Calls Try.prog 29 #[.int .i64 n] W fun e w' => e = .returned (.bool false) ∧ W = w') := fun W => refHas_no n W hsz' hn
    have HV : Hid (rightB (k, n, m, d) = false) := by simp [Hid, rightB, hsz']
    clear hsz hsz'
    go_enter Try.func45, Try.ntmps45
    go_wp2_with fail
    rw [HW0.out]
    refine (HS.out _).mono ?_; rintro e w1 ⟨rfl, rfl⟩
    go_wp2_with fail
    go_ret
    exact ⟨ret_bool HV.out.symm, HB.out⟩
  have HS : Hid (∀ W, Calls Try.prog 29 #[.int .i64 n] W fun e w' => e = .returned (.bool true) ∧ W = w') := fun W => refHas_yes n W hsz
  have hnb := hasSz_bd hsz
  by_cases hdd : d = 0 ∨ d = 1
  case neg =>
    have HV : Hid (rightB (k, n, m, d) = false) := by simp [Hid, rightB, hdd]
    rcases (show d < 0 ∨ (0 ≤ d ∧ 1 < d) by omega) with h | ⟨h, h2⟩
    · have t0 : decide (d < 0) = true := by simp; omega
      clear hsz hdd
      go_enter Try.func45, Try.ntmps45
      go_wp2_with fail
      rw [HW0.out]
      refine (HS.out _).mono ?_; rintro e w1 ⟨rfl, rfl⟩
      go_wp2_with fail
      go_ret
      exact ⟨ret_bool HV.out.symm, HB.out⟩
    · have t0 : decide (d < 0) = false := by simp; omega
      have t1 : decide (d > 1) = true := by simp; omega
      clear hsz hdd
      go_enter Try.func45, Try.ntmps45
      go_wp2_with fail
      rw [HW0.out]
      refine (HS.out _).mono ?_; rintro e w1 ⟨rfl, rfl⟩
      go_wp2_with fail
      go_ret
      exact ⟨ret_bool HV.out.symm, HB.out⟩
  have HD : Hid (decide (d = 0 ∨ d = 1) = true) := decide_eq_true hdd
  have HZ := Lib.hid hsz
  rcases hdd with rfl | rfl

  · clear hsz
    rcases (show k = 1 ∨ k = 2 ∨ k = 3 ∨ k = 4 ∨ (k ≠ 1 ∧ k ≠ 2 ∧ k ≠ 3 ∧ k ≠ 4) by omega) with rfl | rfl | rfl | rfl | ⟨k1, k2, k3, k4⟩
    · by_cases hm0 : m = 0
      · subst hm0
        have HV : Hid (rightB (1, n, 0, 0) = true) := by unfold Hid rightB; simp only [HZ.out]; simp
        clear HZ HD
        go_enter Try.func45, Try.ntmps45
        go_wp2_with fail
        rw [HW0.out]
        refine (HS.out _).mono ?_; rintro e w1 ⟨rfl, rfl⟩
        go_wp2_with fail
        go_ret
        exact ⟨ret_bool HV.out.symm, HB.out⟩
      · have t2 : (m == 0) = false := bno hm0
        have HV : Hid (rightB (1, n, m, 0) = false) := by unfold Hid rightB; simp only [HZ.out]; simp [hm0]
        clear HZ HD hm0
        go_enter Try.func45, Try.ntmps45
        go_wp2_with fail
        rw [HW0.out]
        refine (HS.out _).mono ?_; rintro e w1 ⟨rfl, rfl⟩
        go_wp2_with fail
        go_ret
        exact ⟨ret_bool HV.out.symm, HB.out⟩
    · by_cases hm0 : m = 0
      · subst hm0
        have HV : Hid (rightB (2, n, 0, 0) = true) := by unfold Hid rightB; simp only [HZ.out]; simp
        clear HZ HD
        go_enter Try.func45, Try.ntmps45
        go_wp2_with fail
        rw [HW0.out]
        refine (HS.out _).mono ?_; rintro e w1 ⟨rfl, rfl⟩
        go_wp2_with fail
        go_ret
        exact ⟨ret_bool HV.out.symm, HB.out⟩
      · have t2 : (m == 0) = false := bno hm0
        have HV : Hid (rightB (2, n, m, 0) = false) := by unfold Hid rightB; simp only [HZ.out]; simp [hm0]
        clear HZ HD hm0
        go_enter Try.func45, Try.ntmps45
        go_wp2_with fail
        rw [HW0.out]
        refine (HS.out _).mono ?_; rintro e w1 ⟨rfl, rfl⟩
        go_wp2_with fail
        go_ret
        exact ⟨ret_bool HV.out.symm, HB.out⟩
    · by_cases hm0 : m = 0
      · subst hm0
        by_cases h3 : 3 ≤ n
        · have t3 : decide (n > 2) = true := by simp; omega
          obtain ⟨P, hP⟩ : ∃ P, isPr n = P := ⟨_, rfl⟩
          have HP : Hid (∀ W, Calls Try.prog 70 #[.int .i64 n] W fun e w' => e = .returned (.bool P) ∧ W = w') := fun W => by obtain ⟨x, rfl⟩ := Int.eq_ofNat_of_zero_le (show 0 ≤ n by omega); rw [← hP]; exact ref03_Prime x W (by omega) (by omega)
          have HV : Hid (rightB (3, n, 0, 0) = P) := by unfold Hid rightB; simp only [HZ.out]; simp [h3, hP]
          clear HZ HD hP
          go_enter Try.func45, Try.ntmps45
          go_wp2_with fail
          rw [HW0.out]
          refine (HS.out _).mono ?_; rintro e w1 ⟨rfl, rfl⟩
          go_wp2_with fail
          refine (HP.out _).mono ?_; rintro e w2 ⟨rfl, rfl⟩
          go_wp2_with fail
          go_ret
          exact ⟨ret_bool HV.out.symm, HB.out⟩
        · have t3 : decide (n > 2) = false := by simp; omega
          have HV : Hid (rightB (3, n, 0, 0) = false) := by unfold Hid rightB; simp only [HZ.out]; simp [h3]
          clear HZ HD h3
          go_enter Try.func45, Try.ntmps45
          go_wp2_with fail
          rw [HW0.out]
          refine (HS.out _).mono ?_; rintro e w1 ⟨rfl, rfl⟩
          go_wp2_with fail
          go_ret
          exact ⟨ret_bool HV.out.symm, HB.out⟩
      · have t2 : (m == 0) = false := bno hm0
        have HV : Hid (rightB (3, n, m, 0) = false) := by unfold Hid rightB; simp only [HZ.out]; simp [hm0]
        clear HZ HD hm0
        go_enter Try.func45, Try.ntmps45
        go_wp2_with fail
        rw [HW0.out]
        refine (HS.out _).mono ?_; rintro e w1 ⟨rfl, rfl⟩
        go_wp2_with fail
        go_ret
        exact ⟨ret_bool HV.out.symm, HB.out⟩
    · by_cases h2 : 2 ≤ n
      · have t4 : decide (n ≥ 2) = true := by simp; omega
        by_cases h5 : 2 * n - 1 ≤ m
        · have t5 : decide (m ≥ 2 * n - 1) = true := by simp; omega
          by_cases hml : m ≤ 16777216
          · have t6 : decide (m ≤ 16777216) = true := by simp; omega
            obtain ⟨P, hP⟩ : ∃ P, isP2 m = P := ⟨_, rfl⟩
            have HP : Hid (∀ W, Calls Try.prog 79 #[.int .i64 m] W fun e w' => e = .returned (.bool P) ∧ W = w') := fun W => by rw [← hP]; exact refPower m W ⟨hm.1, by omega⟩
            have HV : Hid (rightB (4, n, m, 0) = P) := by unfold Hid rightB hasP2; simp only [HZ.out]; simp [h2, h5, hml, hP]
            clear HZ HD hP
            go_enter Try.func45, Try.ntmps45
            go_wp2_with fail
            rw [HW0.out]
            refine (HS.out _).mono ?_; rintro e w1 ⟨rfl, rfl⟩
            go_wp2_with fail
            refine (HP.out _).mono ?_; rintro e w2 ⟨rfl, rfl⟩
            go_wp2_with fail
            go_ret
            exact ⟨ret_bool HV.out.symm, HB.out⟩
          · have t6 : decide (m ≤ 16777216) = false := by simp; omega
            have HV : Hid (rightB (4, n, m, 0) = false) := by unfold Hid rightB hasP2; simp only [HZ.out]; simp [h2, h5, hml]
            clear HZ HD hml
            go_enter Try.func45, Try.ntmps45
            go_wp2_with fail
            rw [HW0.out]
            refine (HS.out _).mono ?_; rintro e w1 ⟨rfl, rfl⟩
            go_wp2_with fail
            go_ret
            exact ⟨ret_bool HV.out.symm, HB.out⟩
        · have t5 : decide (m ≥ 2 * n - 1) = false := by simp; omega
          have HV : Hid (rightB (4, n, m, 0) = false) := by unfold Hid rightB; simp only [HZ.out]; simp [h5]
          clear HZ HD h5
          go_enter Try.func45, Try.ntmps45
          go_wp2_with fail
          rw [HW0.out]
          refine (HS.out _).mono ?_; rintro e w1 ⟨rfl, rfl⟩
          go_wp2_with fail
          go_ret
          exact ⟨ret_bool HV.out.symm, HB.out⟩
      · have t4 : decide (n ≥ 2) = false := by simp; omega
        have HV : Hid (rightB (4, n, m, 0) = false) := by unfold Hid rightB; simp only [HZ.out]; simp [h2]
        clear HZ HD h2
        go_enter Try.func45, Try.ntmps45
        go_wp2_with fail
        rw [HW0.out]
        refine (HS.out _).mono ?_; rintro e w1 ⟨rfl, rfl⟩
        go_wp2_with fail
        go_ret
        exact ⟨ret_bool HV.out.symm, HB.out⟩
    · have u1 := bno k1
      have u2 := bno k2
      have u3 := bno k3
      have u4 := bno k4
      have HV : Hid (rightB (k, n, m, 0) = false) := by unfold Hid rightB; simp only [HZ.out]; simp [k1, k2, k3, k4]
      clear HZ HD k1 k2 k3 k4
      go_enter Try.func45, Try.ntmps45
      go_wp2_with fail
      rw [HW0.out]
      refine (HS.out _).mono ?_; rintro e w1 ⟨rfl, rfl⟩
      go_wp2_with fail
      go_ret
      exact ⟨ret_bool HV.out.symm, HB.out⟩

  · clear hsz
    rcases (show k = 1 ∨ k = 2 ∨ k = 3 ∨ k = 4 ∨ (k ≠ 1 ∧ k ≠ 2 ∧ k ≠ 3 ∧ k ≠ 4) by omega) with rfl | rfl | rfl | rfl | ⟨k1, k2, k3, k4⟩
    · by_cases hm0 : m = 0
      · subst hm0
        have HV : Hid (rightB (1, n, 0, 1) = true) := by unfold Hid rightB; simp only [HZ.out]; simp
        clear HZ HD
        go_enter Try.func45, Try.ntmps45
        go_wp2_with fail
        rw [HW0.out]
        refine (HS.out _).mono ?_; rintro e w1 ⟨rfl, rfl⟩
        go_wp2_with fail
        go_ret
        exact ⟨ret_bool HV.out.symm, HB.out⟩
      · have t2 : (m == 0) = false := bno hm0
        have HV : Hid (rightB (1, n, m, 1) = false) := by unfold Hid rightB; simp only [HZ.out]; simp [hm0]
        clear HZ HD hm0
        go_enter Try.func45, Try.ntmps45
        go_wp2_with fail
        rw [HW0.out]
        refine (HS.out _).mono ?_; rintro e w1 ⟨rfl, rfl⟩
        go_wp2_with fail
        go_ret
        exact ⟨ret_bool HV.out.symm, HB.out⟩
    · by_cases hm0 : m = 0
      · subst hm0
        have HV : Hid (rightB (2, n, 0, 1) = true) := by unfold Hid rightB; simp only [HZ.out]; simp
        clear HZ HD
        go_enter Try.func45, Try.ntmps45
        go_wp2_with fail
        rw [HW0.out]
        refine (HS.out _).mono ?_; rintro e w1 ⟨rfl, rfl⟩
        go_wp2_with fail
        go_ret
        exact ⟨ret_bool HV.out.symm, HB.out⟩
      · have t2 : (m == 0) = false := bno hm0
        have HV : Hid (rightB (2, n, m, 1) = false) := by unfold Hid rightB; simp only [HZ.out]; simp [hm0]
        clear HZ HD hm0
        go_enter Try.func45, Try.ntmps45
        go_wp2_with fail
        rw [HW0.out]
        refine (HS.out _).mono ?_; rintro e w1 ⟨rfl, rfl⟩
        go_wp2_with fail
        go_ret
        exact ⟨ret_bool HV.out.symm, HB.out⟩
    · by_cases hm0 : m = 0
      · subst hm0
        by_cases h3 : 3 ≤ n
        · have t3 : decide (n > 2) = true := by simp; omega
          obtain ⟨P, hP⟩ : ∃ P, isPr n = P := ⟨_, rfl⟩
          have HP : Hid (∀ W, Calls Try.prog 70 #[.int .i64 n] W fun e w' => e = .returned (.bool P) ∧ W = w') := fun W => by obtain ⟨x, rfl⟩ := Int.eq_ofNat_of_zero_le (show 0 ≤ n by omega); rw [← hP]; exact ref03_Prime x W (by omega) (by omega)
          have HV : Hid (rightB (3, n, 0, 1) = P) := by unfold Hid rightB; simp only [HZ.out]; simp [h3, hP]
          clear HZ HD hP
          go_enter Try.func45, Try.ntmps45
          go_wp2_with fail
          rw [HW0.out]
          refine (HS.out _).mono ?_; rintro e w1 ⟨rfl, rfl⟩
          go_wp2_with fail
          refine (HP.out _).mono ?_; rintro e w2 ⟨rfl, rfl⟩
          go_wp2_with fail
          go_ret
          exact ⟨ret_bool HV.out.symm, HB.out⟩
        · have t3 : decide (n > 2) = false := by simp; omega
          have HV : Hid (rightB (3, n, 0, 1) = false) := by unfold Hid rightB; simp only [HZ.out]; simp [h3]
          clear HZ HD h3
          go_enter Try.func45, Try.ntmps45
          go_wp2_with fail
          rw [HW0.out]
          refine (HS.out _).mono ?_; rintro e w1 ⟨rfl, rfl⟩
          go_wp2_with fail
          go_ret
          exact ⟨ret_bool HV.out.symm, HB.out⟩
      · have t2 : (m == 0) = false := bno hm0
        have HV : Hid (rightB (3, n, m, 1) = false) := by unfold Hid rightB; simp only [HZ.out]; simp [hm0]
        clear HZ HD hm0
        go_enter Try.func45, Try.ntmps45
        go_wp2_with fail
        rw [HW0.out]
        refine (HS.out _).mono ?_; rintro e w1 ⟨rfl, rfl⟩
        go_wp2_with fail
        go_ret
        exact ⟨ret_bool HV.out.symm, HB.out⟩
    · by_cases h2 : 2 ≤ n
      · have t4 : decide (n ≥ 2) = true := by simp; omega
        by_cases h5 : 2 * n - 1 ≤ m
        · have t5 : decide (m ≥ 2 * n - 1) = true := by simp; omega
          by_cases hml : m ≤ 16777216
          · have t6 : decide (m ≤ 16777216) = true := by simp; omega
            obtain ⟨P, hP⟩ : ∃ P, isP2 m = P := ⟨_, rfl⟩
            have HP : Hid (∀ W, Calls Try.prog 79 #[.int .i64 m] W fun e w' => e = .returned (.bool P) ∧ W = w') := fun W => by rw [← hP]; exact refPower m W ⟨hm.1, by omega⟩
            have HV : Hid (rightB (4, n, m, 1) = P) := by unfold Hid rightB hasP2; simp only [HZ.out]; simp [h2, h5, hml, hP]
            clear HZ HD hP
            go_enter Try.func45, Try.ntmps45
            go_wp2_with fail
            rw [HW0.out]
            refine (HS.out _).mono ?_; rintro e w1 ⟨rfl, rfl⟩
            go_wp2_with fail
            refine (HP.out _).mono ?_; rintro e w2 ⟨rfl, rfl⟩
            go_wp2_with fail
            go_ret
            exact ⟨ret_bool HV.out.symm, HB.out⟩
          · have t6 : decide (m ≤ 16777216) = false := by simp; omega
            have HV : Hid (rightB (4, n, m, 1) = false) := by unfold Hid rightB hasP2; simp only [HZ.out]; simp [h2, h5, hml]
            clear HZ HD hml
            go_enter Try.func45, Try.ntmps45
            go_wp2_with fail
            rw [HW0.out]
            refine (HS.out _).mono ?_; rintro e w1 ⟨rfl, rfl⟩
            go_wp2_with fail
            go_ret
            exact ⟨ret_bool HV.out.symm, HB.out⟩
        · have t5 : decide (m ≥ 2 * n - 1) = false := by simp; omega
          have HV : Hid (rightB (4, n, m, 1) = false) := by unfold Hid rightB; simp only [HZ.out]; simp [h5]
          clear HZ HD h5
          go_enter Try.func45, Try.ntmps45
          go_wp2_with fail
          rw [HW0.out]
          refine (HS.out _).mono ?_; rintro e w1 ⟨rfl, rfl⟩
          go_wp2_with fail
          go_ret
          exact ⟨ret_bool HV.out.symm, HB.out⟩
      · have t4 : decide (n ≥ 2) = false := by simp; omega
        have HV : Hid (rightB (4, n, m, 1) = false) := by unfold Hid rightB; simp only [HZ.out]; simp [h2]
        clear HZ HD h2
        go_enter Try.func45, Try.ntmps45
        go_wp2_with fail
        rw [HW0.out]
        refine (HS.out _).mono ?_; rintro e w1 ⟨rfl, rfl⟩
        go_wp2_with fail
        go_ret
        exact ⟨ret_bool HV.out.symm, HB.out⟩
    · have u1 := bno k1
      have u2 := bno k2
      have u3 := bno k3
      have u4 := bno k4
      have HV : Hid (rightB (k, n, m, 1) = false) := by unfold Hid rightB; simp only [HZ.out]; simp [k1, k2, k3, k4]
      clear HZ HD k1 k2 k3 k4
      go_enter Try.func45, Try.ntmps45
      go_wp2_with fail
      rw [HW0.out]
      refine (HS.out _).mono ?_; rintro e w1 ⟨rfl, rfl⟩
      go_wp2_with fail
      go_ret
      exact ⟨ret_bool HV.out.symm, HB.out⟩

end Go.Proofs.Ytncikklhchimdaa
