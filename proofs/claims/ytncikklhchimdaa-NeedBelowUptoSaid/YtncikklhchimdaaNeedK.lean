/- The law of tables that a plan needs: the walk. -/
import Derived.Test.YtncikklhchimdaaNeedI
import Derived.Test.YtncikklhchimdaaTreeC
namespace Go.Proofs.Ytncikklhchimdaa
open Go.RowKit
set_option linter.unusedVariables false
set_option linter.unusedSimpArgs false
set_option maxRecDepth 100000
set_option maxRecDepth 20000

theorem count_take (xs : List Nm) (x : Nm) (q : Nat) (h : q < xs.length) : (xs.take (q + 1)).count x = (xs.take q).count x + if nmAt xs q = x then 1 else 0 := by
  rw [take_nm h, List.count_append, List.count_singleton]
  simp only [beq_iff_eq]

theorem right_fit {x : Nm} (h : rightB x = true) : NmOk x := by
  obtain ⟨k, n, m, d⟩ := x
  have hb := right_bd h
  simp only at hb
  unfold rightB at h
  simp only [Bool.and_eq_true, decide_eq_true_eq] at h
  obtain ⟨⟨_, hd⟩, h3⟩ := h
  refine ⟨?_, by simp only; omega, ?_, by simp only; omega⟩
  · simp only
    by_cases h1 : k = 1 ∨ k = 2
    · omega
    · rw [if_neg h1] at h3
      by_cases h4 : k = 3
      · omega
      · rw [if_neg h4] at h3
        by_cases h5 : k = 4
        · omega
        · rw [if_neg h5] at h3; cases h3
  · simp only
    by_cases h1 : k = 1 ∨ k = 2
    · rw [if_pos h1] at h3
      have := of_decide_eq_true h3
      omega
    · rw [if_neg h1] at h3
      by_cases h4 : k = 3
      · rw [if_pos h4] at h3
        simp only [Bool.and_eq_true, decide_eq_true_eq] at h3
        omega
      · rw [if_neg h4] at h3
        by_cases h5 : k = 4
        · rw [if_pos h5] at h3
          simp only [Bool.and_eq_true, decide_eq_true_eq] at h3
          obtain ⟨j, hj, e⟩ := (hasP2_iff _).1 h3.2
          have h9 : 2 ^ j ≤ 2 ^ 24 := Nat.pow_le_pow_right (by omega) hj
          have e9 : (2 : Nat) ^ 24 = 16777216 := by decide
          have h8 : 0 < 2 ^ j := Nat.pos_of_ne_zero (by simp)
          omega
        · rw [if_neg h5] at h3; cases h3
theorem names_fit (N : Nat) (t : Tr) (dir : Int) (h : t.size ≤ N) (hok : t.allOk) (hd : dir = 0 ∨ dir = 1) : ∀ x ∈ t.names dir, NmOk x := fun x hx => right_fit (names_right N t dir h hok hd x hx)

set_option maxHeartbeats 8000000 in
theorem needTablesW (t : Tr) (k n : Int) (a : Option Addr) (m c : Nat) (dir : Int) (t1 t2 t3 t4 : Int) (w : World) (hs : t.size ≤ 1048576) (hT' : IsT w (fun _ => True) k n a m c t) (hdir : fits .i64 dir) (f1 : fits .i64 t1) (f2 : fits .i64 t2) (f3 : fits .i64 t3) (f4 : fits .i64 t4) :
    Calls Try.prog 9 #[.agg #[.int .i64 k, .int .i64 n, .slice a m c], .int .i64 dir, .agg #[.int .i64 t1, .int .i64 t2, .int .i64 t3, .int .i64 t4]] w fun e w' => e = .returned (.bool true) ∧ Below w.heap.size w w' := by
  have hT := hT'.lt
  clear hT'
  have CM : Hid (∀ W, Below w.heap.size w W → Calls Try.prog 14 #[.agg #[.int .i64 k, .int .i64 n, .slice a m c]] W fun e w' => e = .returned (.bool (decide (80 < t.size))) ∧ Below W.heap.size W w') := fun W hb => ref_Much t _ _ _ _ _ W w.heap.size (by omega) (hT.below hb) hb.size
  have CT : Hid (∀ W, Below w.heap.size w W → Calls Try.prog 36 #[.agg #[.int .i64 k, .int .i64 n, .slice a m c], .int .i64 dir] W (GivesTab (errN t dir) (once (namesB t dir)) W)) := fun W hb => need_Tables t _ _ _ _ _ dir W _ (by omega) (hT.below hb)
  have CK : Hid (∀ W, Below w.heap.size w W → Calls Try.prog 34 #[.agg #[.int .i64 k, .int .i64 n, .slice a m c], .int .i64 dir] W fun e w' => e = .returned (.int .i64 (errN t dir)) ∧ Below W.heap.size W w') := fun W hb => ref15_Check t _ _ _ _ _ dir W w.heap.size hb.size (by omega) (hT.below hb)
  have CN : Hid (∀ W x1 x2 x3 x4, Below w.heap.size w W → Calls Try.prog 41 #[.agg #[.int .i64 k, .int .i64 n, .slice a m c], .int .i64 dir, .agg #[.int .i64 x1, .int .i64 x2, .int .i64 x3, .int .i64 x4]] W fun e w' => e = .returned (.int .i64 ((namesB t dir).count (x1, x2, x3, x4) : Nat)) ∧ Below W.heap.size W w') := fun W x1 x2 x3 x4 hb => need_Times t _ _ _ _ _ dir (x1, x2, x3, x4) W _ (by omega) (hT.below hb)
  have CA : Hid (t.size ≤ 1048576 → t.allOk → dir = 0 ∨ dir = 1 → ∀ W, Below w.heap.size w W → Calls Try.prog 42 #[.agg #[.int .i64 k, .int .i64 n, .slice a m c], .int .i64 dir] W (GivesN (t.names dir) W)) := fun h1 h2 h3 W hb => ref15_All 1048576 (by omega) t _ _ _ _ _ dir W _ h1 (hT.below hb) h2 h3
  have HS := Lib.hid hs
  have hyes : errN t dir = 0 → (dir = 0 ∨ dir = 1) ∧ chk t = 0 ∧ namesB t dir = t.names dir := errN_zero
  have hno : errN t dir ≠ 0 → namesB t dir = [] := errN_no
  obtain ⟨A1, hA1⟩ : ∃ A, decide (80 < t.size) = A := ⟨_, rfl⟩
  rw [hA1] at CM
  obtain ⟨C, hC⟩ : ∃ C, errN t dir = C := ⟨_, rfl⟩
  rw [hC] at CT CK hyes hno
  have fd := fits_i64.1 hdir
  clear hA1 hC hT hs
  obtain ⟨W0, hW0, hb0, x0, y0⟩ := two_boxes w #[.int .i64 k, .int .i64 n, .slice a m c] #[.int .i64 t1, .int .i64 t2, .int .i64 t3, .int .i64 t4] 24 57
  have HB := Lib.hid hb0
  have HW0 := Lib.hid hW0
  have XD := Lib.hid x0
  have XT := Lib.hid y0
  clear hb0 hW0 x0 y0

  cases A1 with
  | true =>
    have D0 : W0.cell? ⟨w.heap.size, 0, none⟩ = some (.int .i64 k) := block_cell XD.out 0
    have D1 : W0.cell? ⟨w.heap.size, 1, none⟩ = some (.int .i64 n) := block_cell XD.out 1
    have D2 : W0.cell? ⟨w.heap.size, 2, none⟩ = some (.slice a m c) := block_cell XD.out 2
    go_enter Try.func9, Try.ntmps9
    go_wp2_with fail
    rw [HW0.out]
    refine (CM.out _ HB.out).mono ?_; rintro e v1 ⟨rfl, hb1⟩
    have XD := Lib.hid ((hb1.block _ (block_lt XD.out)).trans XD.out)
    have XT := Lib.hid ((hb1.block _ (block_lt XT.out)).trans XT.out)
    have HB := Lib.hid (chain HB.out hb1)
    clear hb1 D0 D1 D2
    go_wp2_with fail
    refine (live15 _).mono ?_; rintro e vl ⟨rfl, hbl⟩
    have hbe := chain HB.out hbl
    clear hbl
    go_wp2_with fail
    go_ret
    exact ⟨rfl, hbe⟩
  | false =>
    by_cases hc0 : C = 0
    case neg =>
      have t0 : (C != 0) = true := bdiff hc0
      have t00 : (C != C) = false := bfalse rfl
      have hnil := hno hc0
      rw [hnil] at CT CN
      rw [show once [] = ([] : List Nm) from rfl] at CT
      clear hyes hno hc0 hnil CA
      have D0 : W0.cell? ⟨w.heap.size, 0, none⟩ = some (.int .i64 k) := block_cell XD.out 0
      have D1 : W0.cell? ⟨w.heap.size, 1, none⟩ = some (.int .i64 n) := block_cell XD.out 1
      have D2 : W0.cell? ⟨w.heap.size, 2, none⟩ = some (.slice a m c) := block_cell XD.out 2
      go_enter Try.func9, Try.ntmps9
      go_wp2_with fail
      rw [HW0.out]
      refine (CM.out _ HB.out).mono ?_; rintro e v1 ⟨rfl, hb1⟩
      have XD := Lib.hid ((hb1.block _ (block_lt XD.out)).trans XD.out)
      have XT := Lib.hid ((hb1.block _ (block_lt XT.out)).trans XT.out)
      have HB := Lib.hid (chain HB.out hb1)
      clear hb1 D0 D1 D2
      have D0 : v1.cell? ⟨w.heap.size, 0, none⟩ = some (.int .i64 k) := block_cell XD.out 0
      have D1 : v1.cell? ⟨w.heap.size, 1, none⟩ = some (.int .i64 n) := block_cell XD.out 1
      have D2 : v1.cell? ⟨w.heap.size, 2, none⟩ = some (.slice a m c) := block_cell XD.out 2
      go_wp2_with fail
      refine (CT.out _ HB.out).mono ?_; rintro e v2 ⟨ra, rc, rfl, hown, hb2⟩
      have HR := Lib.hid (RowN.of_own hown rfl)
      have XD := Lib.hid ((hb2.block _ (block_lt XD.out)).trans XD.out)
      have XT := Lib.hid ((hb2.block _ (block_lt XT.out)).trans XT.out)
      have HB := Lib.hid (chain HB.out hb2)
      clear hb2 hown D0 D1 D2
      have D0 : v2.cell? ⟨w.heap.size, 0, none⟩ = some (.int .i64 k) := block_cell XD.out 0
      have D1 : v2.cell? ⟨w.heap.size, 1, none⟩ = some (.int .i64 n) := block_cell XD.out 1
      have D2 : v2.cell? ⟨w.heap.size, 2, none⟩ = some (.slice a m c) := block_cell XD.out 2
      go_wp2_with fail
      refine (CK.out _ HB.out).mono ?_; rintro e v3 ⟨rfl, hb3⟩
      have HR := Lib.hid (HR.out.below hb3)
      have XD := Lib.hid ((hb3.block _ (block_lt XD.out)).trans XD.out)
      have XT := Lib.hid ((hb3.block _ (block_lt XT.out)).trans XT.out)
      have HB := Lib.hid (chain HB.out hb3)
      clear hb3 D0 D1 D2
      have D0 : v3.cell? ⟨w.heap.size, 0, none⟩ = some (.int .i64 k) := block_cell XD.out 0
      have D1 : v3.cell? ⟨w.heap.size, 1, none⟩ = some (.int .i64 n) := block_cell XD.out 1
      have D2 : v3.cell? ⟨w.heap.size, 2, none⟩ = some (.slice a m c) := block_cell XD.out 2
      have T0 : v3.cell? ⟨w.heap.size + 1, 0, none⟩ = some (.int .i64 t1) := block_cell XT.out 0
      have T1 : v3.cell? ⟨w.heap.size + 1, 1, none⟩ = some (.int .i64 t2) := block_cell XT.out 1
      have T2 : v3.cell? ⟨w.heap.size + 1, 2, none⟩ = some (.int .i64 t3) := block_cell XT.out 2
      have T3 : v3.cell? ⟨w.heap.size + 1, 3, none⟩ = some (.int .i64 t4) := block_cell XT.out 3
      simp only [List.length_nil]
      go_wp2_with fail
      refine (CN.out _ _ _ _ _ HB.out).mono ?_; rintro e v4 ⟨rfl, hb4⟩
      rw [show ((([] : List Nm).count (t1, t2, t3, t4) : Nat) : Int) = 0 from rfl]
      have XD := Lib.hid ((hb4.block _ (block_lt XD.out)).trans XD.out)
      have XT := Lib.hid ((hb4.block _ (block_lt XT.out)).trans XT.out)
      have HB := Lib.hid (chain HB.out hb4)
      clear hb4 D0 D1 D2 T0 T1 T2 T3
      go_wp2_with fail
      refine (live15 _).mono ?_; rintro e vl ⟨rfl, hbl⟩
      have hbe := chain HB.out hbl
      clear hbl
      go_wp2_with fail
      go_ret
      exact ⟨rfl, hbe⟩
    subst hc0
    obtain ⟨hd, hck, hnm⟩ := hyes rfl
    rw [hnm] at CT CN
    have hok := (chk_zero.1 hck).2
    have hsz := (chk_zero.1 hck).1.1
    have CA1 := Lib.hid (CA.out (by omega) hok hd)
    have HRT : Hid (∀ x ∈ t.names dir, rightB x = true) := names_right _ t dir (Nat.le_refl _) hok hd
    have HNO : Hid (∀ x ∈ t.names dir, NmOk x) := names_fit _ t dir (Nat.le_refl _) hok hd
    have hln : (t.names dir).length ≤ 2 * t.size := Tr.names_len _ t dir (Nat.le_refl _)
    clear hyes hno CA hck hnm hok
    obtain ⟨all, hall⟩ : ∃ l, t.names dir = l := ⟨_, rfl⟩
    rw [hall] at CT CN CA1 HRT hln HNO
    have hln2 : all.length ≤ 120 := by omega
    have CS : Hid (∀ (W : World) (ra rb : Option Addr) (rc rd : Nat), RowN W ra (once all) → RowN W rb (once all) → Calls Try.prog 43 #[.slice ra (once all).length rc, .slice rb (once all).length rd] W fun e w' => e = .returned (.bool true) ∧ Below W.heap.size W w') := fun W ra rb rc rd h1 h2 => by
      have h3 := once_len all
      have := ref15_Same (once all) (once all) ra _ rc rb _ rd W h1 rfl h2 rfl (by omega) (by omega)
      rwa [decide_eq_true rfl] at this
    have CO : Hid (∀ (W : World) (ra : Option Addr) (rc : Nat), RowN W ra all → Calls Try.prog 44 #[.slice ra all.length rc] W (GivesN (once all) W)) := fun W ra rc h => ref15_Once all ra _ rc W h rfl (by omega)
    have HRO : Hid (∀ x ∈ once all, rightB x = true) := fun x hx => HRT.out x ((mem_once _ _).1 hx)
    clear HRT hall
    have hlo := once_len all
    obtain ⟨L1, hL1⟩ : ∃ x, (once all).length = x := ⟨_, rfl⟩
    obtain ⟨L2, hL2⟩ : ∃ x, all.length = x := ⟨_, rfl⟩
    rw [hL1] at CS hlo
    rw [hL2] at CO hln hlo hln2
    have HL1 := Lib.hid hL1
    have HL2 := Lib.hid hL2
    clear hL1 hL2
    have HOK : Hid (∀ x ∈ once all, NmOk x) := fun x hx => HNO.out x ((mem_once _ _).1 hx)
    have D0 : W0.cell? ⟨w.heap.size, 0, none⟩ = some (.int .i64 k) := block_cell XD.out 0
    have D1 : W0.cell? ⟨w.heap.size, 1, none⟩ = some (.int .i64 n) := block_cell XD.out 1
    have D2 : W0.cell? ⟨w.heap.size, 2, none⟩ = some (.slice a m c) := block_cell XD.out 2
    go_enter Try.func9, Try.ntmps9
    go_wp2_with fail
    rw [HW0.out]
    refine (CM.out _ HB.out).mono ?_; rintro e v1 ⟨rfl, hb1⟩
    have XD := Lib.hid ((hb1.block _ (block_lt XD.out)).trans XD.out)
    have XT := Lib.hid ((hb1.block _ (block_lt XT.out)).trans XT.out)
    have HB := Lib.hid (chain HB.out hb1)
    clear hb1 D0 D1 D2
    have D0 : v1.cell? ⟨w.heap.size, 0, none⟩ = some (.int .i64 k) := block_cell XD.out 0
    have D1 : v1.cell? ⟨w.heap.size, 1, none⟩ = some (.int .i64 n) := block_cell XD.out 1
    have D2 : v1.cell? ⟨w.heap.size, 2, none⟩ = some (.slice a m c) := block_cell XD.out 2
    go_wp2_with fail
    refine (CT.out _ HB.out).mono ?_; rintro e v2 ⟨ra, rc, rfl, hown, hb2⟩
    have HR := Lib.hid (RowN.of_own hown rfl)
    have XD := Lib.hid ((hb2.block _ (block_lt XD.out)).trans XD.out)
    have XT := Lib.hid ((hb2.block _ (block_lt XT.out)).trans XT.out)
    have HB := Lib.hid (chain HB.out hb2)
    clear hb2 hown D0 D1 D2
    rw [HL1.out]
    have D0 : v2.cell? ⟨w.heap.size, 0, none⟩ = some (.int .i64 k) := block_cell XD.out 0
    have D1 : v2.cell? ⟨w.heap.size, 1, none⟩ = some (.int .i64 n) := block_cell XD.out 1
    have D2 : v2.cell? ⟨w.heap.size, 2, none⟩ = some (.slice a m c) := block_cell XD.out 2
    go_wp2_with fail
    refine (CK.out _ HB.out).mono ?_; rintro e v3 ⟨rfl, hb3⟩
    have HR := Lib.hid (HR.out.below hb3)
    have XD := Lib.hid ((hb3.block _ (block_lt XD.out)).trans XD.out)
    have XT := Lib.hid ((hb3.block _ (block_lt XT.out)).trans XT.out)
    have HB := Lib.hid (chain HB.out hb3)
    clear hb3 D0 D1 D2
    have D0 : v3.cell? ⟨w.heap.size, 0, none⟩ = some (.int .i64 k) := block_cell XD.out 0
    have D1 : v3.cell? ⟨w.heap.size, 1, none⟩ = some (.int .i64 n) := block_cell XD.out 1
    have D2 : v3.cell? ⟨w.heap.size, 2, none⟩ = some (.slice a m c) := block_cell XD.out 2
    go_wp2_with fail
    refine (CA1.out _ HB.out).mono ?_; rintro e v4 ⟨qa, qc, rfl, hown, hb4⟩
    have HQ := Lib.hid (RowN.of_own hown rfl)
    have HR := Lib.hid (HR.out.below hb4)
    have XD := Lib.hid ((hb4.block _ (block_lt XD.out)).trans XD.out)
    have XT := Lib.hid ((hb4.block _ (block_lt XT.out)).trans XT.out)
    have HB := Lib.hid (chain HB.out hb4)
    clear hb4 hown D0 D1 D2
    rw [HL2.out]
    go_wp2_with fail
    refine (CO.out _ _ _ HQ.out).mono ?_; rintro e v5 ⟨sa, sc, rfl, hown, hb5⟩
    have HS5 := Lib.hid (RowN.of_own hown rfl)
    have HQ := Lib.hid (HQ.out.below hb5)
    have HR := Lib.hid (HR.out.below hb5)
    have XD := Lib.hid ((hb5.block _ (block_lt XD.out)).trans XD.out)
    have XT := Lib.hid ((hb5.block _ (block_lt XT.out)).trans XT.out)
    have HB := Lib.hid (chain HB.out hb5)
    clear hb5 hown
    rw [HL1.out]
    go_wp2_with fail
    refine (CS.out _ _ _ _ _ HR.out HS5.out).mono ?_; rintro e v6 ⟨rfl, hb6⟩
    have HQ := Lib.hid (HQ.out.below hb6)
    have HR := Lib.hid (HR.out.below hb6)
    have XD := Lib.hid ((hb6.block _ (block_lt XD.out)).trans XD.out)
    have XT := Lib.hid ((hb6.block _ (block_lt XT.out)).trans XT.out)
    have HB := Lib.hid (chain HB.out hb6)
    clear hb6 HS5
    go_wp2_with fail
    go_loopw [11] (fun i wr => ∃ j : Nat, j ≤ L1 + 1 ∧ i = .int .i64 j ∧ Hid (Below v6.heap.size v6 wr)) (fun i _ => L1 + 1 - (intOf i).toNat)
    case atStart => exact ⟨0, Nat.zero_le _, rfl, Below.refl _ _⟩
    case round =>
      obtain ⟨j, hj, rfl, HBW⟩ := hrel
      obtain ⟨wo, rfl⟩ : ∃ wo : World, wo = wr := ⟨_, rfl⟩
      have HBX := Lib.hid (chain HB.out HBW.out)
      by_cases hle : j ≤ L1
      · have tx := (HBW.out.block _ (block_lt XT.out)).trans XT.out
        have T0 : wo.cell? ⟨w.heap.size + 1, 0, none⟩ = some (.int .i64 t1) := block_cell tx 0
        have T1 : wo.cell? ⟨w.heap.size + 1, 1, none⟩ = some (.int .i64 t2) := block_cell tx 1
        have T2 : wo.cell? ⟨w.heap.size + 1, 2, none⟩ = some (.int .i64 t3) := block_cell tx 2
        have T3 : wo.cell? ⟨w.heap.size + 1, 3, none⟩ = some (.int .i64 t4) := block_cell tx 3
        have i0 : (0 : Int) ≤ (j : Int) := by omega
        clear tx
        by_cases hlt : j < L1
        · have i1 : (j : Int) < (L1 : Int) := by omega
          obtain ⟨b, off, rfl, hbl, c0, c1, c2, c3⟩ := (HR.out.below HBW.out).at j (by rw [HL1.out]; exact hlt)
          have hmem := nmAt_mem (xs := once all) (i := j) (by rw [HL1.out]; exact hlt)
          obtain ⟨y, hy⟩ : ∃ y, nmAt (once all) j = y := ⟨_, rfl⟩
          rw [hy] at c0 c1 c2 c3 hmem
          obtain ⟨x1, x2, x3, x4⟩ := y
          simp only at c0 c1 c2 c3
          have HRX := Lib.hid (HRO.out _ hmem)
          have HNX := Lib.hid (HOK.out _ hmem)
          clear hy hmem
          have c0 := (cell_past wo (.cells #[.int .i64 t1, .int .i64 t2, .int .i64 t3, .int .i64 t4] 57) ⟨b, off + j * 4, none⟩ hbl).trans c0
          have c1 := (cell_past wo (.cells #[.int .i64 t1, .int .i64 t2, .int .i64 t3, .int .i64 t4] 57) ⟨b, off + j * 4 + 1, none⟩ hbl).trans c1
          have c2 := (cell_past wo (.cells #[.int .i64 t1, .int .i64 t2, .int .i64 t3, .int .i64 t4] 57) ⟨b, off + j * 4 + 2, none⟩ hbl).trans c2
          have c3 := (cell_past wo (.cells #[.int .i64 t1, .int .i64 t2, .int .i64 t3, .int .i64 t4] 57) ⟨b, off + j * 4 + 3, none⟩ hbl).trans c3
          go_wp2_with fail
          obtain ⟨V, hV, hbV, v0⟩ := box_any wo #[.int .i64 x1, .int .i64 x2, .int .i64 x3, .int .i64 x4] 57
          rw [hV]
          have HV := Lib.hid (chain HBX.out hbV)
          have VX := Lib.hid v0
          have HVW := Lib.hid (chain HBW.out hbV)
          have HQV := Lib.hid (HQ.out.below HVW.out)
          have VD := Lib.hid ((HVW.out.block _ (block_lt XD.out)).trans XD.out)
          clear hV hbV v0 c0 c1 c2 c3 T0 T1 T2 T3
          have CRT : Hid (∀ W, Calls Try.prog 45 #[.agg #[.int .i64 x1, .int .i64 x2, .int .i64 x3, .int .i64 x4]] W fun e w' => e = .returned (.bool true) ∧ Below W.heap.size W w') := fun W => by
            have := ref15_Right x1 x2 x3 x4 W HNX.out
            rwa [HRX.out] at this
          go_loopw [13, 14] (fun u i wr => ∃ q : Nat, q ≤ L2 ∧ i = .int .i64 q ∧ u = .int .i64 ((all.take q).count (x1, x2, x3, x4) : Nat) ∧ Hid (Below V.heap.size V wr)) (fun _ i _ => L2 - (intOf i).toNat)
          case atStart => exact ⟨0, Nat.zero_le _, rfl, by simp, Below.refl _ _⟩
          case round =>
            obtain ⟨q, hq, rfl, rfl, HBI⟩ := hrel
            have hct : (all.take q).count (x1, x2, x3, x4) ≤ q := Nat.le_trans List.count_le_length (List.length_take_le _ _)
            have vx := (HBI.out.block _ (block_lt VX.out)).trans VX.out
            have Y0 : wr.cell? ⟨wo.heap.size, 0, none⟩ = some (.int .i64 x1) := block_cell vx 0
            have Y1 : wr.cell? ⟨wo.heap.size, 1, none⟩ = some (.int .i64 x2) := block_cell vx 1
            have Y2 : wr.cell? ⟨wo.heap.size, 2, none⟩ = some (.int .i64 x3) := block_cell vx 2
            have Y3 : wr.cell? ⟨wo.heap.size, 3, none⟩ = some (.int .i64 x4) := block_cell vx 3
            clear vx
            by_cases hlq : q < L2
            · obtain ⟨b', off', rfl, hbl', d0, d1, d2, d3⟩ := (HQV.out.below HBI.out).at q (by rw [HL2.out]; exact hlq)
              have j0 : (0 : Int) ≤ (q : Int) := by omega
              have j1 : (q : Int) < (L2 : Int) := by omega
              have HCT := Lib.hid (count_take all (x1, x2, x3, x4) q (by rw [HL2.out]; exact hlq))
              obtain ⟨z, hz⟩ : ∃ z, (all.take q).count (x1, x2, x3, x4) = z := ⟨_, rfl⟩
              rw [hz] at HCT hct ⊢
              clear hz
              by_cases he : nmAt all q = (x1, x2, x3, x4)
              · rw [he] at d0 d1 d2 d3
                simp only at d0 d1 d2 d3
                have HC2 : Hid ((all.take (q + 1)).count (x1, x2, x3, x4) = z + 1) := by unfold Hid; rw [HCT.out, if_pos he]
                clear he HCT
                go_wp2_with fail
                go_quiet (fail)
                have hb := below_drewN (Below.refl wr.heap.size wr) nq
                have HBE := Lib.hid (chain HBI.out hb)
                clear hb d0 d1 d2 d3 Y0 Y1 Y2 Y3
                go_wp2_with fail
                go_roundw
                case rel => exact ⟨q + 1, by omega, by go_num, by rw [HC2.out]; go_num, HBE.out⟩
                case measure => simp [intOf]; omega
              · have HC2 : Hid ((all.take (q + 1)).count (x1, x2, x3, x4) = z) := by unfold Hid; rw [HCT.out, if_neg he]; omega
                have hne := nm_ne he
                simp only at hne
                obtain ⟨y, hy⟩ : ∃ y, nmAt all q = y := ⟨_, rfl⟩
                rw [hy] at d0 d1 d2 d3 hne
                obtain ⟨z1, z2, z3, z4⟩ := y
                simp only at d0 d1 d2 d3 hne
                clear he hy HCT
                rcases hne with h | ⟨rfl, h⟩ | ⟨rfl, rfl, h⟩ | ⟨rfl, rfl, rfl, h⟩
                all_goals
                  go_wp2_with fail
                  go_quiet (fail)
                  have hb := below_drewN (Below.refl wr.heap.size wr) nq
                  have HBE := Lib.hid (chain HBI.out hb)
                  clear hb d0 d1 d2 d3 Y0 Y1 Y2 Y3
                  go_wp2_with fail
                  go_roundw
                  case rel => exact ⟨q + 1, by omega, by go_num, by rw [HC2.out], HBE.out⟩
                  case measure => simp [intOf]; omega
            · obtain rfl : q = L2 := by omega
              rw [List.take_of_length_le (by rw [HL2.out]; omega)] at hct ⊢
              have XDI := Lib.hid ((HBI.out.block _ (block_lt VD.out)).trans VD.out)
              have XXI := Lib.hid ((HBI.out.block _ (block_lt VX.out)).trans VX.out)
              have HBQ := Lib.hid (chain HV.out HBI.out)
              have D0 : wr.cell? ⟨w.heap.size, 0, none⟩ = some (.int .i64 k) := block_cell XDI.out 0
              have D1 : wr.cell? ⟨w.heap.size, 1, none⟩ = some (.int .i64 n) := block_cell XDI.out 1
              have D2 : wr.cell? ⟨w.heap.size, 2, none⟩ = some (.slice a m c) := block_cell XDI.out 2
              have CN1 := Lib.hid (CN.out wr x1 x2 x3 x4 HBQ.out)
              obtain ⟨z, hz⟩ : ∃ z, all.count (x1, x2, x3, x4) = z := ⟨_, rfl⟩
              rw [hz] at CN1 hct ⊢
              clear hz
              go_wp2_with fail
              refine CN1.out.mono ?_; rintro e w2 ⟨rfl, hb2⟩
              have HBF := Lib.hid (chain (chain HVW.out HBI.out) hb2)
              have xx := (hb2.block _ (block_lt XXI.out)).trans XXI.out
              have U0 : w2.cell? ⟨wo.heap.size, 0, none⟩ = some (.int .i64 x1) := block_cell xx 0
              have U1 : w2.cell? ⟨wo.heap.size, 1, none⟩ = some (.int .i64 x2) := block_cell xx 1
              have U2 : w2.cell? ⟨wo.heap.size, 2, none⟩ = some (.int .i64 x3) := block_cell xx 2
              have U3 : w2.cell? ⟨wo.heap.size, 3, none⟩ = some (.int .i64 x4) := block_cell xx 3
              have tz : ((z : Int) != (z : Int)) = false := bfalse rfl
              clear xx hb2 D0 D1 D2 Y0 Y1 Y2 Y3
              go_wp2_with fail
              refine (CRT.out _).mono ?_; rintro e w3 ⟨rfl, hb3⟩
              have HBG := Lib.hid (chain HBF.out hb3)
              clear hb3 U0 U1 U2 U3
              go_wp2_with fail
              go_roundw
              case rel => exact ⟨j + 1, by omega, by go_num, HBG.out⟩
              case measure => simp [intOf]; omega
        · have i1 : decide ((j : Int) < (L1 : Int)) = false := by simp; omega
          have i2 : decide (j < L1) = false := by simp; omega
          have i3 : ¬ (j < L1) := hlt
          go_wp2_with fail
          obtain ⟨V, hV, hbV, v0⟩ := box_any wo #[.int .i64 t1, .int .i64 t2, .int .i64 t3, .int .i64 t4] 57
          rw [hV]
          have HV := Lib.hid (chain HBX.out hbV)
          have VX := Lib.hid v0
          have HVW := Lib.hid (chain HBW.out hbV)
          have HQV := Lib.hid (HQ.out.below HVW.out)
          have VD := Lib.hid ((HVW.out.block _ (block_lt XD.out)).trans XD.out)
          clear hV hbV v0 T0 T1 T2 T3
          go_loopw [13, 14] (fun u i wr => ∃ q : Nat, q ≤ L2 ∧ i = .int .i64 q ∧ u = .int .i64 ((all.take q).count (t1, t2, t3, t4) : Nat) ∧ Hid (Below V.heap.size V wr)) (fun _ i _ => L2 - (intOf i).toNat)
          case atStart => exact ⟨0, Nat.zero_le _, rfl, by simp, Below.refl _ _⟩
          case round =>
            obtain ⟨q, hq, rfl, rfl, HBI⟩ := hrel
            have hct : (all.take q).count (t1, t2, t3, t4) ≤ q := Nat.le_trans List.count_le_length (List.length_take_le _ _)
            have vx := (HBI.out.block _ (block_lt VX.out)).trans VX.out
            have Y0 : wr.cell? ⟨wo.heap.size, 0, none⟩ = some (.int .i64 t1) := block_cell vx 0
            have Y1 : wr.cell? ⟨wo.heap.size, 1, none⟩ = some (.int .i64 t2) := block_cell vx 1
            have Y2 : wr.cell? ⟨wo.heap.size, 2, none⟩ = some (.int .i64 t3) := block_cell vx 2
            have Y3 : wr.cell? ⟨wo.heap.size, 3, none⟩ = some (.int .i64 t4) := block_cell vx 3
            clear vx
            by_cases hlq : q < L2
            · obtain ⟨b', off', rfl, hbl', d0, d1, d2, d3⟩ := (HQV.out.below HBI.out).at q (by rw [HL2.out]; exact hlq)
              have j0 : (0 : Int) ≤ (q : Int) := by omega
              have j1 : (q : Int) < (L2 : Int) := by omega
              have HCT := Lib.hid (count_take all (t1, t2, t3, t4) q (by rw [HL2.out]; exact hlq))
              obtain ⟨z, hz⟩ : ∃ z, (all.take q).count (t1, t2, t3, t4) = z := ⟨_, rfl⟩
              rw [hz] at HCT hct ⊢
              clear hz
              by_cases he : nmAt all q = (t1, t2, t3, t4)
              · rw [he] at d0 d1 d2 d3
                simp only at d0 d1 d2 d3
                have HC2 : Hid ((all.take (q + 1)).count (t1, t2, t3, t4) = z + 1) := by unfold Hid; rw [HCT.out, if_pos he]
                clear he HCT
                go_wp2_with fail
                go_quiet (fail)
                have hb := below_drewN (Below.refl wr.heap.size wr) nq
                have HBE := Lib.hid (chain HBI.out hb)
                clear hb d0 d1 d2 d3 Y0 Y1 Y2 Y3
                go_wp2_with fail
                go_roundw
                case rel => exact ⟨q + 1, by omega, by go_num, by rw [HC2.out]; go_num, HBE.out⟩
                case measure => simp [intOf]; omega
              · have HC2 : Hid ((all.take (q + 1)).count (t1, t2, t3, t4) = z) := by unfold Hid; rw [HCT.out, if_neg he]; omega
                have hne := nm_ne he
                simp only at hne
                obtain ⟨y, hy⟩ : ∃ y, nmAt all q = y := ⟨_, rfl⟩
                rw [hy] at d0 d1 d2 d3 hne
                obtain ⟨z1, z2, z3, z4⟩ := y
                simp only at d0 d1 d2 d3 hne
                clear he hy HCT
                rcases hne with h | ⟨rfl, h⟩ | ⟨rfl, rfl, h⟩ | ⟨rfl, rfl, rfl, h⟩
                all_goals
                  go_wp2_with fail
                  go_quiet (fail)
                  have hb := below_drewN (Below.refl wr.heap.size wr) nq
                  have HBE := Lib.hid (chain HBI.out hb)
                  clear hb d0 d1 d2 d3 Y0 Y1 Y2 Y3
                  go_wp2_with fail
                  go_roundw
                  case rel => exact ⟨q + 1, by omega, by go_num, by rw [HC2.out], HBE.out⟩
                  case measure => simp [intOf]; omega
            · obtain rfl : q = L2 := by omega
              rw [List.take_of_length_le (by rw [HL2.out]; omega)] at hct ⊢
              have XDI := Lib.hid ((HBI.out.block _ (block_lt VD.out)).trans VD.out)
              have XXI := Lib.hid ((HBI.out.block _ (block_lt VX.out)).trans VX.out)
              have HBQ := Lib.hid (chain HV.out HBI.out)
              have D0 : wr.cell? ⟨w.heap.size, 0, none⟩ = some (.int .i64 k) := block_cell XDI.out 0
              have D1 : wr.cell? ⟨w.heap.size, 1, none⟩ = some (.int .i64 n) := block_cell XDI.out 1
              have D2 : wr.cell? ⟨w.heap.size, 2, none⟩ = some (.slice a m c) := block_cell XDI.out 2
              have CN1 := Lib.hid (CN.out wr t1 t2 t3 t4 HBQ.out)
              obtain ⟨z, hz⟩ : ∃ z, all.count (t1, t2, t3, t4) = z := ⟨_, rfl⟩
              rw [hz] at CN1 hct ⊢
              clear hz
              go_wp2_with fail
              refine CN1.out.mono ?_; rintro e w2 ⟨rfl, hb2⟩
              have HBF := Lib.hid (chain (chain HVW.out HBI.out) hb2)
              have xx := (hb2.block _ (block_lt XXI.out)).trans XXI.out
              have U0 : w2.cell? ⟨wo.heap.size, 0, none⟩ = some (.int .i64 t1) := block_cell xx 0
              have U1 : w2.cell? ⟨wo.heap.size, 1, none⟩ = some (.int .i64 t2) := block_cell xx 1
              have U2 : w2.cell? ⟨wo.heap.size, 2, none⟩ = some (.int .i64 t3) := block_cell xx 2
              have U3 : w2.cell? ⟨wo.heap.size, 3, none⟩ = some (.int .i64 t4) := block_cell xx 3
              have tz : ((z : Int) != (z : Int)) = false := bfalse rfl
              clear xx hb2 D0 D1 D2 Y0 Y1 Y2 Y3
              go_wp2_with fail
              clear U0 U1 U2 U3
              go_roundw
              case rel => exact ⟨j + 1, by omega, by go_num, HBF.out⟩
              case measure => simp [intOf]; omega
      · obtain rfl : j = L1 + 1 := by omega
        have HBE := HBX
        have q1 : decide (((L1 + 1 : Nat) : Int) ≤ (L1 : Int)) = false := by simp; omega
        have q2 : ¬ (L1 + 1 ≤ L1) := by omega
        go_wp2_with fail
        refine (live15 _).mono ?_; rintro e vl ⟨rfl, hbl⟩
        have hbe := chain HBE.out hbl
        clear hbl
        go_wp2_with fail
        go_ret
        exact ⟨rfl, hbe⟩
end Go.Proofs.Ytncikklhchimdaa

namespace Go.Proofs.Ytncikklhchimdaa
open Go.RowKit
set_option linter.unusedVariables false
set_option linter.unusedSimpArgs false
set_option maxRecDepth 20000

theorem errN_chk (t : Tr) (dir : Int) (h : dir = 0 ∨ dir = 1) : errN t dir = chk t := by unfold errN; rw [if_neg (by omega)]
theorem namesB_chk {t : Tr} {dir : Int} (h : dir = 0 ∨ dir = 1) (hc : chk t = 0) : namesB t dir = t.names dir := (errN_zero (by rw [errN_chk t dir h]; exact hc)).2.2

set_option maxHeartbeats 8000000 in
theorem needBelowW (t : Tr) (k n : Int) (a : Option Addr) (m c : Nat) (i : Int) (w : World) (hs : t.size ≤ 1048576) (hT' : IsT w (fun _ => True) k n a m c t) (hi : fits .u8 i) :
    Calls Try.prog 7 #[.agg #[.int .i64 k, .int .i64 n, .slice a m c], .int .u8 i] w fun e w' => e = .returned (.bool true) ∧ Below w.heap.size w w' := by
  have hT := hT'.lt
  clear hT'
  have CM : Hid (∀ W, Below w.heap.size w W → Calls Try.prog 14 #[.agg #[.int .i64 k, .int .i64 n, .slice a m c]] W fun e w' => e = .returned (.bool (decide (80 < t.size))) ∧ Below W.heap.size W w') := fun W hb => ref_Much t _ _ _ _ _ W w.heap.size (by omega) (hT.below hb) hb.size
  have CK : Hid (∀ W, Below w.heap.size w W → Calls Try.prog 34 #[.agg #[.int .i64 k, .int .i64 n, .slice a m c], .int .i64 0] W fun e w' => e = .returned (.int .i64 (chk t)) ∧ Below W.heap.size W w') := fun W hb => by
    rw [← errN_chk t 0 (.inl rfl)]
    exact ref15_Check t _ _ _ _ _ 0 W w.heap.size hb.size (by omega) (hT.below hb)
  have CT : Hid (chk t = 0 → ∀ (dir : Int), dir = 0 ∨ dir = 1 → ∀ W, Below w.heap.size w W → Calls Try.prog 36 #[.agg #[.int .i64 k, .int .i64 n, .slice a m c], .int .i64 dir] W (GivesTab 0 (once (t.names dir)) W)) := fun hc dir hd W hb => by
    have := need_Tables t _ _ _ _ _ dir W _ (by omega) (hT.below hb)
    rwa [errN_chk t dir hd, hc, namesB_chk hd hc] at this
  have HT := Lib.hid hT
  have HS := Lib.hid hs
  obtain ⟨A1, hA1⟩ : ∃ A, decide (80 < t.size) = A := ⟨_, rfl⟩
  rw [hA1] at CM
  obtain ⟨C, hC⟩ : ∃ C, chk t = C := ⟨_, rfl⟩
  rw [hC] at CK CT
  have HC := Lib.hid hC
  clear hA1 hC hs
  obtain ⟨W0, hW0, hb0, x0⟩ := box_any w #[.int .i64 k, .int .i64 n, .slice a m c] 24
  have HB := Lib.hid hb0
  have HW0 := Lib.hid hW0
  have XD := Lib.hid x0
  clear hb0 hW0 x0

  cases A1 with
  | true =>
    clear hT
    have D0 : W0.cell? ⟨w.heap.size, 0, none⟩ = some (.int .i64 k) := block_cell XD.out 0
    have D1 : W0.cell? ⟨w.heap.size, 1, none⟩ = some (.int .i64 n) := block_cell XD.out 1
    have D2 : W0.cell? ⟨w.heap.size, 2, none⟩ = some (.slice a m c) := block_cell XD.out 2
    go_enter Try.func7, Try.ntmps7
    go_wp2_with fail
    rw [HW0.out]
    refine (CM.out _ HB.out).mono ?_; rintro e v1 ⟨rfl, hb1⟩
    have XD := Lib.hid ((hb1.block _ (block_lt XD.out)).trans XD.out)
    have HB := Lib.hid (chain HB.out hb1)
    clear hb1 D0 D1 D2
    go_wp2_with fail
    refine (live15 _).mono ?_; rintro e vl ⟨rfl, hbl⟩
    have hbe := chain HB.out hbl
    clear hbl
    go_wp2_with fail
    go_ret
    exact ⟨rfl, hbe⟩
  | false =>
    by_cases hc0 : C = 0
    case neg =>
      have t0 : (C != 0) = true := bdiff hc0
      clear hc0 CT hT
      have D0 : W0.cell? ⟨w.heap.size, 0, none⟩ = some (.int .i64 k) := block_cell XD.out 0
      have D1 : W0.cell? ⟨w.heap.size, 1, none⟩ = some (.int .i64 n) := block_cell XD.out 1
      have D2 : W0.cell? ⟨w.heap.size, 2, none⟩ = some (.slice a m c) := block_cell XD.out 2
      go_enter Try.func7, Try.ntmps7
      go_wp2_with fail
      rw [HW0.out]
      refine (CM.out _ HB.out).mono ?_; rintro e v1 ⟨rfl, hb1⟩
      have XD := Lib.hid ((hb1.block _ (block_lt XD.out)).trans XD.out)
      have HB := Lib.hid (chain HB.out hb1)
      clear hb1 D0 D1 D2
      have D0 : v1.cell? ⟨w.heap.size, 0, none⟩ = some (.int .i64 k) := block_cell XD.out 0
      have D1 : v1.cell? ⟨w.heap.size, 1, none⟩ = some (.int .i64 n) := block_cell XD.out 1
      have D2 : v1.cell? ⟨w.heap.size, 2, none⟩ = some (.slice a m c) := block_cell XD.out 2
      go_wp2_with fail
      refine (CK.out _ HB.out).mono ?_; rintro e v2 ⟨rfl, hb2⟩
      have XD := Lib.hid ((hb2.block _ (block_lt XD.out)).trans XD.out)
      have HB := Lib.hid (chain HB.out hb2)
      clear hb2 D0 D1 D2
      go_wp2_with fail
      refine (live15 _).mono ?_; rintro e vl ⟨rfl, hbl⟩
      have hbe := chain HB.out hbl
      clear hbl
      go_wp2_with fail
      go_ret
      exact ⟨rfl, hbe⟩
    subst hc0
    have CT0 := Lib.hid (CT.out rfl 0 (.inl rfl))
    have CT1 := Lib.hid (CT.out rfl 1 (.inr rfl))
    have hok := (chk_zero.1 HC.out).2
    have hn := (Tr.allOk_iff t).1 hok
    have hsz := (chk_zero.1 HC.out).1.1
    have hL := once_zero t
    have hl1 : (once (t.names 1)).length ≤ 120 := Nat.le_trans (once_len _) (by have := Tr.names_len _ t 1 (Nat.le_refl _); omega)
    have hlf : m = 0 → (once (t.names 0)).length = (once (t.names 1)).length := fun h => once_leaf hn.1 (by rw [← hT.em]; exact h)
    have HBL : Hid (∀ q, q < t.kids.length → ∀ (dir : Int), (dir = if t.kind > 5 then 0 else 1) → ∀ x ∈ once ((Tr.kid t.kids q).names dir), x ∈ once (t.names 1)) := fun q hq dir hd => once_below q hq hn.1 dir hd
    have HEK := Lib.hid hT.ek
    have HEM := Lib.hid hT.em
    obtain ⟨x0s, hx0⟩ : ∃ l, once (t.names 0) = l := ⟨_, rfl⟩
    obtain ⟨x1s, hx1⟩ : ∃ l, once (t.names 1) = l := ⟨_, rfl⟩
    rw [hx0] at CT0 hL hlf
    rw [hx1] at CT1 hL hl1 hlf HBL
    obtain ⟨L0, hL0⟩ : ∃ x, x0s.length = x := ⟨_, rfl⟩
    obtain ⟨L1, hL1⟩ : ∃ x, x1s.length = x := ⟨_, rfl⟩
    rw [hL0, hL1] at hL hlf
    rw [hL1] at hl1
    have HL0 := Lib.hid hL0
    have HL1 := Lib.hid hL1
    have hfk := hT.fk
    clear hx0 hx1 hL0 hL1 hok hn CT hT hsz
    by_cases hm : m = 0
    · have hll := hlf hm
      subst hm
      subst hll
      clear hlf
      have D0 : W0.cell? ⟨w.heap.size, 0, none⟩ = some (.int .i64 k) := block_cell XD.out 0
      have D1 : W0.cell? ⟨w.heap.size, 1, none⟩ = some (.int .i64 n) := block_cell XD.out 1
      have D2 : W0.cell? ⟨w.heap.size, 2, none⟩ = some (.slice a 0 c) := block_cell XD.out 2
      go_enter Try.func7, Try.ntmps7
      go_wp2_with fail
      rw [HW0.out]
      refine (CM.out _ HB.out).mono ?_; rintro e v1 ⟨rfl, hb1⟩
      have XD := Lib.hid ((hb1.block _ (block_lt XD.out)).trans XD.out)
      have HB := Lib.hid (chain HB.out hb1)
      clear hb1 D0 D1 D2
      have D0 : v1.cell? ⟨w.heap.size, 0, none⟩ = some (.int .i64 k) := block_cell XD.out 0
      have D1 : v1.cell? ⟨w.heap.size, 1, none⟩ = some (.int .i64 n) := block_cell XD.out 1
      have D2 : v1.cell? ⟨w.heap.size, 2, none⟩ = some (.slice a 0 c) := block_cell XD.out 2
      go_wp2_with fail
      refine (CK.out _ HB.out).mono ?_; rintro e v2 ⟨rfl, hb2⟩
      have XD := Lib.hid ((hb2.block _ (block_lt XD.out)).trans XD.out)
      have HB := Lib.hid (chain HB.out hb2)
      clear hb2 D0 D1 D2
      have D0 : v2.cell? ⟨w.heap.size, 0, none⟩ = some (.int .i64 k) := block_cell XD.out 0
      have D1 : v2.cell? ⟨w.heap.size, 1, none⟩ = some (.int .i64 n) := block_cell XD.out 1
      have D2 : v2.cell? ⟨w.heap.size, 2, none⟩ = some (.slice a 0 c) := block_cell XD.out 2
      go_wp2_with fail
      refine (CT0.out _ HB.out).mono ?_; rintro e v3 ⟨ra, rc, rfl, hown, hb3⟩
      have XD := Lib.hid ((hb3.block _ (block_lt XD.out)).trans XD.out)
      have HB := Lib.hid (chain HB.out hb3)
      clear hb3 hown D0 D1 D2
      rw [HL0.out]
      have D0 : v3.cell? ⟨w.heap.size, 0, none⟩ = some (.int .i64 k) := block_cell XD.out 0
      have D1 : v3.cell? ⟨w.heap.size, 1, none⟩ = some (.int .i64 n) := block_cell XD.out 1
      have D2 : v3.cell? ⟨w.heap.size, 2, none⟩ = some (.slice a 0 c) := block_cell XD.out 2
      go_wp2_with fail
      refine (CT1.out _ HB.out).mono ?_; rintro e v4 ⟨qa, qc, rfl, hown, hb4⟩
      have HR := Lib.hid (RowN.of_own hown rfl)
      have XD := Lib.hid ((hb4.block _ (block_lt XD.out)).trans XD.out)
      have HB := Lib.hid (chain HB.out hb4)
      clear hb4 hown D0 D1 D2
      rw [HL1.out]
      have D0 : v4.cell? ⟨w.heap.size, 0, none⟩ = some (.int .i64 k) := block_cell XD.out 0
      have D1 : v4.cell? ⟨w.heap.size, 1, none⟩ = some (.int .i64 n) := block_cell XD.out 1
      have D2 : v4.cell? ⟨w.heap.size, 2, none⟩ = some (.slice a 0 c) := block_cell XD.out 2
      have z0 : ((L0 : Int) == (L0 : Int)) = true := btrue rfl
      go_wp2_with fail
      refine (live15 _).mono ?_; rintro e vl ⟨rfl, hbl⟩
      have hbe := chain HB.out hbl
      clear hbl D0 D1 D2
      go_wp2_with fail
      go_ret
      exact ⟨rfl, hbe⟩
    · have i0 : 0 ≤ i ∧ i < 256 := by
        have h : (Lit.int .u8 i).wf = true := hi
        simp [Lit.wf] at h
        have e1 : IntKind.u8.min = 0 := by decide
        have e2 : IntKind.u8.max = 255 := by decide
        omega
      have hmp : 0 < m := by omega
      obtain ⟨q, hq⟩ := Int.eq_ofNat_of_zero_le (show 0 ≤ i % (m : Int) from Int.emod_nonneg _ (by omega))
      have hqm : q < m := by have := Int.emod_lt_of_pos i (show (0 : Int) < (m : Int) by omega); omega
      have hsz80 : m ≤ 1048576 := by have := Tr.len_le_sizeL t.kids; have := Tr.size_kids t; have := HS.out; have := HEM.out; omega
      obtain ⟨b, off, k', n', a', m', c', rfl, hF, hbl, e0, e1, e2, hTk⟩ := HT.out.kid q hqm
      have hql : q < t.kids.length := by rw [← HEM.out]; exact hqm
      have hck : chk (Tr.kid t.kids q) = 0 := chk_at (p := [(q : Int)]) (by rw [Tr.at_in (by omega) (by omega)]; simp [Tr.at?]) HC.out
      have hskz : (Tr.kid t.kids q).size ≤ 60 := (chk_zero.1 hck).1.1
      have CX : Hid (∀ (dir : Int), dir = 0 ∨ dir = 1 → ∀ W, Below w.heap.size w W → Calls Try.prog 36 #[.agg #[.int .i64 k', .int .i64 n', .slice a' m' c'], .int .i64 dir] W (GivesTab 0 (once ((Tr.kid t.kids q).names dir)) W)) := fun dir hd W hb => by
        have := need_Tables (Tr.kid t.kids q) _ _ _ _ _ dir W _ (by omega) (hTk.below hb)
        rwa [errN_chk _ dir hd, hck, namesB_chk hd hck] at this
      have HXL : Hid (∀ (dir : Int), (once ((Tr.kid t.kids q).names dir)).length ≤ 120) := fun dir => Nat.le_trans (once_len _) (by have := Tr.names_len _ (Tr.kid t.kids q) dir (Nat.le_refl _); omega)
      have HXF : Hid (∀ (dir : Int), dir = 0 ∨ dir = 1 → ∀ x ∈ once ((Tr.kid t.kids q).names dir), NmOk x) := fun dir hd x hx => names_fit _ _ dir (Nat.le_refl _) (chk_zero.1 hck).2 hd x ((mem_once _ _).1 hx)
      have HB2 := Lib.hid (HBL.out q hql)
      have hE0 := Lib.hid e0
      have hE1 := Lib.hid e1
      have hE2 := Lib.hid e2
      have m1 : ((m : Int) == 0) = false := bno (by omega)
      have m2 : i.tmod (m : Int) = (q : Int) := by rw [Int.tmod_eq_emod_of_nonneg (by omega)]; exact hq
      have m3 : ¬ ((m : Int) = 0) := by omega
      have m4 : ¬ (m = 0) := by omega
      have m5 : IntKind.i64.wrap i = i := IntWalk.i64_in _ (by omega)
      have m6 : IntKind.i64.wrap (q : Int) = (q : Int) := IntWalk.i64_in _ (by omega)
      have m7 : (0 : Int) ≤ (q : Int) := by omega
      have m8 : (q : Int) < (m : Int) := by omega
      have HD : Hid (∃ D : Int, (D = 0 ∨ D = 1) ∧ D = (if t.kind > 5 then 0 else 1)) := ⟨_, by split <;> simp, rfl⟩
      clear hm hlf hF hTk hck hskz e0 e1 e2 hi
      by_cases hk5 : k > 5
      · have d5 : decide (k > 5) = true := by simp; omega
        have hD : (0 : Int) = if t.kind > 5 then 0 else 1 := by rw [← HEK.out, if_pos hk5]
        have HBX := Lib.hid (HB2.out 0 hD)
        have CX0 := Lib.hid (CX.out 0 (.inl rfl))
        have hx120 := HXL.out 0
        have HXFF := Lib.hid (HXF.out 0 (.inl rfl))
        clear hD HB2 CX HXL HXF HD hk5
        have D0 : W0.cell? ⟨w.heap.size, 0, none⟩ = some (.int .i64 k) := block_cell XD.out 0
        have D1 : W0.cell? ⟨w.heap.size, 1, none⟩ = some (.int .i64 n) := block_cell XD.out 1
        have D2 : W0.cell? ⟨w.heap.size, 2, none⟩ = some (.slice (some ⟨b, off, none⟩) m c) := block_cell XD.out 2
        go_enter Try.func7, Try.ntmps7
        go_wp2_with fail
        rw [HW0.out]
        refine (CM.out _ HB.out).mono ?_; rintro e v1 ⟨rfl, hb1⟩
        have XD := Lib.hid ((hb1.block _ (block_lt XD.out)).trans XD.out)
        have HB := Lib.hid (chain HB.out hb1)
        clear hb1 D0 D1 D2
        have D0 : v1.cell? ⟨w.heap.size, 0, none⟩ = some (.int .i64 k) := block_cell XD.out 0
        have D1 : v1.cell? ⟨w.heap.size, 1, none⟩ = some (.int .i64 n) := block_cell XD.out 1
        have D2 : v1.cell? ⟨w.heap.size, 2, none⟩ = some (.slice (some ⟨b, off, none⟩) m c) := block_cell XD.out 2
        go_wp2_with fail
        refine (CK.out _ HB.out).mono ?_; rintro e v2 ⟨rfl, hb2⟩
        have XD := Lib.hid ((hb2.block _ (block_lt XD.out)).trans XD.out)
        have HB := Lib.hid (chain HB.out hb2)
        clear hb2 D0 D1 D2
        have D0 : v2.cell? ⟨w.heap.size, 0, none⟩ = some (.int .i64 k) := block_cell XD.out 0
        have D1 : v2.cell? ⟨w.heap.size, 1, none⟩ = some (.int .i64 n) := block_cell XD.out 1
        have D2 : v2.cell? ⟨w.heap.size, 2, none⟩ = some (.slice (some ⟨b, off, none⟩) m c) := block_cell XD.out 2
        go_wp2_with fail
        refine (CT0.out _ HB.out).mono ?_; rintro e v3 ⟨ra, rc, rfl, hown, hb3⟩
        have XD := Lib.hid ((hb3.block _ (block_lt XD.out)).trans XD.out)
        have HB := Lib.hid (chain HB.out hb3)
        clear hb3 hown D0 D1 D2
        rw [HL0.out]
        have D0 : v3.cell? ⟨w.heap.size, 0, none⟩ = some (.int .i64 k) := block_cell XD.out 0
        have D1 : v3.cell? ⟨w.heap.size, 1, none⟩ = some (.int .i64 n) := block_cell XD.out 1
        have D2 : v3.cell? ⟨w.heap.size, 2, none⟩ = some (.slice (some ⟨b, off, none⟩) m c) := block_cell XD.out 2
        go_wp2_with fail
        refine (CT1.out _ HB.out).mono ?_; rintro e v4 ⟨qa, qc, rfl, hown, hb4⟩
        have HR := Lib.hid (RowN.of_own hown rfl)
        have XD := Lib.hid ((hb4.block _ (block_lt XD.out)).trans XD.out)
        have HB := Lib.hid (chain HB.out hb4)
        clear hb4 hown D0 D1 D2
        rw [HL1.out]
        have D0 : v4.cell? ⟨w.heap.size, 0, none⟩ = some (.int .i64 k) := block_cell XD.out 0
        have D1 : v4.cell? ⟨w.heap.size, 1, none⟩ = some (.int .i64 n) := block_cell XD.out 1
        have D2 : v4.cell? ⟨w.heap.size, 2, none⟩ = some (.slice (some ⟨b, off, none⟩) m c) := block_cell XD.out 2
        have s0 := (HB.out.cell (p := ⟨b, off + q * 3, none⟩) hbl).trans hE0.out
        have s1 := (HB.out.cell (p := ⟨b, off + q * 3 + 1, none⟩) hbl).trans hE1.out
        have s2 := (HB.out.cell (p := ⟨b, off + q * 3 + 2, none⟩) hbl).trans hE2.out
        have lb : b < v4.heap.size := Nat.lt_of_lt_of_le hbl HB.out.size
        have lw := block_lt XD.out
        go_wp2_with fail
        go_region_held3 (fun w' => (w'.cell? ⟨w.heap.size, 0, none⟩ = some (.int .i64 k) ∧ w'.cell? ⟨w.heap.size, 1, none⟩ = some (.int .i64 n) ∧ w'.cell? ⟨w.heap.size, 2, none⟩ = some (.slice (some ⟨b, off, none⟩) m c)) ∧ (w'.cell? ⟨b, off + q * 3, none⟩ = some (.int .i64 k') ∧ w'.cell? ⟨b, off + q * 3 + 1, none⟩ = some (.int .i64 n') ∧ w'.cell? ⟨b, off + q * 3 + 2, none⟩ = some (.slice a' m' c'))) (first | exact ⟨⟨D0, D1, D2⟩, s0, s1, s2⟩ | (refine ⟨⟨?_, ?_, ?_⟩, ?_, ?_, ?_⟩ <;> first | exact (cell_past v4 _ _ lw).trans (by assumption) | exact (cell_past v4 _ _ lb).trans (by assumption)) | go_keep) (fail)
        obtain ⟨V, hV⟩ : ∃ V, (v4.alloc (.cells #[.int .i64 k', .int .i64 n', .slice a' m' c'] 24)).drew = V := ⟨_, rfl⟩
        have hbV : Below v4.heap.size v4 V := by rw [← hV]; exact ((Below.refl _ _).alloc (Nat.le_refl _) _).drew
        have v0 : V.heap[v4.heap.size]? = some (.cells #[.int .i64 k', .int .i64 n', .slice a' m' c'] 24 (0, 0)) := by rw [← hV]; exact block_new rfl
        rw [hV]
        have HR := Lib.hid (HR.out.below hbV)
        have V0 : V.cell? ⟨v4.heap.size, 0, none⟩ = some (.int .i64 k') := block_cell v0 0
        have V1 : V.cell? ⟨v4.heap.size, 1, none⟩ = some (.int .i64 n') := block_cell v0 1
        have V2 : V.cell? ⟨v4.heap.size, 2, none⟩ = some (.slice a' m' c') := block_cell v0 2
        clear hV v0 s0 s1 s2 lb lw
        have XD := Lib.hid ((hbV.block _ (block_lt XD.out)).trans XD.out)
        have HB := Lib.hid (chain HB.out hbV)
        clear hbV D0 D1 D2
        have D0 : V.cell? ⟨w.heap.size, 0, none⟩ = some (.int .i64 k) := block_cell XD.out 0
        have D1 : V.cell? ⟨w.heap.size, 1, none⟩ = some (.int .i64 n) := block_cell XD.out 1
        have D2 : V.cell? ⟨w.heap.size, 2, none⟩ = some (.slice (some ⟨b, off, none⟩) m c) := block_cell XD.out 2
        go_wp2_with fail
        refine (CX0.out _ HB.out).mono ?_; rintro e v5 ⟨sa, sc, rfl, hown, hb5⟩
        have HS5 := Lib.hid (RowN.of_own hown rfl)
        have HR := Lib.hid (HR.out.below hb5)
        have XD := Lib.hid ((hb5.block _ (block_lt XD.out)).trans XD.out)
        have HB := Lib.hid (chain HB.out hb5)
        clear hb5 hown D0 D1 D2 V0 V1 V2
        obtain ⟨xs, hxs⟩ : ∃ l, once ((Tr.kid t.kids q).names 0) = l := ⟨_, rfl⟩
        rw [hxs] at HS5 HBX HXFF hx120 ⊢
        clear hxs
        obtain ⟨L2, hL2⟩ : ∃ x, xs.length = x := ⟨_, rfl⟩
        rw [hL2] at hx120 ⊢
        have HL2 := Lib.hid hL2
        clear hL2
        go_wp2_with fail
        go_loopw [13] (fun u wr => ∃ j : Nat, j ≤ L2 ∧ u = .int .i64 j ∧ Hid (Below v5.heap.size v5 wr)) (fun u _ => L2 - (intOf u).toNat)
        case atStart => exact ⟨0, Nat.zero_le _, rfl, Below.refl _ _⟩
        case round =>
          obtain ⟨j, hj, rfl, HBW⟩ := hrel
          by_cases hlt : j < L2
          · obtain ⟨b2, off2, rfl, hbl2, c0, c1, c2, c3⟩ := (HS5.out.below HBW.out).at j (by rw [HL2.out]; exact hlt)
            have hmem := nmAt_mem (xs := xs) (i := j) (by rw [HL2.out]; exact hlt)
            obtain ⟨y, hy⟩ : ∃ y, nmAt xs j = y := ⟨_, rfl⟩
            rw [hy] at c0 c1 c2 c3 hmem
            obtain ⟨z1, z2, z3, z4⟩ := y
            simp only at c0 c1 c2 c3
            have CH : Hid (Calls Try.prog 37 #[.slice qa L1 qc, .agg #[.int .i64 z1, .int .i64 z2, .int .i64 z3, .int .i64 z4]] wr fun e w' => e = .returned (.bool true) ∧ Below wr.heap.size wr w') := by
              have := ref15_Has x1s qa L1 qc z1 z2 z3 z4 wr (HR.out.below HBW.out) HL1.out (by omega)
              rwa [decide_eq_true (HBX.out _ hmem)] at this
            have j0 : (0 : Int) ≤ (j : Int) := by omega
            have j1 : (j : Int) < (L2 : Int) := by omega
            clear hy hmem
            go_wp2_with fail
            refine CH.out.mono ?_; rintro e w2 ⟨rfl, hb2⟩
            have HBF := Lib.hid (chain HBW.out hb2)
            clear hb2 c0 c1 c2 c3
            go_wp2_with fail
            go_roundw
            case rel => exact ⟨j + 1, by omega, by go_num, HBF.out⟩
            case measure => simp [intOf]; omega
          · obtain rfl : j = L2 := by omega
            have HBE := Lib.hid (chain HB.out HBW.out)
            go_wp2_with fail
            refine (live15 _).mono ?_; rintro e vl ⟨rfl, hbl⟩
            have hbe := chain HBE.out hbl
            clear hbl
            go_wp2_with fail
            go_ret
            exact ⟨rfl, hbe⟩
      · have d5 : decide (k > 5) = false := by simp; omega
        have hD : (1 : Int) = if t.kind > 5 then 0 else 1 := by rw [← HEK.out, if_neg hk5]
        have HBX := Lib.hid (HB2.out 1 hD)
        have CX0 := Lib.hid (CX.out 1 (.inr rfl))
        have hx120 := HXL.out 1
        have HXFF := Lib.hid (HXF.out 1 (.inr rfl))
        clear hD HB2 CX HXL HXF HD hk5
        have D0 : W0.cell? ⟨w.heap.size, 0, none⟩ = some (.int .i64 k) := block_cell XD.out 0
        have D1 : W0.cell? ⟨w.heap.size, 1, none⟩ = some (.int .i64 n) := block_cell XD.out 1
        have D2 : W0.cell? ⟨w.heap.size, 2, none⟩ = some (.slice (some ⟨b, off, none⟩) m c) := block_cell XD.out 2
        go_enter Try.func7, Try.ntmps7
        go_wp2_with fail
        rw [HW0.out]
        refine (CM.out _ HB.out).mono ?_; rintro e v1 ⟨rfl, hb1⟩
        have XD := Lib.hid ((hb1.block _ (block_lt XD.out)).trans XD.out)
        have HB := Lib.hid (chain HB.out hb1)
        clear hb1 D0 D1 D2
        have D0 : v1.cell? ⟨w.heap.size, 0, none⟩ = some (.int .i64 k) := block_cell XD.out 0
        have D1 : v1.cell? ⟨w.heap.size, 1, none⟩ = some (.int .i64 n) := block_cell XD.out 1
        have D2 : v1.cell? ⟨w.heap.size, 2, none⟩ = some (.slice (some ⟨b, off, none⟩) m c) := block_cell XD.out 2
        go_wp2_with fail
        refine (CK.out _ HB.out).mono ?_; rintro e v2 ⟨rfl, hb2⟩
        have XD := Lib.hid ((hb2.block _ (block_lt XD.out)).trans XD.out)
        have HB := Lib.hid (chain HB.out hb2)
        clear hb2 D0 D1 D2
        have D0 : v2.cell? ⟨w.heap.size, 0, none⟩ = some (.int .i64 k) := block_cell XD.out 0
        have D1 : v2.cell? ⟨w.heap.size, 1, none⟩ = some (.int .i64 n) := block_cell XD.out 1
        have D2 : v2.cell? ⟨w.heap.size, 2, none⟩ = some (.slice (some ⟨b, off, none⟩) m c) := block_cell XD.out 2
        go_wp2_with fail
        refine (CT0.out _ HB.out).mono ?_; rintro e v3 ⟨ra, rc, rfl, hown, hb3⟩
        have XD := Lib.hid ((hb3.block _ (block_lt XD.out)).trans XD.out)
        have HB := Lib.hid (chain HB.out hb3)
        clear hb3 hown D0 D1 D2
        rw [HL0.out]
        have D0 : v3.cell? ⟨w.heap.size, 0, none⟩ = some (.int .i64 k) := block_cell XD.out 0
        have D1 : v3.cell? ⟨w.heap.size, 1, none⟩ = some (.int .i64 n) := block_cell XD.out 1
        have D2 : v3.cell? ⟨w.heap.size, 2, none⟩ = some (.slice (some ⟨b, off, none⟩) m c) := block_cell XD.out 2
        go_wp2_with fail
        refine (CT1.out _ HB.out).mono ?_; rintro e v4 ⟨qa, qc, rfl, hown, hb4⟩
        have HR := Lib.hid (RowN.of_own hown rfl)
        have XD := Lib.hid ((hb4.block _ (block_lt XD.out)).trans XD.out)
        have HB := Lib.hid (chain HB.out hb4)
        clear hb4 hown D0 D1 D2
        rw [HL1.out]
        have D0 : v4.cell? ⟨w.heap.size, 0, none⟩ = some (.int .i64 k) := block_cell XD.out 0
        have D1 : v4.cell? ⟨w.heap.size, 1, none⟩ = some (.int .i64 n) := block_cell XD.out 1
        have D2 : v4.cell? ⟨w.heap.size, 2, none⟩ = some (.slice (some ⟨b, off, none⟩) m c) := block_cell XD.out 2
        have s0 := (HB.out.cell (p := ⟨b, off + q * 3, none⟩) hbl).trans hE0.out
        have s1 := (HB.out.cell (p := ⟨b, off + q * 3 + 1, none⟩) hbl).trans hE1.out
        have s2 := (HB.out.cell (p := ⟨b, off + q * 3 + 2, none⟩) hbl).trans hE2.out
        have lb : b < v4.heap.size := Nat.lt_of_lt_of_le hbl HB.out.size
        have lw := block_lt XD.out
        go_wp2_with fail
        go_region_held3 (fun w' => (w'.cell? ⟨w.heap.size, 0, none⟩ = some (.int .i64 k) ∧ w'.cell? ⟨w.heap.size, 1, none⟩ = some (.int .i64 n) ∧ w'.cell? ⟨w.heap.size, 2, none⟩ = some (.slice (some ⟨b, off, none⟩) m c)) ∧ (w'.cell? ⟨b, off + q * 3, none⟩ = some (.int .i64 k') ∧ w'.cell? ⟨b, off + q * 3 + 1, none⟩ = some (.int .i64 n') ∧ w'.cell? ⟨b, off + q * 3 + 2, none⟩ = some (.slice a' m' c'))) (first | exact ⟨⟨D0, D1, D2⟩, s0, s1, s2⟩ | (refine ⟨⟨?_, ?_, ?_⟩, ?_, ?_, ?_⟩ <;> first | exact (cell_past v4 _ _ lw).trans (by assumption) | exact (cell_past v4 _ _ lb).trans (by assumption)) | go_keep) (fail)
        obtain ⟨V, hV⟩ : ∃ V, (v4.alloc (.cells #[.int .i64 k', .int .i64 n', .slice a' m' c'] 24)).drew = V := ⟨_, rfl⟩
        have hbV : Below v4.heap.size v4 V := by rw [← hV]; exact ((Below.refl _ _).alloc (Nat.le_refl _) _).drew
        have v0 : V.heap[v4.heap.size]? = some (.cells #[.int .i64 k', .int .i64 n', .slice a' m' c'] 24 (0, 0)) := by rw [← hV]; exact block_new rfl
        rw [hV]
        have HR := Lib.hid (HR.out.below hbV)
        have V0 : V.cell? ⟨v4.heap.size, 0, none⟩ = some (.int .i64 k') := block_cell v0 0
        have V1 : V.cell? ⟨v4.heap.size, 1, none⟩ = some (.int .i64 n') := block_cell v0 1
        have V2 : V.cell? ⟨v4.heap.size, 2, none⟩ = some (.slice a' m' c') := block_cell v0 2
        clear hV v0 s0 s1 s2 lb lw
        have XD := Lib.hid ((hbV.block _ (block_lt XD.out)).trans XD.out)
        have HB := Lib.hid (chain HB.out hbV)
        clear hbV D0 D1 D2
        have D0 : V.cell? ⟨w.heap.size, 0, none⟩ = some (.int .i64 k) := block_cell XD.out 0
        have D1 : V.cell? ⟨w.heap.size, 1, none⟩ = some (.int .i64 n) := block_cell XD.out 1
        have D2 : V.cell? ⟨w.heap.size, 2, none⟩ = some (.slice (some ⟨b, off, none⟩) m c) := block_cell XD.out 2
        go_wp2_with fail
        refine (CX0.out _ HB.out).mono ?_; rintro e v5 ⟨sa, sc, rfl, hown, hb5⟩
        have HS5 := Lib.hid (RowN.of_own hown rfl)
        have HR := Lib.hid (HR.out.below hb5)
        have XD := Lib.hid ((hb5.block _ (block_lt XD.out)).trans XD.out)
        have HB := Lib.hid (chain HB.out hb5)
        clear hb5 hown D0 D1 D2 V0 V1 V2
        obtain ⟨xs, hxs⟩ : ∃ l, once ((Tr.kid t.kids q).names 1) = l := ⟨_, rfl⟩
        rw [hxs] at HS5 HBX HXFF hx120 ⊢
        clear hxs
        obtain ⟨L2, hL2⟩ : ∃ x, xs.length = x := ⟨_, rfl⟩
        rw [hL2] at hx120 ⊢
        have HL2 := Lib.hid hL2
        clear hL2
        go_wp2_with fail
        go_loopw [13] (fun u wr => ∃ j : Nat, j ≤ L2 ∧ u = .int .i64 j ∧ Hid (Below v5.heap.size v5 wr)) (fun u _ => L2 - (intOf u).toNat)
        case atStart => exact ⟨0, Nat.zero_le _, rfl, Below.refl _ _⟩
        case round =>
          obtain ⟨j, hj, rfl, HBW⟩ := hrel
          by_cases hlt : j < L2
          · obtain ⟨b2, off2, rfl, hbl2, c0, c1, c2, c3⟩ := (HS5.out.below HBW.out).at j (by rw [HL2.out]; exact hlt)
            have hmem := nmAt_mem (xs := xs) (i := j) (by rw [HL2.out]; exact hlt)
            obtain ⟨y, hy⟩ : ∃ y, nmAt xs j = y := ⟨_, rfl⟩
            rw [hy] at c0 c1 c2 c3 hmem
            obtain ⟨z1, z2, z3, z4⟩ := y
            simp only at c0 c1 c2 c3
            have CH : Hid (Calls Try.prog 37 #[.slice qa L1 qc, .agg #[.int .i64 z1, .int .i64 z2, .int .i64 z3, .int .i64 z4]] wr fun e w' => e = .returned (.bool true) ∧ Below wr.heap.size wr w') := by
              have := ref15_Has x1s qa L1 qc z1 z2 z3 z4 wr (HR.out.below HBW.out) HL1.out (by omega)
              rwa [decide_eq_true (HBX.out _ hmem)] at this
            have j0 : (0 : Int) ≤ (j : Int) := by omega
            have j1 : (j : Int) < (L2 : Int) := by omega
            clear hy hmem
            go_wp2_with fail
            refine CH.out.mono ?_; rintro e w2 ⟨rfl, hb2⟩
            have HBF := Lib.hid (chain HBW.out hb2)
            clear hb2 c0 c1 c2 c3
            go_wp2_with fail
            go_roundw
            case rel => exact ⟨j + 1, by omega, by go_num, HBF.out⟩
            case measure => simp [intOf]; omega
          · obtain rfl : j = L2 := by omega
            have HBE := Lib.hid (chain HB.out HBW.out)
            go_wp2_with fail
            refine (live15 _).mono ?_; rintro e vl ⟨rfl, hbl⟩
            have hbe := chain HBE.out hbl
            clear hbl
            go_wp2_with fail
            go_ret
            exact ⟨rfl, hbe⟩
end Go.Proofs.Ytncikklhchimdaa
