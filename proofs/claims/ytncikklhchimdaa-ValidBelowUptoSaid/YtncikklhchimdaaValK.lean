/- The law of what is below a plan: the walk. -/
import Derived.Test.YtncikklhchimdaaValJ
import Derived.Test.YtncikklhchimdaaValH
import Derived.Test.YtncikklhchimdaaTreeV
namespace Go.Proofs.Ytncikklhchimdaa
open Go.RowKit
set_option linter.unusedVariables false
set_option linter.unusedSimpArgs false
set_option maxRecDepth 100000
set_option maxRecDepth 20000

theorem desc_desc (w : World) (k n k' n' : Int) (a a' : Option Addr) (m c m' c' : Nat) (T : TypeId) :
    ∃ W0, (w.alloc (.cells #[.int .i64 k, .int .i64 n, .slice a m c] T)).alloc (.cells #[.int .i64 k', .int .i64 n', .slice a' m' c'] T) = W0 ∧ Below w.heap.size w W0 ∧
      W0.heap[w.heap.size]? = some (.cells #[.int .i64 k, .int .i64 n, .slice a m c] T (0, 0)) ∧ W0.heap[w.heap.size + 1]? = some (.cells #[.int .i64 k', .int .i64 n', .slice a' m' c'] T (0, 0)) :=
  ⟨_, rfl, ((Below.refl _ _).alloc (Nat.le_refl _) _).alloc (by simp) _, block_old (by simp) (block_new rfl), block_new (by simp)⟩

set_option maxHeartbeats 8000000 in
theorem validBelowW (t : Tr) (k n : Int) (a : Option Addr) (m c : Nat) (pa : Option Addr) (pc : Nat) (p : List Int) (u : Tr) (k' n' : Int) (a' : Option Addr) (m' c' : Nat) (w : World) (hs : t.size ≤ 1048576) (hT' : IsT w (fun _ => True) k n a m c t) (hp : Row .i64 w pa p) (hpc : OkCap pa p.length pc) (hsu : u.size ≤ 1048576) (hU' : IsT w (fun _ => True) k' n' a' m' c' u) :
    Calls Try.prog 3 #[.agg #[.int .i64 k, .int .i64 n, .slice a m c], .slice pa p.length pc, .agg #[.int .i64 k', .int .i64 n', .slice a' m' c']] w fun e w' => e = .returned (.bool true) ∧ Below w.heap.size w w' := by
  have hT := hT'.lt
  have hU := hU'.lt
  have hpl := hp.len
  obtain ⟨pn, hpn⟩ : ∃ pn, p.length = pn := ⟨_, rfl⟩
  rw [hpn] at hpc hpl ⊢
  clear hT' hU'
  have CMD : Hid (∀ W, Below w.heap.size w W → Calls Try.prog 14 #[.agg #[.int .i64 k, .int .i64 n, .slice a m c]] W fun e w' => e = .returned (.bool (decide (80 < t.size))) ∧ Below W.heap.size W w') := fun W hb => ref_Much t _ _ _ _ _ W w.heap.size (by omega) (hT.below hb) hb.size
  have CCD : Hid (∀ W, Below w.heap.size w W → Calls Try.prog 17 #[.agg #[.int .i64 k, .int .i64 n, .slice a m c]] W fun e w' => e = .returned (.int .i64 (chk t)) ∧ Below W.heap.size W w') := fun W hb => valid_Check t _ _ _ _ _ W _ (by omega) (hT.below hb)
  have CMU : Hid (∀ W, Below w.heap.size w W → Calls Try.prog 14 #[.agg #[.int .i64 k', .int .i64 n', .slice a' m' c']] W fun e w' => e = .returned (.bool (decide (80 < u.size))) ∧ Below W.heap.size W w') := fun W hb => ref_Much u _ _ _ _ _ W w.heap.size (by omega) (hU.below hb) hb.size
  have CCU : Hid (∀ W, Below w.heap.size w W → Calls Try.prog 17 #[.agg #[.int .i64 k', .int .i64 n', .slice a' m' c']] W fun e w' => e = .returned (.int .i64 (chk u)) ∧ Below W.heap.size W w') := fun W hb => valid_Check u _ _ _ _ _ W _ (by omega) (hU.below hb)
  have CAN : Hid (Tr.at? t p = none → ∀ W, Below w.heap.size w W → Calls Try.prog 16 #[.agg #[.int .i64 k, .int .i64 n, .slice a m c], .slice pa pn pc] W (GivesN2 W)) := fun h W hb => ref13_At_no w.heap.size p t k n a m c pa pn pc W (by omega) (hT.below hb) (hp.below hb) hpn hpc.1 hb.size h
  have CAY : Hid (∀ s, Tr.at? t p = some s → ∀ W, Below w.heap.size w W → Calls Try.prog 16 #[.agg #[.int .i64 k, .int .i64 n, .slice a m c], .slice pa pn pc] W (GivesT2 w.heap.size s W)) := fun s h W hb => ref13_At_yes w.heap.size p t s k n a m c pa pn pc W (by omega) (hT.below hb) (hp.below hb) hpn hpc.1 hb.size h
  have CP : Hid (∀ s, Tr.at? t p = some s → ∀ W, Below w.heap.size w W → Calls Try.prog 18 #[.agg #[.int .i64 k, .int .i64 n, .slice a m c], .slice pa pn pc, .agg #[.int .i64 k', .int .i64 n', .slice a' m' c']] W (GivesW w.heap.size (t.put p u) W)) := fun s h W hb => ref13_Put w.heap.size p t u s k n a m c pa pn pc k' n' a' m' c' W (by omega) (hT.below hb) (hU.below hb) (hp.below hb) hpn hpc.1 hb.size h
  have HSZ : Hid (t.size ≤ 1048576 ∧ u.size ≤ 1048576) := ⟨hs, hsu⟩
  have HUN : Hid (n' = u.num) := hU.en
  obtain ⟨A1, hA1⟩ : ∃ A, decide (80 < t.size) = A := ⟨_, rfl⟩
  obtain ⟨A2, hA2⟩ : ∃ A, decide (80 < u.size) = A := ⟨_, rfl⟩
  rw [hA1] at CMD
  rw [hA2] at CMU
  obtain ⟨C1, hC1⟩ : ∃ C, chk t = C := ⟨_, rfl⟩
  obtain ⟨C2, hC2⟩ : ∃ C, chk u = C := ⟨_, rfl⟩
  rw [hC1] at CCD
  rw [hC2] at CCU
  have HC1 := Lib.hid hC1
  have HC2 := Lib.hid hC2
  clear hA1 hA2 hC1 hC2 hT hU hp hs hsu hpn hpc
  obtain ⟨w0, hW0, hb0, x0, x1⟩ := desc_desc w k n k' n' a a' m c m' c' 24
  have HB := Lib.hid hb0
  have HW0 := Lib.hid hW0
  have XD := Lib.hid x0
  have XU := Lib.hid x1
  clear hb0 hW0 x0 x1
  cases A1 with
  | true =>
    have D0 : w0.cell? ⟨w.heap.size, 0, none⟩ = some (.int .i64 k) := block_cell XD.out 0
    have D1 : w0.cell? ⟨w.heap.size, 1, none⟩ = some (.int .i64 n) := block_cell XD.out 1
    have D2 : w0.cell? ⟨w.heap.size, 2, none⟩ = some (.slice a m c) := block_cell XD.out 2
    go_enter Try.func3, Try.ntmps3
    go_wp2_with fail
    rw [HW0.out]
    refine (CMD.out _ HB.out).mono ?_; rintro e v1 ⟨rfl, hb1⟩
    clear D0 D1 D2
    have XD := Lib.hid ((hb1.block _ (block_lt XD.out)).trans XD.out)
    have XU := Lib.hid ((hb1.block _ (block_lt XU.out)).trans XU.out)
    have HB := Lib.hid (chain HB.out hb1)
    clear hb1
    go_wp2_with fail
    refine (live14 _).mono ?_; rintro e v2 ⟨rfl, hbl⟩
    have hbe := chain HB.out hbl
    clear hbl
    go_wp2_with fail
    go_ret
    exact ⟨rfl, hbe⟩
  | false =>
    cases A2 with
    | true =>
      have D0 : w0.cell? ⟨w.heap.size, 0, none⟩ = some (.int .i64 k) := block_cell XD.out 0
      have D1 : w0.cell? ⟨w.heap.size, 1, none⟩ = some (.int .i64 n) := block_cell XD.out 1
      have D2 : w0.cell? ⟨w.heap.size, 2, none⟩ = some (.slice a m c) := block_cell XD.out 2
      go_enter Try.func3, Try.ntmps3
      go_wp2_with fail
      rw [HW0.out]
      refine (CMD.out _ HB.out).mono ?_; rintro e v1 ⟨rfl, hb1⟩
      clear D0 D1 D2
      have XD := Lib.hid ((hb1.block _ (block_lt XD.out)).trans XD.out)
      have XU := Lib.hid ((hb1.block _ (block_lt XU.out)).trans XU.out)
      have HB := Lib.hid (chain HB.out hb1)
      clear hb1
      have U0 : v1.cell? ⟨w.heap.size + 1, 0, none⟩ = some (.int .i64 k') := block_cell XU.out 0
      have U1 : v1.cell? ⟨w.heap.size + 1, 1, none⟩ = some (.int .i64 n') := block_cell XU.out 1
      have U2 : v1.cell? ⟨w.heap.size + 1, 2, none⟩ = some (.slice a' m' c') := block_cell XU.out 2
      go_wp2_with fail
      refine (CMU.out _ HB.out).mono ?_; rintro e v2 ⟨rfl, hb2⟩
      clear U0 U1 U2
      have XD := Lib.hid ((hb2.block _ (block_lt XD.out)).trans XD.out)
      have XU := Lib.hid ((hb2.block _ (block_lt XU.out)).trans XU.out)
      have HB := Lib.hid (chain HB.out hb2)
      clear hb2
      go_wp2_with fail
      refine (live14 _).mono ?_; rintro e v3 ⟨rfl, hbl⟩
      have hbe := chain HB.out hbl
      clear hbl
      go_wp2_with fail
      go_ret
      exact ⟨rfl, hbe⟩
    | false =>
      by_cases h20 : 20 < pn
      · have t1 : decide ((pn : Int) > 20) = true := by simp; omega
        have t2 : (20 : Int) < (pn : Int) := by omega
        have D0 : w0.cell? ⟨w.heap.size, 0, none⟩ = some (.int .i64 k) := block_cell XD.out 0
        have D1 : w0.cell? ⟨w.heap.size, 1, none⟩ = some (.int .i64 n) := block_cell XD.out 1
        have D2 : w0.cell? ⟨w.heap.size, 2, none⟩ = some (.slice a m c) := block_cell XD.out 2
        go_enter Try.func3, Try.ntmps3
        go_wp2_with fail
        rw [HW0.out]
        refine (CMD.out _ HB.out).mono ?_; rintro e v1 ⟨rfl, hb1⟩
        clear D0 D1 D2
        have XD := Lib.hid ((hb1.block _ (block_lt XD.out)).trans XD.out)
        have XU := Lib.hid ((hb1.block _ (block_lt XU.out)).trans XU.out)
        have HB := Lib.hid (chain HB.out hb1)
        clear hb1
        have U0 : v1.cell? ⟨w.heap.size + 1, 0, none⟩ = some (.int .i64 k') := block_cell XU.out 0
        have U1 : v1.cell? ⟨w.heap.size + 1, 1, none⟩ = some (.int .i64 n') := block_cell XU.out 1
        have U2 : v1.cell? ⟨w.heap.size + 1, 2, none⟩ = some (.slice a' m' c') := block_cell XU.out 2
        go_wp2_with fail
        refine (CMU.out _ HB.out).mono ?_; rintro e v2 ⟨rfl, hb2⟩
        clear U0 U1 U2
        have XD := Lib.hid ((hb2.block _ (block_lt XD.out)).trans XD.out)
        have XU := Lib.hid ((hb2.block _ (block_lt XU.out)).trans XU.out)
        have HB := Lib.hid (chain HB.out hb2)
        clear hb2
        go_wp2_with fail
        refine (live14 _).mono ?_; rintro e v3 ⟨rfl, hbl⟩
        have hbe := chain HB.out hbl
        clear hbl
        go_wp2_with fail
        go_ret
        exact ⟨rfl, hbe⟩
      · have t1 : decide ((pn : Int) > 20) = false := by simp; omega
        have t2 : ¬ (20 : Int) < (pn : Int) := by omega
        obtain ⟨r, hr⟩ : ∃ r, Tr.at? t p = r := ⟨_, rfl⟩
        cases r with
        | none =>
          have D0 : w0.cell? ⟨w.heap.size, 0, none⟩ = some (.int .i64 k) := block_cell XD.out 0
          have D1 : w0.cell? ⟨w.heap.size, 1, none⟩ = some (.int .i64 n) := block_cell XD.out 1
          have D2 : w0.cell? ⟨w.heap.size, 2, none⟩ = some (.slice a m c) := block_cell XD.out 2
          go_enter Try.func3, Try.ntmps3
          go_wp2_with fail
          rw [HW0.out]
          refine (CMD.out _ HB.out).mono ?_; rintro e v1 ⟨rfl, hb1⟩
          clear D0 D1 D2
          have XD := Lib.hid ((hb1.block _ (block_lt XD.out)).trans XD.out)
          have XU := Lib.hid ((hb1.block _ (block_lt XU.out)).trans XU.out)
          have HB := Lib.hid (chain HB.out hb1)
          clear hb1
          have U0 : v1.cell? ⟨w.heap.size + 1, 0, none⟩ = some (.int .i64 k') := block_cell XU.out 0
          have U1 : v1.cell? ⟨w.heap.size + 1, 1, none⟩ = some (.int .i64 n') := block_cell XU.out 1
          have U2 : v1.cell? ⟨w.heap.size + 1, 2, none⟩ = some (.slice a' m' c') := block_cell XU.out 2
          go_wp2_with fail
          refine (CMU.out _ HB.out).mono ?_; rintro e v2 ⟨rfl, hb2⟩
          clear U0 U1 U2
          have XD := Lib.hid ((hb2.block _ (block_lt XD.out)).trans XD.out)
          have XU := Lib.hid ((hb2.block _ (block_lt XU.out)).trans XU.out)
          have HB := Lib.hid (chain HB.out hb2)
          clear hb2
          have D0 : v2.cell? ⟨w.heap.size, 0, none⟩ = some (.int .i64 k) := block_cell XD.out 0
          have D1 : v2.cell? ⟨w.heap.size, 1, none⟩ = some (.int .i64 n) := block_cell XD.out 1
          have D2 : v2.cell? ⟨w.heap.size, 2, none⟩ = some (.slice a m c) := block_cell XD.out 2
          go_wp2_with fail
          refine (CAN.out hr _ HB.out).mono ?_; rintro e v3 ⟨rfl, hb3⟩
          clear D0 D1 D2
          have XD := Lib.hid ((hb3.block _ (block_lt XD.out)).trans XD.out)
          have XU := Lib.hid ((hb3.block _ (block_lt XU.out)).trans XU.out)
          have HB := Lib.hid (chain HB.out hb3)
          clear hb3
          go_wp2_with fail
          refine (live14 _).mono ?_; rintro e v4 ⟨rfl, hbl⟩
          have hbe := chainA HB.out hbl
          clear hbl
          go_wp2_with fail
          go_ret
          exact ⟨rfl, hbe⟩
        | some s =>
          have HAT := Lib.hid hr
          have CAT := Lib.hid (CAY.out s hr)
          have CPT := Lib.hid (CP.out s hr)
          have HSS : Hid (s.size ≤ 1048576) := by unfold Hid; exact Nat.le_trans (Tr.at_size hr) HSZ.out.1
          have HPS : Hid ((t.put p u).size ≤ 2097152) := by unfold Hid; have := Tr.put_size u hr; have := HSZ.out; omega
          clear hr CAY CP CAN
          by_cases hc1 : C1 = 0
          · subst hc1
            have HCS : Hid (chk s = 0) := chk_at HAT.out HC1.out
            by_cases hc2 : C2 = 0
            · subst hc2
              by_cases hnn : n' = s.num
              · have HN2 := Lib.hid hnn
                have HCP := Lib.hid (chk_put HAT.out HC1.out HC2.out (HUN.out.symm.trans hnn))
                clear hnn
                have D0 : w0.cell? ⟨w.heap.size, 0, none⟩ = some (.int .i64 k) := block_cell XD.out 0
                have D1 : w0.cell? ⟨w.heap.size, 1, none⟩ = some (.int .i64 n) := block_cell XD.out 1
                have D2 : w0.cell? ⟨w.heap.size, 2, none⟩ = some (.slice a m c) := block_cell XD.out 2
                go_enter Try.func3, Try.ntmps3
                go_wp2_with fail
                rw [HW0.out]
                refine (CMD.out _ HB.out).mono ?_; rintro e v1 ⟨rfl, hb1⟩
                clear D0 D1 D2
                have XD := Lib.hid ((hb1.block _ (block_lt XD.out)).trans XD.out)
                have XU := Lib.hid ((hb1.block _ (block_lt XU.out)).trans XU.out)
                have HB := Lib.hid (chain HB.out hb1)
                clear hb1
                have U0 : v1.cell? ⟨w.heap.size + 1, 0, none⟩ = some (.int .i64 k') := block_cell XU.out 0
                have U1 : v1.cell? ⟨w.heap.size + 1, 1, none⟩ = some (.int .i64 n') := block_cell XU.out 1
                have U2 : v1.cell? ⟨w.heap.size + 1, 2, none⟩ = some (.slice a' m' c') := block_cell XU.out 2
                go_wp2_with fail
                refine (CMU.out _ HB.out).mono ?_; rintro e v2 ⟨rfl, hb2⟩
                clear U0 U1 U2
                have XD := Lib.hid ((hb2.block _ (block_lt XD.out)).trans XD.out)
                have XU := Lib.hid ((hb2.block _ (block_lt XU.out)).trans XU.out)
                have HB := Lib.hid (chain HB.out hb2)
                clear hb2
                have D0 : v2.cell? ⟨w.heap.size, 0, none⟩ = some (.int .i64 k) := block_cell XD.out 0
                have D1 : v2.cell? ⟨w.heap.size, 1, none⟩ = some (.int .i64 n) := block_cell XD.out 1
                have D2 : v2.cell? ⟨w.heap.size, 2, none⟩ = some (.slice a m c) := block_cell XD.out 2
                go_wp2_with fail
                refine (CAT.out _ HB.out).mono ?_; rintro e v3 ⟨k1, n1, a1, m1, c1, rfl, hT1, hb1⟩
                clear D0 D1 D2
                have XD := Lib.hid ((hb1.block _ (block_lt XD.out)).trans XD.out)
                have XU := Lib.hid ((hb1.block _ (block_lt XU.out)).trans XU.out)
                have HB := Lib.hid (chain HB.out hb1)
                have TX := Lib.hid hT1
                have HNX : Hid (n1 = s.num) := hT1.en
                clear hT1 hb1
                go_upto_region 4 with fail
                obtain ⟨y4, hW, hbx, hx⟩ := box_any v3 #[(.int .i64 k1), (.int .i64 n1), (.slice a1 m1 c1)] 24
                rw [hW]
                clear hW
                have XD := Lib.hid ((hbx.block _ (block_lt XD.out)).trans XD.out)
                have XU := Lib.hid ((hbx.block _ (block_lt XU.out)).trans XU.out)
                have TX := Lib.hid (TX.out.below hbx)
                have HB := Lib.hid (chain HB.out hbx)
                have XX := Lib.hid hx
                clear hx hbx
                have D0 : y4.cell? ⟨w.heap.size, 0, none⟩ = some (.int .i64 k) := block_cell XD.out 0
                have D1 : y4.cell? ⟨w.heap.size, 1, none⟩ = some (.int .i64 n) := block_cell XD.out 1
                have D2 : y4.cell? ⟨w.heap.size, 2, none⟩ = some (.slice a m c) := block_cell XD.out 2
                go_wp2_with fail
                refine (CCD.out _ HB.out).mono ?_; rintro e v5 ⟨rfl, hb5⟩
                clear D0 D1 D2
                have XD := Lib.hid ((hb5.block _ (block_lt XD.out)).trans XD.out)
                have XU := Lib.hid ((hb5.block _ (block_lt XU.out)).trans XU.out)
                have XX := Lib.hid ((hb5.block _ (block_lt XX.out)).trans XX.out)
                have TX := Lib.hid (TX.out.below hb5)
                have HB := Lib.hid (chain HB.out hb5)
                clear hb5
                have X0 : v5.cell? ⟨v3.heap.size, 0, none⟩ = some (.int .i64 k1) := block_cell XX.out 0
                have X1 : v5.cell? ⟨v3.heap.size, 1, none⟩ = some (.int .i64 n1) := block_cell XX.out 1
                have X2 : v5.cell? ⟨v3.heap.size, 2, none⟩ = some (.slice a1 m1 c1) := block_cell XX.out 2
                have CCX : Hid (∀ W, Below v5.heap.size v5 W → Calls Try.prog 17 #[.agg #[.int .i64 k1, .int .i64 n1, .slice a1 m1 c1]] W fun e w' => e = .returned (.int .i64 0) ∧ Below W.heap.size W w') := fun W hb => by
                  have := valid_Check s _ _ _ _ _ W _ (by have := HSS.out; omega) (TX.out.below hb)
                  rwa [HCS.out] at this
                go_wp2_with fail
                refine (CCX.out _ (Below.refl _ _)).mono ?_; rintro e v6 ⟨rfl, hb6⟩
                clear X0 X1 X2
                have XD := Lib.hid ((hb6.block _ (block_lt XD.out)).trans XD.out)
                have XU := Lib.hid ((hb6.block _ (block_lt XU.out)).trans XU.out)
                have XX := Lib.hid ((hb6.block _ (block_lt XX.out)).trans XX.out)
                have TX := Lib.hid (TX.out.below hb6)
                have HB := Lib.hid (chain HB.out hb6)
                clear hb6
                have U0 : v6.cell? ⟨w.heap.size + 1, 0, none⟩ = some (.int .i64 k') := block_cell XU.out 0
                have U1 : v6.cell? ⟨w.heap.size + 1, 1, none⟩ = some (.int .i64 n') := block_cell XU.out 1
                have U2 : v6.cell? ⟨w.heap.size + 1, 2, none⟩ = some (.slice a' m' c') := block_cell XU.out 2
                go_wp2_with fail
                refine (CCU.out _ HB.out).mono ?_; rintro e v7 ⟨rfl, hb7⟩
                clear U0 U1 U2
                have XD := Lib.hid ((hb7.block _ (block_lt XD.out)).trans XD.out)
                have XU := Lib.hid ((hb7.block _ (block_lt XU.out)).trans XU.out)
                have XX := Lib.hid ((hb7.block _ (block_lt XX.out)).trans XX.out)
                have TX := Lib.hid (TX.out.below hb7)
                have HB := Lib.hid (chain HB.out hb7)
                clear hb7
                have U0 : v7.cell? ⟨w.heap.size + 1, 0, none⟩ = some (.int .i64 k') := block_cell XU.out 0
                have U1 : v7.cell? ⟨w.heap.size + 1, 1, none⟩ = some (.int .i64 n') := block_cell XU.out 1
                have U2 : v7.cell? ⟨w.heap.size + 1, 2, none⟩ = some (.slice a' m' c') := block_cell XU.out 2
                have X0 : v7.cell? ⟨v3.heap.size, 0, none⟩ = some (.int .i64 k1) := block_cell XX.out 0
                have X1 : v7.cell? ⟨v3.heap.size, 1, none⟩ = some (.int .i64 n1) := block_cell XX.out 1
                have X2 : v7.cell? ⟨v3.heap.size, 2, none⟩ = some (.slice a1 m1 c1) := block_cell XX.out 2
                have t5 : (n' != n1) = false := bfalse (HN2.out.trans HNX.out.symm)
                have D0 : v7.cell? ⟨w.heap.size, 0, none⟩ = some (.int .i64 k) := block_cell XD.out 0
                have D1 : v7.cell? ⟨w.heap.size, 1, none⟩ = some (.int .i64 n) := block_cell XD.out 1
                have D2 : v7.cell? ⟨w.heap.size, 2, none⟩ = some (.slice a m c) := block_cell XD.out 2
                go_wp2_with fail
                refine (CPT.out _ HB.out).mono ?_; rintro e v8 ⟨k2, n2, a2, m2, c2, rfl, hT2, hb2⟩
                clear U0 U1 U2 X0 X1 X2 D0 D1 D2
                have XD := Lib.hid ((hb2.block _ (block_lt XD.out)).trans XD.out)
                have XU := Lib.hid ((hb2.block _ (block_lt XU.out)).trans XU.out)
                have XX := Lib.hid ((hb2.block _ (block_lt XX.out)).trans XX.out)
                have TX := Lib.hid (TX.out.below hb2)
                have HB := Lib.hid (chain HB.out hb2)
                have CCP := Lib.hid (valid_Check (t.put p u) _ _ _ _ _ _ _ (by have := HPS.out; omega) hT2)
                clear hT2 hb2 t5
                obtain ⟨C3, hC3⟩ : ∃ C, chk (t.put p u) = C := ⟨_, rfl⟩
                rw [hC3] at CCP HCP
                clear hC3
                go_wp2_with fail
                refine (CCP.out).mono ?_; rintro e v9 ⟨rfl, hb9⟩
                have XD := Lib.hid ((hb9.block _ (block_lt XD.out)).trans XD.out)
                have XU := Lib.hid ((hb9.block _ (block_lt XU.out)).trans XU.out)
                have XX := Lib.hid ((hb9.block _ (block_lt XX.out)).trans XX.out)
                have TX := Lib.hid (TX.out.below hb9)
                have HB := Lib.hid (chain HB.out hb9)
                clear hb9
                rcases HCP.out with rfl | rfl
                · skip
                  go_wp2_with fail
                  refine (live14 _).mono ?_; rintro e v10 ⟨rfl, hbl⟩
                  have hbe := chain HB.out hbl
                  clear hbl
                  go_wp2_with fail
                  go_ret
                  exact ⟨rfl, hbe⟩
                · skip
                  go_wp2_with fail
                  refine (live14 _).mono ?_; rintro e v10 ⟨rfl, hbl⟩
                  have hbe := chain HB.out hbl
                  clear hbl
                  go_wp2_with fail
                  go_ret
                  exact ⟨rfl, hbe⟩
              · have HN2 := Lib.hid hnn
                clear hnn
                have D0 : w0.cell? ⟨w.heap.size, 0, none⟩ = some (.int .i64 k) := block_cell XD.out 0
                have D1 : w0.cell? ⟨w.heap.size, 1, none⟩ = some (.int .i64 n) := block_cell XD.out 1
                have D2 : w0.cell? ⟨w.heap.size, 2, none⟩ = some (.slice a m c) := block_cell XD.out 2
                go_enter Try.func3, Try.ntmps3
                go_wp2_with fail
                rw [HW0.out]
                refine (CMD.out _ HB.out).mono ?_; rintro e v1 ⟨rfl, hb1⟩
                clear D0 D1 D2
                have XD := Lib.hid ((hb1.block _ (block_lt XD.out)).trans XD.out)
                have XU := Lib.hid ((hb1.block _ (block_lt XU.out)).trans XU.out)
                have HB := Lib.hid (chain HB.out hb1)
                clear hb1
                have U0 : v1.cell? ⟨w.heap.size + 1, 0, none⟩ = some (.int .i64 k') := block_cell XU.out 0
                have U1 : v1.cell? ⟨w.heap.size + 1, 1, none⟩ = some (.int .i64 n') := block_cell XU.out 1
                have U2 : v1.cell? ⟨w.heap.size + 1, 2, none⟩ = some (.slice a' m' c') := block_cell XU.out 2
                go_wp2_with fail
                refine (CMU.out _ HB.out).mono ?_; rintro e v2 ⟨rfl, hb2⟩
                clear U0 U1 U2
                have XD := Lib.hid ((hb2.block _ (block_lt XD.out)).trans XD.out)
                have XU := Lib.hid ((hb2.block _ (block_lt XU.out)).trans XU.out)
                have HB := Lib.hid (chain HB.out hb2)
                clear hb2
                have D0 : v2.cell? ⟨w.heap.size, 0, none⟩ = some (.int .i64 k) := block_cell XD.out 0
                have D1 : v2.cell? ⟨w.heap.size, 1, none⟩ = some (.int .i64 n) := block_cell XD.out 1
                have D2 : v2.cell? ⟨w.heap.size, 2, none⟩ = some (.slice a m c) := block_cell XD.out 2
                go_wp2_with fail
                refine (CAT.out _ HB.out).mono ?_; rintro e v3 ⟨k1, n1, a1, m1, c1, rfl, hT1, hb1⟩
                clear D0 D1 D2
                have XD := Lib.hid ((hb1.block _ (block_lt XD.out)).trans XD.out)
                have XU := Lib.hid ((hb1.block _ (block_lt XU.out)).trans XU.out)
                have HB := Lib.hid (chain HB.out hb1)
                have TX := Lib.hid hT1
                have HNX : Hid (n1 = s.num) := hT1.en
                clear hT1 hb1
                go_upto_region 4 with fail
                obtain ⟨y4, hW, hbx, hx⟩ := box_any v3 #[(.int .i64 k1), (.int .i64 n1), (.slice a1 m1 c1)] 24
                rw [hW]
                clear hW
                have XD := Lib.hid ((hbx.block _ (block_lt XD.out)).trans XD.out)
                have XU := Lib.hid ((hbx.block _ (block_lt XU.out)).trans XU.out)
                have TX := Lib.hid (TX.out.below hbx)
                have HB := Lib.hid (chain HB.out hbx)
                have XX := Lib.hid hx
                clear hx hbx
                have D0 : y4.cell? ⟨w.heap.size, 0, none⟩ = some (.int .i64 k) := block_cell XD.out 0
                have D1 : y4.cell? ⟨w.heap.size, 1, none⟩ = some (.int .i64 n) := block_cell XD.out 1
                have D2 : y4.cell? ⟨w.heap.size, 2, none⟩ = some (.slice a m c) := block_cell XD.out 2
                go_wp2_with fail
                refine (CCD.out _ HB.out).mono ?_; rintro e v5 ⟨rfl, hb5⟩
                clear D0 D1 D2
                have XD := Lib.hid ((hb5.block _ (block_lt XD.out)).trans XD.out)
                have XU := Lib.hid ((hb5.block _ (block_lt XU.out)).trans XU.out)
                have XX := Lib.hid ((hb5.block _ (block_lt XX.out)).trans XX.out)
                have TX := Lib.hid (TX.out.below hb5)
                have HB := Lib.hid (chain HB.out hb5)
                clear hb5
                have X0 : v5.cell? ⟨v3.heap.size, 0, none⟩ = some (.int .i64 k1) := block_cell XX.out 0
                have X1 : v5.cell? ⟨v3.heap.size, 1, none⟩ = some (.int .i64 n1) := block_cell XX.out 1
                have X2 : v5.cell? ⟨v3.heap.size, 2, none⟩ = some (.slice a1 m1 c1) := block_cell XX.out 2
                have CCX : Hid (∀ W, Below v5.heap.size v5 W → Calls Try.prog 17 #[.agg #[.int .i64 k1, .int .i64 n1, .slice a1 m1 c1]] W fun e w' => e = .returned (.int .i64 0) ∧ Below W.heap.size W w') := fun W hb => by
                  have := valid_Check s _ _ _ _ _ W _ (by have := HSS.out; omega) (TX.out.below hb)
                  rwa [HCS.out] at this
                go_wp2_with fail
                refine (CCX.out _ (Below.refl _ _)).mono ?_; rintro e v6 ⟨rfl, hb6⟩
                clear X0 X1 X2
                have XD := Lib.hid ((hb6.block _ (block_lt XD.out)).trans XD.out)
                have XU := Lib.hid ((hb6.block _ (block_lt XU.out)).trans XU.out)
                have XX := Lib.hid ((hb6.block _ (block_lt XX.out)).trans XX.out)
                have TX := Lib.hid (TX.out.below hb6)
                have HB := Lib.hid (chain HB.out hb6)
                clear hb6
                have U0 : v6.cell? ⟨w.heap.size + 1, 0, none⟩ = some (.int .i64 k') := block_cell XU.out 0
                have U1 : v6.cell? ⟨w.heap.size + 1, 1, none⟩ = some (.int .i64 n') := block_cell XU.out 1
                have U2 : v6.cell? ⟨w.heap.size + 1, 2, none⟩ = some (.slice a' m' c') := block_cell XU.out 2
                go_wp2_with fail
                refine (CCU.out _ HB.out).mono ?_; rintro e v7 ⟨rfl, hb7⟩
                clear U0 U1 U2
                have XD := Lib.hid ((hb7.block _ (block_lt XD.out)).trans XD.out)
                have XU := Lib.hid ((hb7.block _ (block_lt XU.out)).trans XU.out)
                have XX := Lib.hid ((hb7.block _ (block_lt XX.out)).trans XX.out)
                have TX := Lib.hid (TX.out.below hb7)
                have HB := Lib.hid (chain HB.out hb7)
                clear hb7
                have U0 : v7.cell? ⟨w.heap.size + 1, 0, none⟩ = some (.int .i64 k') := block_cell XU.out 0
                have U1 : v7.cell? ⟨w.heap.size + 1, 1, none⟩ = some (.int .i64 n') := block_cell XU.out 1
                have U2 : v7.cell? ⟨w.heap.size + 1, 2, none⟩ = some (.slice a' m' c') := block_cell XU.out 2
                have X0 : v7.cell? ⟨v3.heap.size, 0, none⟩ = some (.int .i64 k1) := block_cell XX.out 0
                have X1 : v7.cell? ⟨v3.heap.size, 1, none⟩ = some (.int .i64 n1) := block_cell XX.out 1
                have X2 : v7.cell? ⟨v3.heap.size, 2, none⟩ = some (.slice a1 m1 c1) := block_cell XX.out 2
                have t5 : (n' != n1) = true := bdiff (fun h => HN2.out (h.trans HNX.out))
                go_wp2_with fail
                refine (live14 _).mono ?_; rintro e v8 ⟨rfl, hbl⟩
                have hbe := chain HB.out hbl
                clear hbl U0 U1 U2 X0 X1 X2
                go_wp2_with fail
                go_ret
                exact ⟨rfl, hbe⟩
            · have t6 : (C2 != 0) = true := bdiff hc2
              clear hc2
              have D0 : w0.cell? ⟨w.heap.size, 0, none⟩ = some (.int .i64 k) := block_cell XD.out 0
              have D1 : w0.cell? ⟨w.heap.size, 1, none⟩ = some (.int .i64 n) := block_cell XD.out 1
              have D2 : w0.cell? ⟨w.heap.size, 2, none⟩ = some (.slice a m c) := block_cell XD.out 2
              go_enter Try.func3, Try.ntmps3
              go_wp2_with fail
              rw [HW0.out]
              refine (CMD.out _ HB.out).mono ?_; rintro e v1 ⟨rfl, hb1⟩
              clear D0 D1 D2
              have XD := Lib.hid ((hb1.block _ (block_lt XD.out)).trans XD.out)
              have XU := Lib.hid ((hb1.block _ (block_lt XU.out)).trans XU.out)
              have HB := Lib.hid (chain HB.out hb1)
              clear hb1
              have U0 : v1.cell? ⟨w.heap.size + 1, 0, none⟩ = some (.int .i64 k') := block_cell XU.out 0
              have U1 : v1.cell? ⟨w.heap.size + 1, 1, none⟩ = some (.int .i64 n') := block_cell XU.out 1
              have U2 : v1.cell? ⟨w.heap.size + 1, 2, none⟩ = some (.slice a' m' c') := block_cell XU.out 2
              go_wp2_with fail
              refine (CMU.out _ HB.out).mono ?_; rintro e v2 ⟨rfl, hb2⟩
              clear U0 U1 U2
              have XD := Lib.hid ((hb2.block _ (block_lt XD.out)).trans XD.out)
              have XU := Lib.hid ((hb2.block _ (block_lt XU.out)).trans XU.out)
              have HB := Lib.hid (chain HB.out hb2)
              clear hb2
              have D0 : v2.cell? ⟨w.heap.size, 0, none⟩ = some (.int .i64 k) := block_cell XD.out 0
              have D1 : v2.cell? ⟨w.heap.size, 1, none⟩ = some (.int .i64 n) := block_cell XD.out 1
              have D2 : v2.cell? ⟨w.heap.size, 2, none⟩ = some (.slice a m c) := block_cell XD.out 2
              go_wp2_with fail
              refine (CAT.out _ HB.out).mono ?_; rintro e v3 ⟨k1, n1, a1, m1, c1, rfl, hT1, hb1⟩
              clear D0 D1 D2
              have XD := Lib.hid ((hb1.block _ (block_lt XD.out)).trans XD.out)
              have XU := Lib.hid ((hb1.block _ (block_lt XU.out)).trans XU.out)
              have HB := Lib.hid (chain HB.out hb1)
              have TX := Lib.hid hT1
              have HNX : Hid (n1 = s.num) := hT1.en
              clear hT1 hb1
              go_upto_region 4 with fail
              obtain ⟨y4, hW, hbx, hx⟩ := box_any v3 #[(.int .i64 k1), (.int .i64 n1), (.slice a1 m1 c1)] 24
              rw [hW]
              clear hW
              have XD := Lib.hid ((hbx.block _ (block_lt XD.out)).trans XD.out)
              have XU := Lib.hid ((hbx.block _ (block_lt XU.out)).trans XU.out)
              have TX := Lib.hid (TX.out.below hbx)
              have HB := Lib.hid (chain HB.out hbx)
              have XX := Lib.hid hx
              clear hx hbx
              have D0 : y4.cell? ⟨w.heap.size, 0, none⟩ = some (.int .i64 k) := block_cell XD.out 0
              have D1 : y4.cell? ⟨w.heap.size, 1, none⟩ = some (.int .i64 n) := block_cell XD.out 1
              have D2 : y4.cell? ⟨w.heap.size, 2, none⟩ = some (.slice a m c) := block_cell XD.out 2
              go_wp2_with fail
              refine (CCD.out _ HB.out).mono ?_; rintro e v5 ⟨rfl, hb5⟩
              clear D0 D1 D2
              have XD := Lib.hid ((hb5.block _ (block_lt XD.out)).trans XD.out)
              have XU := Lib.hid ((hb5.block _ (block_lt XU.out)).trans XU.out)
              have XX := Lib.hid ((hb5.block _ (block_lt XX.out)).trans XX.out)
              have TX := Lib.hid (TX.out.below hb5)
              have HB := Lib.hid (chain HB.out hb5)
              clear hb5
              have X0 : v5.cell? ⟨v3.heap.size, 0, none⟩ = some (.int .i64 k1) := block_cell XX.out 0
              have X1 : v5.cell? ⟨v3.heap.size, 1, none⟩ = some (.int .i64 n1) := block_cell XX.out 1
              have X2 : v5.cell? ⟨v3.heap.size, 2, none⟩ = some (.slice a1 m1 c1) := block_cell XX.out 2
              have CCX : Hid (∀ W, Below v5.heap.size v5 W → Calls Try.prog 17 #[.agg #[.int .i64 k1, .int .i64 n1, .slice a1 m1 c1]] W fun e w' => e = .returned (.int .i64 0) ∧ Below W.heap.size W w') := fun W hb => by
                have := valid_Check s _ _ _ _ _ W _ (by have := HSS.out; omega) (TX.out.below hb)
                rwa [HCS.out] at this
              go_wp2_with fail
              refine (CCX.out _ (Below.refl _ _)).mono ?_; rintro e v6 ⟨rfl, hb6⟩
              clear X0 X1 X2
              have XD := Lib.hid ((hb6.block _ (block_lt XD.out)).trans XD.out)
              have XU := Lib.hid ((hb6.block _ (block_lt XU.out)).trans XU.out)
              have XX := Lib.hid ((hb6.block _ (block_lt XX.out)).trans XX.out)
              have TX := Lib.hid (TX.out.below hb6)
              have HB := Lib.hid (chain HB.out hb6)
              clear hb6
              have U0 : v6.cell? ⟨w.heap.size + 1, 0, none⟩ = some (.int .i64 k') := block_cell XU.out 0
              have U1 : v6.cell? ⟨w.heap.size + 1, 1, none⟩ = some (.int .i64 n') := block_cell XU.out 1
              have U2 : v6.cell? ⟨w.heap.size + 1, 2, none⟩ = some (.slice a' m' c') := block_cell XU.out 2
              go_wp2_with fail
              refine (CCU.out _ HB.out).mono ?_; rintro e v7 ⟨rfl, hb7⟩
              clear U0 U1 U2
              have XD := Lib.hid ((hb7.block _ (block_lt XD.out)).trans XD.out)
              have XU := Lib.hid ((hb7.block _ (block_lt XU.out)).trans XU.out)
              have XX := Lib.hid ((hb7.block _ (block_lt XX.out)).trans XX.out)
              have TX := Lib.hid (TX.out.below hb7)
              have HB := Lib.hid (chain HB.out hb7)
              clear hb7
              go_wp2_with fail
              refine (live14 _).mono ?_; rintro e v8 ⟨rfl, hbl⟩
              have hbe := chain HB.out hbl
              clear hbl
              go_wp2_with fail
              go_ret
              exact ⟨rfl, hbe⟩
          · have t6 : (C1 != 0) = true := bdiff hc1
            clear hc1
            have D0 : w0.cell? ⟨w.heap.size, 0, none⟩ = some (.int .i64 k) := block_cell XD.out 0
            have D1 : w0.cell? ⟨w.heap.size, 1, none⟩ = some (.int .i64 n) := block_cell XD.out 1
            have D2 : w0.cell? ⟨w.heap.size, 2, none⟩ = some (.slice a m c) := block_cell XD.out 2
            go_enter Try.func3, Try.ntmps3
            go_wp2_with fail
            rw [HW0.out]
            refine (CMD.out _ HB.out).mono ?_; rintro e v1 ⟨rfl, hb1⟩
            clear D0 D1 D2
            have XD := Lib.hid ((hb1.block _ (block_lt XD.out)).trans XD.out)
            have XU := Lib.hid ((hb1.block _ (block_lt XU.out)).trans XU.out)
            have HB := Lib.hid (chain HB.out hb1)
            clear hb1
            have U0 : v1.cell? ⟨w.heap.size + 1, 0, none⟩ = some (.int .i64 k') := block_cell XU.out 0
            have U1 : v1.cell? ⟨w.heap.size + 1, 1, none⟩ = some (.int .i64 n') := block_cell XU.out 1
            have U2 : v1.cell? ⟨w.heap.size + 1, 2, none⟩ = some (.slice a' m' c') := block_cell XU.out 2
            go_wp2_with fail
            refine (CMU.out _ HB.out).mono ?_; rintro e v2 ⟨rfl, hb2⟩
            clear U0 U1 U2
            have XD := Lib.hid ((hb2.block _ (block_lt XD.out)).trans XD.out)
            have XU := Lib.hid ((hb2.block _ (block_lt XU.out)).trans XU.out)
            have HB := Lib.hid (chain HB.out hb2)
            clear hb2
            have D0 : v2.cell? ⟨w.heap.size, 0, none⟩ = some (.int .i64 k) := block_cell XD.out 0
            have D1 : v2.cell? ⟨w.heap.size, 1, none⟩ = some (.int .i64 n) := block_cell XD.out 1
            have D2 : v2.cell? ⟨w.heap.size, 2, none⟩ = some (.slice a m c) := block_cell XD.out 2
            go_wp2_with fail
            refine (CAT.out _ HB.out).mono ?_; rintro e v3 ⟨k1, n1, a1, m1, c1, rfl, hT1, hb1⟩
            clear D0 D1 D2
            have XD := Lib.hid ((hb1.block _ (block_lt XD.out)).trans XD.out)
            have XU := Lib.hid ((hb1.block _ (block_lt XU.out)).trans XU.out)
            have HB := Lib.hid (chain HB.out hb1)
            have TX := Lib.hid hT1
            have HNX : Hid (n1 = s.num) := hT1.en
            clear hT1 hb1
            go_upto_region 4 with fail
            obtain ⟨y4, hW, hbx, hx⟩ := box_any v3 #[(.int .i64 k1), (.int .i64 n1), (.slice a1 m1 c1)] 24
            rw [hW]
            clear hW
            have XD := Lib.hid ((hbx.block _ (block_lt XD.out)).trans XD.out)
            have XU := Lib.hid ((hbx.block _ (block_lt XU.out)).trans XU.out)
            have TX := Lib.hid (TX.out.below hbx)
            have HB := Lib.hid (chain HB.out hbx)
            have XX := Lib.hid hx
            clear hx hbx
            have D0 : y4.cell? ⟨w.heap.size, 0, none⟩ = some (.int .i64 k) := block_cell XD.out 0
            have D1 : y4.cell? ⟨w.heap.size, 1, none⟩ = some (.int .i64 n) := block_cell XD.out 1
            have D2 : y4.cell? ⟨w.heap.size, 2, none⟩ = some (.slice a m c) := block_cell XD.out 2
            go_wp2_with fail
            refine (CCD.out _ HB.out).mono ?_; rintro e v5 ⟨rfl, hb5⟩
            clear D0 D1 D2
            have XD := Lib.hid ((hb5.block _ (block_lt XD.out)).trans XD.out)
            have XU := Lib.hid ((hb5.block _ (block_lt XU.out)).trans XU.out)
            have XX := Lib.hid ((hb5.block _ (block_lt XX.out)).trans XX.out)
            have TX := Lib.hid (TX.out.below hb5)
            have HB := Lib.hid (chain HB.out hb5)
            clear hb5
            go_wp2_with fail
            refine (live14 _).mono ?_; rintro e v6 ⟨rfl, hbl⟩
            have hbe := chain HB.out hbl
            clear hbl
            go_wp2_with fail
            go_ret
            exact ⟨rfl, hbe⟩
end Go.Proofs.Ytncikklhchimdaa
