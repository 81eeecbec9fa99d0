/- The law of which tree of some is the least work: the walk. -/
import Derived.Test.YtncikklhchimdaaCostF
import Derived.Test.YtncikklhchimdaaCostI
namespace Go.Proofs.Ytncikklhchimdaa
open Go.RowKit
set_option linter.unusedVariables false
set_option linter.unusedSimpArgs false
set_option maxRecDepth 100000
set_option maxRecDepth 20000

set_option maxHeartbeats 2000000 in
theorem costLeastW (ts : List Tr) (a : Option Addr) (m c : Nat) (w : World) (hs : Tr.sizeL ts ≤ 1048576) (hT' : IsT w (fun _ => True) 0 0 a m c (.node 0 0 ts)) :
    Calls Try.prog 12 #[.slice a m c] w fun e w' => e = .returned (.bool true) ∧ Below w.heap.size w w' := by
  have hL : IsL w (Lt w.heap.size) a m c ts := hT'.lt
  clear hT'
  have hsz : ∀ i, i < m → (Tr.kid ts i).size ≤ 1048576 := fun i hi => Nat.le_trans (Tr.size_mem (Tr.kid_mem (by rw [← hL.len]; exact hi))) hs
  have HL := Lib.hid hL
  have HS := Lib.hid hsz
  clear hs hsz hL
  by_cases h12 : 12 < m
  · have d1 : decide ((m : Int) > 12) = true := by simp; omega
    go_enter Try.func12, Try.ntmps12
    go_wp2_with fail
    refine (live18 _).mono ?_; rintro e v2 ⟨rfl, hbl⟩
    go_wp2_with fail
    go_ret
    exact ⟨rfl, hbl⟩
  · have d1 : decide ((m : Int) > 12) = false := by simp; omega
    have hm : m ≤ 12 := by omega
    clear h12
    go_enter Try.func12, Try.ntmps12
    go_wp2_with fail
    go_loopw [3] (fun i wr => ∃ j : Nat, j ≤ m ∧ i = .int .i64 j ∧ Below w.heap.size w wr) (fun i _ => m - (intOf i).toNat)
    case atStart => exact ⟨0, Nat.zero_le _, rfl, Below.refl _ _⟩
    case round =>
      obtain ⟨j, hj, rfl, hbel⟩ := hrel
      by_cases hlt : j < m
      · obtain ⟨b, off, k1, n1, a1, m1, c1, rfl, hF, hbl, h0, h1, h2, hT⟩ := (HL.out.below hbel).kid j hlt
        have CM : Hid (Calls Try.prog 14 #[.agg #[.int .i64 k1, .int .i64 n1, .slice a1 m1 c1]] wr fun e w' => e = .returned (.bool (decide (80 < (Tr.kid ts j).size))) ∧ Below wr.heap.size wr w') := ref_Much _ _ _ _ _ _ wr w.heap.size (by have := HS.out j hlt; omega) hT hbel.size
        obtain ⟨A1, hA1⟩ : ∃ A, decide (80 < (Tr.kid ts j).size) = A := ⟨_, rfl⟩
        rw [hA1] at CM
        have i0 : (0 : Int) ≤ (j : Int) := by omega
        have i1 : (j : Int) < (m : Int) := by omega
        have HB := Lib.hid hbel
        clear hT hA1 hF hbel
        cases A1 with
        | true =>
          go_wp2_with fail
          refine CM.out.mono ?_; rintro e w1 ⟨rfl, hb1⟩
          have HB1 := Lib.hid (chain HB.out hb1)
          clear hb1 h0 h1 h2
          go_wp2_with fail
          refine (live18 _).mono ?_; rintro e v2 ⟨rfl, hbl2⟩
          have hbe := chain HB1.out hbl2
          clear hbl2
          go_wp2_with fail
          go_ret
          exact ⟨rfl, hbe⟩
        | false =>
          go_wp2_with fail
          refine CM.out.mono ?_; rintro e w1 ⟨rfl, hb1⟩
          have HB1 := Lib.hid (chain HB.out hb1)
          clear hb1 h0 h1 h2
          go_wp2_with fail
          go_roundw
          case rel => exact ⟨j + 1, by omega, by go_num, HB1.out⟩
          case measure => simp [intOf]; omega
      · obtain rfl : j = m := by omega
        have CP : Hid (∀ W, Below w.heap.size w W → Calls Try.prog 53 #[.slice a j c] W fun e w' => e = .returned (leastV (leastR ts j)) ∧ Below W.heap.size W w') := fun W hb => cost_Least ts a j c W _ (by omega) (fun i hi => Nat.le_trans (HS.out i hi) (by omega)) (HL.out.below hb)
        have CR : Hid (∀ W, Below w.heap.size w W → Calls Try.prog 54 #[.slice a j c] W fun e w' => e = .returned (.int .i64 (leastR ts j)) ∧ Below W.heap.size W w') := fun W hb => ref18_Least ts a j c W _ hb.size (by omega) (fun i hi => Nat.le_trans (HS.out i hi) (by omega)) (HL.out.below hb)
        have hr := leastR_bd ts j
        obtain ⟨r, hR⟩ : ∃ r, leastR ts j = r := ⟨_, rfl⟩
        rw [hR] at CP CR hr
        have HB := Lib.hid hbel
        have hr1 := hr.1
        clear hR hbel hr
        by_cases h0 : r < 0
        · obtain rfl : r = -1 := by omega
          rw [leastV_no rfl] at CP
          go_wp2_with fail
          refine (CP.out _ HB.out).mono ?_; rintro e w1 ⟨rfl, hb1⟩
          have HB1 := Lib.hid (chain HB.out hb1)
          clear hb1
          go_wp2_with fail
          refine (CR.out _ HB1.out).mono ?_; rintro e w2 ⟨rfl, hb2⟩
          have HB2 := Lib.hid (chain HB1.out hb2)
          clear hb2
          go_wp2_with fail
          refine (live18 _).mono ?_; rintro e v2 ⟨rfl, hbl2⟩
          have hbe := chain HB2.out hbl2
          clear hbl2
          go_wp2_with fail
          go_ret
          exact ⟨rfl, hbe⟩
        · rw [leastV_yes (by omega)] at CP
          have d2 : decide (r < 0) = false := by simp; omega
          have d3 : (r == r) = true := by simp
          go_wp2_with fail
          refine (CP.out _ HB.out).mono ?_; rintro e w1 ⟨rfl, hb1⟩
          have HB1 := Lib.hid (chain HB.out hb1)
          clear hb1
          go_wp2_with fail
          refine (CR.out _ HB1.out).mono ?_; rintro e w2 ⟨rfl, hb2⟩
          have HB2 := Lib.hid (chain HB1.out hb2)
          clear hb2
          go_wp2_with fail
          refine (live18 _).mono ?_; rintro e v2 ⟨rfl, hbl2⟩
          have hbe := chain HB2.out hbl2
          clear hbl2
          go_wp2_with fail
          go_ret
          exact ⟨rfl, hbe⟩
end Go.Proofs.Ytncikklhchimdaa
