/- The law of how much work a plan is: the page's example, the walk. -/
import Derived.Test.YtncikklhchimdaaCostB
import Derived.Test.YtncikklhchimdaaCostE
import Derived.Test.YtncikklhchimdaaTreeC
import Derived.Test.YtncikklhchimdaaTreeH
namespace Go.Proofs.Ytncikklhchimdaa
open Go.RowKit
set_option linter.unusedVariables false
set_option linter.unusedSimpArgs false
set_option maxRecDepth 100000
set_option maxRecDepth 20000

theorem leaf_chk {k n : Int} (h : nodeB k n 0 0 0 = true) : chk (.node k n []) = 0 := by
  rw [chk_zero]
  refine ⟨by simp [Tr.size, Tr.sizeL, Tr.depth, Tr.depthL], fun u hu => ?_⟩
  simp [Tr.nodes, Tr.nodesL] at hu
  subst hu
  exact h
theorem nodeB_18 : nodeB 1 8 0 0 0 = true := by decide +kernel
theorem nodeB_38 : nodeB 3 8 0 0 0 = true := by decide +kernel
theorem est_18 : (Tr.node 1 8 []).est = 64 := by simp [Tr.est, Tr.estL, estB]
theorem est_38 : (Tr.node 3 8 []).est = 24 := by
  have h := lg_pow 3 (by omega)
  have e : ((2 ^ 3 : Nat) : Int) = 8 := by decide
  rw [e] at h
  simp [Tr.est, Tr.estL, estB, h]
theorem isT_leaf (w : World) {k n : Int} (hk : fits .i64 k) (hn : fits .i64 n) : IsT w (fun _ => True) k n none 0 0 (.node k n []) := ⟨rfl, rfl, rfl, by simp only [Tr.Ok, Tr.OkL]; exact ⟨hk, hn, trivial⟩, .nil⟩

theorem live18 (w : World) : Calls Try.prog 38 #[] w fun e w' => e = .returned (.bool true) ∧ Below w.heap.size w w' := by
  have C1 : Hid (∀ W, Calls Try.prog 39 #[.agg #[.int .i64 1, .int .i64 8, .slice none 0 0]] W fun e w' => e = .returned (.tuple #[.int .i64 64, .int .i64 0]) ∧ Below W.heap.size W w') := fun W => by
    have := cost_Est (.node 1 8 []) 1 8 none 0 0 W _ (by simp [Tr.size, Tr.sizeL]) (isT_leaf W (fits_i64.2 (by omega)) (fits_i64.2 (by omega)))
    rwa [leaf_chk nodeB_18, est_18, if_pos rfl] at this
  have C2 : Hid (∀ W, Calls Try.prog 39 #[.agg #[.int .i64 3, .int .i64 8, .slice none 0 0]] W fun e w' => e = .returned (.tuple #[.int .i64 24, .int .i64 0]) ∧ Below W.heap.size W w') := fun W => by
    have := cost_Est (.node 3 8 []) 3 8 none 0 0 W _ (by simp [Tr.size, Tr.sizeL]) (isT_leaf W (fits_i64.2 (by omega)) (fits_i64.2 (by omega)))
    rwa [leaf_chk nodeB_38, est_38, if_pos rfl] at this
  go_enter Try.func38, Try.ntmps38
  go_wp2_with fail
  refine (C1.out _).mono ?_; rintro e w1 ⟨rfl, hb1⟩
  have HB := Lib.hid hb1
  clear hb1
  go_wp2_with fail
  refine (C2.out _).mono ?_; rintro e w2 ⟨rfl, hb2⟩
  have hbe := chain HB.out hb2
  clear hb2
  go_wp2_with fail
  go_ret
  exact ⟨rfl, hbe⟩

set_option maxHeartbeats 1600000 in
theorem costTellsW (t : Tr) (k n : Int) (a : Option Addr) (m c : Nat) (w : World) (hs : t.size ≤ 1048576) (hT' : IsT w (fun _ => True) k n a m c t) :
    Calls Try.prog 8 #[.agg #[.int .i64 k, .int .i64 n, .slice a m c]] w fun e w' => e = .returned (.bool true) ∧ Below w.heap.size w w' := by
  have hT := hT'.lt
  clear hT'
  have CM : Hid (∀ W, Below w.heap.size w W → Calls Try.prog 14 #[.agg #[.int .i64 k, .int .i64 n, .slice a m c]] W fun e w' => e = .returned (.bool (decide (80 < t.size))) ∧ Below W.heap.size W w') := fun W hb => ref_Much t _ _ _ _ _ W w.heap.size (by omega) (hT.below hb) hb.size
  have CV : Hid (∀ W, Below w.heap.size w W → Calls Try.prog 39 #[.agg #[.int .i64 k, .int .i64 n, .slice a m c]] W fun e w' => e = .returned (.tuple #[.int .i64 (if chk t = 0 then t.est else 0), .int .i64 (chk t)]) ∧ Below W.heap.size W w') := fun W hb => cost_Est t _ _ _ _ _ W _ (by omega) (hT.below hb)
  have CR : Hid (∀ W, Below w.heap.size w W → Calls Try.prog 23 #[.agg #[.int .i64 k, .int .i64 n, .slice a m c]] W fun e w' => e = .returned (.int .i64 (chk t)) ∧ Below W.heap.size W w') := fun W hb => ref14_Check t _ _ _ _ _ W w.heap.size hb.size (by omega) (hT.below hb)
  have CE : Hid (chk t = 0 → ∀ W, Below w.heap.size w W → Calls Try.prog 40 #[.agg #[.int .i64 k, .int .i64 n, .slice a m c]] W fun e w' => e = .returned (.int .i64 t.est) ∧ Below W.heap.size W w') := fun h W hb => ref18_Est 4194304 (by omega) t _ _ _ _ _ W _ (by omega) (hT.below hb) (chk_zero.1 h).2
  have HT := Lib.hid hT
  have HSZ := Lib.hid hs
  obtain ⟨A1, hA1⟩ : ∃ A, decide (80 < t.size) = A := ⟨_, rfl⟩
  rw [hA1] at CM
  obtain ⟨C, hC⟩ : ∃ C, chk t = C := ⟨_, rfl⟩
  rw [hC] at CV CR CE
  have HC := Lib.hid hC
  clear hA1 hC hT hs
  obtain ⟨w0, hW0, hb0, x0⟩ := box_any w #[.int .i64 k, .int .i64 n, .slice a m c] 24
  have HB := Lib.hid hb0
  have HW0 := Lib.hid hW0
  have XD := Lib.hid x0
  clear hb0 hW0 x0
  cases A1 with
  | true =>
    have D0 : w0.cell? ⟨w.heap.size, 0, none⟩ = some (.int .i64 k) := block_cell XD.out 0
    have D1 : w0.cell? ⟨w.heap.size, 1, none⟩ = some (.int .i64 n) := block_cell XD.out 1
    have D2 : w0.cell? ⟨w.heap.size, 2, none⟩ = some (.slice a m c) := block_cell XD.out 2
    go_enter Try.func8, Try.ntmps8
    go_wp2_with fail
    rw [HW0.out]
    refine (CM.out _ HB.out).mono ?_; rintro e v1 ⟨rfl, hb1⟩
    clear D0 D1 D2
    have XD := Lib.hid ((hb1.block _ (block_lt XD.out)).trans XD.out)
    have HB := Lib.hid (chain HB.out hb1)
    clear hb1
    go_wp2_with fail
    refine (live18 _).mono ?_; rintro e v2 ⟨rfl, hbl⟩
    have hbe := chain HB.out hbl
    clear hbl
    go_wp2_with fail
    go_ret
    exact ⟨rfl, hbe⟩
  | false =>
    by_cases hc : C = 0
    · subst hc
      have CE1 := Lib.hid (CE.out rfl)
      have hok : t.allOk := (chk_zero.1 HC.out).2
      have bd := est_bd hok
      have HOK := Lib.hid hok
      rw [if_pos rfl] at CV
      have HONE := Lib.hid (est_one hok)
      obtain ⟨E, hE⟩ : ∃ E, t.est = E := ⟨_, rfl⟩
      rw [hE] at CV CE1 bd HONE
      have d1 : decide (E < 1) = false := by simp; omega
      have d2 : decide (E > 1152921504606846976) = false := by simp; omega
      clear hE hok CE
      by_cases hm : m = 1
      · skip
        obtain ⟨b, off, k', n', a', m', c', rfl, hF, hbl, e0, e1, e2, hTk⟩ := HT.out.kid 0 (by omega)
        rw [Nat.zero_mul, Nat.add_zero] at e0 e1 e2
        have hl1 : t.kids.length = 1 := by rw [← HT.out.em]; exact hm
        have hck : chk (Tr.kid t.kids 0) = 0 := chk_at (p := [0]) (by rw [Tr.at_in (by omega) (by omega)]; rfl) HC.out
        have hsk : (Tr.kid t.kids 0).size ≤ 1048576 := by have := Tr.size_kid t 0 (by omega); have := HSZ.out; omega
        have CK : Hid (∀ W, Below w.heap.size w W → Calls Try.prog 39 #[.agg #[.int .i64 k', .int .i64 n', .slice a' m' c']] W fun e w' => e = .returned (.tuple #[.int .i64 (Tr.kid t.kids 0).est, .int .i64 0]) ∧ Below W.heap.size W w') := fun W hb => by
          have := cost_Est (Tr.kid t.kids 0) k' n' a' m' c' W _ (by omega) (hTk.below hb)
          rwa [hck, if_pos rfl] at this
        have bdk := est_bd (chk_zero.1 hck).2
        have hone := HONE.out hl1
        obtain ⟨K, hK⟩ : ∃ K, (Tr.kid t.kids 0).est = K := ⟨_, rfl⟩
        rw [hK] at CK bdk hone
        have HX0 := Lib.hid e0
        have HX1 := Lib.hid e1
        have HX2 := Lib.hid e2
        have HONE := Lib.hid hone
        subst hm
        clear hTk hck hsk hl1 hK e0 e1 e2 hone
        have D0 : w0.cell? ⟨w.heap.size, 0, none⟩ = some (.int .i64 k) := block_cell XD.out 0
        have D1 : w0.cell? ⟨w.heap.size, 1, none⟩ = some (.int .i64 n) := block_cell XD.out 1
        have D2 : w0.cell? ⟨w.heap.size, 2, none⟩ = some (.slice (some ⟨b, off, none⟩) 1 c) := block_cell XD.out 2
        go_enter Try.func8, Try.ntmps8
        go_wp2_with fail
        rw [HW0.out]
        refine (CM.out _ HB.out).mono ?_; rintro e v1 ⟨rfl, hb1⟩
        clear D0 D1 D2
        have XD := Lib.hid ((hb1.block _ (block_lt XD.out)).trans XD.out)
        have HB := Lib.hid (chain HB.out hb1)
        clear hb1
        have D0 : v1.cell? ⟨w.heap.size, 0, none⟩ = some (.int .i64 k) := block_cell XD.out 0
        have D1 : v1.cell? ⟨w.heap.size, 1, none⟩ = some (.int .i64 n) := block_cell XD.out 1
        have D2 : v1.cell? ⟨w.heap.size, 2, none⟩ = some (.slice (some ⟨b, off, none⟩) 1 c) := block_cell XD.out 2
        go_wp2_with fail
        refine (CV.out _ HB.out).mono ?_; rintro e v2 ⟨rfl, hb2⟩
        clear D0 D1 D2
        have XD := Lib.hid ((hb2.block _ (block_lt XD.out)).trans XD.out)
        have HB := Lib.hid (chain HB.out hb2)
        clear hb2
        have D0 : v2.cell? ⟨w.heap.size, 0, none⟩ = some (.int .i64 k) := block_cell XD.out 0
        have D1 : v2.cell? ⟨w.heap.size, 1, none⟩ = some (.int .i64 n) := block_cell XD.out 1
        have D2 : v2.cell? ⟨w.heap.size, 2, none⟩ = some (.slice (some ⟨b, off, none⟩) 1 c) := block_cell XD.out 2
        go_wp2_with fail
        refine (CR.out _ HB.out).mono ?_; rintro e v3 ⟨rfl, hb3⟩
        clear D0 D1 D2
        have XD := Lib.hid ((hb3.block _ (block_lt XD.out)).trans XD.out)
        have HB := Lib.hid (chain HB.out hb3)
        clear hb3
        have D0 : v3.cell? ⟨w.heap.size, 0, none⟩ = some (.int .i64 k) := block_cell XD.out 0
        have D1 : v3.cell? ⟨w.heap.size, 1, none⟩ = some (.int .i64 n) := block_cell XD.out 1
        have D2 : v3.cell? ⟨w.heap.size, 2, none⟩ = some (.slice (some ⟨b, off, none⟩) 1 c) := block_cell XD.out 2
        go_wp2_with fail
        refine (CE1.out _ HB.out).mono ?_; rintro e v4 ⟨rfl, hb4⟩
        clear D0 D1 D2
        have XD := Lib.hid ((hb4.block _ (block_lt XD.out)).trans XD.out)
        have HB := Lib.hid (chain HB.out hb4)
        clear hb4
        have D0 : v4.cell? ⟨w.heap.size, 0, none⟩ = some (.int .i64 k) := block_cell XD.out 0
        have D1 : v4.cell? ⟨w.heap.size, 1, none⟩ = some (.int .i64 n) := block_cell XD.out 1
        have D2 : v4.cell? ⟨w.heap.size, 2, none⟩ = some (.slice (some ⟨b, off, none⟩) 1 c) := block_cell XD.out 2
        have u0 := (HB.out.cell (p := ⟨b, off, none⟩) hbl).trans HX0.out
        have u1 := (HB.out.cell (p := ⟨b, off + 1, none⟩) hbl).trans HX1.out
        have u2 := (HB.out.cell (p := ⟨b, off + 2, none⟩) hbl).trans HX2.out
        go_wp2_with fail
        refine (CK.out _ HB.out).mono ?_; rintro e v5 ⟨rfl, hb5⟩
        clear D0 D1 D2 u0 u1 u2
        have XD := Lib.hid ((hb5.block _ (block_lt XD.out)).trans XD.out)
        have HB := Lib.hid (chain HB.out hb5)
        clear hb5
        by_cases hE : E = 1152921504606846976
        · have d3 : (E == 1152921504606846976) = true := btrue hE
          subst hE
          go_wp2_with fail
          refine (live18 _).mono ?_; rintro e v6 ⟨rfl, hbl⟩
          have hbe := chain HB.out hbl
          clear hbl
          go_wp2_with fail
          go_ret
          exact ⟨rfl, hbe⟩
        · have d3 : (E == 1152921504606846976) = false := bno hE
          have d4 : decide (E ≥ 2 * K) = true := by have := HONE.out; simp; omega
          go_wp2_with fail
          refine (live18 _).mono ?_; rintro e v6 ⟨rfl, hbl⟩
          have hbe := chain HB.out hbl
          clear hbl
          go_wp2_with fail
          go_ret
          exact ⟨rfl, hbe⟩
      · have d3 : ((m : Int) == 1) = false := bno (by omega)
        have D0 : w0.cell? ⟨w.heap.size, 0, none⟩ = some (.int .i64 k) := block_cell XD.out 0
        have D1 : w0.cell? ⟨w.heap.size, 1, none⟩ = some (.int .i64 n) := block_cell XD.out 1
        have D2 : w0.cell? ⟨w.heap.size, 2, none⟩ = some (.slice a m c) := block_cell XD.out 2
        go_enter Try.func8, Try.ntmps8
        go_wp2_with fail
        rw [HW0.out]
        refine (CM.out _ HB.out).mono ?_; rintro e v1 ⟨rfl, hb1⟩
        clear D0 D1 D2
        have XD := Lib.hid ((hb1.block _ (block_lt XD.out)).trans XD.out)
        have HB := Lib.hid (chain HB.out hb1)
        clear hb1
        have D0 : v1.cell? ⟨w.heap.size, 0, none⟩ = some (.int .i64 k) := block_cell XD.out 0
        have D1 : v1.cell? ⟨w.heap.size, 1, none⟩ = some (.int .i64 n) := block_cell XD.out 1
        have D2 : v1.cell? ⟨w.heap.size, 2, none⟩ = some (.slice a m c) := block_cell XD.out 2
        go_wp2_with fail
        refine (CV.out _ HB.out).mono ?_; rintro e v2 ⟨rfl, hb2⟩
        clear D0 D1 D2
        have XD := Lib.hid ((hb2.block _ (block_lt XD.out)).trans XD.out)
        have HB := Lib.hid (chain HB.out hb2)
        clear hb2
        have D0 : v2.cell? ⟨w.heap.size, 0, none⟩ = some (.int .i64 k) := block_cell XD.out 0
        have D1 : v2.cell? ⟨w.heap.size, 1, none⟩ = some (.int .i64 n) := block_cell XD.out 1
        have D2 : v2.cell? ⟨w.heap.size, 2, none⟩ = some (.slice a m c) := block_cell XD.out 2
        go_wp2_with fail
        refine (CR.out _ HB.out).mono ?_; rintro e v3 ⟨rfl, hb3⟩
        clear D0 D1 D2
        have XD := Lib.hid ((hb3.block _ (block_lt XD.out)).trans XD.out)
        have HB := Lib.hid (chain HB.out hb3)
        clear hb3
        have D0 : v3.cell? ⟨w.heap.size, 0, none⟩ = some (.int .i64 k) := block_cell XD.out 0
        have D1 : v3.cell? ⟨w.heap.size, 1, none⟩ = some (.int .i64 n) := block_cell XD.out 1
        have D2 : v3.cell? ⟨w.heap.size, 2, none⟩ = some (.slice a m c) := block_cell XD.out 2
        go_wp2_with fail
        refine (CE1.out _ HB.out).mono ?_; rintro e v4 ⟨rfl, hb4⟩
        clear D0 D1 D2
        have XD := Lib.hid ((hb4.block _ (block_lt XD.out)).trans XD.out)
        have HB := Lib.hid (chain HB.out hb4)
        clear hb4
        have D0 : v4.cell? ⟨w.heap.size, 0, none⟩ = some (.int .i64 k) := block_cell XD.out 0
        have D1 : v4.cell? ⟨w.heap.size, 1, none⟩ = some (.int .i64 n) := block_cell XD.out 1
        have D2 : v4.cell? ⟨w.heap.size, 2, none⟩ = some (.slice a m c) := block_cell XD.out 2
        go_wp2_with fail
        refine (live18 _).mono ?_; rintro e v5 ⟨rfl, hbl⟩
        have hbe := chain HB.out hbl
        clear hbl D0 D1 D2
        go_wp2_with fail
        go_ret
        exact ⟨rfl, hbe⟩
    · have d1 : (C != 0) = true := bdiff hc
      rw [if_neg hc] at CV
      clear hc CE
      have D0 : w0.cell? ⟨w.heap.size, 0, none⟩ = some (.int .i64 k) := block_cell XD.out 0
      have D1 : w0.cell? ⟨w.heap.size, 1, none⟩ = some (.int .i64 n) := block_cell XD.out 1
      have D2 : w0.cell? ⟨w.heap.size, 2, none⟩ = some (.slice a m c) := block_cell XD.out 2
      go_enter Try.func8, Try.ntmps8
      go_wp2_with fail
      rw [HW0.out]
      refine (CM.out _ HB.out).mono ?_; rintro e v1 ⟨rfl, hb1⟩
      clear D0 D1 D2
      have XD := Lib.hid ((hb1.block _ (block_lt XD.out)).trans XD.out)
      have HB := Lib.hid (chain HB.out hb1)
      clear hb1
      have D0 : v1.cell? ⟨w.heap.size, 0, none⟩ = some (.int .i64 k) := block_cell XD.out 0
      have D1 : v1.cell? ⟨w.heap.size, 1, none⟩ = some (.int .i64 n) := block_cell XD.out 1
      have D2 : v1.cell? ⟨w.heap.size, 2, none⟩ = some (.slice a m c) := block_cell XD.out 2
      go_wp2_with fail
      refine (CV.out _ HB.out).mono ?_; rintro e v2 ⟨rfl, hb2⟩
      clear D0 D1 D2
      have XD := Lib.hid ((hb2.block _ (block_lt XD.out)).trans XD.out)
      have HB := Lib.hid (chain HB.out hb2)
      clear hb2
      have D0 : v2.cell? ⟨w.heap.size, 0, none⟩ = some (.int .i64 k) := block_cell XD.out 0
      have D1 : v2.cell? ⟨w.heap.size, 1, none⟩ = some (.int .i64 n) := block_cell XD.out 1
      have D2 : v2.cell? ⟨w.heap.size, 2, none⟩ = some (.slice a m c) := block_cell XD.out 2
      go_wp2_with fail
      refine (CR.out _ HB.out).mono ?_; rintro e v3 ⟨rfl, hb3⟩
      clear D0 D1 D2
      have XD := Lib.hid ((hb3.block _ (block_lt XD.out)).trans XD.out)
      have HB := Lib.hid (chain HB.out hb3)
      clear hb3
      go_wp2_with fail
      refine (live18 _).mono ?_; rintro e v4 ⟨rfl, hbl⟩
      have hbe := chain HB.out hbl
      clear hbl
      go_wp2_with fail
      go_ret
      exact ⟨rfl, hbe⟩
end Go.Proofs.Ytncikklhchimdaa
