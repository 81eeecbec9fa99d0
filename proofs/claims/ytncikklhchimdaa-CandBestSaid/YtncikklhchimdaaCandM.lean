/- The law of the least work of them: the walk. -/
import Derived.Test.YtncikklhchimdaaCandJ
import Derived.Test.YtncikklhchimdaaCostI
import Derived.Test.YtncikklhchimdaaCostE
namespace Go.Proofs.Ytncikklhchimdaa
open Go.RowKit
set_option linter.unusedVariables false
set_option linter.unusedSimpArgs false
set_option maxRecDepth 100000
set_option maxRecDepth 20000

theorem TwoT.since {w : World} {B : Nat} {v : Value} {ts : List Tr} (h : TwoT w B v noRow ts []) : ∃ a cap, v = .slice a ts.length cap ∧ Kids w (Since B) a cap ts ∧ (∀ t ∈ ts, t.Ok) := by
  obtain ⟨xs, ys, h1, _, h3, _⟩ := h
  obtain ⟨a, cap, rfl, _⟩ := own_slice2 h1
  exact ⟨a, cap, rfl, kids_of_own h1 h3 rfl (fun b hb => hb.1) (fun g hg => (h1.lt g (by rw [hg]; rfl)).1), h3.ok⟩
/-- None of the first j is less work than the one at leastAt. -/
theorem least_min (ts : List Tr) : ∀ j i, i < j → wt (Tr.kid ts (leastAt ts j)) ≤ wt (Tr.kid ts i) := by
  intro j
  induction j with
  | zero => intro i h; omega
  | succ j ih =>
    intro i hi
    unfold leastAt
    have hlt : wcmp (Tr.kid ts j) (Tr.kid ts (leastAt ts j)) < 0 → wt (Tr.kid ts j) ≤ wt (Tr.kid ts (leastAt ts j)) := by
      intro h
      by_cases h1 : wt (Tr.kid ts j) ≤ wt (Tr.kid ts (leastAt ts j))
      · exact h1
      · exfalso
        have : cmpI (wt (Tr.kid ts j)) (wt (Tr.kid ts (leastAt ts j))) = 1 := by unfold cmpI; rw [if_neg (by omega), if_pos (by omega)]
        unfold wcmp orI at h
        rw [this, if_neg (by omega)] at h
        omega
    have hge : ¬ wcmp (Tr.kid ts j) (Tr.kid ts (leastAt ts j)) < 0 → wt (Tr.kid ts (leastAt ts j)) ≤ wt (Tr.kid ts j) := by
      intro h
      by_cases h1 : wt (Tr.kid ts (leastAt ts j)) ≤ wt (Tr.kid ts j)
      · exact h1
      · exfalso
        have : cmpI (wt (Tr.kid ts j)) (wt (Tr.kid ts (leastAt ts j))) = -1 := by unfold cmpI; rw [if_pos (by omega)]
        unfold wcmp orI at h
        rw [this, if_neg (by omega)] at h
        omega
    by_cases hc : wcmp (Tr.kid ts j) (Tr.kid ts (leastAt ts j)) < 0
    · rw [if_pos hc]
      rcases Nat.lt_or_ge i j with h | h
      · exact Int.le_trans (hlt hc) (ih i h)
      · obtain rfl : i = j := by omega
        exact Int.le_refl _
    · rw [if_neg hc]
      rcases Nat.lt_or_ge i j with h | h
      · exact ih i h
      · obtain rfl : i = j := by omega
        exact hge hc
theorem leastR_plans {ts : List Tr} (h1 : 1 ≤ ts.length) (h : ∀ i, i < ts.length → chk (Tr.kid ts i) = 0) : leastR ts ts.length = (leastAt ts ts.length : Nat) := by
  rw [least_same, if_pos ⟨by omega, h _ (leastAt_lt ts _ (by omega))⟩]

set_option maxHeartbeats 1000000 in
theorem cand_Best (n : Nat) (w : World) (h : hasSz n = true) : Calls Try.prog 55 #[.int .i64 n] w (GivesD2 (Tr.kid (listT n) (leastAt (listT n) (listT n).length)) 0 w) := by
  obtain ⟨_, _, g2, g3, g4, _⟩ := listB_sz h
  have C2 : Hid (∀ W, Calls Try.prog 28 #[.int .i64 n] W (GivesTs2 (listT n) 0 W)) := fun W => cand_List n W h
  obtain ⟨ts, hts⟩ : ∃ ts, listT n = ts := ⟨_, rfl⟩
  rw [hts] at C2 g2 g3 g4 ⊢
  have hR := leastR_plans g3 fun i hi => (g2 i hi).1
  have hA := leastAt_lt ts ts.length (by omega)
  have HSZ : Hid (∀ i, i < ts.length → (Tr.kid ts i).size ≤ 4194304) := fun i hi => by have := chk_size (g2 i hi).1; omega
  obtain ⟨L, hL⟩ : ∃ L, ts.length = L := ⟨_, rfl⟩
  rw [hL] at hR hA g3 g4 HSZ ⊢
  have HLL := Lib.hid hL
  obtain ⟨at', hat⟩ : ∃ x, leastAt ts L = x := ⟨_, rfl⟩
  rw [hat] at hR hA ⊢
  have HRR := Lib.hid hR
  clear h hts g2 hL hat hR
  obtain ⟨W0, hW0, hb0, x0⟩ := zbox w 24
  have hs0 : Hid (W0.heap.size = w.heap.size + 1) := by unfold Hid; rw [← hW0]; simp
  have HB0 := Lib.hid hb0
  have X0 := Lib.hid x0
  clear hb0 x0
  go_enter Try.func55, Try.ntmps55
  go_wp2_with fail
  refine (C2.out _).mono ?_; rintro e w1 ⟨v, rfl, hT, hb1⟩
  obtain ⟨a3, c3, rfl, hK, hok⟩ := hT.since
  have hL1 := kids_isT hK hok
  rw [HLL.out] at hL1 ⊢
  have HL1 := Lib.hid hL1
  have HB1 := Lib.hid (chain HB0.out hb1)
  have X1 := Lib.hid ((hb1.block _ (block_lt X0.out)).trans X0.out)
  have CM : Hid (Calls Try.prog 53 #[.slice a3 L c3] w1 fun e w' => e = .returned (.tuple #[.int .i64 (at' : Nat), .bool true]) ∧ Below w1.heap.size w1 w') := by
    have := cost_Least ts a3 L c3 w1 _ (by omega) HSZ.out hL1
    rwa [HRR.out, leastV_yes (by omega)] at this
  clear hK hok hL1 hb1 hT
  go_wp2_with fail
  refine CM.out.mono ?_; rintro e w2 ⟨rfl, hb2⟩
  have HB2 := Lib.hid (chain HB1.out hb2)
  have X2 := Lib.hid ((hb2.block _ (block_lt X1.out)).trans X1.out)
  obtain ⟨b1, o1, k1, q1, a1, m1, c1, rfl, _, _, u0, u1, u2, hTa⟩ := rowKid (HL1.out.below hb2) at' hA
  have HT1 := Lib.hid (hTa.mono (G := Since (w.heap.size + 1)) fun b hb => by unfold Since at hb ⊢; have := hs0.out; omega)
  obtain ⟨q0, q1', q2, f0, f1, f2⟩ := zfacts X2.out
  clear hb2 hTa
  go_wp2_with fail
  obtain ⟨w', hw', hb, r0, r1, r2, hT⟩ := fin_node HB2.out X2.out HT1.out
  rw [hw']
  exact bodyPost_ret (v := .tuple #[.agg #[.int .i64 k1, .int .i64 q1, .slice a1 m1 c1], .int .i64 0]) (by simp [results, Try.results55, go_sem, r0, r1, r2]) rfl ⟨_, _, _, _, _, rfl, hT.mono fun _ _ => trivial, hb⟩
theorem cand_Best_no (n : Int) (w : World) (h : hasSz n = false) (hn : -9223372036854775808 ≤ n ∧ n < 9223372036854775808) : Calls Try.prog 55 #[.int .i64 n] w (GivesD2 (.node 0 0 []) 4 w) := by
  have C2 : Hid (∀ W, Calls Try.prog 28 #[.int .i64 n] W fun e w' => e = .returned (.tuple #[.slice none 0 0, .int .i64 4]) ∧ W = w') := fun W => cand_List_no n W h hn
  have CM : Hid (∀ W, Calls Try.prog 53 #[.slice none 0 0] W fun e w' => e = .returned (.tuple #[.int .i64 0, .bool false]) ∧ Below W.heap.size W w') := fun W => by
    have := cost_Least [] none 0 0 W (fun _ => True) (by omega) (fun i hi => by omega) (kids_isT .nil (fun t ht => by cases ht))
    rwa [leastV_no (show leastR [] 0 = -1 from rfl)] at this
  clear h
  obtain ⟨W0, hW0, hb0, x0⟩ := zbox w 24
  have HB0 := Lib.hid hb0
  have X0 := Lib.hid x0
  clear hb0 x0
  go_enter Try.func55, Try.ntmps55
  go_wp2_with fail
  refine (C2.out _).mono ?_; rintro e s1 ⟨rfl, rfl⟩
  go_wp2_with fail
  refine (CM.out _).mono ?_; rintro e w2 ⟨rfl, hb2⟩
  have HB2 := Lib.hid (chain HB0.out hb2)
  have X2 := Lib.hid ((hb2.block _ (block_lt X0.out)).trans X0.out)
  obtain ⟨q0, q1', q2, f0, f1, f2⟩ := zfacts X2.out
  clear hb2
  go_wp2_with fail
  obtain ⟨w', hw', hb, r0, r1, r2, _⟩ := fin3 HB2.out X2.out (.int .i64 0) (.int .i64 0) (.slice none 0 0)
  rw [hw']
  exact bodyPost_ret (v := .tuple #[.agg #[.int .i64 0, .int .i64 0, .slice none 0 0], .int .i64 4]) (by simp [results, Try.results55, go_sem, r0, r1, r2]) rfl ⟨_, _, _, _, _, rfl, isT_none _ _ fits_zero fits_zero, hb⟩

set_option maxHeartbeats 4000000 in
theorem candBestW (n : Int) (w : World) (hn : fits .i64 n) :
    Calls Try.prog 13 #[.int .i64 n] w fun e w' => e = .returned (.bool true) ∧ Below w.heap.size w w' := by
  have hn' := fits_i64.1 hn
  clear hn
  cases hz : hasSz n with
  | false =>
    have C1 : Hid (∀ W, Calls Try.prog 55 #[.int .i64 n] W (GivesD2 (.node 0 0 []) 4 W)) := fun W => cand_Best_no n W hz (by omega)
    have C3 : Hid (∀ W, Calls Try.prog 29 #[.int .i64 n] W fun e w' => e = .returned (.bool false) ∧ W = w') := fun W => refHas_no n W hz (by omega)
    clear hz hn'
    go_enter Try.func13, Try.ntmps13
    go_wp2_with fail
    refine (C1.out _).mono ?_; rintro e w1 ⟨k, q, a, m, c, rfl, hT, hb1⟩
    obtain ⟨W2, hW2, hb2, x2⟩ := box_fresh w1 #[.int .i64 k, .int .i64 q, .slice a m c] 24
    have HB2 := Lib.hid (chain hb1 hb2)
    have HT2 := Lib.hid (hT.below hb2)
    obtain ⟨q0, q1, q2, _, _, _⟩ := zfacts x2
    clear hb1 hb2 hT x2
    go_wp2_with fail
    refine (C3.out _).mono ?_; rintro e s2 ⟨rfl, rfl⟩
    go_wp2_with fail
    refine (same_self (.node 0 0 []) _ _ _ _ _ 0 0 none 0 0 _ _ (fun _ => True) (by simp [Tr.size, Tr.sizeL]) HT2.out (isT_none _ _ fits_zero fits_zero)).mono ?_; rintro e w3 ⟨rfl, hb3⟩
    have HB3 := Lib.hid (chain HB2.out hb3)
    clear hb3
    go_wp2_with fail
    refine (live19 _).mono ?_; rintro e w4 ⟨rfl, hb4⟩
    have hb := chain HB3.out hb4
    clear hb4
    go_wp2_with fail
    go_ret
    exact ⟨rfl, hb⟩
  | true =>
    obtain ⟨i1, i2, _⟩ := hasSz_iff.1 hz
    obtain ⟨N, rfl⟩ := Int.eq_ofNat_of_zero_le (show 0 ≤ n by omega)
    obtain ⟨_, _, g2, g3, g4, g5⟩ := listB_sz hz
    have C1 : Hid (∀ W, Calls Try.prog 55 #[.int .i64 N] W (GivesD2 (Tr.kid (listT N) (leastAt (listT N) (listT N).length)) 0 W)) := fun W => cand_Best N W hz
    have C3 : Hid (∀ W, Calls Try.prog 29 #[.int .i64 N] W fun e w' => e = .returned (.bool true) ∧ W = w') := fun W => refHas_yes N W hz
    have C4 : Hid (∀ W, Calls Try.prog 32 #[.int .i64 N] W (GivesTs (listT N) W)) := fun W => ref19_List N W hz
    obtain ⟨ts, hts⟩ : ∃ ts, listT N = ts := ⟨_, rfl⟩
    rw [hts] at C1 C4 g2 g3 g4 g5
    have hR := leastR_plans g3 fun i hi => (g2 i hi).1
    have hA := leastAt_lt ts ts.length (by omega)
    have hmin := least_min ts ts.length
    have HG2 : Hid (∀ i, i < ts.length → chk (Tr.kid ts i) = 0) := fun i hi => (g2 i hi).1
    obtain ⟨L, hL⟩ : ∃ L, ts.length = L := ⟨_, rfl⟩
    rw [hL] at hR hA g3 g4 HG2 C1 hmin
    have HLL := Lib.hid hL
    obtain ⟨at', hat⟩ : ∃ x, leastAt ts L = x := ⟨_, rfl⟩
    rw [hat] at hR hA C1 hmin
    have HRR := Lib.hid hR
    obtain ⟨tb, htb⟩ : ∃ x, Tr.kid ts at' = x := ⟨_, rfl⟩
    have hcb := HG2.out at' hA
    rw [htb] at C1 hcb
    have hsb := chk_size hcb
    have heb := est_bd (chk_zero.1 hcb).2
    obtain ⟨E, hE⟩ : ∃ E, tb.est = E := ⟨_, rfl⟩
    rw [hE] at heb
    have HMIN : Hid (∀ i, i < L → E ≤ (Tr.kid ts i).est) := fun i hi => by
      have := hmin i hi
      unfold wt at this
      rw [htb, if_pos hcb, if_pos (HG2.out i hi), hE] at this
      exact this
    have CE : Hid (∀ k n a m c W, IsT W (fun _ => True) k n a m c tb → Calls Try.prog 39 #[.agg #[.int .i64 k, .int .i64 n, .slice a m c]] W fun e w' => e = .returned (.tuple #[.int .i64 E, .int .i64 0]) ∧ Below W.heap.size W w') := fun k n a m c W hT => by
      have := cost_Est tb k n a m c W _ (by omega) hT
      rwa [if_pos hcb, hE, hcb] at this
    have HTB := Lib.hid htb
    have HSB := Lib.hid hsb
    obtain ⟨hE1, hE2⟩ := heb
    clear hz hn' i1 i2 hts g2 hL hat hR hmin g5 htb hcb hsb hE
    go_enter Try.func13, Try.ntmps13
    go_wp2_with fail
    refine (C1.out _).mono ?_; rintro e w1 ⟨k, q, a, m, c, rfl, hT, hb1⟩
    obtain ⟨W2, hW2, hb2, x2⟩ := box_fresh w1 #[.int .i64 k, .int .i64 q, .slice a m c] 24
    have HB2 := Lib.hid (chain hb1 hb2)
    have HT2 := Lib.hid (hT.below hb2)
    have X2 := Lib.hid x2
    clear hb1 hb2 hT x2
    go_wp2_with fail
    refine (C3.out _).mono ?_; rintro e s1 ⟨rfl, rfl⟩
    go_wp2_with fail
    refine (C4.out _).mono ?_; rintro e w4 ⟨v, rfl, hR, hb4⟩
    obtain ⟨a4, c4, rfl, hK, hok⟩ := hR.row
    have hL := kids_isT hK hok
    rw [HLL.out] at hL ⊢
    have HL4 := Lib.hid hL
    have HB4 := Lib.hid (chain HB2.out hb4)
    have HT4 := Lib.hid (HT2.out.below hb4)
    have X4 := Lib.hid ((hb4.block _ (block_lt X2.out)).trans X2.out)
    obtain ⟨p0, p1, p2, _, _, _⟩ := zfacts X4.out
    clear hR hK hok hL hb4 HT2 X2
    go_wp2_with fail
    refine (CE.out _ _ _ _ _ _ HT4.out).mono ?_; rintro e w6 ⟨rfl, hb6⟩
    have HB6 := Lib.hid (chain HB4.out hb6)
    have HT6 := Lib.hid (HT4.out.below hb6)
    have HL6 := Lib.hid (HL4.out.below hb6)
    have HC6 := Lib.hid (cells3 (o := 0) ⟨p0, p1, p2⟩ hb6)
    clear hb6 HT4 HL4 X4 HB4 p0 p1 p2
    go_wp2_with fail
    go_loopw [8, 9] (fun s i wr => ∃ (j : Nat) (th : Bool), j ≤ L ∧ i = .int .i64 j ∧ s = .bool th ∧ (at' < j → th = true) ∧ Hid (Below w6.heap.size w6 wr)) (fun _ i _ => L - (intOf i).toNat)
    case atStart => exact ⟨0, false, by omega, rfl, rfl, by omega, Below.refl _ _⟩
    case round =>
      obtain ⟨j, th, hj, rfl, rfl, hth, HBR⟩ := hrel
      by_cases hjm : j < L
      · obtain ⟨b1, o1, k1, q1, a1, m1, c1, rfl, _, _, u0, u1, u2, hTa⟩ := rowKid (HL6.out.below HBR.out) j hjm
        have hcj := HG2.out j hjm
        have hsz := chk_size hcj
        have hest := HMIN.out j hjm
        have hokj := (chk_zero.1 hcj).2
        have hestb := est_bd hokj
        obtain ⟨tj, htj⟩ : ∃ t, Tr.kid ts j = t := ⟨_, rfl⟩
        rw [htj] at hTa hsz hest hokj hestb
        obtain ⟨Ej, hEj⟩ : ∃ E, tj.est = E := ⟨_, rfl⟩
        rw [hEj] at hest hestb
        have CJ : Hid (∀ W, Below wr.heap.size wr W → Calls Try.prog 40 #[.agg #[.int .i64 k1, .int .i64 q1, .slice a1 m1 c1]] W fun e w' => e = .returned (.int .i64 Ej) ∧ Below W.heap.size W w') := fun W hb => by
          have := ref18_Est 4194304 (by omega) tj k1 q1 a1 m1 c1 W _ (by omega) (hTa.below hb) hokj
          rwa [hEj] at this
        have t9 : decide (Ej < E) = false := decide_eq_false (by omega)
        have HTJ := Lib.hid htj
        have hcu : wr.cell? ⟨b1, o1 + j * 3, none⟩ = some (.int .i64 k1) ∧ wr.cell? ⟨b1, o1 + j * 3 + 1, none⟩ = some (.int .i64 q1) ∧ wr.cell? ⟨b1, o1 + j * 3 + 2, none⟩ = some (.slice a1 m1 c1) := ⟨u0, u1, u2⟩
        have HCU := Lib.hid hcu
        clear u0 u1 u2 hcj hokj hEj htj hcu
        cases th with
        | true =>
          go_wp2_with fail
          refine wp_region_held_drew (S := fun _ => True) (by kernel_rfl) ?_ (fun hHeld => ?_)
          · trivial
          refine wpAnyH_take (i := 0) (v := ?_) (by (try simp only [List.getElem?_toArray, List.getElem?_cons_succ, List.getElem?_cons_zero]); exact rfl) (by kernel_rfl) (by kernel_rfl) (by kernel_rfl) (by exact fun _ _ _ h => h) (Or.inl ⟨by kernel_rfl, ?_⟩) (by assumption) ?_
          rotate_left
          · (intro w hSw; (try dsimp only at hSw); go_simp; try with_reducible rfl)
          try simp only [Act.put, List.setIfInBounds_toArray, List.set_cons_zero, List.set_cons_succ]
          refine wpAnyH_take (i := 1) (v := ?_) (by (try simp only [List.getElem?_toArray, List.getElem?_cons_succ, List.getElem?_cons_zero]); exact rfl) (by kernel_rfl) (by kernel_rfl) (by kernel_rfl) (by exact fun _ _ _ h => h) (Or.inl ⟨by kernel_rfl, ?_⟩) (by assumption) ?_
          rotate_left
          · (intro w hSw; (try dsimp only at hSw); go_simp; try with_reducible rfl)
          try simp only [Act.put, List.setIfInBounds_toArray, List.set_cons_zero, List.set_cons_succ]
          refine wpAnyH_take (i := 2) (by (try simp only [List.getElem?_toArray, List.getElem?_cons_succ, List.getElem?_cons_zero]); exact rfl) (by kernel_rfl) (by kernel_rfl) (by kernel_rfl) (by exact fun _ _ _ h => h) (Or.inr ⟨by kernel_rfl, rfl⟩) (by assumption) ?_
          try simp only [Act.put, List.setIfInBounds_toArray, List.set_cons_zero, List.set_cons_succ]
          refine wpAnyH_take (i := 3) (by (try simp only [List.getElem?_toArray, List.getElem?_cons_succ, List.getElem?_cons_zero]); exact rfl) (by kernel_rfl) (by kernel_rfl) (by kernel_rfl) (by exact fun _ _ _ h => h) (Or.inr ⟨by kernel_rfl, rfl⟩) (by assumption) ?_
          try simp only [Act.put, List.setIfInBounds_toArray, List.set_cons_zero, List.set_cons_succ]
          refine wpAnyH_take (i := 4) (by (try simp only [List.getElem?_toArray, List.getElem?_cons_succ, List.getElem?_cons_zero]); exact rfl) (by kernel_rfl) (by kernel_rfl) (by kernel_rfl) (by exact fun _ _ _ h => h) (Or.inr ⟨by kernel_rfl, rfl⟩) (by assumption) ?_
          try simp only [Act.put, List.setIfInBounds_toArray, List.set_cons_zero, List.set_cons_succ]
          refine wpAnyH_take (i := 5) (by (try simp only [List.getElem?_toArray, List.getElem?_cons_succ, List.getElem?_cons_zero]); exact rfl) (by kernel_rfl) (by kernel_rfl) (by kernel_rfl) (by exact fun _ _ _ h => h) (Or.inr ⟨by kernel_rfl, rfl⟩) (by assumption) ?_
          try simp only [Act.put, List.setIfInBounds_toArray, List.set_cons_zero, List.set_cons_succ]
          refine wpAnyH_take (i := 6) (by (try simp only [List.getElem?_toArray, List.getElem?_cons_succ, List.getElem?_cons_zero]); exact rfl) (by kernel_rfl) (by kernel_rfl) (by kernel_rfl) (by exact fun _ _ _ h => h) (Or.inr ⟨by kernel_rfl, rfl⟩) (by assumption) ?_
          try simp only [Act.put, List.setIfInBounds_toArray, List.set_cons_zero, List.set_cons_succ]
          refine wpAnyH_take (i := 7) (by (try simp only [List.getElem?_toArray, List.getElem?_cons_succ, List.getElem?_cons_zero]); exact rfl) (by kernel_rfl) (by kernel_rfl) (by kernel_rfl) (by exact fun _ _ _ h => h) (Or.inr ⟨by kernel_rfl, rfl⟩) (by assumption) ?_
          try simp only [Act.put, List.setIfInBounds_toArray, List.set_cons_zero, List.set_cons_succ]
          refine wpAnyH_take (i := 8) (v := ?_) (by (try simp only [List.getElem?_toArray, List.getElem?_cons_succ, List.getElem?_cons_zero]); exact rfl) (by kernel_rfl) (by kernel_rfl) (by kernel_rfl) (by exact fun _ _ _ h => h) (Or.inl ⟨by kernel_rfl, ?_⟩) (by assumption) ?_
          rotate_left
          · (intro w hSw; (try dsimp only at hSw); go_simp; try with_reducible rfl)
          try simp only [Act.put, List.setIfInBounds_toArray, List.set_cons_zero, List.set_cons_succ]
          refine wpAnyH_take (i := 9) (v := ?_) (by (try simp only [List.getElem?_toArray, List.getElem?_cons_succ, List.getElem?_cons_zero]); exact rfl) (by kernel_rfl) (by kernel_rfl) (by kernel_rfl) (by exact fun _ _ _ h => h) (Or.inl ⟨by kernel_rfl, ?_⟩) (by assumption) ?_
          rotate_left
          · (intro w hSw; (try dsimp only at hSw); go_simp; try with_reducible rfl)
          try simp only [Act.put, List.setIfInBounds_toArray, List.set_cons_zero, List.set_cons_succ]
          refine wpAnyH_done (by kernel_rfl) ?_ _
          have hcu := HCU.out
          obtain ⟨y0, y1, y2⟩ := hcu
          go_wp2_with fail
          refine (CJ.out _ undrewT).mono ?_; rintro e w7 ⟨rfl, hb7⟩
          have HB7 := Lib.hid (chain HBR.out (chain undrewT hb7))
          clear hb7
          go_wp2_with fail
          go_roundw
          case rel => exact ⟨j + 1, true, by omega, by go_num, rfl, fun _ => rfl, HB7.out⟩
          case measure => simp [intOf]; omega
        | false =>
          have hne : at' ≠ j ∨ at' = j := by omega
          have hcu := HCU.out
          have hcv := cells3 HC6.out HBR.out
          go_wp2_with fail
          go_region_held3 (fun w' => (w'.cell? ⟨b1, o1 + j * 3, none⟩ = some (.int .i64 k1) ∧ w'.cell? ⟨b1, o1 + j * 3 + 1, none⟩ = some (.int .i64 q1) ∧ w'.cell? ⟨b1, o1 + j * 3 + 2, none⟩ = some (.slice a1 m1 c1)) ∧ w'.cell? ⟨w1.heap.size, 0, none⟩ = some (.int .i64 k) ∧ w'.cell? ⟨w1.heap.size, 1, none⟩ = some (.int .i64 q) ∧ w'.cell? ⟨w1.heap.size, 2, none⟩ = some (.slice a m c)) (exact ⟨hcu, hcv⟩) ((first
            | (go_at_call 30; refine (ref13_Same tj tb _ _ _ _ _ _ _ _ _ _ _ _ _ (by omega) (by have := HSB.out; omega) (hTa.below undrewT) (HT6.out.below (chain HBR.out undrewT))).mono ?_; rintro e w8 ⟨rfl, hb8⟩; have hb8 := chain (undrewT (w := wr)) hb8; have hcu := cells3 hcu hb8; have hcv := cells3 hcv hb8)))
          have HB8 := Lib.hid hb8
          obtain ⟨y0, y1, y2⟩ := hcu
          obtain ⟨th2, hth2⟩ : ∃ b, decide (Tr.cmp tj tb = 0) = b := ⟨_, rfl⟩
          rw [hth2]
          have HT2 : Hid (at' < j + 1 → th2 = true) := fun h => by
            by_cases hlt : at' < j
            · exact absurd (hth hlt) (by decide)
            · obtain rfl : at' = j := by omega
              rw [← hth2, ← HTJ.out, HTB.out, Tr.cmp_self]; first | rfl | done
          clear hth2 hb8 hcv hTa
          go_wp2_with fail
          refine (CJ.out _ HB8.out).mono ?_; rintro e w7 ⟨rfl, hb7⟩
          have HB7 := Lib.hid (chain HBR.out (chain HB8.out hb7))
          clear hb7
          go_wp2_with fail
          go_roundw
          case rel => exact ⟨j + 1, th2, by omega, by go_num, rfl, HT2.out, HB7.out⟩
          case measure => simp [intOf]; omega
      · obtain rfl : L = j := by omega
        obtain rfl : th = true := hth hA
        obtain ⟨wo, rfl⟩ : ∃ wo : World, wo = wr := ⟨_, rfl⟩
        have hLr := HL6.out.below HBR.out
        obtain ⟨b1, o1, k1, q1, a1, m1, c1, rfl, _, _, u0, u1, u2, hTa⟩ := rowKid hLr at' hA
        rw [HTB.out] at hTa
        have CM : Hid (∀ W, Below wo.heap.size wo W → Calls Try.prog 54 #[.slice (some ⟨b1, o1, none⟩) L c4] W fun e w' => e = .returned (.int .i64 (at' : Nat)) ∧ Below W.heap.size W w') := fun W hb => by
          have := ref18_Least ts _ L c4 W W.heap.size (Nat.le_refl _) (by omega) (fun i hi => by have := chk_size (HG2.out i hi); omega) (IsT.lt (hLr.below hb))
          rwa [HRR.out] at this
        have hcu : wo.cell? ⟨b1, o1 + at' * 3, none⟩ = some (.int .i64 k1) ∧ wo.cell? ⟨b1, o1 + at' * 3 + 1, none⟩ = some (.int .i64 q1) ∧ wo.cell? ⟨b1, o1 + at' * 3 + 2, none⟩ = some (.slice a1 m1 c1) := ⟨u0, u1, u2⟩
        have hcv := cells3 HC6.out HBR.out
        have t8 : decide (1 ≤ E) = true := decide_eq_true (by omega)
        have HT7 := Lib.hid (HT6.out.below HBR.out)
        clear u0 u1 u2
        go_wp2_with fail
        go_region_held3 (fun w' => (w'.cell? ⟨b1, o1 + at' * 3, none⟩ = some (.int .i64 k1) ∧ w'.cell? ⟨b1, o1 + at' * 3 + 1, none⟩ = some (.int .i64 q1) ∧ w'.cell? ⟨b1, o1 + at' * 3 + 2, none⟩ = some (.slice a1 m1 c1)) ∧ w'.cell? ⟨w1.heap.size, 0, none⟩ = some (.int .i64 k) ∧ w'.cell? ⟨w1.heap.size, 1, none⟩ = some (.int .i64 q) ∧ w'.cell? ⟨w1.heap.size, 2, none⟩ = some (.slice a m c)) (exact ⟨hcu, hcv⟩) ((first
          | (go_at_call 54; refine (CM.out _ undrewT).mono ?_; rintro e w8 ⟨rfl, hb8⟩; have hb8 := chain (undrewT (w := wo)) hb8; have hcu := cells3 hcu hb8; have hcv := cells3 hcv hb8)
          | (go_at_call 30; refine (same_self tb _ _ _ _ _ _ _ _ _ _ _ _ _ HSB.out (HT7.out.below hb8) (hTa.below hb8)).mono ?_; rintro e w9 ⟨rfl, hb9⟩; have hcu := cells3 hcu hb9; have hcv := cells3 hcv hb9)
          | (go_at_call 31; refine (live19 _).mono ?_; rintro e w10 ⟨rfl, hb10⟩; have hcu := cells3 hcu hb10; have hcv := cells3 hcv hb10)))
        have hb := chain HB6.out (chain HBR.out (chain hb8 (chain hb9 hb10)))
        go_wp2_with fail
        go_ret
        exact ⟨rfl, hb⟩
end Go.Proofs.Ytncikklhchimdaa
