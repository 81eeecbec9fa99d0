/- Contracts: is a node of a tree right by itself? The program's switch. -/
import Derived.Test.YtncikklhchimdaaValA
import Derived.StillTailTactics
import Derived.RangeFuncIn
namespace Go.Proofs.Ytncikklhchimdaa
open Go.RowKit
set_option linter.unusedVariables false
set_option linter.unusedSimpArgs false
set_option maxRecDepth 100000
set_option maxRecDepth 20000

theorem fk_ne {k c : Int} (h : k ≠ c) : (k == c) = false := bno h

set_option maxHeartbeats 4000000 in
theorem valid_Node_leaf (t : Tr) (n : Int) (a : Option Addr) (m cap : Nat) (w : World) (F : Nat → Prop) (k : Int) (hk : k = 1 ∨ k = 2 ∨ k = 3) (hT : IsT w F k n a m cap t) :
    Calls Try.prog 21 #[.agg #[.int .i64 k, .int .i64 n, .slice a m cap]] w fun e w' => e = .returned (.bool (nodeOk t)) ∧ Below w.heap.size w w' := by
  have hn := hT.fn
  have en := hT.en
  have em := hT.em
  have ek := hT.ek
  obtain ⟨B, hB⟩ : ∃ B, hasSz n = B := ⟨_, rfl⟩
  have HS : Hid (∀ W, Calls Try.prog 59 #[.int .i64 n] W fun e w' => e = .returned (.bool B) ∧ W = w') := fun W => by
    cases B with
    | true => exact rootHas_yes n W hB
    | false => exact rootHas_no n W hB hn
  have HSM : Hid (∀ W, Calls Try.prog 60 #[.int .i64 n] W fun e w' => e = .returned (.bool (decide (1 ≤ n ∧ n ≤ 5))) ∧ W = w') := fun W => small_Has n W
  obtain ⟨C, hC⟩ : ∃ C, hasP2 n = C := ⟨_, rfl⟩
  have HST : Hid (∀ W, Calls Try.prog 61 #[.int .i64 n] W fun e w' => e = .returned (.bool C) ∧ W = w') := fun W => by rw [← hC]; exact stock_Has n W ⟨hn.1, by omega⟩
  have HN : Hid (nodeOk t = nodeB k n m (Tr.kid t.kids 0).num (Tr.kid t.kids 1).num) := by unfold Hid nodeOk; rw [ek, en, em]
  rw [HN.out]
  clear HN hT en em ek
  rcases hk with rfl | rfl | rfl
  · have HN : Hid (nodeB 1 n m (Tr.kid t.kids 0).num (Tr.kid t.kids 1).num = (decide (m = 0 ∧ n ≤ 64) && B)) := by unfold Hid nodeB; rw [if_pos rfl, hB]
    rw [HN.out]
    clear HN hB hC
    by_cases hm : m = 0
    · subst hm
      cases B with
      | true =>
        by_cases h : n ≤ 64
        all_goals
          go_enter Try.func21, Try.ntmps21
          go_wp2_with fail
          refine (HS.out _).mono ?_; rintro e w1 ⟨rfl, rfl⟩
          go_wp2_with fail
          go_ret
          exact ⟨ret_bool (by simp [h]), (Below.refl _ _).alloc (Nat.le_refl _) _⟩
      | false =>
        go_enter Try.func21, Try.ntmps21
        go_wp2_with fail
        refine (HS.out _).mono ?_; rintro e w1 ⟨rfl, rfl⟩
        go_wp2_with fail
        go_ret
        exact ⟨ret_bool (by simp), (Below.refl _ _).alloc (Nat.le_refl _) _⟩
    · have hm' : ((m : Int) == 0) = false := bno (by omega)
      go_enter Try.func21, Try.ntmps21
      go_wp2_with fail
      go_ret
      exact ⟨ret_bool (by simp [hm]), (Below.refl _ _).alloc (Nat.le_refl _) _⟩
  · have HN : Hid (nodeB 2 n m (Tr.kid t.kids 0).num (Tr.kid t.kids 1).num = decide (m = 0 ∧ 2 ≤ n ∧ n ≤ 5)) := by unfold Hid nodeB; simp
    rw [HN.out]
    clear HN hB hC
    rcases (show (n < 1 ∨ 5 < n) ∨ (1 ≤ n ∧ n ≤ 5) by omega) with h5 | h5
    · have hd : decide (1 ≤ n ∧ n ≤ 5) = false := by simp; omega
      rw [hd] at HSM
      clear hd
      go_enter Try.func21, Try.ntmps21
      go_wp2_with fail
      refine (HSM.out _).mono ?_; rintro e w1 ⟨rfl, rfl⟩
      go_wp2_with fail
      go_ret
      exact ⟨ret_bool (by simp; omega), (Below.refl _ _).alloc (Nat.le_refl _) _⟩
    · have hd : decide (1 ≤ n ∧ n ≤ 5) = true := by simp; omega
      rw [hd] at HSM
      clear hd
      by_cases hm : m = 0
      · subst hm
        by_cases h2 : 2 ≤ n
        all_goals
          go_enter Try.func21, Try.ntmps21
          go_wp2_with fail
          refine (HSM.out _).mono ?_; rintro e w1 ⟨rfl, rfl⟩
          go_wp2_with fail
          go_ret
          exact ⟨ret_bool (by simp; try omega), (Below.refl _ _).alloc (Nat.le_refl _) _⟩
      · have hm' : ((m : Int) == 0) = false := bno (by omega)
        go_enter Try.func21, Try.ntmps21
        go_wp2_with fail
        refine (HSM.out _).mono ?_; rintro e w1 ⟨rfl, rfl⟩
        go_wp2_with fail
        go_ret
        exact ⟨ret_bool (by simp [hm]), (Below.refl _ _).alloc (Nat.le_refl _) _⟩
  · have HN : Hid (nodeB 3 n m (Tr.kid t.kids 0).num (Tr.kid t.kids 1).num = (decide (m = 0 ∧ 2 ≤ n) && C)) := by unfold Hid nodeB; simp [hC]
    rw [HN.out]
    clear HN hB hC
    by_cases hm : m = 0
    · subst hm
      by_cases h2 : 2 ≤ n
      · go_enter Try.func21, Try.ntmps21
        go_wp2_with fail
        refine (HST.out _).mono ?_; rintro e w1 ⟨rfl, rfl⟩
        go_wp2_with fail
        go_ret
        exact ⟨ret_bool (by first | (simp [h2]; done) | (simp; intros; omega)), (Below.refl _ _).alloc (Nat.le_refl _) _⟩
      · go_enter Try.func21, Try.ntmps21
        go_wp2_with fail
        go_ret
        exact ⟨ret_bool (by first | (simp [h2]; done) | (simp; intros; omega)), (Below.refl _ _).alloc (Nat.le_refl _) _⟩
    · have hm' : ((m : Int) == 0) = false := bno (by omega)
      go_enter Try.func21, Try.ntmps21
      go_wp2_with fail
      go_ret
      exact ⟨ret_bool (by simp [hm]), (Below.refl _ _).alloc (Nat.le_refl _) _⟩

set_option maxHeartbeats 4000000 in
theorem valid_Node_4 (t : Tr) (n : Int) (a : Option Addr) (m cap : Nat) (w : World) (F : Nat → Prop) (hT : IsT w F 4 n a m cap t) :
    Calls Try.prog 21 #[.agg #[.int .i64 4, .int .i64 n, .slice a m cap]] w fun e w' => e = .returned (.bool (nodeOk t)) ∧ Below w.heap.size w w' := by
  have HV : Hid (∀ W, Below w.heap.size w W → Calls Try.prog 63 #[.agg #[.int .i64 4, .int .i64 n, .slice a m cap]] W fun e w' => e = .returned (.bool (sidesB t.num t.kids.length (Tr.kid t.kids 0).num (Tr.kid t.kids 1).num)) ∧ Below W.heap.size W w') := fun W hb => valid_sides t 4 n a m cap W F (hT.below hb)
  have HN : Hid (nodeOk t = sidesB t.num t.kids.length (Tr.kid t.kids 0).num (Tr.kid t.kids 1).num) := by unfold Hid nodeOk nodeB; rw [← hT.ek]; simp
  rw [HN.out]
  clear HN hT
  go_enter Try.func21, Try.ntmps21
  go_wp2_with fail
  refine (HV.out _ ((Below.refl _ _).alloc (Nat.le_refl _) _)).mono ?_; rintro e w1 ⟨rfl, hb⟩
  go_wp2_with fail
  go_ret
  exact ⟨rfl, chainA (Below.refl _ _) hb⟩

set_option maxHeartbeats 4000000 in
theorem valid_Node_5 (t : Tr) (n : Int) (a : Option Addr) (m cap : Nat) (w : World) (F : Nat → Prop) (hT : IsT w F 5 n a m cap t) :
    Calls Try.prog 21 #[.agg #[.int .i64 5, .int .i64 n, .slice a m cap]] w fun e w' => e = .returned (.bool (nodeOk t)) ∧ Below w.heap.size w w' := by
  have HN : Hid (nodeOk t = (sidesB t.num t.kids.length (Tr.kid t.kids 0).num (Tr.kid t.kids 1).num && decide (gcdI (Tr.kid t.kids 0).num (Tr.kid t.kids 1).num = 1))) := by unfold Hid nodeOk nodeB; rw [← hT.ek]; simp
  rw [HN.out]
  clear HN
  by_cases hm : m = 2
  · have HV : Hid (∀ W, Below w.heap.size w W → Calls Try.prog 63 #[.agg #[.int .i64 5, .int .i64 n, .slice a m cap]] W fun e w' => e = .returned (.bool (sidesB t.num t.kids.length (Tr.kid t.kids 0).num (Tr.kid t.kids 1).num)) ∧ Below W.heap.size W w') := fun W hb => valid_sides t 5 n a m cap W F (hT.below hb)
    obtain ⟨b, off, rfl, hbl, c0, d0⟩ := hT.knum 0 (by omega)
    obtain ⟨b', off', ha, _, c1, d1⟩ := hT.knum 1 (by omega)
    simp only [Option.some.injEq, Addr.mk.injEq, and_true] at ha
    obtain ⟨rfl, rfl⟩ := ha
    obtain ⟨S, hS⟩ : ∃ S, sidesB t.num t.kids.length (Tr.kid t.kids 0).num (Tr.kid t.kids 1).num = S := ⟨_, rfl⟩
    rw [hS] at HV ⊢
    obtain ⟨k0, hk0⟩ : ∃ x, (Tr.kid t.kids 0).num = x := ⟨_, rfl⟩
    obtain ⟨k1, hk1⟩ : ∃ x, (Tr.kid t.kids 1).num = x := ⟨_, rfl⟩
    rw [hk0] at c0 d0 ⊢
    rw [hk1] at c1 d1 ⊢
    have HG : Hid (∀ W, Calls Try.prog 62 #[.int .i64 k0, .int .i64 k1] W fun e w' => e = .returned (.int .i64 (gcdI k0 k1)) ∧ Below W.heap.size W w') := fun W => factGcdI k0 k1 W d0 d1
    obtain ⟨G, hG⟩ : ∃ G, gcdI k0 k1 = G := ⟨_, rfl⟩
    rw [hG] at HG ⊢
    clear hk0 hk1 hS hG hT
    subst hm
    rw [Nat.zero_mul, Nat.add_zero] at c0
    rw [Nat.one_mul] at c1
    have c0' := (cell_past w (.cells #[.int .i64 5, .int .i64 n, .slice (some ⟨b, off, none⟩) 2 cap] 24) ⟨b, off + 1, none⟩ hbl).trans c0
    have c1' := (cell_past w (.cells #[.int .i64 5, .int .i64 n, .slice (some ⟨b, off, none⟩) 2 cap] 24) ⟨b, off + 3 + 1, none⟩ hbl).trans c1
    have hx : (w.alloc (.cells #[.int .i64 5, .int .i64 n, .slice (some ⟨b, off, none⟩) 2 cap] 24)).heap[w.heap.size]? = some (.cells #[.int .i64 5, .int .i64 n, .slice (some ⟨b, off, none⟩) 2 cap] 24 (0, 0)) := block_new rfl
    have hbw : Below w.heap.size w (w.alloc (.cells #[.int .i64 5, .int .i64 n, .slice (some ⟨b, off, none⟩) 2 cap] 24)) := (Below.refl _ _).alloc (Nat.le_refl _) _
    obtain ⟨W0, hW0⟩ : ∃ W0, w.alloc (.cells #[.int .i64 5, .int .i64 n, .slice (some ⟨b, off, none⟩) 2 cap] 24) = W0 := ⟨_, rfl⟩
    rw [hW0] at hx c0' c1' hbw
    have y0 := block_cell hx 0
    have y1 := block_cell hx 1
    have y2 := block_cell hx 2
    simp at y0 y1 y2
    have HBW := Lib.hid hbw
    have HW0 := Lib.hid hW0
    have HX := Lib.hid hx
    clear hx hbw hW0 c0 c1
    by_cases hg : G = 1
    · have hg1 : (G == 1) = true := btrue hg
      have HGG := Lib.hid hg
      clear hg
      go_enter Try.func21, Try.ntmps21
      go_wp2_with fail
      rw [HW0.out]
      go_still_tail 15, (by kernel_rfl)
      go_wp2_with fail
      refine (HG.out _).mono ?_; rintro e w1 ⟨rfl, hb⟩
      have hb1 : Below w.heap.size w w1 := chain HBW.out.drew hb
      have hx1 := (hb.block _ (block_lt HX.out)).trans HX.out
      have x0 := block_cell hx1 0
      have x1 := block_cell hx1 1
      have x2 := block_cell hx1 2
      simp at x0 x1 x2
      have HB1 := Lib.hid hb1
      clear hx1 hb hb1 c0' c1' y0 y1 y2
      go_wp2_with fail
      refine (HV.out _ HB1.out).mono ?_; rintro e w2 ⟨rfl, hb⟩
      have hb2 := chain HB1.out hb
      clear hb
      go_wp2_with fail
      go_ret
      exact ⟨ret_bool (by simp [HGG.out]), hb2⟩
    · have hg1 : (G == 1) = false := bno hg
      have HGG := Lib.hid hg
      clear hg
      go_enter Try.func21, Try.ntmps21
      go_wp2_with fail
      rw [HW0.out]
      go_still_tail 15, (by kernel_rfl)
      go_wp2_with fail
      refine (HG.out _).mono ?_; rintro e w1 ⟨rfl, hb⟩
      have hb1 : Below w.heap.size w w1 := chain HBW.out.drew hb
      clear hb c0' c1' y0 y1 y2
      go_wp2_with fail
      go_ret
      exact ⟨ret_bool (by simp [HGG.out]), hb1⟩
  · have HB : Hid (sidesB t.num t.kids.length (Tr.kid t.kids 0).num (Tr.kid t.kids 1).num = false) := by
      unfold Hid sidesB
      rw [← hT.em, decide_eq_false (by intro h; exact hm h.1), Bool.false_and]
    rw [HB.out, Bool.false_and]
    have h2 : ((m : Int) == 2) = false := bno (by omega)
    clear HB hT hm
    go_enter Try.func21, Try.ntmps21
    go_wp2_with fail
    go_quiet (fail)
    go_wp2_with fail
    go_ret
    exact ⟨rfl, below_drewN ((Below.refl _ _).alloc (Nat.le_refl _) _) _⟩

set_option maxHeartbeats 4000000 in
theorem valid_Node_6 (t : Tr) (n : Int) (a : Option Addr) (m cap : Nat) (w : World) (F : Nat → Prop) (hT : IsT w F 6 n a m cap t) :
    Calls Try.prog 21 #[.agg #[.int .i64 6, .int .i64 n, .slice a m cap]] w fun e w' => e = .returned (.bool (nodeOk t)) ∧ Below w.heap.size w w' := by
  have hn := hT.fn
  have HN : Hid (nodeOk t = (decide (3 ≤ n) && isPr n && oneB n m (decide ((Tr.kid t.kids 0).num = n - 1)))) := by
    unfold Hid nodeOk nodeB oneB
    rw [← hT.ek, ← hT.en, ← hT.em]
    simp only [if_true, Int.reduceEq, if_false]
    generalize (Tr.kid t.kids 0).num = k0
    cases hasSz n <;> cases isPr n <;> simp only [Bool.and_true, Bool.and_false, Bool.true_and, Bool.false_and] <;> (rw [Bool.eq_iff_iff]; simp only [Bool.and_eq_true, decide_eq_true_eq]; constructor <;> (intro h; omega))
  rw [HN.out]
  have HV : Hid (∀ W, Below w.heap.size w W → W.heap[w.heap.size]? = some (.cells #[.int .i64 6, .int .i64 n, .slice a m cap] 24 (0, 0)) → Calls Try.prog 65 #[.agg #[.int .i64 6, .int .i64 n, .slice a m cap], .func (.func 66) #[] #[.pointer (some ⟨w.heap.size, 0, none⟩)]] W fun e w' => e = .returned (.bool (oneB n m (decide ((Tr.kid t.kids 0).num = n - 1)))) ∧ Below W.heap.size W w') := fun W hb hx =>
    valid_single 66 w.heap.size t 6 n a m cap W F _ (hT.below hb) (fun _ hs W' hb' => valid_Node1 w.heap.size 6 n _ a m cap W' ((hb'.block _ (block_lt hx)).trans hx) (hasSz_bd hs)) (enters_of Try.func66 (by kernel_rfl) rfl)
  obtain ⟨O, hO⟩ : ∃ O, oneB n m (decide ((Tr.kid t.kids 0).num = n - 1)) = O := ⟨_, rfl⟩
  obtain ⟨P, hP⟩ : ∃ P, isPr n = P := ⟨_, rfl⟩
  have HP : Hid (∀ W, Calls Try.prog 64 #[.int .i64 n] W fun e w' => e = .returned (.bool P) ∧ Below W.heap.size W w') := fun W => by rw [← hP]; exact fact_Prime n W hn
  rw [hO] at HV ⊢
  rw [hP]
  clear HN hT hO hP
  have hx : (w.alloc (.cells #[.int .i64 6, .int .i64 n, .slice a m cap] 24)).heap[w.heap.size]? = some (.cells #[.int .i64 6, .int .i64 n, .slice a m cap] 24 (0, 0)) := block_new rfl
  have HX := Lib.hid hx
  clear hx
  by_cases h3 : 3 ≤ n
  · cases P with
    | true =>
      go_enter Try.func21, Try.ntmps21
      go_wp2_with fail
      refine (HP.out _).mono ?_; rintro e w1 ⟨rfl, hb⟩
      have hb1 : Below w.heap.size w w1 := chainA (Below.refl _ _) hb
      have hx1 := (hb.block _ (block_lt HX.out)).trans HX.out
      have HX1 := Lib.hid hx1
      have x0 := block_cell hx1 0
      have x1 := block_cell hx1 1
      have x2 := block_cell hx1 2
      simp at x0 x1 x2
      have HB1 := Lib.hid hb1
      clear hx1 hb hb1
      go_wp2_with fail
      refine (HV.out _ HB1.out HX1.out).mono ?_; rintro e w2 ⟨rfl, hb⟩
      have hb2 := chain HB1.out hb
      clear hb
      go_wp2_with fail
      go_ret
      exact ⟨ret_bool (by simp [h3]), hb2⟩
    | false =>
      go_enter Try.func21, Try.ntmps21
      go_wp2_with fail
      refine (HP.out _).mono ?_; rintro e w1 ⟨rfl, hb⟩
      have hb1 : Below w.heap.size w w1 := chainA (Below.refl _ _) hb
      clear hb
      go_wp2_with fail
      go_ret
      exact ⟨ret_bool (by simp), hb1⟩
  · have h3' : n < 3 := by omega
    go_enter Try.func21, Try.ntmps21
    go_wp2_with fail
    go_ret
    exact ⟨ret_bool (by rw [decide_eq_false (by omega)]; simp), (Below.refl _ _).alloc (Nat.le_refl _) _⟩

set_option maxHeartbeats 4000000 in
theorem valid_Node_7 (t : Tr) (n : Int) (a : Option Addr) (m cap : Nat) (w : World) (F : Nat → Prop) (hT : IsT w F 7 n a m cap t) :
    Calls Try.prog 21 #[.agg #[.int .i64 7, .int .i64 n, .slice a m cap]] w fun e w' => e = .returned (.bool (nodeOk t)) ∧ Below w.heap.size w w' := by
  have hn := hT.fn
  have HN : Hid (nodeOk t = (decide (2 ≤ n) && oneB n m (decide (2 * n - 1 ≤ (Tr.kid t.kids 0).num) && hasP2 (Tr.kid t.kids 0).num))) := by
    unfold Hid nodeOk nodeB oneB
    rw [← hT.ek, ← hT.en, ← hT.em]
    simp only [if_true, Int.reduceEq, if_false]
    generalize hasP2 (Tr.kid t.kids 0).num = H
    generalize (Tr.kid t.kids 0).num = k0
    cases hasSz n <;> cases H <;> simp only [Bool.and_true, Bool.and_false, Bool.true_and, Bool.false_and] <;> (rw [Bool.eq_iff_iff]; simp only [Bool.and_eq_true, decide_eq_true_eq]; constructor <;> (intro h; omega))
  rw [HN.out]
  have HV : Hid (∀ W, Below w.heap.size w W → W.heap[w.heap.size]? = some (.cells #[.int .i64 7, .int .i64 n, .slice a m cap] 24 (0, 0)) → Calls Try.prog 65 #[.agg #[.int .i64 7, .int .i64 n, .slice a m cap], .func (.func 67) #[] #[.pointer (some ⟨w.heap.size, 0, none⟩)]] W fun e w' => e = .returned (.bool (oneB n m (decide (2 * n - 1 ≤ (Tr.kid t.kids 0).num) && hasP2 (Tr.kid t.kids 0).num))) ∧ Below W.heap.size W w') := fun W hb hx =>
    valid_single 67 w.heap.size t 7 n a m cap W F _ (hT.below hb) (fun hm hs W' hb' => by
      obtain ⟨_, _, _, _, _, d0⟩ := hT.knum 0 (by omega)
      exact valid_Node2 w.heap.size 7 n _ a m cap W' ((hb'.block _ (block_lt hx)).trans hx) (hasSz_bd hs) d0) (enters_of Try.func67 (by kernel_rfl) rfl)
  obtain ⟨O, hO⟩ : ∃ O, oneB n m (decide (2 * n - 1 ≤ (Tr.kid t.kids 0).num) && hasP2 (Tr.kid t.kids 0).num) = O := ⟨_, rfl⟩
  rw [hO] at HV ⊢
  clear HN hT hO
  have hx : (w.alloc (.cells #[.int .i64 7, .int .i64 n, .slice a m cap] 24)).heap[w.heap.size]? = some (.cells #[.int .i64 7, .int .i64 n, .slice a m cap] 24 (0, 0)) := block_new rfl
  have HX := Lib.hid hx
  clear hx
  by_cases h3 : 2 ≤ n
  · skip
    go_enter Try.func21, Try.ntmps21
    go_wp2_with fail
    refine (HV.out _ ((Below.refl _ _).alloc (Nat.le_refl _) _) HX.out).mono ?_; rintro e w2 ⟨rfl, hb⟩
    have hb2 := chainA (Below.refl w.heap.size w) hb
    clear hb
    go_wp2_with fail
    go_ret
    exact ⟨ret_bool (by simp [h3]), hb2⟩
  · have h3' : n < 2 := by omega
    go_enter Try.func21, Try.ntmps21
    go_wp2_with fail
    go_ret
    exact ⟨ret_bool (by rw [decide_eq_false (by omega)]; simp), (Below.refl _ _).alloc (Nat.le_refl _) _⟩

set_option maxHeartbeats 4000000 in
theorem valid_Node_0 (t : Tr) (k n : Int) (a : Option Addr) (m cap : Nat) (w : World) (F : Nat → Prop) (hT : IsT w F k n a m cap t) (h : k < 1 ∨ 7 < k) :
    Calls Try.prog 21 #[.agg #[.int .i64 k, .int .i64 n, .slice a m cap]] w fun e w' => e = .returned (.bool (nodeOk t)) ∧ Below w.heap.size w w' := by
  have HN : Hid (nodeOk t = false) := by
    unfold Hid nodeOk nodeB
    rw [← hT.ek, if_neg (by omega), if_neg (by omega), if_neg (by omega), if_neg (by omega), if_neg (by omega), if_neg (by omega), if_neg (by omega)]
  rw [HN.out]
  have e1 : (k == 1) = false := bno (by omega)
  have e2 : (k == 2) = false := bno (by omega)
  have e3 : (k == 3) = false := bno (by omega)
  have e4 : (k == 4) = false := bno (by omega)
  have e5 : (k == 5) = false := bno (by omega)
  have e6 : (k == 6) = false := bno (by omega)
  have e7 : (k == 7) = false := bno (by omega)
  clear HN hT h
  go_enter Try.func21, Try.ntmps21
  go_wp2_with fail
  go_ret
  exact ⟨rfl, (Below.refl _ _).alloc (Nat.le_refl _) _⟩

theorem valid_Node (t : Tr) (k n : Int) (a : Option Addr) (m cap : Nat) (w : World) (F : Nat → Prop) (hT : IsT w F k n a m cap t) :
    Calls Try.prog 21 #[.agg #[.int .i64 k, .int .i64 n, .slice a m cap]] w fun e w' => e = .returned (.bool (nodeOk t)) ∧ Below w.heap.size w w' := by
  by_cases h : k < 1 ∨ 7 < k
  · exact valid_Node_0 t k n a m cap w F hT h
  · rcases (show k = 1 ∨ k = 2 ∨ k = 3 ∨ k = 4 ∨ k = 5 ∨ k = 6 ∨ k = 7 by omega) with h | h | h | rfl | rfl | rfl | rfl
    · exact valid_Node_leaf t n a m cap w F k (.inl h) hT
    · exact valid_Node_leaf t n a m cap w F k (.inr (.inl h)) hT
    · exact valid_Node_leaf t n a m cap w F k (.inr (.inr h)) hT
    · exact valid_Node_4 t n a m cap w F hT
    · exact valid_Node_5 t n a m cap w F hT
    · exact valid_Node_6 t n a m cap w F hT
    · exact valid_Node_7 t n a m cap w F hT
end Go.Proofs.Ytncikklhchimdaa
