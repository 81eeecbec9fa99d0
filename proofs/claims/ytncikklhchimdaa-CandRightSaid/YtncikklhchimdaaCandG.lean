/- Plans that are worth a trial: all of them, by the program. -/
import Derived.Test.YtncikklhchimdaaCandF
import Derived.Deep.Cut
import Derived.Deep.CutRange
namespace Go.Proofs.Ytncikklhchimdaa
open Go.RowKit
set_option linter.unusedVariables false
set_option linter.unusedSimpArgs false
set_option maxRecDepth 100000
set_option maxRecDepth 20000

theorem leavesT_len (n : Nat) : (leavesT n).length ≤ 3 := by
  unfold leavesT
  simp only [List.length_append]
  have h1 : (if n ≤ 64 then [Tr.node 1 n []] else []).length ≤ 1 := by split <;> simp
  have h2 : (if 2 ≤ n ∧ n ≤ 5 then [Tr.node 2 n []] else []).length ≤ 1 := by split <;> simp
  have h3 : (if 2 ≤ n ∧ hasP2 n = true then [Tr.node 3 n []] else []).length ≤ 1 := by split <;> simp
  omega
theorem prods_len {n : Nat} (h : hasSz n = true) : (splitsT n (facS n) ++ goodsT n (facS n)).length ≤ 12 := by
  have := fac_few h
  have := splitsT_len n (facS n)
  have := goodsT_len n (facS n)
  simp only [List.length_append]; omega
theorem rader_sz {n : Nat} (h : hasSz n = true) (h3 : 3 ≤ n) (hp : prB (facS n) = true) : okF 10 (n - 1) = true := by
  have hk := kids_sz h
  unfold kidsB at hk
  simp only [Bool.and_eq_true, Bool.or_eq_true, decide_eq_true_eq] at hk
  rcases hk.1.2 with (h0 | h0) | h0
  · rw [hp] at h0; cases h0
  · omega
  · exact h0
theorem blue_sz {n : Nat} (h : hasSz n = true) (h2 : 2 ≤ n) (h8 : n ≤ 8388608) : okF 10 (abv (2 * n - 1)) = true := by
  have hk := kids_sz h
  unfold kidsB at hk
  simp only [Bool.and_eq_true, Bool.or_eq_true, decide_eq_true_eq] at hk
  rcases hk.2 with (h0 | h0) | h0
  · omega
  · omega
  · exact h0
/-- The two last ones, where they are. -/
theorem tail_sz {n : Nat} (h : hasSz n = true) :
    (n = 1 ∧ raderT n = [] ∧ blueT n = []) ∨ (n = 2 ∧ raderT n = [] ∧ ∃ A, abv (2 * n - 1) = A ∧ okF 10 A = true ∧ blueT n = [.node 7 n [pl A]]) ∨
    (3 ≤ n ∧ ∃ Q, prB (facS n) = Q ∧ (if Q = true then okF 10 (n - 1) = true ∧ raderT n = [.node 6 n [pl (n - 1)]] else raderT n = []) ∧ ((n ≤ 8388608 ∧ ∃ A, abv (2 * n - 1) = A ∧ okF 10 A = true ∧ blueT n = [.node 7 n [pl A]]) ∨ (8388608 < n ∧ blueT n = []))) := by
  obtain ⟨i1, i2, _⟩ := hasSz_iff.1 h
  rcases (show n = 1 ∨ n = 2 ∨ 3 ≤ n by omega) with h1 | h1 | h1
  · subst h1; exact .inl ⟨rfl, by unfold raderT; rw [if_neg (by omega)], by unfold blueT; rw [if_neg (by omega)]⟩
  · exact .inr (.inl ⟨h1, by unfold raderT; rw [if_neg (by omega)], _, rfl, blue_sz h (by omega) (by omega), by unfold blueT; rw [if_pos (by omega)]⟩)
  · refine .inr (.inr ⟨h1, _, rfl, ?_, ?_⟩)
    · cases hq : prB (facS n) with
      | true => rw [if_pos rfl]; exact ⟨rader_sz h h1 hq, by unfold raderT; rw [if_pos ⟨h1, hq⟩]⟩
      | false => rw [if_neg (by simp)]; unfold raderT; rw [if_neg (by rw [hq]; simp)]
    · by_cases h8 : n ≤ 8388608
      · exact .inl ⟨h8, _, rfl, blue_sz h (by omega) h8, by unfold blueT; rw [if_pos (by omega)]⟩
      · exact .inr ⟨by omega, by unfold blueT; rw [if_neg (by omega)]⟩
theorem cand_List_no (n : Int) (w : World) (h : hasSz n = false) (hn : -9223372036854775808 ≤ n ∧ n < 9223372036854775808) :
    Calls Try.prog 28 #[.int .i64 n] w fun e w' => e = .returned (.tuple #[.slice none 0 0, .int .i64 4]) ∧ w = w' := by
  have H := Lib.hid h
  clear h
  go_enter Try.func28, Try.ntmps28
  go_wp2_with fail
  refine (rootHas_no _ _ H.out hn).mono ?_; rintro e w' ⟨rfl, rfl⟩
  go_wp2_with fail
  go_ret2
  exact ⟨rfl, rfl⟩
/-- A result: a new row of trees, and a number. -/
def GivesTs2 (ts : List Tr) (c : Int) (w : World) (e : Ending) (w' : World) : Prop := ∃ v, e = .returned (.tuple #[v, .int .i64 c]) ∧ TwoT w' w.heap.size v noRow ts [] ∧ Below w.heap.size w w'

set_option maxHeartbeats 1500000 in
theorem cand_List (n : Nat) (w : World) (hsz : hasSz n = true) : Calls Try.prog 28 #[.int .i64 n] w (GivesTs2 (listT n) 0 w) := by
  obtain ⟨i1, i2, _⟩ := hasSz_iff.1 hsz
  have h1 : 1 ≤ n := by omega
  have h2 : n ≤ 16777216 := by omega
  clear i1 i2
  have CL : Hid (∀ W, Calls Try.prog 73 #[.int .i64 n] W (GivesTs (leavesT n) W)) := fun W => cand_leaves n W h1 h2
  have CR : Hid (∀ W, Calls Try.prog 74 #[.int .i64 n] W (GivesTs (splitsT n (facS n) ++ goodsT n (facS n)) W)) := fun W => cand_products n W hsz
  have hL1 := leavesT_len n
  have hL2 := prods_len hsz
  have HLT : Hid (listT n = ((leavesT n ++ (splitsT n (facS n) ++ goodsT n (facS n))) ++ raderT n) ++ blueT n) := rfl
  obtain ⟨LL, hLL⟩ : ∃ x, leavesT n = x := ⟨_, rfl⟩
  obtain ⟨PP, hPP⟩ : ∃ x, splitsT n (facS n) ++ goodsT n (facS n) = x := ⟨_, rfl⟩
  rw [hLL, hPP] at HLT
  rw [hLL] at CL hL1
  rw [hPP] at CR hL2
  clear hLL hPP
  have HSZ := Lib.hid hsz
  have CF : Hid (∀ W, Calls Try.prog 64 #[.int .i64 n] W fun e w' => e = .returned (.bool (prB (facS n))) ∧ Below W.heap.size W w') := fun W => by
    have := fact_Prime n W (by omega)
    rwa [own_of_facts h1 h2 hsz] at this
  have CH : Hid (∀ W, Calls Try.prog 59 #[.int .i64 n] W fun e w' => e = .returned (.bool true) ∧ W = w') := fun W => rootHas_yes _ W hsz
  have hts := tail_sz hsz
  clear hsz
  obtain ⟨m2, hm2⟩ : ∃ m2, m2 = 2 * n - 1 := ⟨_, rfl⟩
  have CA : Hid (n ≤ 8388608 → ∀ W, Calls Try.prog 76 #[.int .i64 n] W fun e w' => e = .returned (.tuple #[.int .i64 (abv (2 * n - 1) : Nat), .int .i64 0]) ∧ W = w') := fun h W => chirp_Least_ok n (2 * n - 1) W HSZ.out h rfl
  have CB : Hid (8388608 < n → ∀ W, Calls Try.prog 76 #[.int .i64 n] W fun e w' => e = .returned (.tuple #[.int .i64 0, .int .i64 3]) ∧ W = w') := fun h W => chirp_Least_range n W HSZ.out h
  clear hm2
  have START : True := trivial
  go_enter Try.func28, Try.ntmps28
  go_wp2_with fail
  refine (CH.out _).mono ?_; rintro e s1 ⟨rfl, rfl⟩
  go_wp2_with fail
  refine (CL.out _).mono ?_; rintro e w1 ⟨v1, rfl, hR1, hb1⟩
  have HR1 := Lib.hid hR1
  have HB1 := Lib.hid hb1
  have hs1 := hb1.size
  clear hR1 hb1
  go_wp2_with fail
  refine (CR.out _).mono ?_; rintro e w2 ⟨v2, rfl, hR2, hb2⟩
  have HJ := Lib.hid (TwoT.join (w := w) hs1 HR1.out hb2 hR2)
  have HB2 := Lib.hid (chain HB1.out hb2)
  have hs2 := HB2.out.size
  clear hR2 hb2
  go_wp2_with (at_builtin; refine wpList_both rfl _ _ rfl _ w.heap.size v1 v2 _ _ rfl rfl HJ.out (by omega) hs2 ?_)
  intro v3 w3 hR3 hg3 hl3
  have HB3 := Lib.hid (HB2.out.grown hg3 hs2 hl3)
  obtain ⟨AC3, hAC3⟩ : ∃ x, LL ++ PP = x := ⟨_, rfl⟩
  rw [hAC3] at hR3
  have HA3 := Lib.hid hAC3
  have hA3 : AC3.length ≤ 15 := by rw [← hAC3, List.length_append]; omega
  have HR3 := Lib.hid hR3
  clear hR3 hg3 hl3 hAC3
  rcases hts with ⟨hn, hr, hb⟩ | ⟨hn, hr, A, hA, hok, hb⟩ | ⟨hn, Q, hQ, hr, hb⟩
  · have HE : Hid (listT n = AC3) := by unfold Hid; rw [HLT.out, hr, hb, HA3.out, List.append_nil, List.append_nil]
    subst hn
    clear hr hb
    have CA1 := Lib.hid (CA.out (by omega))
    go_wp2_with fail
    refine (CA1.out _).mono ?_; rintro e s2 ⟨rfl, rfl⟩
    go_wp2_with fail
    go_ret2
    exact ⟨_, rfl, by rw [HE.out]; exact HR3.out, HB3.out⟩
  · subst hn
    have HE : Hid (listT 2 = AC3 ++ [.node 7 2 [pl A]]) := by unfold Hid; rw [HLT.out, hr, hb, HA3.out, List.append_nil]; rfl
    clear hr hb
    have CA1 := Lib.hid (CA.out (by omega))
    rw [hA] at CA1
    have CI7 : Hid (∀ W, Calls Try.prog 72 #[.int .i64 A] W (GivesD (pl A) W)) := fun W => cand_plain 10 A W hok
    clear hA hok
    go_wp2_with fail
    refine (CA1.out _).mono ?_; rintro e s2 ⟨rfl, rfl⟩
    go_wp2_with fail
    refine (CI7.out _).mono ?_; rintro e p7 ⟨k7, n7, a7, m7, c7, rfl, hT7, hp7⟩
    go_wp2_with fail
    refine (cand_node _ _ _ _ _ _).mono ?_; rintro e q7 ⟨rfl, hq7⟩
    have hn7 := node_one 7 2 (by omega) h2 hp7 hT7 hq7
    have hb7a := chain HB3.out hn7.1
    have hB7 := Below.size HB3.out
    go_wp2_with (at_builtin; refine wpList_push rfl _ _ rfl q7 w.heap.size v3 noRow AC3 [] 7 2 _ 1 1 _ rfl rfl (TwoT.below HR3.out hn7.1) (hn7.2.mono (TwoT.off HR3.out hB7)) (by omega) hb7a.size ?_)
    intro v7 w7 hR7 hg7 hl7
    have HB7 := Lib.hid (below_grown hb7a hb7a.size hl7 hg7)
    obtain ⟨AC7, hAC7⟩ : ∃ x, AC3 ++ [.node 7 2 [pl A]] = x := ⟨_, rfl⟩
    rw [hAC7] at hR7
    have hA7 : AC7.length ≤ 17 := by rw [← hAC7, List.length_append, List.length_singleton]; omega
    have HA7 := Lib.hid hAC7
    have HR7 := Lib.hid hR7
    clear hAC7 hR7 hg7 hl7 hb7a hn7 hq7 hT7 hp7 hB7
    go_wp2_with fail
    go_ret2
    exact ⟨_, rfl, by rw [HE.out]; first | (rw [HA7.out]; exact HR7.out) | (rw [HA6.out, HA7.out]; exact HR7.out), HB7.out⟩
  · rw [hQ] at CF
    clear hQ
    cases Q with
    | true =>
      obtain ⟨hok6, hr⟩ := (show okF 10 (n - 1) = true ∧ raderT n = [.node 6 n [pl (n - 1)]] by simpa using hr)
      obtain ⟨m, hm⟩ : ∃ m, n - 1 = m := ⟨_, rfl⟩
      rw [hm] at hok6 hr
      have e1 : (n : Int) - 1 = (m : Nat) := by omega
      have CI6 : Hid (∀ W, Calls Try.prog 72 #[.int .i64 m] W (GivesD (pl m) W)) := fun W => cand_plain 10 m W hok6
      clear hok6 hm
      rcases hb with ⟨h8, A, hA, hok, hb⟩ | ⟨h8, hb⟩
      · have HE : Hid (listT n = (AC3 ++ [.node 6 n [pl m]]) ++ [.node 7 n [pl A]]) := by unfold Hid; rw [HLT.out, hr, hb, HA3.out]
        clear hr hb
        go_wp2_with fail
        refine (CF.out _).mono ?_; rintro e f1 ⟨rfl, hf1⟩
        have HF1 := Lib.hid (chain HB3.out hf1)
        have HRF := Lib.hid (HR3.out.below hf1)
        clear hf1
        go_wp2_with fail
        refine (CI6.out _).mono ?_; rintro e p6 ⟨k6, n6, a6, m6, c6, rfl, hT6, hp6⟩
        go_wp2_with fail
        refine (cand_node _ _ _ _ _ _).mono ?_; rintro e q6 ⟨rfl, hq6⟩
        have hn6 := node_one 6 n (by omega) h2 hp6 hT6 hq6
        have hb6a := chain HF1.out hn6.1
        have hB6 := Below.size HF1.out
        go_wp2_with (at_builtin; refine wpList_push rfl _ _ rfl q6 w.heap.size v3 noRow AC3 [] 6 n _ 1 1 _ rfl rfl (TwoT.below HRF.out hn6.1) (hn6.2.mono (TwoT.off HRF.out hB6)) (by omega) hb6a.size ?_)
        intro v6 w6 hR6 hg6 hl6
        have HB6 := Lib.hid (below_grown hb6a hb6a.size hl6 hg6)
        obtain ⟨AC6, hAC6⟩ : ∃ x, AC3 ++ [.node 6 n [pl m]] = x := ⟨_, rfl⟩
        rw [hAC6] at hR6
        have hA6 : AC6.length ≤ 16 := by rw [← hAC6, List.length_append, List.length_singleton]; omega
        have HA6 := Lib.hid hAC6
        have HR6 := Lib.hid hR6
        clear hAC6 hR6 hg6 hl6 hb6a hn6 hq6 hT6 hp6 hB6
        go_wp2_with fail
        have CA1 := Lib.hid (CA.out (by omega))
        rw [hA] at CA1
        have CI7 : Hid (∀ W, Calls Try.prog 72 #[.int .i64 A] W (GivesD (pl A) W)) := fun W => cand_plain 10 A W hok
        clear hA hok
        refine (CA1.out _).mono ?_; rintro e s2 ⟨rfl, rfl⟩
        go_wp2_with fail
        refine (CI7.out _).mono ?_; rintro e p7 ⟨k7, n7, a7, m7, c7, rfl, hT7, hp7⟩
        go_wp2_with fail
        refine (cand_node _ _ _ _ _ _).mono ?_; rintro e q7 ⟨rfl, hq7⟩
        have hn7 := node_one 7 n (by omega) h2 hp7 hT7 hq7
        have hb7a := chain HB6.out hn7.1
        have hB7 := Below.size HB6.out
        go_wp2_with (at_builtin; refine wpList_push rfl _ _ rfl q7 w.heap.size v6 noRow AC6 [] 7 n _ 1 1 _ rfl rfl (TwoT.below HR6.out hn7.1) (hn7.2.mono (TwoT.off HR6.out hB7)) (by omega) hb7a.size ?_)
        intro v7 w7 hR7 hg7 hl7
        have HB7 := Lib.hid (below_grown hb7a hb7a.size hl7 hg7)
        obtain ⟨AC7, hAC7⟩ : ∃ x, AC6 ++ [.node 7 n [pl A]] = x := ⟨_, rfl⟩
        rw [hAC7] at hR7
        have hA7 : AC7.length ≤ 17 := by rw [← hAC7, List.length_append, List.length_singleton]; omega
        have HA7 := Lib.hid hAC7
        have HR7 := Lib.hid hR7
        clear hAC7 hR7 hg7 hl7 hb7a hn7 hq7 hT7 hp7 hB7
        go_wp2_with fail
        go_ret2
        exact ⟨_, rfl, by rw [HE.out]; first | (rw [HA7.out]; exact HR7.out) | (rw [HA6.out, HA7.out]; exact HR7.out), HB7.out⟩
      · have HE : Hid (listT n = AC3 ++ [.node 6 n [pl m]]) := by unfold Hid; rw [HLT.out, hr, hb, HA3.out, List.append_nil]
        clear hr hb
        have CB1 := Lib.hid (CB.out h8)
        go_wp2_with fail
        refine (CF.out _).mono ?_; rintro e f1 ⟨rfl, hf1⟩
        have HF1 := Lib.hid (chain HB3.out hf1)
        have HRF := Lib.hid (HR3.out.below hf1)
        clear hf1
        go_wp2_with fail
        refine (CI6.out _).mono ?_; rintro e p6 ⟨k6, n6, a6, m6, c6, rfl, hT6, hp6⟩
        go_wp2_with fail
        refine (cand_node _ _ _ _ _ _).mono ?_; rintro e q6 ⟨rfl, hq6⟩
        have hn6 := node_one 6 n (by omega) h2 hp6 hT6 hq6
        have hb6a := chain HF1.out hn6.1
        have hB6 := Below.size HF1.out
        go_wp2_with (at_builtin; refine wpList_push rfl _ _ rfl q6 w.heap.size v3 noRow AC3 [] 6 n _ 1 1 _ rfl rfl (TwoT.below HRF.out hn6.1) (hn6.2.mono (TwoT.off HRF.out hB6)) (by omega) hb6a.size ?_)
        intro v6 w6 hR6 hg6 hl6
        have HB6 := Lib.hid (below_grown hb6a hb6a.size hl6 hg6)
        obtain ⟨AC6, hAC6⟩ : ∃ x, AC3 ++ [.node 6 n [pl m]] = x := ⟨_, rfl⟩
        rw [hAC6] at hR6
        have hA6 : AC6.length ≤ 16 := by rw [← hAC6, List.length_append, List.length_singleton]; omega
        have HA6 := Lib.hid hAC6
        have HR6 := Lib.hid hR6
        clear hAC6 hR6 hg6 hl6 hb6a hn6 hq6 hT6 hp6 hB6
        go_wp2_with fail
        refine (CB1.out _).mono ?_; rintro e s2 ⟨rfl, rfl⟩
        go_wp2_with fail
        go_ret2
        exact ⟨_, rfl, by rw [HE.out, HA6.out]; exact HR6.out, HB6.out⟩
    | false =>
      have hr : raderT n = [] := by simpa using hr
      rcases hb with ⟨h8, A, hA, hok, hb⟩ | ⟨h8, hb⟩
      · have HE : Hid (listT n = AC3 ++ [.node 7 n [pl A]]) := by unfold Hid; rw [HLT.out, hr, hb, HA3.out, List.append_nil]
        clear hr hb
        go_wp2_with fail
        refine (CF.out _).mono ?_; rintro e f1 ⟨rfl, hf1⟩
        have HF1 := Lib.hid (chain HB3.out hf1)
        have HRF := Lib.hid (HR3.out.below hf1)
        clear hf1
        go_wp2_with fail
        have CA1 := Lib.hid (CA.out (by omega))
        rw [hA] at CA1
        have CI7 : Hid (∀ W, Calls Try.prog 72 #[.int .i64 A] W (GivesD (pl A) W)) := fun W => cand_plain 10 A W hok
        clear hA hok
        refine (CA1.out _).mono ?_; rintro e s2 ⟨rfl, rfl⟩
        go_wp2_with fail
        refine (CI7.out _).mono ?_; rintro e p7 ⟨k7, n7, a7, m7, c7, rfl, hT7, hp7⟩
        go_wp2_with fail
        refine (cand_node _ _ _ _ _ _).mono ?_; rintro e q7 ⟨rfl, hq7⟩
        have hn7 := node_one 7 n (by omega) h2 hp7 hT7 hq7
        have hb7a := chain HF1.out hn7.1
        have hB7 := Below.size HF1.out
        go_wp2_with (at_builtin; refine wpList_push rfl _ _ rfl q7 w.heap.size v3 noRow AC3 [] 7 n _ 1 1 _ rfl rfl (TwoT.below HRF.out hn7.1) (hn7.2.mono (TwoT.off HRF.out hB7)) (by omega) hb7a.size ?_)
        intro v7 w7 hR7 hg7 hl7
        have HB7 := Lib.hid (below_grown hb7a hb7a.size hl7 hg7)
        obtain ⟨AC7, hAC7⟩ : ∃ x, AC3 ++ [.node 7 n [pl A]] = x := ⟨_, rfl⟩
        rw [hAC7] at hR7
        have hA7 : AC7.length ≤ 17 := by rw [← hAC7, List.length_append, List.length_singleton]; omega
        have HA7 := Lib.hid hAC7
        have HR7 := Lib.hid hR7
        clear hAC7 hR7 hg7 hl7 hb7a hn7 hq7 hT7 hp7 hB7
        go_wp2_with fail
        go_ret2
        exact ⟨_, rfl, by rw [HE.out]; first | (rw [HA7.out]; exact HR7.out) | (rw [HA6.out, HA7.out]; exact HR7.out), HB7.out⟩
      · have HE : Hid (listT n = AC3) := by unfold Hid; rw [HLT.out, hr, hb, HA3.out, List.append_nil, List.append_nil]
        clear hr hb
        have CB1 := Lib.hid (CB.out h8)
        go_wp2_with fail
        refine (CF.out _).mono ?_; rintro e f1 ⟨rfl, hf1⟩
        have HF1 := Lib.hid (chain HB3.out hf1)
        have HRF := Lib.hid (HR3.out.below hf1)
        clear hf1
        go_wp2_with fail
        refine (CB1.out _).mono ?_; rintro e s2 ⟨rfl, rfl⟩
        go_wp2_with fail
        go_ret2
        exact ⟨_, rfl, by rw [HE.out]; exact HRF.out, HF1.out⟩
end Go.Proofs.Ytncikklhchimdaa
