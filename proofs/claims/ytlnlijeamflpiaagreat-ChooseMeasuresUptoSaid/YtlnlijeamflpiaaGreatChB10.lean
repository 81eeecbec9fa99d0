/- The contracts and plain laws that the statements ChooseFirst ChooseMeasures ChooseBest need, part 10 of 11: CandF CandC CandH ValG CandJ CandM ChoH ChoI. -/
import Derived.Test.YtlnlijeamflpiaaGreatChB9
namespace Go.Proofs.YtlnlijeamflpiaaGreat
open Go.RowKit
set_option linter.unusedVariables false
set_option linter.unusedSimpArgs false
set_option maxRecDepth 100000
set_option maxRecDepth 20000
theorem TwoT.off {w : World} {B : Nat} {v u : Value} {ts us : List Tr} (h : TwoT w B v u ts us) (hB : B ≤ w.heap.size) (b : Nat) (hb : w.heap.size ≤ b) : Off B v u b := by
  obtain ⟨xs, ys, h1, h2, _⟩ := h
  refine ⟨Nat.le_trans hB hb, fun e => ?_, fun e => ?_⟩
  · have := (h1.lt b e).2; omega
  · have := (h2.lt b e).2; omega
theorem node_two {w2 wa wb w4 : World} {ka na kb nb : Int} {aa ab : Option Addr} {ma ca mb cb : Nat} {T : TypeId} {t u : Tr} (K n : Nat) (hK : K ≤ 7) (hn : n ≤ 16777216) (hba : Below w2.heap.size w2 wa) (hTa : IsT wa (Since w2.heap.size) ka na aa ma ca t) (hbb : Below wa.heap.size wa wb) (hTb : IsT wb (Since wa.heap.size) kb nb ab mb cb u)
    (hb4 : Below (wb.alloc (.cells #[.int .i64 ka, .int .i64 na, .slice aa ma ca, .int .i64 kb, .int .i64 nb, .slice ab mb cb] T)).heap.size (wb.alloc (.cells #[.int .i64 ka, .int .i64 na, .slice aa ma ca, .int .i64 kb, .int .i64 nb, .slice ab mb cb] T)) w4) :
    Below w2.heap.size w2 w4 ∧ IsT w4 (Since w2.heap.size) K n (some ⟨wb.heap.size, 0, none⟩) 2 2 (.node K n [t, u]) := by
  obtain ⟨hb, k4, hbs, hA, hB⟩ := two_fin hba hbb hb4
  have hTA := hA _ _ _ _ _ _ hTa
  have hTB := hB _ _ _ _ _ _ hTb
  exact ⟨hb, isT_node (k := K) (n := n) (by rw [fits_i64]; omega) (by rw [fits_i64]; omega) (ok_two hTA.ok hTB.ok) (kids_twoT hbs k4 hTA hTB)⟩
theorem node_one {w2 wa w4 : World} {ka na : Int} {aa : Option Addr} {ma ca : Nat} {T : TypeId} {t : Tr} (K n : Nat) (hK : K ≤ 7) (hn : n ≤ 16777216) (hba : Below w2.heap.size w2 wa) (hTa : IsT wa (Since w2.heap.size) ka na aa ma ca t)
    (hb4 : Below (wa.alloc (.cells #[.int .i64 ka, .int .i64 na, .slice aa ma ca] T)).heap.size (wa.alloc (.cells #[.int .i64 ka, .int .i64 na, .slice aa ma ca] T)) w4) :
    Below w2.heap.size w2 w4 ∧ IsT w4 (Since w2.heap.size) K n (some ⟨wa.heap.size, 0, none⟩) 1 1 (.node K n [t]) := by
  have hal : Below wa.heap.size wa (wa.alloc (.cells #[.int .i64 ka, .int .i64 na, .slice aa ma ca] T)) := (Below.refl _ _).alloc (Nat.le_refl _) _
  have hx : (wa.alloc (.cells #[.int .i64 ka, .int .i64 na, .slice aa ma ca] T)).heap[wa.heap.size]? = some (.cells #[.int .i64 ka, .int .i64 na, .slice aa ma ca] T (0, 0)) := block_new rfl
  have h3 := chain hal hb4
  have hTA := hTa.below h3
  exact ⟨chain hba h3, isT_node (k := K) (n := n) (by rw [fits_i64]; omega) (by rw [fits_i64]; omega) (by intro x hx; rw [List.mem_singleton.1 hx]; exact hTA.ok) (kids_one hba.size ((hb4.block _ (block_lt hx)).trans hx) hTA)⟩
theorem splitT_len (n : Nat) (p : Nat × Nat) : (splitT n p).length ≤ 1 := by unfold splitT; split <;> simp
theorem goodT_len (n : Nat) (p : Nat × Nat) : (goodT n p).length ≤ 1 := by unfold goodT; split <;> simp
theorem splitsT_len (n : Nat) (ps : List (Nat × Nat)) : (splitsT n ps).length ≤ ps.length := by
  induction ps with
  | nil => simp [splitsT]
  | cons p ps ih => have := splitT_len n p; simp only [splitsT, List.flatMap_cons, List.length_append, List.length_cons] at *; omega
theorem goodsT_len (n : Nat) (ps : List (Nat × Nat)) : (goodsT n ps).length ≤ ps.length := by
  induction ps with
  | nil => simp [goodsT]
  | cons p ps ih => have := goodT_len n p; simp only [goodsT, List.flatMap_cons, List.length_append, List.length_cons] at *; omega
theorem take_snoc {α : Type} (ps : List α) (j : Nat) (d : α) (h : j < ps.length) : ps.take (j + 1) = ps.take j ++ [ps.getD j d] := by
  rw [List.take_succ_eq_append_getElem h]
  simp [h]
theorem splitsT_step (n : Nat) (ps : List (Nat × Nat)) (j : Nat) (h : j < ps.length) : splitsT n (ps.take (j + 1)) = splitsT n (ps.take j) ++ splitT n (ps.getD j (0, 0)) := by
  rw [take_snoc ps j (0, 0) h]; simp [splitsT]
theorem goodsT_step (n : Nat) (ps : List (Nat × Nat)) (j : Nat) (h : j < ps.length) : goodsT n (ps.take (j + 1)) = goodsT n (ps.take j) ++ goodT n (ps.getD j (0, 0)) := by
  rw [take_snoc ps j (0, 0) h]; simp [goodsT]
/-- What is known of a prime of a size. -/
theorem prime_sz {n : Nat} (h : hasSz n = true) (j : Nat) (hj : j < (facS n).length) (p e : Nat) (hp : (facS n).getD j (0, 0) = (p, e)) : 1 ≤ p ∧ p ≤ n ∧ e ≤ 24 ∧ 1 ≤ p ^ e ∧ p ^ e ≤ n ∧ okF 10 p = true ∧ okF 10 (n / p) = true ∧ okF 10 (p ^ e) = true ∧ okF 10 (n / p ^ e) = true := by
  have hk := kids_sz h
  unfold kidsB at hk
  simp only [Bool.and_eq_true] at hk
  have := List.all_eq_true.1 hk.1.1.1.2 (p, e) (by
    have e : (facS n).getD j (0, 0) = (facS n)[j] := by simp [hj]
    rw [← hp, e]; exact List.getElem_mem hj)
  simp only [Bool.and_eq_true, decide_eq_true_eq] at this
  exact ⟨this.1.1.1.1.1.1.1.1.1, this.1.1.1.1.1.1.1.1.2, this.1.1.1.1.1.1.1.2, this.1.1.1.1.1.1.2, this.1.1.1.1.1.2, this.1.1.1.1.2, this.1.1.1.2, this.1.1.2, this.1.2⟩
set_option maxHeartbeats 4000000 in
theorem cand_leaves (n : Nat) (w : World) (h1 : 1 ≤ n) (h2 : n ≤ 16777216) : Calls Tryz.prog 95 #[.int .i64 n] w (GivesTs (leavesT n) w) := by
  obtain ⟨B, hB⟩ : ∃ B, hasP2 (n : Int) = B := ⟨_, rfl⟩
  have CP : Hid (∀ W, Calls Tryz.prog 121 #[.int .i64 n] W fun e w' => e = .returned (.bool B) ∧ W = w') := fun W => by rw [← hB]; exact stock_Has n W (by omega)
  have CS : Hid (∀ W, Calls Tryz.prog 120 #[.int .i64 n] W fun e w' => e = .returned (.bool (decide (n ≤ 5))) ∧ W = w') := fun W => by
    have := small_Has n W
    rwa [show decide (1 ≤ (n : Int) ∧ (n : Int) ≤ 5) = decide (n ≤ 5) by rw [decide_eq_decide]; omega] at this
  rcases (show n = 1 ∨ (2 ≤ n ∧ n ≤ 5) ∨ (6 ≤ n ∧ n ≤ 64) ∨ 65 ≤ n by omega) with h3 | ⟨h3, h4⟩ | ⟨h3, h4⟩ | h3
  · subst h3
    have HE : Hid (leavesT 1 = [.node 1 (1 : Nat) []]) := by unfold Hid leavesT; simp
    clear hB
    go_enter Tryz.func95, Tryz.ntmps95
    go_wp2_with fail
    refine (cand_node _ _ _ _ _ _).mono ?_; rintro e n1 ⟨rfl, hn1⟩
    have hb1a := hn1
    have hR1a := TwoT.none n1 w.heap.size
    clear hn1
    go_wp2_with (at_builtin; refine wpList_push rfl _ _ rfl n1 w.heap.size noRow noRow [] [] 1 1 none 0 0 (.node 1 1 []) rfl rfl hR1a (isT_none _ _ (by rw [fits_i64]; omega) (by rw [fits_i64]; omega)) (by simp) hb1a.size ?_)
    intro v1 w1 hR1 hg1 hl1
    have hb1 := below_grown hb1a hb1a.size hl1 hg1
    clear hb1a hR1a hg1 hl1
    go_wp2_with fail
    go_ret
    exact ⟨_, rfl, by rw [HE.out]; exact hR1, hb1⟩
  · cases B
    · have HE : Hid (leavesT n = [.node 1 (n : Nat) [], .node 2 (n : Nat) []]) := by unfold Hid leavesT; rw [hB, if_pos (show n ≤ 64 by omega), if_pos (show 2 ≤ n ∧ n ≤ 5 by omega), if_neg (show ¬ (2 ≤ n ∧ false = true) by simp)]; rfl
      clear hB
      have s5 : decide (n ≤ 5) = true := by simp; omega
      go_enter Tryz.func95, Tryz.ntmps95
      go_wp2_with fail
      refine (cand_node _ _ _ _ _ _).mono ?_; rintro e n1 ⟨rfl, hn1⟩
      have hb1a := hn1
      have hR1a := TwoT.none n1 w.heap.size
      clear hn1
      go_wp2_with (at_builtin; refine wpList_push rfl _ _ rfl n1 w.heap.size noRow noRow [] [] 1 n none 0 0 (.node 1 n []) rfl rfl hR1a (isT_none _ _ (by rw [fits_i64]; omega) (by rw [fits_i64]; omega)) (by simp) hb1a.size ?_)
      intro v1 w1 hR1 hg1 hl1
      have hb1 := below_grown hb1a hb1a.size hl1 hg1
      clear hb1a hR1a hg1 hl1
      go_wp2_with fail
      refine (CS.out _).mono ?_; rintro e s1 ⟨rfl, rfl⟩
      rw [s5]
      go_wp2_with fail
      refine (cand_node _ _ _ _ _ _).mono ?_; rintro e n2 ⟨rfl, hn2⟩
      have hb2a := chain hb1 hn2
      have hR2a := hR1.below hn2
      clear hn2
      go_wp2_with (at_builtin; refine wpList_push rfl _ _ rfl n2 w.heap.size v1 noRow [.node 1 n []] [] 2 n none 0 0 (.node 2 n []) rfl rfl hR2a (isT_none _ _ (by rw [fits_i64]; omega) (by rw [fits_i64]; omega)) (by simp) hb2a.size ?_)
      intro v2 w2 hR2 hg2 hl2
      have hb2 := below_grown hb2a hb2a.size hl2 hg2
      clear hb2a hR2a hg2 hl2
      go_wp2_with fail
      refine (CP.out _).mono ?_; rintro e s2 ⟨rfl, rfl⟩
      go_wp2_with fail
      go_ret
      exact ⟨_, rfl, by rw [HE.out]; exact hR2, hb2⟩
    · have HE : Hid (leavesT n = [.node 1 (n : Nat) [], .node 2 (n : Nat) [], .node 3 (n : Nat) []]) := by unfold Hid leavesT; rw [hB, if_pos (show n ≤ 64 by omega), if_pos (show 2 ≤ n ∧ n ≤ 5 by omega), if_pos (show 2 ≤ n ∧ true = true from ⟨by omega, rfl⟩)]; rfl
      clear hB
      have s5 : decide (n ≤ 5) = true := by simp; omega
      go_enter Tryz.func95, Tryz.ntmps95
      go_wp2_with fail
      refine (cand_node _ _ _ _ _ _).mono ?_; rintro e n1 ⟨rfl, hn1⟩
      have hb1a := hn1
      have hR1a := TwoT.none n1 w.heap.size
      clear hn1
      go_wp2_with (at_builtin; refine wpList_push rfl _ _ rfl n1 w.heap.size noRow noRow [] [] 1 n none 0 0 (.node 1 n []) rfl rfl hR1a (isT_none _ _ (by rw [fits_i64]; omega) (by rw [fits_i64]; omega)) (by simp) hb1a.size ?_)
      intro v1 w1 hR1 hg1 hl1
      have hb1 := below_grown hb1a hb1a.size hl1 hg1
      clear hb1a hR1a hg1 hl1
      go_wp2_with fail
      refine (CS.out _).mono ?_; rintro e s1 ⟨rfl, rfl⟩
      rw [s5]
      go_wp2_with fail
      refine (cand_node _ _ _ _ _ _).mono ?_; rintro e n2 ⟨rfl, hn2⟩
      have hb2a := chain hb1 hn2
      have hR2a := hR1.below hn2
      clear hn2
      go_wp2_with (at_builtin; refine wpList_push rfl _ _ rfl n2 w.heap.size v1 noRow [.node 1 n []] [] 2 n none 0 0 (.node 2 n []) rfl rfl hR2a (isT_none _ _ (by rw [fits_i64]; omega) (by rw [fits_i64]; omega)) (by simp) hb2a.size ?_)
      intro v2 w2 hR2 hg2 hl2
      have hb2 := below_grown hb2a hb2a.size hl2 hg2
      clear hb2a hR2a hg2 hl2
      go_wp2_with fail
      refine (CP.out _).mono ?_; rintro e s2 ⟨rfl, rfl⟩
      go_wp2_with fail
      refine (cand_node _ _ _ _ _ _).mono ?_; rintro e n3 ⟨rfl, hn3⟩
      have hb3a := chain hb2 hn3
      have hR3a := hR2.below hn3
      clear hn3
      go_wp2_with (at_builtin; refine wpList_push rfl _ _ rfl n3 w.heap.size v2 noRow [.node 1 n [], .node 2 n []] [] 3 n none 0 0 (.node 3 n []) rfl rfl hR3a (isT_none _ _ (by rw [fits_i64]; omega) (by rw [fits_i64]; omega)) (by simp) hb3a.size ?_)
      intro v3 w3 hR3 hg3 hl3
      have hb3 := below_grown hb3a hb3a.size hl3 hg3
      clear hb3a hR3a hg3 hl3
      go_wp2_with fail
      go_ret
      exact ⟨_, rfl, by rw [HE.out]; exact hR3, hb3⟩
  · cases B
    · have HE : Hid (leavesT n = [.node 1 (n : Nat) []]) := by unfold Hid leavesT; rw [hB, if_pos (show n ≤ 64 by omega), if_neg (show ¬ (2 ≤ n ∧ n ≤ 5) by omega), if_neg (show ¬ (2 ≤ n ∧ false = true) by simp)]; rfl
      clear hB
      have s5 : decide (n ≤ 5) = false := by simp; omega
      go_enter Tryz.func95, Tryz.ntmps95
      go_wp2_with fail
      refine (cand_node _ _ _ _ _ _).mono ?_; rintro e n1 ⟨rfl, hn1⟩
      have hb1a := hn1
      have hR1a := TwoT.none n1 w.heap.size
      clear hn1
      go_wp2_with (at_builtin; refine wpList_push rfl _ _ rfl n1 w.heap.size noRow noRow [] [] 1 n none 0 0 (.node 1 n []) rfl rfl hR1a (isT_none _ _ (by rw [fits_i64]; omega) (by rw [fits_i64]; omega)) (by simp) hb1a.size ?_)
      intro v1 w1 hR1 hg1 hl1
      have hb1 := below_grown hb1a hb1a.size hl1 hg1
      clear hb1a hR1a hg1 hl1
      go_wp2_with fail
      refine (CS.out _).mono ?_; rintro e s1 ⟨rfl, rfl⟩
      rw [s5]
      go_wp2_with fail
      refine (CP.out _).mono ?_; rintro e s2 ⟨rfl, rfl⟩
      go_wp2_with fail
      go_ret
      exact ⟨_, rfl, by rw [HE.out]; exact hR1, hb1⟩
    · have HE : Hid (leavesT n = [.node 1 (n : Nat) [], .node 3 (n : Nat) []]) := by unfold Hid leavesT; rw [hB, if_pos (show n ≤ 64 by omega), if_neg (show ¬ (2 ≤ n ∧ n ≤ 5) by omega), if_pos (show 2 ≤ n ∧ true = true from ⟨by omega, rfl⟩)]; rfl
      clear hB
      have s5 : decide (n ≤ 5) = false := by simp; omega
      go_enter Tryz.func95, Tryz.ntmps95
      go_wp2_with fail
      refine (cand_node _ _ _ _ _ _).mono ?_; rintro e n1 ⟨rfl, hn1⟩
      have hb1a := hn1
      have hR1a := TwoT.none n1 w.heap.size
      clear hn1
      go_wp2_with (at_builtin; refine wpList_push rfl _ _ rfl n1 w.heap.size noRow noRow [] [] 1 n none 0 0 (.node 1 n []) rfl rfl hR1a (isT_none _ _ (by rw [fits_i64]; omega) (by rw [fits_i64]; omega)) (by simp) hb1a.size ?_)
      intro v1 w1 hR1 hg1 hl1
      have hb1 := below_grown hb1a hb1a.size hl1 hg1
      clear hb1a hR1a hg1 hl1
      go_wp2_with fail
      refine (CS.out _).mono ?_; rintro e s1 ⟨rfl, rfl⟩
      rw [s5]
      go_wp2_with fail
      refine (CP.out _).mono ?_; rintro e s2 ⟨rfl, rfl⟩
      go_wp2_with fail
      refine (cand_node _ _ _ _ _ _).mono ?_; rintro e n2 ⟨rfl, hn2⟩
      have hb2a := chain hb1 hn2
      have hR2a := hR1.below hn2
      clear hn2
      go_wp2_with (at_builtin; refine wpList_push rfl _ _ rfl n2 w.heap.size v1 noRow [.node 1 n []] [] 3 n none 0 0 (.node 3 n []) rfl rfl hR2a (isT_none _ _ (by rw [fits_i64]; omega) (by rw [fits_i64]; omega)) (by simp) hb2a.size ?_)
      intro v2 w2 hR2 hg2 hl2
      have hb2 := below_grown hb2a hb2a.size hl2 hg2
      clear hb2a hR2a hg2 hl2
      go_wp2_with fail
      go_ret
      exact ⟨_, rfl, by rw [HE.out]; exact hR2, hb2⟩
  · cases B
    · have HE : Hid (leavesT n = []) := by unfold Hid leavesT; rw [hB, if_neg (show ¬ n ≤ 64 by omega), if_neg (show ¬ (2 ≤ n ∧ n ≤ 5) by omega), if_neg (show ¬ (2 ≤ n ∧ false = true) by simp)]; rfl
      clear hB
      have s5 : decide (n ≤ 5) = false := by simp; omega
      go_enter Tryz.func95, Tryz.ntmps95
      go_wp2_with fail
      refine (CS.out _).mono ?_; rintro e s1 ⟨rfl, rfl⟩
      rw [s5]
      go_wp2_with fail
      refine (CP.out _).mono ?_; rintro e s2 ⟨rfl, rfl⟩
      go_wp2_with fail
      go_ret
      exact ⟨noRow, rfl, by rw [HE.out]; exact TwoT.none _ _, Below.refl _ _⟩
    · have HE : Hid (leavesT n = [.node 3 (n : Nat) []]) := by unfold Hid leavesT; rw [hB, if_neg (show ¬ n ≤ 64 by omega), if_neg (show ¬ (2 ≤ n ∧ n ≤ 5) by omega), if_pos (show 2 ≤ n ∧ true = true from ⟨by omega, rfl⟩)]; rfl
      clear hB
      have s5 : decide (n ≤ 5) = false := by simp; omega
      go_enter Tryz.func95, Tryz.ntmps95
      go_wp2_with fail
      refine (CS.out _).mono ?_; rintro e s1 ⟨rfl, rfl⟩
      rw [s5]
      go_wp2_with fail
      refine (CP.out _).mono ?_; rintro e s2 ⟨rfl, rfl⟩
      go_wp2_with fail
      refine (cand_node _ _ _ _ _ _).mono ?_; rintro e n1 ⟨rfl, hn1⟩
      have hb1a := hn1
      have hR1a := TwoT.none n1 w.heap.size
      clear hn1
      go_wp2_with (at_builtin; refine wpList_push rfl _ _ rfl n1 w.heap.size noRow noRow [] [] 3 n none 0 0 (.node 3 n []) rfl rfl hR1a (isT_none _ _ (by rw [fits_i64]; omega) (by rw [fits_i64]; omega)) (by simp) hb1a.size ?_)
      intro v1 w1 hR1 hg1 hl1
      have hb1 := below_grown hb1a hb1a.size hl1 hg1
      clear hb1a hR1a hg1 hl1
      go_wp2_with fail
      go_ret
      exact ⟨_, rfl, by rw [HE.out]; exact hR1, hb1⟩
theorem wrap_small {d : Nat} (h : d ≤ 16777216) : IntKind.i64.wrap (d : Int) = d ∧ wrap64 (d : Int) = d := by
  have e : IntKind.i64.wrap (d : Int) = d := IntWalk.i64_in _ (by omega)
  exact ⟨e, by rw [← IntWalk.i64_left]; exact e⟩
theorem own_type2 {w : World} {B : Nat} {e T : TypeId} {s : Nat} {v : Value} {n b : Nat} {xs : List Value} {cs : Array Value} (h : w.ownsRow B e s v n xs) (hb : w.heap[b]? = some (.cells cs T (0, 0))) (hne : e ≠ T) : v.ownBlock ≠ some b := by
  rcases h.2 with ⟨rfl, _⟩ | ⟨g, cap, cur, rfl, _, hg, _⟩
  · intro e1; cases e1
  · intro e1
    simp only [Value.ownBlock, Option.some.injEq] at e1
    subst e1
    rw [hg] at hb
    simp only [Option.some.injEq, Obj.cells.injEq] at hb
    exact hne hb.2.1
/-- Rows of other types stay where an append to a row of trees goes. -/
theorem other_stays {wn w' : World} {o : Obj} {B B2 : Nat} {v u w2 : Value} {ts us : List Tr} {e : TypeId} {s n : Nat} {xs : List Value} (hR : TwoT wn B v u ts us) (hP : wn.ownsRow B2 e s w2 n xs) (hg : (wn.alloc o).grownBy w' v.ownBlock) (hne : 48 ≠ e) : w'.ownsRow B2 e s w2 n xs := by
  obtain ⟨_, _, h1, _⟩ := hR
  refine (hP.alloc o).kept hg ?_
  cases hw : w2.ownBlock with
  | none => exact .inl rfl
  | some g =>
    refine .inr fun e2 => ?_
    rcases hP.2 with ⟨rfl, _⟩ | ⟨g', cap, cur, rfl, _, hgg, _⟩
    · cases hw
    · simp only [Value.ownBlock, Option.some.injEq] at hw
      subst hw
      exact own_type2 h1 hgg hne e2.symm
set_option maxHeartbeats 8000000 in
theorem cand_products (n : Nat) (w : World) (hsz : hasSz n = true) : Calls Tryz.prog 96 #[.int .i64 n] w (GivesTs (splitsT n (facS n) ++ goodsT n (facS n)) w) := by
  obtain ⟨i1, i2, _⟩ := hasSz_iff.1 hsz
  have h1 : 1 ≤ n := by omega
  have h2 : n ≤ 16777216 := by omega
  clear i1 i2
  have CR : Hid (∀ W, Calls Tryz.prog 122 #[.int .i64 n] W fun e w' => ∃ v, e = .returned v ∧ w'.ownsRow W.heap.size 126 2 v (facS n).length (cellsP (facS n)) ∧ Below W.heap.size W w') := fun W => by
    have := cand_primes n W h1 h2
    rwa [fac_sz hsz] at this
  have HPZ := Lib.hid (prime_sz hsz)
  have hM6 := fac_few hsz
  have HAT := Lib.hid (cellsP_at (facS n))
  obtain ⟨ps, hps⟩ : ∃ ps, facS n = ps := ⟨_, rfl⟩
  rw [hps] at CR HPZ hM6 HAT ⊢
  obtain ⟨M, hM⟩ : ∃ M, ps.length = M := ⟨_, rfl⟩
  rw [hM] at CR HPZ hM6 HAT
  have HM := Lib.hid hM
  clear hps hM hsz
  go_enter Tryz.func96, Tryz.ntmps96
  go_wp2_with fail
  refine (CR.out _).mono ?_; rintro e w0 ⟨v, rfl, hown, hb0⟩
  obtain ⟨a, cap, rfl, hcap, hg⟩ := own_slice2 hown
  have HO0 := Lib.hid hown
  have HB0 := Lib.hid hb0
  clear hown hb0
  go_wp2_with fail
  go_loopw [3, 4, 11] (fun vs vg i wr => ∃ j : Nat, j ≤ M ∧ i = .int .i64 j ∧ Hid (TwoT wr w.heap.size vs vg (splitsT n (ps.take j)) (goodsT n (ps.take j))) ∧ Hid (wr.ownsRow w.heap.size 126 2 (.slice a M cap) M (cellsP ps)) ∧ Hid (Below w.heap.size w wr)) (fun _ _ i _ => M - (intOf i).toNat)
  case atStart => exact ⟨0, Nat.zero_le _, rfl, TwoT.none w0 w.heap.size, HO0.out, HB0.out⟩
  case round =>
    obtain ⟨j, hj, rfl, HR, HO, HB⟩ := hrel
    by_cases hjm : j < M
    · obtain ⟨g, rfl⟩ := hg (by omega)
      obtain ⟨⟨p, e⟩, hpe⟩ : ∃ pe : Nat × Nat, ps.getD j (0, 0) = pe := ⟨_, rfl⟩
      obtain ⟨hp1, hpn, he24, hq1, hqn, ok1, ok2, ok3, ok4⟩ := HPZ.out j hjm p e hpe
      have hat := HAT.out j hjm
      rw [hpe] at hat
      have c0 : wr.cell? ⟨g, j * 2, none⟩ = some (.int .i64 (p : Int)) := (HO.out.cellAt (j * 2) (by omega)).trans hat.1
      have c1 : wr.cell? ⟨g, j * 2 + 1, none⟩ = some (.int .i64 (e : Int)) := (HO.out.cellAt (j * 2 + 1) (by omega)).trans hat.2
      have hS := splitsT_step n ps j (by rw [HM.out]; exact hjm)
      have hG := goodsT_step n ps j (by rw [HM.out]; exact hjm)
      rw [hpe] at hS hG
      have hSl := splitsT_len n (ps.take j)
      have hGl := goodsT_len n (ps.take j)
      rw [List.length_take] at hSl hGl
      obtain ⟨W5, hW5, hb5, x5⟩ := box_fresh wr #[.int .i64 p, .int .i64 e] 126
      have d0 : W5.cell? ⟨wr.heap.size, 0, none⟩ = some (.int .i64 (p : Int)) := block_cell x5 0
      have d1 : W5.cell? ⟨wr.heap.size, 1, none⟩ = some (.int .i64 (e : Int)) := block_cell x5 1
      have HS := Lib.hid hS
      have HG := Lib.hid hG
      have HB5 := Lib.hid (chain HB.out hb5)
      have HR5 := Lib.hid (HR.out.below hb5)
      have HO5 := Lib.hid (own_later3 HO.out hb5)
      clear hat hS hG
      have C1 : Hid (∀ W, Calls Tryz.prog 99 #[.int .i64 p] W (GivesD (pl p) W)) := fun W => cand_plain 10 p W ok1
      obtain ⟨d, hd⟩ : ∃ d, n / p = d := ⟨_, rfl⟩
      have C2 : Hid (∀ W, Calls Tryz.prog 99 #[.int .i64 d] W (GivesD (pl d) W)) := fun W => cand_plain 10 d W (by rw [← hd]; exact ok2)
      obtain ⟨Q, hQ⟩ : ∃ Q, p ^ e = Q := ⟨_, rfl⟩
      rw [hQ] at hq1 hqn ok3 ok4
      have C3 : Hid (∀ W, Calls Tryz.prog 99 #[.int .i64 Q] W (GivesD (pl Q) W)) := fun W => cand_plain 10 Q W ok3
      obtain ⟨D, hD⟩ : ∃ D, n / Q = D := ⟨_, rfl⟩
      have C4 : Hid (∀ W, Calls Tryz.prog 99 #[.int .i64 D] W (GivesD (pl D) W)) := fun W => cand_plain 10 D W (by rw [← hD]; exact ok4)
      have HQ := Lib.hid hQ
      have HD := Lib.hid hD
      have Hd := Lib.hid hd
      have HSp : Hid (p ≠ n → splitT n (p, e) = [.node 4 n [pl p, pl d]]) := fun h => by unfold splitT; rw [if_neg h, hd]
      have HSn : Hid (p = n → splitT n (p, e) = []) := fun h => by unfold splitT; rw [if_pos h]
      have HGp : Hid (Q ≠ n → goodT n (p, e) = [.node 5 n [pl Q, pl D]]) := fun h => by unfold goodT; rw [hQ, if_neg h, hD]
      have HGn : Hid (Q = n → goodT n (p, e) = []) := fun h => by unfold goodT; rw [hQ, if_pos h]
      have e1 : (n : Int).tdiv (p : Int) = (d : Int) := by rw [Int.tdiv_eq_ediv_of_nonneg (by omega), ← Int.natCast_ediv, hd]
      have e2 : (n : Int) / (p : Int) = (d : Int) := by rw [← Int.natCast_ediv, hd]
      have z1 : ((p : Int) == 0) = false := bno (by omega)
      have z2 : ¬ (p : Int) = 0 := by omega
      have z3 : ¬ p = 0 := by omega
      have hd9 : d ≤ 16777216 := by have := Nat.div_le_self n p; omega
      obtain ⟨e5, e4⟩ := wrap_small hd9
      have e3 : IntKind.i64.wrap ((n : Int).tdiv (p : Int)) = (d : Int) := by rw [e1]; exact e5
      have f1 : (n : Int).tdiv (Q : Int) = (D : Int) := by rw [Int.tdiv_eq_ediv_of_nonneg (by omega), ← Int.natCast_ediv, hD]
      have f2 : (n : Int) / (Q : Int) = (D : Int) := by rw [← Int.natCast_ediv, hD]
      have y1 : ((Q : Int) == 0) = false := bno (by omega)
      have y2 : ¬ (Q : Int) = 0 := by omega
      have y3 : ¬ Q = 0 := by omega
      have hD9 : D ≤ 16777216 := by have := Nat.div_le_self n Q; omega
      obtain ⟨f5, f4⟩ := wrap_small hD9
      have f3 : IntKind.i64.wrap ((n : Int).tdiv (Q : Int)) = (D : Int) := by rw [f1]; exact f5
      clear hd hD hQ ok1 ok2 ok3 ok4 hpe
      obtain ⟨wo, rfl⟩ : ∃ wo : World, wo = wr := ⟨_, rfl⟩
      have hBo := HB.out.size
      have HOFF := Lib.hid (HR.out.off hBo wo.heap.size (Nat.le_refl _))
      have hs5 : wo.heap.size < W5.heap.size := block_lt x5
      clear x5 hb5
      go_wp2_with fail
      clear hW5 c0 c1
      go_loopw [7, 17] (fun q i wi => ∃ k R : Nat, k ≤ e ∧ i = .int .i64 k ∧ q = .int .i64 R ∧ Hid (R = p ^ k) ∧ wi = W5) (fun _ i _ => e - (intOf i).toNat)
      case atStart => exact ⟨0, 1, Nat.zero_le _, rfl, rfl, by unfold Hid; rw [Nat.pow_zero], rfl⟩
      case round =>
        obtain ⟨k, R, hk, rfl, rfl, HRk, hwi⟩ := hrel
        obtain rfl : W5 = wr := hwi.symm
        by_cases hke : k < e
        · obtain ⟨R2, hR2⟩ : ∃ R2, R * p = R2 := ⟨_, rfl⟩
          have hR2p : R2 = p ^ (k + 1) := by rw [← hR2, HRk.out, Nat.pow_succ]
          have hR2n : R2 ≤ n := by rw [hR2p]; exact Nat.le_trans (Nat.pow_le_pow_right hp1 (show k + 1 ≤ e by omega)) (by rw [HQ.out]; exact hqn)
          have g1 : (R : Int) * (p : Int) = (R2 : Int) := by rw [← hR2]; simp
          have HR2p := Lib.hid hR2p
          clear hR2 hR2p
          go_wp2_with fail
          go_roundw
          case rel => exact ⟨k + 1, R2, by omega, by go_num, by first | rfl | go_num, HR2p.out, by first | rfl | trivial⟩
          case measure => simp [intOf]; omega
        · obtain rfl : R = Q := by rw [HRk.out, ← HQ.out, show k = e by omega]
          obtain rfl : k = e := by omega
          clear HRk hke
          by_cases hpn0 : p = n
          · have t1 : ((p : Int) != (n : Int)) = false := bfalse' (by omega)
            have HS6 := Lib.hid (HS.out.trans (congrArg (splitsT n (ps.take j) ++ ·) (HSn.out hpn0)))
            have hR5' := HR5.out
            rw [← List.append_nil (splitsT n (ps.take j))] at hR5'
            have HR5' := Lib.hid hR5'
            have hB5 : w.heap.size ≤ W5.heap.size := HB5.out.size
            clear hR5'
            by_cases hqn0 : R = n
            · have t2 : ((R : Int) != (n : Int)) = false := bfalse' (by omega)
              have HG7 := Lib.hid (HG.out.trans (congrArg (goodsT n (ps.take j) ++ ·) (HGn.out hqn0)))
              go_wp2_with fail
              go_roundw
              case rel => exact ⟨j + 1, by omega, by go_num, by unfold Hid; rw [HS6.out, HG7.out]; simpa using HR5'.out, HO5.out, HB5.out⟩
              case measure => simp [intOf]; omega
            · have t2 : ((R : Int) != (n : Int)) = true := bdiff (by omega)
              have t3 : ((R : Int) == (n : Int)) = false := bno (by omega)
              go_wp2_with fail
              go_region_held3 (fun w' => True) (trivial) (first
                | (go_at_call 99; first
                  | ((with_reducible refine (C3.out _).mono ?_); rintro e9 wa ⟨ka, na, aa, ma, ca, rfl, hTa, hba⟩; have hba := undrew hba)
                  | ((with_reducible refine (C4.out _).mono ?_); rintro e9 wb ⟨kb, nb, ab, mb, cb, rfl, hTb, hbb⟩))
                | (go_at_call 98; (with_reducible refine (cand_node _ _ _ _ _ _).mono ?_); rintro e9 w4 ⟨rfl, hb4⟩; have hn4 := node_two 5 n (by omega) h2 hba hTa hbb hTb hb4)
                | (refine step_push (by rfl) _ _ (by rfl) w4 w.heap.size u4 u3 _ _ 5 n _ 2 2 _ (by rfl) (by rfl) (HR5'.out.swap.below hn4.1) (hn4.2.mono (HR5'.out.swap.off hB5)) (by omega) (Nat.le_trans hB5 hn4.1.size) ?_; intro v7 w7 hR7 hg7 hl7))
              have HO7 := Lib.hid (other_stays (HR5'.out.swap.below hn4.1) (own_later3 HO5.out hn4.1) hg7 (by decide))
              have HB7 := Lib.hid (below_grown (chain HB5.out hn4.1) (chain HB5.out hn4.1).size hl7 hg7)
              have HR7 := Lib.hid hR7.swap
              have HG7 := Lib.hid (HG.out.trans (congrArg (goodsT n (ps.take j) ++ ·) (HGp.out hqn0)))
              clear hR7 hg7 hl7 hn4 hb4 hTa hTb hba hbb
              go_wp2_with fail
              go_roundw
              case rel => exact ⟨j + 1, by omega, by go_num, by unfold Hid; rw [HS6.out, HG7.out]; exact HR7.out, HO7.out, HB7.out⟩
              case measure => simp [intOf]; omega
          · have t1 : ((p : Int) != (n : Int)) = true := bdiff (by omega)
            have t0 : ((p : Int) == (n : Int)) = false := bno (by omega)
            go_wp2_with fail
            have hc := d0
            have hB5 : w.heap.size ≤ W5.heap.size := HB5.out.size
            have e0 : W5.heap.size = W5.heap.size := rfl
            go_region_held3 (fun w' => w'.cell? ⟨wo.heap.size, 0, none⟩ = some (.int .i64 p)) (first | exact hc | exact (World.cell?_alloc_lt _ _ _ (World.block_lt_of_cell? _ _ hc)).trans hc) (first
              | (go_at_call 99; first
                | ((with_reducible refine (C1.out _).mono ?_); rintro e9 wa ⟨ka, na, aa, ma, ca, rfl, hTa, hba⟩; have hba := undrew hba; have hc := (hba.cell (p := ⟨wo.heap.size, 0, none⟩) (World.block_lt_of_cell? _ _ hc)).trans hc)
                | ((with_reducible refine (C2.out _).mono ?_); rintro e9 wb ⟨kb, nb, ab, mb, cb, rfl, hTb, hbb⟩; have hc := (hbb.cell (p := ⟨wo.heap.size, 0, none⟩) (World.block_lt_of_cell? _ _ hc)).trans hc))
              | (go_at_call 98; (with_reducible refine (cand_node _ _ _ _ _ _).mono ?_); rintro e9 w4 ⟨rfl, hb4⟩; have hn4 := node_two 4 n (by omega) h2 hba hTa hbb hTb hb4; have hc := (hn4.1.cell (p := ⟨wo.heap.size, 0, none⟩) hs5).trans d0)
              | (refine step_push (by rfl) _ _ (by rfl) w4 w.heap.size u3 u4 _ _ 4 n _ 2 2 _ (by rfl) (by rfl) (HR5.out.below hn4.1) (hn4.2.mono (HR5.out.off hB5)) (by omega) (Nat.le_trans hB5 hn4.1.size) ?_; intro v6 w6 hR6 hg6 hl6; have hc := hg6.cell ((World.cell?_alloc_lt _ _ _ (World.block_lt_of_cell? _ _ hc)).trans hc) (Ne.symm HOFF.out.2.1)))
            have HO6 := Lib.hid (other_stays (HR5.out.below hn4.1) (own_later3 HO5.out hn4.1) hg6 (by decide))
            have HB6 := Lib.hid (below_grown (chain HB5.out hn4.1) (chain HB5.out hn4.1).size hl6 hg6)
            have HR6 := Lib.hid hR6
            have hB6 : w.heap.size ≤ w6.heap.size := HB6.out.size
            have HS6 := Lib.hid (HS.out.trans (congrArg (splitsT n (ps.take j) ++ ·) (HSp.out hpn0)))
            clear hc hR6 hg6 hl6 hn4 hb4 hTa hTb hba hbb d0 d1
            by_cases hqn0 : R = n
            · have t2 : ((R : Int) != (n : Int)) = false := bfalse' (by omega)
              have HG7 := Lib.hid (HG.out.trans (congrArg (goodsT n (ps.take j) ++ ·) (HGn.out hqn0)))
              go_wp2_with fail
              go_roundw
              case rel => exact ⟨j + 1, by omega, by go_num, by unfold Hid; rw [HS6.out, HG7.out]; simpa using HR6.out, HO6.out, HB6.out⟩
              case measure => simp [intOf]; omega
            · have t2 : ((R : Int) != (n : Int)) = true := bdiff (by omega)
              have t3 : ((R : Int) == (n : Int)) = false := bno (by omega)
              go_wp2_with fail
              go_region_held3 (fun w' => True) (trivial) (first
                | (go_at_call 99; first
                  | ((with_reducible refine (C3.out _).mono ?_); rintro e9 wa ⟨ka, na, aa, ma, ca, rfl, hTa, hba⟩; have hba := undrew hba)
                  | ((with_reducible refine (C4.out _).mono ?_); rintro e9 wb ⟨kb, nb, ab, mb, cb, rfl, hTb, hbb⟩))
                | (go_at_call 98; (with_reducible refine (cand_node _ _ _ _ _ _).mono ?_); rintro e9 w4 ⟨rfl, hb4⟩; have hn4 := node_two 5 n (by omega) h2 hba hTa hbb hTb hb4)
                | (refine step_push (by rfl) _ _ (by rfl) w4 w.heap.size u4 v6 _ _ 5 n _ 2 2 _ (by rfl) (by rfl) (HR6.out.swap.below hn4.1) (hn4.2.mono (HR6.out.swap.off hB6)) (by omega) (Nat.le_trans hB6 hn4.1.size) ?_; intro v7 w7 hR7 hg7 hl7))
              have HO7 := Lib.hid (other_stays (HR6.out.swap.below hn4.1) (own_later3 HO6.out hn4.1) hg7 (by decide))
              have HB7 := Lib.hid (below_grown (chain HB6.out hn4.1) (chain HB6.out hn4.1).size hl7 hg7)
              have HR7 := Lib.hid hR7.swap
              have HG7 := Lib.hid (HG.out.trans (congrArg (goodsT n (ps.take j) ++ ·) (HGp.out hqn0)))
              clear hR7 hg7 hl7 hn4 hb4 hTa hTb hba hbb
              go_wp2_with fail
              go_roundw
              case rel => exact ⟨j + 1, by omega, by go_num, by unfold Hid; rw [HS6.out, HG7.out]; exact HR7.out, HO7.out, HB7.out⟩
              case measure => simp [intOf]; omega
    · obtain rfl : j = M := by omega
      have HE : Hid (ps.take j = ps) := by unfold Hid; rw [← HM.out]; exact List.take_length
      have hSl := splitsT_len n ps
      have hGl := goodsT_len n ps
      rw [HM.out] at hSl hGl
      have hR := HR.out
      rw [HE.out] at hR
      have HR2 := Lib.hid hR
      have hBs := HB.out.size
      clear hR
      go_wp2_with (at_builtin; refine wpList_both rfl _ _ rfl _ w.heap.size u3 u4 _ _ rfl rfl HR2.out (by omega) hBs ?_)
      intro v9 w9 hR9 hg9 hl9
      have hb9 := HB.out.grown hg9 hBs hl9
      have HR9 := Lib.hid hR9
      clear hR9 hg9 hl9
      go_wp2_with fail
      go_ret
      exact ⟨_, rfl, HR9.out, hb9⟩
end Go.Proofs.YtlnlijeamflpiaaGreat
namespace Go.Proofs.YtlnlijeamflpiaaGreat
open Go.RowKit
set_option linter.unusedVariables false
set_option linter.unusedSimpArgs false
set_option maxRecDepth 20000
theorem leavesT_len (n : Nat) : (leavesT n).length ≤ 3 := by
  unfold leavesT
  simp only [List.length_append]
  have h1 : (if n ≤ 64 then [Tr.node 1 n []] else []).length ≤ 1 := by split <;> simp
  have h2 : (if 2 ≤ n ∧ n ≤ 5 then [Tr.node 2 n []] else []).length ≤ 1 := by split <;> simp
  have h3 : (if 2 ≤ n ∧ hasP2 n = true then [Tr.node 3 n []] else []).length ≤ 1 := by split <;> simp
  omega
theorem prods_len {n : Nat} (h : hasSz n = true) : (splitsT n (facS n) ++ goodsT n (facS n)).length ≤ 12 := by
  have := fac_few h
  have := splitsT_len n (facS n)
  have := goodsT_len n (facS n)
  simp only [List.length_append]; omega
theorem rader_sz {n : Nat} (h : hasSz n = true) (h3 : 3 ≤ n) (hp : prB (facS n) = true) : okF 10 (n - 1) = true := by
  have hk := kids_sz h
  unfold kidsB at hk
  simp only [Bool.and_eq_true, Bool.or_eq_true, decide_eq_true_eq] at hk
  rcases hk.1.2 with (h0 | h0) | h0
  · rw [hp] at h0; cases h0
  · omega
  · exact h0
theorem blue_sz {n : Nat} (h : hasSz n = true) (h2 : 2 ≤ n) (h8 : n ≤ 8388608) : okF 10 (abv (2 * n - 1)) = true := by
  have hk := kids_sz h
  unfold kidsB at hk
  simp only [Bool.and_eq_true, Bool.or_eq_true, decide_eq_true_eq] at hk
  rcases hk.2 with (h0 | h0) | h0
  · omega
  · omega
  · exact h0
/-- The two last ones, where they are. -/
theorem tail_sz {n : Nat} (h : hasSz n = true) :
    (n = 1 ∧ raderT n = [] ∧ blueT n = []) ∨ (n = 2 ∧ raderT n = [] ∧ ∃ A, abv (2 * n - 1) = A ∧ okF 10 A = true ∧ blueT n = [.node 7 n [pl A]]) ∨
    (3 ≤ n ∧ ∃ Q, prB (facS n) = Q ∧ (if Q = true then okF 10 (n - 1) = true ∧ raderT n = [.node 6 n [pl (n - 1)]] else raderT n = []) ∧ ((n ≤ 8388608 ∧ ∃ A, abv (2 * n - 1) = A ∧ okF 10 A = true ∧ blueT n = [.node 7 n [pl A]]) ∨ (8388608 < n ∧ blueT n = []))) := by
  obtain ⟨i1, i2, _⟩ := hasSz_iff.1 h
  rcases (show n = 1 ∨ n = 2 ∨ 3 ≤ n by omega) with h1 | h1 | h1
  · subst h1; exact .inl ⟨rfl, by unfold raderT; rw [if_neg (by omega)], by unfold blueT; rw [if_neg (by omega)]⟩
  · exact .inr (.inl ⟨h1, by unfold raderT; rw [if_neg (by omega)], _, rfl, blue_sz h (by omega) (by omega), by unfold blueT; rw [if_pos (by omega)]⟩)
  · refine .inr (.inr ⟨h1, _, rfl, ?_, ?_⟩)
    · cases hq : prB (facS n) with
      | true => rw [if_pos rfl]; exact ⟨rader_sz h h1 hq, by unfold raderT; rw [if_pos ⟨h1, hq⟩]⟩
      | false => rw [if_neg (by simp)]; unfold raderT; rw [if_neg (by rw [hq]; simp)]
    · by_cases h8 : n ≤ 8388608
      · exact .inl ⟨h8, _, rfl, blue_sz h (by omega) h8, by unfold blueT; rw [if_pos (by omega)]⟩
      · exact .inr ⟨by omega, by unfold blueT; rw [if_neg (by omega)]⟩
/-- A result: a new row of trees, and a number. -/
def GivesTs2 (ts : List Tr) (c : Int) (w : World) (e : Ending) (w' : World) : Prop := ∃ v, e = .returned (.tuple #[v, .int .i64 c]) ∧ TwoT w' w.heap.size v noRow ts [] ∧ Below w.heap.size w w'
set_option maxHeartbeats 1500000 in
theorem cand_List (n : Nat) (w : World) (hsz : hasSz n = true) : Calls Tryz.prog 63 #[.int .i64 n] w (GivesTs2 (listT n) 0 w) := by
  obtain ⟨i1, i2, _⟩ := hasSz_iff.1 hsz
  have h1 : 1 ≤ n := by omega
  have h2 : n ≤ 16777216 := by omega
  clear i1 i2
  have CL : Hid (∀ W, Calls Tryz.prog 95 #[.int .i64 n] W (GivesTs (leavesT n) W)) := fun W => cand_leaves n W h1 h2
  have CR : Hid (∀ W, Calls Tryz.prog 96 #[.int .i64 n] W (GivesTs (splitsT n (facS n) ++ goodsT n (facS n)) W)) := fun W => cand_products n W hsz
  have hL1 := leavesT_len n
  have hL2 := prods_len hsz
  have HLT : Hid (listT n = ((leavesT n ++ (splitsT n (facS n) ++ goodsT n (facS n))) ++ raderT n) ++ blueT n) := rfl
  obtain ⟨LL, hLL⟩ : ∃ x, leavesT n = x := ⟨_, rfl⟩
  obtain ⟨PP, hPP⟩ : ∃ x, splitsT n (facS n) ++ goodsT n (facS n) = x := ⟨_, rfl⟩
  rw [hLL, hPP] at HLT
  rw [hLL] at CL hL1
  rw [hPP] at CR hL2
  clear hLL hPP
  have HSZ := Lib.hid hsz
  have CF : Hid (∀ W, Calls Tryz.prog 97 #[.int .i64 n] W fun e w' => e = .returned (.bool (prB (facS n))) ∧ Below W.heap.size W w') := fun W => by
    have := fact_Prime n W (by omega)
    rwa [own_of_facts h1 h2 hsz] at this
  have CH : Hid (∀ W, Calls Tryz.prog 41 #[.int .i64 n] W fun e w' => e = .returned (.bool true) ∧ W = w') := fun W => rootHas_yes _ W hsz
  have hts := tail_sz hsz
  clear hsz
  obtain ⟨m2, hm2⟩ : ∃ m2, m2 = 2 * n - 1 := ⟨_, rfl⟩
  have CA : Hid (n ≤ 8388608 → ∀ W, Calls Tryz.prog 100 #[.int .i64 n] W fun e w' => e = .returned (.tuple #[.int .i64 (abv (2 * n - 1) : Nat), .int .i64 0]) ∧ W = w') := fun h W => chirp_Least_ok n (2 * n - 1) W HSZ.out h rfl
  have CB : Hid (8388608 < n → ∀ W, Calls Tryz.prog 100 #[.int .i64 n] W fun e w' => e = .returned (.tuple #[.int .i64 0, .int .i64 3]) ∧ W = w') := fun h W => chirp_Least_range n W HSZ.out h
  clear hm2
  have START : True := trivial
  go_enter Tryz.func63, Tryz.ntmps63
  go_wp2_with fail
  refine (CH.out _).mono ?_; rintro e s1 ⟨rfl, rfl⟩
  go_wp2_with fail
  refine (CL.out _).mono ?_; rintro e w1 ⟨v1, rfl, hR1, hb1⟩
  have HR1 := Lib.hid hR1
  have HB1 := Lib.hid hb1
  have hs1 := hb1.size
  clear hR1 hb1
  go_wp2_with fail
  refine (CR.out _).mono ?_; rintro e w2 ⟨v2, rfl, hR2, hb2⟩
  have HJ := Lib.hid (TwoT.join (w := w) hs1 HR1.out hb2 hR2)
  have HB2 := Lib.hid (chain HB1.out hb2)
  have hs2 := HB2.out.size
  clear hR2 hb2
  go_wp2_with (at_builtin; refine wpList_both rfl _ _ rfl _ w.heap.size v1 v2 _ _ rfl rfl HJ.out (by omega) hs2 ?_)
  intro v3 w3 hR3 hg3 hl3
  have HB3 := Lib.hid (HB2.out.grown hg3 hs2 hl3)
  obtain ⟨AC3, hAC3⟩ : ∃ x, LL ++ PP = x := ⟨_, rfl⟩
  rw [hAC3] at hR3
  have HA3 := Lib.hid hAC3
  have hA3 : AC3.length ≤ 15 := by rw [← hAC3, List.length_append]; omega
  have HR3 := Lib.hid hR3
  clear hR3 hg3 hl3 hAC3
  rcases hts with ⟨hn, hr, hb⟩ | ⟨hn, hr, A, hA, hok, hb⟩ | ⟨hn, Q, hQ, hr, hb⟩
  · have HE : Hid (listT n = AC3) := by unfold Hid; rw [HLT.out, hr, hb, HA3.out, List.append_nil, List.append_nil]
    subst hn
    clear hr hb
    have CA1 := Lib.hid (CA.out (by omega))
    go_wp2_with fail
    refine (CA1.out _).mono ?_; rintro e s2 ⟨rfl, rfl⟩
    go_wp2_with fail
    go_ret2
    exact ⟨_, rfl, by rw [HE.out]; exact HR3.out, HB3.out⟩
  · subst hn
    have HE : Hid (listT 2 = AC3 ++ [.node 7 2 [pl A]]) := by unfold Hid; rw [HLT.out, hr, hb, HA3.out, List.append_nil]; rfl
    clear hr hb
    have CA1 := Lib.hid (CA.out (by omega))
    rw [hA] at CA1
    have CI7 : Hid (∀ W, Calls Tryz.prog 99 #[.int .i64 A] W (GivesD (pl A) W)) := fun W => cand_plain 10 A W hok
    clear hA hok
    go_wp2_with fail
    refine (CA1.out _).mono ?_; rintro e s2 ⟨rfl, rfl⟩
    go_wp2_with fail
    refine (CI7.out _).mono ?_; rintro e p7 ⟨k7, n7, a7, m7, c7, rfl, hT7, hp7⟩
    go_wp2_with fail
    refine (cand_node _ _ _ _ _ _).mono ?_; rintro e q7 ⟨rfl, hq7⟩
    have hn7 := node_one 7 2 (by omega) h2 hp7 hT7 hq7
    have hb7a := chain HB3.out hn7.1
    have hB7 := Below.size HB3.out
    go_wp2_with (at_builtin; refine wpList_push rfl _ _ rfl q7 w.heap.size v3 noRow AC3 [] 7 2 _ 1 1 _ rfl rfl (TwoT.below HR3.out hn7.1) (hn7.2.mono (TwoT.off HR3.out hB7)) (by omega) hb7a.size ?_)
    intro v7 w7 hR7 hg7 hl7
    have HB7 := Lib.hid (below_grown hb7a hb7a.size hl7 hg7)
    obtain ⟨AC7, hAC7⟩ : ∃ x, AC3 ++ [.node 7 2 [pl A]] = x := ⟨_, rfl⟩
    rw [hAC7] at hR7
    have hA7 : AC7.length ≤ 17 := by rw [← hAC7, List.length_append, List.length_singleton]; omega
    have HA7 := Lib.hid hAC7
    have HR7 := Lib.hid hR7
    clear hAC7 hR7 hg7 hl7 hb7a hn7 hq7 hT7 hp7 hB7
    go_wp2_with fail
    go_ret2
    exact ⟨_, rfl, by rw [HE.out]; first | (rw [HA7.out]; exact HR7.out) | (rw [HA6.out, HA7.out]; exact HR7.out), HB7.out⟩
  · rw [hQ] at CF
    clear hQ
    cases Q with
    | true =>
      obtain ⟨hok6, hr⟩ := (show okF 10 (n - 1) = true ∧ raderT n = [.node 6 n [pl (n - 1)]] by simpa using hr)
      obtain ⟨m, hm⟩ : ∃ m, n - 1 = m := ⟨_, rfl⟩
      rw [hm] at hok6 hr
      have e1 : (n : Int) - 1 = (m : Nat) := by omega
      have CI6 : Hid (∀ W, Calls Tryz.prog 99 #[.int .i64 m] W (GivesD (pl m) W)) := fun W => cand_plain 10 m W hok6
      clear hok6 hm
      rcases hb with ⟨h8, A, hA, hok, hb⟩ | ⟨h8, hb⟩
      · have HE : Hid (listT n = (AC3 ++ [.node 6 n [pl m]]) ++ [.node 7 n [pl A]]) := by unfold Hid; rw [HLT.out, hr, hb, HA3.out]
        clear hr hb
        go_wp2_with fail
        refine (CF.out _).mono ?_; rintro e f1 ⟨rfl, hf1⟩
        have HF1 := Lib.hid (chain HB3.out hf1)
        have HRF := Lib.hid (HR3.out.below hf1)
        clear hf1
        go_wp2_with fail
        refine (CI6.out _).mono ?_; rintro e p6 ⟨k6, n6, a6, m6, c6, rfl, hT6, hp6⟩
        go_wp2_with fail
        refine (cand_node _ _ _ _ _ _).mono ?_; rintro e q6 ⟨rfl, hq6⟩
        have hn6 := node_one 6 n (by omega) h2 hp6 hT6 hq6
        have hb6a := chain HF1.out hn6.1
        have hB6 := Below.size HF1.out
        go_wp2_with (at_builtin; refine wpList_push rfl _ _ rfl q6 w.heap.size v3 noRow AC3 [] 6 n _ 1 1 _ rfl rfl (TwoT.below HRF.out hn6.1) (hn6.2.mono (TwoT.off HRF.out hB6)) (by omega) hb6a.size ?_)
        intro v6 w6 hR6 hg6 hl6
        have HB6 := Lib.hid (below_grown hb6a hb6a.size hl6 hg6)
        obtain ⟨AC6, hAC6⟩ : ∃ x, AC3 ++ [.node 6 n [pl m]] = x := ⟨_, rfl⟩
        rw [hAC6] at hR6
        have hA6 : AC6.length ≤ 16 := by rw [← hAC6, List.length_append, List.length_singleton]; omega
        have HA6 := Lib.hid hAC6
        have HR6 := Lib.hid hR6
        clear hAC6 hR6 hg6 hl6 hb6a hn6 hq6 hT6 hp6 hB6
        go_wp2_with fail
        have CA1 := Lib.hid (CA.out (by omega))
        rw [hA] at CA1
        have CI7 : Hid (∀ W, Calls Tryz.prog 99 #[.int .i64 A] W (GivesD (pl A) W)) := fun W => cand_plain 10 A W hok
        clear hA hok
        refine (CA1.out _).mono ?_; rintro e s2 ⟨rfl, rfl⟩
        go_wp2_with fail
        refine (CI7.out _).mono ?_; rintro e p7 ⟨k7, n7, a7, m7, c7, rfl, hT7, hp7⟩
        go_wp2_with fail
        refine (cand_node _ _ _ _ _ _).mono ?_; rintro e q7 ⟨rfl, hq7⟩
        have hn7 := node_one 7 n (by omega) h2 hp7 hT7 hq7
        have hb7a := chain HB6.out hn7.1
        have hB7 := Below.size HB6.out
        go_wp2_with (at_builtin; refine wpList_push rfl _ _ rfl q7 w.heap.size v6 noRow AC6 [] 7 n _ 1 1 _ rfl rfl (TwoT.below HR6.out hn7.1) (hn7.2.mono (TwoT.off HR6.out hB7)) (by omega) hb7a.size ?_)
        intro v7 w7 hR7 hg7 hl7
        have HB7 := Lib.hid (below_grown hb7a hb7a.size hl7 hg7)
        obtain ⟨AC7, hAC7⟩ : ∃ x, AC6 ++ [.node 7 n [pl A]] = x := ⟨_, rfl⟩
        rw [hAC7] at hR7
        have hA7 : AC7.length ≤ 17 := by rw [← hAC7, List.length_append, List.length_singleton]; omega
        have HA7 := Lib.hid hAC7
        have HR7 := Lib.hid hR7
        clear hAC7 hR7 hg7 hl7 hb7a hn7 hq7 hT7 hp7 hB7
        go_wp2_with fail
        go_ret2
        exact ⟨_, rfl, by rw [HE.out]; first | (rw [HA7.out]; exact HR7.out) | (rw [HA6.out, HA7.out]; exact HR7.out), HB7.out⟩
      · have HE : Hid (listT n = AC3 ++ [.node 6 n [pl m]]) := by unfold Hid; rw [HLT.out, hr, hb, HA3.out, List.append_nil]
        clear hr hb
        have CB1 := Lib.hid (CB.out h8)
        go_wp2_with fail
        refine (CF.out _).mono ?_; rintro e f1 ⟨rfl, hf1⟩
        have HF1 := Lib.hid (chain HB3.out hf1)
        have HRF := Lib.hid (HR3.out.below hf1)
        clear hf1
        go_wp2_with fail
        refine (CI6.out _).mono ?_; rintro e p6 ⟨k6, n6, a6, m6, c6, rfl, hT6, hp6⟩
        go_wp2_with fail
        refine (cand_node _ _ _ _ _ _).mono ?_; rintro e q6 ⟨rfl, hq6⟩
        have hn6 := node_one 6 n (by omega) h2 hp6 hT6 hq6
        have hb6a := chain HF1.out hn6.1
        have hB6 := Below.size HF1.out
        go_wp2_with (at_builtin; refine wpList_push rfl _ _ rfl q6 w.heap.size v3 noRow AC3 [] 6 n _ 1 1 _ rfl rfl (TwoT.below HRF.out hn6.1) (hn6.2.mono (TwoT.off HRF.out hB6)) (by omega) hb6a.size ?_)
        intro v6 w6 hR6 hg6 hl6
        have HB6 := Lib.hid (below_grown hb6a hb6a.size hl6 hg6)
        obtain ⟨AC6, hAC6⟩ : ∃ x, AC3 ++ [.node 6 n [pl m]] = x := ⟨_, rfl⟩
        rw [hAC6] at hR6
        have hA6 : AC6.length ≤ 16 := by rw [← hAC6, List.length_append, List.length_singleton]; omega
        have HA6 := Lib.hid hAC6
        have HR6 := Lib.hid hR6
        clear hAC6 hR6 hg6 hl6 hb6a hn6 hq6 hT6 hp6 hB6
        go_wp2_with fail
        refine (CB1.out _).mono ?_; rintro e s2 ⟨rfl, rfl⟩
        go_wp2_with fail
        go_ret2
        exact ⟨_, rfl, by rw [HE.out, HA6.out]; exact HR6.out, HB6.out⟩
    | false =>
      have hr : raderT n = [] := by simpa using hr
      rcases hb with ⟨h8, A, hA, hok, hb⟩ | ⟨h8, hb⟩
      · have HE : Hid (listT n = AC3 ++ [.node 7 n [pl A]]) := by unfold Hid; rw [HLT.out, hr, hb, HA3.out, List.append_nil]
        clear hr hb
        go_wp2_with fail
        refine (CF.out _).mono ?_; rintro e f1 ⟨rfl, hf1⟩
        have HF1 := Lib.hid (chain HB3.out hf1)
        have HRF := Lib.hid (HR3.out.below hf1)
        clear hf1
        go_wp2_with fail
        have CA1 := Lib.hid (CA.out (by omega))
        rw [hA] at CA1
        have CI7 : Hid (∀ W, Calls Tryz.prog 99 #[.int .i64 A] W (GivesD (pl A) W)) := fun W => cand_plain 10 A W hok
        clear hA hok
        refine (CA1.out _).mono ?_; rintro e s2 ⟨rfl, rfl⟩
        go_wp2_with fail
        refine (CI7.out _).mono ?_; rintro e p7 ⟨k7, n7, a7, m7, c7, rfl, hT7, hp7⟩
        go_wp2_with fail
        refine (cand_node _ _ _ _ _ _).mono ?_; rintro e q7 ⟨rfl, hq7⟩
        have hn7 := node_one 7 n (by omega) h2 hp7 hT7 hq7
        have hb7a := chain HF1.out hn7.1
        have hB7 := Below.size HF1.out
        go_wp2_with (at_builtin; refine wpList_push rfl _ _ rfl q7 w.heap.size v3 noRow AC3 [] 7 n _ 1 1 _ rfl rfl (TwoT.below HRF.out hn7.1) (hn7.2.mono (TwoT.off HRF.out hB7)) (by omega) hb7a.size ?_)
        intro v7 w7 hR7 hg7 hl7
        have HB7 := Lib.hid (below_grown hb7a hb7a.size hl7 hg7)
        obtain ⟨AC7, hAC7⟩ : ∃ x, AC3 ++ [.node 7 n [pl A]] = x := ⟨_, rfl⟩
        rw [hAC7] at hR7
        have hA7 : AC7.length ≤ 17 := by rw [← hAC7, List.length_append, List.length_singleton]; omega
        have HA7 := Lib.hid hAC7
        have HR7 := Lib.hid hR7
        clear hAC7 hR7 hg7 hl7 hb7a hn7 hq7 hT7 hp7 hB7
        go_wp2_with fail
        go_ret2
        exact ⟨_, rfl, by rw [HE.out]; first | (rw [HA7.out]; exact HR7.out) | (rw [HA6.out, HA7.out]; exact HR7.out), HB7.out⟩
      · have HE : Hid (listT n = AC3) := by unfold Hid; rw [HLT.out, hr, hb, HA3.out, List.append_nil, List.append_nil]
        clear hr hb
        have CB1 := Lib.hid (CB.out h8)
        go_wp2_with fail
        refine (CF.out _).mono ?_; rintro e f1 ⟨rfl, hf1⟩
        have HF1 := Lib.hid (chain HB3.out hf1)
        have HRF := Lib.hid (HR3.out.below hf1)
        clear hf1
        go_wp2_with fail
        refine (CB1.out _).mono ?_; rintro e s2 ⟨rfl, rfl⟩
        go_wp2_with fail
        go_ret2
        exact ⟨_, rfl, by rw [HE.out]; exact HRF.out, HF1.out⟩
end Go.Proofs.YtlnlijeamflpiaaGreat
namespace Go.Proofs.YtlnlijeamflpiaaGreat
open Go.RowKit
set_option linter.unusedVariables false
set_option linter.unusedSimpArgs false
set_option maxRecDepth 20000
theorem has_5 : hasSz ((5 : Nat) : Int) = true := by decide +kernel
theorem kids_isT {w : World} {F : Nat → Prop} {a : Option Addr} {cap : Nat} {ts : List Tr} (h : Kids w F a cap ts) (ho : ∀ t ∈ ts, t.Ok) : IsT w F 0 0 a ts.length cap (.node 0 0 ts) := ⟨rfl, rfl, rfl, by simp only [Tr.Ok]; exact ⟨fits_zero, fits_zero, Tr.okL_of ho⟩, h⟩
end Go.Proofs.YtlnlijeamflpiaaGreat

namespace Go.Proofs.YtlnlijeamflpiaaGreat
open Go.RowKit
set_option linter.unusedVariables false
set_option linter.unusedSimpArgs false
set_option maxRecDepth 100000
set_option maxRecDepth 20000
def cellsNt (xs : List Nat) : List Value := xs.map fun x : Nat => Value.int .i64 (x : Int)
theorem cellsNt_snoc (xs : List Nat) (x : Nat) : cellsNt (xs ++ [x]) = cellsNt xs ++ [.int .i64 x] := by simp [cellsNt]
def prs (ps : List (Nat × Nat)) : List Nat := ps.map Prod.fst
set_option maxHeartbeats 2000000 in
theorem ref03_Primes (N : Nat) (w : World) (h1 : 1 ≤ N) (h2 : N ≤ 16777216) :
    Calls Tryz.prog 66 #[.int .i64 N] w fun e w' => ∃ v, e = .returned v ∧ w'.ownsRow w.heap.size 3 1 v (prs (facL N)).length (cellsNt (prs (facL N))) ∧ Below w.heap.size w w' := by
  obtain ⟨i0, hi, hz0, hz1, hz2⟩ := info_parts info_int
  obtain ⟨PS, hPS⟩ : ∃ PS, prs (facL N) = PS := ⟨_, rfl⟩
  rw [hPS]
  have HPS := Lib.hid hPS
  clear hPS
  go_enter Tryz.func66, Tryz.ntmps66
  go_wp2_with fail
  go_loopw [0, 3, 4] (fun n v d wr => ∃ (n0 d0 : Nat) (acc : List Nat), 1 ≤ n0 ∧ n0 ≤ 16777216 ∧ 2 ≤ d0 ∧ d0 ≤ 4097 ∧ n = .int .i64 n0 ∧ d = .int .i64 d0 ∧ acc.length ≤ d0 ∧ Hid (acc ++ prs (facF (5000 - d0) d0 n0) = PS) ∧ Hid (wr.ownsRow w.heap.size 3 1 v acc.length (cellsNt acc)) ∧ Below w.heap.size w wr) (fun _ _ d _ => 5000 - (intOf d).toNat)
  case atStart => exact ⟨N, 2, [], h1, h2, by omega, by omega, rfl, rfl, by simp, HPS.out, World.ownsRow_nil _ _ _ _, Below.refl _ _⟩
  case round =>
    obtain ⟨n, d, acc, hn1, hn2, hd1, hd2, rfl, rfl, hal, HF, HO, hbel⟩ := hrel
    obtain ⟨q, hq⟩ : ∃ q, d * d = q := ⟨_, rfl⟩
    have eq1 : (d : Int) * (d : Int) = (q : Int) := by rw [← hq]; simp
    have hq9 : q ≤ 4097 * 4097 := by rw [← hq]; exact Nat.mul_le_mul hd2 hd2
    have hq4 : 4 ≤ q := by rw [← hq]; exact Nat.mul_le_mul hd1 hd1
    have hbs := hbel.size
    by_cases hn : 1 < n
    · by_cases hle : q ≤ n
      · have hd3 : d ≤ 4096 := by
          by_cases h : d ≤ 4096
          · exact h
          · have := Nat.mul_le_mul (show 4097 ≤ d by omega) (show 4097 ≤ d by omega)
            omega
        have HQ := Lib.hid hq
        clear hq
        have hS : Hid (∃ m e, stripF 25 d n 0 = (m, e)) := ⟨_, _, rfl⟩
        obtain ⟨M, E, hs⟩ := hS.out
        have hst := stripF_le 25 d n 0 hd1 hn1
        rw [hs] at hst
        obtain ⟨g1, g2, g3, g4⟩ := hst
        have HUN := Lib.hid (fac_unfold_le (n := n) hd2 (by rw [HQ.out]; exact hle) hs)
        have e1 : (n : Int).tmod (d : Int) = ((n % d : Nat) : Int) := by rw [Int.tmod_eq_emod_of_nonneg (by omega), Int.natCast_emod]
        have e2 : (n : Int) % (d : Int) = ((n % d : Nat) : Int) := by rw [← Int.natCast_emod]
        obtain ⟨r, hr⟩ : ∃ r, n % d = r := ⟨_, rfl⟩
        rw [hr] at e1 e2
        have z1 : ((d : Int) == 0) = false := bno (by omega)
        have z2 : ¬ (d : Int) = 0 := by omega
        have hE : (r = 0 ∧ 1 ≤ E) ∨ (r ≠ 0 ∧ E = 0) := by
          by_cases h0 : r = 0
          · refine .inl ⟨h0, ?_⟩
            have := stripF_le 24 d (n / d) 1 hd1 (Nat.div_pos (Nat.le_of_dvd hn1 (Nat.dvd_of_mod_eq_zero (by rw [hr]; exact h0))) (by omega))
            have e : stripF 25 d n 0 = stripF 24 d (n / d) 1 := by rw [stripF, if_pos (by rw [hr]; exact h0)]
            rw [← e, hs] at this
            exact this.2.2.1
          · refine .inr ⟨h0, ?_⟩
            have e : stripF 25 d n 0 = (n, 0) := by rw [stripF, if_neg (by rw [hr]; exact h0)]
            rw [hs] at e
            exact (Prod.mk.inj e).2
        have HS := Lib.hid hs
        have HR := Lib.hid hr
        clear hs hS g4 hr
        rcases hE with ⟨h0, hE1⟩ | ⟨h0, hE0⟩
        · subst h0
          have hown := HO.out
          go_wp2_with (at_builtin; refine wpList_append_own _ rfl _ _ 44 rfl w.heap.size 3 i0 (.int .i64 0) 1 8 Tryz.underlying44 hi hz0 hz1 hz2 rfl (by decide) _ acc.length (cellsNt acc) rfl (hown.alloc _) ⟨wr.heap.size, 0, none⟩ 1 1 [.int .i64 d] rfl rfl (cell_one_new _ _ _) (one_cell _ _) (by unfold maxLen; omega) (by omega) (by simp; omega) ?_)
          intro v' w2 hown2 hgrow _
          have HOW : Hid (w2.ownsRow w.heap.size 3 1 v' (acc ++ [d]).length (cellsNt (acc ++ [d]))) := by unfold Hid; rw [cellsNt_snoc, List.length_append, List.length_singleton]; exact hown2
          have HB4 := Lib.hid (below_grown hbel hbs (own_lt3 hown) hgrow)
          have hlen : (acc ++ [d]).length ≤ d + 1 := by simp; omega
          have HF2 : Hid ((acc ++ [d]) ++ prs (facF (5000 - (d + 1)) (d + 1) M) = PS) := by
            unfold Hid; have := HF.out; rw [HUN.out, if_neg (by omega)] at this
            rw [List.append_assoc]; exact this
          obtain ⟨acc2, hacc2⟩ : ∃ x, acc ++ [d] = x := ⟨_, rfl⟩
          rw [hacc2] at HOW hlen HF2
          clear hown hown2 hgrow hacc2 e1 e2 hbel hbs HF HO hal
          obtain ⟨wo, rfl⟩ : ∃ wo : World, wo = wr := ⟨_, rfl⟩
          go_wp2_with fail
          go_loopw [0] (fun m wi => ∃ (m0 e0 : Nat), m = .int .i64 m0 ∧ 1 ≤ m0 ∧ m0 ≤ n ∧ e0 ≤ 24 ∧ Hid (m0 * 2 ^ e0 ≤ 16777216) ∧ Hid (stripF (25 - e0) d m0 e0 = (M, E)) ∧ wi = w2) (fun m _ => (intOf m).toNat)
          case atStart => exact ⟨n, 0, rfl, hn1, Nat.le_refl _, by omega, by unfold Hid; omega, HS.out, rfl⟩
          case round =>
            obtain ⟨m, e, rfl, hm1, hmn, he24, HB, HR2, rfl⟩ := hrel
            have e1 : (m : Int).tmod (d : Int) = ((m % d : Nat) : Int) := by rw [Int.tmod_eq_emod_of_nonneg (by omega), Int.natCast_emod]
            have e2 : (m : Int) % (d : Int) = ((m % d : Nat) : Int) := by rw [← Int.natCast_emod]
            obtain ⟨r, hr⟩ : ∃ r, m % d = r := ⟨_, rfl⟩
            rw [hr] at e1 e2
            by_cases h0 : r = 0
            · have e3 : (m : Int).tdiv (d : Int) = ((m / d : Nat) : Int) := by rw [Int.tdiv_eq_ediv_of_nonneg (by omega), Int.natCast_ediv]
              have e4 : (m : Int) / (d : Int) = ((m / d : Nat) : Int) := by rw [← Int.natCast_ediv]
              have hst := strip_step hd1 (by rw [hr]; exact h0) hm1 HB.out
              have hlt : m / d < m := Nat.div_lt_self (by omega) (by omega)
              have hfew := strip_few hst.1 hst.2.1
              obtain ⟨p, hp⟩ : ∃ p, m / d = p := ⟨_, rfl⟩
              have HR3 : Hid (stripF (25 - (e + 1)) d p (e + 1) = (M, E)) := by
                unfold Hid
                have := HR2.out
                rw [show 25 - e = (25 - (e + 1)) + 1 by omega, stripF, if_pos (by rw [hr]; exact h0), hp] at this
                exact this
              rw [hp] at e3 e4 hst hlt
              obtain ⟨g1, g2, g3⟩ := hst
              have G2 := Lib.hid g2
              clear hr hp g2
              subst h0
              go_wp2_with fail
              go_roundw
              case rel => exact ⟨p, e + 1, rfl, g1, by omega, by omega, G2.out, HR3.out, by first | rfl | trivial⟩
              case measure => simp [intOf]; omega
            · have hME : (m, e) = (M, E) := by
                have := HR2.out
                rw [show 25 - e = (24 - e) + 1 by omega, stripF, if_neg (by rw [hr]; exact h0)] at this
                exact this
              simp only [Prod.mk.injEq] at hME
              obtain ⟨rfl, rfl⟩ := hME
              have h0' : ((r : Int) == 0) = false := bno (by omega)
              clear hr
              go_wp2_with fail
              go_roundw
              case rel => exact ⟨m, d + 1, acc2, hm1, by omega, by omega, by omega, rfl, by go_num, hlen, HF2.out, HOW.out, HB4.out⟩
              case measure => simp [intOf]; omega
        · have h0' : ((r : Int) == 0) = false := bno (by omega)
          subst hE0
          obtain rfl : M = n := by
            have := HS.out
            rw [stripF, if_neg (by rw [HR.out]; exact h0)] at this
            exact (Prod.mk.inj this).1.symm
          have HF2 : Hid (acc ++ prs (facF (5000 - (d + 1)) (d + 1) M) = PS) := by
            unfold Hid; have := HF.out; rw [HUN.out, if_pos rfl] at this; exact this
          go_wp2_with fail
          go_loopw [0] (fun m wi => m = .int .i64 M ∧ wi = wr) (fun _ _ => 0)
          case atStart => exact ⟨rfl, rfl⟩
          case round =>
            obtain ⟨rfl, rfl⟩ := hrel
            go_wp2_with fail
            go_roundw
            case rel => exact ⟨M, d + 1, acc, hn1, hn2, by omega, by omega, rfl, by go_num, by omega, HF2.out, HO.out, hbel⟩
            case measure => simp [intOf]; omega
      · have HUN := Lib.hid (fac_unfold_gt (n := n) hd2 (by rw [hq]; exact hle))
        clear hq
        have hown := HO.out
        have HN := Lib.hid hn
        go_wp2_with (at_builtin; refine wpList_append_own _ rfl _ _ 44 rfl w.heap.size 3 i0 (.int .i64 0) 1 8 Tryz.underlying44 hi hz0 hz1 hz2 rfl (by decide) _ acc.length (cellsNt acc) rfl (hown.alloc _) ⟨wr.heap.size, 0, none⟩ 1 1 [.int .i64 n] rfl rfl (cell_one_new _ _ _) (one_cell _ _) (by unfold maxLen; omega) (by omega) (by simp; omega) ?_)
        intro v' w2 hown2 hgrow _
        have HPE : Hid (acc ++ [n] = PS) := by have := HF.out; rw [HUN.out, if_pos hn] at this; exact this
        have HOW : Hid (w2.ownsRow w.heap.size 3 1 v' PS.length (cellsNt PS)) := by unfold Hid; rw [← HPE.out, cellsNt_snoc, List.length_append, List.length_singleton]; exact hown2
        have hb4 : Below w.heap.size w w2 := below_grown hbel hbs (own_lt3 hown) hgrow
        clear hown hown2 hgrow
        go_wp2_with fail
        go_ret
        exact ⟨_, rfl, HOW.out, hb4⟩
    · obtain rfl : n = 1 := by omega
      have HUN := Lib.hid (fac_unfold_gt (n := 1) hd2 (by rw [hq]; omega))
      have HPE : Hid (acc = PS) := by unfold Hid; have := HF.out; rw [HUN.out, if_neg (by omega)] at this; simpa [prs] using this
      have HOW := HO.out
      rw [HPE.out] at HOW
      have HOW := Lib.hid HOW
      clear hq
      go_wp2_with fail
      go_ret
      exact ⟨_, rfl, HOW.out, hbel⟩
set_option maxHeartbeats 1000000 in
/-- How often d divides n. -/
theorem ref03_Times (d n : Nat) (w : World) (hd : 2 ≤ d) (hd2 : d ≤ 16777216) (h1 : 1 ≤ n) (h2 : n ≤ 16777216) :
    Calls Tryz.prog 68 #[.int .i64 d, .int .i64 n] w fun e w' => e = .returned (.int .i64 ((stripF 25 d n 0).2 : Nat)) ∧ w = w' := by
  have hS : Hid (∃ m e, stripF 25 d n 0 = (m, e)) := ⟨_, _, rfl⟩
  obtain ⟨M, E, hs⟩ := hS.out
  rw [hs]
  have HS := Lib.hid hs
  clear hs hS
  have z1 : ((d : Int) == 0) = false := bno (by omega)
  have z2 : ¬ (d : Int) = 0 := by omega
  go_enter Tryz.func68, Tryz.ntmps68
  go_wp2_with fail
  go_loopw [1, 5] (fun m k wi => ∃ (m0 e0 : Nat), m = .int .i64 m0 ∧ k = .int .i64 e0 ∧ 1 ≤ m0 ∧ m0 ≤ n ∧ e0 ≤ 24 ∧ Hid (m0 * 2 ^ e0 ≤ 16777216) ∧ Hid (stripF (25 - e0) d m0 e0 = (M, E)) ∧ wi = w) (fun m _ _ => (intOf m).toNat)
  case atStart => exact ⟨n, 0, rfl, rfl, h1, Nat.le_refl _, by omega, by unfold Hid; omega, HS.out, rfl⟩
  case round =>
    obtain ⟨m, e, rfl, rfl, hm1, hmn, he24, HB, HR2, rfl⟩ := hrel
    have e1 : (m : Int).tmod (d : Int) = ((m % d : Nat) : Int) := by rw [Int.tmod_eq_emod_of_nonneg (by omega), Int.natCast_emod]
    have e2 : (m : Int) % (d : Int) = ((m % d : Nat) : Int) := by rw [← Int.natCast_emod]
    obtain ⟨r, hr⟩ : ∃ r, m % d = r := ⟨_, rfl⟩
    rw [hr] at e1 e2
    by_cases h0 : r = 0
    · have e3 : (m : Int).tdiv (d : Int) = ((m / d : Nat) : Int) := by rw [Int.tdiv_eq_ediv_of_nonneg (by omega), Int.natCast_ediv]
      have e4 : (m : Int) / (d : Int) = ((m / d : Nat) : Int) := by rw [← Int.natCast_ediv]
      have hst := strip_step hd (by rw [hr]; exact h0) hm1 HB.out
      have hlt : m / d < m := Nat.div_lt_self (by omega) (by omega)
      have hfew := strip_few hst.1 hst.2.1
      obtain ⟨p, hp⟩ : ∃ p, m / d = p := ⟨_, rfl⟩
      have HR3 : Hid (stripF (25 - (e + 1)) d p (e + 1) = (M, E)) := by
        unfold Hid
        have := HR2.out
        rw [show 25 - e = (25 - (e + 1)) + 1 by omega, stripF, if_pos (by rw [hr]; exact h0), hp] at this
        exact this
      rw [hp] at e3 e4 hst hlt
      obtain ⟨g1, g2, g3⟩ := hst
      have G2 := Lib.hid g2
      clear hr hp g2
      subst h0
      go_wp2_with fail
      go_roundw
      case rel => exact ⟨p, e + 1, rfl, by go_num, g1, by omega, by omega, G2.out, HR3.out, by first | rfl | trivial⟩
      case measure => simp [intOf]; omega
    · have hME : (m, e) = (M, E) := by
        have := HR2.out
        rw [show 25 - e = (24 - e) + 1 by omega, stripF, if_neg (by rw [hr]; exact h0)] at this
        exact this
      simp only [Prod.mk.injEq] at hME
      obtain ⟨rfl, rfl⟩ := hME
      have h0' : ((r : Int) == 0) = false := bno (by omega)
      clear hr
      go_wp2_with fail
      go_ret
      exact ⟨rfl, by first | rfl | trivial⟩
end Go.Proofs.YtlnlijeamflpiaaGreat
namespace Go.Proofs.YtlnlijeamflpiaaGreat
open Go.RowKit
set_option linter.unusedVariables false
set_option linter.unusedSimpArgs false
set_option maxRecDepth 20000
theorem cellsNt_last (ps : List (Nat × Nat)) (q : Nat) (h : ps.length = q + 1) : (cellsNt (prs ps))[q]? = some (.int .i64 (lastP ps)) := by
  unfold lastP cellsNt prs
  rw [show ps.length - 1 = q by omega]
  simp [show q < ps.length by omega]
theorem ref19_one (K n : Nat) (k' n' : Int) (a' : Option Addr) (m' c' : Nat) (w : World) :
    Calls Tryz.prog 70 #[.int .i64 K, .int .i64 n, .agg #[.int .i64 k', .int .i64 n', .slice a' m' c']] w fun e w' => ∃ b T, e = .returned (.agg #[.int .i64 K, .int .i64 n, .slice (some ⟨b, 0, none⟩) 1 1]) ∧ w.heap.size ≤ b ∧ w'.heap[b]? = some (.cells #[.int .i64 k', .int .i64 n', .slice a' m' c'] T (0, 0)) ∧ Below w.heap.size w w' := by
  obtain ⟨W1, hW1, hb1, x1⟩ := box_fresh w #[.int .i64 k', .int .i64 n', .slice a' m' c'] 48
  have hs1 : W1.heap.size = w.heap.size + 1 := by rw [← hW1]; simp
  obtain ⟨W2, hW2, hb2, x2⟩ := zbox W1 48
  have hs2 : W2.heap.size = W1.heap.size + 1 := by rw [← hW2]; simp
  have y1 := (hb2.block _ (block_lt x1)).trans x1
  obtain ⟨p0, p1, p2, _, _, _⟩ := zfacts y1
  obtain ⟨W3, hW3, hb3, x3⟩ := box_fresh W2 #[.int .i64 k', .int .i64 n', .slice a' m' c'] 48
  have x2' := (hb3.block _ (block_lt x2)).trans x2
  obtain ⟨r0, r1, r2, f0, f1, f2⟩ := zfacts x2'
  rw [hs1] at r0 r1 r2 f0 f1 f2
  go_enter Tryz.func70, Tryz.ntmps70
  go_wp2_with fail
  have hX := set3 (x' := .int .i64 K) (y' := .int .i64 n) (z' := .slice (some ⟨W2.heap.size, 0, none⟩) 1 1) x2'
  have hf := set3_far W3 W1.heap.size (.int .i64 K) (.int .i64 n) (.slice (some ⟨W2.heap.size, 0, none⟩) 1 1) W2.heap.size (by omega)
  have hbb := set3_below (chain hb1 (chain hb2 hb3)) W1.heap.size (by omega) (.int .i64 K) (.int .i64 n) (.slice (some ⟨W2.heap.size, 0, none⟩) 1 1)
  rw [hs1] at hX hf hbb
  obtain ⟨w', hw'⟩ : ∃ w', ((W3.setCell ⟨w.heap.size + 1, 0, none⟩ (.int .i64 K)).setCell ⟨w.heap.size + 1, 1, none⟩ (.int .i64 n)).setCell ⟨w.heap.size + 1, 2, none⟩ (.slice (some ⟨W2.heap.size, 0, none⟩) 1 1) = w' := ⟨_, rfl⟩
  rw [hw'] at hX hf hbb
  have hz : W2.heap.size = w.heap.size + 1 + 1 := by omega
  rw [hz] at hX hf hw' x3
  rw [hw']
  obtain ⟨s0, s1, s2, _, _, _⟩ := zfacts hX
  exact bodyPost_ret (v := .agg #[.int .i64 K, .int .i64 n, .slice (some ⟨w.heap.size + 1 + 1, 0, none⟩) 1 1]) (by simp [results, Tryz.results70, go_sem, s0, s1, s2]) rfl ⟨_, _, rfl, by omega, hf.trans x3, hbb⟩
set_option maxHeartbeats 2000000 in
theorem ref19_two (K n p d : Nat) (w : World) (t u : Tr) (hK : K ≤ 7) (h2 : n ≤ 16777216) (hp1 : 1 ≤ p) (hpp : p ≤ 16777216) (hd : n / p = d)
    (C1 : Hid (∀ W, Calls Tryz.prog 71 #[.int .i64 p] W (GivesD t W))) (C2 : Hid (∀ W, Calls Tryz.prog 71 #[.int .i64 d] W (GivesD u W))) :
    Calls Tryz.prog 67 #[.int .i64 K, .int .i64 n, .int .i64 p] w (GivesD (.node K n [t, u]) w) := by
  have e1 : (n : Int).tdiv (p : Int) = (d : Int) := by rw [Int.tdiv_eq_ediv_of_nonneg (by omega), ← Int.natCast_ediv, hd]
  have e2 : (n : Int) / (p : Int) = (d : Int) := by rw [← Int.natCast_ediv, hd]
  have z1 : ((p : Int) == 0) = false := bno (by omega)
  have z2 : ¬ (p : Int) = 0 := by omega
  have hdn : d ≤ n := by rw [← hd]; exact Nat.div_le_self n p
  have hd9 : d ≤ 16777216 := by omega
  have e3 : IntKind.i64.wrap ((n : Int).tdiv (p : Int)) = (d : Int) := by rw [e1]; exact IntWalk.i64_in _ (by omega)
  have e4 : wrap64 (d : Int) = d := by rw [← IntWalk.i64_left]; exact IntWalk.i64_in _ (by omega)
  have p0 : (0 : Int) < p := by omega
  have n0 : (0 : Int) ≤ n := by omega
  clear hd
  obtain ⟨W0, hW0, hb0, x0⟩ := zbox w 48
  have hs0 : Hid (W0.heap.size = w.heap.size + 1) := by unfold Hid; rw [← hW0]; simp
  have HB0 := Lib.hid hb0
  have X0 := Lib.hid x0
  clear hb0 x0
  go_enter Tryz.func67, Tryz.ntmps67
  go_wp2_with fail
  go_region_held (fun _ => True) (trivial) (first
    | (go_at_call 71; first
      | ((with_reducible refine (C1.out _).mono ?_); rintro e wa ⟨ka, na, aa, ma, ca, rfl, hTa, hba⟩; have hba := undrew hba)
      | ((with_reducible refine (C2.out _).mono ?_); rintro e wb ⟨kb, nb, ab, mb, cb, rfl, hTb, hbb⟩; have hx4 := keep_two HB0.out X0.out hba hbb (cs := #[.int .i64 ka, .int .i64 na, .slice aa ma ca, .int .i64 kb, .int .i64 nb, .slice ab mb cb]) (T := 48); obtain ⟨q0, q1, q2, g0, g1, g2⟩ := zfacts hx4.2)))
  all_goals
    go_wp2_with fail
    obtain ⟨_, k4, hbs, hA, hB⟩ := two_fin hba hbb (Below.refl (wb.alloc (.cells #[.int .i64 ka, .int .i64 na, .slice aa ma ca, .int .i64 kb, .int .i64 nb, .slice ab mb cb] 48)).heap.size (wb.alloc (.cells #[.int .i64 ka, .int .i64 na, .slice aa ma ca, .int .i64 kb, .int .i64 nb, .slice ab mb cb] 48)))
    have hTA := (hA _ _ _ _ _ _ hTa).mono (G := Since (w.heap.size + 1)) fun b hb => by unfold Since at hb ⊢; have := hs0.out; omega
    have hTB := (hB _ _ _ _ _ _ hTb).mono (G := Since (w.heap.size + 1)) fun b hb => by unfold Since at hb ⊢; have := hs0.out; omega
    have hN := isT_node (k := K) (n := n) (by rw [fits_i64]; omega) (by rw [fits_i64]; omega) (ok_two hTA.ok hTB.ok) (kids_twoT (show Since (w.heap.size + 1) wb.heap.size by unfold Since; have := hs0.out; omega) k4 hTA hTB)
    obtain ⟨w', hw', hb, r0, r1, r2, hT⟩ := fin_node hx4.1 hx4.2 hN
    simp only [List.length_cons, List.length_nil, Nat.zero_add, Nat.reduceAdd] at hw' r0 r1 r2 hT
    rw [hw']
    exact bodyPost_ret (v := .agg #[.int .i64 K, .int .i64 n, .slice (some ⟨wb.heap.size, 0, none⟩) 2 2]) (by simp [results, Tryz.results67, go_sem, r0, r1, r2]) rfl ⟨_, _, _, _, _, rfl, hT, hb⟩
set_option maxHeartbeats 4000000 in
theorem ref19_Plain (f : Nat) : ∀ (n : Nat) (w : World), okF f n = true → Calls Tryz.prog 71 #[.int .i64 n] w (GivesD (planF f n) w) := by
  induction f with
  | zero => intro n w h; cases h
  | succ f ih =>
    intro n w h
    have IH := Lib.hid ih
    clear ih
    obtain ⟨hsz, hrec⟩ := okF_step h
    clear h
    obtain ⟨i1, i2, _⟩ := hasSz_iff.1 hsz
    have h1 : 1 ≤ n := by omega
    have h2 : n ≤ 16777216 := by omega
    clear i1 i2
    obtain ⟨B, hB⟩ : ∃ B, hasP2 (n : Int) = B := ⟨_, rfl⟩
    have hP2 : isP2 (n : Int) = B := by rw [← hB]; unfold hasP2; rw [decide_eq_true (show (n : Int) ≤ 16777216 by omega), Bool.and_true]
    have CP : Hid (∀ W, Calls Tryz.prog 65 #[.int .i64 n] W fun e w' => e = .returned (.bool B) ∧ W = w') := fun W => by rw [← hP2]; exact refPower n W (by omega)
    clear hP2
    have HSZ := Lib.hid hsz
    clear hsz
    obtain ⟨W0, hW0, hb0, x0⟩ := zbox w 48
    have hs0 : Hid (W0.heap.size = w.heap.size + 1) := by unfold Hid; rw [← hW0]; simp
    have HB0 := Lib.hid hb0
    have X0 := Lib.hid x0
    clear hb0 x0
    by_cases hk : noKid n = true
    · have HE0 : Hid (planF (f + 1) n = .node (leafK n) n []) := planF_leaf hk
      have hcs := noKid_cases h1 hk
      clear hk hrec
      rw [hB] at hcs
      rcases hcs with ⟨h3, h4, hl⟩ | ⟨h3, hl⟩ | ⟨h3, h4, hP, hl⟩ | ⟨h3, h4, hP, hl⟩ | ⟨h3, hP, hl⟩
      · have HE : Hid (planF (f + 1) n = .node 2 n []) := by unfold Hid; rw [HE0.out, hl]; first | rfl | done
        clear HE0 hl
        go_enter Tryz.func71, Tryz.ntmps71
        go_wp2_with fail
        refine (ref19_leaf _ _ _).mono ?_; rintro e w1 ⟨rfl, hb1⟩
        have HB1 := Lib.hid (chain HB0.out hb1)
        have x1 := (hb1.block _ (block_lt X0.out)).trans X0.out
        obtain ⟨q0, q1, q2, g0, g1, g2⟩ := zfacts x1
        have X1 := Lib.hid x1
        clear hb1 x1
        go_wp2_with fail
        obtain ⟨w', hw', hb, r0, r1, r2, hT⟩ := fin_node HB1.out X1.out (isT_none _ _ (by rw [fits_i64]; omega) (by rw [fits_i64]; omega)) (k := 2) (n := (n : Int)) (a := none) (m := 0) (c := 0) (t := .node 2 n [])
        rw [hw']
        exact bodyPost_ret (v := .agg #[.int .i64 2, .int .i64 n, .slice none 0 0]) (by simp [results, Tryz.results71, go_sem, r0, r1, r2]) rfl ⟨_, _, _, _, _, rfl, by rw [HE.out]; exact hT, hb⟩

      · subst h3
        have HE : Hid (planF (f + 1) 1 = .node 1 1 []) := by unfold Hid; rw [HE0.out, hl]; first | rfl | done
        clear HE0 hl
        go_enter Tryz.func71, Tryz.ntmps71
        go_wp2_with fail
        refine (ref19_leaf _ _ _).mono ?_; rintro e w1 ⟨rfl, hb1⟩
        have HB1 := Lib.hid (chain HB0.out hb1)
        have x1 := (hb1.block _ (block_lt X0.out)).trans X0.out
        obtain ⟨q0, q1, q2, g0, g1, g2⟩ := zfacts x1
        have X1 := Lib.hid x1
        clear hb1 x1
        go_wp2_with fail
        obtain ⟨w', hw', hb, r0, r1, r2, hT⟩ := fin_node HB1.out X1.out (isT_none _ _ (by rw [fits_i64]; omega) (by rw [fits_i64]; omega)) (k := 1) (n := 1) (a := none) (m := 0) (c := 0) (t := .node 1 1 [])
        rw [hw']
        exact bodyPost_ret (v := .agg #[.int .i64 1, .int .i64 1, .slice none 0 0]) (by simp [results, Tryz.results71, go_sem, r0, r1, r2]) rfl ⟨_, _, _, _, _, rfl, by rw [HE.out]; exact hT, hb⟩

      · have HE : Hid (planF (f + 1) n = .node 1 n []) := by unfold Hid; rw [HE0.out, hl]; first | rfl | done
        clear HE0 hl
        subst hP
        have s1 : ((n : Int) == 1) = false := bno (by omega)
        go_enter Tryz.func71, Tryz.ntmps71
        go_wp2_with fail
        refine (CP.out _).mono ?_; rintro e w0 ⟨rfl, rfl⟩
        go_wp2_with fail
        refine (ref19_leaf _ _ _).mono ?_; rintro e w1 ⟨rfl, hb1⟩
        have HB1 := Lib.hid (chain HB0.out hb1)
        have x1 := (hb1.block _ (block_lt X0.out)).trans X0.out
        obtain ⟨q0, q1, q2, g0, g1, g2⟩ := zfacts x1
        have X1 := Lib.hid x1
        clear hb1 x1
        go_wp2_with fail
        obtain ⟨w', hw', hb, r0, r1, r2, hT⟩ := fin_node HB1.out X1.out (isT_none _ _ (by rw [fits_i64]; omega) (by rw [fits_i64]; omega)) (k := 1) (n := (n : Int)) (a := none) (m := 0) (c := 0) (t := .node 1 n [])
        rw [hw']
        exact bodyPost_ret (v := .agg #[.int .i64 1, .int .i64 n, .slice none 0 0]) (by simp [results, Tryz.results71, go_sem, r0, r1, r2]) rfl ⟨_, _, _, _, _, rfl, by rw [HE.out]; exact hT, hb⟩

      · have HE : Hid (planF (f + 1) n = .node 3 n []) := by unfold Hid; rw [HE0.out, hl]; first | rfl | done
        clear HE0 hl
        subst hP
        have s1 : ((n : Int) == 1) = false := bno (by omega)
        go_enter Tryz.func71, Tryz.ntmps71
        go_wp2_with fail
        refine (CP.out _).mono ?_; rintro e w0 ⟨rfl, rfl⟩
        go_wp2_with fail
        refine (CP.out _).mono ?_; rintro e w0 ⟨rfl, rfl⟩
        go_wp2_with fail
        refine (ref19_leaf _ _ _).mono ?_; rintro e w1 ⟨rfl, hb1⟩
        have HB1 := Lib.hid (chain HB0.out hb1)
        have x1 := (hb1.block _ (block_lt X0.out)).trans X0.out
        obtain ⟨q0, q1, q2, g0, g1, g2⟩ := zfacts x1
        have X1 := Lib.hid x1
        clear hb1 x1
        go_wp2_with fail
        obtain ⟨w', hw', hb, r0, r1, r2, hT⟩ := fin_node HB1.out X1.out (isT_none _ _ (by rw [fits_i64]; omega) (by rw [fits_i64]; omega)) (k := 3) (n := (n : Int)) (a := none) (m := 0) (c := 0) (t := .node 3 n [])
        rw [hw']
        exact bodyPost_ret (v := .agg #[.int .i64 3, .int .i64 n, .slice none 0 0]) (by simp [results, Tryz.results71, go_sem, r0, r1, r2]) rfl ⟨_, _, _, _, _, rfl, by rw [HE.out]; exact hT, hb⟩

      · have HE : Hid (planF (f + 1) n = .node 3 n []) := by unfold Hid; rw [HE0.out, hl]; first | rfl | done
        clear HE0 hl
        subst hP
        have s1 : ((n : Int) == 1) = false := bno (by omega)
        go_enter Tryz.func71, Tryz.ntmps71
        go_wp2_with fail
        refine (CP.out _).mono ?_; rintro e w0 ⟨rfl, rfl⟩
        go_wp2_with fail
        refine (ref19_leaf _ _ _).mono ?_; rintro e w1 ⟨rfl, hb1⟩
        have HB1 := Lib.hid (chain HB0.out hb1)
        have x1 := (hb1.block _ (block_lt X0.out)).trans X0.out
        obtain ⟨q0, q1, q2, g0, g1, g2⟩ := zfacts x1
        have X1 := Lib.hid x1
        clear hb1 x1
        go_wp2_with fail
        obtain ⟨w', hw', hb, r0, r1, r2, hT⟩ := fin_node HB1.out X1.out (isT_none _ _ (by rw [fits_i64]; omega) (by rw [fits_i64]; omega)) (k := 3) (n := (n : Int)) (a := none) (m := 0) (c := 0) (t := .node 3 n [])
        rw [hw']
        exact bodyPost_ret (v := .agg #[.int .i64 3, .int .i64 n, .slice none 0 0]) (by simp [results, Tryz.results71, go_sem, r0, r1, r2]) rfl ⟨_, _, _, _, _, rfl, by rw [HE.out]; exact hT, hb⟩

    · rw [Bool.not_eq_true] at hk
      obtain ⟨h65, hP⟩ := noKid_no h1 hk
      rw [hP] at hB
      subst hB
      have s1 : ((n : Int) == 1) = false := bno (by omega)
      obtain ⟨Q, hQ⟩ : ∃ Q, prB (facS n) = Q := ⟨_, rfl⟩
      have CF : Hid (∀ W, Calls Tryz.prog 69 #[.int .i64 n] W fun e w' => e = .returned (.bool Q) ∧ W = w') := fun W => by
        have := ref03_Prime n W h1 h2
        rwa [own_of_facts h1 h2 HSZ.out, hQ] at this
      obtain ⟨hr1, hr2⟩ := hrec hk
      cases Q with
      | true =>
        have HE : Hid (planF (f + 1) n = .node 6 n [planF f (n - 1)]) := planF_one hk hQ
        have hok := hr1 hQ
        obtain ⟨m, hm⟩ : ∃ m, n - 1 = m := ⟨_, rfl⟩
        rw [hm] at HE hok
        have e1 : (n : Int) - 1 = (m : Nat) := by omega
        have CI : Hid (∀ W, Calls Tryz.prog 71 #[.int .i64 m] W (GivesD (planF f m) W)) := fun W => IH.out m W hok
        have CO : Hid (∀ (k' n' : Int) (a' : Option Addr) (m' c' : Nat) (w : World), Calls Tryz.prog 70 #[.int .i64 6, .int .i64 n, .agg #[.int .i64 k', .int .i64 n', .slice a' m' c']] w fun e w' => ∃ b T, e = .returned (.agg #[.int .i64 6, .int .i64 n, .slice (some ⟨b, 0, none⟩) 1 1]) ∧ w.heap.size ≤ b ∧ w'.heap[b]? = some (.cells #[.int .i64 k', .int .i64 n', .slice a' m' c'] T (0, 0)) ∧ Below w.heap.size w w') := fun k' n' a' m' c' w => ref19_one 6 n k' n' a' m' c' w
        clear hr1 hr2 hrec hk hQ hP hok hm IH
        go_enter Tryz.func71, Tryz.ntmps71
        go_wp2_with fail
        refine (CP.out _).mono ?_; rintro e w0 ⟨rfl, rfl⟩
        go_wp2_with fail
        refine (CF.out _).mono ?_; rintro e w1 ⟨rfl, rfl⟩
        go_wp2_with fail
        refine (CI.out _).mono ?_; rintro e w2 ⟨k', n', a', m', c', rfl, hT, hb2⟩
        have HT2 := Lib.hid hT
        have HB2 := Lib.hid (chain HB0.out hb2)
        have X2 := Lib.hid ((hb2.block _ (block_lt X0.out)).trans X0.out)
        have HS2 := Lib.hid hb2.size
        clear hT hb2
        go_wp2_with fail
        refine (CO.out _ _ _ _ _ _).mono ?_; rintro e w4 ⟨g, T, rfl, hg, k4, hb4⟩
        have HB4 := Lib.hid (chain HB2.out hb4)
        have x4 := (hb4.block _ (block_lt X2.out)).trans X2.out
        have hT4 : IsT w4 (Since (w.heap.size + 1)) k' n' a' m' c' (planF f m) := (HT2.out.below hb4).mono fun b hb => by unfold Since at hb ⊢; have := hs0.out; omega
        obtain ⟨q0, q1, q2, g0, g1, g2⟩ := zfacts x4
        have hF : Since (w.heap.size + 1) g := by unfold Since; have := hs0.out; have := HS2.out; omega
        have hN := Lib.hid (isT_node (k := 6) (n := n) (by rw [fits_i64]; omega) (by rw [fits_i64]; omega) (by intro t ht; simp at ht; subst ht; exact hT4.ok) (kids_one hF k4 hT4))
        have X4 := Lib.hid x4
        clear x4 k4 hT4 hF hb4
        go_wp2_with fail
        obtain ⟨w', hw', hb, r0, r1, r2, hT⟩ := fin_node HB4.out X4.out hN.out
        simp only [List.length_singleton] at hw' r0 r1 r2 hT
        rw [hw']
        exact bodyPost_ret (v := .agg #[.int .i64 6, .int .i64 n, .slice (some ⟨g, 0, none⟩) 1 1]) (by simp [results, Tryz.results71, go_sem, r0, r1, r2]) rfl ⟨_, _, _, _, _, rfl, by rw [HE.out]; exact hT, hb⟩
      | false =>
        have HE : Hid (planF (f + 1) n = .node 4 n [planF f (lastP (facS n)), planF f (n / lastP (facS n))]) := planF_two hk hQ
        obtain ⟨hlen, hp1, hok1, hok2⟩ := hr2 hQ
        have CR : Hid (∀ W, Calls Tryz.prog 66 #[.int .i64 n] W fun e w' => ∃ v, e = .returned v ∧ w'.ownsRow W.heap.size 3 1 v (prs (facS n)).length (cellsNt (prs (facS n))) ∧ Below W.heap.size W w') := fun W => by
          have := ref03_Primes n W h1 h2
          rwa [fac_sz HSZ.out] at this
        obtain ⟨q, hq⟩ : ∃ q, (facS n).length = q + 1 := ⟨(facS n).length - 1, by omega⟩
        have HLC := Lib.hid (cellsNt_last (facS n) q hq)
        have hq6 : q ≤ 5 := by have := fac_few HSZ.out; omega
        have hq' : (prs (facS n)).length = q + 1 := by rw [← hq]; simp [prs]
        rw [hq'] at CR
        obtain ⟨ps, hps⟩ : ∃ ps, facS n = ps := ⟨_, rfl⟩
        rw [hps] at HE CR HLC hok1 hok2 hp1
        obtain ⟨p, hp⟩ : ∃ p, lastP ps = p := ⟨_, rfl⟩
        rw [hp] at HE HLC hok1 hok2 hp1
        have hpp : p ≤ 16777216 := by
          have := (hasSz_iff.1 (okF_sz hok1)).2.1
          omega
        have CT : Hid (∀ W, Calls Tryz.prog 67 #[.int .i64 4, .int .i64 n, .int .i64 p] W (GivesD (.node 4 n [planF f p, planF f (n / p)]) W)) := fun W => ref19_two 4 n p (n / p) W _ _ (by omega) h2 hp1 hpp rfl (fun W => IH.out p W hok1) (fun W => IH.out (n / p) W hok2)
        rw [← HE.out] at CT
        clear hr1 hr2 hrec hk hQ hP hok1 hok2 hps hp IH hlen hq hq' HE
        go_enter Tryz.func71, Tryz.ntmps71
        go_wp2_with fail
        refine (CP.out _).mono ?_; rintro e w0 ⟨rfl, rfl⟩
        go_wp2_with fail
        refine (CF.out _).mono ?_; rintro e w1 ⟨rfl, rfl⟩
        go_wp2_with fail
        refine (CR.out _).mono ?_; rintro e w2 ⟨v, rfl, hown, hb2⟩
        obtain ⟨a, cap, rfl, hcap, hg⟩ := own_slice2 hown
        obtain ⟨g, rfl⟩ := hg (by omega)
        have hc : w2.cell? ⟨g, q, none⟩ = some (.int .i64 (p : Int)) := (hown.cellAt q (by omega)).trans HLC.out
        have HB2 := Lib.hid (chain HB0.out hb2)
        have X2 := Lib.hid ((hb2.block _ (block_lt X0.out)).trans X0.out)
        have HS2 : Hid (w.heap.size + 1 ≤ w2.heap.size) := by have := hs0.out; have := hb2.size; unfold Hid; omega
        clear hb2 hown
        go_wp2_with fail
        refine (CT.out _).mono ?_; rintro e w4 ⟨k4, n4, a4, m4, c4, rfl, hT4, hb4⟩
        have HB4 := Lib.hid (chain HB2.out hb4)
        have x4 := (hb4.block _ (block_lt X2.out)).trans X2.out
        have HT4 := Lib.hid (hT4.mono (G := Since (w.heap.size + 1)) fun b hb => by unfold Since at hb ⊢; have := HS2.out; omega)
        obtain ⟨q0, q1, q2, g0, g1, g2⟩ := zfacts x4
        have X4 := Lib.hid x4
        clear x4 hT4 hb4
        go_wp2_with fail
        obtain ⟨w', hw', hb, r0, r1, r2, hT⟩ := fin_node HB4.out X4.out HT4.out
        rw [hw']
        exact bodyPost_ret (v := .agg #[.int .i64 k4, .int .i64 n4, .slice a4 m4 c4]) (by simp [results, Tryz.results71, go_sem, r0, r1, r2]) rfl ⟨_, _, _, _, _, rfl, hT, hb⟩
end Go.Proofs.YtlnlijeamflpiaaGreat

namespace Go.Proofs.YtlnlijeamflpiaaGreat
open Go.RowKit
set_option linter.unusedVariables false
set_option linter.unusedSimpArgs false
set_option maxRecDepth 100000
set_option maxRecDepth 20000
theorem stL_mem (n p e : Nat) (l : List Nat) : (p, e) ∈ stL n l → p ∈ l ∧ e = (stripF 25 p n 0).2 := by
  induction l with
  | nil => intro h; cases h
  | cons q l ih =>
    intro h
    rw [stL] at h
    rcases List.mem_append.1 h with h | h
    · by_cases hq : n % q = 0
      · rw [if_pos hq] at h
        have := List.mem_singleton.1 h
        injection this with h1 h2
        subst h1
        exact ⟨by simp, h2⟩
      · rw [if_neg hq] at h; cases h
    · exact ⟨List.mem_cons_of_mem _ (ih h).1, (ih h).2⟩
theorem entry_sz (n j : Nat) (hj : j < (facS n).length) (p e : Nat) (hp : (facS n).getD j (0, 0) = (p, e)) : 2 ≤ p ∧ e = (stripF 25 p n 0).2 := by
  have hm : (p, e) ∈ facS n := by
    have e : (facS n).getD j (0, 0) = (facS n)[j] := by simp [hj]
    rw [← hp, e]; exact List.getElem_mem hj
  obtain ⟨h1, h2⟩ := stL_mem n p e _ hm
  exact ⟨by simp at h1; omega, h2⟩
theorem node_one' {w2 wa w4 : World} {b : Nat} {ka na : Int} {aa : Option Addr} {ma ca : Nat} {T : TypeId} {t : Tr} (K n : Nat) (hK : K ≤ 7) (hn : n ≤ 16777216) (hba : Below w2.heap.size w2 wa) (hTa : IsT wa (Since w2.heap.size) ka na aa ma ca t)
    (hb4 : Below wa.heap.size wa w4) (hb : wa.heap.size ≤ b) (hx : w4.heap[b]? = some (.cells #[.int .i64 ka, .int .i64 na, .slice aa ma ca] T (0, 0))) :
    Below w2.heap.size w2 w4 ∧ IsT w4 (Since w2.heap.size) K n (some ⟨b, 0, none⟩) 1 1 (.node K n [t]) := by
  have hTA := hTa.below hb4
  exact ⟨chain hba hb4, isT_node (k := K) (n := n) (by rw [fits_i64]; omega) (by rw [fits_i64]; omega) (by intro x hx; rw [List.mem_singleton.1 hx]; exact hTA.ok) (kids_one (Nat.le_trans hba.size hb) hx hTA)⟩
theorem cellsNt_at (ps : List (Nat × Nat)) (j : Nat) (h : j < ps.length) : (cellsNt (prs ps))[j]? = some (.int .i64 ((ps.getD j (0, 0)).1 : Nat)) := by
  simp [cellsNt, prs, h]
set_option maxHeartbeats 6000000 in
theorem ref19_List (n : Nat) (w : World) (hsz : hasSz n = true) : Calls Tryz.prog 38 #[.int .i64 n] w (GivesTs (listT n) w) := by
  obtain ⟨i1, i2, _⟩ := hasSz_iff.1 hsz
  have h1 : 1 ≤ n := by omega
  have h2 : n ≤ 16777216 := by omega
  clear i1 i2
  obtain ⟨P, hP⟩ : ∃ P, hasP2 (n : Int) = P := ⟨_, rfl⟩
  have hP2 : isP2 (n : Int) = P := by rw [← hP]; unfold hasP2; rw [decide_eq_true (show (n : Int) ≤ 16777216 by omega), Bool.and_true]
  have CP : Hid (∀ W, Calls Tryz.prog 65 #[.int .i64 n] W fun e w' => e = .returned (.bool P) ∧ W = w') := fun W => by rw [← hP2]; exact refPower n W (by omega)
  clear hP2
  have HLT : Hid (listT n = ((leavesT n ++ (splitsT n (facS n) ++ goodsT n (facS n))) ++ raderT n) ++ blueT n) := rfl
  obtain ⟨L1, hL1⟩ : ∃ x, (if n ≤ 64 then [Tr.node 1 n []] else []) = x := ⟨_, rfl⟩
  obtain ⟨L2, hL2⟩ : ∃ x, (if 2 ≤ n ∧ n ≤ 5 then [Tr.node 2 n []] else []) = x := ⟨_, rfl⟩
  obtain ⟨L3, hL3⟩ : ∃ x, (if 2 ≤ n ∧ P = true then [Tr.node 3 n []] else []) = x := ⟨_, rfl⟩
  have HLL : Hid (leavesT n = (L1 ++ L2) ++ L3) := by unfold Hid leavesT; rw [hP, hL1, hL2, hL3]
  have hl1 : L1.length ≤ 1 := by rw [← hL1]; split <;> simp
  have hl2 : L2.length ≤ 1 := by rw [← hL2]; split <;> simp
  have hl3 : L3.length ≤ 1 := by rw [← hL3]; split <;> simp
  obtain ⟨L12, hL12⟩ : ∃ x, L1 ++ L2 = x := ⟨_, rfl⟩
  obtain ⟨L123, hL123⟩ : ∃ x, L12 ++ L3 = x := ⟨_, rfl⟩
  rw [hL12, hL123] at HLL
  have hl12 : L12.length ≤ 2 := by rw [← hL12, List.length_append]; omega
  have hl123 : L123.length ≤ 3 := by rw [← hL123, List.length_append]; omega
  have A1 : Hid (n ≤ 64 → L1 = [.node 1 n []]) := fun h => by rw [← hL1, if_pos h]
  have B1 : Hid (¬ n ≤ 64 → L1 = []) := fun h => by rw [← hL1, if_neg h]
  have A2 : Hid (decide (2 ≤ n ∧ n ≤ 5) = true → L12 = L1 ++ [.node 2 n []]) := fun h => by rw [← hL12, ← hL2, if_pos (of_decide_eq_true h)]
  have B2 : Hid (decide (2 ≤ n ∧ n ≤ 5) = false → L12 = L1) := fun h => by rw [← hL12, ← hL2, if_neg (of_decide_eq_false h), List.append_nil]
  have A3 : Hid ((decide (2 ≤ n) && P) = true → L123 = L12 ++ [.node 3 n []]) := fun h => by
    rw [Bool.and_eq_true, decide_eq_true_eq] at h
    rw [← hL123, ← hL3, if_pos h]
  have B3 : Hid ((decide (2 ≤ n) && P) = false → L123 = L12) := fun h => by
    rw [← hL123, ← hL3, if_neg (fun h2 => by rw [h2.2, decide_eq_true h2.1] at h; cases h), List.append_nil]
  clear hL1 hL2 hL3 hL12 hL123 hP
  have CR : Hid (∀ W, Calls Tryz.prog 66 #[.int .i64 n] W fun e w' => ∃ v, e = .returned v ∧ w'.ownsRow W.heap.size 3 1 v (prs (facS n)).length (cellsNt (prs (facS n))) ∧ Below W.heap.size W w') := fun W => by
    have := ref03_Primes n W h1 h2
    rwa [fac_sz hsz] at this
  have HPZ := Lib.hid (prime_sz hsz)
  have HTS := Lib.hid (tail_sz hsz)
  have HEN := Lib.hid (entry_sz n)
  have HSZ := Lib.hid hsz
  have hM6 := fac_few hsz
  have CFp : Hid (∀ W, Calls Tryz.prog 69 #[.int .i64 n] W fun e w' => e = .returned (.bool (prB (facS n))) ∧ W = w') := fun W => by
    have := ref03_Prime n W h1 h2
    rwa [own_of_facts h1 h2 hsz] at this
  obtain ⟨ps, hps⟩ : ∃ ps, facS n = ps := ⟨_, rfl⟩
  rw [hps] at CR HPZ hM6 HLT HTS CFp HEN
  obtain ⟨M, hM⟩ : ∃ M, ps.length = M := ⟨_, rfl⟩
  have hM' : (prs ps).length = M := by rw [← hM]; simp [prs]
  rw [hM] at HPZ hM6 HEN
  rw [hM'] at CR
  have HM := Lib.hid hM
  clear hps hM hM' hsz
  go_enter Tryz.func38, Tryz.ntmps38
  go_upto_if 10 with fail
  go_cut [3] from 9 (fun l wx => Hid (TwoT wx w.heap.size l noRow L1 []) ∧ Hid (Below w.heap.size w wx))
  case first =>
    by_cases h64 : n ≤ 64
    · go_wp2_with fail
      refine (ref19_leaf _ _ _).mono ?_; rintro e n1 ⟨rfl, hn1⟩
      go_wp2_with (at_builtin; refine wpList_push rfl _ _ rfl n1 w.heap.size noRow noRow [] [] 1 n none 0 0 (.node 1 n []) rfl rfl (TwoT.none n1 w.heap.size) (isT_none _ _ (by rw [fits_i64]; omega) (by rw [fits_i64]; omega)) (by simp) hn1.size ?_)
      intro v1 w1 hR1 hg1 hl1'
      have HB1 := Lib.hid (below_grown hn1 hn1.size hl1' hg1)
      have HR1 : Hid (TwoT w1 w.heap.size v1 noRow L1 []) := by unfold Hid; rw [A1.out h64]; exact hR1
      clear hR1 hg1 hl1' hn1
      go_wp2_with fail
      go_meet
      case rel => exact ⟨HR1.out, HB1.out⟩
    · have HR1 : Hid (TwoT w w.heap.size noRow noRow L1 []) := by unfold Hid; rw [B1.out h64]; exact TwoT.none _ _
      go_wp2_with fail
      go_meet
      case rel => exact ⟨HR1.out, Below.refl _ _⟩
  case rest =>
    obtain ⟨HR1, HB1⟩ := hcut
    obtain ⟨w1, rfl⟩ : ∃ x : World, x = wc := ⟨_, rfl⟩
    go_upto_region 4 with fail
    go_cut [21] from 16 to 21 (fun c wx => c = .bool (decide (2 ≤ n ∧ n ≤ 5)) ∧ wx = w1)
    case first =>
      rcases (show n < 2 ∨ (2 ≤ n ∧ n ≤ 5) ∨ 6 ≤ n by omega) with h | ⟨h, h'⟩ | h
      all_goals
        go_wp2_with fail
        go_meet
        case rel => first | exact ⟨congrArg Value.bool (decide_eq_false (by omega)).symm, rfl⟩ | exact ⟨congrArg Value.bool (decide_eq_true (by omega)).symm, rfl⟩ | exact ⟨congrArg Value.bool (decide_eq_decide.2 (by omega)), rfl⟩
    case rest =>
      obtain ⟨hc, hw⟩ := hcut
      obtain rfl : w1 = wc := hw.symm
      obtain ⟨b2, hb2⟩ : ∃ b, decide (2 ≤ n ∧ n ≤ 5) = b := ⟨_, rfl⟩
      rw [hb2] at hc A2 B2
      subst hc
      clear hb2
      go_upto_if 21 with fail
      go_cut [3] from 22 to 26 (fun l wx => Hid (TwoT wx w.heap.size l noRow L12 []) ∧ Hid (Below w.heap.size w wx))
      case first =>
        cases b2 with
        | true =>
          go_wp2_with fail
          refine (ref19_leaf _ _ _).mono ?_; rintro e n2 ⟨rfl, hn2⟩
          have hbx := chain HB1.out hn2
          go_wp2_with (at_builtin; refine wpList_push rfl _ _ rfl n2 w.heap.size u3 noRow L1 [] 2 n none 0 0 (.node 2 n []) rfl rfl (TwoT.below HR1.out hn2) (isT_none _ _ (by rw [fits_i64]; omega) (by rw [fits_i64]; omega)) (by omega) hbx.size ?_)
          intro vv ww hRx hgx hlx
          have HBx := Lib.hid (below_grown hbx hbx.size hlx hgx)
          have HRx : Hid (TwoT ww w.heap.size vv noRow L12 []) := by unfold Hid; rw [A2.out (by first | rfl | trivial)]; exact hRx
          clear hRx hgx hlx hbx hn2
          go_wp2_with fail
          go_meet
          case rel => exact ⟨HRx.out, HBx.out⟩
        | false =>
          have HRx : Hid (TwoT w1 w.heap.size u3 noRow L12 []) := by unfold Hid; rw [B2.out (by first | rfl | trivial)]; exact HR1.out
          go_wp2_with fail
          go_meet
          case rel => exact ⟨HRx.out, HB1.out⟩
      case rest =>
        obtain ⟨HR2, HB2⟩ := hcut
        obtain ⟨w2, rfl⟩ : ∃ x : World, x = wc := ⟨_, rfl⟩
        clear HR1 HB1 A1 B1 A2 B2
        go_upto_region 6 with fail
        go_cut [32] from 27 to 32 (fun c wx => c = .bool (decide (2 ≤ n) && P) ∧ wx = w2)
        case first =>
          by_cases h : 2 ≤ n
          · go_wp2_with fail
            refine (CP.out _).mono ?_; rintro e s1 ⟨rfl, rfl⟩
            go_wp2_with fail
            go_meet
            case rel => exact ⟨congrArg Value.bool (by rw [decide_eq_true h, Bool.true_and]), rfl⟩
          · go_wp2_with fail
            go_meet
            case rel => exact ⟨congrArg Value.bool (by rw [decide_eq_false h, Bool.false_and]), rfl⟩
        case rest =>
          obtain ⟨hc, hw⟩ := hcut
          obtain rfl : w2 = wc := hw.symm
          obtain ⟨b3, hb3⟩ : ∃ b, (decide (2 ≤ n) && P) = b := ⟨_, rfl⟩
          rw [hb3] at hc A3 B3
          subst hc
          clear hb3 CP
          go_upto_if 32 with fail
          go_cut [3] from 33 to 37 (fun l wx => Hid (TwoT wx w.heap.size l noRow L123 []) ∧ Hid (Below w.heap.size w wx))
          case first =>
            cases b3 with
            | true =>
              go_wp2_with fail
              refine (ref19_leaf _ _ _).mono ?_; rintro e n3 ⟨rfl, hn3⟩
              have hbx := chain HB2.out hn3
              go_wp2_with (at_builtin; refine wpList_push rfl _ _ rfl n3 w.heap.size u3 noRow L12 [] 3 n none 0 0 (.node 3 n []) rfl rfl (TwoT.below HR2.out hn3) (isT_none _ _ (by rw [fits_i64]; omega) (by rw [fits_i64]; omega)) (by omega) hbx.size ?_)
              intro vv ww hRx hgx hlx
              have HBx := Lib.hid (below_grown hbx hbx.size hlx hgx)
              have HRx : Hid (TwoT ww w.heap.size vv noRow L123 []) := by unfold Hid; rw [A3.out (by first | rfl | trivial)]; exact hRx
              clear hRx hgx hlx hbx hn3
              go_wp2_with fail
              go_meet
              case rel => exact ⟨HRx.out, HBx.out⟩
            | false =>
              have HRx : Hid (TwoT w2 w.heap.size u3 noRow L123 []) := by unfold Hid; rw [B3.out (by first | rfl | trivial)]; exact HR2.out
              go_wp2_with fail
              go_meet
              case rel => exact ⟨HRx.out, HB2.out⟩
          case rest =>
            obtain ⟨HR3, HB3⟩ := hcut
            obtain ⟨w3, rfl⟩ : ∃ x : World, x = wc := ⟨_, rfl⟩
            clear HR2 HB2 A3 B3
            go_wp2_with fail
            refine (CR.out _).mono ?_; rintro e w4 ⟨v, rfl, hown, hb4⟩
            obtain ⟨a, cap, rfl, hcap, hg⟩ := own_slice2 hown
            have HO4 := Lib.hid (own_mono (show w.heap.size ≤ w3.heap.size from HB3.out.size) hown)
            have HR4 := Lib.hid (HR3.out.below hb4)
            have HB4 := Lib.hid (chain HB3.out hb4)
            clear hown hb4 HR3 HB3
            go_wp2_with fail
            go_loopw [3, 5] (fun l i wr => ∃ j : Nat, j ≤ M ∧ i = .int .i64 j ∧ Hid (TwoT wr w.heap.size l noRow (L123 ++ splitsT n (ps.take j)) []) ∧ Hid (wr.ownsRow w.heap.size 3 1 (.slice a M cap) M (cellsNt (prs ps))) ∧ Hid (Below w.heap.size w wr)) (fun _ i _ => M - (intOf i).toNat)
            case atStart => exact ⟨0, Nat.zero_le _, rfl, by unfold Hid; simpa [splitsT] using HR4.out, HO4.out, HB4.out⟩
            case round =>
              obtain ⟨j, hj, rfl, HR, HO, HB⟩ := hrel
              by_cases hjm : j < M
              · obtain ⟨g, rfl⟩ := hg (by omega)
                obtain ⟨⟨p, x⟩, hpe⟩ : ∃ pe : Nat × Nat, ps.getD j (0, 0) = pe := ⟨_, rfl⟩
                obtain ⟨hp1, hpn, he24, hq1, hqn, ok1, ok2, ok3, ok4⟩ := HPZ.out j hjm p x hpe
                have c0 : wr.cell? ⟨g, j, none⟩ = some (.int .i64 (p : Int)) := (HO.out.cellAt j (by omega)).trans (by rw [cellsNt_at ps j (by rw [HM.out]; exact hjm), hpe])
                have hS := splitsT_step n ps j (by rw [HM.out]; exact hjm)
                rw [hpe] at hS
                have hSl := splitsT_len n (ps.take j)
                rw [List.length_take] at hSl
                have HS := Lib.hid hS
                have HSp : Hid (p ≠ n → splitT n (p, x) = [.node 4 n [pl p, pl (n / p)]]) := fun h => by unfold splitT; rw [if_neg h]
                have HSn : Hid (p = n → splitT n (p, x) = []) := fun h => by unfold splitT; rw [if_pos h]
                have CT : Hid (∀ W, Calls Tryz.prog 67 #[.int .i64 4, .int .i64 n, .int .i64 p] W (GivesD (.node 4 n [pl p, pl (n / p)]) W)) := fun W => ref19_two 4 n p (n / p) W _ _ (by omega) h2 hp1 (by omega) rfl (fun W => ref19_Plain 10 p W ok1) (fun W => ref19_Plain 10 (n / p) W ok2)
                clear hS hpe hq1 hqn ok1 ok2 ok3 ok4
                obtain ⟨S, hSS⟩ : ∃ S, splitsT n (ps.take j) = S := ⟨_, rfl⟩
                rw [hSS] at hSl
                have HR := HR.out
                rw [hSS] at HR
                have HR := Lib.hid HR
                obtain ⟨AC, hAC⟩ : ∃ x, L123 ++ S = x := ⟨_, rfl⟩
                have hACl : AC.length ≤ 12 := by rw [← hAC, List.length_append]; omega
                have HSS := Lib.hid hSS
                have HAC := Lib.hid hAC
                have HR2 : Hid (TwoT wr w.heap.size u3 noRow AC []) := by unfold Hid; rw [← hAC]; exact HR.out
                clear hSS hAC HR
                by_cases hpn0 : p = n
                · have t1 : ((p : Int) != (n : Int)) = false := bfalse' (by omega)
                  have HE : Hid (L123 ++ splitsT n (ps.take (j + 1)) = AC) := by unfold Hid; rw [HS.out, HSn.out hpn0, List.append_nil, HSS.out, HAC.out]
                  go_wp2_with fail
                  go_roundw
                  case rel => exact ⟨j + 1, by omega, by go_num, by unfold Hid; rw [HE.out]; exact HR2.out, HO.out, HB.out⟩
                  case measure => simp [intOf]; omega
                · have t1 : ((p : Int) != (n : Int)) = true := bdiff (by omega)
                  have t0 : ((p : Int) == (n : Int)) = false := bno (by omega)
                  obtain ⟨ND, hND⟩ : ∃ t, Tr.node 4 n [pl p, pl (n / p)] = t := ⟨_, rfl⟩
                  rw [hND] at CT
                  have HE : Hid (L123 ++ splitsT n (ps.take (j + 1)) = AC ++ [ND]) := by unfold Hid; rw [HS.out, HSp.out hpn0, hND, HSS.out, ← List.append_assoc, HAC.out]
                  clear hND HSp HSn HS
                  go_wp2_with fail
                  refine (CT.out _).mono ?_; rintro e n1 ⟨k1, m1, a1, l1, c1, rfl, hT, hn1⟩
                  have hbx := chain HB.out hn1
                  have hBs := HB.out.size
                  have hRy := HR2.out.below hn1
                  have hOy := own_later3 HO.out hn1
                  go_wp2_with (at_builtin; refine wpList_push rfl _ _ rfl n1 w.heap.size u3 noRow AC [] k1 m1 a1 l1 c1 ND rfl rfl hRy (hT.mono (HR2.out.off hBs)) (by omega) hbx.size ?_)
                  intro vv ww hRx hgx hlx
                  have HBx := Lib.hid (below_grown hbx hbx.size hlx hgx)
                  have HRx := Lib.hid hRx
                  have HOx := Lib.hid (other_stays hRy hOy hgx (by decide))
                  clear hRx hgx hlx hbx hn1 hT hRy hOy
                  go_wp2_with fail
                  go_roundw
                  case rel => exact ⟨j + 1, by omega, by go_num, by unfold Hid; rw [HE.out]; exact HRx.out, HOx.out, HBx.out⟩
                  case measure => simp [intOf]; omega
              · obtain rfl : M = j := by omega
                have HE1 : Hid (ps.take M = ps) := by unfold Hid; rw [← HM.out]; exact List.take_length
                have hSl := splitsT_len n ps
                rw [HM.out] at hSl
                obtain ⟨SA, hSA⟩ : ∃ x, L123 ++ splitsT n ps = x := ⟨_, rfl⟩
                have hSAl : SA.length ≤ 12 := by rw [← hSA, List.length_append]; omega
                have HR5 : Hid (TwoT wr w.heap.size u3 noRow SA []) := by unfold Hid; have := HR.out; rw [HE1.out, hSA] at this; exact this
                have HSA := Lib.hid hSA
                obtain ⟨w5, rfl⟩ : ∃ x : World, x = wr := ⟨_, rfl⟩
                have HO5 := Lib.hid HO.out
                have HB5 := Lib.hid HB.out
                clear hSA HR HO HB HR4 HO4 HB4 hjm
                go_wp2_with fail
                go_loopw [3, 6] (fun l i wr => ∃ j : Nat, j ≤ M ∧ i = .int .i64 j ∧ Hid (TwoT wr w.heap.size l noRow (SA ++ goodsT n (ps.take j)) []) ∧ Hid (wr.ownsRow w.heap.size 3 1 (.slice a M cap) M (cellsNt (prs ps))) ∧ Hid (Below w.heap.size w wr)) (fun _ i _ => M - (intOf i).toNat)
                case atStart => exact ⟨0, Nat.zero_le _, rfl, by unfold Hid; simpa [goodsT] using HR5.out, HO5.out, HB5.out⟩
                case round =>
                  obtain ⟨j, hj, rfl, HR, HO, HB⟩ := hrel
                  by_cases hjm : j < M
                  · obtain ⟨g, rfl⟩ := hg (by omega)
                    obtain ⟨⟨p, x⟩, hpe⟩ : ∃ pe : Nat × Nat, ps.getD j (0, 0) = pe := ⟨_, rfl⟩
                    obtain ⟨hp1, hpn, he24, hq1, hqn, ok1, ok2, ok3, ok4⟩ := HPZ.out j hjm p x hpe
                    obtain ⟨hp2, hx⟩ := HEN.out j hjm p x hpe
                    have c0 : wr.cell? ⟨g, j, none⟩ = some (.int .i64 (p : Int)) := (HO.out.cellAt j (by omega)).trans (by rw [cellsNt_at ps j (by rw [HM.out]; exact hjm), hpe])
                    have hS := goodsT_step n ps j (by rw [HM.out]; exact hjm)
                    rw [hpe] at hS
                    have hSl := goodsT_len n (ps.take j)
                    rw [List.length_take] at hSl
                    have HS := Lib.hid hS
                    obtain ⟨Q, hQ⟩ : ∃ Q, p ^ x = Q := ⟨_, rfl⟩
                    rw [hQ] at hq1 hqn ok3 ok4
                    have HQ := Lib.hid hQ
                    have HSp : Hid (Q ≠ n → goodT n (p, x) = [.node 5 n [pl Q, pl (n / Q)]]) := fun h => by unfold goodT; rw [hQ, if_neg h]
                    have HSn : Hid (Q = n → goodT n (p, x) = []) := fun h => by unfold goodT; rw [hQ, if_pos h]
                    have CT : Hid (∀ W, Calls Tryz.prog 67 #[.int .i64 5, .int .i64 n, .int .i64 Q] W (GivesD (.node 5 n [pl Q, pl (n / Q)]) W)) := fun W => ref19_two 5 n Q (n / Q) W _ _ (by omega) h2 hq1 (by omega) rfl (fun W => ref19_Plain 10 Q W ok3) (fun W => ref19_Plain 10 (n / Q) W ok4)
                    have CX : Hid (∀ W, Calls Tryz.prog 68 #[.int .i64 p, .int .i64 n] W fun e w' => e = .returned (.int .i64 (x : Nat)) ∧ W = w') := fun W => by
                      have := ref03_Times p n W hp2 (by omega) h1 h2
                      rwa [← hx] at this
                    clear hS hpe ok1 ok2 ok3 ok4 hQ hx
                    obtain ⟨S, hSS⟩ : ∃ S, goodsT n (ps.take j) = S := ⟨_, rfl⟩
                    rw [hSS] at hSl
                    have HR := HR.out
                    rw [hSS] at HR
                    have HR := Lib.hid HR
                    obtain ⟨AC, hAC⟩ : ∃ x, SA ++ S = x := ⟨_, rfl⟩
                    have hACl : AC.length ≤ 22 := by rw [← hAC, List.length_append]; omega
                    have HSS := Lib.hid hSS
                    have HAC := Lib.hid hAC
                    have HR2 : Hid (TwoT wr w.heap.size u3 noRow AC []) := by unfold Hid; rw [← hAC]; exact HR.out
                    clear hSS hAC HR
                    obtain ⟨wo, rfl⟩ : ∃ wo : World, wo = wr := ⟨_, rfl⟩
                    go_wp2_with fail
                    go_loopw [7, 8] (fun q i wi => ∃ k R : Nat, k ≤ x ∧ i = .int .i64 k ∧ q = .int .i64 R ∧ Hid (R = p ^ k) ∧ wi = wo) (fun _ i _ => x - (intOf i).toNat)
                    case atStart => exact ⟨0, 1, Nat.zero_le _, rfl, rfl, by unfold Hid; rw [Nat.pow_zero], rfl⟩
                    case round =>
                      obtain ⟨k, R, hk, rfl, rfl, HRk, hwi⟩ := hrel
                      obtain rfl : wo = wr := hwi.symm
                      by_cases hke : k < x
                      · obtain ⟨R2, hR2⟩ : ∃ R2, R * p = R2 := ⟨_, rfl⟩
                        have hR2p : R2 = p ^ (k + 1) := by rw [← hR2, HRk.out, Nat.pow_succ]
                        have hR2n : R2 ≤ n := by rw [hR2p]; exact Nat.le_trans (Nat.pow_le_pow_right hp1 (show k + 1 ≤ x by omega)) (by rw [HQ.out]; exact hqn)
                        have g1 : (R : Int) * (p : Int) = (R2 : Int) := by rw [← hR2]; simp
                        have HR2p := Lib.hid hR2p
                        clear hR2 hR2p
                        go_wp2_with fail
                        refine (CX.out _).mono ?_; rintro e s1 ⟨rfl, rfl⟩
                        go_wp2_with fail
                        go_roundw
                        case rel => exact ⟨k + 1, R2, by omega, by go_num, by first | rfl | go_num, HR2p.out, by first | rfl | trivial⟩
                        case measure => simp [intOf]; omega
                      · obtain rfl : R = Q := by rw [HRk.out, ← HQ.out, show k = x by omega]
                        obtain rfl : k = x := by omega
                        clear HRk hke
                        by_cases hpn0 : R = n
                        · have t1 : ((R : Int) != (n : Int)) = false := bfalse' (by omega)
                          have HE : Hid (SA ++ goodsT n (ps.take (j + 1)) = AC) := by unfold Hid; rw [HS.out, HSn.out hpn0, List.append_nil, HSS.out, HAC.out]
                          go_wp2_with fail
                          refine (CX.out _).mono ?_; rintro e s1 ⟨rfl, rfl⟩
                          go_wp2_with fail
                          go_roundw
                          case rel => exact ⟨j + 1, by omega, by go_num, by unfold Hid; rw [HE.out]; exact HR2.out, HO.out, HB.out⟩
                          case measure => simp [intOf]; omega
                        · have t1 : ((R : Int) != (n : Int)) = true := bdiff (by omega)
                          have t0 : ((R : Int) == (n : Int)) = false := bno (by omega)
                          obtain ⟨ND, hND⟩ : ∃ t, Tr.node 5 n [pl R, pl (n / R)] = t := ⟨_, rfl⟩
                          rw [hND] at CT
                          have HE : Hid (SA ++ goodsT n (ps.take (j + 1)) = AC ++ [ND]) := by unfold Hid; rw [HS.out, HSp.out hpn0, hND, HSS.out, ← List.append_assoc, HAC.out]
                          clear hND HSp HSn HS
                          go_wp2_with fail
                          refine (CX.out _).mono ?_; rintro e s1 ⟨rfl, rfl⟩
                          go_wp2_with fail
                          refine (CT.out _).mono ?_; rintro e n1 ⟨k1, m1, a1, l1, c1, rfl, hT, hn1⟩
                          have hbx := chain HB.out hn1
                          have hBs := HB.out.size
                          have hRy := HR2.out.below hn1
                          have hOy := own_later3 HO.out hn1
                          go_wp2_with (at_builtin; refine wpList_push rfl _ _ rfl n1 w.heap.size u3 noRow AC [] k1 m1 a1 l1 c1 ND rfl rfl hRy (hT.mono (HR2.out.off hBs)) (by omega) hbx.size ?_)
                          intro vv ww hRx hgx hlx
                          have HBx := Lib.hid (below_grown hbx hbx.size hlx hgx)
                          have HRx := Lib.hid hRx
                          have HOx := Lib.hid (other_stays hRy hOy hgx (by decide))
                          clear hRx hgx hlx hbx hn1 hT hRy hOy
                          go_wp2_with fail
                          go_roundw
                          case rel => exact ⟨j + 1, by omega, by go_num, by unfold Hid; rw [HE.out]; exact HRx.out, HOx.out, HBx.out⟩
                          case measure => simp [intOf]; omega
                  · obtain rfl : M = j := by omega
                    have HE1 : Hid (ps.take M = ps) := by unfold Hid; rw [← HM.out]; exact List.take_length
                    have hGl := goodsT_len n ps
                    rw [HM.out] at hGl
                    obtain ⟨AC3, hAC3⟩ : ∃ x, SA ++ goodsT n ps = x := ⟨_, rfl⟩
                    have hA3 : AC3.length ≤ 20 := by rw [← hAC3, List.length_append]; omega
                    have HR3 : Hid (TwoT wr w.heap.size u3 noRow AC3 []) := by unfold Hid; have := HR.out; rw [HE1.out, hAC3] at this; exact this
                    have HL : Hid (listT n = (AC3 ++ raderT n) ++ blueT n) := by unfold Hid; rw [HLT.out, HLL.out, ← List.append_assoc L123, HSA.out, hAC3]
                    have CO6 : Hid (∀ (k' n' : Int) (a' : Option Addr) (m' c' : Nat) (w : World), Calls Tryz.prog 70 #[.int .i64 6, .int .i64 n, .agg #[.int .i64 k', .int .i64 n', .slice a' m' c']] w fun e w' => ∃ b T, e = .returned (.agg #[.int .i64 6, .int .i64 n, .slice (some ⟨b, 0, none⟩) 1 1]) ∧ w.heap.size ≤ b ∧ w'.heap[b]? = some (.cells #[.int .i64 k', .int .i64 n', .slice a' m' c'] T (0, 0)) ∧ Below w.heap.size w w') := fun k' n' a' m' c' w => ref19_one 6 n k' n' a' m' c' w
                    have CO7 : Hid (∀ (k' n' : Int) (a' : Option Addr) (m' c' : Nat) (w : World), Calls Tryz.prog 70 #[.int .i64 7, .int .i64 n, .agg #[.int .i64 k', .int .i64 n', .slice a' m' c']] w fun e w' => ∃ b T, e = .returned (.agg #[.int .i64 7, .int .i64 n, .slice (some ⟨b, 0, none⟩) 1 1]) ∧ w.heap.size ≤ b ∧ w'.heap[b]? = some (.cells #[.int .i64 k', .int .i64 n', .slice a' m' c'] T (0, 0)) ∧ Below w.heap.size w w') := fun k' n' a' m' c' w => ref19_one 7 n k' n' a' m' c' w
                    have hts := HTS.out
                    clear hAC3 HR HE1 HR5 HO5 HB5 HO HLT HLL HSA HTS HPZ HEN hjm
                    rcases hts with ⟨hn, hr, hb⟩ | ⟨hn, hr, A, hA, hok, hb⟩ | ⟨hn, Y, hY, hr, hb⟩
                    · have HE : Hid (listT n = AC3) := by unfold Hid; rw [HL.out, hr, hb, List.append_nil, List.append_nil]
                      subst hn
                      clear hr hb HL
                      go_wp2_with fail
                      go_ret
                      exact ⟨_, rfl, by rw [HE.out]; exact HR3.out, HB.out⟩
                    · subst hn
                      have HE : Hid (listT 2 = AC3 ++ [.node 7 2 [pl A]]) := by unfold Hid; rw [HL.out, hr, hb, List.append_nil]; rfl
                      clear hr hb HL
                      have hm1 : 2 * ((2 : Nat) : Int) = ((2 * 2 : Nat) : Int) := by omega
                      obtain ⟨m2, hm2⟩ : ∃ m2, 2 * 2 - 1 = m2 := ⟨_, rfl⟩
                      have hm3 : 2 * ((2 : Nat) : Int) - 1 = (m2 : Nat) := by omega
                      have CV : Hid (∀ W, Calls Tryz.prog 72 #[.int .i64 (3)] W fun e w' => e = .returned (.int .i64 (A : Nat)) ∧ W = w') := fun W => by
                        have := ref_Above m2 W (by omega) (by omega)
                        rw [← hm3, ← hm2, hA] at this
                        exact this
                      have CI7 : Hid (∀ W, Calls Tryz.prog 71 #[.int .i64 A] W (GivesD (pl A) W)) := fun W => ref19_Plain 10 A W hok
                      clear hA hok hm1 hm2
                      go_wp2_with fail
                      refine (CV.out _).mono ?_; rintro e s2 ⟨rfl, rfl⟩
                      go_wp2_with fail
                      refine (CI7.out _).mono ?_; rintro e p7 ⟨k7, n7, a7, m7, c7, rfl, hT7, hp7⟩
                      go_wp2_with fail
                      refine (CO7.out _ _ _ _ _ _).mono ?_; rintro e q7 ⟨b7, T7, rfl, hbb7, hxx7, hq7⟩
                      have hn7 := node_one' 7 2 (by omega) h2 hp7 hT7 hq7 hbb7 hxx7
                      have hb7a := chain HB.out hn7.1
                      have hB7 := Below.size HB.out
                      go_wp2_with (at_builtin; refine wpList_push rfl _ _ rfl q7 w.heap.size u3 noRow AC3 [] 7 2 _ 1 1 _ rfl rfl (TwoT.below HR3.out hn7.1) (hn7.2.mono (TwoT.off HR3.out hB7)) (by omega) hb7a.size ?_)
                      intro v7 w7 hR7 hg7 hl7
                      have HB7 := Lib.hid (below_grown hb7a hb7a.size hl7 hg7)
                      obtain ⟨AC7, hAC7⟩ : ∃ x, AC3 ++ [.node 7 2 [pl A]] = x := ⟨_, rfl⟩
                      rw [hAC7] at hR7
                      have hA7 : AC7.length ≤ 27 := by rw [← hAC7, List.length_append, List.length_singleton]; omega
                      have HA7 := Lib.hid hAC7
                      have HR7 := Lib.hid hR7
                      clear hAC7 hR7 hg7 hl7 hb7a hn7 hq7 hT7 hp7 hB7 hbb7 hxx7
                      go_wp2_with fail
                      go_ret
                      exact ⟨_, rfl, by rw [HE.out]; first | (rw [HA7.out]; exact HR7.out) | (rw [HA6.out, HA7.out]; exact HR7.out), HB7.out⟩
                    · rw [hY] at CFp
                      clear hY
                      cases Y with
                      | true =>
                        obtain ⟨hok6, hr⟩ := (show okF 10 (n - 1) = true ∧ raderT n = [.node 6 n [pl (n - 1)]] by simpa using hr)
                        obtain ⟨m, hm⟩ : ∃ m, n - 1 = m := ⟨_, rfl⟩
                        rw [hm] at hok6 hr
                        have e1 : (n : Int) - 1 = (m : Nat) := by omega
                        have CI6 : Hid (∀ W, Calls Tryz.prog 71 #[.int .i64 m] W (GivesD (pl m) W)) := fun W => ref19_Plain 10 m W hok6
                        clear hok6 hm
                        rcases hb with ⟨h8, A, hA, hok, hb⟩ | ⟨h8, hb⟩
                        · have HE : Hid (listT n = (AC3 ++ [.node 6 n [pl m]]) ++ [.node 7 n [pl A]]) := by unfold Hid; rw [HL.out, hr, hb]
                          clear hr hb HL
                          go_wp2_with fail
                          refine (CFp.out _).mono ?_; rintro e s1 ⟨rfl, rfl⟩
                          go_wp2_with fail
                          refine (CI6.out _).mono ?_; rintro e p6 ⟨k6, n6, a6, m6, c6, rfl, hT6, hp6⟩
                          go_wp2_with fail
                          refine (CO6.out _ _ _ _ _ _).mono ?_; rintro e q6 ⟨b6, T6, rfl, hbb6, hxx6, hq6⟩
                          have hn6 := node_one' 6 n (by omega) h2 hp6 hT6 hq6 hbb6 hxx6
                          have hb6a := chain HB.out hn6.1
                          have hB6 := Below.size HB.out
                          go_wp2_with (at_builtin; refine wpList_push rfl _ _ rfl q6 w.heap.size u3 noRow AC3 [] 6 n _ 1 1 _ rfl rfl (TwoT.below HR3.out hn6.1) (hn6.2.mono (TwoT.off HR3.out hB6)) (by omega) hb6a.size ?_)
                          intro v6 w6 hR6 hg6 hl6
                          have HB6 := Lib.hid (below_grown hb6a hb6a.size hl6 hg6)
                          obtain ⟨AC6, hAC6⟩ : ∃ x, AC3 ++ [.node 6 n [pl m]] = x := ⟨_, rfl⟩
                          rw [hAC6] at hR6
                          have hA6 : AC6.length ≤ 26 := by rw [← hAC6, List.length_append, List.length_singleton]; omega
                          have HA6 := Lib.hid hAC6
                          have HR6 := Lib.hid hR6
                          clear hAC6 hR6 hg6 hl6 hb6a hn6 hq6 hT6 hp6 hB6 hbb6 hxx6
                          go_wp2_with fail
                          have hm1 : 2 * (n : Int) = ((2 * n : Nat) : Int) := by omega
                          obtain ⟨m2, hm2⟩ : ∃ m2, 2 * n - 1 = m2 := ⟨_, rfl⟩
                          have hm3 : 2 * (n : Int) - 1 = (m2 : Nat) := by omega
                          have CV : Hid (∀ W, Calls Tryz.prog 72 #[.int .i64 (2 * (n : Int) - 1)] W fun e w' => e = .returned (.int .i64 (A : Nat)) ∧ W = w') := fun W => by
                            have := ref_Above m2 W (by omega) (by omega)
                            rw [← hm3, ← hm2, hA] at this
                            exact this
                          have CI7 : Hid (∀ W, Calls Tryz.prog 71 #[.int .i64 A] W (GivesD (pl A) W)) := fun W => ref19_Plain 10 A W hok
                          clear hA hok hm1 hm2
                          refine (CV.out _).mono ?_; rintro e s2 ⟨rfl, rfl⟩
                          go_wp2_with fail
                          refine (CI7.out _).mono ?_; rintro e p7 ⟨k7, n7, a7, m7, c7, rfl, hT7, hp7⟩
                          go_wp2_with fail
                          refine (CO7.out _ _ _ _ _ _).mono ?_; rintro e q7 ⟨b7, T7, rfl, hbb7, hxx7, hq7⟩
                          have hn7 := node_one' 7 n (by omega) h2 hp7 hT7 hq7 hbb7 hxx7
                          have hb7a := chain HB6.out hn7.1
                          have hB7 := Below.size HB6.out
                          go_wp2_with (at_builtin; refine wpList_push rfl _ _ rfl q7 w.heap.size v6 noRow AC6 [] 7 n _ 1 1 _ rfl rfl (TwoT.below HR6.out hn7.1) (hn7.2.mono (TwoT.off HR6.out hB7)) (by omega) hb7a.size ?_)
                          intro v7 w7 hR7 hg7 hl7
                          have HB7 := Lib.hid (below_grown hb7a hb7a.size hl7 hg7)
                          obtain ⟨AC7, hAC7⟩ : ∃ x, AC6 ++ [.node 7 n [pl A]] = x := ⟨_, rfl⟩
                          rw [hAC7] at hR7
                          have hA7 : AC7.length ≤ 27 := by rw [← hAC7, List.length_append, List.length_singleton]; omega
                          have HA7 := Lib.hid hAC7
                          have HR7 := Lib.hid hR7
                          clear hAC7 hR7 hg7 hl7 hb7a hn7 hq7 hT7 hp7 hB7 hbb7 hxx7
                          go_wp2_with fail
                          go_ret
                          exact ⟨_, rfl, by rw [HE.out]; first | (rw [HA7.out]; exact HR7.out) | (rw [HA6.out, HA7.out]; exact HR7.out), HB7.out⟩
                        · have HE : Hid (listT n = AC3 ++ [.node 6 n [pl m]]) := by unfold Hid; rw [HL.out, hr, hb, List.append_nil]
                          clear hr hb HL
                          go_wp2_with fail
                          refine (CFp.out _).mono ?_; rintro e s1 ⟨rfl, rfl⟩
                          go_wp2_with fail
                          refine (CI6.out _).mono ?_; rintro e p6 ⟨k6, n6, a6, m6, c6, rfl, hT6, hp6⟩
                          go_wp2_with fail
                          refine (CO6.out _ _ _ _ _ _).mono ?_; rintro e q6 ⟨b6, T6, rfl, hbb6, hxx6, hq6⟩
                          have hn6 := node_one' 6 n (by omega) h2 hp6 hT6 hq6 hbb6 hxx6
                          have hb6a := chain HB.out hn6.1
                          have hB6 := Below.size HB.out
                          go_wp2_with (at_builtin; refine wpList_push rfl _ _ rfl q6 w.heap.size u3 noRow AC3 [] 6 n _ 1 1 _ rfl rfl (TwoT.below HR3.out hn6.1) (hn6.2.mono (TwoT.off HR3.out hB6)) (by omega) hb6a.size ?_)
                          intro v6 w6 hR6 hg6 hl6
                          have HB6 := Lib.hid (below_grown hb6a hb6a.size hl6 hg6)
                          obtain ⟨AC6, hAC6⟩ : ∃ x, AC3 ++ [.node 6 n [pl m]] = x := ⟨_, rfl⟩
                          rw [hAC6] at hR6
                          have hA6 : AC6.length ≤ 26 := by rw [← hAC6, List.length_append, List.length_singleton]; omega
                          have HA6 := Lib.hid hAC6
                          have HR6 := Lib.hid hR6
                          clear hAC6 hR6 hg6 hl6 hb6a hn6 hq6 hT6 hp6 hB6 hbb6 hxx6
                          go_wp2_with fail
                          go_ret
                          exact ⟨_, rfl, by rw [HE.out, HA6.out]; exact HR6.out, HB6.out⟩
                      | false =>
                        have hr : raderT n = [] := by simpa using hr
                        rcases hb with ⟨h8, A, hA, hok, hb⟩ | ⟨h8, hb⟩
                        · have HE : Hid (listT n = AC3 ++ [.node 7 n [pl A]]) := by unfold Hid; rw [HL.out, hr, hb, List.append_nil]
                          clear hr hb HL
                          go_wp2_with fail
                          refine (CFp.out _).mono ?_; rintro e s1 ⟨rfl, rfl⟩
                          go_wp2_with fail
                          have hm1 : 2 * (n : Int) = ((2 * n : Nat) : Int) := by omega
                          obtain ⟨m2, hm2⟩ : ∃ m2, 2 * n - 1 = m2 := ⟨_, rfl⟩
                          have hm3 : 2 * (n : Int) - 1 = (m2 : Nat) := by omega
                          have CV : Hid (∀ W, Calls Tryz.prog 72 #[.int .i64 (2 * (n : Int) - 1)] W fun e w' => e = .returned (.int .i64 (A : Nat)) ∧ W = w') := fun W => by
                            have := ref_Above m2 W (by omega) (by omega)
                            rw [← hm3, ← hm2, hA] at this
                            exact this
                          have CI7 : Hid (∀ W, Calls Tryz.prog 71 #[.int .i64 A] W (GivesD (pl A) W)) := fun W => ref19_Plain 10 A W hok
                          clear hA hok hm1 hm2
                          refine (CV.out _).mono ?_; rintro e s2 ⟨rfl, rfl⟩
                          go_wp2_with fail
                          refine (CI7.out _).mono ?_; rintro e p7 ⟨k7, n7, a7, m7, c7, rfl, hT7, hp7⟩
                          go_wp2_with fail
                          refine (CO7.out _ _ _ _ _ _).mono ?_; rintro e q7 ⟨b7, T7, rfl, hbb7, hxx7, hq7⟩
                          have hn7 := node_one' 7 n (by omega) h2 hp7 hT7 hq7 hbb7 hxx7
                          have hb7a := chain HB.out hn7.1
                          have hB7 := Below.size HB.out
                          go_wp2_with (at_builtin; refine wpList_push rfl _ _ rfl q7 w.heap.size u3 noRow AC3 [] 7 n _ 1 1 _ rfl rfl (TwoT.below HR3.out hn7.1) (hn7.2.mono (TwoT.off HR3.out hB7)) (by omega) hb7a.size ?_)
                          intro v7 w7 hR7 hg7 hl7
                          have HB7 := Lib.hid (below_grown hb7a hb7a.size hl7 hg7)
                          obtain ⟨AC7, hAC7⟩ : ∃ x, AC3 ++ [.node 7 n [pl A]] = x := ⟨_, rfl⟩
                          rw [hAC7] at hR7
                          have hA7 : AC7.length ≤ 27 := by rw [← hAC7, List.length_append, List.length_singleton]; omega
                          have HA7 := Lib.hid hAC7
                          have HR7 := Lib.hid hR7
                          clear hAC7 hR7 hg7 hl7 hb7a hn7 hq7 hT7 hp7 hB7 hbb7 hxx7
                          go_wp2_with fail
                          go_ret
                          exact ⟨_, rfl, by rw [HE.out]; first | (rw [HA7.out]; exact HR7.out) | (rw [HA6.out, HA7.out]; exact HR7.out), HB7.out⟩
                        · have HE : Hid (listT n = AC3) := by unfold Hid; rw [HL.out, hr, hb, List.append_nil, List.append_nil]
                          clear hr hb HL
                          go_wp2_with fail
                          refine (CFp.out _).mono ?_; rintro e s1 ⟨rfl, rfl⟩
                          go_wp2_with fail
                          go_ret
                          exact ⟨_, rfl, by rw [HE.out]; exact HR3.out, HB.out⟩
end Go.Proofs.YtlnlijeamflpiaaGreat

namespace Go.Proofs.YtlnlijeamflpiaaGreat
open Go.RowKit
set_option linter.unusedVariables false
set_option linter.unusedSimpArgs false
set_option maxRecDepth 100000
set_option maxRecDepth 20000
set_option maxHeartbeats 2000000 in
theorem ref14_For (K D : Int) (t : Tr) (k n : Int) (a : Option Addr) (m cap : Nat) (w : World) (B : Nat) (hB : B ≤ w.heap.size) (hK : -9223372036854775808 ≤ K ∧ K < 9223372036854775808) (hs : t.size ≤ 4194304) (hT : IsT w (Lt B) k n a m cap t) :
    Calls Tryz.prog 39 #[.agg #[.int .i64 K, .int .i64 D], .agg #[.int .i64 k, .int .i64 n, .slice a m cap]] w fun e w' => e = .returned (.int .i64 (forK K D t)) ∧ Below w.heap.size w w' := by
  have en := hT.en
  have CK : Hid (∀ W, Below w.heap.size w W → Calls Tryz.prog 60 #[.agg #[.int .i64 k, .int .i64 n, .slice a m cap]] W fun e w' => e = .returned (.int .i64 (chk t)) ∧ Below W.heap.size W w') := fun W hb => ref14_Check t k n a m cap W B (Nat.le_trans hB hb.size) hs (hT.below hb)
  have HF : Hid (forK K D t = if hasSz K = false then 4 else if D ≠ 0 ∧ D ≠ 1 then 2 else if chk t ≠ 0 then chk t else if n ≠ K then 8 else 0) := by unfold Hid forK; rw [en]
  rw [HF.out]
  obtain ⟨C, hC⟩ : ∃ C, chk t = C := ⟨_, rfl⟩
  rw [hC] at CK ⊢
  clear hT hs hC HF en
  obtain ⟨W0, hW0, hb0, x0, x1⟩ := key_box w K D k n a m cap 65 48
  have HW0 := Lib.hid hW0
  have HB := Lib.hid hb0
  have KX := Lib.hid x0
  have DX := Lib.hid x1
  have k0 : W0.cell? ⟨w.heap.size, 0, none⟩ = some (.int .i64 K) := block_cell x0 0
  have k1 : W0.cell? ⟨w.heap.size, 1, none⟩ = some (.int .i64 D) := block_cell x0 1
  have d0 : W0.cell? ⟨w.heap.size + 1, 0, none⟩ = some (.int .i64 k) := block_cell x1 0
  have d1 : W0.cell? ⟨w.heap.size + 1, 1, none⟩ = some (.int .i64 n) := block_cell x1 1
  have d2 : W0.cell? ⟨w.heap.size + 1, 2, none⟩ = some (.slice a m cap) := block_cell x1 2
  clear hW0 hb0 x0 x1
  by_cases hsz : hasSz K = true
  case neg =>
    have hsz' : hasSz K = false := by simpa using hsz
    have HS : Hid (∀ W, Calls Tryz.prog 18 #[.int .i64 K] W fun e w' => e = .returned (.bool false) ∧ W = w') := fun W => refHas_no K W hsz' hK
    rw [if_pos hsz']
    clear hsz hsz'
    go_enter Tryz.func39, Tryz.ntmps39
    go_wp2_with fail
    rw [HW0.out]
    refine (HS.out _).mono ?_; rintro e w1 ⟨rfl, rfl⟩
    go_wp2_with fail
    go_ret
    exact ⟨rfl, HB.out⟩
  have HS : Hid (∀ W, Calls Tryz.prog 18 #[.int .i64 K] W fun e w' => e = .returned (.bool true) ∧ W = w') := fun W => refHas_yes K W hsz
  rw [if_neg (by simp [hsz])]
  clear hsz
  by_cases hd : D ≠ 0 ∧ D ≠ 1
  · rw [if_pos hd]
    have t0 : (D != 0) = true := bdiff hd.1
    have t1 : (D != 1) = true := bdiff hd.2
    clear hd
    go_enter Tryz.func39, Tryz.ntmps39
    go_wp2_with fail
    rw [HW0.out]
    refine (HS.out _).mono ?_; rintro e w1 ⟨rfl, rfl⟩
    go_wp2_with fail
    go_ret
    exact ⟨rfl, HB.out⟩
  rw [if_neg hd]
  rcases (show D = 0 ∨ D = 1 by omega) with rfl | rfl
  all_goals
    clear hd
    rcases (show C ≠ 0 ∨ (C = 0 ∧ n ≠ K) ∨ (C = 0 ∧ n = K) by omega) with hc | ⟨hc, hn⟩ | ⟨hc, hn⟩
    · rw [if_pos hc]
      have tc : (C != 0) = true := bdiff hc
      clear hc
      go_enter Tryz.func39, Tryz.ntmps39
      go_wp2_with fail
      rw [HW0.out]
      refine (HS.out _).mono ?_; rintro e w1 ⟨rfl, rfl⟩
      go_wp2_with fail
      refine (CK.out _ HB.out).mono ?_; rintro e w2 ⟨rfl, hb⟩
      clear k0 k1 d0 d1 d2
      have KX := Lib.hid ((hb.block _ (block_lt KX.out)).trans KX.out)
      have DX := Lib.hid ((hb.block _ (block_lt DX.out)).trans DX.out)
      have HB := Lib.hid (chain HB.out hb)
      have k0 : w2.cell? ⟨w.heap.size, 0, none⟩ = some (.int .i64 K) := block_cell KX.out 0
      have k1 : w2.cell? ⟨w.heap.size, 1, none⟩ = some (.int .i64 _) := block_cell KX.out 1
      have d0 : w2.cell? ⟨w.heap.size + 1, 0, none⟩ = some (.int .i64 k) := block_cell DX.out 0
      have d1 : w2.cell? ⟨w.heap.size + 1, 1, none⟩ = some (.int .i64 n) := block_cell DX.out 1
      have d2 : w2.cell? ⟨w.heap.size + 1, 2, none⟩ = some (.slice a m cap) := block_cell DX.out 2
      clear hb
      go_wp2_with fail
      go_ret
      exact ⟨rfl, HB.out⟩
    · subst hc
      rw [if_neg (by simp), if_pos hn]
      have tn : (n != K) = true := bdiff hn
      clear hn
      go_enter Tryz.func39, Tryz.ntmps39
      go_wp2_with fail
      rw [HW0.out]
      refine (HS.out _).mono ?_; rintro e w1 ⟨rfl, rfl⟩
      go_wp2_with fail
      refine (CK.out _ HB.out).mono ?_; rintro e w2 ⟨rfl, hb⟩
      clear k0 k1 d0 d1 d2
      have KX := Lib.hid ((hb.block _ (block_lt KX.out)).trans KX.out)
      have DX := Lib.hid ((hb.block _ (block_lt DX.out)).trans DX.out)
      have HB := Lib.hid (chain HB.out hb)
      have k0 : w2.cell? ⟨w.heap.size, 0, none⟩ = some (.int .i64 K) := block_cell KX.out 0
      have k1 : w2.cell? ⟨w.heap.size, 1, none⟩ = some (.int .i64 _) := block_cell KX.out 1
      have d0 : w2.cell? ⟨w.heap.size + 1, 0, none⟩ = some (.int .i64 k) := block_cell DX.out 0
      have d1 : w2.cell? ⟨w.heap.size + 1, 1, none⟩ = some (.int .i64 n) := block_cell DX.out 1
      have d2 : w2.cell? ⟨w.heap.size + 1, 2, none⟩ = some (.slice a m cap) := block_cell DX.out 2
      clear hb
      go_wp2_with fail
      go_ret
      exact ⟨rfl, HB.out⟩
    · subst hc
      rw [if_neg (by simp), if_neg (by simp [hn])]
      have tn : (n != K) = false := bfalse hn
      clear hn
      go_enter Tryz.func39, Tryz.ntmps39
      go_wp2_with fail
      rw [HW0.out]
      refine (HS.out _).mono ?_; rintro e w1 ⟨rfl, rfl⟩
      go_wp2_with fail
      refine (CK.out _ HB.out).mono ?_; rintro e w2 ⟨rfl, hb⟩
      clear k0 k1 d0 d1 d2
      have KX := Lib.hid ((hb.block _ (block_lt KX.out)).trans KX.out)
      have DX := Lib.hid ((hb.block _ (block_lt DX.out)).trans DX.out)
      have HB := Lib.hid (chain HB.out hb)
      have k0 : w2.cell? ⟨w.heap.size, 0, none⟩ = some (.int .i64 K) := block_cell KX.out 0
      have k1 : w2.cell? ⟨w.heap.size, 1, none⟩ = some (.int .i64 _) := block_cell KX.out 1
      have d0 : w2.cell? ⟨w.heap.size + 1, 0, none⟩ = some (.int .i64 k) := block_cell DX.out 0
      have d1 : w2.cell? ⟨w.heap.size + 1, 1, none⟩ = some (.int .i64 n) := block_cell DX.out 1
      have d2 : w2.cell? ⟨w.heap.size + 1, 2, none⟩ = some (.slice a m cap) := block_cell DX.out 2
      clear hb
      go_wp2_with fail
      go_ret
      exact ⟨rfl, HB.out⟩
end Go.Proofs.YtlnlijeamflpiaaGreat

namespace Go.Proofs.YtlnlijeamflpiaaGreat
open Go.RowKit
set_option linter.unusedVariables false
set_option linter.unusedSimpArgs false
set_option maxRecDepth 100000
set_option maxRecDepth 20000
theorem chk_size {t : Tr} (h : chk t = 0) : t.size ≤ 60 := by
  unfold chk at h
  by_cases hb : bigB t = true
  · rw [if_pos hb] at h; cases h
  · unfold bigB at hb
    rw [Bool.or_eq_true, not_or, decide_eq_true_eq] at hb
    omega
theorem listB_sz {n : Nat} (h : hasSz n = true) : chk (pl n) = 0 ∧ (pl n).num = n ∧ (∀ i, i < (listT n).length → chk (Tr.kid (listT n) i) = 0 ∧ (Tr.kid (listT n) i).num = n) ∧ 1 ≤ (listT n).length ∧ (listT n).length ≤ 12 ∧ differ (listT n) = true := by
  have hk := list_sz h
  unfold listB at hk
  simp only [Bool.and_eq_true, decide_eq_true_eq] at hk
  refine ⟨hk.1.1.1.1.1, hk.1.1.1.1.2, fun i hi => ?_, hk.1.1.2, hk.1.2, hk.2⟩
  have := List.all_eq_true.1 hk.1.1.1.2 _ (Tr.kid_mem hi)
  simp only [Bool.and_eq_true, decide_eq_true_eq] at this
  exact this
theorem same_self (t : Tr) (k n : Int) (a : Option Addr) (m cap : Nat) (k' n' : Int) (a' : Option Addr) (m' cap' : Nat) (w : World) (F G : Nat → Prop) (hs : t.size ≤ 60) (hT : IsT w F k n a m cap t) (hU : IsT w G k' n' a' m' cap' t) :
    Calls Tryz.prog 36 #[.agg #[.int .i64 k, .int .i64 n, .slice a m cap], .agg #[.int .i64 k', .int .i64 n', .slice a' m' cap']] w fun e w' => e = .returned (.bool true) ∧ Below w.heap.size w w' := by
  have := ref13_Same t t k n a m cap k' n' a' m' cap' w F G (by omega) (by omega) hT hU
  rwa [Tr.cmp_self, show decide ((0 : Int) = 0) = true from rfl] at this
end Go.Proofs.YtlnlijeamflpiaaGreat
namespace Go.Proofs.YtlnlijeamflpiaaGreat
open Go.RowKit
set_option linter.unusedVariables false
set_option linter.unusedSimpArgs false
set_option maxRecDepth 20000
end Go.Proofs.YtlnlijeamflpiaaGreat

namespace Go.Proofs.YtlnlijeamflpiaaGreat
open Go.RowKit
set_option linter.unusedVariables false
set_option linter.unusedSimpArgs false
set_option maxRecDepth 100000
set_option maxRecDepth 20000
theorem TwoT.since {w : World} {B : Nat} {v : Value} {ts : List Tr} (h : TwoT w B v noRow ts []) : ∃ a cap, v = .slice a ts.length cap ∧ Kids w (Since B) a cap ts ∧ (∀ t ∈ ts, t.Ok) := by
  obtain ⟨xs, ys, h1, _, h3, _⟩ := h
  obtain ⟨a, cap, rfl, _⟩ := own_slice2 h1
  exact ⟨a, cap, rfl, kids_of_own h1 h3 rfl (fun b hb => hb.1) (fun g hg => (h1.lt g (by rw [hg]; rfl)).1), h3.ok⟩
end Go.Proofs.YtlnlijeamflpiaaGreat

namespace Go.Proofs.YtlnlijeamflpiaaGreat
open Go.RowKit
set_option linter.unusedVariables false
set_option linter.unusedSimpArgs false
set_option maxRecDepth 100000
set_option maxRecDepth 20000
theorem fin_best {w wr : World} {p Z : Nat} {x y z : Value} {T : TypeId} {l : List Int} {q : Nat} {k n : Int} {a : Option Addr} {m c : Nat} {t : Tr} (hg : w.grownBy wr (some p)) (hZ : w.heap.size ≤ Z) (hx : wr.heap[Z]? = some (.cells #[x, y, z] T (0, 0))) (hT : IsT wr (fun b => b ≠ Z) k n a m c t) (hk : Clk p l q wr) (hp : p < Z) :
    ∃ w', ((wr.setCell ⟨Z, 0, none⟩ (.int .i64 k)).setCell ⟨Z, 1, none⟩ (.int .i64 n)).setCell ⟨Z, 2, none⟩ (.slice a m c) = w' ∧ w.grownBy w' (some p) ∧ w'.cell? ⟨Z, 0, none⟩ = some (.int .i64 k) ∧ w'.cell? ⟨Z, 1, none⟩ = some (.int .i64 n) ∧ w'.cell? ⟨Z, 2, none⟩ = some (.slice a m c) ∧ IsT w' (fun _ => True) k n a m c t ∧ Clk p l q w' := by
  have h := set3 (x' := .int .i64 k) (y' := .int .i64 n) (z' := .slice a m c) hx
  have hf := fun b hb => set3_far wr Z (.int .i64 k) (.int .i64 n) (.slice a m c) b hb
  have hs := set3_size wr Z (.int .i64 k) (.int .i64 n) (.slice a m c)
  refine ⟨_, rfl, ⟨hg.os, hg.tape, hg.output, by rw [hs]; exact hg.size, fun b hb hne => (hf b (by omega)).trans (hg.block b hb hne)⟩, block_cell h 0, block_cell h 1, block_cell h 2, (hT.stay fun b hb _ => hf b hb).mono fun _ _ => trivial, ClockAt.stay hk fun b hb => hf b (by omega)⟩
/-- What choosing gives. -/
def GivesB (t : Tr) (p : Nat) (l : List Int) (q : Nat) (x : Int) (w : World) (e : Ending) (w' : World) : Prop :=
  ∃ k n a m c, e = .returned (.tuple #[.agg #[.int .i64 k, .int .i64 n, .slice a m c], .int .i64 x]) ∧ IsT w' (fun _ => True) k n a m c t ∧ Clk p l q w' ∧ w.grownBy w' (some p)
set_option maxHeartbeats 4000000 in
theorem choose_Best_no (K d : Int) (p : Nat) (l : List Int) (q : Nat) (w : World) (h : hasSz K = false) (hK : -9223372036854775808 ≤ K ∧ K < 9223372036854775808) (hk : Clk p l q w) :
    Calls Tryz.prog 37 #[.agg #[.int .i64 K, .int .i64 d], .iface 55 (.pointer (some ⟨p, 0, none⟩))] w (GivesB (.node 0 0 []) p l q 4 w) := by
  have C1 : Hid (∀ W, Calls Tryz.prog 41 #[.int .i64 K] W fun e w' => e = .returned (.bool false) ∧ W = w') := fun W => rootHas_no K W h hK
  obtain ⟨W0, hW0, hb0, x0, x1⟩ := two_boxes w #[.int .i64 K, .int .i64 d] #[.int .i64 0, .int .i64 0, .slice none 0 0] 65 48
  have hp := hk.lt
  have HW0 := Lib.hid hW0
  have D0 : W0.cell? ⟨w.heap.size, 0, none⟩ = some (.int .i64 K) := block_cell x0 0
  have D1 : W0.cell? ⟨w.heap.size, 1, none⟩ = some (.int .i64 d) := block_cell x0 1
  obtain ⟨q0, q1', q2, f0, f1, f2⟩ := zfacts x1
  have HR := Lib.hid (And.intro q0 (And.intro q1' q2))
  have HG := Lib.hid (And.intro (grown_of_below hb0 (some p)) (And.intro (isT_none (k := 0) (n := 0) W0 (fun _ => True) fits_zero fits_zero) (hk.below hb0)))
  rw [← hW0] at D0 D1 q0 q1' q2 f0 f1 f2
  clear h hk hW0 hb0 x0 x1
  go_enter Tryz.func37, Tryz.ntmps37
  go_wp2_with fail
  refine (C1.out _).mono ?_; rintro e s1 ⟨rfl, rfl⟩
  go_wp2_with fail
  rw [HW0.out]
  obtain ⟨r0, r1, r2⟩ := HR.out
  exact bodyPost_ret (v := .tuple #[.agg #[.int .i64 0, .int .i64 0, .slice none 0 0], .int .i64 4]) (by simp [results, Tryz.results37, go_sem, r0, r1, r2]) rfl ⟨0, 0, none, 0, 0, rfl, HG.out.2.1, HG.out.2.2, HG.out.1⟩
set_option maxHeartbeats 4000000 in
theorem choose_Best_arg (N : Nat) (d : Int) (p : Nat) (l : List Int) (q : Nat) (w : World) (h : hasSz N = true) (hd : d ≠ 0 ∧ d ≠ 1) (hk : Clk p l q w) (hq : q ≤ 1000) :
    Calls Tryz.prog 37 #[.agg #[.int .i64 N, .int .i64 d], .iface 55 (.pointer (some ⟨p, 0, none⟩))] w (GivesB (.node 0 0 []) p l q 2 w) := by
  have C1 : Hid (∀ W, Calls Tryz.prog 41 #[.int .i64 N] W fun e w' => e = .returned (.bool true) ∧ W = w') := fun W => rootHas_yes N W h
  have C2 : Hid (∀ W, Calls Tryz.prog 63 #[.int .i64 N] W (GivesTs2 (listT N) 0 W)) := fun W => cand_List N W h
  obtain ⟨_, _, g2, g3, g4, _⟩ := listB_sz h
  obtain ⟨ts, hts⟩ : ∃ ts, listT N = ts := ⟨_, rfl⟩
  rw [hts] at C2 g2 g3 g4
  have HSZ : Hid (∀ i, i < ts.length → (Tr.kid ts i).size ≤ 4194304) := fun i hi => by have := chk_size (g2 i hi).1; omega
  obtain ⟨L, hL⟩ : ∃ L, ts.length = L := ⟨_, rfl⟩
  rw [hL] at HSZ g3 g4
  have HLL := Lib.hid hL
  have CF : Hid (∀ W, Calls Tryz.prog 29 #[.slice none 0 0] W fun e w' => e = .returned (.tuple #[.int .i64 0, .bool false]) ∧ Below W.heap.size W w') := fun W => choose_First [] [] none 0 0 W (fun _ => True) (by omega) (fun i hi => by omega) ⟨rfl, rfl, fun i hi => by omega⟩
  obtain ⟨W0, hW0, hb0, x0, x1⟩ := two_boxes w #[.int .i64 N, .int .i64 d] #[.int .i64 0, .int .i64 0, .slice none 0 0] 65 48
  have hp := hk.lt
  have HK0 := Lib.hid (hk.below hb0)
  have HB0 := Lib.hid hb0
  have HE : Hid (errM ts d L = 2) := by unfold Hid errM; rw [if_pos hd]
  have HD := Lib.hid hd
  have D0 : W0.cell? ⟨w.heap.size, 0, none⟩ = some (.int .i64 N) := block_cell x0 0
  have D1 : W0.cell? ⟨w.heap.size, 1, none⟩ = some (.int .i64 d) := block_cell x0 1
  have hlt0 := block_lt x0
  have HW0 := Lib.hid hW0
  have X1 := Lib.hid x1
  clear hts g2 hL hb0 x0 x1 hk hd h
  rw [← hW0] at D0
  clear hW0
  go_enter Tryz.func37, Tryz.ntmps37
  go_wp2_with fail
  refine (C1.out _).mono ?_; rintro e s1 ⟨rfl, rfl⟩
  go_wp2_with fail
  rw [HW0.out]
  refine (C2.out _).mono ?_; rintro e w1 ⟨v, rfl, hT, hb1⟩
  obtain ⟨a3, c3, rfl, hK, hok⟩ := hT.since
  have hL1 := kids_isT hK hok
  have d1 : w1.cell? ⟨w.heap.size, 1, none⟩ = some (.int .i64 d) := (hb1.cell (p := ⟨w.heap.size, 1, none⟩) hlt0).trans D1
  have hs1 := HB0.out.size
  rw [HLL.out] at hL1 ⊢
  have CM : Hid (Calls Tryz.prog 32 #[.slice a3 L c3, .int .i64 d, .iface 55 (.pointer (some ⟨p, 0, none⟩))] w1 fun e w' => e = .returned (.tuple #[.slice none 0 0, .int .i64 2]) ∧ Below w1.heap.size w1 w') :=
    (choose_Measure ts a3 L c3 d p l q w1 _ (fun b hb => by unfold Since at hb; omega) HSZ.out hL1 (by omega) (HK0.out.below hb1) hq).mono fun e w' h => by
      have := h.1 (by rw [HE.out]; omega)
      rwa [HE.out] at this
  have HB1 := Lib.hid (chain HB0.out hb1)
  have X2 := Lib.hid ((hb1.block _ (block_lt X1.out)).trans X1.out)
  have HK1 := Lib.hid (HK0.out.below hb1)
  clear hK hok hL1 hb1 hT D0 D1
  go_wp2_with fail
  refine CM.out.mono ?_; rintro e w2 ⟨rfl, hb2⟩
  have HB2 := Lib.hid (chain HB1.out hb2)
  have X3 := Lib.hid ((hb2.block _ (block_lt X2.out)).trans X2.out)
  have HK2 := Lib.hid (HK1.out.below hb2)
  clear hb2 d1
  go_wp2_with fail
  refine (CF.out _).mono ?_; rintro e w3 ⟨rfl, hb3⟩
  have HB3 := Lib.hid (chain HB2.out hb3)
  have X4 := Lib.hid ((hb3.block _ (block_lt X3.out)).trans X3.out)
  have HK3 := Lib.hid (HK2.out.below hb3)
  clear hb3
  obtain ⟨q0, q1', q2, f0, f1, f2⟩ := zfacts X4.out
  obtain ⟨w', hw', hg, r0, r1, r2, hT, hkk⟩ := fin_best (l := l) (q := q) (grown_of_below HB3.out (some p)) (by omega) X4.out (isT_none (k := 0) (n := 0) w3 _ fits_zero fits_zero) HK3.out (by omega)
  have HW' := Lib.hid hw'
  have HR := Lib.hid (And.intro r0 (And.intro r1 r2))
  have HG := Lib.hid (And.intro hg (And.intro hT hkk))
  clear hw' r0 r1 r2 hg hT hkk
  go_wp2_with fail
  rw [HW'.out]
  obtain ⟨r0, r1, r2⟩ := HR.out
  exact bodyPost_ret (v := .tuple #[.agg #[.int .i64 0, .int .i64 0, .slice none 0 0], .int .i64 2]) (by simp [results, Tryz.results37, go_sem, r0, r1, r2]) rfl ⟨0, 0, none, 0, 0, rfl, HG.out.2.1, HG.out.2.2, HG.out.1⟩
set_option maxHeartbeats 4000000 in
theorem choose_Best (N : Nat) (d : Int) (p : Nat) (l : List Int) (q : Nat) (w : World) (h : hasSz N = true) (hd : d = 0 ∨ d = 1) (hk : Clk p l q w) (hq : q ≤ 1000) :
    Calls Tryz.prog 37 #[.agg #[.int .i64 N, .int .i64 d], .iface 55 (.pointer (some ⟨p, 0, none⟩))] w (GivesB (Tr.kid (listT N) (firstR (listT N) (lapsT l q (listT N).length) (listT N).length)) p l (q + 2 * (listT N).length) 0 w) := by
  have C1 : Hid (∀ W, Calls Tryz.prog 41 #[.int .i64 N] W fun e w' => e = .returned (.bool true) ∧ W = w') := fun W => rootHas_yes N W h
  have C2 : Hid (∀ W, Calls Tryz.prog 63 #[.int .i64 N] W (GivesTs2 (listT N) 0 W)) := fun W => cand_List N W h
  obtain ⟨_, _, g2, g3, g4, _⟩ := listB_sz h
  obtain ⟨ts, hts⟩ : ∃ ts, listT N = ts := ⟨_, rfl⟩
  rw [hts] at C2 g2 g3 g4 ⊢
  have HSZ : Hid (∀ i, i < ts.length → (Tr.kid ts i).size ≤ 4194304) := fun i hi => by have := chk_size (g2 i hi).1; omega
  have HE : Hid (errM ts d ts.length = 0) := by
    unfold Hid errM
    rw [if_neg (by omega), if_neg (by omega)]
    by_cases h0 : chkF ts ts.length = 0
    · exact h0
    · exfalso
      have : ∀ j, j ≤ ts.length → chkF ts j = 0 := by
        intro j
        induction j with
        | zero => intro _; rfl
        | succ j ih =>
          intro hj
          show (if chkF ts j ≠ 0 then chkF ts j else chk (Tr.kid ts j)) = 0
          rw [if_neg (by simp [ih (by omega)]), (g2 j (by omega)).1]
      exact h0 (this _ (Nat.le_refl _))
  obtain ⟨L, hL⟩ : ∃ L, ts.length = L := ⟨_, rfl⟩
  rw [hL] at HSZ g3 g4 HE ⊢
  have HLL := Lib.hid hL
  have hA := firstR_lt ts (lapsT l q L) L (by omega)
  have hFE : firstR ts (lapsT l q L) L = firstR ts (lapsT l q L) L := rfl
  obtain ⟨at', hat⟩ : ∃ x, firstR ts (lapsT l q L) L = x := ⟨_, rfl⟩
  rw [hat] at hA ⊢
  have HAT := Lib.hid hat
  obtain ⟨W0, hW0, hb0, x0, x1⟩ := two_boxes w #[.int .i64 N, .int .i64 d] #[.int .i64 0, .int .i64 0, .slice none 0 0] 65 48
  have hp := hk.lt
  have HK0 := Lib.hid (hk.below hb0)
  have HB0 := Lib.hid hb0
  have D0 : W0.cell? ⟨w.heap.size, 0, none⟩ = some (.int .i64 N) := block_cell x0 0
  have D1 : W0.cell? ⟨w.heap.size, 1, none⟩ = some (.int .i64 d) := block_cell x0 1
  have hlt0 := block_lt x0
  have hlt1 := block_lt x1
  have HW0 := Lib.hid hW0
  have X1 := Lib.hid x1
  clear hts g2 hL hb0 x0 x1 hk hd h hat hFE
  rw [← hW0] at D0
  clear hW0
  go_enter Tryz.func37, Tryz.ntmps37
  go_wp2_with fail
  refine (C1.out _).mono ?_; rintro e s1 ⟨rfl, rfl⟩
  go_wp2_with fail
  rw [HW0.out]
  refine (C2.out _).mono ?_; rintro e w1 ⟨v, rfl, hT, hb1⟩
  obtain ⟨a3, c3, rfl, hK, hok⟩ := hT.since
  have hL1 := kids_isT hK hok
  have d1 : w1.cell? ⟨w.heap.size, 1, none⟩ = some (.int .i64 d) := (hb1.cell (p := ⟨w.heap.size, 1, none⟩) hlt0).trans D1
  have hs0 := HB0.out.size
  have hs1 := hb1.size
  rw [HLL.out] at hL1 ⊢
  have CM : Hid (Calls Tryz.prog 32 #[.slice a3 L c3, .int .i64 d, .iface 55 (.pointer (some ⟨p, 0, none⟩))] w1 fun e w' => ∃ a c, e = .returned (.tuple #[.slice a L c, .int .i64 0]) ∧ IsR w' (fun b => w1.heap.size ≤ b) a L ts (lapsT l q L) ∧ Clk p l (q + 2 * L) w' ∧ w1.grownBy w' (some p)) :=
    (choose_Measure ts a3 L c3 d p l q w1 _ (fun b hb => by unfold Since at hb; omega) HSZ.out hL1 (by omega) (HK0.out.below hb1) hq).mono fun e w' h => h.2 HE.out
  have HB1 := Lib.hid (chain HB0.out hb1)
  have X2 := Lib.hid ((hb1.block _ (block_lt X1.out)).trans X1.out)
  clear hK hok hL1 hb1 hT D0 D1
  go_wp2_with fail
  refine CM.out.mono ?_; rintro e w2 ⟨a4, c4, rfl, hR2, hk2, hg2⟩
  have HG2 := Lib.hid ((grown_of_below HB1.out (some p)).trans hg2)
  have X3 := Lib.hid ((hg2.block _ (block_lt X2.out) (fun e => by injection e with e; omega)).trans X2.out)
  have CF : Hid (Calls Tryz.prog 29 #[.slice a4 L c4] w2 fun e w' => e = .returned (.tuple #[.int .i64 (at' : Nat), .bool true]) ∧ Below w2.heap.size w2 w') := by
    have := choose_First ts (lapsT l q L) a4 L c4 w2 _ (by omega) HSZ.out hR2
    rwa [HAT.out, decide_eq_true (show 0 < L by omega)] at this
  have HR2 := Lib.hid hR2
  have HK2 := Lib.hid hk2
  have hs2 := hg2.size
  clear hR2 hk2 hg2 d1
  go_wp2_with fail
  refine CF.out.mono ?_; rintro e w3 ⟨rfl, hb3⟩
  have HG3 := Lib.hid (HG2.out.trans (grown_of_below hb3 (some p)))
  have X4 := Lib.hid ((hb3.block _ (block_lt X3.out)).trans X3.out)
  have HK3 := Lib.hid (HK2.out.below hb3)
  obtain ⟨b, off, k1, n1, a1, m1, c1, rfl, hbl, u0, u1, u2, u3, hT⟩ := (HR2.out.below hb3).at_ at' hA
  have i0 : (0 : Int) ≤ (at' : Int) := by omega
  have i1 : (at' : Int) < (L : Int) := by omega
  clear hb3
  obtain ⟨q0, q1', q2, f0, f1, f2⟩ := zfacts X4.out
  obtain ⟨w', hw', hg, r0, r1, r2, hT', hkk⟩ := fin_best (l := l) (q := q + 2 * L) HG3.out (by omega) X4.out (hT.mono (G := fun b => b ≠ w.heap.size + 1) fun b hb => by have : w1.heap.size ≤ b := hb; omega) HK3.out (by omega)
  have HW' := Lib.hid hw'
  have HR := Lib.hid (And.intro r0 (And.intro r1 r2))
  have HG := Lib.hid (And.intro hg (And.intro hT' hkk))
  clear hw' r0 r1 r2 hg hT' hkk hT
  go_wp2_with fail
  rw [HW'.out]
  obtain ⟨r0, r1, r2⟩ := HR.out
  exact bodyPost_ret (v := .tuple #[.agg #[.int .i64 k1, .int .i64 n1, .slice a1 m1 c1], .int .i64 0]) (by simp [results, Tryz.results37, go_sem, r0, r1, r2]) rfl ⟨k1, n1, a1, m1, c1, rfl, HG.out.2.1, HG.out.2.2, HG.out.1⟩
end Go.Proofs.YtlnlijeamflpiaaGreat

namespace Go.Proofs.YtlnlijeamflpiaaGreat
open Go.RowKit
set_option linter.unusedVariables false
set_option linter.unusedSimpArgs false
set_option maxRecDepth 100000
set_option maxRecDepth 20000
theorem ex_21 : (Tr.kid (listT 5) (firstR (listT 5) (lapsT [0, 4, 0, 2, 0, 2, 0, 9] 0 (listT 5).length) (listT 5).length)).kind = 2 := by decide +kernel
set_option maxHeartbeats 4000000 in
theorem live21 (w : World) : Calls Tryz.prog 27 #[] w fun e w' => e = .returned (.bool true) ∧ Below w.heap.size w w' := by
  have HX := Lib.hid ex_21
  obtain ⟨t, ht⟩ : ∃ t, Tr.kid (listT 5) (firstR (listT 5) (lapsT [0, 4, 0, 2, 0, 2, 0, 9] 0 (listT 5).length) (listT 5).length) = t := ⟨_, rfl⟩
  obtain ⟨q, hq⟩ : ∃ q, 0 + 2 * (listT 5).length = q := ⟨_, rfl⟩
  have CB : Hid (∀ p W, Clk p [0, 4, 0, 2, 0, 2, 0, 9] 0 W → Calls Tryz.prog 37 #[.agg #[.int .i64 5, .int .i64 0], .iface 55 (.pointer (some ⟨p, 0, none⟩))] W (GivesB t p [0, 4, 0, 2, 0, 2, 0, 9] q 0 W)) := fun p W h => by
    have := choose_Best 5 0 p _ 0 W has_5 (.inl rfl) h (by omega)
    rwa [ht, hq] at this
  rw [ht] at HX
  have CN : Hid (∀ W : World, Calls Tryz.prog 31 #[.slice (some ⟨W.heap.size, 0, none⟩) 8 8] (W.alloc (.cells #[.int .i64 0, .int .i64 4, .int .i64 0, .int .i64 2, .int .i64 0, .int .i64 2, .int .i64 0, .int .i64 9] 3)) fun e w' => ∃ p, e = .returned (.pointer (some ⟨p, 0, none⟩)) ∧ W.heap.size ≤ p ∧ Clk p [0, 4, 0, 2, 0, 2, 0, 9] 0 w' ∧ Below W.heap.size W w') := fun W =>
    (tick_New (some ⟨W.heap.size, 0, none⟩) 8 8 [0, 4, 0, 2, 0, 2, 0, 9] (W.alloc (.cells #[.int .i64 0, .int .i64 4, .int .i64 0, .int .i64 2, .int .i64 0, .int .i64 2, .int .i64 0, .int .i64 9] 3)) (row_new .i64 W 3 [0, 4, 0, 2, 0, 2, 0, 9] (by
      intro z hz
      simp only [List.mem_cons, List.not_mem_nil, or_false] at hz
      rcases hz with rfl | rfl | rfl | rfl | rfl | rfl | rfl | rfl <;> exact fits_i64.2 (by omega)) (by simp)) rfl (by omega) ⟨Nat.le_refl _, fun h => by cases h⟩).mono fun e w' ⟨p, h1, h2, h3, h4⟩ => ⟨p, h1, by have : W.heap.size < (W.alloc (.cells #[.int .i64 0, .int .i64 4, .int .i64 0, .int .i64 2, .int .i64 0, .int .i64 2, .int .i64 0, .int .i64 9] 3)).heap.size := (by simp); omega, h3, chain ((Below.refl _ _).alloc (Nat.le_refl _) _) h4⟩
  clear ht hq
  go_enter Tryz.func27, Tryz.ntmps27
  go_wp2_with fail
  refine (CN.out _).mono ?_; rintro e w1 ⟨p, rfl, hp, hk, hb1⟩
  have HK := Lib.hid hk
  have HB1 := Lib.hid hb1
  clear hk hb1
  go_wp2_with fail
  refine (CB.out _ _ HK.out).mono ?_; rintro e w2 ⟨k, n, a, m, c, rfl, hT, hk2, hg2⟩
  obtain rfl : k = 2 := by rw [hT.ek]; exact HX.out
  have HB2 : Hid (Below w.heap.size w w2) := HB1.out.grown hg2 HB1.out.size (fun k hk => by have := Option.some.inj hk; omega)
  clear hT hk2 hg2
  obtain ⟨W3, hW3, hb3, x3⟩ := box_any w2 #[.int .i64 2, .int .i64 n, .slice a m c] 48
  have HB3 := Lib.hid (chain HB2.out hb3)
  have D0 : W3.cell? ⟨w2.heap.size, 0, none⟩ = some (.int .i64 2) := block_cell x3 0
  rw [← hW3] at D0
  have HW3 := Lib.hid hW3
  clear hb3 x3 hW3
  go_wp2_with fail
  go_ret
  exact ⟨rfl, by rw [HW3.out]; exact HB3.out⟩
/-- append of a run of an argument's tree: in a region that draws. -/
theorem kids_cells {w : World} {F : Nat → Prop} {a : Option Addr} {m cap : Nat} {ts : List Tr} (h : IsL w F a m cap ts) (i : Nat) (hi : i < m) : ∃ b off k' n' a' m' c', a = some ⟨b, off, none⟩ ∧ F b ∧ b < w.heap.size ∧ (w.cell? ⟨b, off + i * 3, none⟩ = some (.int .i64 k') ∧ w.cell? ⟨b, off + i * 3 + 1, none⟩ = some (.int .i64 n') ∧ w.cell? ⟨b, off + i * 3 + 2, none⟩ = some (.slice a' m' c')) ∧ IsT w F k' n' a' m' c' (Tr.kid ts i) := by
  obtain ⟨b, off, k', n', a', m', c', h0, h1, h2, h3, h4, h5, h6⟩ := h.kid i hi
  exact ⟨b, off, k', n', a', m', c', h0, h1, h2, ⟨h3, h4, h5⟩, h6⟩
end Go.Proofs.YtlnlijeamflpiaaGreat

