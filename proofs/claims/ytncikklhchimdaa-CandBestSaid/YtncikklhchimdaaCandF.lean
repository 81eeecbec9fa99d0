/- Plans that are worth a trial: those without kids, those of two sizes, by the program. -/
import Derived.Test.YtncikklhchimdaaCandA
import Derived.Test.YtncikklhchimdaaCandE
import Derived.Deep.Cut
import Derived.Deep.CutRange
import Derived.Test.YtncikklhchimdaaSzA
namespace Go.Proofs.Ytncikklhchimdaa
open Go.RowKit
set_option linter.unusedVariables false
set_option linter.unusedSimpArgs false
set_option maxRecDepth 100000
set_option maxRecDepth 20000

theorem TwoT.off {w : World} {B : Nat} {v u : Value} {ts us : List Tr} (h : TwoT w B v u ts us) (hB : B ≤ w.heap.size) (b : Nat) (hb : w.heap.size ≤ b) : Off B v u b := by
  obtain ⟨xs, ys, h1, h2, _⟩ := h
  refine ⟨Nat.le_trans hB hb, fun e => ?_, fun e => ?_⟩
  · have := (h1.lt b e).2; omega
  · have := (h2.lt b e).2; omega
theorem node_two {w2 wa wb w4 : World} {ka na kb nb : Int} {aa ab : Option Addr} {ma ca mb cb : Nat} {T : TypeId} {t u : Tr} (K n : Nat) (hK : K ≤ 7) (hn : n ≤ 16777216) (hba : Below w2.heap.size w2 wa) (hTa : IsT wa (Since w2.heap.size) ka na aa ma ca t) (hbb : Below wa.heap.size wa wb) (hTb : IsT wb (Since wa.heap.size) kb nb ab mb cb u)
    (hb4 : Below (wb.alloc (.cells #[.int .i64 ka, .int .i64 na, .slice aa ma ca, .int .i64 kb, .int .i64 nb, .slice ab mb cb] T)).heap.size (wb.alloc (.cells #[.int .i64 ka, .int .i64 na, .slice aa ma ca, .int .i64 kb, .int .i64 nb, .slice ab mb cb] T)) w4) :
    Below w2.heap.size w2 w4 ∧ IsT w4 (Since w2.heap.size) K n (some ⟨wb.heap.size, 0, none⟩) 2 2 (.node K n [t, u]) := by
  obtain ⟨hb, k4, hbs, hA, hB⟩ := two_fin hba hbb hb4
  have hTA := hA _ _ _ _ _ _ hTa
  have hTB := hB _ _ _ _ _ _ hTb
  exact ⟨hb, isT_node (k := K) (n := n) (by rw [fits_i64]; omega) (by rw [fits_i64]; omega) (ok_two hTA.ok hTB.ok) (kids_twoT hbs k4 hTA hTB)⟩
theorem node_one {w2 wa w4 : World} {ka na : Int} {aa : Option Addr} {ma ca : Nat} {T : TypeId} {t : Tr} (K n : Nat) (hK : K ≤ 7) (hn : n ≤ 16777216) (hba : Below w2.heap.size w2 wa) (hTa : IsT wa (Since w2.heap.size) ka na aa ma ca t)
    (hb4 : Below (wa.alloc (.cells #[.int .i64 ka, .int .i64 na, .slice aa ma ca] T)).heap.size (wa.alloc (.cells #[.int .i64 ka, .int .i64 na, .slice aa ma ca] T)) w4) :
    Below w2.heap.size w2 w4 ∧ IsT w4 (Since w2.heap.size) K n (some ⟨wa.heap.size, 0, none⟩) 1 1 (.node K n [t]) := by
  have hal : Below wa.heap.size wa (wa.alloc (.cells #[.int .i64 ka, .int .i64 na, .slice aa ma ca] T)) := (Below.refl _ _).alloc (Nat.le_refl _) _
  have hx : (wa.alloc (.cells #[.int .i64 ka, .int .i64 na, .slice aa ma ca] T)).heap[wa.heap.size]? = some (.cells #[.int .i64 ka, .int .i64 na, .slice aa ma ca] T (0, 0)) := block_new rfl
  have h3 := chain hal hb4
  have hTA := hTa.below h3
  exact ⟨chain hba h3, isT_node (k := K) (n := n) (by rw [fits_i64]; omega) (by rw [fits_i64]; omega) (by intro x hx; rw [List.mem_singleton.1 hx]; exact hTA.ok) (kids_one hba.size ((hb4.block _ (block_lt hx)).trans hx) hTA)⟩
theorem splitT_len (n : Nat) (p : Nat × Nat) : (splitT n p).length ≤ 1 := by unfold splitT; split <;> simp
theorem goodT_len (n : Nat) (p : Nat × Nat) : (goodT n p).length ≤ 1 := by unfold goodT; split <;> simp
theorem splitsT_len (n : Nat) (ps : List (Nat × Nat)) : (splitsT n ps).length ≤ ps.length := by
  induction ps with
  | nil => simp [splitsT]
  | cons p ps ih => have := splitT_len n p; simp only [splitsT, List.flatMap_cons, List.length_append, List.length_cons] at *; omega
theorem goodsT_len (n : Nat) (ps : List (Nat × Nat)) : (goodsT n ps).length ≤ ps.length := by
  induction ps with
  | nil => simp [goodsT]
  | cons p ps ih => have := goodT_len n p; simp only [goodsT, List.flatMap_cons, List.length_append, List.length_cons] at *; omega
theorem take_snoc {α : Type} (ps : List α) (j : Nat) (d : α) (h : j < ps.length) : ps.take (j + 1) = ps.take j ++ [ps.getD j d] := by
  rw [List.take_succ_eq_append_getElem h]
  simp [h]
theorem splitsT_step (n : Nat) (ps : List (Nat × Nat)) (j : Nat) (h : j < ps.length) : splitsT n (ps.take (j + 1)) = splitsT n (ps.take j) ++ splitT n (ps.getD j (0, 0)) := by
  rw [take_snoc ps j (0, 0) h]; simp [splitsT]
theorem goodsT_step (n : Nat) (ps : List (Nat × Nat)) (j : Nat) (h : j < ps.length) : goodsT n (ps.take (j + 1)) = goodsT n (ps.take j) ++ goodT n (ps.getD j (0, 0)) := by
  rw [take_snoc ps j (0, 0) h]; simp [goodsT]
/-- What is known of a prime of a size. -/
theorem prime_sz {n : Nat} (h : hasSz n = true) (j : Nat) (hj : j < (facS n).length) (p e : Nat) (hp : (facS n).getD j (0, 0) = (p, e)) : 1 ≤ p ∧ p ≤ n ∧ e ≤ 24 ∧ 1 ≤ p ^ e ∧ p ^ e ≤ n ∧ okF 10 p = true ∧ okF 10 (n / p) = true ∧ okF 10 (p ^ e) = true ∧ okF 10 (n / p ^ e) = true := by
  have hk := kids_sz h
  unfold kidsB at hk
  simp only [Bool.and_eq_true] at hk
  have := List.all_eq_true.1 hk.1.1.1.2 (p, e) (by
    have e : (facS n).getD j (0, 0) = (facS n)[j] := by simp [hj]
    rw [← hp, e]; exact List.getElem_mem hj)
  simp only [Bool.and_eq_true, decide_eq_true_eq] at this
  exact ⟨this.1.1.1.1.1.1.1.1.1, this.1.1.1.1.1.1.1.1.2, this.1.1.1.1.1.1.1.2, this.1.1.1.1.1.1.2, this.1.1.1.1.1.2, this.1.1.1.1.2, this.1.1.1.2, this.1.1.2, this.1.2⟩

set_option maxHeartbeats 4000000 in
theorem cand_leaves (n : Nat) (w : World) (h1 : 1 ≤ n) (h2 : n ≤ 16777216) : Calls Try.prog 73 #[.int .i64 n] w (GivesTs (leavesT n) w) := by
  obtain ⟨B, hB⟩ : ∃ B, hasP2 (n : Int) = B := ⟨_, rfl⟩
  have CP : Hid (∀ W, Calls Try.prog 61 #[.int .i64 n] W fun e w' => e = .returned (.bool B) ∧ W = w') := fun W => by rw [← hB]; exact stock_Has n W (by omega)
  have CS : Hid (∀ W, Calls Try.prog 60 #[.int .i64 n] W fun e w' => e = .returned (.bool (decide (n ≤ 5))) ∧ W = w') := fun W => by
    have := small_Has n W
    rwa [show decide (1 ≤ (n : Int) ∧ (n : Int) ≤ 5) = decide (n ≤ 5) by rw [decide_eq_decide]; omega] at this
  rcases (show n = 1 ∨ (2 ≤ n ∧ n ≤ 5) ∨ (6 ≤ n ∧ n ≤ 64) ∨ 65 ≤ n by omega) with h3 | ⟨h3, h4⟩ | ⟨h3, h4⟩ | h3
  · subst h3
    have HE : Hid (leavesT 1 = [.node 1 (1 : Nat) []]) := by unfold Hid leavesT; simp
    clear hB
    go_enter Try.func73, Try.ntmps73
    go_wp2_with fail
    refine (cand_node _ _ _ _ _ _).mono ?_; rintro e n1 ⟨rfl, hn1⟩
    have hb1a := hn1
    have hR1a := TwoT.none n1 w.heap.size
    clear hn1
    go_wp2_with (at_builtin; refine wpList_push rfl _ _ rfl n1 w.heap.size noRow noRow [] [] 1 1 none 0 0 (.node 1 1 []) rfl rfl hR1a (isT_none _ _ (by rw [fits_i64]; omega) (by rw [fits_i64]; omega)) (by simp) hb1a.size ?_)
    intro v1 w1 hR1 hg1 hl1
    have hb1 := below_grown hb1a hb1a.size hl1 hg1
    clear hb1a hR1a hg1 hl1
    go_wp2_with fail
    go_ret
    exact ⟨_, rfl, by rw [HE.out]; exact hR1, hb1⟩
  · cases B
    · have HE : Hid (leavesT n = [.node 1 (n : Nat) [], .node 2 (n : Nat) []]) := by unfold Hid leavesT; rw [hB, if_pos (show n ≤ 64 by omega), if_pos (show 2 ≤ n ∧ n ≤ 5 by omega), if_neg (show ¬ (2 ≤ n ∧ false = true) by simp)]; rfl
      clear hB
      have s5 : decide (n ≤ 5) = true := by simp; omega
      go_enter Try.func73, Try.ntmps73
      go_wp2_with fail
      refine (cand_node _ _ _ _ _ _).mono ?_; rintro e n1 ⟨rfl, hn1⟩
      have hb1a := hn1
      have hR1a := TwoT.none n1 w.heap.size
      clear hn1
      go_wp2_with (at_builtin; refine wpList_push rfl _ _ rfl n1 w.heap.size noRow noRow [] [] 1 n none 0 0 (.node 1 n []) rfl rfl hR1a (isT_none _ _ (by rw [fits_i64]; omega) (by rw [fits_i64]; omega)) (by simp) hb1a.size ?_)
      intro v1 w1 hR1 hg1 hl1
      have hb1 := below_grown hb1a hb1a.size hl1 hg1
      clear hb1a hR1a hg1 hl1
      go_wp2_with fail
      refine (CS.out _).mono ?_; rintro e s1 ⟨rfl, rfl⟩
      rw [s5]
      go_wp2_with fail
      refine (cand_node _ _ _ _ _ _).mono ?_; rintro e n2 ⟨rfl, hn2⟩
      have hb2a := chain hb1 hn2
      have hR2a := hR1.below hn2
      clear hn2
      go_wp2_with (at_builtin; refine wpList_push rfl _ _ rfl n2 w.heap.size v1 noRow [.node 1 n []] [] 2 n none 0 0 (.node 2 n []) rfl rfl hR2a (isT_none _ _ (by rw [fits_i64]; omega) (by rw [fits_i64]; omega)) (by simp) hb2a.size ?_)
      intro v2 w2 hR2 hg2 hl2
      have hb2 := below_grown hb2a hb2a.size hl2 hg2
      clear hb2a hR2a hg2 hl2
      go_wp2_with fail
      refine (CP.out _).mono ?_; rintro e s2 ⟨rfl, rfl⟩
      go_wp2_with fail
      go_ret
      exact ⟨_, rfl, by rw [HE.out]; exact hR2, hb2⟩
    · have HE : Hid (leavesT n = [.node 1 (n : Nat) [], .node 2 (n : Nat) [], .node 3 (n : Nat) []]) := by unfold Hid leavesT; rw [hB, if_pos (show n ≤ 64 by omega), if_pos (show 2 ≤ n ∧ n ≤ 5 by omega), if_pos (show 2 ≤ n ∧ true = true from ⟨by omega, rfl⟩)]; rfl
      clear hB
      have s5 : decide (n ≤ 5) = true := by simp; omega
      go_enter Try.func73, Try.ntmps73
      go_wp2_with fail
      refine (cand_node _ _ _ _ _ _).mono ?_; rintro e n1 ⟨rfl, hn1⟩
      have hb1a := hn1
      have hR1a := TwoT.none n1 w.heap.size
      clear hn1
      go_wp2_with (at_builtin; refine wpList_push rfl _ _ rfl n1 w.heap.size noRow noRow [] [] 1 n none 0 0 (.node 1 n []) rfl rfl hR1a (isT_none _ _ (by rw [fits_i64]; omega) (by rw [fits_i64]; omega)) (by simp) hb1a.size ?_)
      intro v1 w1 hR1 hg1 hl1
      have hb1 := below_grown hb1a hb1a.size hl1 hg1
      clear hb1a hR1a hg1 hl1
      go_wp2_with fail
      refine (CS.out _).mono ?_; rintro e s1 ⟨rfl, rfl⟩
      rw [s5]
      go_wp2_with fail
      refine (cand_node _ _ _ _ _ _).mono ?_; rintro e n2 ⟨rfl, hn2⟩
      have hb2a := chain hb1 hn2
      have hR2a := hR1.below hn2
      clear hn2
      go_wp2_with (at_builtin; refine wpList_push rfl _ _ rfl n2 w.heap.size v1 noRow [.node 1 n []] [] 2 n none 0 0 (.node 2 n []) rfl rfl hR2a (isT_none _ _ (by rw [fits_i64]; omega) (by rw [fits_i64]; omega)) (by simp) hb2a.size ?_)
      intro v2 w2 hR2 hg2 hl2
      have hb2 := below_grown hb2a hb2a.size hl2 hg2
      clear hb2a hR2a hg2 hl2
      go_wp2_with fail
      refine (CP.out _).mono ?_; rintro e s2 ⟨rfl, rfl⟩
      go_wp2_with fail
      refine (cand_node _ _ _ _ _ _).mono ?_; rintro e n3 ⟨rfl, hn3⟩
      have hb3a := chain hb2 hn3
      have hR3a := hR2.below hn3
      clear hn3
      go_wp2_with (at_builtin; refine wpList_push rfl _ _ rfl n3 w.heap.size v2 noRow [.node 1 n [], .node 2 n []] [] 3 n none 0 0 (.node 3 n []) rfl rfl hR3a (isT_none _ _ (by rw [fits_i64]; omega) (by rw [fits_i64]; omega)) (by simp) hb3a.size ?_)
      intro v3 w3 hR3 hg3 hl3
      have hb3 := below_grown hb3a hb3a.size hl3 hg3
      clear hb3a hR3a hg3 hl3
      go_wp2_with fail
      go_ret
      exact ⟨_, rfl, by rw [HE.out]; exact hR3, hb3⟩
  · cases B
    · have HE : Hid (leavesT n = [.node 1 (n : Nat) []]) := by unfold Hid leavesT; rw [hB, if_pos (show n ≤ 64 by omega), if_neg (show ¬ (2 ≤ n ∧ n ≤ 5) by omega), if_neg (show ¬ (2 ≤ n ∧ false = true) by simp)]; rfl
      clear hB
      have s5 : decide (n ≤ 5) = false := by simp; omega
      go_enter Try.func73, Try.ntmps73
      go_wp2_with fail
      refine (cand_node _ _ _ _ _ _).mono ?_; rintro e n1 ⟨rfl, hn1⟩
      have hb1a := hn1
      have hR1a := TwoT.none n1 w.heap.size
      clear hn1
      go_wp2_with (at_builtin; refine wpList_push rfl _ _ rfl n1 w.heap.size noRow noRow [] [] 1 n none 0 0 (.node 1 n []) rfl rfl hR1a (isT_none _ _ (by rw [fits_i64]; omega) (by rw [fits_i64]; omega)) (by simp) hb1a.size ?_)
      intro v1 w1 hR1 hg1 hl1
      have hb1 := below_grown hb1a hb1a.size hl1 hg1
      clear hb1a hR1a hg1 hl1
      go_wp2_with fail
      refine (CS.out _).mono ?_; rintro e s1 ⟨rfl, rfl⟩
      rw [s5]
      go_wp2_with fail
      refine (CP.out _).mono ?_; rintro e s2 ⟨rfl, rfl⟩
      go_wp2_with fail
      go_ret
      exact ⟨_, rfl, by rw [HE.out]; exact hR1, hb1⟩
    · have HE : Hid (leavesT n = [.node 1 (n : Nat) [], .node 3 (n : Nat) []]) := by unfold Hid leavesT; rw [hB, if_pos (show n ≤ 64 by omega), if_neg (show ¬ (2 ≤ n ∧ n ≤ 5) by omega), if_pos (show 2 ≤ n ∧ true = true from ⟨by omega, rfl⟩)]; rfl
      clear hB
      have s5 : decide (n ≤ 5) = false := by simp; omega
      go_enter Try.func73, Try.ntmps73
      go_wp2_with fail
      refine (cand_node _ _ _ _ _ _).mono ?_; rintro e n1 ⟨rfl, hn1⟩
      have hb1a := hn1
      have hR1a := TwoT.none n1 w.heap.size
      clear hn1
      go_wp2_with (at_builtin; refine wpList_push rfl _ _ rfl n1 w.heap.size noRow noRow [] [] 1 n none 0 0 (.node 1 n []) rfl rfl hR1a (isT_none _ _ (by rw [fits_i64]; omega) (by rw [fits_i64]; omega)) (by simp) hb1a.size ?_)
      intro v1 w1 hR1 hg1 hl1
      have hb1 := below_grown hb1a hb1a.size hl1 hg1
      clear hb1a hR1a hg1 hl1
      go_wp2_with fail
      refine (CS.out _).mono ?_; rintro e s1 ⟨rfl, rfl⟩
      rw [s5]
      go_wp2_with fail
      refine (CP.out _).mono ?_; rintro e s2 ⟨rfl, rfl⟩
      go_wp2_with fail
      refine (cand_node _ _ _ _ _ _).mono ?_; rintro e n2 ⟨rfl, hn2⟩
      have hb2a := chain hb1 hn2
      have hR2a := hR1.below hn2
      clear hn2
      go_wp2_with (at_builtin; refine wpList_push rfl _ _ rfl n2 w.heap.size v1 noRow [.node 1 n []] [] 3 n none 0 0 (.node 3 n []) rfl rfl hR2a (isT_none _ _ (by rw [fits_i64]; omega) (by rw [fits_i64]; omega)) (by simp) hb2a.size ?_)
      intro v2 w2 hR2 hg2 hl2
      have hb2 := below_grown hb2a hb2a.size hl2 hg2
      clear hb2a hR2a hg2 hl2
      go_wp2_with fail
      go_ret
      exact ⟨_, rfl, by rw [HE.out]; exact hR2, hb2⟩
  · cases B
    · have HE : Hid (leavesT n = []) := by unfold Hid leavesT; rw [hB, if_neg (show ¬ n ≤ 64 by omega), if_neg (show ¬ (2 ≤ n ∧ n ≤ 5) by omega), if_neg (show ¬ (2 ≤ n ∧ false = true) by simp)]; rfl
      clear hB
      have s5 : decide (n ≤ 5) = false := by simp; omega
      go_enter Try.func73, Try.ntmps73
      go_wp2_with fail
      refine (CS.out _).mono ?_; rintro e s1 ⟨rfl, rfl⟩
      rw [s5]
      go_wp2_with fail
      refine (CP.out _).mono ?_; rintro e s2 ⟨rfl, rfl⟩
      go_wp2_with fail
      go_ret
      exact ⟨noRow, rfl, by rw [HE.out]; exact TwoT.none _ _, Below.refl _ _⟩
    · have HE : Hid (leavesT n = [.node 3 (n : Nat) []]) := by unfold Hid leavesT; rw [hB, if_neg (show ¬ n ≤ 64 by omega), if_neg (show ¬ (2 ≤ n ∧ n ≤ 5) by omega), if_pos (show 2 ≤ n ∧ true = true from ⟨by omega, rfl⟩)]; rfl
      clear hB
      have s5 : decide (n ≤ 5) = false := by simp; omega
      go_enter Try.func73, Try.ntmps73
      go_wp2_with fail
      refine (CS.out _).mono ?_; rintro e s1 ⟨rfl, rfl⟩
      rw [s5]
      go_wp2_with fail
      refine (CP.out _).mono ?_; rintro e s2 ⟨rfl, rfl⟩
      go_wp2_with fail
      refine (cand_node _ _ _ _ _ _).mono ?_; rintro e n1 ⟨rfl, hn1⟩
      have hb1a := hn1
      have hR1a := TwoT.none n1 w.heap.size
      clear hn1
      go_wp2_with (at_builtin; refine wpList_push rfl _ _ rfl n1 w.heap.size noRow noRow [] [] 3 n none 0 0 (.node 3 n []) rfl rfl hR1a (isT_none _ _ (by rw [fits_i64]; omega) (by rw [fits_i64]; omega)) (by simp) hb1a.size ?_)
      intro v1 w1 hR1 hg1 hl1
      have hb1 := below_grown hb1a hb1a.size hl1 hg1
      clear hb1a hR1a hg1 hl1
      go_wp2_with fail
      go_ret
      exact ⟨_, rfl, by rw [HE.out]; exact hR1, hb1⟩

theorem wrap_small {d : Nat} (h : d ≤ 16777216) : IntKind.i64.wrap (d : Int) = d ∧ wrap64 (d : Int) = d := by
  have e : IntKind.i64.wrap (d : Int) = d := IntWalk.i64_in _ (by omega)
  exact ⟨e, by rw [← IntWalk.i64_left]; exact e⟩
theorem own_type2 {w : World} {B : Nat} {e T : TypeId} {s : Nat} {v : Value} {n b : Nat} {xs : List Value} {cs : Array Value} (h : w.ownsRow B e s v n xs) (hb : w.heap[b]? = some (.cells cs T (0, 0))) (hne : e ≠ T) : v.ownBlock ≠ some b := by
  rcases h.2 with ⟨rfl, _⟩ | ⟨g, cap, cur, rfl, _, hg, _⟩
  · intro e1; cases e1
  · intro e1
    simp only [Value.ownBlock, Option.some.injEq] at e1
    subst e1
    rw [hg] at hb
    simp only [Option.some.injEq, Obj.cells.injEq] at hb
    exact hne hb.2.1
/-- Rows of other types stay where an append to a row of trees goes. -/
theorem other_stays {wn w' : World} {o : Obj} {B B2 : Nat} {v u w2 : Value} {ts us : List Tr} {e : TypeId} {s n : Nat} {xs : List Value} (hR : TwoT wn B v u ts us) (hP : wn.ownsRow B2 e s w2 n xs) (hg : (wn.alloc o).grownBy w' v.ownBlock) (hne : 24 ≠ e) : w'.ownsRow B2 e s w2 n xs := by
  obtain ⟨_, _, h1, _⟩ := hR
  refine (hP.alloc o).kept hg ?_
  cases hw : w2.ownBlock with
  | none => exact .inl rfl
  | some g =>
    refine .inr fun e2 => ?_
    rcases hP.2 with ⟨rfl, _⟩ | ⟨g', cap, cur, rfl, _, hgg, _⟩
    · cases hw
    · simp only [Value.ownBlock, Option.some.injEq] at hw
      subst hw
      exact own_type2 h1 hgg hne e2.symm

set_option maxHeartbeats 8000000 in
theorem cand_products (n : Nat) (w : World) (hsz : hasSz n = true) : Calls Try.prog 74 #[.int .i64 n] w (GivesTs (splitsT n (facS n) ++ goodsT n (facS n)) w) := by
  obtain ⟨i1, i2, _⟩ := hasSz_iff.1 hsz
  have h1 : 1 ≤ n := by omega
  have h2 : n ≤ 16777216 := by omega
  clear i1 i2
  have CR : Hid (∀ W, Calls Try.prog 102 #[.int .i64 n] W fun e w' => ∃ v, e = .returned v ∧ w'.ownsRow W.heap.size 103 2 v (facS n).length (cellsP (facS n)) ∧ Below W.heap.size W w') := fun W => by
    have := cand_primes n W h1 h2
    rwa [fac_sz hsz] at this
  have HPZ := Lib.hid (prime_sz hsz)
  have hM6 := fac_few hsz
  have HAT := Lib.hid (cellsP_at (facS n))
  obtain ⟨ps, hps⟩ : ∃ ps, facS n = ps := ⟨_, rfl⟩
  rw [hps] at CR HPZ hM6 HAT ⊢
  obtain ⟨M, hM⟩ : ∃ M, ps.length = M := ⟨_, rfl⟩
  rw [hM] at CR HPZ hM6 HAT
  have HM := Lib.hid hM
  clear hps hM hsz
  go_enter Try.func74, Try.ntmps74
  go_wp2_with fail
  refine (CR.out _).mono ?_; rintro e w0 ⟨v, rfl, hown, hb0⟩
  obtain ⟨a, cap, rfl, hcap, hg⟩ := own_slice2 hown
  have HO0 := Lib.hid hown
  have HB0 := Lib.hid hb0
  clear hown hb0
  go_wp2_with fail
  go_loopw [3, 4, 11] (fun vs vg i wr => ∃ j : Nat, j ≤ M ∧ i = .int .i64 j ∧ Hid (TwoT wr w.heap.size vs vg (splitsT n (ps.take j)) (goodsT n (ps.take j))) ∧ Hid (wr.ownsRow w.heap.size 103 2 (.slice a M cap) M (cellsP ps)) ∧ Hid (Below w.heap.size w wr)) (fun _ _ i _ => M - (intOf i).toNat)
  case atStart => exact ⟨0, Nat.zero_le _, rfl, TwoT.none w0 w.heap.size, HO0.out, HB0.out⟩
  case round =>
    obtain ⟨j, hj, rfl, HR, HO, HB⟩ := hrel
    by_cases hjm : j < M
    · obtain ⟨g, rfl⟩ := hg (by omega)
      obtain ⟨⟨p, e⟩, hpe⟩ : ∃ pe : Nat × Nat, ps.getD j (0, 0) = pe := ⟨_, rfl⟩
      obtain ⟨hp1, hpn, he24, hq1, hqn, ok1, ok2, ok3, ok4⟩ := HPZ.out j hjm p e hpe
      have hat := HAT.out j hjm
      rw [hpe] at hat
      have c0 : wr.cell? ⟨g, j * 2, none⟩ = some (.int .i64 (p : Int)) := (HO.out.cellAt (j * 2) (by omega)).trans hat.1
      have c1 : wr.cell? ⟨g, j * 2 + 1, none⟩ = some (.int .i64 (e : Int)) := (HO.out.cellAt (j * 2 + 1) (by omega)).trans hat.2
      have hS := splitsT_step n ps j (by rw [HM.out]; exact hjm)
      have hG := goodsT_step n ps j (by rw [HM.out]; exact hjm)
      rw [hpe] at hS hG
      have hSl := splitsT_len n (ps.take j)
      have hGl := goodsT_len n (ps.take j)
      rw [List.length_take] at hSl hGl
      obtain ⟨W5, hW5, hb5, x5⟩ := box_fresh wr #[.int .i64 p, .int .i64 e] 103
      have d0 : W5.cell? ⟨wr.heap.size, 0, none⟩ = some (.int .i64 (p : Int)) := block_cell x5 0
      have d1 : W5.cell? ⟨wr.heap.size, 1, none⟩ = some (.int .i64 (e : Int)) := block_cell x5 1
      have HS := Lib.hid hS
      have HG := Lib.hid hG
      have HB5 := Lib.hid (chain HB.out hb5)
      have HR5 := Lib.hid (HR.out.below hb5)
      have HO5 := Lib.hid (own_later3 HO.out hb5)
      clear hat hS hG
      have C1 : Hid (∀ W, Calls Try.prog 72 #[.int .i64 p] W (GivesD (pl p) W)) := fun W => cand_plain 10 p W ok1
      obtain ⟨d, hd⟩ : ∃ d, n / p = d := ⟨_, rfl⟩
      have C2 : Hid (∀ W, Calls Try.prog 72 #[.int .i64 d] W (GivesD (pl d) W)) := fun W => cand_plain 10 d W (by rw [← hd]; exact ok2)
      obtain ⟨Q, hQ⟩ : ∃ Q, p ^ e = Q := ⟨_, rfl⟩
      rw [hQ] at hq1 hqn ok3 ok4
      have C3 : Hid (∀ W, Calls Try.prog 72 #[.int .i64 Q] W (GivesD (pl Q) W)) := fun W => cand_plain 10 Q W ok3
      obtain ⟨D, hD⟩ : ∃ D, n / Q = D := ⟨_, rfl⟩
      have C4 : Hid (∀ W, Calls Try.prog 72 #[.int .i64 D] W (GivesD (pl D) W)) := fun W => cand_plain 10 D W (by rw [← hD]; exact ok4)
      have HQ := Lib.hid hQ
      have HD := Lib.hid hD
      have Hd := Lib.hid hd
      have HSp : Hid (p ≠ n → splitT n (p, e) = [.node 4 n [pl p, pl d]]) := fun h => by unfold splitT; rw [if_neg h, hd]
      have HSn : Hid (p = n → splitT n (p, e) = []) := fun h => by unfold splitT; rw [if_pos h]
      have HGp : Hid (Q ≠ n → goodT n (p, e) = [.node 5 n [pl Q, pl D]]) := fun h => by unfold goodT; rw [hQ, if_neg h, hD]
      have HGn : Hid (Q = n → goodT n (p, e) = []) := fun h => by unfold goodT; rw [hQ, if_pos h]
      have e1 : (n : Int).tdiv (p : Int) = (d : Int) := by rw [Int.tdiv_eq_ediv_of_nonneg (by omega), ← Int.natCast_ediv, hd]
      have e2 : (n : Int) / (p : Int) = (d : Int) := by rw [← Int.natCast_ediv, hd]
      have z1 : ((p : Int) == 0) = false := bno (by omega)
      have z2 : ¬ (p : Int) = 0 := by omega
      have z3 : ¬ p = 0 := by omega
      have hd9 : d ≤ 16777216 := by have := Nat.div_le_self n p; omega
      obtain ⟨e5, e4⟩ := wrap_small hd9
      have e3 : IntKind.i64.wrap ((n : Int).tdiv (p : Int)) = (d : Int) := by rw [e1]; exact e5
      have f1 : (n : Int).tdiv (Q : Int) = (D : Int) := by rw [Int.tdiv_eq_ediv_of_nonneg (by omega), ← Int.natCast_ediv, hD]
      have f2 : (n : Int) / (Q : Int) = (D : Int) := by rw [← Int.natCast_ediv, hD]
      have y1 : ((Q : Int) == 0) = false := bno (by omega)
      have y2 : ¬ (Q : Int) = 0 := by omega
      have y3 : ¬ Q = 0 := by omega
      have hD9 : D ≤ 16777216 := by have := Nat.div_le_self n Q; omega
      obtain ⟨f5, f4⟩ := wrap_small hD9
      have f3 : IntKind.i64.wrap ((n : Int).tdiv (Q : Int)) = (D : Int) := by rw [f1]; exact f5
      clear hd hD hQ ok1 ok2 ok3 ok4 hpe
      obtain ⟨wo, rfl⟩ : ∃ wo : World, wo = wr := ⟨_, rfl⟩
      have hBo := HB.out.size
      have HOFF := Lib.hid (HR.out.off hBo wo.heap.size (Nat.le_refl _))
      have hs5 : wo.heap.size < W5.heap.size := block_lt x5
      clear x5 hb5
      go_wp2_with fail
      clear hW5 c0 c1
      go_loopw [7, 17] (fun q i wi => ∃ k R : Nat, k ≤ e ∧ i = .int .i64 k ∧ q = .int .i64 R ∧ Hid (R = p ^ k) ∧ wi = W5) (fun _ i _ => e - (intOf i).toNat)
      case atStart => exact ⟨0, 1, Nat.zero_le _, rfl, rfl, by unfold Hid; rw [Nat.pow_zero], rfl⟩
      case round =>
        obtain ⟨k, R, hk, rfl, rfl, HRk, hwi⟩ := hrel
        obtain rfl : W5 = wr := hwi.symm
        by_cases hke : k < e
        · obtain ⟨R2, hR2⟩ : ∃ R2, R * p = R2 := ⟨_, rfl⟩
          have hR2p : R2 = p ^ (k + 1) := by rw [← hR2, HRk.out, Nat.pow_succ]
          have hR2n : R2 ≤ n := by rw [hR2p]; exact Nat.le_trans (Nat.pow_le_pow_right hp1 (show k + 1 ≤ e by omega)) (by rw [HQ.out]; exact hqn)
          have g1 : (R : Int) * (p : Int) = (R2 : Int) := by rw [← hR2]; simp
          have HR2p := Lib.hid hR2p
          clear hR2 hR2p
          go_wp2_with fail
          go_roundw
          case rel => exact ⟨k + 1, R2, by omega, by go_num, by first | rfl | go_num, HR2p.out, by first | rfl | trivial⟩
          case measure => simp [intOf]; omega
        · obtain rfl : R = Q := by rw [HRk.out, ← HQ.out, show k = e by omega]
          obtain rfl : k = e := by omega
          clear HRk hke
          by_cases hpn0 : p = n
          · have t1 : ((p : Int) != (n : Int)) = false := bfalse' (by omega)
            have HS6 := Lib.hid (HS.out.trans (congrArg (splitsT n (ps.take j) ++ ·) (HSn.out hpn0)))
            have hR5' := HR5.out
            rw [← List.append_nil (splitsT n (ps.take j))] at hR5'
            have HR5' := Lib.hid hR5'
            have hB5 : w.heap.size ≤ W5.heap.size := HB5.out.size
            clear hR5'
            by_cases hqn0 : R = n
            · have t2 : ((R : Int) != (n : Int)) = false := bfalse' (by omega)
              have HG7 := Lib.hid (HG.out.trans (congrArg (goodsT n (ps.take j) ++ ·) (HGn.out hqn0)))
              go_wp2_with fail
              go_roundw
              case rel => exact ⟨j + 1, by omega, by go_num, by unfold Hid; rw [HS6.out, HG7.out]; simpa using HR5'.out, HO5.out, HB5.out⟩
              case measure => simp [intOf]; omega
            · have t2 : ((R : Int) != (n : Int)) = true := bdiff (by omega)
              have t3 : ((R : Int) == (n : Int)) = false := bno (by omega)
              go_wp2_with fail
              go_region_held3 (fun w' => True) (trivial) (first
                | (go_at_call 72; first
                  | ((with_reducible refine (C3.out _).mono ?_); rintro e9 wa ⟨ka, na, aa, ma, ca, rfl, hTa, hba⟩; have hba := undrew hba)
                  | ((with_reducible refine (C4.out _).mono ?_); rintro e9 wb ⟨kb, nb, ab, mb, cb, rfl, hTb, hbb⟩))
                | (go_at_call 75; (with_reducible refine (cand_node _ _ _ _ _ _).mono ?_); rintro e9 w4 ⟨rfl, hb4⟩; have hn4 := node_two 5 n (by omega) h2 hba hTa hbb hTb hb4)
                | (refine step_push (by rfl) _ _ (by rfl) w4 w.heap.size u4 u3 _ _ 5 n _ 2 2 _ (by rfl) (by rfl) (HR5'.out.swap.below hn4.1) (hn4.2.mono (HR5'.out.swap.off hB5)) (by omega) (Nat.le_trans hB5 hn4.1.size) ?_; intro v7 w7 hR7 hg7 hl7))
              have HO7 := Lib.hid (other_stays (HR5'.out.swap.below hn4.1) (own_later3 HO5.out hn4.1) hg7 (by decide))
              have HB7 := Lib.hid (below_grown (chain HB5.out hn4.1) (chain HB5.out hn4.1).size hl7 hg7)
              have HR7 := Lib.hid hR7.swap
              have HG7 := Lib.hid (HG.out.trans (congrArg (goodsT n (ps.take j) ++ ·) (HGp.out hqn0)))
              clear hR7 hg7 hl7 hn4 hb4 hTa hTb hba hbb
              go_wp2_with fail
              go_roundw
              case rel => exact ⟨j + 1, by omega, by go_num, by unfold Hid; rw [HS6.out, HG7.out]; exact HR7.out, HO7.out, HB7.out⟩
              case measure => simp [intOf]; omega
          · have t1 : ((p : Int) != (n : Int)) = true := bdiff (by omega)
            have t0 : ((p : Int) == (n : Int)) = false := bno (by omega)
            go_wp2_with fail
            have hc := d0
            have hB5 : w.heap.size ≤ W5.heap.size := HB5.out.size
            have e0 : W5.heap.size = W5.heap.size := rfl
            go_region_held3 (fun w' => w'.cell? ⟨wo.heap.size, 0, none⟩ = some (.int .i64 p)) (first | exact hc | exact (World.cell?_alloc_lt _ _ _ (World.block_lt_of_cell? _ _ hc)).trans hc) (first
              | (go_at_call 72; first
                | ((with_reducible refine (C1.out _).mono ?_); rintro e9 wa ⟨ka, na, aa, ma, ca, rfl, hTa, hba⟩; have hba := undrew hba; have hc := (hba.cell (p := ⟨wo.heap.size, 0, none⟩) (World.block_lt_of_cell? _ _ hc)).trans hc)
                | ((with_reducible refine (C2.out _).mono ?_); rintro e9 wb ⟨kb, nb, ab, mb, cb, rfl, hTb, hbb⟩; have hc := (hbb.cell (p := ⟨wo.heap.size, 0, none⟩) (World.block_lt_of_cell? _ _ hc)).trans hc))
              | (go_at_call 75; (with_reducible refine (cand_node _ _ _ _ _ _).mono ?_); rintro e9 w4 ⟨rfl, hb4⟩; have hn4 := node_two 4 n (by omega) h2 hba hTa hbb hTb hb4; have hc := (hn4.1.cell (p := ⟨wo.heap.size, 0, none⟩) hs5).trans d0)
              | (refine step_push (by rfl) _ _ (by rfl) w4 w.heap.size u3 u4 _ _ 4 n _ 2 2 _ (by rfl) (by rfl) (HR5.out.below hn4.1) (hn4.2.mono (HR5.out.off hB5)) (by omega) (Nat.le_trans hB5 hn4.1.size) ?_; intro v6 w6 hR6 hg6 hl6; have hc := hg6.cell ((World.cell?_alloc_lt _ _ _ (World.block_lt_of_cell? _ _ hc)).trans hc) (Ne.symm HOFF.out.2.1)))
            have HO6 := Lib.hid (other_stays (HR5.out.below hn4.1) (own_later3 HO5.out hn4.1) hg6 (by decide))
            have HB6 := Lib.hid (below_grown (chain HB5.out hn4.1) (chain HB5.out hn4.1).size hl6 hg6)
            have HR6 := Lib.hid hR6
            have hB6 : w.heap.size ≤ w6.heap.size := HB6.out.size
            have HS6 := Lib.hid (HS.out.trans (congrArg (splitsT n (ps.take j) ++ ·) (HSp.out hpn0)))
            clear hc hR6 hg6 hl6 hn4 hb4 hTa hTb hba hbb d0 d1
            by_cases hqn0 : R = n
            · have t2 : ((R : Int) != (n : Int)) = false := bfalse' (by omega)
              have HG7 := Lib.hid (HG.out.trans (congrArg (goodsT n (ps.take j) ++ ·) (HGn.out hqn0)))
              go_wp2_with fail
              go_roundw
              case rel => exact ⟨j + 1, by omega, by go_num, by unfold Hid; rw [HS6.out, HG7.out]; simpa using HR6.out, HO6.out, HB6.out⟩
              case measure => simp [intOf]; omega
            · have t2 : ((R : Int) != (n : Int)) = true := bdiff (by omega)
              have t3 : ((R : Int) == (n : Int)) = false := bno (by omega)
              go_wp2_with fail
              go_region_held3 (fun w' => True) (trivial) (first
                | (go_at_call 72; first
                  | ((with_reducible refine (C3.out _).mono ?_); rintro e9 wa ⟨ka, na, aa, ma, ca, rfl, hTa, hba⟩; have hba := undrew hba)
                  | ((with_reducible refine (C4.out _).mono ?_); rintro e9 wb ⟨kb, nb, ab, mb, cb, rfl, hTb, hbb⟩))
                | (go_at_call 75; (with_reducible refine (cand_node _ _ _ _ _ _).mono ?_); rintro e9 w4 ⟨rfl, hb4⟩; have hn4 := node_two 5 n (by omega) h2 hba hTa hbb hTb hb4)
                | (refine step_push (by rfl) _ _ (by rfl) w4 w.heap.size u4 v6 _ _ 5 n _ 2 2 _ (by rfl) (by rfl) (HR6.out.swap.below hn4.1) (hn4.2.mono (HR6.out.swap.off hB6)) (by omega) (Nat.le_trans hB6 hn4.1.size) ?_; intro v7 w7 hR7 hg7 hl7))
              have HO7 := Lib.hid (other_stays (HR6.out.swap.below hn4.1) (own_later3 HO6.out hn4.1) hg7 (by decide))
              have HB7 := Lib.hid (below_grown (chain HB6.out hn4.1) (chain HB6.out hn4.1).size hl7 hg7)
              have HR7 := Lib.hid hR7.swap
              have HG7 := Lib.hid (HG.out.trans (congrArg (goodsT n (ps.take j) ++ ·) (HGp.out hqn0)))
              clear hR7 hg7 hl7 hn4 hb4 hTa hTb hba hbb
              go_wp2_with fail
              go_roundw
              case rel => exact ⟨j + 1, by omega, by go_num, by unfold Hid; rw [HS6.out, HG7.out]; exact HR7.out, HO7.out, HB7.out⟩
              case measure => simp [intOf]; omega
    · obtain rfl : j = M := by omega
      have HE : Hid (ps.take j = ps) := by unfold Hid; rw [← HM.out]; exact List.take_length
      have hSl := splitsT_len n ps
      have hGl := goodsT_len n ps
      rw [HM.out] at hSl hGl
      have hR := HR.out
      rw [HE.out] at hR
      have HR2 := Lib.hid hR
      have hBs := HB.out.size
      clear hR
      go_wp2_with (at_builtin; refine wpList_both rfl _ _ rfl _ w.heap.size u3 u4 _ _ rfl rfl HR2.out (by omega) hBs ?_)
      intro v9 w9 hR9 hg9 hl9
      have hb9 := HB.out.grown hg9 hBs hl9
      have HR9 := Lib.hid hR9
      clear hR9 hg9 hl9
      go_wp2_with fail
      go_ret
      exact ⟨_, rfl, HR9.out, hb9⟩

end Go.Proofs.Ytncikklhchimdaa

namespace Go.Proofs.Ytncikklhchimdaa
open Go.RowKit
set_option linter.unusedVariables false
set_option linter.unusedSimpArgs false
set_option maxRecDepth 20000

theorem leavesT_len (n : Nat) : (leavesT n).length ≤ 3 := by
  unfold leavesT
  simp only [List.length_append]
  have h1 : (if n ≤ 64 then [Tr.node 1 n []] else []).length ≤ 1 := by split <;> simp
  have h2 : (if 2 ≤ n ∧ n ≤ 5 then [Tr.node 2 n []] else []).length ≤ 1 := by split <;> simp
  have h3 : (if 2 ≤ n ∧ hasP2 n = true then [Tr.node 3 n []] else []).length ≤ 1 := by split <;> simp
  omega
theorem prods_len {n : Nat} (h : hasSz n = true) : (splitsT n (facS n) ++ goodsT n (facS n)).length ≤ 12 := by
  have := fac_few h
  have := splitsT_len n (facS n)
  have := goodsT_len n (facS n)
  simp only [List.length_append]; omega
theorem rader_sz {n : Nat} (h : hasSz n = true) (h3 : 3 ≤ n) (hp : prB (facS n) = true) : okF 10 (n - 1) = true := by
  have hk := kids_sz h
  unfold kidsB at hk
  simp only [Bool.and_eq_true, Bool.or_eq_true, decide_eq_true_eq] at hk
  rcases hk.1.2 with (h0 | h0) | h0
  · rw [hp] at h0; cases h0
  · omega
  · exact h0
theorem blue_sz {n : Nat} (h : hasSz n = true) (h2 : 2 ≤ n) (h8 : n ≤ 8388608) : okF 10 (abv (2 * n - 1)) = true := by
  have hk := kids_sz h
  unfold kidsB at hk
  simp only [Bool.and_eq_true, Bool.or_eq_true, decide_eq_true_eq] at hk
  rcases hk.2 with (h0 | h0) | h0
  · omega
  · omega
  · exact h0
/-- The two last ones, where they are. -/
theorem tail_sz {n : Nat} (h : hasSz n = true) :
    (n = 1 ∧ raderT n = [] ∧ blueT n = []) ∨ (n = 2 ∧ raderT n = [] ∧ ∃ A, abv (2 * n - 1) = A ∧ okF 10 A = true ∧ blueT n = [.node 7 n [pl A]]) ∨
    (3 ≤ n ∧ ∃ Q, prB (facS n) = Q ∧ (if Q = true then okF 10 (n - 1) = true ∧ raderT n = [.node 6 n [pl (n - 1)]] else raderT n = []) ∧ ((n ≤ 8388608 ∧ ∃ A, abv (2 * n - 1) = A ∧ okF 10 A = true ∧ blueT n = [.node 7 n [pl A]]) ∨ (8388608 < n ∧ blueT n = []))) := by
  obtain ⟨i1, i2, _⟩ := hasSz_iff.1 h
  rcases (show n = 1 ∨ n = 2 ∨ 3 ≤ n by omega) with h1 | h1 | h1
  · subst h1; exact .inl ⟨rfl, by unfold raderT; rw [if_neg (by omega)], by unfold blueT; rw [if_neg (by omega)]⟩
  · exact .inr (.inl ⟨h1, by unfold raderT; rw [if_neg (by omega)], _, rfl, blue_sz h (by omega) (by omega), by unfold blueT; rw [if_pos (by omega)]⟩)
  · refine .inr (.inr ⟨h1, _, rfl, ?_, ?_⟩)
    · cases hq : prB (facS n) with
      | true => rw [if_pos rfl]; exact ⟨rader_sz h h1 hq, by unfold raderT; rw [if_pos ⟨h1, hq⟩]⟩
      | false => rw [if_neg (by simp)]; unfold raderT; rw [if_neg (by rw [hq]; simp)]
    · by_cases h8 : n ≤ 8388608
      · exact .inl ⟨h8, _, rfl, blue_sz h (by omega) h8, by unfold blueT; rw [if_pos (by omega)]⟩
      · exact .inr ⟨by omega, by unfold blueT; rw [if_neg (by omega)]⟩
theorem cand_List_no (n : Int) (w : World) (h : hasSz n = false) (hn : -9223372036854775808 ≤ n ∧ n < 9223372036854775808) :
    Calls Try.prog 28 #[.int .i64 n] w fun e w' => e = .returned (.tuple #[.slice none 0 0, .int .i64 4]) ∧ w = w' := by
  have H := Lib.hid h
  clear h
  go_enter Try.func28, Try.ntmps28
  go_wp2_with fail
  refine (rootHas_no _ _ H.out hn).mono ?_; rintro e w' ⟨rfl, rfl⟩
  go_wp2_with fail
  go_ret2
  exact ⟨rfl, rfl⟩
/-- A result: a new row of trees, and a number. -/
def GivesTs2 (ts : List Tr) (c : Int) (w : World) (e : Ending) (w' : World) : Prop := ∃ v, e = .returned (.tuple #[v, .int .i64 c]) ∧ TwoT w' w.heap.size v noRow ts [] ∧ Below w.heap.size w w'

set_option maxHeartbeats 1500000 in
theorem cand_List (n : Nat) (w : World) (hsz : hasSz n = true) : Calls Try.prog 28 #[.int .i64 n] w (GivesTs2 (listT n) 0 w) := by
  obtain ⟨i1, i2, _⟩ := hasSz_iff.1 hsz
  have h1 : 1 ≤ n := by omega
  have h2 : n ≤ 16777216 := by omega
  clear i1 i2
  have CL : Hid (∀ W, Calls Try.prog 73 #[.int .i64 n] W (GivesTs (leavesT n) W)) := fun W => cand_leaves n W h1 h2
  have CR : Hid (∀ W, Calls Try.prog 74 #[.int .i64 n] W (GivesTs (splitsT n (facS n) ++ goodsT n (facS n)) W)) := fun W => cand_products n W hsz
  have hL1 := leavesT_len n
  have hL2 := prods_len hsz
  have HLT : Hid (listT n = ((leavesT n ++ (splitsT n (facS n) ++ goodsT n (facS n))) ++ raderT n) ++ blueT n) := rfl
  obtain ⟨LL, hLL⟩ : ∃ x, leavesT n = x := ⟨_, rfl⟩
  obtain ⟨PP, hPP⟩ : ∃ x, splitsT n (facS n) ++ goodsT n (facS n) = x := ⟨_, rfl⟩
  rw [hLL, hPP] at HLT
  rw [hLL] at CL hL1
  rw [hPP] at CR hL2
  clear hLL hPP
  have HSZ := Lib.hid hsz
  have CF : Hid (∀ W, Calls Try.prog 64 #[.int .i64 n] W fun e w' => e = .returned (.bool (prB (facS n))) ∧ Below W.heap.size W w') := fun W => by
    have := fact_Prime n W (by omega)
    rwa [own_of_facts h1 h2 hsz] at this
  have CH : Hid (∀ W, Calls Try.prog 59 #[.int .i64 n] W fun e w' => e = .returned (.bool true) ∧ W = w') := fun W => rootHas_yes _ W hsz
  have hts := tail_sz hsz
  clear hsz
  obtain ⟨m2, hm2⟩ : ∃ m2, m2 = 2 * n - 1 := ⟨_, rfl⟩
  have CA : Hid (n ≤ 8388608 → ∀ W, Calls Try.prog 76 #[.int .i64 n] W fun e w' => e = .returned (.tuple #[.int .i64 (abv (2 * n - 1) : Nat), .int .i64 0]) ∧ W = w') := fun h W => chirp_Least_ok n (2 * n - 1) W HSZ.out h rfl
  have CB : Hid (8388608 < n → ∀ W, Calls Try.prog 76 #[.int .i64 n] W fun e w' => e = .returned (.tuple #[.int .i64 0, .int .i64 3]) ∧ W = w') := fun h W => chirp_Least_range n W HSZ.out h
  clear hm2
  have START : True := trivial
  go_enter Try.func28, Try.ntmps28
  go_wp2_with fail
  refine (CH.out _).mono ?_; rintro e s1 ⟨rfl, rfl⟩
  go_wp2_with fail
  refine (CL.out _).mono ?_; rintro e w1 ⟨v1, rfl, hR1, hb1⟩
  have HR1 := Lib.hid hR1
  have HB1 := Lib.hid hb1
  have hs1 := hb1.size
  clear hR1 hb1
  go_wp2_with fail
  refine (CR.out _).mono ?_; rintro e w2 ⟨v2, rfl, hR2, hb2⟩
  have HJ := Lib.hid (TwoT.join (w := w) hs1 HR1.out hb2 hR2)
  have HB2 := Lib.hid (chain HB1.out hb2)
  have hs2 := HB2.out.size
  clear hR2 hb2
  go_wp2_with (at_builtin; refine wpList_both rfl _ _ rfl _ w.heap.size v1 v2 _ _ rfl rfl HJ.out (by omega) hs2 ?_)
  intro v3 w3 hR3 hg3 hl3
  have HB3 := Lib.hid (HB2.out.grown hg3 hs2 hl3)
  obtain ⟨AC3, hAC3⟩ : ∃ x, LL ++ PP = x := ⟨_, rfl⟩
  rw [hAC3] at hR3
  have HA3 := Lib.hid hAC3
  have hA3 : AC3.length ≤ 15 := by rw [← hAC3, List.length_append]; omega
  have HR3 := Lib.hid hR3
  clear hR3 hg3 hl3 hAC3
  rcases hts with ⟨hn, hr, hb⟩ | ⟨hn, hr, A, hA, hok, hb⟩ | ⟨hn, Q, hQ, hr, hb⟩
  · have HE : Hid (listT n = AC3) := by unfold Hid; rw [HLT.out, hr, hb, HA3.out, List.append_nil, List.append_nil]
    subst hn
    clear hr hb
    have CA1 := Lib.hid (CA.out (by omega))
    go_wp2_with fail
    refine (CA1.out _).mono ?_; rintro e s2 ⟨rfl, rfl⟩
    go_wp2_with fail
    go_ret2
    exact ⟨_, rfl, by rw [HE.out]; exact HR3.out, HB3.out⟩
  · subst hn
    have HE : Hid (listT 2 = AC3 ++ [.node 7 2 [pl A]]) := by unfold Hid; rw [HLT.out, hr, hb, HA3.out, List.append_nil]; rfl
    clear hr hb
    have CA1 := Lib.hid (CA.out (by omega))
    rw [hA] at CA1
    have CI7 : Hid (∀ W, Calls Try.prog 72 #[.int .i64 A] W (GivesD (pl A) W)) := fun W => cand_plain 10 A W hok
    clear hA hok
    go_wp2_with fail
    refine (CA1.out _).mono ?_; rintro e s2 ⟨rfl, rfl⟩
    go_wp2_with fail
    refine (CI7.out _).mono ?_; rintro e p7 ⟨k7, n7, a7, m7, c7, rfl, hT7, hp7⟩
    go_wp2_with fail
    refine (cand_node _ _ _ _ _ _).mono ?_; rintro e q7 ⟨rfl, hq7⟩
    have hn7 := node_one 7 2 (by omega) h2 hp7 hT7 hq7
    have hb7a := chain HB3.out hn7.1
    have hB7 := Below.size HB3.out
    go_wp2_with (at_builtin; refine wpList_push rfl _ _ rfl q7 w.heap.size v3 noRow AC3 [] 7 2 _ 1 1 _ rfl rfl (TwoT.below HR3.out hn7.1) (hn7.2.mono (TwoT.off HR3.out hB7)) (by omega) hb7a.size ?_)
    intro v7 w7 hR7 hg7 hl7
    have HB7 := Lib.hid (below_grown hb7a hb7a.size hl7 hg7)
    obtain ⟨AC7, hAC7⟩ : ∃ x, AC3 ++ [.node 7 2 [pl A]] = x := ⟨_, rfl⟩
    rw [hAC7] at hR7
    have hA7 : AC7.length ≤ 17 := by rw [← hAC7, List.length_append, List.length_singleton]; omega
    have HA7 := Lib.hid hAC7
    have HR7 := Lib.hid hR7
    clear hAC7 hR7 hg7 hl7 hb7a hn7 hq7 hT7 hp7 hB7
    go_wp2_with fail
    go_ret2
    exact ⟨_, rfl, by rw [HE.out]; first | (rw [HA7.out]; exact HR7.out) | (rw [HA6.out, HA7.out]; exact HR7.out), HB7.out⟩
  · rw [hQ] at CF
    clear hQ
    cases Q with
    | true =>
      obtain ⟨hok6, hr⟩ := (show okF 10 (n - 1) = true ∧ raderT n = [.node 6 n [pl (n - 1)]] by simpa using hr)
      obtain ⟨m, hm⟩ : ∃ m, n - 1 = m := ⟨_, rfl⟩
      rw [hm] at hok6 hr
      have e1 : (n : Int) - 1 = (m : Nat) := by omega
      have CI6 : Hid (∀ W, Calls Try.prog 72 #[.int .i64 m] W (GivesD (pl m) W)) := fun W => cand_plain 10 m W hok6
      clear hok6 hm
      rcases hb with ⟨h8, A, hA, hok, hb⟩ | ⟨h8, hb⟩
      · have HE : Hid (listT n = (AC3 ++ [.node 6 n [pl m]]) ++ [.node 7 n [pl A]]) := by unfold Hid; rw [HLT.out, hr, hb, HA3.out]
        clear hr hb
        go_wp2_with fail
        refine (CF.out _).mono ?_; rintro e f1 ⟨rfl, hf1⟩
        have HF1 := Lib.hid (chain HB3.out hf1)
        have HRF := Lib.hid (HR3.out.below hf1)
        clear hf1
        go_wp2_with fail
        refine (CI6.out _).mono ?_; rintro e p6 ⟨k6, n6, a6, m6, c6, rfl, hT6, hp6⟩
        go_wp2_with fail
        refine (cand_node _ _ _ _ _ _).mono ?_; rintro e q6 ⟨rfl, hq6⟩
        have hn6 := node_one 6 n (by omega) h2 hp6 hT6 hq6
        have hb6a := chain HF1.out hn6.1
        have hB6 := Below.size HF1.out
        go_wp2_with (at_builtin; refine wpList_push rfl _ _ rfl q6 w.heap.size v3 noRow AC3 [] 6 n _ 1 1 _ rfl rfl (TwoT.below HRF.out hn6.1) (hn6.2.mono (TwoT.off HRF.out hB6)) (by omega) hb6a.size ?_)
        intro v6 w6 hR6 hg6 hl6
        have HB6 := Lib.hid (below_grown hb6a hb6a.size hl6 hg6)
        obtain ⟨AC6, hAC6⟩ : ∃ x, AC3 ++ [.node 6 n [pl m]] = x := ⟨_, rfl⟩
        rw [hAC6] at hR6
        have hA6 : AC6.length ≤ 16 := by rw [← hAC6, List.length_append, List.length_singleton]; omega
        have HA6 := Lib.hid hAC6
        have HR6 := Lib.hid hR6
        clear hAC6 hR6 hg6 hl6 hb6a hn6 hq6 hT6 hp6 hB6
        go_wp2_with fail
        have CA1 := Lib.hid (CA.out (by omega))
        rw [hA] at CA1
        have CI7 : Hid (∀ W, Calls Try.prog 72 #[.int .i64 A] W (GivesD (pl A) W)) := fun W => cand_plain 10 A W hok
        clear hA hok
        refine (CA1.out _).mono ?_; rintro e s2 ⟨rfl, rfl⟩
        go_wp2_with fail
        refine (CI7.out _).mono ?_; rintro e p7 ⟨k7, n7, a7, m7, c7, rfl, hT7, hp7⟩
        go_wp2_with fail
        refine (cand_node _ _ _ _ _ _).mono ?_; rintro e q7 ⟨rfl, hq7⟩
        have hn7 := node_one 7 n (by omega) h2 hp7 hT7 hq7
        have hb7a := chain HB6.out hn7.1
        have hB7 := Below.size HB6.out
        go_wp2_with (at_builtin; refine wpList_push rfl _ _ rfl q7 w.heap.size v6 noRow AC6 [] 7 n _ 1 1 _ rfl rfl (TwoT.below HR6.out hn7.1) (hn7.2.mono (TwoT.off HR6.out hB7)) (by omega) hb7a.size ?_)
        intro v7 w7 hR7 hg7 hl7
        have HB7 := Lib.hid (below_grown hb7a hb7a.size hl7 hg7)
        obtain ⟨AC7, hAC7⟩ : ∃ x, AC6 ++ [.node 7 n [pl A]] = x := ⟨_, rfl⟩
        rw [hAC7] at hR7
        have hA7 : AC7.length ≤ 17 := by rw [← hAC7, List.length_append, List.length_singleton]; omega
        have HA7 := Lib.hid hAC7
        have HR7 := Lib.hid hR7
        clear hAC7 hR7 hg7 hl7 hb7a hn7 hq7 hT7 hp7 hB7
        go_wp2_with fail
        go_ret2
        exact ⟨_, rfl, by rw [HE.out]; first | (rw [HA7.out]; exact HR7.out) | (rw [HA6.out, HA7.out]; exact HR7.out), HB7.out⟩
      · have HE : Hid (listT n = AC3 ++ [.node 6 n [pl m]]) := by unfold Hid; rw [HLT.out, hr, hb, HA3.out, List.append_nil]
        clear hr hb
        have CB1 := Lib.hid (CB.out h8)
        go_wp2_with fail
        refine (CF.out _).mono ?_; rintro e f1 ⟨rfl, hf1⟩
        have HF1 := Lib.hid (chain HB3.out hf1)
        have HRF := Lib.hid (HR3.out.below hf1)
        clear hf1
        go_wp2_with fail
        refine (CI6.out _).mono ?_; rintro e p6 ⟨k6, n6, a6, m6, c6, rfl, hT6, hp6⟩
        go_wp2_with fail
        refine (cand_node _ _ _ _ _ _).mono ?_; rintro e q6 ⟨rfl, hq6⟩
        have hn6 := node_one 6 n (by omega) h2 hp6 hT6 hq6
        have hb6a := chain HF1.out hn6.1
        have hB6 := Below.size HF1.out
        go_wp2_with (at_builtin; refine wpList_push rfl _ _ rfl q6 w.heap.size v3 noRow AC3 [] 6 n _ 1 1 _ rfl rfl (TwoT.below HRF.out hn6.1) (hn6.2.mono (TwoT.off HRF.out hB6)) (by omega) hb6a.size ?_)
        intro v6 w6 hR6 hg6 hl6
        have HB6 := Lib.hid (below_grown hb6a hb6a.size hl6 hg6)
        obtain ⟨AC6, hAC6⟩ : ∃ x, AC3 ++ [.node 6 n [pl m]] = x := ⟨_, rfl⟩
        rw [hAC6] at hR6
        have hA6 : AC6.length ≤ 16 := by rw [← hAC6, List.length_append, List.length_singleton]; omega
        have HA6 := Lib.hid hAC6
        have HR6 := Lib.hid hR6
        clear hAC6 hR6 hg6 hl6 hb6a hn6 hq6 hT6 hp6 hB6
        go_wp2_with fail
        refine (CB1.out _).mono ?_; rintro e s2 ⟨rfl, rfl⟩
        go_wp2_with fail
        go_ret2
        exact ⟨_, rfl, by rw [HE.out, HA6.out]; exact HR6.out, HB6.out⟩
    | false =>
      have hr : raderT n = [] := by simpa using hr
      rcases hb with ⟨h8, A, hA, hok, hb⟩ | ⟨h8, hb⟩
      · have HE : Hid (listT n = AC3 ++ [.node 7 n [pl A]]) := by unfold Hid; rw [HLT.out, hr, hb, HA3.out, List.append_nil]
        clear hr hb
        go_wp2_with fail
        refine (CF.out _).mono ?_; rintro e f1 ⟨rfl, hf1⟩
        have HF1 := Lib.hid (chain HB3.out hf1)
        have HRF := Lib.hid (HR3.out.below hf1)
        clear hf1
        go_wp2_with fail
        have CA1 := Lib.hid (CA.out (by omega))
        rw [hA] at CA1
        have CI7 : Hid (∀ W, Calls Try.prog 72 #[.int .i64 A] W (GivesD (pl A) W)) := fun W => cand_plain 10 A W hok
        clear hA hok
        refine (CA1.out _).mono ?_; rintro e s2 ⟨rfl, rfl⟩
        go_wp2_with fail
        refine (CI7.out _).mono ?_; rintro e p7 ⟨k7, n7, a7, m7, c7, rfl, hT7, hp7⟩
        go_wp2_with fail
        refine (cand_node _ _ _ _ _ _).mono ?_; rintro e q7 ⟨rfl, hq7⟩
        have hn7 := node_one 7 n (by omega) h2 hp7 hT7 hq7
        have hb7a := chain HF1.out hn7.1
        have hB7 := Below.size HF1.out
        go_wp2_with (at_builtin; refine wpList_push rfl _ _ rfl q7 w.heap.size v3 noRow AC3 [] 7 n _ 1 1 _ rfl rfl (TwoT.below HRF.out hn7.1) (hn7.2.mono (TwoT.off HRF.out hB7)) (by omega) hb7a.size ?_)
        intro v7 w7 hR7 hg7 hl7
        have HB7 := Lib.hid (below_grown hb7a hb7a.size hl7 hg7)
        obtain ⟨AC7, hAC7⟩ : ∃ x, AC3 ++ [.node 7 n [pl A]] = x := ⟨_, rfl⟩
        rw [hAC7] at hR7
        have hA7 : AC7.length ≤ 17 := by rw [← hAC7, List.length_append, List.length_singleton]; omega
        have HA7 := Lib.hid hAC7
        have HR7 := Lib.hid hR7
        clear hAC7 hR7 hg7 hl7 hb7a hn7 hq7 hT7 hp7 hB7
        go_wp2_with fail
        go_ret2
        exact ⟨_, rfl, by rw [HE.out]; first | (rw [HA7.out]; exact HR7.out) | (rw [HA6.out, HA7.out]; exact HR7.out), HB7.out⟩
      · have HE : Hid (listT n = AC3) := by unfold Hid; rw [HLT.out, hr, hb, HA3.out, List.append_nil, List.append_nil]
        clear hr hb
        have CB1 := Lib.hid (CB.out h8)
        go_wp2_with fail
        refine (CF.out _).mono ?_; rintro e f1 ⟨rfl, hf1⟩
        have HF1 := Lib.hid (chain HB3.out hf1)
        have HRF := Lib.hid (HR3.out.below hf1)
        clear hf1
        go_wp2_with fail
        refine (CB1.out _).mono ?_; rintro e s2 ⟨rfl, rfl⟩
        go_wp2_with fail
        go_ret2
        exact ⟨_, rfl, by rw [HE.out]; exact HRF.out, HF1.out⟩
end Go.Proofs.Ytncikklhchimdaa

namespace Go.Proofs.Ytncikklhchimdaa
open Go.RowKit
set_option linter.unusedVariables false
set_option linter.unusedSimpArgs false
set_option maxRecDepth 20000

/-- A result: a tree, and a number. -/
def GivesD2 (t : Tr) (x : Int) (w : World) (e : Ending) (w' : World) : Prop :=
  ∃ k n a m c, e = .returned (.tuple #[.agg #[.int .i64 k, .int .i64 n, .slice a m c], .int .i64 x]) ∧ IsT w' (fun _ => True) k n a m c t ∧ Below w.heap.size w w'
theorem pl_sz {n : Nat} (h : hasSz n = true) : okF 10 n = true := by
  have hk := kids_sz h
  unfold kidsB at hk
  simp only [Bool.and_eq_true] at hk
  exact hk.1.1.1.1
theorem cand_Plain (n : Nat) (w : World) (h : hasSz n = true) : Calls Try.prog 27 #[.int .i64 n] w (GivesD2 (pl n) 0 w) := by
  have CH : Hid (∀ W, Calls Try.prog 59 #[.int .i64 n] W fun e w' => e = .returned (.bool true) ∧ W = w') := fun W => rootHas_yes _ W h
  have CI : Hid (∀ W, Calls Try.prog 72 #[.int .i64 n] W (GivesD (pl n) W)) := fun W => cand_plain 10 n W (pl_sz h)
  clear h
  obtain ⟨W0, hW0, hb0, x0⟩ := zbox w 24
  have hs0 : Hid (W0.heap.size = w.heap.size + 1) := by unfold Hid; rw [← hW0]; simp
  have HB0 := Lib.hid hb0
  have X0 := Lib.hid x0
  clear hb0 x0
  go_enter Try.func27, Try.ntmps27
  go_wp2_with fail
  refine (CH.out _).mono ?_; rintro e s1 ⟨rfl, rfl⟩
  go_wp2_with fail
  refine (CI.out _).mono ?_; rintro e w1 ⟨k, m, a, l, c, rfl, hT, hb1⟩
  have HB1 := Lib.hid (chain HB0.out hb1)
  have X1 := Lib.hid ((hb1.block _ (block_lt X0.out)).trans X0.out)
  have HT1 := Lib.hid (hT.mono (G := Since (w.heap.size + 1)) fun b hb => by unfold Since at hb ⊢; have := hs0.out; omega)
  obtain ⟨q0, q1, q2, g0, g1, g2⟩ := zfacts X1.out
  clear hb1 hT
  go_wp2_with fail
  obtain ⟨w', hw', hb, r0, r1, r2, hT⟩ := fin_node HB1.out X1.out HT1.out
  rw [hw']
  exact bodyPost_ret (v := .tuple #[.agg #[.int .i64 k, .int .i64 m, .slice a l c], .int .i64 0]) (by simp [results, Try.results27, go_sem, r0, r1, r2]) rfl ⟨_, _, _, _, _, rfl, hT.mono fun _ _ => trivial, hb⟩
theorem cand_Plain_no (n : Int) (w : World) (h : hasSz n = false) (hn : -9223372036854775808 ≤ n ∧ n < 9223372036854775808) : Calls Try.prog 27 #[.int .i64 n] w (GivesD2 (.node 0 0 []) 4 w) := by
  have CH : Hid (∀ W, Calls Try.prog 59 #[.int .i64 n] W fun e w' => e = .returned (.bool false) ∧ W = w') := fun W => rootHas_no _ W h hn
  clear h
  obtain ⟨W0, hW0, hb0, x0⟩ := zbox w 24
  have HB0 := Lib.hid hb0
  have X0 := Lib.hid x0
  obtain ⟨q0, q1, q2, g0, g1, g2⟩ := zfacts X0.out
  clear hb0 x0
  go_enter Try.func27, Try.ntmps27
  go_wp2_with fail
  refine (CH.out _).mono ?_; rintro e s1 ⟨rfl, rfl⟩
  go_wp2_with fail
  obtain ⟨w', hw', hb, r0, r1, r2, _⟩ := fin3 HB0.out X0.out (.int .i64 0) (.int .i64 0) (.slice none 0 0)
  rw [hw']
  exact bodyPost_ret (v := .tuple #[.agg #[.int .i64 0, .int .i64 0, .slice none 0 0], .int .i64 4]) (by simp [results, Try.results27, go_sem, r0, r1, r2]) rfl ⟨_, _, _, _, _, rfl, isT_none _ _ fits_zero fits_zero, hb⟩

theorem ex_96 : (pl 96).kind = 4 ∧ (pl 96).kids.length = 2 ∧ (Tr.kid (pl 96).kids 1).num = 32 := by decide +kernel
theorem ex_5 : (listT 5).length = 4 ∧ (Tr.kid (listT 5) 2).kind = 6 := by decide +kernel
theorem has_96 : hasSz ((96 : Nat) : Int) = true := by decide +kernel
theorem has_5 : hasSz ((5 : Nat) : Int) = true := by decide +kernel
theorem kids_isT {w : World} {F : Nat → Prop} {a : Option Addr} {cap : Nat} {ts : List Tr} (h : Kids w F a cap ts) (ho : ∀ t ∈ ts, t.Ok) : IsT w F 0 0 a ts.length cap (.node 0 0 ts) := ⟨rfl, rfl, rfl, by simp only [Tr.Ok]; exact ⟨fits_zero, fits_zero, Tr.okL_of ho⟩, h⟩

set_option maxHeartbeats 1000000 in
theorem live19 (w : World) : Calls Try.prog 31 #[] w fun e w' => e = .returned (.bool true) ∧ Below w.heap.size w w' := by
  have C1 : Hid (∀ W, Calls Try.prog 27 #[.int .i64 96] W (GivesD2 (pl 96) 0 W)) := fun W => cand_Plain 96 W has_96
  have C2 : Hid (∀ W, Calls Try.prog 28 #[.int .i64 5] W (GivesTs2 (listT 5) 0 W)) := fun W => cand_List 5 W has_5
  obtain ⟨e1, e2, e3⟩ := ex_96
  obtain ⟨e4, e5⟩ := ex_5
  obtain ⟨t, ht⟩ : ∃ t, pl 96 = t := ⟨_, rfl⟩
  obtain ⟨ts, hts⟩ : ∃ ts, listT 5 = ts := ⟨_, rfl⟩
  rw [ht] at C1 e1 e2 e3
  rw [hts] at C2 e4 e5
  have E3 := Lib.hid e3
  have E5 := Lib.hid e5
  have E4 := Lib.hid e4
  clear ht hts e3 e5 e4
  go_enter Try.func31, Try.ntmps31
  go_wp2_with fail
  refine (C1.out _).mono ?_; rintro e w1 ⟨k, n, a, m, c, rfl, hT, hb1⟩
  obtain rfl : k = 4 := by rw [hT.ek, e1]
  obtain rfl : m = 2 := by rw [hT.em, e2]
  obtain ⟨b, off, k1, n1, a1, m1, c1, rfl, _, hbl, _, d1, _, hT1⟩ := hT.kid 1 (by omega)
  obtain rfl : n1 = 32 := by rw [hT1.en, E3.out]
  obtain ⟨W2, hW2, hb2, x2⟩ := box_fresh w1 #[.int .i64 4, .int .i64 n, .slice (some ⟨b, off, none⟩) 2 c] 24
  have HB2 := Lib.hid (chain hb1 hb2)
  have X2 := Lib.hid x2
  have D1 := Lib.hid ((hb2.cell (p := ⟨b, off + 1 * 3 + 1, none⟩) hbl).trans d1)
  clear hT hT1 d1 hb1 hb2 x2 e1 e2
  go_wp2_with fail
  refine (C2.out _).mono ?_; rintro e w3 ⟨v, rfl, hR, hb3⟩
  obtain ⟨a3, c3, rfl, hK, hok⟩ := hR.row
  have hL := kids_isT hK hok
  obtain ⟨g, o, k4, n4, a4, m4, c4, rfl, _, _, f0, _, _, hT4⟩ := hL.kid 2 (by rw [E4.out]; omega)
  obtain rfl : k4 = 6 := by rw [hT4.ek]; exact E5.out
  have hbl2 := World.block_lt_of_cell? W2 _ D1.out
  have D3 := (hb3.cell (p := ⟨b, off + 1 * 3 + 1, none⟩) hbl2).trans D1.out
  have X3 := Lib.hid ((hb3.block _ (block_lt X2.out)).trans X2.out)
  obtain ⟨q0, q1, q2, _, _, _⟩ := zfacts X3.out
  have HB3 := Lib.hid (chain HB2.out hb3)
  obtain ⟨L, hL4⟩ : ∃ L, ts.length = L := ⟨_, rfl⟩
  have hL4' : L = 4 := by rw [← hL4]; exact E4.out
  rw [hL4]
  subst hL4'
  clear hR hK hok hL hT4 hb3 hL4
  go_wp2_with fail
  go_ret
  exact ⟨rfl, HB3.out⟩
end Go.Proofs.Ytncikklhchimdaa
