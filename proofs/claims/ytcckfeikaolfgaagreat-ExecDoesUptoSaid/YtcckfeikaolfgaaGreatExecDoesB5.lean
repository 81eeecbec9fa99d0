/- The contracts and plain laws that the statement ExecDoes needs, part 5 of 8: ValC ValF ValJ CostL MapB NeedL CostG NeedA NeedB. -/
import Derived.Test.YtcckfeikaolfgaaGreatExecDoesB4
namespace Go.Proofs.YtcckfeikaolfgaaGreat
open Go.RowKit
set_option linter.unusedVariables false
set_option linter.unusedSimpArgs false
set_option maxRecDepth 100000
set_option maxRecDepth 20000
theorem own_int_cell {e : TypeId} {w wr : World} {g cap n : Nat} {f : Nat → Int} (h : Own .i64 e w wr (.slice (some ⟨g, 0, none⟩) n cap) n f) (i : Nat) (hi : i < n) : wr.cell? ⟨g, i, none⟩ = some (.int .i64 (f i)) :=
  (h.own.cellAt i (by omega)).trans (by simp [hi])
/-- A quiet call behind an earlier quiet region. -/
theorem quiet_same2 {P : Program} {f : FuncId} {args : Array Value} {w : World} {q a : Nat} {v : Value} (h : Calls P f args (w.drewN (q + a)) fun e w' => e = .returned v ∧ w' = w.drewN (q + a)) :
    Calls P f args (w.drewN (q + a)) fun e w'' => e = .returned v ∧ ∃ n, w'' = w.drewN (q + n) := h.mono fun _ _ ⟨he, hm⟩ => ⟨he, a, hm⟩
set_option maxHeartbeats 1600000 in
theorem ref14_Node_1 (t : Tr) (n : Int) (a : Option Addr) (m cap : Nat) (w : World) (F : Nat → Prop) (hs : t.size ≤ 4194304) (hT : IsT w F 1 n a m cap t) :
    Calls Tryz.prog 38 #[.agg #[.int .i64 1, .int .i64 n, .slice a m cap]] w fun e w' => e = .returned (.bool (nodeOk t)) ∧ Below w.heap.size w w' := by
  obtain ⟨i0, hi, hz0, hz1, hz2⟩ := info_parts info_int
  have hn := hT.fn
  have hmm : m ≤ 4194304 := by
    have h1 := Tr.len_le_sizeL t.kids
    rw [Tr.size_kids] at hs
    rw [hT.em]; omega
  have HN : Hid (nodeOk t = nodeB 1 n m (Tr.kid t.kids 0).num (Tr.kid t.kids 1).num) := by unfold Hid nodeOk; rw [hT.ek, hT.en, hT.em]
  have hd : ∀ i, i < m → -9223372036854775808 ≤ (Tr.kid t.kids i).num ∧ (Tr.kid t.kids i).num < 9223372036854775808 := fun i h => by
    obtain ⟨_, _, _, _, _, d⟩ := hT.knum i h
    exact d
  have HD := Lib.hid hd
  obtain ⟨B, hB⟩ : ∃ B, hasSz n = B := ⟨_, rfl⟩
  have HS : Hid (∀ W, Calls Tryz.prog 39 #[.int .i64 n] W fun e w' => e = .returned (.bool B) ∧ W = w') := fun W => by
    cases B with
    | true => exact refHas_yes n W hB
    | false => exact refHas_no n W hB hn
  have HB := Lib.hid hB
  obtain ⟨W0, hW0⟩ : ∃ W0, w.alloc (.cells #[.int .i64 1, .int .i64 n, .slice a m cap] 24) = W0 := ⟨_, rfl⟩
  have hx0 : W0.heap[w.heap.size]? = some (.cells #[.int .i64 1, .int .i64 n, .slice a m cap] 24 (0, 0)) := by rw [← hW0]; exact block_new rfl
  have hb0 : Below w.heap.size w W0 := by rw [← hW0]; exact (Below.refl _ _).alloc (Nat.le_refl _) _
  have HT := Lib.hid (hT.below hb0)
  have HX0 := Lib.hid hx0
  have HW0 := Lib.hid hW0
  have HB0 := Lib.hid hb0
  clear hs hT hd hB hx0 hW0 hb0
  go_enter Tryz.func38, Tryz.ntmps38
  go_wp2_with fail
  rw [HW0.out]
  go_loopw [3, 4] (fun v i wr => ∃ j : Nat, j ≤ m ∧ i = .int .i64 j ∧ Own .i64 3 W0 wr v j (fun i => (Tr.kid t.kids i).num)) (fun _ i _ => m - (intOf i).toNat)
  case atStart => exact ⟨0, Nat.zero_le _, rfl, World.ownsRow_nil _ _ _ _, Below.refl _ _⟩
  case round =>
    obtain ⟨j, hj, rfl, hown⟩ := hrel
    have hX := (hown.below.block _ (block_lt HX0.out)).trans HX0.out
    have x0 : wr.cell? ⟨w.heap.size, 0, none⟩ = some (.int .i64 1) := block_cell hX 0
    have x1 : wr.cell? ⟨w.heap.size, 1, none⟩ = some (.int .i64 n) := block_cell hX 1
    have x2 : wr.cell? ⟨w.heap.size, 2, none⟩ = some (.slice a m cap) := block_cell hX 2
    clear hX
    by_cases hlt : j < m
    · obtain ⟨b, off, rfl, hbl, c0, d0⟩ := (HT.out.below hown.below).knum j hlt
      obtain ⟨kk, hkk⟩ : ∃ kk, (Tr.kid t.kids j).num = kk := ⟨_, rfl⟩
      rw [hkk] at c0 d0
      have HKK := Lib.hid hkk
      clear hkk
      have g1 : (0 : Int) ≤ (j : Int) := by omega
      have g2 : (j : Int) < (m : Int) := by omega
      go_wp2_with (at_builtin; refine wpList_append_own _ rfl _ _ 71 rfl W0.heap.size 3 i0 (.int .i64 0) 1 8 Tryz.underlying71 hi hz0 hz1 hz2 rfl (by decide) _ _ _ rfl (hown.own.alloc _) ⟨wr.heap.size, 0, none⟩ 1 1 [.int .i64 kk] rfl rfl (cell_one_new _ _ _) (one_cell _ _) (by unfold maxLen; omega) (by omega) (size_alloc_le hown.below _) ?_)
      intro v' w2 hown2 hgrow _
      have HPU := Lib.hid (hown.push kk HKK.out.symm hown2 hgrow)
      clear hown hown2 hgrow x0 x1 x2 c0
      go_wp2_with fail
      go_roundw
      case rel => exact ⟨j + 1, by omega, by go_num, HPU.out⟩
      case measure => simp [intOf]; omega
    · have hjm : j = m := by omega
      subst hjm
      obtain ⟨a3, c3, rfl, hca, hg⟩ := own_slice2 hown.own
      have hbe : Below w.heap.size w wr := chain HB0.out hown.below
      have HBE := Lib.hid hbe
      clear hbe hlt
      have HG := HN
      clear hown hg
      have HQ : Hid (nodeB 1 n j (Tr.kid t.kids 0).num (Tr.kid t.kids 1).num = (decide (j = 0 ∧ n ≤ 64) && B)) := by unfold Hid nodeB; rw [if_pos rfl, HB.out]
      rw [HQ.out] at HG
      clear HQ
      by_cases hm : j = 0
      · subst hm
        cases B with
        | true =>
          by_cases h : n ≤ 64
          all_goals
            go_wp2_with fail
            refine (HS.out _).mono ?_; rintro e w1 ⟨rfl, rfl⟩
            go_wp2_with fail
            go_ret
            exact ⟨ret_bool (by rw [HG.out]; simp [h]), HBE.out⟩
        | false =>
          go_wp2_with fail
          refine (HS.out _).mono ?_; rintro e w1 ⟨rfl, rfl⟩
          go_wp2_with fail
          go_ret
          exact ⟨ret_bool (by rw [HG.out]; simp), HBE.out⟩
      · skip
        have hm0 : ((j : Int) == 0) = false := bno (by omega)
        have hn0 : ((j : Int) != 0) = true := bdiff (by omega)
        go_wp2_with fail
        go_ret
        exact ⟨ret_bool (by rw [HG.out]; simp [hm]), HBE.out⟩
set_option maxHeartbeats 1600000 in
theorem ref14_Node_2 (t : Tr) (n : Int) (a : Option Addr) (m cap : Nat) (w : World) (F : Nat → Prop) (hs : t.size ≤ 4194304) (hT : IsT w F 2 n a m cap t) :
    Calls Tryz.prog 38 #[.agg #[.int .i64 2, .int .i64 n, .slice a m cap]] w fun e w' => e = .returned (.bool (nodeOk t)) ∧ Below w.heap.size w w' := by
  obtain ⟨i0, hi, hz0, hz1, hz2⟩ := info_parts info_int
  have hn := hT.fn
  have hmm : m ≤ 4194304 := by
    have h1 := Tr.len_le_sizeL t.kids
    rw [Tr.size_kids] at hs
    rw [hT.em]; omega
  have HN : Hid (nodeOk t = nodeB 2 n m (Tr.kid t.kids 0).num (Tr.kid t.kids 1).num) := by unfold Hid nodeOk; rw [hT.ek, hT.en, hT.em]
  have hd : ∀ i, i < m → -9223372036854775808 ≤ (Tr.kid t.kids i).num ∧ (Tr.kid t.kids i).num < 9223372036854775808 := fun i h => by
    obtain ⟨_, _, _, _, _, d⟩ := hT.knum i h
    exact d
  have HD := Lib.hid hd
  obtain ⟨B, hB⟩ : ∃ B, hasSz n = B := ⟨_, rfl⟩
  have HS : Hid (∀ W, Calls Tryz.prog 39 #[.int .i64 n] W fun e w' => e = .returned (.bool B) ∧ W = w') := fun W => by
    cases B with
    | true => exact refHas_yes n W hB
    | false => exact refHas_no n W hB hn
  have HB := Lib.hid hB
  obtain ⟨W0, hW0⟩ : ∃ W0, w.alloc (.cells #[.int .i64 2, .int .i64 n, .slice a m cap] 24) = W0 := ⟨_, rfl⟩
  have hx0 : W0.heap[w.heap.size]? = some (.cells #[.int .i64 2, .int .i64 n, .slice a m cap] 24 (0, 0)) := by rw [← hW0]; exact block_new rfl
  have hb0 : Below w.heap.size w W0 := by rw [← hW0]; exact (Below.refl _ _).alloc (Nat.le_refl _) _
  have HT := Lib.hid (hT.below hb0)
  have HX0 := Lib.hid hx0
  have HW0 := Lib.hid hW0
  have HB0 := Lib.hid hb0
  clear hs hT hd hB hx0 hW0 hb0
  go_enter Tryz.func38, Tryz.ntmps38
  go_wp2_with fail
  rw [HW0.out]
  go_loopw [3, 4] (fun v i wr => ∃ j : Nat, j ≤ m ∧ i = .int .i64 j ∧ Own .i64 3 W0 wr v j (fun i => (Tr.kid t.kids i).num)) (fun _ i _ => m - (intOf i).toNat)
  case atStart => exact ⟨0, Nat.zero_le _, rfl, World.ownsRow_nil _ _ _ _, Below.refl _ _⟩
  case round =>
    obtain ⟨j, hj, rfl, hown⟩ := hrel
    have hX := (hown.below.block _ (block_lt HX0.out)).trans HX0.out
    have x0 : wr.cell? ⟨w.heap.size, 0, none⟩ = some (.int .i64 2) := block_cell hX 0
    have x1 : wr.cell? ⟨w.heap.size, 1, none⟩ = some (.int .i64 n) := block_cell hX 1
    have x2 : wr.cell? ⟨w.heap.size, 2, none⟩ = some (.slice a m cap) := block_cell hX 2
    clear hX
    by_cases hlt : j < m
    · obtain ⟨b, off, rfl, hbl, c0, d0⟩ := (HT.out.below hown.below).knum j hlt
      obtain ⟨kk, hkk⟩ : ∃ kk, (Tr.kid t.kids j).num = kk := ⟨_, rfl⟩
      rw [hkk] at c0 d0
      have HKK := Lib.hid hkk
      clear hkk
      have g1 : (0 : Int) ≤ (j : Int) := by omega
      have g2 : (j : Int) < (m : Int) := by omega
      go_wp2_with (at_builtin; refine wpList_append_own _ rfl _ _ 71 rfl W0.heap.size 3 i0 (.int .i64 0) 1 8 Tryz.underlying71 hi hz0 hz1 hz2 rfl (by decide) _ _ _ rfl (hown.own.alloc _) ⟨wr.heap.size, 0, none⟩ 1 1 [.int .i64 kk] rfl rfl (cell_one_new _ _ _) (one_cell _ _) (by unfold maxLen; omega) (by omega) (size_alloc_le hown.below _) ?_)
      intro v' w2 hown2 hgrow _
      have HPU := Lib.hid (hown.push kk HKK.out.symm hown2 hgrow)
      clear hown hown2 hgrow x0 x1 x2 c0
      go_wp2_with fail
      go_roundw
      case rel => exact ⟨j + 1, by omega, by go_num, HPU.out⟩
      case measure => simp [intOf]; omega
    · have hjm : j = m := by omega
      subst hjm
      obtain ⟨a3, c3, rfl, hca, hg⟩ := own_slice2 hown.own
      have hbe : Below w.heap.size w wr := chain HB0.out hown.below
      have HBE := Lib.hid hbe
      clear hbe hlt
      have HG := HN
      clear hown hg
      have HQ : Hid (nodeB 2 n j (Tr.kid t.kids 0).num (Tr.kid t.kids 1).num = decide (j = 0 ∧ 2 ≤ n ∧ n ≤ 5)) := by unfold Hid nodeB; simp
      rw [HQ.out] at HG
      clear HQ
      by_cases hm : j = 0
      · subst hm
        rcases (show n < 2 ∨ (2 ≤ n ∧ 5 < n) ∨ (2 ≤ n ∧ n ≤ 5) by omega) with h | ⟨h, h5⟩ | ⟨h, h5⟩
        all_goals
          go_wp2_with fail
          go_ret
          exact ⟨ret_bool (by rw [HG.out]; simp; try omega), HBE.out⟩
      · skip
        have hm0 : ((j : Int) == 0) = false := bno (by omega)
        have hn0 : ((j : Int) != 0) = true := bdiff (by omega)
        go_wp2_with fail
        go_ret
        exact ⟨ret_bool (by rw [HG.out]; simp [hm]), HBE.out⟩
set_option maxHeartbeats 1600000 in
theorem ref14_Node_3 (t : Tr) (n : Int) (a : Option Addr) (m cap : Nat) (w : World) (F : Nat → Prop) (hs : t.size ≤ 4194304) (hT : IsT w F 3 n a m cap t) :
    Calls Tryz.prog 38 #[.agg #[.int .i64 3, .int .i64 n, .slice a m cap]] w fun e w' => e = .returned (.bool (nodeOk t)) ∧ Below w.heap.size w w' := by
  obtain ⟨i0, hi, hz0, hz1, hz2⟩ := info_parts info_int
  have hn := hT.fn
  have hmm : m ≤ 4194304 := by
    have h1 := Tr.len_le_sizeL t.kids
    rw [Tr.size_kids] at hs
    rw [hT.em]; omega
  have HN : Hid (nodeOk t = nodeB 3 n m (Tr.kid t.kids 0).num (Tr.kid t.kids 1).num) := by unfold Hid nodeOk; rw [hT.ek, hT.en, hT.em]
  have hd : ∀ i, i < m → -9223372036854775808 ≤ (Tr.kid t.kids i).num ∧ (Tr.kid t.kids i).num < 9223372036854775808 := fun i h => by
    obtain ⟨_, _, _, _, _, d⟩ := hT.knum i h
    exact d
  have HD := Lib.hid hd
  obtain ⟨B, hB⟩ : ∃ B, hasSz n = B := ⟨_, rfl⟩
  have HS : Hid (∀ W, Calls Tryz.prog 39 #[.int .i64 n] W fun e w' => e = .returned (.bool B) ∧ W = w') := fun W => by
    cases B with
    | true => exact refHas_yes n W hB
    | false => exact refHas_no n W hB hn
  have HB := Lib.hid hB
  obtain ⟨W0, hW0⟩ : ∃ W0, w.alloc (.cells #[.int .i64 3, .int .i64 n, .slice a m cap] 24) = W0 := ⟨_, rfl⟩
  have hx0 : W0.heap[w.heap.size]? = some (.cells #[.int .i64 3, .int .i64 n, .slice a m cap] 24 (0, 0)) := by rw [← hW0]; exact block_new rfl
  have hb0 : Below w.heap.size w W0 := by rw [← hW0]; exact (Below.refl _ _).alloc (Nat.le_refl _) _
  have HT := Lib.hid (hT.below hb0)
  have HX0 := Lib.hid hx0
  have HW0 := Lib.hid hW0
  have HB0 := Lib.hid hb0
  clear hs hT hd hB hx0 hW0 hb0
  go_enter Tryz.func38, Tryz.ntmps38
  go_wp2_with fail
  rw [HW0.out]
  go_loopw [3, 4] (fun v i wr => ∃ j : Nat, j ≤ m ∧ i = .int .i64 j ∧ Own .i64 3 W0 wr v j (fun i => (Tr.kid t.kids i).num)) (fun _ i _ => m - (intOf i).toNat)
  case atStart => exact ⟨0, Nat.zero_le _, rfl, World.ownsRow_nil _ _ _ _, Below.refl _ _⟩
  case round =>
    obtain ⟨j, hj, rfl, hown⟩ := hrel
    have hX := (hown.below.block _ (block_lt HX0.out)).trans HX0.out
    have x0 : wr.cell? ⟨w.heap.size, 0, none⟩ = some (.int .i64 3) := block_cell hX 0
    have x1 : wr.cell? ⟨w.heap.size, 1, none⟩ = some (.int .i64 n) := block_cell hX 1
    have x2 : wr.cell? ⟨w.heap.size, 2, none⟩ = some (.slice a m cap) := block_cell hX 2
    clear hX
    by_cases hlt : j < m
    · obtain ⟨b, off, rfl, hbl, c0, d0⟩ := (HT.out.below hown.below).knum j hlt
      obtain ⟨kk, hkk⟩ : ∃ kk, (Tr.kid t.kids j).num = kk := ⟨_, rfl⟩
      rw [hkk] at c0 d0
      have HKK := Lib.hid hkk
      clear hkk
      have g1 : (0 : Int) ≤ (j : Int) := by omega
      have g2 : (j : Int) < (m : Int) := by omega
      go_wp2_with (at_builtin; refine wpList_append_own _ rfl _ _ 71 rfl W0.heap.size 3 i0 (.int .i64 0) 1 8 Tryz.underlying71 hi hz0 hz1 hz2 rfl (by decide) _ _ _ rfl (hown.own.alloc _) ⟨wr.heap.size, 0, none⟩ 1 1 [.int .i64 kk] rfl rfl (cell_one_new _ _ _) (one_cell _ _) (by unfold maxLen; omega) (by omega) (size_alloc_le hown.below _) ?_)
      intro v' w2 hown2 hgrow _
      have HPU := Lib.hid (hown.push kk HKK.out.symm hown2 hgrow)
      clear hown hown2 hgrow x0 x1 x2 c0
      go_wp2_with fail
      go_roundw
      case rel => exact ⟨j + 1, by omega, by go_num, HPU.out⟩
      case measure => simp [intOf]; omega
    · have hjm : j = m := by omega
      subst hjm
      obtain ⟨a3, c3, rfl, hca, hg⟩ := own_slice2 hown.own
      have hbe : Below w.heap.size w wr := chain HB0.out hown.below
      have HBE := Lib.hid hbe
      clear hbe hlt
      have HG := HN
      clear hown hg
      obtain ⟨C, hC⟩ : ∃ C, hasP2 n = C := ⟨_, rfl⟩
      have HST : Hid (∀ W, Calls Tryz.prog 64 #[.int .i64 n] W fun e w' => e = .returned (.bool C) ∧ W = w') := fun W => by rw [← hC]; exact ref14_power n W hn
      have HQ : Hid (nodeB 3 n j (Tr.kid t.kids 0).num (Tr.kid t.kids 1).num = (decide (j = 0 ∧ 2 ≤ n) && C)) := by unfold Hid nodeB; simp [hC]
      clear hC
      rw [HQ.out] at HG
      clear HQ
      by_cases hm : j = 0
      · subst hm
        by_cases h : 2 ≤ n
        · go_wp2_with fail
          refine (HST.out _).mono ?_; rintro e w1 ⟨rfl, rfl⟩
          go_wp2_with fail
          go_ret
          exact ⟨ret_bool (by rw [HG.out]; simp [h]), HBE.out⟩
        · go_wp2_with fail
          go_ret
          exact ⟨ret_bool (by rw [HG.out]; first | (simp [h]; done) | (simp; intros; omega)), HBE.out⟩
      · skip
        have hm0 : ((j : Int) == 0) = false := bno (by omega)
        have hn0 : ((j : Int) != 0) = true := bdiff (by omega)
        go_wp2_with fail
        go_ret
        exact ⟨ret_bool (by rw [HG.out]; simp [hm]), HBE.out⟩
set_option maxHeartbeats 1600000 in
theorem ref14_Node_4 (t : Tr) (n : Int) (a : Option Addr) (m cap : Nat) (w : World) (F : Nat → Prop) (hs : t.size ≤ 4194304) (hT : IsT w F 4 n a m cap t) :
    Calls Tryz.prog 38 #[.agg #[.int .i64 4, .int .i64 n, .slice a m cap]] w fun e w' => e = .returned (.bool (nodeOk t)) ∧ Below w.heap.size w w' := by
  obtain ⟨i0, hi, hz0, hz1, hz2⟩ := info_parts info_int
  have hn := hT.fn
  have hmm : m ≤ 4194304 := by
    have h1 := Tr.len_le_sizeL t.kids
    rw [Tr.size_kids] at hs
    rw [hT.em]; omega
  have HN : Hid (nodeOk t = nodeB 4 n m (Tr.kid t.kids 0).num (Tr.kid t.kids 1).num) := by unfold Hid nodeOk; rw [hT.ek, hT.en, hT.em]
  have hd : ∀ i, i < m → -9223372036854775808 ≤ (Tr.kid t.kids i).num ∧ (Tr.kid t.kids i).num < 9223372036854775808 := fun i h => by
    obtain ⟨_, _, _, _, _, d⟩ := hT.knum i h
    exact d
  have HD := Lib.hid hd
  obtain ⟨B, hB⟩ : ∃ B, hasSz n = B := ⟨_, rfl⟩
  have HS : Hid (∀ W, Calls Tryz.prog 39 #[.int .i64 n] W fun e w' => e = .returned (.bool B) ∧ W = w') := fun W => by
    cases B with
    | true => exact refHas_yes n W hB
    | false => exact refHas_no n W hB hn
  have HB := Lib.hid hB
  obtain ⟨W0, hW0⟩ : ∃ W0, w.alloc (.cells #[.int .i64 4, .int .i64 n, .slice a m cap] 24) = W0 := ⟨_, rfl⟩
  have hx0 : W0.heap[w.heap.size]? = some (.cells #[.int .i64 4, .int .i64 n, .slice a m cap] 24 (0, 0)) := by rw [← hW0]; exact block_new rfl
  have hb0 : Below w.heap.size w W0 := by rw [← hW0]; exact (Below.refl _ _).alloc (Nat.le_refl _) _
  have HT := Lib.hid (hT.below hb0)
  have HX0 := Lib.hid hx0
  have HW0 := Lib.hid hW0
  have HB0 := Lib.hid hb0
  clear hs hT hd hB hx0 hW0 hb0
  go_enter Tryz.func38, Tryz.ntmps38
  go_wp2_with fail
  rw [HW0.out]
  go_loopw [3, 4] (fun v i wr => ∃ j : Nat, j ≤ m ∧ i = .int .i64 j ∧ Own .i64 3 W0 wr v j (fun i => (Tr.kid t.kids i).num)) (fun _ i _ => m - (intOf i).toNat)
  case atStart => exact ⟨0, Nat.zero_le _, rfl, World.ownsRow_nil _ _ _ _, Below.refl _ _⟩
  case round =>
    obtain ⟨j, hj, rfl, hown⟩ := hrel
    have hX := (hown.below.block _ (block_lt HX0.out)).trans HX0.out
    have x0 : wr.cell? ⟨w.heap.size, 0, none⟩ = some (.int .i64 4) := block_cell hX 0
    have x1 : wr.cell? ⟨w.heap.size, 1, none⟩ = some (.int .i64 n) := block_cell hX 1
    have x2 : wr.cell? ⟨w.heap.size, 2, none⟩ = some (.slice a m cap) := block_cell hX 2
    clear hX
    by_cases hlt : j < m
    · obtain ⟨b, off, rfl, hbl, c0, d0⟩ := (HT.out.below hown.below).knum j hlt
      obtain ⟨kk, hkk⟩ : ∃ kk, (Tr.kid t.kids j).num = kk := ⟨_, rfl⟩
      rw [hkk] at c0 d0
      have HKK := Lib.hid hkk
      clear hkk
      have g1 : (0 : Int) ≤ (j : Int) := by omega
      have g2 : (j : Int) < (m : Int) := by omega
      go_wp2_with (at_builtin; refine wpList_append_own _ rfl _ _ 71 rfl W0.heap.size 3 i0 (.int .i64 0) 1 8 Tryz.underlying71 hi hz0 hz1 hz2 rfl (by decide) _ _ _ rfl (hown.own.alloc _) ⟨wr.heap.size, 0, none⟩ 1 1 [.int .i64 kk] rfl rfl (cell_one_new _ _ _) (one_cell _ _) (by unfold maxLen; omega) (by omega) (size_alloc_le hown.below _) ?_)
      intro v' w2 hown2 hgrow _
      have HPU := Lib.hid (hown.push kk HKK.out.symm hown2 hgrow)
      clear hown hown2 hgrow x0 x1 x2 c0
      go_wp2_with fail
      go_roundw
      case rel => exact ⟨j + 1, by omega, by go_num, HPU.out⟩
      case measure => simp [intOf]; omega
    · have hjm : j = m := by omega
      subst hjm
      obtain ⟨a3, c3, rfl, hca, hg⟩ := own_slice2 hown.own
      have hbe : Below w.heap.size w wr := chain HB0.out hown.below
      have HBE := Lib.hid hbe
      clear hbe hlt
      have HG := HN
      have HQ : Hid (nodeB 4 n j (Tr.kid t.kids 0).num (Tr.kid t.kids 1).num = sidesB n j (Tr.kid t.kids 0).num (Tr.kid t.kids 1).num) := by unfold Hid nodeB; simp
      rw [HQ.out] at HG
      clear HQ
      by_cases hm : j = 2
      · cases B with
        | false =>
          have HF : Hid (sidesB n j (Tr.kid t.kids 0).num (Tr.kid t.kids 1).num = false) := by unfold Hid sidesB; rw [HB.out, Bool.and_false]
          rw [HF.out] at HG
          subst hm
          clear hown hg
          go_wp2_with fail
          go_quiet ((first | (go_at_call 39; exact Calls.quiet_of_same (sameW (HS.out _)))))
          go_wp2_with fail
          go_ret
          exact ⟨ret_bool (by rw [HG.out] <;> simp), below_drewN HBE.out _⟩
        | true =>
          have hsz := hasSz_bd HB.out
          have hd0 := HD.out 0 (by omega)
          have hd1 := HD.out 1 (by omega)
          obtain ⟨g, rfl⟩ := hg (by omega)
          have c0 := own_int_cell hown 0 (by omega)
          have c1 := own_int_cell hown 1 (by omega)
          have HF : Hid (sidesB n j (Tr.kid t.kids 0).num (Tr.kid t.kids 1).num = decide (2 ≤ (Tr.kid t.kids 0).num ∧ 2 ≤ (Tr.kid t.kids 1).num ∧ (Tr.kid t.kids 0).num ≤ n ∧ (Tr.kid t.kids 1).num ≤ n ∧ (Tr.kid t.kids 0).num * (Tr.kid t.kids 1).num = n)) := by
            unfold Hid sidesB
            rw [HB.out, Bool.and_true, hm]
            simp
          rw [HF.out] at HG
          clear HF hown hg HD HT
          obtain ⟨k0, hk0⟩ : ∃ x, (Tr.kid t.kids 0).num = x := ⟨_, rfl⟩
          obtain ⟨k1, hk1⟩ : ∃ x, (Tr.kid t.kids 1).num = x := ⟨_, rfl⟩
          try simp only [] at c0 c1
          rw [hk0] at c0 hd0 HG
          rw [hk1] at c1 hd1 HG
          clear hk0 hk1
          subst hm
          by_cases h0 : 2 ≤ k0
          · have d0 : decide (k0 < 2) = false := by simp; omega
            by_cases h1 : 2 ≤ k1
            · have d1 : decide (k1 < 2) = false := by simp; omega
              have hdv := sides_div hsz.1 h0 h1
              obtain ⟨R, hR⟩ : ∃ R, n % k0 = R := ⟨_, rfl⟩
              have r0 := Int.emod_nonneg n (show k0 ≠ 0 by omega)
              have r1 := Int.emod_lt_of_pos n (show 0 < k0 by omega)
              have q0 : 0 ≤ n / k0 := Int.ediv_nonneg (by omega) (by omega)
              have q1 : n / k0 ≤ n := Int.ediv_le_self _ (by omega)
              obtain ⟨Q, hQ⟩ : ∃ Q, n / k0 = Q := ⟨_, rfl⟩
              have e1 : n.tmod k0 = R := by rw [Int.tmod_eq_emod_of_nonneg (by omega), hR]
              have e3 : n.tdiv k0 = Q := by rw [Int.tdiv_eq_ediv_of_nonneg (by omega), hQ]
              rw [hR] at hdv r0 r1
              rw [hQ] at hdv q0 q1
              have wq : IntKind.i64.wrap Q = Q := IntWalk.i64_in _ (by omega)
              have HDV := Lib.hid hdv
              have z1 : (k0 == 0) = false := bno (by omega)
              have z2 : ¬ k0 = 0 := by omega
              have HE2 := Lib.hid hR
              have HE4 := Lib.hid hQ
              clear hdv hR hQ
              by_cases hr : R = 0
              · have b1 : (R != 0) = false := bfalse hr
                have HRR := Lib.hid hr
                clear hr
                by_cases hq : Q = k1
                · have b2 : (Q != k1) = false := bfalse hq
                  have HQQ := Lib.hid hq
                  clear hq
                  have e2 : n % k0 = R := HE2.out
                  have e4 : n / k0 = Q := HE4.out
                  have HYES : Hid (decide (2 ≤ k0 ∧ 2 ≤ k1 ∧ k0 ≤ n ∧ k1 ≤ n ∧ k0 * k1 = n) = true) := by
                    have := HDV.out.1 ⟨HRR.out, HQQ.out⟩
                    unfold Hid; rw [decide_eq_true_eq]; exact ⟨h0, h1, this⟩
                  rw [HYES.out] at HG
                  go_wp2_with fail
                  go_quiet ((first | (go_at_call 39; exact Calls.quiet_of_same (sameW (HS.out _)))))
                  clear e2 e4
                  go_wp2_with fail
                  go_quiet (fail)
                  go_wp2_with fail
                  go_ret
                  exact ⟨ret_bool (by rw [HG.out] <;> simp), below_drewN (below_drewN HBE.out _) _⟩
                · have b2 : (Q != k1) = true := bdiff hq
                  have HNO : Hid (decide (2 ≤ k0 ∧ 2 ≤ k1 ∧ k0 ≤ n ∧ k1 ≤ n ∧ k0 * k1 = n) = false) := by
                    unfold Hid; rw [decide_eq_false_iff_not]; intro h; exact hq (HDV.out.2 h.2.2).2
                  rw [HNO.out] at HG
                  have e2 : n % k0 = R := HE2.out
                  have e4 : n / k0 = Q := HE4.out
                  clear hq
                  go_wp2_with fail
                  go_quiet ((first | (go_at_call 39; exact Calls.quiet_of_same (sameW (HS.out _)))))
                  clear e2 e4
                  go_wp2_with fail
                  go_ret
                  exact ⟨ret_bool (by rw [HG.out] <;> simp), below_drewN HBE.out _⟩
              · have b1 : (R != 0) = true := bdiff hr
                have HNO : Hid (decide (2 ≤ k0 ∧ 2 ≤ k1 ∧ k0 ≤ n ∧ k1 ≤ n ∧ k0 * k1 = n) = false) := by
                  unfold Hid; rw [decide_eq_false_iff_not]; intro h; exact hr (HDV.out.2 h.2.2).1
                rw [HNO.out] at HG
                have e2 : n % k0 = R := HE2.out
                have e4 : n / k0 = Q := HE4.out
                clear hr
                go_wp2_with fail
                go_quiet ((first | (go_at_call 39; exact Calls.quiet_of_same (sameW (HS.out _)))))
                clear e2 e4
                go_wp2_with fail
                go_ret
                exact ⟨ret_bool (by rw [HG.out] <;> simp), below_drewN HBE.out _⟩
            · have b1 : decide (k1 < 2) = true := by simp; omega
              have HNO : Hid (decide (2 ≤ k0 ∧ 2 ≤ k1 ∧ k0 ≤ n ∧ k1 ≤ n ∧ k0 * k1 = n) = false) := by
                unfold Hid; rw [decide_eq_false_iff_not]; intro h; omega
              rw [HNO.out] at HG
              go_wp2_with fail
              go_quiet ((first | (go_at_call 39; exact Calls.quiet_of_same (sameW (HS.out _)))))
              go_wp2_with fail
              go_ret
              exact ⟨ret_bool (by rw [HG.out] <;> simp), below_drewN HBE.out _⟩
          · have b1 : decide (k0 < 2) = true := by simp; omega
            have HNO : Hid (decide (2 ≤ k0 ∧ 2 ≤ k1 ∧ k0 ≤ n ∧ k1 ≤ n ∧ k0 * k1 = n) = false) := by
              unfold Hid; rw [decide_eq_false_iff_not]; intro h; omega
            rw [HNO.out] at HG
            go_wp2_with fail
            go_quiet ((first | (go_at_call 39; exact Calls.quiet_of_same (sameW (HS.out _)))))
            go_wp2_with fail
            go_ret
            exact ⟨ret_bool (by rw [HG.out] <;> simp), below_drewN HBE.out _⟩
      · skip
        have HF : Hid (sidesB n j (Tr.kid t.kids 0).num (Tr.kid t.kids 1).num = false) := by unfold Hid sidesB; rw [decide_eq_false (by intro h; exact hm h.1), Bool.false_and]
        rw [HF.out] at HG
        have hm2 : ((j : Int) == 2) = false := bno (by omega)
        have hn2 : ((j : Int) != 2) = true := bdiff (by omega)
        clear hown hg
        go_wp2_with fail
        go_quiet (fail)
        go_wp2_with fail
        go_ret
        exact ⟨ret_bool (by rw [HG.out] <;> simp), below_drewN HBE.out _⟩
set_option maxHeartbeats 1600000 in
theorem ref14_Node_5 (t : Tr) (n : Int) (a : Option Addr) (m cap : Nat) (w : World) (F : Nat → Prop) (hs : t.size ≤ 4194304) (hT : IsT w F 5 n a m cap t) :
    Calls Tryz.prog 38 #[.agg #[.int .i64 5, .int .i64 n, .slice a m cap]] w fun e w' => e = .returned (.bool (nodeOk t)) ∧ Below w.heap.size w w' := by
  obtain ⟨i0, hi, hz0, hz1, hz2⟩ := info_parts info_int
  have hn := hT.fn
  have hmm : m ≤ 4194304 := by
    have h1 := Tr.len_le_sizeL t.kids
    rw [Tr.size_kids] at hs
    rw [hT.em]; omega
  have HN : Hid (nodeOk t = nodeB 5 n m (Tr.kid t.kids 0).num (Tr.kid t.kids 1).num) := by unfold Hid nodeOk; rw [hT.ek, hT.en, hT.em]
  have hd : ∀ i, i < m → -9223372036854775808 ≤ (Tr.kid t.kids i).num ∧ (Tr.kid t.kids i).num < 9223372036854775808 := fun i h => by
    obtain ⟨_, _, _, _, _, d⟩ := hT.knum i h
    exact d
  have HD := Lib.hid hd
  obtain ⟨B, hB⟩ : ∃ B, hasSz n = B := ⟨_, rfl⟩
  have HS : Hid (∀ W, Calls Tryz.prog 39 #[.int .i64 n] W fun e w' => e = .returned (.bool B) ∧ W = w') := fun W => by
    cases B with
    | true => exact refHas_yes n W hB
    | false => exact refHas_no n W hB hn
  have HB := Lib.hid hB
  obtain ⟨W0, hW0⟩ : ∃ W0, w.alloc (.cells #[.int .i64 5, .int .i64 n, .slice a m cap] 24) = W0 := ⟨_, rfl⟩
  have hx0 : W0.heap[w.heap.size]? = some (.cells #[.int .i64 5, .int .i64 n, .slice a m cap] 24 (0, 0)) := by rw [← hW0]; exact block_new rfl
  have hb0 : Below w.heap.size w W0 := by rw [← hW0]; exact (Below.refl _ _).alloc (Nat.le_refl _) _
  have HT := Lib.hid (hT.below hb0)
  have HX0 := Lib.hid hx0
  have HW0 := Lib.hid hW0
  have HB0 := Lib.hid hb0
  clear hs hT hd hB hx0 hW0 hb0
  go_enter Tryz.func38, Tryz.ntmps38
  go_wp2_with fail
  rw [HW0.out]
  go_loopw [3, 4] (fun v i wr => ∃ j : Nat, j ≤ m ∧ i = .int .i64 j ∧ Own .i64 3 W0 wr v j (fun i => (Tr.kid t.kids i).num)) (fun _ i _ => m - (intOf i).toNat)
  case atStart => exact ⟨0, Nat.zero_le _, rfl, World.ownsRow_nil _ _ _ _, Below.refl _ _⟩
  case round =>
    obtain ⟨j, hj, rfl, hown⟩ := hrel
    have hX := (hown.below.block _ (block_lt HX0.out)).trans HX0.out
    have x0 : wr.cell? ⟨w.heap.size, 0, none⟩ = some (.int .i64 5) := block_cell hX 0
    have x1 : wr.cell? ⟨w.heap.size, 1, none⟩ = some (.int .i64 n) := block_cell hX 1
    have x2 : wr.cell? ⟨w.heap.size, 2, none⟩ = some (.slice a m cap) := block_cell hX 2
    clear hX
    by_cases hlt : j < m
    · obtain ⟨b, off, rfl, hbl, c0, d0⟩ := (HT.out.below hown.below).knum j hlt
      obtain ⟨kk, hkk⟩ : ∃ kk, (Tr.kid t.kids j).num = kk := ⟨_, rfl⟩
      rw [hkk] at c0 d0
      have HKK := Lib.hid hkk
      clear hkk
      have g1 : (0 : Int) ≤ (j : Int) := by omega
      have g2 : (j : Int) < (m : Int) := by omega
      go_wp2_with (at_builtin; refine wpList_append_own _ rfl _ _ 71 rfl W0.heap.size 3 i0 (.int .i64 0) 1 8 Tryz.underlying71 hi hz0 hz1 hz2 rfl (by decide) _ _ _ rfl (hown.own.alloc _) ⟨wr.heap.size, 0, none⟩ 1 1 [.int .i64 kk] rfl rfl (cell_one_new _ _ _) (one_cell _ _) (by unfold maxLen; omega) (by omega) (size_alloc_le hown.below _) ?_)
      intro v' w2 hown2 hgrow _
      have HPU := Lib.hid (hown.push kk HKK.out.symm hown2 hgrow)
      clear hown hown2 hgrow x0 x1 x2 c0
      go_wp2_with fail
      go_roundw
      case rel => exact ⟨j + 1, by omega, by go_num, HPU.out⟩
      case measure => simp [intOf]; omega
    · have hjm : j = m := by omega
      subst hjm
      obtain ⟨a3, c3, rfl, hca, hg⟩ := own_slice2 hown.own
      have hbe : Below w.heap.size w wr := chain HB0.out hown.below
      have HBE := Lib.hid hbe
      clear hbe hlt
      have HG := HN
      have HQ : Hid (nodeB 5 n j (Tr.kid t.kids 0).num (Tr.kid t.kids 1).num = (sidesB n j (Tr.kid t.kids 0).num (Tr.kid t.kids 1).num && decide (gcdI (Tr.kid t.kids 0).num (Tr.kid t.kids 1).num = 1))) := by unfold Hid nodeB; simp
      rw [HQ.out] at HG
      clear HQ
      by_cases hm : j = 2
      · cases B with
        | false =>
          have HF : Hid (sidesB n j (Tr.kid t.kids 0).num (Tr.kid t.kids 1).num = false) := by unfold Hid sidesB; rw [HB.out, Bool.and_false]
          rw [HF.out] at HG
          subst hm
          clear hown hg
          go_wp2_with fail
          go_quiet ((first | (go_at_call 39; exact Calls.quiet_of_same (sameW (HS.out _)))))
          go_wp2_with fail
          go_ret
          exact ⟨ret_bool (by rw [HG.out] <;> simp), below_drewN HBE.out _⟩
        | true =>
          have hsz := hasSz_bd HB.out
          have hd0 := HD.out 0 (by omega)
          have hd1 := HD.out 1 (by omega)
          obtain ⟨g, rfl⟩ := hg (by omega)
          have c0 := own_int_cell hown 0 (by omega)
          have c1 := own_int_cell hown 1 (by omega)
          have HF : Hid (sidesB n j (Tr.kid t.kids 0).num (Tr.kid t.kids 1).num = decide (2 ≤ (Tr.kid t.kids 0).num ∧ 2 ≤ (Tr.kid t.kids 1).num ∧ (Tr.kid t.kids 0).num ≤ n ∧ (Tr.kid t.kids 1).num ≤ n ∧ (Tr.kid t.kids 0).num * (Tr.kid t.kids 1).num = n)) := by
            unfold Hid sidesB
            rw [HB.out, Bool.and_true, hm]
            simp
          rw [HF.out] at HG
          clear HF hown hg HD HT
          obtain ⟨k0, hk0⟩ : ∃ x, (Tr.kid t.kids 0).num = x := ⟨_, rfl⟩
          obtain ⟨k1, hk1⟩ : ∃ x, (Tr.kid t.kids 1).num = x := ⟨_, rfl⟩
          try simp only [] at c0 c1
          rw [hk0] at c0 hd0 HG
          rw [hk1] at c1 hd1 HG
          clear hk0 hk1
          subst hm
          by_cases h0 : 2 ≤ k0
          · have d0 : decide (k0 < 2) = false := by simp; omega
            by_cases h1 : 2 ≤ k1
            · have d1 : decide (k1 < 2) = false := by simp; omega
              have hdv := sides_div hsz.1 h0 h1
              obtain ⟨R, hR⟩ : ∃ R, n % k0 = R := ⟨_, rfl⟩
              have r0 := Int.emod_nonneg n (show k0 ≠ 0 by omega)
              have r1 := Int.emod_lt_of_pos n (show 0 < k0 by omega)
              have q0 : 0 ≤ n / k0 := Int.ediv_nonneg (by omega) (by omega)
              have q1 : n / k0 ≤ n := Int.ediv_le_self _ (by omega)
              obtain ⟨Q, hQ⟩ : ∃ Q, n / k0 = Q := ⟨_, rfl⟩
              have e1 : n.tmod k0 = R := by rw [Int.tmod_eq_emod_of_nonneg (by omega), hR]
              have e3 : n.tdiv k0 = Q := by rw [Int.tdiv_eq_ediv_of_nonneg (by omega), hQ]
              rw [hR] at hdv r0 r1
              rw [hQ] at hdv q0 q1
              have wq : IntKind.i64.wrap Q = Q := IntWalk.i64_in _ (by omega)
              have HDV := Lib.hid hdv
              have z1 : (k0 == 0) = false := bno (by omega)
              have z2 : ¬ k0 = 0 := by omega
              have HE2 := Lib.hid hR
              have HE4 := Lib.hid hQ
              clear hdv hR hQ
              by_cases hr : R = 0
              · have b1 : (R != 0) = false := bfalse hr
                have HRR := Lib.hid hr
                clear hr
                by_cases hq : Q = k1
                · have b2 : (Q != k1) = false := bfalse hq
                  have HQQ := Lib.hid hq
                  clear hq
                  have e2 : n % k0 = R := HE2.out
                  have e4 : n / k0 = Q := HE4.out
                  have HYES : Hid (decide (2 ≤ k0 ∧ 2 ≤ k1 ∧ k0 ≤ n ∧ k1 ≤ n ∧ k0 * k1 = n) = true) := by
                    have := HDV.out.1 ⟨HRR.out, HQQ.out⟩
                    unfold Hid; rw [decide_eq_true_eq]; exact ⟨h0, h1, this⟩
                  rw [HYES.out] at HG
                  have hkn : k0 ≤ n ∧ k1 ≤ n := by
                    have := HDV.out.1 ⟨HRR.out, HQQ.out⟩
                    exact ⟨this.1, this.2.1⟩
                  have HGC : Hid (∀ W, Calls Tryz.prog 65 #[.int .i64 k0, .int .i64 k1] W fun e w' => e = .returned (.int .i64 (gcdI k0 k1)) ∧ W = w') := fun W => by
                    obtain ⟨x, rfl⟩ := Int.eq_ofNat_of_zero_le (show 0 ≤ k0 by omega)
                    obtain ⟨y, rfl⟩ := Int.eq_ofNat_of_zero_le (show 0 ≤ k1 by omega)
                    rw [show gcdI (x : Int) (y : Int) = ((Nat.gcd x y : Nat) : Int) by unfold gcdI; rw [if_neg (by omega), Int.toNat_natCast, Int.toNat_natCast]]
                    exact refGcd (x + y) x y W (Nat.le_refl _) (by omega) (by omega)
                  obtain ⟨G, hG⟩ : ∃ G, gcdI k0 k1 = G := ⟨_, rfl⟩
                  rw [hG] at HGC HG
                  clear hG
                  rw [Bool.true_and] at HG
                  by_cases hgg : G = 1
                  · have b3 : (G == 1) = true := btrue hgg
                    have HGV := Lib.hid hgg
                    clear hgg
                    go_wp2_with fail
                    go_quiet ((first | (go_at_call 39; exact Calls.quiet_of_same (sameW (HS.out _)))))
                    clear e2 e4
                    go_wp2_with fail
                    go_quiet ((go_at_call 65; exact quiet_same2 (sameW (HGC.out _))))
                    go_wp2_with fail
                    go_ret
                    exact ⟨ret_bool (by rw [HG.out]; simp [HGV.out]), below_drewN (below_drewN HBE.out _) _⟩
                  · have b3 : (G == 1) = false := bno hgg
                    have HGV := Lib.hid hgg
                    clear hgg
                    go_wp2_with fail
                    go_quiet ((first | (go_at_call 39; exact Calls.quiet_of_same (sameW (HS.out _)))))
                    clear e2 e4
                    go_wp2_with fail
                    go_quiet ((go_at_call 65; exact quiet_same2 (sameW (HGC.out _))))
                    go_wp2_with fail
                    go_ret
                    exact ⟨ret_bool (by rw [HG.out]; simp [HGV.out]), below_drewN (below_drewN HBE.out _) _⟩
                · have b2 : (Q != k1) = true := bdiff hq
                  have HNO : Hid (decide (2 ≤ k0 ∧ 2 ≤ k1 ∧ k0 ≤ n ∧ k1 ≤ n ∧ k0 * k1 = n) = false) := by
                    unfold Hid; rw [decide_eq_false_iff_not]; intro h; exact hq (HDV.out.2 h.2.2).2
                  rw [HNO.out] at HG
                  have e2 : n % k0 = R := HE2.out
                  have e4 : n / k0 = Q := HE4.out
                  clear hq
                  go_wp2_with fail
                  go_quiet ((first | (go_at_call 39; exact Calls.quiet_of_same (sameW (HS.out _)))))
                  clear e2 e4
                  go_wp2_with fail
                  go_ret
                  exact ⟨ret_bool (by rw [HG.out] <;> simp), below_drewN HBE.out _⟩
              · have b1 : (R != 0) = true := bdiff hr
                have HNO : Hid (decide (2 ≤ k0 ∧ 2 ≤ k1 ∧ k0 ≤ n ∧ k1 ≤ n ∧ k0 * k1 = n) = false) := by
                  unfold Hid; rw [decide_eq_false_iff_not]; intro h; exact hr (HDV.out.2 h.2.2).1
                rw [HNO.out] at HG
                have e2 : n % k0 = R := HE2.out
                have e4 : n / k0 = Q := HE4.out
                clear hr
                go_wp2_with fail
                go_quiet ((first | (go_at_call 39; exact Calls.quiet_of_same (sameW (HS.out _)))))
                clear e2 e4
                go_wp2_with fail
                go_ret
                exact ⟨ret_bool (by rw [HG.out] <;> simp), below_drewN HBE.out _⟩
            · have b1 : decide (k1 < 2) = true := by simp; omega
              have HNO : Hid (decide (2 ≤ k0 ∧ 2 ≤ k1 ∧ k0 ≤ n ∧ k1 ≤ n ∧ k0 * k1 = n) = false) := by
                unfold Hid; rw [decide_eq_false_iff_not]; intro h; omega
              rw [HNO.out] at HG
              go_wp2_with fail
              go_quiet ((first | (go_at_call 39; exact Calls.quiet_of_same (sameW (HS.out _)))))
              go_wp2_with fail
              go_ret
              exact ⟨ret_bool (by rw [HG.out] <;> simp), below_drewN HBE.out _⟩
          · have b1 : decide (k0 < 2) = true := by simp; omega
            have HNO : Hid (decide (2 ≤ k0 ∧ 2 ≤ k1 ∧ k0 ≤ n ∧ k1 ≤ n ∧ k0 * k1 = n) = false) := by
              unfold Hid; rw [decide_eq_false_iff_not]; intro h; omega
            rw [HNO.out] at HG
            go_wp2_with fail
            go_quiet ((first | (go_at_call 39; exact Calls.quiet_of_same (sameW (HS.out _)))))
            go_wp2_with fail
            go_ret
            exact ⟨ret_bool (by rw [HG.out] <;> simp), below_drewN HBE.out _⟩
      · skip
        have HF : Hid (sidesB n j (Tr.kid t.kids 0).num (Tr.kid t.kids 1).num = false) := by unfold Hid sidesB; rw [decide_eq_false (by intro h; exact hm h.1), Bool.false_and]
        rw [HF.out] at HG
        have hm2 : ((j : Int) == 2) = false := bno (by omega)
        have hn2 : ((j : Int) != 2) = true := bdiff (by omega)
        clear hown hg
        go_wp2_with fail
        go_quiet (fail)
        go_wp2_with fail
        go_ret
        exact ⟨ret_bool (by rw [HG.out] <;> simp), below_drewN HBE.out _⟩
set_option maxHeartbeats 1600000 in
theorem ref14_Node_6 (t : Tr) (n : Int) (a : Option Addr) (m cap : Nat) (w : World) (F : Nat → Prop) (hs : t.size ≤ 4194304) (hT : IsT w F 6 n a m cap t) :
    Calls Tryz.prog 38 #[.agg #[.int .i64 6, .int .i64 n, .slice a m cap]] w fun e w' => e = .returned (.bool (nodeOk t)) ∧ Below w.heap.size w w' := by
  obtain ⟨i0, hi, hz0, hz1, hz2⟩ := info_parts info_int
  have hn := hT.fn
  have hmm : m ≤ 4194304 := by
    have h1 := Tr.len_le_sizeL t.kids
    rw [Tr.size_kids] at hs
    rw [hT.em]; omega
  have HN : Hid (nodeOk t = nodeB 6 n m (Tr.kid t.kids 0).num (Tr.kid t.kids 1).num) := by unfold Hid nodeOk; rw [hT.ek, hT.en, hT.em]
  have hd : ∀ i, i < m → -9223372036854775808 ≤ (Tr.kid t.kids i).num ∧ (Tr.kid t.kids i).num < 9223372036854775808 := fun i h => by
    obtain ⟨_, _, _, _, _, d⟩ := hT.knum i h
    exact d
  have HD := Lib.hid hd
  obtain ⟨B, hB⟩ : ∃ B, hasSz n = B := ⟨_, rfl⟩
  have HS : Hid (∀ W, Calls Tryz.prog 39 #[.int .i64 n] W fun e w' => e = .returned (.bool B) ∧ W = w') := fun W => by
    cases B with
    | true => exact refHas_yes n W hB
    | false => exact refHas_no n W hB hn
  have HB := Lib.hid hB
  obtain ⟨W0, hW0⟩ : ∃ W0, w.alloc (.cells #[.int .i64 6, .int .i64 n, .slice a m cap] 24) = W0 := ⟨_, rfl⟩
  have hx0 : W0.heap[w.heap.size]? = some (.cells #[.int .i64 6, .int .i64 n, .slice a m cap] 24 (0, 0)) := by rw [← hW0]; exact block_new rfl
  have hb0 : Below w.heap.size w W0 := by rw [← hW0]; exact (Below.refl _ _).alloc (Nat.le_refl _) _
  have HT := Lib.hid (hT.below hb0)
  have HX0 := Lib.hid hx0
  have HW0 := Lib.hid hW0
  have HB0 := Lib.hid hb0
  clear hs hT hd hB hx0 hW0 hb0
  go_enter Tryz.func38, Tryz.ntmps38
  go_wp2_with fail
  rw [HW0.out]
  go_loopw [3, 4] (fun v i wr => ∃ j : Nat, j ≤ m ∧ i = .int .i64 j ∧ Own .i64 3 W0 wr v j (fun i => (Tr.kid t.kids i).num)) (fun _ i _ => m - (intOf i).toNat)
  case atStart => exact ⟨0, Nat.zero_le _, rfl, World.ownsRow_nil _ _ _ _, Below.refl _ _⟩
  case round =>
    obtain ⟨j, hj, rfl, hown⟩ := hrel
    have hX := (hown.below.block _ (block_lt HX0.out)).trans HX0.out
    have x0 : wr.cell? ⟨w.heap.size, 0, none⟩ = some (.int .i64 6) := block_cell hX 0
    have x1 : wr.cell? ⟨w.heap.size, 1, none⟩ = some (.int .i64 n) := block_cell hX 1
    have x2 : wr.cell? ⟨w.heap.size, 2, none⟩ = some (.slice a m cap) := block_cell hX 2
    clear hX
    by_cases hlt : j < m
    · obtain ⟨b, off, rfl, hbl, c0, d0⟩ := (HT.out.below hown.below).knum j hlt
      obtain ⟨kk, hkk⟩ : ∃ kk, (Tr.kid t.kids j).num = kk := ⟨_, rfl⟩
      rw [hkk] at c0 d0
      have HKK := Lib.hid hkk
      clear hkk
      have g1 : (0 : Int) ≤ (j : Int) := by omega
      have g2 : (j : Int) < (m : Int) := by omega
      go_wp2_with (at_builtin; refine wpList_append_own _ rfl _ _ 71 rfl W0.heap.size 3 i0 (.int .i64 0) 1 8 Tryz.underlying71 hi hz0 hz1 hz2 rfl (by decide) _ _ _ rfl (hown.own.alloc _) ⟨wr.heap.size, 0, none⟩ 1 1 [.int .i64 kk] rfl rfl (cell_one_new _ _ _) (one_cell _ _) (by unfold maxLen; omega) (by omega) (size_alloc_le hown.below _) ?_)
      intro v' w2 hown2 hgrow _
      have HPU := Lib.hid (hown.push kk HKK.out.symm hown2 hgrow)
      clear hown hown2 hgrow x0 x1 x2 c0
      go_wp2_with fail
      go_roundw
      case rel => exact ⟨j + 1, by omega, by go_num, HPU.out⟩
      case measure => simp [intOf]; omega
    · have hjm : j = m := by omega
      subst hjm
      obtain ⟨a3, c3, rfl, hca, hg⟩ := own_slice2 hown.own
      have hbe : Below w.heap.size w wr := chain HB0.out hown.below
      have HBE := Lib.hid hbe
      clear hbe hlt
      have HG := HN
      by_cases hm : j = 1
      · have hd0 := HD.out 0 (by omega)
        obtain ⟨g, rfl⟩ := hg (by omega)
        have c0 := own_int_cell hown 0 (by omega)
        clear hown hg HD HT
        obtain ⟨k0, hk0⟩ : ∃ x, (Tr.kid t.kids 0).num = x := ⟨_, rfl⟩
        obtain ⟨k1, hk1⟩ : ∃ x, (Tr.kid t.kids 1).num = x := ⟨_, rfl⟩
        try simp only [] at c0
        rw [hk0] at c0 hd0 HG
        rw [hk1] at HG
        clear hk0 hk1
        subst hm
        by_cases hlo : 3 ≤ n
        · cases B with
          
          | false =>
            have HF : Hid (nodeB 6 n 1 k0 k1 = false) := by unfold Hid nodeB; rw [HB.out]; simp
            rw [HF.out] at HG
            go_wp2_with fail
            go_quiet ((go_at_call 39; exact Calls.quiet_of_same (sameW (HS.out _))))
            go_wp2_with fail
            go_ret
            exact ⟨ret_bool (by first | (rw [HG.out]; done) | (rw [HG.out]; simp)), below_drewN HBE.out _⟩
          | true =>
            have hsz := hasSz_bd HB.out
            obtain ⟨N, rfl⟩ := Int.eq_ofNat_of_zero_le (show 0 ≤ n by omega)
            obtain ⟨P, hP⟩ : ∃ P, isPr (N : Int) = P := ⟨_, rfl⟩
            have HP : Hid (∀ W, Calls Tryz.prog 40 #[.int .i64 (N : Int)] W fun e w' => e = .returned (.bool P) ∧ W = w') := fun W => by rw [← hP]; exact ref03_Prime N W (by omega) (by omega)
            have HF : Hid (nodeB 6 (N : Int) 1 k0 k1 = (decide (3 ≤ (N : Int) ∧ k0 = (N : Int) - 1) && P)) := by unfold Hid nodeB; rw [HB.out, hP]; simp
            have wn : IntKind.i64.wrap ((N : Int) - 1) = (N : Int) - 1 := IntWalk.i64_in _ (by omega)
            have HWN := Lib.hid wn
            rw [HF.out] at HG
            clear HF hP wn
            cases P with
            | false =>
              have wn := HWN.out
              go_wp2_with fail
              go_quiet ((first | (go_at_call 39; exact Calls.quiet_of_same (sameW (HS.out _))) | (go_at_call 40; exact Calls.quiet_of_same (sameW (HP.out _)))))
              clear wn
              go_wp2_with fail
              go_ret
              exact ⟨ret_bool (by first | (rw [HG.out]; done) | (rw [HG.out]; simp)), below_drewN HBE.out _⟩
            | true =>
              by_cases hk : k0 = (N : Int) - 1
              · have b5 : (k0 == (N : Int) - 1) = true := btrue hk
                have HK := Lib.hid hk
                have wn := HWN.out
                clear hk
                go_wp2_with fail
                go_quiet ((first | (go_at_call 39; exact Calls.quiet_of_same (sameW (HS.out _))) | (go_at_call 40; exact Calls.quiet_of_same (sameW (HP.out _)))))
                clear wn
                go_wp2_with fail
                go_ret
                exact ⟨ret_bool (by first | (rw [HG.out]; done) | (rw [HG.out]; have := HK.out; simp; omega)), below_drewN HBE.out _⟩
              · have b5 : (k0 == (N : Int) - 1) = false := bno hk
                have HK := Lib.hid hk
                have wn := HWN.out
                clear hk
                go_wp2_with fail
                go_quiet ((first | (go_at_call 39; exact Calls.quiet_of_same (sameW (HS.out _))) | (go_at_call 40; exact Calls.quiet_of_same (sameW (HP.out _)))))
                clear wn
                go_wp2_with fail
                go_ret
                exact ⟨ret_bool (by first | (rw [HG.out]; done) | (rw [HG.out]; have := HK.out; simp; intros; omega)), below_drewN HBE.out _⟩
        · have HF : Hid (nodeB 6 n 1 k0 k1 = false) := by unfold Hid nodeB; simp; intros; omega
          have hlo2 : decide (n ≥ 3) = false := by simp; omega
          rw [HF.out] at HG
          go_wp2_with fail
          go_quiet (fail)
          go_wp2_with fail
          go_ret
          exact ⟨ret_bool (by first | (rw [HG.out]; done) | (rw [HG.out]; simp)), below_drewN HBE.out _⟩
      · skip
        have HF : Hid (nodeB 6 n j (Tr.kid t.kids 0).num (Tr.kid t.kids 1).num = false) := by unfold Hid nodeB; simp [hm]
        rw [HF.out] at HG
        have hm1 : ((j : Int) == 1) = false := bno (by omega)
        have hn1 : ((j : Int) != 1) = true := bdiff (by omega)
        clear hown hg
        go_wp2_with fail
        go_quiet (fail)
        go_wp2_with fail
        go_ret
        exact ⟨ret_bool (by first | (rw [HG.out]; done) | (rw [HG.out]; simp)), below_drewN HBE.out _⟩
set_option maxHeartbeats 1600000 in
theorem ref14_Node_7 (t : Tr) (n : Int) (a : Option Addr) (m cap : Nat) (w : World) (F : Nat → Prop) (hs : t.size ≤ 4194304) (hT : IsT w F 7 n a m cap t) :
    Calls Tryz.prog 38 #[.agg #[.int .i64 7, .int .i64 n, .slice a m cap]] w fun e w' => e = .returned (.bool (nodeOk t)) ∧ Below w.heap.size w w' := by
  obtain ⟨i0, hi, hz0, hz1, hz2⟩ := info_parts info_int
  have hn := hT.fn
  have hmm : m ≤ 4194304 := by
    have h1 := Tr.len_le_sizeL t.kids
    rw [Tr.size_kids] at hs
    rw [hT.em]; omega
  have HN : Hid (nodeOk t = nodeB 7 n m (Tr.kid t.kids 0).num (Tr.kid t.kids 1).num) := by unfold Hid nodeOk; rw [hT.ek, hT.en, hT.em]
  have hd : ∀ i, i < m → -9223372036854775808 ≤ (Tr.kid t.kids i).num ∧ (Tr.kid t.kids i).num < 9223372036854775808 := fun i h => by
    obtain ⟨_, _, _, _, _, d⟩ := hT.knum i h
    exact d
  have HD := Lib.hid hd
  obtain ⟨B, hB⟩ : ∃ B, hasSz n = B := ⟨_, rfl⟩
  have HS : Hid (∀ W, Calls Tryz.prog 39 #[.int .i64 n] W fun e w' => e = .returned (.bool B) ∧ W = w') := fun W => by
    cases B with
    | true => exact refHas_yes n W hB
    | false => exact refHas_no n W hB hn
  have HB := Lib.hid hB
  obtain ⟨W0, hW0⟩ : ∃ W0, w.alloc (.cells #[.int .i64 7, .int .i64 n, .slice a m cap] 24) = W0 := ⟨_, rfl⟩
  have hx0 : W0.heap[w.heap.size]? = some (.cells #[.int .i64 7, .int .i64 n, .slice a m cap] 24 (0, 0)) := by rw [← hW0]; exact block_new rfl
  have hb0 : Below w.heap.size w W0 := by rw [← hW0]; exact (Below.refl _ _).alloc (Nat.le_refl _) _
  have HT := Lib.hid (hT.below hb0)
  have HX0 := Lib.hid hx0
  have HW0 := Lib.hid hW0
  have HB0 := Lib.hid hb0
  clear hs hT hd hB hx0 hW0 hb0
  go_enter Tryz.func38, Tryz.ntmps38
  go_wp2_with fail
  rw [HW0.out]
  go_loopw [3, 4] (fun v i wr => ∃ j : Nat, j ≤ m ∧ i = .int .i64 j ∧ Own .i64 3 W0 wr v j (fun i => (Tr.kid t.kids i).num)) (fun _ i _ => m - (intOf i).toNat)
  case atStart => exact ⟨0, Nat.zero_le _, rfl, World.ownsRow_nil _ _ _ _, Below.refl _ _⟩
  case round =>
    obtain ⟨j, hj, rfl, hown⟩ := hrel
    have hX := (hown.below.block _ (block_lt HX0.out)).trans HX0.out
    have x0 : wr.cell? ⟨w.heap.size, 0, none⟩ = some (.int .i64 7) := block_cell hX 0
    have x1 : wr.cell? ⟨w.heap.size, 1, none⟩ = some (.int .i64 n) := block_cell hX 1
    have x2 : wr.cell? ⟨w.heap.size, 2, none⟩ = some (.slice a m cap) := block_cell hX 2
    clear hX
    by_cases hlt : j < m
    · obtain ⟨b, off, rfl, hbl, c0, d0⟩ := (HT.out.below hown.below).knum j hlt
      obtain ⟨kk, hkk⟩ : ∃ kk, (Tr.kid t.kids j).num = kk := ⟨_, rfl⟩
      rw [hkk] at c0 d0
      have HKK := Lib.hid hkk
      clear hkk
      have g1 : (0 : Int) ≤ (j : Int) := by omega
      have g2 : (j : Int) < (m : Int) := by omega
      go_wp2_with (at_builtin; refine wpList_append_own _ rfl _ _ 71 rfl W0.heap.size 3 i0 (.int .i64 0) 1 8 Tryz.underlying71 hi hz0 hz1 hz2 rfl (by decide) _ _ _ rfl (hown.own.alloc _) ⟨wr.heap.size, 0, none⟩ 1 1 [.int .i64 kk] rfl rfl (cell_one_new _ _ _) (one_cell _ _) (by unfold maxLen; omega) (by omega) (size_alloc_le hown.below _) ?_)
      intro v' w2 hown2 hgrow _
      have HPU := Lib.hid (hown.push kk HKK.out.symm hown2 hgrow)
      clear hown hown2 hgrow x0 x1 x2 c0
      go_wp2_with fail
      go_roundw
      case rel => exact ⟨j + 1, by omega, by go_num, HPU.out⟩
      case measure => simp [intOf]; omega
    · have hjm : j = m := by omega
      subst hjm
      obtain ⟨a3, c3, rfl, hca, hg⟩ := own_slice2 hown.own
      have hbe : Below w.heap.size w wr := chain HB0.out hown.below
      have HBE := Lib.hid hbe
      clear hbe hlt
      have HG := HN
      by_cases hm : j = 1
      · have hd0 := HD.out 0 (by omega)
        obtain ⟨g, rfl⟩ := hg (by omega)
        have c0 := own_int_cell hown 0 (by omega)
        clear hown hg HD HT
        obtain ⟨k0, hk0⟩ : ∃ x, (Tr.kid t.kids 0).num = x := ⟨_, rfl⟩
        obtain ⟨k1, hk1⟩ : ∃ x, (Tr.kid t.kids 1).num = x := ⟨_, rfl⟩
        try simp only [] at c0
        rw [hk0] at c0 hd0 HG
        rw [hk1] at HG
        clear hk0 hk1
        subst hm
        by_cases hlo : 2 ≤ n
        · cases B with
          
          | false =>
            have HF : Hid (nodeB 7 n 1 k0 k1 = false) := by unfold Hid nodeB; rw [HB.out]; simp
            rw [HF.out] at HG
            go_wp2_with fail
            go_quiet ((go_at_call 39; exact Calls.quiet_of_same (sameW (HS.out _))))
            go_wp2_with fail
            go_ret
            exact ⟨ret_bool (by first | (rw [HG.out]; done) | (rw [HG.out]; simp)), below_drewN HBE.out _⟩
          | true =>
            have hsz := hasSz_bd HB.out
            obtain ⟨P, hP⟩ : ∃ P, hasP2 k0 = P := ⟨_, rfl⟩
            have HP : Hid (∀ W, Calls Tryz.prog 64 #[.int .i64 k0] W fun e w' => e = .returned (.bool P) ∧ W = w') := fun W => by rw [← hP]; exact ref14_power k0 W hd0
            have HF : Hid (nodeB 7 n 1 k0 k1 = (decide (2 ≤ n ∧ 2 * n - 1 ≤ k0) && P)) := by unfold Hid nodeB; rw [HB.out, hP]; simp
            have wn1 : IntKind.i64.wrap (2 * n) = 2 * n := IntWalk.i64_in _ (by omega)
            have wn2 : IntKind.i64.wrap (2 * n - 1) = 2 * n - 1 := IntWalk.i64_in _ (by omega)
            have HWN1 := Lib.hid wn1
            have HWN2 := Lib.hid wn2
            rw [HF.out] at HG
            clear HF hP wn1 wn2
            cases P with
            | false =>
              have wn1 := HWN1.out
              have wn2 := HWN2.out
              go_wp2_with fail
              go_quiet ((first | (go_at_call 39; exact Calls.quiet_of_same (sameW (HS.out _))) | (go_at_call 64; exact Calls.quiet_of_same (sameW (HP.out _)))))
              clear wn1 wn2
              go_wp2_with fail
              go_ret
              exact ⟨ret_bool (by first | (rw [HG.out]; done) | (rw [HG.out]; simp)), below_drewN HBE.out _⟩
            | true =>
              by_cases hk : 2 * n - 1 ≤ k0
              · have b5 : decide (k0 ≥ 2 * n - 1) = true := by simp; omega
                have wn1 := HWN1.out
                have wn2 := HWN2.out
                go_wp2_with fail
                go_quiet ((first | (go_at_call 39; exact Calls.quiet_of_same (sameW (HS.out _))) | (go_at_call 64; exact Calls.quiet_of_same (sameW (HP.out _)))))
                clear wn1 wn2
                go_wp2_with fail
                go_ret
                exact ⟨ret_bool (by first | (rw [HG.out]; done) | (rw [HG.out]; simp; omega)), below_drewN HBE.out _⟩
              · have b5 : decide (k0 ≥ 2 * n - 1) = false := by simp; omega
                have wn1 := HWN1.out
                have wn2 := HWN2.out
                go_wp2_with fail
                go_quiet ((first | (go_at_call 39; exact Calls.quiet_of_same (sameW (HS.out _))) | (go_at_call 64; exact Calls.quiet_of_same (sameW (HP.out _)))))
                clear wn1 wn2
                go_wp2_with fail
                go_ret
                exact ⟨ret_bool (by first | (rw [HG.out]; done) | (rw [HG.out]; simp; intros; omega)), below_drewN HBE.out _⟩
        · have HF : Hid (nodeB 7 n 1 k0 k1 = false) := by unfold Hid nodeB; simp; intros; omega
          have hlo2 : decide (n ≥ 2) = false := by simp; omega
          rw [HF.out] at HG
          go_wp2_with fail
          go_quiet (fail)
          go_wp2_with fail
          go_ret
          exact ⟨ret_bool (by first | (rw [HG.out]; done) | (rw [HG.out]; simp)), below_drewN HBE.out _⟩
      · skip
        have HF : Hid (nodeB 7 n j (Tr.kid t.kids 0).num (Tr.kid t.kids 1).num = false) := by unfold Hid nodeB; simp [hm]
        rw [HF.out] at HG
        have hm1 : ((j : Int) == 1) = false := bno (by omega)
        have hn1 : ((j : Int) != 1) = true := bdiff (by omega)
        clear hown hg
        go_wp2_with fail
        go_quiet (fail)
        go_wp2_with fail
        go_ret
        exact ⟨ret_bool (by first | (rw [HG.out]; done) | (rw [HG.out]; simp)), below_drewN HBE.out _⟩
set_option maxHeartbeats 1600000 in
theorem ref14_Node_0 (t : Tr) (k : Int) (n : Int) (a : Option Addr) (m cap : Nat) (w : World) (F : Nat → Prop) (hs : t.size ≤ 4194304) (hT : IsT w F k n a m cap t) (hk : k < 1 ∨ 7 < k) :
    Calls Tryz.prog 38 #[.agg #[.int .i64 k, .int .i64 n, .slice a m cap]] w fun e w' => e = .returned (.bool (nodeOk t)) ∧ Below w.heap.size w w' := by
  obtain ⟨i0, hi, hz0, hz1, hz2⟩ := info_parts info_int
  have hn := hT.fn
  have hmm : m ≤ 4194304 := by
    have h1 := Tr.len_le_sizeL t.kids
    rw [Tr.size_kids] at hs
    rw [hT.em]; omega
  have HN : Hid (nodeOk t = nodeB k n m (Tr.kid t.kids 0).num (Tr.kid t.kids 1).num) := by unfold Hid nodeOk; rw [hT.ek, hT.en, hT.em]
  have hd : ∀ i, i < m → -9223372036854775808 ≤ (Tr.kid t.kids i).num ∧ (Tr.kid t.kids i).num < 9223372036854775808 := fun i h => by
    obtain ⟨_, _, _, _, _, d⟩ := hT.knum i h
    exact d
  have HD := Lib.hid hd
  obtain ⟨B, hB⟩ : ∃ B, hasSz n = B := ⟨_, rfl⟩
  have HS : Hid (∀ W, Calls Tryz.prog 39 #[.int .i64 n] W fun e w' => e = .returned (.bool B) ∧ W = w') := fun W => by
    cases B with
    | true => exact refHas_yes n W hB
    | false => exact refHas_no n W hB hn
  have HB := Lib.hid hB
  obtain ⟨W0, hW0⟩ : ∃ W0, w.alloc (.cells #[.int .i64 k, .int .i64 n, .slice a m cap] 24) = W0 := ⟨_, rfl⟩
  have hx0 : W0.heap[w.heap.size]? = some (.cells #[.int .i64 k, .int .i64 n, .slice a m cap] 24 (0, 0)) := by rw [← hW0]; exact block_new rfl
  have hb0 : Below w.heap.size w W0 := by rw [← hW0]; exact (Below.refl _ _).alloc (Nat.le_refl _) _
  have HT := Lib.hid (hT.below hb0)
  have HX0 := Lib.hid hx0
  have HW0 := Lib.hid hW0
  have HB0 := Lib.hid hb0
  clear hs hT hd hB hx0 hW0 hb0
  go_enter Tryz.func38, Tryz.ntmps38
  go_wp2_with fail
  rw [HW0.out]
  go_loopw [3, 4] (fun v i wr => ∃ j : Nat, j ≤ m ∧ i = .int .i64 j ∧ Own .i64 3 W0 wr v j (fun i => (Tr.kid t.kids i).num)) (fun _ i _ => m - (intOf i).toNat)
  case atStart => exact ⟨0, Nat.zero_le _, rfl, World.ownsRow_nil _ _ _ _, Below.refl _ _⟩
  case round =>
    obtain ⟨j, hj, rfl, hown⟩ := hrel
    have hX := (hown.below.block _ (block_lt HX0.out)).trans HX0.out
    have x0 : wr.cell? ⟨w.heap.size, 0, none⟩ = some (.int .i64 k) := block_cell hX 0
    have x1 : wr.cell? ⟨w.heap.size, 1, none⟩ = some (.int .i64 n) := block_cell hX 1
    have x2 : wr.cell? ⟨w.heap.size, 2, none⟩ = some (.slice a m cap) := block_cell hX 2
    clear hX
    by_cases hlt : j < m
    · obtain ⟨b, off, rfl, hbl, c0, d0⟩ := (HT.out.below hown.below).knum j hlt
      obtain ⟨kk, hkk⟩ : ∃ kk, (Tr.kid t.kids j).num = kk := ⟨_, rfl⟩
      rw [hkk] at c0 d0
      have HKK := Lib.hid hkk
      clear hkk
      have g1 : (0 : Int) ≤ (j : Int) := by omega
      have g2 : (j : Int) < (m : Int) := by omega
      go_wp2_with (at_builtin; refine wpList_append_own _ rfl _ _ 71 rfl W0.heap.size 3 i0 (.int .i64 0) 1 8 Tryz.underlying71 hi hz0 hz1 hz2 rfl (by decide) _ _ _ rfl (hown.own.alloc _) ⟨wr.heap.size, 0, none⟩ 1 1 [.int .i64 kk] rfl rfl (cell_one_new _ _ _) (one_cell _ _) (by unfold maxLen; omega) (by omega) (size_alloc_le hown.below _) ?_)
      intro v' w2 hown2 hgrow _
      have HPU := Lib.hid (hown.push kk HKK.out.symm hown2 hgrow)
      clear hown hown2 hgrow x0 x1 x2 c0
      go_wp2_with fail
      go_roundw
      case rel => exact ⟨j + 1, by omega, by go_num, HPU.out⟩
      case measure => simp [intOf]; omega
    · have hjm : j = m := by omega
      subst hjm
      obtain ⟨a3, c3, rfl, hca, hg⟩ := own_slice2 hown.own
      have hbe : Below w.heap.size w wr := chain HB0.out hown.below
      have HBE := Lib.hid hbe
      clear hbe hlt
      have HG := HN
      have HF : Hid (nodeB k n j (Tr.kid t.kids 0).num (Tr.kid t.kids 1).num = false) := by unfold Hid nodeB; rw [if_neg (by omega), if_neg (by omega), if_neg (by omega), if_neg (by omega), if_neg (by omega), if_neg (by omega), if_neg (by omega)]
      rw [HF.out] at HG
      have e1 : (k == 1) = false := bno (by omega)
      have e2 : (k == 2) = false := bno (by omega)
      have e3 : (k == 3) = false := bno (by omega)
      have e4 : (k == 4) = false := bno (by omega)
      have e5 : (k == 5) = false := bno (by omega)
      have e6 : (k == 6) = false := bno (by omega)
      have e7 : (k == 7) = false := bno (by omega)
      clear hown hg hk
      go_wp2_with fail
      go_ret
      exact ⟨ret_bool (by rw [HG.out]; skip), HBE.out⟩
theorem ref14_Node (t : Tr) (k n : Int) (a : Option Addr) (m cap : Nat) (w : World) (F : Nat → Prop) (hs : t.size ≤ 4194304) (hT : IsT w F k n a m cap t) :
    Calls Tryz.prog 38 #[.agg #[.int .i64 k, .int .i64 n, .slice a m cap]] w fun e w' => e = .returned (.bool (nodeOk t)) ∧ Below w.heap.size w w' := by
  by_cases h : k < 1 ∨ 7 < k
  · exact ref14_Node_0 t k n a m cap w F hs hT h
  · rcases (show k = 1 ∨ k = 2 ∨ k = 3 ∨ k = 4 ∨ k = 5 ∨ k = 6 ∨ k = 7 by omega) with rfl | rfl | rfl | rfl | rfl | rfl | rfl
    · exact ref14_Node_1 t n a m cap w F hs hT
    · exact ref14_Node_2 t n a m cap w F hs hT
    · exact ref14_Node_3 t n a m cap w F hs hT
    · exact ref14_Node_4 t n a m cap w F hs hT
    · exact ref14_Node_5 t n a m cap w F hs hT
    · exact ref14_Node_6 t n a m cap w F hs hT
    · exact ref14_Node_7 t n a m cap w F hs hT
end Go.Proofs.YtcckfeikaolfgaaGreat

namespace Go.Proofs.YtcckfeikaolfgaaGreat
open Go.RowKit
set_option linter.unusedVariables false
set_option linter.unusedSimpArgs false
set_option maxRecDepth 100000
set_option maxRecDepth 20000
namespace Tr
/-- The first node that is not right is there just where not all nodes are right. -/
theorem wrong_all' (N : Nat) : ∀ t : Tr, t.size ≤ N → (t.wrong.isSome = false ↔ ∀ u ∈ t.nodes, nodeOk u = true) := by
  induction N with
  | zero => intro t h; have := size_pos t; omega
  | succ N ih =>
    intro t h
    rw [size_kids] at h
    have hL : ∀ (ks : List Tr) (i : Nat), sizeL ks ≤ N → ((wrongL i ks).isSome = false ↔ ∀ u ∈ nodesL ks, nodeOk u = true) := by
      intro ks
      induction ks with
      | nil => intro i _; simp [wrongL, nodesL]
      | cons x r ih2 =>
        intro i hs
        simp only [sizeL] at hs
        have hx := ih x (by omega)
        simp only [wrongL, nodesL, List.mem_append]
        cases hw : wrong x with
        | none =>
          rw [hw] at hx
          simp only []
          rw [ih2 (i + 1) (by omega)]
          constructor
          · intro h u hu
            rcases hu with hu | hu
            · exact hx.1 rfl u hu
            · exact h u hu
          · intro h u hu; exact h u (.inr hu)
        | some p =>
          rw [hw] at hx
          simp only [Option.isSome_some, Bool.true_eq_false, false_iff]
          intro h
          have := hx.2 (fun u hu => h u (.inl hu))
          simp at this
    rw [wrong_kids, nodes_kids]
    by_cases hn : nodeOk t = true
    · rw [if_pos hn, hL t.kids 0 (by omega)]
      constructor
      · intro h u hu
        rcases List.mem_cons.1 hu with rfl | hu
        · exact hn
        · exact h u hu
      · intro h u hu; exact h u (List.mem_cons.2 (.inr hu))
    · rw [if_neg hn]
      simp only [Option.isSome_some, Bool.true_eq_false, false_iff]
      intro h; exact hn (h t (by simp))
theorem wrong_all (t : Tr) : t.wrong.isSome = false ↔ ∀ u ∈ t.nodes, nodeOk u = true := wrong_all' _ t (Nat.le_refl _)
theorem nodes_le' (N : Nat) : ∀ t : Tr, t.size ≤ N → ∀ u ∈ t.nodes, u.size ≤ t.size := by
  induction N with
  | zero => intro t h; have := size_pos t; omega
  | succ N ih =>
    intro t h u hu
    rw [nodes_kids] at hu
    rcases List.mem_cons.1 hu with rfl | hu
    · exact Nat.le_refl _
    · have hk : ∀ ks : List Tr, sizeL ks ≤ N → u ∈ nodesL ks → u.size ≤ sizeL ks := by
        intro ks
        induction ks with
        | nil => intro _ h; simp [nodesL] at h
        | cons x r ih2 =>
          intro hs hu
          simp only [nodesL, List.mem_append] at hu
          simp only [sizeL] at hs ⊢
          rcases hu with hu | hu
          · have := ih x (by omega) u hu; omega
          · have := ih2 (by omega) hu; omega
      rw [size_kids t] at h ⊢
      have := hk t.kids (by omega) hu
      omega
theorem nodes_le (t : Tr) : ∀ u ∈ t.nodes, u.size ≤ t.size := nodes_le' _ t (Nat.le_refl _)
end Tr
set_option maxHeartbeats 4000000 in
theorem ref14_Check (t : Tr) (k n : Int) (a : Option Addr) (m cap : Nat) (w : World) (B : Nat) (hB : B ≤ w.heap.size) (hs : t.size ≤ 4194304) (hT : IsT w (Lt B) k n a m cap t) :
    Calls Tryz.prog 24 #[.agg #[.int .i64 k, .int .i64 n, .slice a m cap]] w fun e w' => e = .returned (.int .i64 (chk t)) ∧ Below w.heap.size w w' := by
  obtain ⟨q, hq⟩ : ∃ q, t.size = q := ⟨_, rfl⟩
  have hnl : t.nodes.length = q := by rw [Tr.nodes_len _ t (Nat.le_refl _), hq]
  have CL : Hid (∀ W, Below w.heap.size w W → Calls Tryz.prog 12 #[.agg #[.int .i64 k, .int .i64 n, .slice a m cap]] W fun e w' => ∃ g cp xs, e = .returned (.slice (some ⟨g, 0, none⟩) q cp) ∧ w'.ownsRow W.heap.size 24 3 (.slice (some ⟨g, 0, none⟩) q cp) q xs ∧ CellsT w' (Lt B) xs t.nodes ∧ Below W.heap.size W w') := fun W hb => by
    have := ref_List 4194304 B (by omega) t k n a m cap W (by omega) (hT.below hb) (Nat.le_trans hB hb.size)
    unfold GivesT at this
    rw [hnl] at this
    exact this
  have CD : Hid (∀ W, Below w.heap.size w W → Calls Tryz.prog 37 #[.agg #[.int .i64 k, .int .i64 n, .slice a m cap]] W fun e w' => e = .returned (.int .i64 (t.depth : Nat)) ∧ Below W.heap.size W w') := fun W hb => ref13_Depth 4194304 (by omega) t k n a m cap W _ (by omega) (hT.below hb)
  have HC : Hid (chk t = if decide (60 < q) || decide (12 < t.depth) then 12 else if t.wrong.isSome then 8 else 0) := by unfold Hid chk bigB; rw [hq]
  have hsz : ∀ u ∈ t.nodes, u.size ≤ 4194304 := fun u hu => Nat.le_trans (Tr.nodes_le t u hu) hs
  have HSZ := Lib.hid hsz
  obtain ⟨d, hd⟩ : ∃ d, t.depth = d := ⟨_, rfl⟩
  rw [hd] at CD HC
  rw [HC.out]
  have HNL := Lib.hid hnl
  have HWA := Lib.hid (Tr.wrong_all t)
  obtain ⟨R, hR⟩ : ∃ R, t.wrong.isSome = R := ⟨_, rfl⟩
  rw [hR] at HWA ⊢
  obtain ⟨ns, hns⟩ : ∃ ns, t.nodes = ns := ⟨_, rfl⟩
  rw [hns] at CL HNL HWA HSZ
  clear hsz hR hd hnl HC hT hns hs hq
  by_cases h60 : 60 < q
  · have t1 : decide ((q : Int) > 60) = true := by simp; omega
    have t2 : (60 : Int) < (q : Int) := by omega
    rw [if_pos (by simp [h60])]
    go_enter Tryz.func24, Tryz.ntmps24
    go_wp2_with fail
    refine (CL.out _ ((Below.refl _ _).alloc (Nat.le_refl _) _)).mono ?_; rintro e w1 ⟨g, cp, xs, rfl, ho, hct, hb1⟩
    have hb := chainA (Below.refl w.heap.size w) hb1
    clear ho hct hb1
    go_wp2_with fail
    go_ret
    exact ⟨rfl, hb⟩
  · have t1 : decide ((q : Int) > 60) = false := by simp; omega
    have t2 : ¬ (60 : Int) < (q : Int) := by omega
    rw [show decide (60 < q) = false by simp; omega, Bool.false_or]
    by_cases h12 : 12 < d
    · have t3 : decide ((d : Int) > 12) = true := by simp; omega
      have t4 : (12 : Int) < (d : Int) := by omega
      rw [if_pos (by simp [h12])]
      go_enter Tryz.func24, Tryz.ntmps24
      go_wp2_with fail
      refine (CL.out _ ((Below.refl _ _).alloc (Nat.le_refl _) _)).mono ?_; rintro e w1 ⟨g, cp, xs, rfl, ho, hct, hb1⟩
      have hb := chainA (Below.refl w.heap.size w) hb1
      have hx := (hb1.block w.heap.size (by simp)).trans (block_new rfl)
      have x0 : w1.cell? ⟨w.heap.size, 0, none⟩ = some (.int .i64 k) := block_cell hx 0
      have x1 : w1.cell? ⟨w.heap.size, 1, none⟩ = some (.int .i64 n) := block_cell hx 1
      have x2 : w1.cell? ⟨w.heap.size, 2, none⟩ = some (.slice a m cap) := block_cell hx 2
      have HBL := Lib.hid hb
      clear ho hct hb1 hx hb
      go_wp2_with fail
      refine (CD.out _ HBL.out).mono ?_; rintro e w2 ⟨rfl, hb2⟩
      have hb := chain HBL.out hb2
      clear hb2 x0 x1 x2
      go_wp2_with fail
      go_ret
      exact ⟨rfl, hb⟩
    · have t3 : decide ((d : Int) > 12) = false := by simp; omega
      have t4 : ¬ (12 : Int) < (d : Int) := by omega
      rw [if_neg (by simp; omega)]
      obtain ⟨V, hV⟩ : ∃ V : Int, (if R = true then (8 : Int) else 0) = V := ⟨_, rfl⟩
      rw [hV]
      have HVV := Lib.hid hV
      clear hV
      go_enter Tryz.func24, Tryz.ntmps24
      go_wp2_with fail
      refine (CL.out _ ((Below.refl _ _).alloc (Nat.le_refl _) _)).mono ?_; rintro e w1 ⟨g, cp, xs, rfl, ho, hct, hb1⟩
      have hb := chainA (Below.refl w.heap.size w) hb1
      have hx := (hb1.block w.heap.size (by simp)).trans (block_new rfl)
      have x0 : w1.cell? ⟨w.heap.size, 0, none⟩ = some (.int .i64 k) := block_cell hx 0
      have x1 : w1.cell? ⟨w.heap.size, 1, none⟩ = some (.int .i64 n) := block_cell hx 1
      have x2 : w1.cell? ⟨w.heap.size, 2, none⟩ = some (.slice a m cap) := block_cell hx 2
      have HBL := Lib.hid hb
      have OW := Lib.hid ho
      have CT := Lib.hid hct
      clear ho hct hb1 hx hb
      go_wp2_with fail
      refine (CD.out _ HBL.out).mono ?_; rintro e w2 ⟨rfl, hb2⟩
      have HBL := Lib.hid (chain HBL.out hb2)
      have OW := Lib.hid (own_later3 OW.out hb2)
      have CT := Lib.hid (CT.out.later hb2)
      clear hb2 x0 x1 x2
      go_wp2_with fail
      go_loopw [4] (fun i wr => ∃ j : Nat, j ≤ q ∧ i = .int .i64 j ∧ Below w2.heap.size w2 wr ∧ Hid (∀ i, i < j → nodeOk (Tr.kid ns i) = true)) (fun i _ => q - (intOf i).toNat)
      case atStart => exact ⟨0, Nat.zero_le _, rfl, Below.refl _ _, fun i hi => by omega⟩
      case round =>
        obtain ⟨j, hj, rfl, hbel, HA⟩ := hrel
        by_cases hlt : j < q
        · obtain ⟨k2, n2, a2, m2, c2, e0, e1, e2, hT2⟩ := own_cells (own_later3 OW.out hbel) (CT.out.later hbel) HNL.out j hlt
          simp only [Nat.zero_add] at e0 e1 e2
          have hmem : Tr.kid ns j ∈ ns := Tr.kid_mem (by rw [HNL.out]; exact hlt)
          obtain ⟨B2, hB2⟩ : ∃ B2, nodeOk (Tr.kid ns j) = B2 := ⟨_, rfl⟩
          have CN : Hid (∀ W, Below wr.heap.size wr W → Calls Tryz.prog 38 #[.agg #[.int .i64 k2, .int .i64 n2, .slice a2 m2 c2]] W fun e w' => e = .returned (.bool B2) ∧ Below W.heap.size W w') := fun W hb => by
            rw [← hB2]; exact ref14_Node _ k2 n2 a2 m2 c2 W _ (HSZ.out _ hmem) (hT2.below hb)
          have HB2 := Lib.hid hB2
          have HMEM := Lib.hid hmem
          have g1 : (0 : Int) ≤ (j : Int) := by omega
          have g2 : (j : Int) < (q : Int) := by omega
          clear hT2 hmem hB2
          cases B2 with
          | true =>
            go_wp2_with fail
            refine (CN.out _ (Below.refl _ _)).mono ?_; rintro e w3 ⟨rfl, hb3⟩
            have HBB := Lib.hid (chain hbel hb3)
            clear hb3 e0 e1 e2
            go_wp2_with fail
            go_roundw
            case rel =>
              refine ⟨j + 1, by omega, by go_num, HBB.out, fun i hi => ?_⟩
              by_cases hij : i < j
              · exact HA.out i hij
              · obtain rfl : i = j := by omega
                exact HB2.out
            case measure => simp [intOf]; omega
          | false =>
            go_wp2_with fail
            refine (CN.out _ (Below.refl _ _)).mono ?_; rintro e w3 ⟨rfl, hb3⟩
            have HBB := Lib.hid (chain HBL.out (chain hbel hb3))
            clear hb3 e0 e1 e2
            have HRR : Hid (R = true) := by
              unfold Hid
              cases R with
              | true => rfl
              | false => have := HWA.out.1 rfl _ HMEM.out; rw [HB2.out] at this; cases this
            go_wp2_with fail
            go_ret
            exact ⟨ret_int (by rw [← HVV.out, HRR.out]; rfl), HBB.out⟩
        · have hjq : j = q := by omega
          have HRR : Hid (R = false) := by
            unfold Hid
            rw [HWA.out]
            intro u hu
            obtain ⟨i, hi, rfl⟩ := List.getElem_of_mem hu
            have := HA.out i (by have := HNL.out; omega)
            rwa [Tr.kid_get hi] at this
          have HBB := Lib.hid (chain HBL.out hbel)
          clear HA hbel
          go_wp2_with fail
          go_ret
          exact ⟨ret_int (by rw [← HVV.out, HRR.out]; rfl), HBB.out⟩
end Go.Proofs.YtcckfeikaolfgaaGreat

namespace Go.Proofs.YtcckfeikaolfgaaGreat
open Go.RowKit
set_option linter.unusedVariables false
set_option linter.unusedSimpArgs false
set_option maxRecDepth 100000
namespace Tr
theorem mem_nodesL {ks : List Tr} {u : Tr} : u ∈ nodesL ks ↔ ∃ i, i < ks.length ∧ u ∈ (kid ks i).nodes := by
  induction ks with
  | nil => simp [nodesL]
  | cons x r ih =>
    simp only [nodesL, List.mem_append, ih]
    constructor
    · rintro (h | ⟨i, hi, h⟩)
      · exact ⟨0, by simp, h⟩
      · exact ⟨i + 1, by simpa using hi, h⟩
    · rintro ⟨i, hi, h⟩
      cases i with
      | zero => exact .inl h
      | succ i => exact .inr ⟨i, by simpa using hi, h⟩
theorem mem_nodes {t u : Tr} : u ∈ t.nodes ↔ u = t ∨ ∃ i, i < t.kids.length ∧ u ∈ (kid t.kids i).nodes := by
  rw [nodes_kids, List.mem_cons, mem_nodesL]
/-- Is each node right? -/
def allOk (t : Tr) : Prop := ∀ u ∈ t.nodes, nodeOk u = true
theorem allOk_iff (t : Tr) : allOk t ↔ nodeOk t = true ∧ ∀ i, i < t.kids.length → allOk (kid t.kids i) := by
  unfold allOk
  constructor
  · intro h; exact ⟨h t (mem_nodes.2 (.inl rfl)), fun i hi u hu => h u (mem_nodes.2 (.inr ⟨i, hi, hu⟩))⟩
  · rintro ⟨h0, h1⟩ u hu
    rcases mem_nodes.1 hu with rfl | ⟨i, hi, hu⟩
    · exact h0
    · exact h1 i hi u hu
end Tr
theorem chk_zero {t : Tr} : chk t = 0 ↔ (t.size ≤ 60 ∧ t.depth ≤ 12) ∧ t.allOk := by
  have h := Tr.wrong_all t
  unfold chk bigB Tr.allOk
  rw [← h]
  by_cases h1 : 60 < t.size
  · simp [h1]; omega
  · by_cases h2 : 12 < t.depth
    · simp [h1, h2]; omega
    · simp only [h1, h2]
      cases hw : t.wrong.isSome <;> simp <;> omega
end Go.Proofs.YtcckfeikaolfgaaGreat

namespace Go.Proofs.YtcckfeikaolfgaaGreat
open Go.RowKit
set_option linter.unusedVariables false
set_option linter.unusedSimpArgs false
set_option maxRecDepth 100000
/-- The logarithm. -/
def lg (n : Int) : Int := (Lib.bitLen n.toNat : Int) - 1
namespace Tr
end Tr
/-- What a right node is, kind by kind. -/
theorem node_cases {t : Tr} (h : nodeOk t = true) :
    (t.kind = 1 ∧ t.kids.length = 0 ∧ 1 ≤ t.num ∧ t.num ≤ 64) ∨
    (t.kind = 2 ∧ t.kids.length = 0 ∧ 2 ≤ t.num ∧ t.num ≤ 5) ∨
    (t.kind = 3 ∧ t.kids.length = 0 ∧ ∃ j, 1 ≤ j ∧ j ≤ 24 ∧ t.num = ((2 ^ j : Nat) : Int)) ∨
    ((t.kind = 4 ∨ t.kind = 5) ∧ t.kids.length = 2 ∧ 1 ≤ t.num ∧ t.num ≤ 16777216 ∧ 2 ≤ (Tr.kid t.kids 0).num ∧ (Tr.kid t.kids 0).num ≤ t.num ∧ 2 ≤ (Tr.kid t.kids 1).num ∧ (Tr.kid t.kids 1).num ≤ t.num ∧ (Tr.kid t.kids 0).num * (Tr.kid t.kids 1).num = t.num) ∨
    (t.kind = 6 ∧ t.kids.length = 1 ∧ 3 ≤ t.num ∧ t.num ≤ 16777216 ∧ (Tr.kid t.kids 0).num = t.num - 1) ∨
    (t.kind = 7 ∧ t.kids.length = 1 ∧ 2 ≤ t.num ∧ t.num ≤ 16777216 ∧ 2 * t.num - 1 ≤ (Tr.kid t.kids 0).num ∧ (Tr.kid t.kids 0).num ≤ 16777216) := by
  unfold nodeOk nodeB at h
  generalize (Tr.kid t.kids 0).num = k0 at *
  generalize (Tr.kid t.kids 1).num = k1 at *
  by_cases h1 : t.kind = 1
  · rw [if_pos h1] at h
    simp only [Bool.and_eq_true, decide_eq_true_eq] at h
    have := hasSz_bd h.2
    exact .inl ⟨h1, h.1.1, this.1, h.1.2⟩
  rw [if_neg h1] at h
  by_cases h2 : t.kind = 2
  · rw [if_pos h2] at h
    simp only [decide_eq_true_eq] at h
    exact .inr (.inl ⟨h2, h.1, h.2.1, h.2.2⟩)
  rw [if_neg h2] at h
  by_cases h3 : t.kind = 3
  · rw [if_pos h3] at h
    simp only [Bool.and_eq_true, decide_eq_true_eq] at h
    obtain ⟨j, hj, e⟩ := (hasP2_iff _).1 h.2
    refine .inr (.inr (.inl ⟨h3, h.1.1, j, ?_, hj, e⟩))
    rcases Nat.eq_zero_or_pos j with h0 | h0
    · subst h0; have := h.1.2; rw [e] at this; simp at this
    · exact h0
  rw [if_neg h3] at h
  by_cases h4 : t.kind = 4
  · rw [if_pos h4] at h
    obtain ⟨⟨a, b, c, d, e, f⟩, g⟩ := sides_iff.1 h
    have := hasSz_bd g
    exact .inr (.inr (.inr (.inl ⟨.inl h4, a, this.1, this.2, b, d, c, e, f⟩)))
  rw [if_neg h4] at h
  by_cases h5 : t.kind = 5
  · rw [if_pos h5] at h
    simp only [Bool.and_eq_true] at h
    obtain ⟨⟨a, b, c, d, e, f⟩, g⟩ := sides_iff.1 h.1
    have := hasSz_bd g
    exact .inr (.inr (.inr (.inl ⟨.inr h5, a, this.1, this.2, b, d, c, e, f⟩)))
  rw [if_neg h5] at h
  by_cases h6 : t.kind = 6
  · rw [if_pos h6] at h
    simp only [Bool.and_eq_true, decide_eq_true_eq] at h
    have := hasSz_bd h.1.2
    exact .inr (.inr (.inr (.inr (.inl ⟨h6, h.1.1.1, h.1.1.2.1, this.2, h.1.1.2.2⟩))))
  rw [if_neg h6] at h
  by_cases h7 : t.kind = 7
  · rw [if_pos h7] at h
    simp only [Bool.and_eq_true, decide_eq_true_eq] at h
    have h8 := hasSz_bd h.1.2
    obtain ⟨j, hj, e⟩ := (hasP2_iff _).1 h.2
    have h9 : 2 ^ j ≤ 2 ^ 24 := Nat.pow_le_pow_right (by omega) hj
    have e9 : (2 : Nat) ^ 24 = 16777216 := by decide
    exact .inr (.inr (.inr (.inr (.inr ⟨h7, h.1.1.1, h.1.1.2.1, h8.2, h.1.1.2.2, by omega⟩))))
  rw [if_neg h7] at h
  cases h
end Go.Proofs.YtcckfeikaolfgaaGreat

namespace Go.Proofs.YtcckfeikaolfgaaGreat
open Go.RowKit
set_option linter.unusedVariables false
set_option linter.unusedSimpArgs false
set_option maxRecDepth 100000
def ents (l : List (Value × Value)) : List MapEntry := l.mapIdx fun i p => { key := p.1, val := p.2, born := i }
def mapObj (l : List (Value × Value)) : Obj := .map (ents l).toArray l.length
theorem ents_len (l : List (Value × Value)) : (ents l).length = l.length := by simp [ents]
theorem ents_get (l : List (Value × Value)) (i : Nat) : (ents l)[i]? = (l[i]?).map fun p => { key := p.1, val := p.2, born := i } := by
  simp [ents]
theorem ents_snoc (l : List (Value × Value)) (k v : Value) : ents (l ++ [(k, v)]) = ents l ++ [{ key := k, val := v, born := l.length }] := by
  simp [ents, List.mapIdx_append]
theorem ents_modify (l : List (Value × Value)) (j : Nat) (v : Value) : (ents l).modify j (fun e => { e with val := v }) = ents (l.modify j fun p => (p.1, v)) := by
  refine List.ext_getElem? fun i => ?_
  rw [List.getElem?_modify, ents_get, ents_get, List.getElem?_modify]
  cases l[i]? with
  | none => simp
  | some p => simp only [Option.map_some]; split <;> simp
/-- What a struct's type as a key has to say. -/
structure KeyOk (P : Program) (T : TypeId) (KV : Value → Prop) : Prop where
  wide : (match P.underlying T with | some (.array _ _) | some (.struct _) => true | _ => false) = true
  check : ∀ (e : Bool) (w : World) (k : Value), KV k → (Instr.checkKey e 10000 T k).run P w = .ok () w
  eq : ∀ (w : World) (x y : Value), KV x → KV y → ∃ b : Bool, (Op.equal T x y).run P w = .ok b w ∧ (b = true ↔ x = y)
  stays : ∀ (w : World) (k : Value), KV k → (Instr.keyThatStays k k).run P w = .ok k w
section
variable {P : Program} {T : TypeId} {KV : Value → Prop} (K : KeyOk P T KV)
include K
theorem KeyOk.asking (w : World) (k : Value) (hk : KV k) : ∀ (es : List MapEntry) (i : Nat), (∀ e ∈ es, KV e.key) →
    ((Instr.findAsking T k es i).run P w = .ok none w ∧ ∀ e ∈ es, e.key ≠ k) ∨ ∃ (j : Nat) (e : MapEntry), (Instr.findAsking T k es i).run P w = .ok (some (i + j, e.val)) w ∧ es[j]? = some e ∧ e.key = k
  | [], i, _ => .inl ⟨by simp [Instr.findAsking], fun _ h => by cases h⟩
  | e :: es, i, h => by
    obtain ⟨b, hb, hiff⟩ := K.eq w k e.key hk (h e (by simp))
    cases b with
    | true => exact .inr ⟨0, e, by simp [Instr.findAsking, hb, Result.andThen], by simp, (hiff.1 rfl).symm⟩
    | false =>
      have hne : e.key ≠ k := fun h2 => by have := hiff.2 h2.symm; cases this
      rcases KeyOk.asking w k hk es (i + 1) (fun x hx => h x (by simp [hx])) with ⟨h1, h2⟩ | ⟨j, e', h1, h2, h3⟩
      · refine .inl ⟨by simp [Instr.findAsking, hb, h1, Result.andThen], fun x hx => ?_⟩
        rcases List.mem_cons.1 hx with rfl | hx
        · exact hne
        · exact h2 x hx
      · exact .inr ⟨j + 1, e', by simp [Instr.findAsking, hb, h1, Result.andThen]; omega, by simpa using h2, h3⟩
theorem KeyOk.find_no (w : World) (k : Value) (hk : KV k) (l : List (Value × Value)) (hl : ∀ p ∈ l, KV p.1) (hn : ∀ p ∈ l, p.1 ≠ k) : (Instr.findKey T k (ents l)).run P w = .ok none w := by
  rw [run_findKey_eq _ K.wide]
  have hm : ∀ e ∈ ents l, ∃ p ∈ l, e.key = p.1 := fun e he => by
    obtain ⟨i, hi⟩ := List.getElem?_of_mem he
    rw [ents_get] at hi
    obtain ⟨p, hp, rfl⟩ := Option.map_eq_some_iff.1 hi
    exact ⟨p, List.mem_of_getElem? hp, rfl⟩
  rcases K.asking w k hk (ents l) 0 (fun e he => by obtain ⟨p, hp, h⟩ := hm e he; rw [h]; exact hl p hp) with ⟨h1, _⟩ | ⟨j, e, _, h2, h3⟩
  · exact h1
  · obtain ⟨p, hp, h⟩ := hm e (List.mem_of_getElem? h2)
    exact absurd (h.symm.trans h3) (hn p hp)
theorem KeyOk.find_yes (w : World) (k v : Value) (hk : KV k) (l : List (Value × Value)) (hl : ∀ p ∈ l, KV p.1) (hd : (l.map (·.1)).Nodup) (j : Nat) (hj : l[j]? = some (k, v)) : (Instr.findKey T k (ents l)).run P w = .ok (some (j, v)) w := by
  rw [run_findKey_eq _ K.wide]
  have hm : ∀ e ∈ ents l, ∃ p ∈ l, e.key = p.1 := fun e he => by
    obtain ⟨i, hi⟩ := List.getElem?_of_mem he
    rw [ents_get] at hi
    obtain ⟨p, hp, rfl⟩ := Option.map_eq_some_iff.1 hi
    exact ⟨p, List.mem_of_getElem? hp, rfl⟩
  rcases K.asking w k hk (ents l) 0 (fun e he => by obtain ⟨p, hp, h⟩ := hm e he; rw [h]; exact hl p hp) with ⟨_, h2⟩ | ⟨i, e, h1, h2, h3⟩
  · refine absurd rfl (h2 { key := k, val := v, born := j } (List.mem_of_getElem? (i := j) ?_))
    rw [ents_get, hj]; rfl
  · rw [ents_get] at h2
    obtain ⟨p, hp, rfl⟩ := Option.map_eq_some_iff.1 h2
    have hij : i = j := by
      have a1 : (l.map (·.1))[i]? = some k := by simp [hp]; exact h3
      have a2 : (l.map (·.1))[j]? = some k := by simp [hj]
      exact (List.getElem?_inj (by rw [List.length_map]; exact (List.getElem?_eq_some_iff.1 hp).1) hd).1 (a1.trans a2.symm)
    subst hij
    rw [hp] at hj
    cases hj
    rw [h1, Nat.zero_add]
variable {M E : TypeId} (hM : P.underlying M = some (.map T E)) {w : World} {b : Nat} {l : List (Value × Value)} (hb : w.heap[b]? = some (mapObj l)) (hl : ∀ p ∈ l, KV p.1) {k : Value} (hk : KV k)
include hM hb hl hk
theorem KeyOk.lookup_no {z : Value} (hz : ∀ u : World, (zeroValue E).run P u = .ok z u) (hn : ∀ p ∈ l, p.1 ≠ k) (ok : Bool) : (Instr.lookup M (.map (some b)) k ok).run P w = .ok (if ok then .tuple #[z, .bool false] else z) w := by
  unfold mapObj at hb
  simp [Instr.lookup, run_underlying hM, MapKept.run_getObj_map hb, K.check _ w k hk, K.find_no w k hk l hl hn, hz, Result.andThen]
theorem KeyOk.lookup_yes {v : Value} {j : Nat} (hd : (l.map (·.1)).Nodup) (hj : l[j]? = some (k, v)) (ok : Bool) : (Instr.lookup M (.map (some b)) k ok).run P w = .ok (if ok then .tuple #[v, .bool true] else v) w := by
  unfold mapObj at hb
  simp [Instr.lookup, run_underlying hM, MapKept.run_getObj_map hb, K.check _ w k hk, K.find_yes w k v hk l hl hd j hj, Result.andThen]
theorem KeyOk.entry_no {z : Value} (hz : ∀ u : World, (zeroValue E).run P u = .ok z u) (hn : ∀ p ∈ l, p.1 ≠ k) : (Instr.mapEntry M (.map (some b)) k).run P w = .ok (.tuple #[z, goInt l.length]) (w.putObj b (mapObj (l ++ [(k, z)]))) := by
  unfold mapObj at hb
  simp [Instr.mapEntry, run_underlying hM, MapKept.run_getObj_map hb, K.check false w k hk, K.find_no w k hk l hl hn, hz, MapKept.run_setObj_map _ hb, Result.andThen, World.putObj, mapObj, ents_snoc]
theorem KeyOk.entry_yes {v : Value} {j : Nat} (hd : (l.map (·.1)).Nodup) (hj : l[j]? = some (k, v)) : (Instr.mapEntry M (.map (some b)) k).run P w = .ok (.tuple #[v, goInt j]) (w.putObj b (mapObj l)) := by
  unfold mapObj at hb
  have he : (ents l)[j]? = some { key := k, val := v, born := j } := by rw [ents_get, hj]; rfl
  have hs : (ents l).modify j (fun e => { e with key := k }) = ents l := by
    refine List.ext_getElem? fun i => ?_
    rw [List.getElem?_modify]
    split
    · rename_i hij; subst hij; rw [he]; rfl
    · simp
  simp [Instr.mapEntry, run_underlying hM, MapKept.run_getObj_map hb, K.check false w k hk, K.find_yes w k v hk l hl hd j hj, he, K.stays w k hk, hs, MapKept.run_setObj_map _ hb, Result.andThen, World.putObj, mapObj]
theorem KeyOk.update_no {v : Value} (hn : ∀ p ∈ l, p.1 ≠ k) : (Instr.mapUpdate M (.map (some b)) k v).run P w = .ok () (w.putObj b (mapObj (l ++ [(k, v)]))) := by
  unfold mapObj at hb
  simp [Instr.mapUpdate, run_underlying hM, MapKept.run_getObj_map hb, K.check false w k hk, K.find_no w k hk l hl hn, MapKept.run_setObj_map _ hb, Result.andThen, World.putObj, mapObj, ents_snoc]
end
theorem run_entryStore {P : Program} {M : TypeId} {w : World} {b : Nat} {l : List (Value × Value)} (hb : w.heap[b]? = some (mapObj l)) (j : Nat) (hj : j < l.length) (v : Value) : (Instr.entryStore M (.map (some b)) (goInt j) v).run P w = .ok () (w.putObj b (mapObj (l.modify j fun p => (p.1, v)))) := by
  unfold mapObj at hb
  have hidx : (ents l).toArray.findIdx? (fun e => ((e.born : Nat) : Int) == ((j : Nat) : Int)) = some j := by
    have h1 : (ents l).findIdx? (fun e => ((e.born : Nat) : Int) == ((j : Nat) : Int)) = some j := by
      rw [List.findIdx?_eq_some_iff_getElem]
      refine ⟨by rw [ents_len]; exact hj, ?_, fun i hij => ?_⟩
      · simp [ents]
      · simp [ents]; omega
    simpa using h1
  have hm : (ents l).modify j (fun e => { e with val := v }) = ents (l.modify j fun p => (p.1, v)) := ents_modify l j v
  simp [Instr.entryStore, MapKept.run_getObj_map hb, asInt, asIntOf, goInt, hidx, hm, MapKept.run_setObj_map _ hb, Result.andThen, World.putObj, mapObj]
theorem put_same (w : World) (b : Nat) (o : Obj) (h : w.heap[b]? = some o) : w.putObj b o = w := by
  have h2 : w.heap.setIfInBounds b o = w.heap := by
    apply Array.ext_getElem?
    intro i
    by_cases hi : b = i
    · subst hi; rw [Array.getElem?_setIfInBounds_self_of_lt (Array.getElem?_eq_some_iff.1 h).1, h]
    · rw [Array.getElem?_setIfInBounds_ne hi]
  cases w
  simp only [World.putObj] at *
  rw [h2]
theorem put_below {B : Nat} {w w' : World} (h : Below B w w') (b : Nat) (hb : B ≤ b) (o : Obj) : Below B w (w'.putObj b o) :=
  ⟨h.os, h.tape, h.output, by simpa using h.size, fun j hj => (World.putObj_heap_other (by omega)).trans (h.block j hj)⟩
/-- A name: four numbers. -/
abbrev Nm := Int × Int × Int × Int
def nv (x : Nm) : Value := .agg #[.int .i64 x.1, .int .i64 x.2.1, .int .i64 x.2.2.1, .int .i64 x.2.2.2]
theorem int_eqIn (a b : Int) (w : World) : (Op.equalIn 9999 3 (.int .i64 a) (.int .i64 b)).run Tryz.prog w = .ok (a == b) w := by
  have hI := Tryz.underlying3
  unfold Op.equalIn
  simp [run_underlying hI]
theorem name_eq (x y : Nm) (w : World) : (Op.equal 44 (nv x) (nv y)).run Tryz.prog w = .ok (x.1 == y.1 && (x.2.1 == y.2.1 && (x.2.2.1 == y.2.2.1 && x.2.2.2 == y.2.2.2))) w := by
  have hT := Tryz.underlying44
  have hI := Tryz.underlying3
  have p0 : ∀ (a b c d : Int) (w : World), (part 3 #[.int .i64 a, .int .i64 b, .int .i64 c, .int .i64 d] 0).run Tryz.prog w = .ok (.int .i64 a) w := fun _ _ _ _ _ => by kernel_rfl
  have p1 : ∀ (a b c d : Int) (w : World), (part 3 #[.int .i64 a, .int .i64 b, .int .i64 c, .int .i64 d] 1).run Tryz.prog w = .ok (.int .i64 b) w := fun _ _ _ _ _ => by kernel_rfl
  have p2 : ∀ (a b c d : Int) (w : World), (part 3 #[.int .i64 a, .int .i64 b, .int .i64 c, .int .i64 d] 2).run Tryz.prog w = .ok (.int .i64 c) w := fun _ _ _ _ _ => by kernel_rfl
  have p3 : ∀ (a b c d : Int) (w : World), (part 3 #[.int .i64 a, .int .i64 b, .int .i64 c, .int .i64 d] 3).run Tryz.prog w = .ok (.int .i64 d) w := fun _ _ _ _ _ => by kernel_rfl
  unfold Op.equal Op.maxDepth nv
  unfold Op.equalIn
  simp [run_underlying hT, p0, p1, p2, p3, int_eqIn, Result.andThen]
  by_cases h0 : x.1 = y.1 <;> by_cases h1 : x.2.1 = y.2.1 <;> by_cases h2 : x.2.2.1 = y.2.2.1 <;> by_cases h3 : x.2.2.2 = y.2.2.2 <;> simp [h0, h1, h2, h3, p0, p1, p2, p3, int_eqIn, Result.andThen]
theorem name_check (x : Nm) (e : Bool) (w : World) : (Instr.checkKey e 10000 44 (nv x)).run Tryz.prog w = .ok () w := by kernel_rfl
/-- It is a name's value. -/
def isNv (v : Value) : Prop := ∃ x : Nm, v = nv x
theorem nv_inj {x y : Nm} (h : nv x = nv y) : x = y := by
  obtain ⟨a, b, c, d⟩ := x
  obtain ⟨a', b', c', d'⟩ := y
  simp only [nv, Value.agg.injEq, Array.mk.injEq, List.cons.injEq, Value.int.injEq, true_and, and_true] at h
  obtain ⟨rfl, rfl, rfl, rfl⟩ := h
  rfl
theorem name_eqB (x y : Nm) (w : World) : (Op.equal 44 (nv x) (nv y)).run Tryz.prog w = .ok (decide (x = y)) w := by
  rw [name_eq]
  congr 1
  obtain ⟨a, b, c, d⟩ := x
  obtain ⟨a', b', c', d'⟩ := y
  rw [Bool.eq_iff_iff]
  simp
theorem name_keys : KeyOk Tryz.prog 44 isNv where
  wide := by kernel_rfl
  check := fun e w k h => by obtain ⟨x, rfl⟩ := h; exact name_check x e w
  eq := fun w x y hx hy => by
    obtain ⟨x, rfl⟩ := hx
    obtain ⟨y, rfl⟩ := hy
    refine ⟨_, name_eqB x y w, ?_⟩
    rw [decide_eq_true_eq]
    exact ⟨fun h => by rw [h], nv_inj⟩
  stays := fun w k h => by
    obtain ⟨x, rfl⟩ := h
    simp [Instr.keyThatStays, nv, Instr.sameBits]
end Go.Proofs.YtcckfeikaolfgaaGreat

namespace Go.Proofs.YtcckfeikaolfgaaGreat
open Go.RowKit
set_option linter.unusedVariables false
set_option linter.unusedSimpArgs false
set_option maxRecDepth 100000
/-- What a node names itself. -/
def nmOwn (k n k0 dir : Int) : List Nm := if k = 1 ∨ k = 3 ∨ k = 4 then [(1, n, 0, dir)] else if k = 6 then [(3, n, 0, dir)] else if k = 7 then [(2, n, 0, dir), (4, n, k0, dir)] else []
/-- The direction below. -/
def nmBelow (k dir : Int) : Int := if k = 6 ∨ k = 7 then 0 else dir
namespace Tr
mutual
/-- All names, as often as they are named. -/
def names : Tr → Int → List Nm
  | node k n ks, dir => nmOwn k n (kid ks 0).num dir ++ namesL ks (nmBelow k dir)
def namesL : List Tr → Int → List Nm
  | [], _ => []
  | t :: ts, dir => names t dir ++ namesL ts dir
end
theorem names_kids (t : Tr) (dir : Int) : t.names dir = nmOwn t.kind t.num (kid t.kids 0).num dir ++ namesL t.kids (nmBelow t.kind dir) := by cases t; simp [names, kind, num, kids]
theorem namesL_append (l r : List Tr) (dir : Int) : namesL (l ++ r) dir = namesL l dir ++ namesL r dir := by
  induction l with
  | nil => simp [namesL]
  | cons t ts ih => simp only [List.cons_append, namesL, ih, List.append_assoc]
theorem namesL_snoc (l : List Tr) (t : Tr) (dir : Int) : namesL (l ++ [t]) dir = namesL l dir ++ t.names dir := by rw [namesL_append]; simp [namesL]
theorem own_len (k n k0 dir : Int) : (nmOwn k n k0 dir).length ≤ 2 := by unfold nmOwn; repeat' split
                                                                         all_goals simp
theorem names_len (N : Nat) : ∀ (t : Tr) (dir : Int), t.size ≤ N → (t.names dir).length ≤ 2 * t.size := by
  induction N with
  | zero => intro t dir h; have := size_pos t; omega
  | succ N ih =>
    intro t dir h
    have h2 : ∀ (ks : List Tr) (d : Int), sizeL ks ≤ N → (namesL ks d).length ≤ 2 * sizeL ks := by
      intro ks
      induction ks with
      | nil => intro d _; simp [namesL, sizeL]
      | cons t ts ih2 => intro d hk; simp only [sizeL] at hk; simp only [namesL, sizeL, List.length_append]; have := ih t d (by omega); have := ih2 d (by omega); omega
    rw [size_kids] at h ⊢
    rw [names_kids, List.length_append]
    have := h2 t.kids (nmBelow t.kind dir) (by omega)
    have := own_len t.kind t.num (kid t.kids 0).num dir
    omega
theorem namesL_len (ks : List Tr) (dir : Int) : (namesL ks dir).length ≤ 2 * sizeL ks := by
  induction ks with
  | nil => simp [namesL, sizeL]
  | cons t ts ih => simp only [namesL, sizeL, List.length_append]; have := names_len _ t dir (Nat.le_refl _); omega
theorem mem_namesL {ks : List Tr} {dir : Int} {x : Nm} : x ∈ namesL ks dir ↔ ∃ i, i < ks.length ∧ x ∈ (kid ks i).names dir := by
  induction ks with
  | nil => simp [namesL]
  | cons y r ih =>
    simp only [namesL, List.mem_append, ih]
    constructor
    · rintro (h | ⟨i, hi, h⟩)
      · exact ⟨0, by simp, h⟩
      · exact ⟨i + 1, by simpa using hi, h⟩
    · rintro ⟨i, hi, h⟩
      cases i with
      | zero => exact .inl h
      | succ i => exact .inr ⟨i, by simpa using hi, h⟩
end Tr
/-- Each name where it comes first. -/
def once (l : List Nm) : List Nm := l.foldl (fun out x => if x ∈ out then out else out ++ [x]) []
theorem once_snoc (l : List Nm) (x : Nm) : once (l ++ [x]) = if x ∈ once l then once l else once l ++ [x] := by unfold once; rw [List.foldl_append]; rfl
theorem list_snoc {α : Type} {motive : List α → Prop} (nil : motive []) (snoc : ∀ l x, motive l → motive (l ++ [x])) (l : List α) : motive l := by
  have h : ∀ n (l : List α), l.length = n → motive l := by
    intro n
    induction n with
    | zero => intro l h; rw [List.eq_nil_of_length_eq_zero h]; exact nil
    | succ n ih =>
      intro l h
      have hne : l ≠ [] := fun e => by subst e; simp at h
      rw [← List.dropLast_concat_getLast hne]
      exact snoc _ _ (ih _ (by simp; omega))
  exact h _ l rfl
theorem mem_once (l : List Nm) : ∀ x, x ∈ once l ↔ x ∈ l := by
  refine list_snoc (motive := fun l => ∀ x, x ∈ once l ↔ x ∈ l) (by simp [once]) (fun l y ih x => ?_) l
  rw [once_snoc]
  split
  · rename_i h
    rw [ih, List.mem_append, List.mem_singleton]
    exact ⟨.inl, fun h2 => h2.elim id fun e => by subst e; exact (ih _).1 h⟩
  · rw [List.mem_append, List.mem_append, ih]
theorem nodup_once (l : List Nm) : (once l).Nodup := by
  refine list_snoc (motive := fun l => (once l).Nodup) (by simp [once]) (fun l y ih => ?_) l
  rw [once_snoc]
  split
  · exact ih
  · rename_i h
    exact List.nodup_append.2 ⟨ih, by simp, fun a ha b hb e => by simp at hb; subst hb; subst e; exact h ha⟩
theorem once_len (l : List Nm) : (once l).length ≤ l.length := by
  refine list_snoc (motive := fun l => (once l).length ≤ l.length) (by simp [once]) (fun l y ih => ?_) l
  rw [once_snoc]
  split <;> simp <;> omega
/-- What the map of counts holds. -/
def cntL (l : List Nm) : List (Value × Value) := (once l).map fun x => (nv x, .int .i64 (l.count x : Nat))
theorem cntL_len (l : List Nm) : (cntL l).length = (once l).length := by simp [cntL]
theorem cntL_keys (l : List Nm) : ∀ p ∈ cntL l, isNv p.1 := by
  intro p hp
  obtain ⟨x, _, rfl⟩ := List.mem_map.1 hp
  exact ⟨x, rfl⟩
theorem cntL_nodup (l : List Nm) : ((cntL l).map (·.1)).Nodup := by
  have h : (cntL l).map (·.1) = (once l).map nv := by simp [cntL]
  rw [h]
  exact List.Pairwise.map nv (fun a b hab e => hab (nv_inj e)) (nodup_once l)
theorem cntL_no {l : List Nm} {x : Nm} (h : x ∉ l) : ∀ p ∈ cntL l, p.1 ≠ nv x := by
  intro p hp e
  obtain ⟨y, hy, rfl⟩ := List.mem_map.1 hp
  exact h (by rw [← nv_inj e]; exact (mem_once l y).1 hy)
theorem cntL_yes {l : List Nm} {x : Nm} (h : x ∈ l) : ∃ j, j < (once l).length ∧ (once l)[j]? = some x ∧ (cntL l)[j]? = some (nv x, .int .i64 (l.count x : Nat)) := by
  obtain ⟨j, hj⟩ := List.getElem?_of_mem ((mem_once l x).2 h)
  exact ⟨j, (List.getElem?_eq_some_iff.1 hj).1, hj, by simp [cntL, hj]⟩
theorem cntL_new {l : List Nm} {x : Nm} (h : x ∉ l) : cntL (l ++ [x]) = cntL l ++ [(nv x, .int .i64 1)] := by
  have h1 : x ∉ once l := fun e => h ((mem_once l x).1 e)
  unfold cntL
  rw [once_snoc, if_neg h1, List.map_append]
  congr 1
  · refine List.map_congr_left fun y hy => ?_
    have hne : y ≠ x := fun e => by subst e; exact h1 hy
    rw [List.count_append]
    simp [List.count_singleton, hne, Ne.symm hne]
  · have : l.count x = 0 := List.count_eq_zero.2 h
    simp [List.count_append, this]
theorem cntL_more {l : List Nm} {x : Nm} {j : Nat} (h : x ∈ l) (hj : (once l)[j]? = some x) : cntL (l ++ [x]) = (cntL l).modify j fun p => (p.1, .int .i64 ((l.count x : Nat) + 1)) := by
  have h1 : x ∈ once l := (mem_once l x).2 h
  unfold cntL
  rw [once_snoc, if_pos h1]
  refine List.ext_getElem? fun i => ?_
  rw [List.getElem?_modify, List.getElem?_map, List.getElem?_map]
  cases hi : (once l)[i]? with
  | none => simp
  | some y =>
    simp only [Option.map_some]
    by_cases hji : j = i
    · subst hji
      rw [hj] at hi
      cases hi
      simp [List.count_append]
    · have hne : y ≠ x := fun e => by
        subst e
        exact hji ((List.getElem?_inj (List.getElem?_eq_some_iff.1 hj).1 (nodup_once l)).1 (hj.trans hi.symm))
      simp [hji, List.count_append, List.count_singleton, hne, Ne.symm hne]
/-- Is it a name? -/
def rightB (x : Nm) : Bool :=
  hasSz x.2.1 && decide (x.2.2.2 = 0 ∨ x.2.2.2 = 1) &&
    if x.1 = 1 ∨ x.1 = 2 then decide (x.2.2.1 = 0)
    else if x.1 = 3 then decide (x.2.2.1 = 0 ∧ 3 ≤ x.2.1) && isPr x.2.1
    else if x.1 = 4 then decide (2 ≤ x.2.1 ∧ 2 * x.2.1 - 1 ≤ x.2.2.1) && hasP2 x.2.2.1
    else false
/-- How many numbers. -/
def roomN (x : Nm) : Int := if rightB x = false then 0 else if x.1 = 3 then x.2.1 - 1 else if x.1 = 4 then x.2.2.1 else x.2.1
theorem pow_size (j : Nat) (hj : j ≤ 24) : hasSz ((2 ^ j : Nat) : Int) = true := by
  have h : ∀ i : Fin 25, hasSz ((2 ^ i.val : Nat) : Int) = true := by decide +kernel
  exact h ⟨j, by omega⟩
theorem own_right {t : Tr} (h : nodeOk t = true) (dir : Int) (hd : dir = 0 ∨ dir = 1) : ∀ x ∈ nmOwn t.kind t.num (Tr.kid t.kids 0).num dir, rightB x = true := by
  intro x hx
  have hd' : decide (dir = 0 ∨ dir = 1) = true := decide_eq_true hd
  unfold nodeOk nodeB at h
  unfold nmOwn at hx
  by_cases h1 : t.kind = 1
  · rw [if_pos h1] at h
    rw [if_pos (.inl h1)] at hx
    simp only [Bool.and_eq_true, decide_eq_true_eq] at h
    simp only [List.mem_singleton] at hx
    subst hx
    simp [rightB, h.2, hd']
  rw [if_neg h1] at h
  by_cases h2 : t.kind = 2
  · rw [if_neg (by omega), if_neg (by omega), if_neg (by omega)] at hx
    cases hx
  rw [if_neg h2] at h
  by_cases h3 : t.kind = 3
  · rw [if_pos h3] at h
    rw [if_pos (.inr (.inl h3))] at hx
    simp only [Bool.and_eq_true, decide_eq_true_eq] at h
    obtain ⟨j, hj, e⟩ := (hasP2_iff _).1 h.2
    simp only [List.mem_singleton] at hx
    subst hx
    have hz := pow_size j hj
    rw [← e] at hz
    simp [rightB, hz, hd']
  rw [if_neg h3] at h
  by_cases h4 : t.kind = 4
  · rw [if_pos h4] at h
    rw [if_pos (.inr (.inr h4))] at hx
    obtain ⟨_, g⟩ := sides_iff.1 h
    simp only [List.mem_singleton] at hx
    subst hx
    simp [rightB, g, hd']
  rw [if_neg h4] at h
  by_cases h5 : t.kind = 5
  · rw [if_neg (by omega), if_neg (by omega), if_neg (by omega)] at hx
    cases hx
  rw [if_neg h5] at h
  rw [if_neg (by omega)] at hx
  by_cases h6 : t.kind = 6
  · rw [if_pos h6] at h
    rw [if_pos h6] at hx
    simp only [Bool.and_eq_true, decide_eq_true_eq] at h
    simp only [List.mem_singleton] at hx
    subst hx
    simp [rightB, h.1.2, hd', h.2, h.1.1.2.1]
  rw [if_neg h6] at h hx
  by_cases h7 : t.kind = 7
  · rw [if_pos h7] at h
    rw [if_pos h7] at hx
    simp only [Bool.and_eq_true, decide_eq_true_eq] at h
    simp only [List.mem_cons, List.not_mem_nil, or_false] at hx
    rcases hx with rfl | rfl
    · simp [rightB, h.1.2, hd']
    · have := h.1.1.2.2
      simp [rightB, h.1.2, hd', h.2, h.1.1.2.1, this]
  rw [if_neg h7] at h
  cases h
theorem below_dir (k dir : Int) (hd : dir = 0 ∨ dir = 1) : nmBelow k dir = 0 ∨ nmBelow k dir = 1 := by unfold nmBelow; split <;> omega
theorem names_right (N : Nat) : ∀ (t : Tr) (dir : Int), t.size ≤ N → t.allOk → dir = 0 ∨ dir = 1 → ∀ x ∈ t.names dir, rightB x = true := by
  induction N with
  | zero => intro t dir h; have := Tr.size_pos t; omega
  | succ N ih =>
    intro t dir hs hok hd x hx
    have hn := (Tr.allOk_iff t).1 hok
    rw [Tr.names_kids, List.mem_append] at hx
    rcases hx with hx | hx
    · exact own_right hn.1 dir hd x hx
    · obtain ⟨i, hi, hx⟩ := Tr.mem_namesL.1 hx
      exact ih _ _ (by have := Tr.size_kid t i hi; omega) (hn.2 i hi) (below_dir _ _ hd) x hx
end Go.Proofs.YtcckfeikaolfgaaGreat

namespace Go.Proofs.YtcckfeikaolfgaaGreat
open Go.RowKit
set_option linter.unusedVariables false
set_option linter.unusedSimpArgs false
set_option maxRecDepth 100000
set_option maxRecDepth 20000
theorem two_boxes (w : World) (cs ds : Array Value) (T U : TypeId) : ∃ W0, (w.alloc (.cells cs T)).alloc (.cells ds U) = W0 ∧ Below w.heap.size w W0 ∧ W0.heap[w.heap.size]? = some (.cells cs T (0, 0)) ∧ W0.heap[w.heap.size + 1]? = some (.cells ds U (0, 0)) :=
  ⟨_, rfl, ((Below.refl _ _).alloc (Nat.le_refl _) _).alloc (by simp) _, block_old (by simp) (block_new rfl), block_new (by simp)⟩
end Go.Proofs.YtcckfeikaolfgaaGreat

namespace Go.Proofs.YtcckfeikaolfgaaGreat
open Go.RowKit
set_option linter.unusedVariables false
set_option linter.unusedSimpArgs false
set_option maxRecDepth 100000
set_option maxRecDepth 20000
/-- Four numbers that may be. -/
def NmOk (x : Nm) : Prop := (-9223372036854775808 ≤ x.1 ∧ x.1 < 9223372036854775808) ∧ (-9223372036854775808 ≤ x.2.1 ∧ x.2.1 < 9223372036854775808) ∧ (-9223372036854775808 ≤ x.2.2.1 ∧ x.2.2.1 < 9223372036854775808) ∧ (-9223372036854775808 ≤ x.2.2.2 ∧ x.2.2.2 < 9223372036854775808)
set_option maxHeartbeats 4000000 in
theorem need_Right (k n m d : Int) (w : World) (hx : NmOk (k, n, m, d)) :
    Calls Tryz.prog 26 #[.agg #[.int .i64 k, .int .i64 n, .int .i64 m, .int .i64 d]] w fun e w' => e = .returned (.bool (rightB (k, n, m, d))) ∧ Below w.heap.size w w' := by
  obtain ⟨hk, hn, hm, hd⟩ := hx
  simp only at hk hn hm hd
  obtain ⟨W0, hW0, hb0, x0⟩ := box_any w #[.int .i64 k, .int .i64 n, .int .i64 m, .int .i64 d] 44
  have HW0 := Lib.hid hW0
  have HB := Lib.hid hb0
  have D0 : W0.cell? ⟨w.heap.size, 0, none⟩ = some (.int .i64 k) := block_cell x0 0
  have D1 : W0.cell? ⟨w.heap.size, 1, none⟩ = some (.int .i64 n) := block_cell x0 1
  have D2 : W0.cell? ⟨w.heap.size, 2, none⟩ = some (.int .i64 m) := block_cell x0 2
  have D3 : W0.cell? ⟨w.heap.size, 3, none⟩ = some (.int .i64 d) := block_cell x0 3
  clear hW0 hb0 x0
  by_cases hsz : hasSz n = true
  case neg =>
    have hsz' : hasSz n = false := by simpa using hsz
    have HS : Hid (∀ W, Calls Tryz.prog 42 #[.int .i64 n] W fun e w' => e = .returned (.bool false) ∧ W = w') := fun W => rootHas_no n W hsz' hn
    have HV : Hid (rightB (k, n, m, d) = false) := by simp [Hid, rightB, hsz']
    clear hsz hsz'
    go_enter Tryz.func26, Tryz.ntmps26
    go_wp2_with fail
    rw [HW0.out]
    refine (HS.out _).mono ?_; rintro e w1 ⟨rfl, rfl⟩
    go_wp2_with fail
    go_ret
    exact ⟨ret_bool HV.out.symm, HB.out⟩
  have HS : Hid (∀ W, Calls Tryz.prog 42 #[.int .i64 n] W fun e w' => e = .returned (.bool true) ∧ W = w') := fun W => rootHas_yes n W hsz
  have hnb := hasSz_bd hsz
  by_cases hdd : d = 0 ∨ d = 1
  case neg =>
    have HV : Hid (rightB (k, n, m, d) = false) := by simp [Hid, rightB, hdd]
    have t0 : (d != 0) = true := bdiff (by omega)
    have t1 : (d != 1) = true := bdiff (by omega)
    clear hsz hdd
    go_enter Tryz.func26, Tryz.ntmps26
    go_wp2_with fail
    rw [HW0.out]
    refine (HS.out _).mono ?_; rintro e w1 ⟨rfl, rfl⟩
    go_wp2_with fail
    go_ret
    exact ⟨ret_bool HV.out.symm, HB.out⟩
  have HD : Hid (decide (d = 0 ∨ d = 1) = true) := decide_eq_true hdd
  have HZ := Lib.hid hsz
  rcases hdd with rfl | rfl

  · clear hsz
    rcases (show k = 1 ∨ k = 2 ∨ k = 3 ∨ k = 4 ∨ (k ≠ 1 ∧ k ≠ 2 ∧ k ≠ 3 ∧ k ≠ 4) by omega) with rfl | rfl | rfl | rfl | ⟨k1, k2, k3, k4⟩
    · by_cases hm0 : m = 0
      · subst hm0
        have HV : Hid (rightB (1, n, 0, 0) = true) := by unfold Hid rightB; simp only [HZ.out]; simp
        clear HZ HD
        go_enter Tryz.func26, Tryz.ntmps26
        go_wp2_with fail
        rw [HW0.out]
        refine (HS.out _).mono ?_; rintro e w1 ⟨rfl, rfl⟩
        go_wp2_with fail
        go_ret
        exact ⟨ret_bool HV.out.symm, HB.out⟩
      · have t2 : (m == 0) = false := bno hm0
        have HV : Hid (rightB (1, n, m, 0) = false) := by unfold Hid rightB; simp only [HZ.out]; simp [hm0]
        clear HZ HD hm0
        go_enter Tryz.func26, Tryz.ntmps26
        go_wp2_with fail
        rw [HW0.out]
        refine (HS.out _).mono ?_; rintro e w1 ⟨rfl, rfl⟩
        go_wp2_with fail
        go_ret
        exact ⟨ret_bool HV.out.symm, HB.out⟩
    · by_cases hm0 : m = 0
      · subst hm0
        have HV : Hid (rightB (2, n, 0, 0) = true) := by unfold Hid rightB; simp only [HZ.out]; simp
        clear HZ HD
        go_enter Tryz.func26, Tryz.ntmps26
        go_wp2_with fail
        rw [HW0.out]
        refine (HS.out _).mono ?_; rintro e w1 ⟨rfl, rfl⟩
        go_wp2_with fail
        go_ret
        exact ⟨ret_bool HV.out.symm, HB.out⟩
      · have t2 : (m == 0) = false := bno hm0
        have HV : Hid (rightB (2, n, m, 0) = false) := by unfold Hid rightB; simp only [HZ.out]; simp [hm0]
        clear HZ HD hm0
        go_enter Tryz.func26, Tryz.ntmps26
        go_wp2_with fail
        rw [HW0.out]
        refine (HS.out _).mono ?_; rintro e w1 ⟨rfl, rfl⟩
        go_wp2_with fail
        go_ret
        exact ⟨ret_bool HV.out.symm, HB.out⟩
    · by_cases hm0 : m = 0
      · subst hm0
        by_cases h3 : 3 ≤ n
        · have t3 : decide (n ≥ 3) = true := by simp; omega
          obtain ⟨P, hP⟩ : ∃ P, isPr n = P := ⟨_, rfl⟩
          have HP : Hid (∀ W, Calls Tryz.prog 43 #[.int .i64 n] W fun e w' => e = .returned (.bool P) ∧ Below W.heap.size W w') := fun W => by rw [← hP]; exact fact_Prime n W hn
          have HV : Hid (rightB (3, n, 0, 0) = P) := by unfold Hid rightB; simp only [HZ.out]; simp [h3, hP]
          clear HZ HD hP
          go_enter Tryz.func26, Tryz.ntmps26
          go_wp2_with fail
          rw [HW0.out]
          refine (HS.out _).mono ?_; rintro e w1 ⟨rfl, rfl⟩
          go_wp2_with fail
          refine (HP.out _).mono ?_; rintro e w2 ⟨rfl, hb2⟩
          have HB := Lib.hid (chain HB.out hb2)
          clear hb2 D0 D1 D2 D3
          go_wp2_with fail
          go_ret
          exact ⟨ret_bool HV.out.symm, HB.out⟩
        · have t3 : decide (n ≥ 3) = false := by simp; omega
          have HV : Hid (rightB (3, n, 0, 0) = false) := by unfold Hid rightB; simp only [HZ.out]; simp [h3]
          clear HZ HD h3
          go_enter Tryz.func26, Tryz.ntmps26
          go_wp2_with fail
          rw [HW0.out]
          refine (HS.out _).mono ?_; rintro e w1 ⟨rfl, rfl⟩
          go_wp2_with fail
          go_ret
          exact ⟨ret_bool HV.out.symm, HB.out⟩
      · have t2 : (m == 0) = false := bno hm0
        have HV : Hid (rightB (3, n, m, 0) = false) := by unfold Hid rightB; simp only [HZ.out]; simp [hm0]
        clear HZ HD hm0
        go_enter Tryz.func26, Tryz.ntmps26
        go_wp2_with fail
        rw [HW0.out]
        refine (HS.out _).mono ?_; rintro e w1 ⟨rfl, rfl⟩
        go_wp2_with fail
        go_ret
        exact ⟨ret_bool HV.out.symm, HB.out⟩
    · by_cases h2 : 2 ≤ n
      · have t4 : decide (n ≥ 2) = true := by simp; omega
        by_cases h5 : 2 * n - 1 ≤ m
        · have t5 : decide (m ≥ 2 * n - 1) = true := by simp; omega
          obtain ⟨P, hP⟩ : ∃ P, hasP2 m = P := ⟨_, rfl⟩
          have HP : Hid (∀ W, Calls Tryz.prog 44 #[.int .i64 m] W fun e w' => e = .returned (.bool P) ∧ W = w') := fun W => by rw [← hP]; exact stock_Has m W ⟨hm.1, by omega⟩
          have HV : Hid (rightB (4, n, m, 0) = P) := by unfold Hid rightB; simp only [HZ.out]; simp [h2, h5, hP]
          clear HZ HD hP
          go_enter Tryz.func26, Tryz.ntmps26
          go_wp2_with fail
          rw [HW0.out]
          refine (HS.out _).mono ?_; rintro e w1 ⟨rfl, rfl⟩
          go_wp2_with fail
          refine (HP.out _).mono ?_; rintro e w2 ⟨rfl, rfl⟩
          go_wp2_with fail
          go_ret
          exact ⟨ret_bool HV.out.symm, HB.out⟩
        · have t5 : decide (m ≥ 2 * n - 1) = false := by simp; omega
          have HV : Hid (rightB (4, n, m, 0) = false) := by unfold Hid rightB; simp only [HZ.out]; simp [h5]
          clear HZ HD h5
          go_enter Tryz.func26, Tryz.ntmps26
          go_wp2_with fail
          rw [HW0.out]
          refine (HS.out _).mono ?_; rintro e w1 ⟨rfl, rfl⟩
          go_wp2_with fail
          go_ret
          exact ⟨ret_bool HV.out.symm, HB.out⟩
      · have t4 : decide (n ≥ 2) = false := by simp; omega
        have HV : Hid (rightB (4, n, m, 0) = false) := by unfold Hid rightB; simp only [HZ.out]; simp [h2]
        clear HZ HD h2
        go_enter Tryz.func26, Tryz.ntmps26
        go_wp2_with fail
        rw [HW0.out]
        refine (HS.out _).mono ?_; rintro e w1 ⟨rfl, rfl⟩
        go_wp2_with fail
        go_ret
        exact ⟨ret_bool HV.out.symm, HB.out⟩
    · have u1 := bno k1
      have u2 := bno k2
      have u3 := bno k3
      have u4 := bno k4
      have HV : Hid (rightB (k, n, m, 0) = false) := by unfold Hid rightB; simp only [HZ.out]; simp [k1, k2, k3, k4]
      clear HZ HD k1 k2 k3 k4
      go_enter Tryz.func26, Tryz.ntmps26
      go_wp2_with fail
      rw [HW0.out]
      refine (HS.out _).mono ?_; rintro e w1 ⟨rfl, rfl⟩
      go_wp2_with fail
      go_ret
      exact ⟨ret_bool HV.out.symm, HB.out⟩

  · clear hsz
    rcases (show k = 1 ∨ k = 2 ∨ k = 3 ∨ k = 4 ∨ (k ≠ 1 ∧ k ≠ 2 ∧ k ≠ 3 ∧ k ≠ 4) by omega) with rfl | rfl | rfl | rfl | ⟨k1, k2, k3, k4⟩
    · by_cases hm0 : m = 0
      · subst hm0
        have HV : Hid (rightB (1, n, 0, 1) = true) := by unfold Hid rightB; simp only [HZ.out]; simp
        clear HZ HD
        go_enter Tryz.func26, Tryz.ntmps26
        go_wp2_with fail
        rw [HW0.out]
        refine (HS.out _).mono ?_; rintro e w1 ⟨rfl, rfl⟩
        go_wp2_with fail
        go_ret
        exact ⟨ret_bool HV.out.symm, HB.out⟩
      · have t2 : (m == 0) = false := bno hm0
        have HV : Hid (rightB (1, n, m, 1) = false) := by unfold Hid rightB; simp only [HZ.out]; simp [hm0]
        clear HZ HD hm0
        go_enter Tryz.func26, Tryz.ntmps26
        go_wp2_with fail
        rw [HW0.out]
        refine (HS.out _).mono ?_; rintro e w1 ⟨rfl, rfl⟩
        go_wp2_with fail
        go_ret
        exact ⟨ret_bool HV.out.symm, HB.out⟩
    · by_cases hm0 : m = 0
      · subst hm0
        have HV : Hid (rightB (2, n, 0, 1) = true) := by unfold Hid rightB; simp only [HZ.out]; simp
        clear HZ HD
        go_enter Tryz.func26, Tryz.ntmps26
        go_wp2_with fail
        rw [HW0.out]
        refine (HS.out _).mono ?_; rintro e w1 ⟨rfl, rfl⟩
        go_wp2_with fail
        go_ret
        exact ⟨ret_bool HV.out.symm, HB.out⟩
      · have t2 : (m == 0) = false := bno hm0
        have HV : Hid (rightB (2, n, m, 1) = false) := by unfold Hid rightB; simp only [HZ.out]; simp [hm0]
        clear HZ HD hm0
        go_enter Tryz.func26, Tryz.ntmps26
        go_wp2_with fail
        rw [HW0.out]
        refine (HS.out _).mono ?_; rintro e w1 ⟨rfl, rfl⟩
        go_wp2_with fail
        go_ret
        exact ⟨ret_bool HV.out.symm, HB.out⟩
    · by_cases hm0 : m = 0
      · subst hm0
        by_cases h3 : 3 ≤ n
        · have t3 : decide (n ≥ 3) = true := by simp; omega
          obtain ⟨P, hP⟩ : ∃ P, isPr n = P := ⟨_, rfl⟩
          have HP : Hid (∀ W, Calls Tryz.prog 43 #[.int .i64 n] W fun e w' => e = .returned (.bool P) ∧ Below W.heap.size W w') := fun W => by rw [← hP]; exact fact_Prime n W hn
          have HV : Hid (rightB (3, n, 0, 1) = P) := by unfold Hid rightB; simp only [HZ.out]; simp [h3, hP]
          clear HZ HD hP
          go_enter Tryz.func26, Tryz.ntmps26
          go_wp2_with fail
          rw [HW0.out]
          refine (HS.out _).mono ?_; rintro e w1 ⟨rfl, rfl⟩
          go_wp2_with fail
          refine (HP.out _).mono ?_; rintro e w2 ⟨rfl, hb2⟩
          have HB := Lib.hid (chain HB.out hb2)
          clear hb2 D0 D1 D2 D3
          go_wp2_with fail
          go_ret
          exact ⟨ret_bool HV.out.symm, HB.out⟩
        · have t3 : decide (n ≥ 3) = false := by simp; omega
          have HV : Hid (rightB (3, n, 0, 1) = false) := by unfold Hid rightB; simp only [HZ.out]; simp [h3]
          clear HZ HD h3
          go_enter Tryz.func26, Tryz.ntmps26
          go_wp2_with fail
          rw [HW0.out]
          refine (HS.out _).mono ?_; rintro e w1 ⟨rfl, rfl⟩
          go_wp2_with fail
          go_ret
          exact ⟨ret_bool HV.out.symm, HB.out⟩
      · have t2 : (m == 0) = false := bno hm0
        have HV : Hid (rightB (3, n, m, 1) = false) := by unfold Hid rightB; simp only [HZ.out]; simp [hm0]
        clear HZ HD hm0
        go_enter Tryz.func26, Tryz.ntmps26
        go_wp2_with fail
        rw [HW0.out]
        refine (HS.out _).mono ?_; rintro e w1 ⟨rfl, rfl⟩
        go_wp2_with fail
        go_ret
        exact ⟨ret_bool HV.out.symm, HB.out⟩
    · by_cases h2 : 2 ≤ n
      · have t4 : decide (n ≥ 2) = true := by simp; omega
        by_cases h5 : 2 * n - 1 ≤ m
        · have t5 : decide (m ≥ 2 * n - 1) = true := by simp; omega
          obtain ⟨P, hP⟩ : ∃ P, hasP2 m = P := ⟨_, rfl⟩
          have HP : Hid (∀ W, Calls Tryz.prog 44 #[.int .i64 m] W fun e w' => e = .returned (.bool P) ∧ W = w') := fun W => by rw [← hP]; exact stock_Has m W ⟨hm.1, by omega⟩
          have HV : Hid (rightB (4, n, m, 1) = P) := by unfold Hid rightB; simp only [HZ.out]; simp [h2, h5, hP]
          clear HZ HD hP
          go_enter Tryz.func26, Tryz.ntmps26
          go_wp2_with fail
          rw [HW0.out]
          refine (HS.out _).mono ?_; rintro e w1 ⟨rfl, rfl⟩
          go_wp2_with fail
          refine (HP.out _).mono ?_; rintro e w2 ⟨rfl, rfl⟩
          go_wp2_with fail
          go_ret
          exact ⟨ret_bool HV.out.symm, HB.out⟩
        · have t5 : decide (m ≥ 2 * n - 1) = false := by simp; omega
          have HV : Hid (rightB (4, n, m, 1) = false) := by unfold Hid rightB; simp only [HZ.out]; simp [h5]
          clear HZ HD h5
          go_enter Tryz.func26, Tryz.ntmps26
          go_wp2_with fail
          rw [HW0.out]
          refine (HS.out _).mono ?_; rintro e w1 ⟨rfl, rfl⟩
          go_wp2_with fail
          go_ret
          exact ⟨ret_bool HV.out.symm, HB.out⟩
      · have t4 : decide (n ≥ 2) = false := by simp; omega
        have HV : Hid (rightB (4, n, m, 1) = false) := by unfold Hid rightB; simp only [HZ.out]; simp [h2]
        clear HZ HD h2
        go_enter Tryz.func26, Tryz.ntmps26
        go_wp2_with fail
        rw [HW0.out]
        refine (HS.out _).mono ?_; rintro e w1 ⟨rfl, rfl⟩
        go_wp2_with fail
        go_ret
        exact ⟨ret_bool HV.out.symm, HB.out⟩
    · have u1 := bno k1
      have u2 := bno k2
      have u3 := bno k3
      have u4 := bno k4
      have HV : Hid (rightB (k, n, m, 1) = false) := by unfold Hid rightB; simp only [HZ.out]; simp [k1, k2, k3, k4]
      clear HZ HD k1 k2 k3 k4
      go_enter Tryz.func26, Tryz.ntmps26
      go_wp2_with fail
      rw [HW0.out]
      refine (HS.out _).mono ?_; rintro e w1 ⟨rfl, rfl⟩
      go_wp2_with fail
      go_ret
      exact ⟨ret_bool HV.out.symm, HB.out⟩
set_option maxHeartbeats 4000000 in
theorem ref15_Right (k n m d : Int) (w : World) (hx : NmOk (k, n, m, d)) :
    Calls Tryz.prog 25 #[.agg #[.int .i64 k, .int .i64 n, .int .i64 m, .int .i64 d]] w fun e w' => e = .returned (.bool (rightB (k, n, m, d))) ∧ Below w.heap.size w w' := by
  obtain ⟨hk, hn, hm, hd⟩ := hx
  simp only at hk hn hm hd
  obtain ⟨W0, hW0, hb0, x0⟩ := box_any w #[.int .i64 k, .int .i64 n, .int .i64 m, .int .i64 d] 44
  have HW0 := Lib.hid hW0
  have HB := Lib.hid hb0
  have D0 : W0.cell? ⟨w.heap.size, 0, none⟩ = some (.int .i64 k) := block_cell x0 0
  have D1 : W0.cell? ⟨w.heap.size, 1, none⟩ = some (.int .i64 n) := block_cell x0 1
  have D2 : W0.cell? ⟨w.heap.size, 2, none⟩ = some (.int .i64 m) := block_cell x0 2
  have D3 : W0.cell? ⟨w.heap.size, 3, none⟩ = some (.int .i64 d) := block_cell x0 3
  clear hW0 hb0 x0
  by_cases hsz : hasSz n = true
  case neg =>
    have hsz' : hasSz n = false := by simpa using hsz
    have HS : Hid (∀ W, Calls Tryz.prog 39 #[.int .i64 n] W fun e w' => e = .returned (.bool false) ∧ W = w') := fun W => refHas_no n W hsz' hn
    have HV : Hid (rightB (k, n, m, d) = false) := by simp [Hid, rightB, hsz']
    clear hsz hsz'
    go_enter Tryz.func25, Tryz.ntmps25
    go_wp2_with fail
    rw [HW0.out]
    refine (HS.out _).mono ?_; rintro e w1 ⟨rfl, rfl⟩
    go_wp2_with fail
    go_ret
    exact ⟨ret_bool HV.out.symm, HB.out⟩
  have HS : Hid (∀ W, Calls Tryz.prog 39 #[.int .i64 n] W fun e w' => e = .returned (.bool true) ∧ W = w') := fun W => refHas_yes n W hsz
  have hnb := hasSz_bd hsz
  by_cases hdd : d = 0 ∨ d = 1
  case neg =>
    have HV : Hid (rightB (k, n, m, d) = false) := by simp [Hid, rightB, hdd]
    rcases (show d < 0 ∨ (0 ≤ d ∧ 1 < d) by omega) with h | ⟨h, h2⟩
    · have t0 : decide (d < 0) = true := by simp; omega
      clear hsz hdd
      go_enter Tryz.func25, Tryz.ntmps25
      go_wp2_with fail
      rw [HW0.out]
      refine (HS.out _).mono ?_; rintro e w1 ⟨rfl, rfl⟩
      go_wp2_with fail
      go_ret
      exact ⟨ret_bool HV.out.symm, HB.out⟩
    · have t0 : decide (d < 0) = false := by simp; omega
      have t1 : decide (d > 1) = true := by simp; omega
      clear hsz hdd
      go_enter Tryz.func25, Tryz.ntmps25
      go_wp2_with fail
      rw [HW0.out]
      refine (HS.out _).mono ?_; rintro e w1 ⟨rfl, rfl⟩
      go_wp2_with fail
      go_ret
      exact ⟨ret_bool HV.out.symm, HB.out⟩
  have HD : Hid (decide (d = 0 ∨ d = 1) = true) := decide_eq_true hdd
  have HZ := Lib.hid hsz
  rcases hdd with rfl | rfl

  · clear hsz
    rcases (show k = 1 ∨ k = 2 ∨ k = 3 ∨ k = 4 ∨ (k ≠ 1 ∧ k ≠ 2 ∧ k ≠ 3 ∧ k ≠ 4) by omega) with rfl | rfl | rfl | rfl | ⟨k1, k2, k3, k4⟩
    · by_cases hm0 : m = 0
      · subst hm0
        have HV : Hid (rightB (1, n, 0, 0) = true) := by unfold Hid rightB; simp only [HZ.out]; simp
        clear HZ HD
        go_enter Tryz.func25, Tryz.ntmps25
        go_wp2_with fail
        rw [HW0.out]
        refine (HS.out _).mono ?_; rintro e w1 ⟨rfl, rfl⟩
        go_wp2_with fail
        go_ret
        exact ⟨ret_bool HV.out.symm, HB.out⟩
      · have t2 : (m == 0) = false := bno hm0
        have HV : Hid (rightB (1, n, m, 0) = false) := by unfold Hid rightB; simp only [HZ.out]; simp [hm0]
        clear HZ HD hm0
        go_enter Tryz.func25, Tryz.ntmps25
        go_wp2_with fail
        rw [HW0.out]
        refine (HS.out _).mono ?_; rintro e w1 ⟨rfl, rfl⟩
        go_wp2_with fail
        go_ret
        exact ⟨ret_bool HV.out.symm, HB.out⟩
    · by_cases hm0 : m = 0
      · subst hm0
        have HV : Hid (rightB (2, n, 0, 0) = true) := by unfold Hid rightB; simp only [HZ.out]; simp
        clear HZ HD
        go_enter Tryz.func25, Tryz.ntmps25
        go_wp2_with fail
        rw [HW0.out]
        refine (HS.out _).mono ?_; rintro e w1 ⟨rfl, rfl⟩
        go_wp2_with fail
        go_ret
        exact ⟨ret_bool HV.out.symm, HB.out⟩
      · have t2 : (m == 0) = false := bno hm0
        have HV : Hid (rightB (2, n, m, 0) = false) := by unfold Hid rightB; simp only [HZ.out]; simp [hm0]
        clear HZ HD hm0
        go_enter Tryz.func25, Tryz.ntmps25
        go_wp2_with fail
        rw [HW0.out]
        refine (HS.out _).mono ?_; rintro e w1 ⟨rfl, rfl⟩
        go_wp2_with fail
        go_ret
        exact ⟨ret_bool HV.out.symm, HB.out⟩
    · by_cases hm0 : m = 0
      · subst hm0
        by_cases h3 : 3 ≤ n
        · have t3 : decide (n > 2) = true := by simp; omega
          obtain ⟨P, hP⟩ : ∃ P, isPr n = P := ⟨_, rfl⟩
          have HP : Hid (∀ W, Calls Tryz.prog 40 #[.int .i64 n] W fun e w' => e = .returned (.bool P) ∧ W = w') := fun W => by obtain ⟨x, rfl⟩ := Int.eq_ofNat_of_zero_le (show 0 ≤ n by omega); rw [← hP]; exact ref03_Prime x W (by omega) (by omega)
          have HV : Hid (rightB (3, n, 0, 0) = P) := by unfold Hid rightB; simp only [HZ.out]; simp [h3, hP]
          clear HZ HD hP
          go_enter Tryz.func25, Tryz.ntmps25
          go_wp2_with fail
          rw [HW0.out]
          refine (HS.out _).mono ?_; rintro e w1 ⟨rfl, rfl⟩
          go_wp2_with fail
          refine (HP.out _).mono ?_; rintro e w2 ⟨rfl, rfl⟩
          go_wp2_with fail
          go_ret
          exact ⟨ret_bool HV.out.symm, HB.out⟩
        · have t3 : decide (n > 2) = false := by simp; omega
          have HV : Hid (rightB (3, n, 0, 0) = false) := by unfold Hid rightB; simp only [HZ.out]; simp [h3]
          clear HZ HD h3
          go_enter Tryz.func25, Tryz.ntmps25
          go_wp2_with fail
          rw [HW0.out]
          refine (HS.out _).mono ?_; rintro e w1 ⟨rfl, rfl⟩
          go_wp2_with fail
          go_ret
          exact ⟨ret_bool HV.out.symm, HB.out⟩
      · have t2 : (m == 0) = false := bno hm0
        have HV : Hid (rightB (3, n, m, 0) = false) := by unfold Hid rightB; simp only [HZ.out]; simp [hm0]
        clear HZ HD hm0
        go_enter Tryz.func25, Tryz.ntmps25
        go_wp2_with fail
        rw [HW0.out]
        refine (HS.out _).mono ?_; rintro e w1 ⟨rfl, rfl⟩
        go_wp2_with fail
        go_ret
        exact ⟨ret_bool HV.out.symm, HB.out⟩
    · by_cases h2 : 2 ≤ n
      · have t4 : decide (n ≥ 2) = true := by simp; omega
        by_cases h5 : 2 * n - 1 ≤ m
        · have t5 : decide (m ≥ 2 * n - 1) = true := by simp; omega
          by_cases hml : m ≤ 16777216
          · have t6 : decide (m ≤ 16777216) = true := by simp; omega
            obtain ⟨P, hP⟩ : ∃ P, isP2 m = P := ⟨_, rfl⟩
            have HP : Hid (∀ W, Calls Tryz.prog 41 #[.int .i64 m] W fun e w' => e = .returned (.bool P) ∧ W = w') := fun W => by rw [← hP]; exact refPower m W ⟨hm.1, by omega⟩
            have HV : Hid (rightB (4, n, m, 0) = P) := by unfold Hid rightB hasP2; simp only [HZ.out]; simp [h2, h5, hml, hP]
            clear HZ HD hP
            go_enter Tryz.func25, Tryz.ntmps25
            go_wp2_with fail
            rw [HW0.out]
            refine (HS.out _).mono ?_; rintro e w1 ⟨rfl, rfl⟩
            go_wp2_with fail
            refine (HP.out _).mono ?_; rintro e w2 ⟨rfl, rfl⟩
            go_wp2_with fail
            go_ret
            exact ⟨ret_bool HV.out.symm, HB.out⟩
          · have t6 : decide (m ≤ 16777216) = false := by simp; omega
            have HV : Hid (rightB (4, n, m, 0) = false) := by unfold Hid rightB hasP2; simp only [HZ.out]; simp [h2, h5, hml]
            clear HZ HD hml
            go_enter Tryz.func25, Tryz.ntmps25
            go_wp2_with fail
            rw [HW0.out]
            refine (HS.out _).mono ?_; rintro e w1 ⟨rfl, rfl⟩
            go_wp2_with fail
            go_ret
            exact ⟨ret_bool HV.out.symm, HB.out⟩
        · have t5 : decide (m ≥ 2 * n - 1) = false := by simp; omega
          have HV : Hid (rightB (4, n, m, 0) = false) := by unfold Hid rightB; simp only [HZ.out]; simp [h5]
          clear HZ HD h5
          go_enter Tryz.func25, Tryz.ntmps25
          go_wp2_with fail
          rw [HW0.out]
          refine (HS.out _).mono ?_; rintro e w1 ⟨rfl, rfl⟩
          go_wp2_with fail
          go_ret
          exact ⟨ret_bool HV.out.symm, HB.out⟩
      · have t4 : decide (n ≥ 2) = false := by simp; omega
        have HV : Hid (rightB (4, n, m, 0) = false) := by unfold Hid rightB; simp only [HZ.out]; simp [h2]
        clear HZ HD h2
        go_enter Tryz.func25, Tryz.ntmps25
        go_wp2_with fail
        rw [HW0.out]
        refine (HS.out _).mono ?_; rintro e w1 ⟨rfl, rfl⟩
        go_wp2_with fail
        go_ret
        exact ⟨ret_bool HV.out.symm, HB.out⟩
    · have u1 := bno k1
      have u2 := bno k2
      have u3 := bno k3
      have u4 := bno k4
      have HV : Hid (rightB (k, n, m, 0) = false) := by unfold Hid rightB; simp only [HZ.out]; simp [k1, k2, k3, k4]
      clear HZ HD k1 k2 k3 k4
      go_enter Tryz.func25, Tryz.ntmps25
      go_wp2_with fail
      rw [HW0.out]
      refine (HS.out _).mono ?_; rintro e w1 ⟨rfl, rfl⟩
      go_wp2_with fail
      go_ret
      exact ⟨ret_bool HV.out.symm, HB.out⟩

  · clear hsz
    rcases (show k = 1 ∨ k = 2 ∨ k = 3 ∨ k = 4 ∨ (k ≠ 1 ∧ k ≠ 2 ∧ k ≠ 3 ∧ k ≠ 4) by omega) with rfl | rfl | rfl | rfl | ⟨k1, k2, k3, k4⟩
    · by_cases hm0 : m = 0
      · subst hm0
        have HV : Hid (rightB (1, n, 0, 1) = true) := by unfold Hid rightB; simp only [HZ.out]; simp
        clear HZ HD
        go_enter Tryz.func25, Tryz.ntmps25
        go_wp2_with fail
        rw [HW0.out]
        refine (HS.out _).mono ?_; rintro e w1 ⟨rfl, rfl⟩
        go_wp2_with fail
        go_ret
        exact ⟨ret_bool HV.out.symm, HB.out⟩
      · have t2 : (m == 0) = false := bno hm0
        have HV : Hid (rightB (1, n, m, 1) = false) := by unfold Hid rightB; simp only [HZ.out]; simp [hm0]
        clear HZ HD hm0
        go_enter Tryz.func25, Tryz.ntmps25
        go_wp2_with fail
        rw [HW0.out]
        refine (HS.out _).mono ?_; rintro e w1 ⟨rfl, rfl⟩
        go_wp2_with fail
        go_ret
        exact ⟨ret_bool HV.out.symm, HB.out⟩
    · by_cases hm0 : m = 0
      · subst hm0
        have HV : Hid (rightB (2, n, 0, 1) = true) := by unfold Hid rightB; simp only [HZ.out]; simp
        clear HZ HD
        go_enter Tryz.func25, Tryz.ntmps25
        go_wp2_with fail
        rw [HW0.out]
        refine (HS.out _).mono ?_; rintro e w1 ⟨rfl, rfl⟩
        go_wp2_with fail
        go_ret
        exact ⟨ret_bool HV.out.symm, HB.out⟩
      · have t2 : (m == 0) = false := bno hm0
        have HV : Hid (rightB (2, n, m, 1) = false) := by unfold Hid rightB; simp only [HZ.out]; simp [hm0]
        clear HZ HD hm0
        go_enter Tryz.func25, Tryz.ntmps25
        go_wp2_with fail
        rw [HW0.out]
        refine (HS.out _).mono ?_; rintro e w1 ⟨rfl, rfl⟩
        go_wp2_with fail
        go_ret
        exact ⟨ret_bool HV.out.symm, HB.out⟩
    · by_cases hm0 : m = 0
      · subst hm0
        by_cases h3 : 3 ≤ n
        · have t3 : decide (n > 2) = true := by simp; omega
          obtain ⟨P, hP⟩ : ∃ P, isPr n = P := ⟨_, rfl⟩
          have HP : Hid (∀ W, Calls Tryz.prog 40 #[.int .i64 n] W fun e w' => e = .returned (.bool P) ∧ W = w') := fun W => by obtain ⟨x, rfl⟩ := Int.eq_ofNat_of_zero_le (show 0 ≤ n by omega); rw [← hP]; exact ref03_Prime x W (by omega) (by omega)
          have HV : Hid (rightB (3, n, 0, 1) = P) := by unfold Hid rightB; simp only [HZ.out]; simp [h3, hP]
          clear HZ HD hP
          go_enter Tryz.func25, Tryz.ntmps25
          go_wp2_with fail
          rw [HW0.out]
          refine (HS.out _).mono ?_; rintro e w1 ⟨rfl, rfl⟩
          go_wp2_with fail
          refine (HP.out _).mono ?_; rintro e w2 ⟨rfl, rfl⟩
          go_wp2_with fail
          go_ret
          exact ⟨ret_bool HV.out.symm, HB.out⟩
        · have t3 : decide (n > 2) = false := by simp; omega
          have HV : Hid (rightB (3, n, 0, 1) = false) := by unfold Hid rightB; simp only [HZ.out]; simp [h3]
          clear HZ HD h3
          go_enter Tryz.func25, Tryz.ntmps25
          go_wp2_with fail
          rw [HW0.out]
          refine (HS.out _).mono ?_; rintro e w1 ⟨rfl, rfl⟩
          go_wp2_with fail
          go_ret
          exact ⟨ret_bool HV.out.symm, HB.out⟩
      · have t2 : (m == 0) = false := bno hm0
        have HV : Hid (rightB (3, n, m, 1) = false) := by unfold Hid rightB; simp only [HZ.out]; simp [hm0]
        clear HZ HD hm0
        go_enter Tryz.func25, Tryz.ntmps25
        go_wp2_with fail
        rw [HW0.out]
        refine (HS.out _).mono ?_; rintro e w1 ⟨rfl, rfl⟩
        go_wp2_with fail
        go_ret
        exact ⟨ret_bool HV.out.symm, HB.out⟩
    · by_cases h2 : 2 ≤ n
      · have t4 : decide (n ≥ 2) = true := by simp; omega
        by_cases h5 : 2 * n - 1 ≤ m
        · have t5 : decide (m ≥ 2 * n - 1) = true := by simp; omega
          by_cases hml : m ≤ 16777216
          · have t6 : decide (m ≤ 16777216) = true := by simp; omega
            obtain ⟨P, hP⟩ : ∃ P, isP2 m = P := ⟨_, rfl⟩
            have HP : Hid (∀ W, Calls Tryz.prog 41 #[.int .i64 m] W fun e w' => e = .returned (.bool P) ∧ W = w') := fun W => by rw [← hP]; exact refPower m W ⟨hm.1, by omega⟩
            have HV : Hid (rightB (4, n, m, 1) = P) := by unfold Hid rightB hasP2; simp only [HZ.out]; simp [h2, h5, hml, hP]
            clear HZ HD hP
            go_enter Tryz.func25, Tryz.ntmps25
            go_wp2_with fail
            rw [HW0.out]
            refine (HS.out _).mono ?_; rintro e w1 ⟨rfl, rfl⟩
            go_wp2_with fail
            refine (HP.out _).mono ?_; rintro e w2 ⟨rfl, rfl⟩
            go_wp2_with fail
            go_ret
            exact ⟨ret_bool HV.out.symm, HB.out⟩
          · have t6 : decide (m ≤ 16777216) = false := by simp; omega
            have HV : Hid (rightB (4, n, m, 1) = false) := by unfold Hid rightB hasP2; simp only [HZ.out]; simp [h2, h5, hml]
            clear HZ HD hml
            go_enter Tryz.func25, Tryz.ntmps25
            go_wp2_with fail
            rw [HW0.out]
            refine (HS.out _).mono ?_; rintro e w1 ⟨rfl, rfl⟩
            go_wp2_with fail
            go_ret
            exact ⟨ret_bool HV.out.symm, HB.out⟩
        · have t5 : decide (m ≥ 2 * n - 1) = false := by simp; omega
          have HV : Hid (rightB (4, n, m, 1) = false) := by unfold Hid rightB; simp only [HZ.out]; simp [h5]
          clear HZ HD h5
          go_enter Tryz.func25, Tryz.ntmps25
          go_wp2_with fail
          rw [HW0.out]
          refine (HS.out _).mono ?_; rintro e w1 ⟨rfl, rfl⟩
          go_wp2_with fail
          go_ret
          exact ⟨ret_bool HV.out.symm, HB.out⟩
      · have t4 : decide (n ≥ 2) = false := by simp; omega
        have HV : Hid (rightB (4, n, m, 1) = false) := by unfold Hid rightB; simp only [HZ.out]; simp [h2]
        clear HZ HD h2
        go_enter Tryz.func25, Tryz.ntmps25
        go_wp2_with fail
        rw [HW0.out]
        refine (HS.out _).mono ?_; rintro e w1 ⟨rfl, rfl⟩
        go_wp2_with fail
        go_ret
        exact ⟨ret_bool HV.out.symm, HB.out⟩
    · have u1 := bno k1
      have u2 := bno k2
      have u3 := bno k3
      have u4 := bno k4
      have HV : Hid (rightB (k, n, m, 1) = false) := by unfold Hid rightB; simp only [HZ.out]; simp [k1, k2, k3, k4]
      clear HZ HD k1 k2 k3 k4
      go_enter Tryz.func25, Tryz.ntmps25
      go_wp2_with fail
      rw [HW0.out]
      refine (HS.out _).mono ?_; rintro e w1 ⟨rfl, rfl⟩
      go_wp2_with fail
      go_ret
      exact ⟨ret_bool HV.out.symm, HB.out⟩
end Go.Proofs.YtcckfeikaolfgaaGreat

namespace Go.Proofs.YtcckfeikaolfgaaGreat
open Go.RowKit
set_option linter.unusedVariables false
set_option linter.unusedSimpArgs false
set_option maxRecDepth 100000
set_option maxRecDepth 20000
theorem right_bd {x : Nm} (h : rightB x = true) : 1 ≤ x.2.1 ∧ x.2.1 ≤ 16777216 := by
  unfold rightB at h
  simp only [Bool.and_eq_true] at h
  exact hasSz_bd h.1.1
theorem roomN_no {x : Nm} (h : rightB x = false) : roomN x = 0 := if_pos h
theorem roomN_yes {x : Nm} (h : rightB x = true) : roomN x = if x.1 = 3 then x.2.1 - 1 else if x.1 = 4 then x.2.2.1 else x.2.1 := if_neg (by rw [h]; simp)
set_option maxHeartbeats 2000000 in
theorem need_Room (k n m d : Int) (w : World) (hx : NmOk (k, n, m, d)) :
    Calls Tryz.prog 55 #[.agg #[.int .i64 k, .int .i64 n, .int .i64 m, .int .i64 d]] w fun e w' => e = .returned (.int .i64 (roomN (k, n, m, d))) ∧ Below w.heap.size w w' := by
  have CR : Hid (∀ W, Below w.heap.size w W → Calls Tryz.prog 26 #[.agg #[.int .i64 k, .int .i64 n, .int .i64 m, .int .i64 d]] W fun e w' => e = .returned (.bool (rightB (k, n, m, d))) ∧ Below W.heap.size W w') := fun W _ => need_Right k n m d W hx
  have hbd : rightB (k, n, m, d) = true → 1 ≤ n ∧ n ≤ 16777216 := right_bd
  have hno : rightB (k, n, m, d) = false → roomN (k, n, m, d) = 0 := roomN_no
  have hyes : rightB (k, n, m, d) = true → roomN (k, n, m, d) = if k = 3 then n - 1 else if k = 4 then m else n := roomN_yes
  obtain ⟨W0, hW0, hb0, x0⟩ := box_any w #[.int .i64 k, .int .i64 n, .int .i64 m, .int .i64 d] 44
  have HW0 := Lib.hid hW0
  have HB := Lib.hid hb0
  have XD := Lib.hid x0
  have D0 : W0.cell? ⟨w.heap.size, 0, none⟩ = some (.int .i64 k) := block_cell XD.out 0
  have D1 : W0.cell? ⟨w.heap.size, 1, none⟩ = some (.int .i64 n) := block_cell XD.out 1
  have D2 : W0.cell? ⟨w.heap.size, 2, none⟩ = some (.int .i64 m) := block_cell XD.out 2
  have D3 : W0.cell? ⟨w.heap.size, 3, none⟩ = some (.int .i64 d) := block_cell XD.out 3
  clear hW0 hb0 x0
  obtain ⟨R, hR⟩ : ∃ R, rightB (k, n, m, d) = R := ⟨_, rfl⟩
  rw [hR] at CR hbd hno hyes
  clear hR hx
  cases R with
  | false =>
    rw [hno rfl]
    clear hbd hno hyes
    go_enter Tryz.func55, Tryz.ntmps55
    go_wp2_with fail
    rw [HW0.out]
    refine (CR.out _ HB.out).mono ?_; rintro e w1 ⟨rfl, hb1⟩
    clear D0 D1 D2 D3
    have XD := Lib.hid ((hb1.block _ (block_lt XD.out)).trans XD.out)
    have HB := Lib.hid (chain HB.out hb1)
    clear hb1
    have D0 : w1.cell? ⟨w.heap.size, 0, none⟩ = some (.int .i64 k) := block_cell XD.out 0
    have D1 : w1.cell? ⟨w.heap.size, 1, none⟩ = some (.int .i64 n) := block_cell XD.out 1
    have D2 : w1.cell? ⟨w.heap.size, 2, none⟩ = some (.int .i64 m) := block_cell XD.out 2
    have D3 : w1.cell? ⟨w.heap.size, 3, none⟩ = some (.int .i64 d) := block_cell XD.out 3
    go_wp2_with fail
    go_ret
    exact ⟨rfl, HB.out⟩
  | true =>
    have hb := hbd rfl
    rw [hyes rfl]
    clear hbd hno hyes
    by_cases h3 : k = 3
    · subst h3
      rw [if_pos rfl]
      go_enter Tryz.func55, Tryz.ntmps55
      go_wp2_with fail
      rw [HW0.out]
      refine (CR.out _ HB.out).mono ?_; rintro e w1 ⟨rfl, hb1⟩
      clear D0 D1 D2 D3
      have XD := Lib.hid ((hb1.block _ (block_lt XD.out)).trans XD.out)
      have HB := Lib.hid (chain HB.out hb1)
      clear hb1
      have D0 : w1.cell? ⟨w.heap.size, 0, none⟩ = some (.int .i64 3) := block_cell XD.out 0
      have D1 : w1.cell? ⟨w.heap.size, 1, none⟩ = some (.int .i64 n) := block_cell XD.out 1
      have D2 : w1.cell? ⟨w.heap.size, 2, none⟩ = some (.int .i64 m) := block_cell XD.out 2
      have D3 : w1.cell? ⟨w.heap.size, 3, none⟩ = some (.int .i64 d) := block_cell XD.out 3
      go_wp2_with fail
      go_ret
      exact ⟨rfl, HB.out⟩
    · rw [if_neg h3]
      have t3 : (k == 3) = false := bno h3
      by_cases h4 : k = 4
      · subst h4
        rw [if_pos rfl]
        clear h3
        go_enter Tryz.func55, Tryz.ntmps55
        go_wp2_with fail
        rw [HW0.out]
        refine (CR.out _ HB.out).mono ?_; rintro e w1 ⟨rfl, hb1⟩
        clear D0 D1 D2 D3
        have XD := Lib.hid ((hb1.block _ (block_lt XD.out)).trans XD.out)
        have HB := Lib.hid (chain HB.out hb1)
        clear hb1
        have D0 : w1.cell? ⟨w.heap.size, 0, none⟩ = some (.int .i64 4) := block_cell XD.out 0
        have D1 : w1.cell? ⟨w.heap.size, 1, none⟩ = some (.int .i64 n) := block_cell XD.out 1
        have D2 : w1.cell? ⟨w.heap.size, 2, none⟩ = some (.int .i64 m) := block_cell XD.out 2
        have D3 : w1.cell? ⟨w.heap.size, 3, none⟩ = some (.int .i64 d) := block_cell XD.out 3
        go_wp2_with fail
        go_ret
        exact ⟨rfl, HB.out⟩
      · rw [if_neg h4]
        have t4 : (k == 4) = false := bno h4
        clear h3 h4
        go_enter Tryz.func55, Tryz.ntmps55
        go_wp2_with fail
        rw [HW0.out]
        refine (CR.out _ HB.out).mono ?_; rintro e w1 ⟨rfl, hb1⟩
        clear D0 D1 D2 D3
        have XD := Lib.hid ((hb1.block _ (block_lt XD.out)).trans XD.out)
        have HB := Lib.hid (chain HB.out hb1)
        clear hb1
        have D0 : w1.cell? ⟨w.heap.size, 0, none⟩ = some (.int .i64 k) := block_cell XD.out 0
        have D1 : w1.cell? ⟨w.heap.size, 1, none⟩ = some (.int .i64 n) := block_cell XD.out 1
        have D2 : w1.cell? ⟨w.heap.size, 2, none⟩ = some (.int .i64 m) := block_cell XD.out 2
        have D3 : w1.cell? ⟨w.heap.size, 3, none⟩ = some (.int .i64 d) := block_cell XD.out 3
        go_wp2_with fail
        go_ret
        exact ⟨rfl, HB.out⟩
set_option maxHeartbeats 2000000 in
theorem ref15_Room (k n m d : Int) (w : World) (hx : NmOk (k, n, m, d)) :
    Calls Tryz.prog 15 #[.agg #[.int .i64 k, .int .i64 n, .int .i64 m, .int .i64 d]] w fun e w' => e = .returned (.int .i64 (roomN (k, n, m, d))) ∧ Below w.heap.size w w' := by
  have CR : Hid (∀ W, Below w.heap.size w W → Calls Tryz.prog 25 #[.agg #[.int .i64 k, .int .i64 n, .int .i64 m, .int .i64 d]] W fun e w' => e = .returned (.bool (rightB (k, n, m, d))) ∧ Below W.heap.size W w') := fun W _ => ref15_Right k n m d W hx
  have hbd : rightB (k, n, m, d) = true → 1 ≤ n ∧ n ≤ 16777216 := right_bd
  have hno : rightB (k, n, m, d) = false → roomN (k, n, m, d) = 0 := roomN_no
  have hyes : rightB (k, n, m, d) = true → roomN (k, n, m, d) = if k = 3 then n - 1 else if k = 4 then m else n := roomN_yes
  obtain ⟨W0, hW0, hb0, x0⟩ := box_any w #[.int .i64 k, .int .i64 n, .int .i64 m, .int .i64 d] 44
  have HW0 := Lib.hid hW0
  have HB := Lib.hid hb0
  have XD := Lib.hid x0
  have D0 : W0.cell? ⟨w.heap.size, 0, none⟩ = some (.int .i64 k) := block_cell XD.out 0
  have D1 : W0.cell? ⟨w.heap.size, 1, none⟩ = some (.int .i64 n) := block_cell XD.out 1
  have D2 : W0.cell? ⟨w.heap.size, 2, none⟩ = some (.int .i64 m) := block_cell XD.out 2
  have D3 : W0.cell? ⟨w.heap.size, 3, none⟩ = some (.int .i64 d) := block_cell XD.out 3
  clear hW0 hb0 x0
  obtain ⟨R, hR⟩ : ∃ R, rightB (k, n, m, d) = R := ⟨_, rfl⟩
  rw [hR] at CR hbd hno hyes
  clear hR hx
  cases R with
  | false =>
    rw [hno rfl]
    clear hbd hno hyes
    go_enter Tryz.func15, Tryz.ntmps15
    go_wp2_with fail
    rw [HW0.out]
    refine (CR.out _ HB.out).mono ?_; rintro e w1 ⟨rfl, hb1⟩
    clear D0 D1 D2 D3
    have XD := Lib.hid ((hb1.block _ (block_lt XD.out)).trans XD.out)
    have HB := Lib.hid (chain HB.out hb1)
    clear hb1
    have D0 : w1.cell? ⟨w.heap.size, 0, none⟩ = some (.int .i64 k) := block_cell XD.out 0
    have D1 : w1.cell? ⟨w.heap.size, 1, none⟩ = some (.int .i64 n) := block_cell XD.out 1
    have D2 : w1.cell? ⟨w.heap.size, 2, none⟩ = some (.int .i64 m) := block_cell XD.out 2
    have D3 : w1.cell? ⟨w.heap.size, 3, none⟩ = some (.int .i64 d) := block_cell XD.out 3
    go_wp2_with fail
    go_ret
    exact ⟨rfl, HB.out⟩
  | true =>
    have hb := hbd rfl
    rw [hyes rfl]
    clear hbd hno hyes
    by_cases h3 : k = 3
    · subst h3
      rw [if_pos rfl]
      go_enter Tryz.func15, Tryz.ntmps15
      go_wp2_with fail
      rw [HW0.out]
      refine (CR.out _ HB.out).mono ?_; rintro e w1 ⟨rfl, hb1⟩
      clear D0 D1 D2 D3
      have XD := Lib.hid ((hb1.block _ (block_lt XD.out)).trans XD.out)
      have HB := Lib.hid (chain HB.out hb1)
      clear hb1
      have D0 : w1.cell? ⟨w.heap.size, 0, none⟩ = some (.int .i64 3) := block_cell XD.out 0
      have D1 : w1.cell? ⟨w.heap.size, 1, none⟩ = some (.int .i64 n) := block_cell XD.out 1
      have D2 : w1.cell? ⟨w.heap.size, 2, none⟩ = some (.int .i64 m) := block_cell XD.out 2
      have D3 : w1.cell? ⟨w.heap.size, 3, none⟩ = some (.int .i64 d) := block_cell XD.out 3
      go_wp2_with fail
      go_ret
      exact ⟨rfl, HB.out⟩
    · rw [if_neg h3]
      have t3 : (k == 3) = false := bno h3
      by_cases h4 : k = 4
      · subst h4
        rw [if_pos rfl]
        clear h3
        go_enter Tryz.func15, Tryz.ntmps15
        go_wp2_with fail
        rw [HW0.out]
        refine (CR.out _ HB.out).mono ?_; rintro e w1 ⟨rfl, hb1⟩
        clear D0 D1 D2 D3
        have XD := Lib.hid ((hb1.block _ (block_lt XD.out)).trans XD.out)
        have HB := Lib.hid (chain HB.out hb1)
        clear hb1
        have D0 : w1.cell? ⟨w.heap.size, 0, none⟩ = some (.int .i64 4) := block_cell XD.out 0
        have D1 : w1.cell? ⟨w.heap.size, 1, none⟩ = some (.int .i64 n) := block_cell XD.out 1
        have D2 : w1.cell? ⟨w.heap.size, 2, none⟩ = some (.int .i64 m) := block_cell XD.out 2
        have D3 : w1.cell? ⟨w.heap.size, 3, none⟩ = some (.int .i64 d) := block_cell XD.out 3
        go_wp2_with fail
        go_ret
        exact ⟨rfl, HB.out⟩
      · rw [if_neg h4]
        have t4 : (k == 4) = false := bno h4
        clear h3 h4
        go_enter Tryz.func15, Tryz.ntmps15
        go_wp2_with fail
        rw [HW0.out]
        refine (CR.out _ HB.out).mono ?_; rintro e w1 ⟨rfl, hb1⟩
        clear D0 D1 D2 D3
        have XD := Lib.hid ((hb1.block _ (block_lt XD.out)).trans XD.out)
        have HB := Lib.hid (chain HB.out hb1)
        clear hb1
        have D0 : w1.cell? ⟨w.heap.size, 0, none⟩ = some (.int .i64 k) := block_cell XD.out 0
        have D1 : w1.cell? ⟨w.heap.size, 1, none⟩ = some (.int .i64 n) := block_cell XD.out 1
        have D2 : w1.cell? ⟨w.heap.size, 2, none⟩ = some (.int .i64 m) := block_cell XD.out 2
        have D3 : w1.cell? ⟨w.heap.size, 3, none⟩ = some (.int .i64 d) := block_cell XD.out 3
        go_wp2_with fail
        go_ret
        exact ⟨rfl, HB.out⟩
end Go.Proofs.YtcckfeikaolfgaaGreat

