/- The contracts and plain laws that the statements ChooseFirst ChooseMeasures ChooseBest need, part 3 of 11: ValC ValF ValJ CostL BitsLen CostA CostB CostC CostD CostE TreeO. -/
import Derived.Test.YtlnlijeamflpiaaGreatChB2
namespace Go.Proofs.YtlnlijeamflpiaaGreat
open Go.RowKit
set_option linter.unusedVariables false
set_option linter.unusedSimpArgs false
set_option maxRecDepth 100000
set_option maxRecDepth 20000
theorem own_int_cell {e : TypeId} {w wr : World} {g cap n : Nat} {f : Nat → Int} (h : Own .i64 e w wr (.slice (some ⟨g, 0, none⟩) n cap) n f) (i : Nat) (hi : i < n) : wr.cell? ⟨g, i, none⟩ = some (.int .i64 (f i)) :=
  (h.own.cellAt i (by omega)).trans (by simp [hi])
/-- A quiet call behind an earlier quiet region. -/
theorem quiet_same2 {P : Program} {f : FuncId} {args : Array Value} {w : World} {q a : Nat} {v : Value} (h : Calls P f args (w.drewN (q + a)) fun e w' => e = .returned v ∧ w' = w.drewN (q + a)) :
    Calls P f args (w.drewN (q + a)) fun e w'' => e = .returned v ∧ ∃ n, w'' = w.drewN (q + n) := h.mono fun _ _ ⟨he, hm⟩ => ⟨he, a, hm⟩
set_option maxHeartbeats 1600000 in
theorem ref14_Node_1 (t : Tr) (n : Int) (a : Option Addr) (m cap : Nat) (w : World) (F : Nat → Prop) (hs : t.size ≤ 4194304) (hT : IsT w F 1 n a m cap t) :
    Calls Tryz.prog 94 #[.agg #[.int .i64 1, .int .i64 n, .slice a m cap]] w fun e w' => e = .returned (.bool (nodeOk t)) ∧ Below w.heap.size w w' := by
  obtain ⟨i0, hi, hz0, hz1, hz2⟩ := info_parts info_int
  have hn := hT.fn
  have hmm : m ≤ 4194304 := by
    have h1 := Tr.len_le_sizeL t.kids
    rw [Tr.size_kids] at hs
    rw [hT.em]; omega
  have HN : Hid (nodeOk t = nodeB 1 n m (Tr.kid t.kids 0).num (Tr.kid t.kids 1).num) := by unfold Hid nodeOk; rw [hT.ek, hT.en, hT.em]
  have hd : ∀ i, i < m → -9223372036854775808 ≤ (Tr.kid t.kids i).num ∧ (Tr.kid t.kids i).num < 9223372036854775808 := fun i h => by
    obtain ⟨_, _, _, _, _, d⟩ := hT.knum i h
    exact d
  have HD := Lib.hid hd
  obtain ⟨B, hB⟩ : ∃ B, hasSz n = B := ⟨_, rfl⟩
  have HS : Hid (∀ W, Calls Tryz.prog 18 #[.int .i64 n] W fun e w' => e = .returned (.bool B) ∧ W = w') := fun W => by
    cases B with
    | true => exact refHas_yes n W hB
    | false => exact refHas_no n W hB hn
  have HB := Lib.hid hB
  obtain ⟨W0, hW0⟩ : ∃ W0, w.alloc (.cells #[.int .i64 1, .int .i64 n, .slice a m cap] 48) = W0 := ⟨_, rfl⟩
  have hx0 : W0.heap[w.heap.size]? = some (.cells #[.int .i64 1, .int .i64 n, .slice a m cap] 48 (0, 0)) := by rw [← hW0]; exact block_new rfl
  have hb0 : Below w.heap.size w W0 := by rw [← hW0]; exact (Below.refl _ _).alloc (Nat.le_refl _) _
  have HT := Lib.hid (hT.below hb0)
  have HX0 := Lib.hid hx0
  have HW0 := Lib.hid hW0
  have HB0 := Lib.hid hb0
  clear hs hT hd hB hx0 hW0 hb0
  go_enter Tryz.func94, Tryz.ntmps94
  go_wp2_with fail
  rw [HW0.out]
  go_loopw [3, 4] (fun v i wr => ∃ j : Nat, j ≤ m ∧ i = .int .i64 j ∧ Own .i64 3 W0 wr v j (fun i => (Tr.kid t.kids i).num)) (fun _ i _ => m - (intOf i).toNat)
  case atStart => exact ⟨0, Nat.zero_le _, rfl, World.ownsRow_nil _ _ _ _, Below.refl _ _⟩
  case round =>
    obtain ⟨j, hj, rfl, hown⟩ := hrel
    have hX := (hown.below.block _ (block_lt HX0.out)).trans HX0.out
    have x0 : wr.cell? ⟨w.heap.size, 0, none⟩ = some (.int .i64 1) := block_cell hX 0
    have x1 : wr.cell? ⟨w.heap.size, 1, none⟩ = some (.int .i64 n) := block_cell hX 1
    have x2 : wr.cell? ⟨w.heap.size, 2, none⟩ = some (.slice a m cap) := block_cell hX 2
    clear hX
    by_cases hlt : j < m
    · obtain ⟨b, off, rfl, hbl, c0, d0⟩ := (HT.out.below hown.below).knum j hlt
      obtain ⟨kk, hkk⟩ : ∃ kk, (Tr.kid t.kids j).num = kk := ⟨_, rfl⟩
      rw [hkk] at c0 d0
      have HKK := Lib.hid hkk
      clear hkk
      have g1 : (0 : Int) ≤ (j : Int) := by omega
      have g2 : (j : Int) < (m : Int) := by omega
      go_wp2_with (at_builtin; refine wpList_append_own _ rfl _ _ 44 rfl W0.heap.size 3 i0 (.int .i64 0) 1 8 Tryz.underlying44 hi hz0 hz1 hz2 rfl (by decide) _ _ _ rfl (hown.own.alloc _) ⟨wr.heap.size, 0, none⟩ 1 1 [.int .i64 kk] rfl rfl (cell_one_new _ _ _) (one_cell _ _) (by unfold maxLen; omega) (by omega) (size_alloc_le hown.below _) ?_)
      intro v' w2 hown2 hgrow _
      have HPU := Lib.hid (hown.push kk HKK.out.symm hown2 hgrow)
      clear hown hown2 hgrow x0 x1 x2 c0
      go_wp2_with fail
      go_roundw
      case rel => exact ⟨j + 1, by omega, by go_num, HPU.out⟩
      case measure => simp [intOf]; omega
    · have hjm : j = m := by omega
      subst hjm
      obtain ⟨a3, c3, rfl, hca, hg⟩ := own_slice2 hown.own
      have hbe : Below w.heap.size w wr := chain HB0.out hown.below
      have HBE := Lib.hid hbe
      clear hbe hlt
      have HG := HN
      clear hown hg
      have HQ : Hid (nodeB 1 n j (Tr.kid t.kids 0).num (Tr.kid t.kids 1).num = (decide (j = 0 ∧ n ≤ 64) && B)) := by unfold Hid nodeB; rw [if_pos rfl, HB.out]
      rw [HQ.out] at HG
      clear HQ
      by_cases hm : j = 0
      · subst hm
        cases B with
        | true =>
          by_cases h : n ≤ 64
          all_goals
            go_wp2_with fail
            refine (HS.out _).mono ?_; rintro e w1 ⟨rfl, rfl⟩
            go_wp2_with fail
            go_ret
            exact ⟨ret_bool (by rw [HG.out]; simp [h]), HBE.out⟩
        | false =>
          go_wp2_with fail
          refine (HS.out _).mono ?_; rintro e w1 ⟨rfl, rfl⟩
          go_wp2_with fail
          go_ret
          exact ⟨ret_bool (by rw [HG.out]; simp), HBE.out⟩
      · skip
        have hm0 : ((j : Int) == 0) = false := bno (by omega)
        have hn0 : ((j : Int) != 0) = true := bdiff (by omega)
        go_wp2_with fail
        go_ret
        exact ⟨ret_bool (by rw [HG.out]; simp [hm]), HBE.out⟩
set_option maxHeartbeats 1600000 in
theorem ref14_Node_2 (t : Tr) (n : Int) (a : Option Addr) (m cap : Nat) (w : World) (F : Nat → Prop) (hs : t.size ≤ 4194304) (hT : IsT w F 2 n a m cap t) :
    Calls Tryz.prog 94 #[.agg #[.int .i64 2, .int .i64 n, .slice a m cap]] w fun e w' => e = .returned (.bool (nodeOk t)) ∧ Below w.heap.size w w' := by
  obtain ⟨i0, hi, hz0, hz1, hz2⟩ := info_parts info_int
  have hn := hT.fn
  have hmm : m ≤ 4194304 := by
    have h1 := Tr.len_le_sizeL t.kids
    rw [Tr.size_kids] at hs
    rw [hT.em]; omega
  have HN : Hid (nodeOk t = nodeB 2 n m (Tr.kid t.kids 0).num (Tr.kid t.kids 1).num) := by unfold Hid nodeOk; rw [hT.ek, hT.en, hT.em]
  have hd : ∀ i, i < m → -9223372036854775808 ≤ (Tr.kid t.kids i).num ∧ (Tr.kid t.kids i).num < 9223372036854775808 := fun i h => by
    obtain ⟨_, _, _, _, _, d⟩ := hT.knum i h
    exact d
  have HD := Lib.hid hd
  obtain ⟨B, hB⟩ : ∃ B, hasSz n = B := ⟨_, rfl⟩
  have HS : Hid (∀ W, Calls Tryz.prog 18 #[.int .i64 n] W fun e w' => e = .returned (.bool B) ∧ W = w') := fun W => by
    cases B with
    | true => exact refHas_yes n W hB
    | false => exact refHas_no n W hB hn
  have HB := Lib.hid hB
  obtain ⟨W0, hW0⟩ : ∃ W0, w.alloc (.cells #[.int .i64 2, .int .i64 n, .slice a m cap] 48) = W0 := ⟨_, rfl⟩
  have hx0 : W0.heap[w.heap.size]? = some (.cells #[.int .i64 2, .int .i64 n, .slice a m cap] 48 (0, 0)) := by rw [← hW0]; exact block_new rfl
  have hb0 : Below w.heap.size w W0 := by rw [← hW0]; exact (Below.refl _ _).alloc (Nat.le_refl _) _
  have HT := Lib.hid (hT.below hb0)
  have HX0 := Lib.hid hx0
  have HW0 := Lib.hid hW0
  have HB0 := Lib.hid hb0
  clear hs hT hd hB hx0 hW0 hb0
  go_enter Tryz.func94, Tryz.ntmps94
  go_wp2_with fail
  rw [HW0.out]
  go_loopw [3, 4] (fun v i wr => ∃ j : Nat, j ≤ m ∧ i = .int .i64 j ∧ Own .i64 3 W0 wr v j (fun i => (Tr.kid t.kids i).num)) (fun _ i _ => m - (intOf i).toNat)
  case atStart => exact ⟨0, Nat.zero_le _, rfl, World.ownsRow_nil _ _ _ _, Below.refl _ _⟩
  case round =>
    obtain ⟨j, hj, rfl, hown⟩ := hrel
    have hX := (hown.below.block _ (block_lt HX0.out)).trans HX0.out
    have x0 : wr.cell? ⟨w.heap.size, 0, none⟩ = some (.int .i64 2) := block_cell hX 0
    have x1 : wr.cell? ⟨w.heap.size, 1, none⟩ = some (.int .i64 n) := block_cell hX 1
    have x2 : wr.cell? ⟨w.heap.size, 2, none⟩ = some (.slice a m cap) := block_cell hX 2
    clear hX
    by_cases hlt : j < m
    · obtain ⟨b, off, rfl, hbl, c0, d0⟩ := (HT.out.below hown.below).knum j hlt
      obtain ⟨kk, hkk⟩ : ∃ kk, (Tr.kid t.kids j).num = kk := ⟨_, rfl⟩
      rw [hkk] at c0 d0
      have HKK := Lib.hid hkk
      clear hkk
      have g1 : (0 : Int) ≤ (j : Int) := by omega
      have g2 : (j : Int) < (m : Int) := by omega
      go_wp2_with (at_builtin; refine wpList_append_own _ rfl _ _ 44 rfl W0.heap.size 3 i0 (.int .i64 0) 1 8 Tryz.underlying44 hi hz0 hz1 hz2 rfl (by decide) _ _ _ rfl (hown.own.alloc _) ⟨wr.heap.size, 0, none⟩ 1 1 [.int .i64 kk] rfl rfl (cell_one_new _ _ _) (one_cell _ _) (by unfold maxLen; omega) (by omega) (size_alloc_le hown.below _) ?_)
      intro v' w2 hown2 hgrow _
      have HPU := Lib.hid (hown.push kk HKK.out.symm hown2 hgrow)
      clear hown hown2 hgrow x0 x1 x2 c0
      go_wp2_with fail
      go_roundw
      case rel => exact ⟨j + 1, by omega, by go_num, HPU.out⟩
      case measure => simp [intOf]; omega
    · have hjm : j = m := by omega
      subst hjm
      obtain ⟨a3, c3, rfl, hca, hg⟩ := own_slice2 hown.own
      have hbe : Below w.heap.size w wr := chain HB0.out hown.below
      have HBE := Lib.hid hbe
      clear hbe hlt
      have HG := HN
      clear hown hg
      have HQ : Hid (nodeB 2 n j (Tr.kid t.kids 0).num (Tr.kid t.kids 1).num = decide (j = 0 ∧ 2 ≤ n ∧ n ≤ 5)) := by unfold Hid nodeB; simp
      rw [HQ.out] at HG
      clear HQ
      by_cases hm : j = 0
      · subst hm
        rcases (show n < 2 ∨ (2 ≤ n ∧ 5 < n) ∨ (2 ≤ n ∧ n ≤ 5) by omega) with h | ⟨h, h5⟩ | ⟨h, h5⟩
        all_goals
          go_wp2_with fail
          go_ret
          exact ⟨ret_bool (by rw [HG.out]; simp; try omega), HBE.out⟩
      · skip
        have hm0 : ((j : Int) == 0) = false := bno (by omega)
        have hn0 : ((j : Int) != 0) = true := bdiff (by omega)
        go_wp2_with fail
        go_ret
        exact ⟨ret_bool (by rw [HG.out]; simp [hm]), HBE.out⟩
set_option maxHeartbeats 1600000 in
theorem ref14_Node_3 (t : Tr) (n : Int) (a : Option Addr) (m cap : Nat) (w : World) (F : Nat → Prop) (hs : t.size ≤ 4194304) (hT : IsT w F 3 n a m cap t) :
    Calls Tryz.prog 94 #[.agg #[.int .i64 3, .int .i64 n, .slice a m cap]] w fun e w' => e = .returned (.bool (nodeOk t)) ∧ Below w.heap.size w w' := by
  obtain ⟨i0, hi, hz0, hz1, hz2⟩ := info_parts info_int
  have hn := hT.fn
  have hmm : m ≤ 4194304 := by
    have h1 := Tr.len_le_sizeL t.kids
    rw [Tr.size_kids] at hs
    rw [hT.em]; omega
  have HN : Hid (nodeOk t = nodeB 3 n m (Tr.kid t.kids 0).num (Tr.kid t.kids 1).num) := by unfold Hid nodeOk; rw [hT.ek, hT.en, hT.em]
  have hd : ∀ i, i < m → -9223372036854775808 ≤ (Tr.kid t.kids i).num ∧ (Tr.kid t.kids i).num < 9223372036854775808 := fun i h => by
    obtain ⟨_, _, _, _, _, d⟩ := hT.knum i h
    exact d
  have HD := Lib.hid hd
  obtain ⟨B, hB⟩ : ∃ B, hasSz n = B := ⟨_, rfl⟩
  have HS : Hid (∀ W, Calls Tryz.prog 18 #[.int .i64 n] W fun e w' => e = .returned (.bool B) ∧ W = w') := fun W => by
    cases B with
    | true => exact refHas_yes n W hB
    | false => exact refHas_no n W hB hn
  have HB := Lib.hid hB
  obtain ⟨W0, hW0⟩ : ∃ W0, w.alloc (.cells #[.int .i64 3, .int .i64 n, .slice a m cap] 48) = W0 := ⟨_, rfl⟩
  have hx0 : W0.heap[w.heap.size]? = some (.cells #[.int .i64 3, .int .i64 n, .slice a m cap] 48 (0, 0)) := by rw [← hW0]; exact block_new rfl
  have hb0 : Below w.heap.size w W0 := by rw [← hW0]; exact (Below.refl _ _).alloc (Nat.le_refl _) _
  have HT := Lib.hid (hT.below hb0)
  have HX0 := Lib.hid hx0
  have HW0 := Lib.hid hW0
  have HB0 := Lib.hid hb0
  clear hs hT hd hB hx0 hW0 hb0
  go_enter Tryz.func94, Tryz.ntmps94
  go_wp2_with fail
  rw [HW0.out]
  go_loopw [3, 4] (fun v i wr => ∃ j : Nat, j ≤ m ∧ i = .int .i64 j ∧ Own .i64 3 W0 wr v j (fun i => (Tr.kid t.kids i).num)) (fun _ i _ => m - (intOf i).toNat)
  case atStart => exact ⟨0, Nat.zero_le _, rfl, World.ownsRow_nil _ _ _ _, Below.refl _ _⟩
  case round =>
    obtain ⟨j, hj, rfl, hown⟩ := hrel
    have hX := (hown.below.block _ (block_lt HX0.out)).trans HX0.out
    have x0 : wr.cell? ⟨w.heap.size, 0, none⟩ = some (.int .i64 3) := block_cell hX 0
    have x1 : wr.cell? ⟨w.heap.size, 1, none⟩ = some (.int .i64 n) := block_cell hX 1
    have x2 : wr.cell? ⟨w.heap.size, 2, none⟩ = some (.slice a m cap) := block_cell hX 2
    clear hX
    by_cases hlt : j < m
    · obtain ⟨b, off, rfl, hbl, c0, d0⟩ := (HT.out.below hown.below).knum j hlt
      obtain ⟨kk, hkk⟩ : ∃ kk, (Tr.kid t.kids j).num = kk := ⟨_, rfl⟩
      rw [hkk] at c0 d0
      have HKK := Lib.hid hkk
      clear hkk
      have g1 : (0 : Int) ≤ (j : Int) := by omega
      have g2 : (j : Int) < (m : Int) := by omega
      go_wp2_with (at_builtin; refine wpList_append_own _ rfl _ _ 44 rfl W0.heap.size 3 i0 (.int .i64 0) 1 8 Tryz.underlying44 hi hz0 hz1 hz2 rfl (by decide) _ _ _ rfl (hown.own.alloc _) ⟨wr.heap.size, 0, none⟩ 1 1 [.int .i64 kk] rfl rfl (cell_one_new _ _ _) (one_cell _ _) (by unfold maxLen; omega) (by omega) (size_alloc_le hown.below _) ?_)
      intro v' w2 hown2 hgrow _
      have HPU := Lib.hid (hown.push kk HKK.out.symm hown2 hgrow)
      clear hown hown2 hgrow x0 x1 x2 c0
      go_wp2_with fail
      go_roundw
      case rel => exact ⟨j + 1, by omega, by go_num, HPU.out⟩
      case measure => simp [intOf]; omega
    · have hjm : j = m := by omega
      subst hjm
      obtain ⟨a3, c3, rfl, hca, hg⟩ := own_slice2 hown.own
      have hbe : Below w.heap.size w wr := chain HB0.out hown.below
      have HBE := Lib.hid hbe
      clear hbe hlt
      have HG := HN
      clear hown hg
      obtain ⟨C, hC⟩ : ∃ C, hasP2 n = C := ⟨_, rfl⟩
      have HST : Hid (∀ W, Calls Tryz.prog 118 #[.int .i64 n] W fun e w' => e = .returned (.bool C) ∧ W = w') := fun W => by rw [← hC]; exact ref14_power n W hn
      have HQ : Hid (nodeB 3 n j (Tr.kid t.kids 0).num (Tr.kid t.kids 1).num = (decide (j = 0 ∧ 2 ≤ n) && C)) := by unfold Hid nodeB; simp [hC]
      clear hC
      rw [HQ.out] at HG
      clear HQ
      by_cases hm : j = 0
      · subst hm
        by_cases h : 2 ≤ n
        · go_wp2_with fail
          refine (HST.out _).mono ?_; rintro e w1 ⟨rfl, rfl⟩
          go_wp2_with fail
          go_ret
          exact ⟨ret_bool (by rw [HG.out]; simp [h]), HBE.out⟩
        · go_wp2_with fail
          go_ret
          exact ⟨ret_bool (by rw [HG.out]; first | (simp [h]; done) | (simp; intros; omega)), HBE.out⟩
      · skip
        have hm0 : ((j : Int) == 0) = false := bno (by omega)
        have hn0 : ((j : Int) != 0) = true := bdiff (by omega)
        go_wp2_with fail
        go_ret
        exact ⟨ret_bool (by rw [HG.out]; simp [hm]), HBE.out⟩
set_option maxHeartbeats 1600000 in
theorem ref14_Node_4 (t : Tr) (n : Int) (a : Option Addr) (m cap : Nat) (w : World) (F : Nat → Prop) (hs : t.size ≤ 4194304) (hT : IsT w F 4 n a m cap t) :
    Calls Tryz.prog 94 #[.agg #[.int .i64 4, .int .i64 n, .slice a m cap]] w fun e w' => e = .returned (.bool (nodeOk t)) ∧ Below w.heap.size w w' := by
  obtain ⟨i0, hi, hz0, hz1, hz2⟩ := info_parts info_int
  have hn := hT.fn
  have hmm : m ≤ 4194304 := by
    have h1 := Tr.len_le_sizeL t.kids
    rw [Tr.size_kids] at hs
    rw [hT.em]; omega
  have HN : Hid (nodeOk t = nodeB 4 n m (Tr.kid t.kids 0).num (Tr.kid t.kids 1).num) := by unfold Hid nodeOk; rw [hT.ek, hT.en, hT.em]
  have hd : ∀ i, i < m → -9223372036854775808 ≤ (Tr.kid t.kids i).num ∧ (Tr.kid t.kids i).num < 9223372036854775808 := fun i h => by
    obtain ⟨_, _, _, _, _, d⟩ := hT.knum i h
    exact d
  have HD := Lib.hid hd
  obtain ⟨B, hB⟩ : ∃ B, hasSz n = B := ⟨_, rfl⟩
  have HS : Hid (∀ W, Calls Tryz.prog 18 #[.int .i64 n] W fun e w' => e = .returned (.bool B) ∧ W = w') := fun W => by
    cases B with
    | true => exact refHas_yes n W hB
    | false => exact refHas_no n W hB hn
  have HB := Lib.hid hB
  obtain ⟨W0, hW0⟩ : ∃ W0, w.alloc (.cells #[.int .i64 4, .int .i64 n, .slice a m cap] 48) = W0 := ⟨_, rfl⟩
  have hx0 : W0.heap[w.heap.size]? = some (.cells #[.int .i64 4, .int .i64 n, .slice a m cap] 48 (0, 0)) := by rw [← hW0]; exact block_new rfl
  have hb0 : Below w.heap.size w W0 := by rw [← hW0]; exact (Below.refl _ _).alloc (Nat.le_refl _) _
  have HT := Lib.hid (hT.below hb0)
  have HX0 := Lib.hid hx0
  have HW0 := Lib.hid hW0
  have HB0 := Lib.hid hb0
  clear hs hT hd hB hx0 hW0 hb0
  go_enter Tryz.func94, Tryz.ntmps94
  go_wp2_with fail
  rw [HW0.out]
  go_loopw [3, 4] (fun v i wr => ∃ j : Nat, j ≤ m ∧ i = .int .i64 j ∧ Own .i64 3 W0 wr v j (fun i => (Tr.kid t.kids i).num)) (fun _ i _ => m - (intOf i).toNat)
  case atStart => exact ⟨0, Nat.zero_le _, rfl, World.ownsRow_nil _ _ _ _, Below.refl _ _⟩
  case round =>
    obtain ⟨j, hj, rfl, hown⟩ := hrel
    have hX := (hown.below.block _ (block_lt HX0.out)).trans HX0.out
    have x0 : wr.cell? ⟨w.heap.size, 0, none⟩ = some (.int .i64 4) := block_cell hX 0
    have x1 : wr.cell? ⟨w.heap.size, 1, none⟩ = some (.int .i64 n) := block_cell hX 1
    have x2 : wr.cell? ⟨w.heap.size, 2, none⟩ = some (.slice a m cap) := block_cell hX 2
    clear hX
    by_cases hlt : j < m
    · obtain ⟨b, off, rfl, hbl, c0, d0⟩ := (HT.out.below hown.below).knum j hlt
      obtain ⟨kk, hkk⟩ : ∃ kk, (Tr.kid t.kids j).num = kk := ⟨_, rfl⟩
      rw [hkk] at c0 d0
      have HKK := Lib.hid hkk
      clear hkk
      have g1 : (0 : Int) ≤ (j : Int) := by omega
      have g2 : (j : Int) < (m : Int) := by omega
      go_wp2_with (at_builtin; refine wpList_append_own _ rfl _ _ 44 rfl W0.heap.size 3 i0 (.int .i64 0) 1 8 Tryz.underlying44 hi hz0 hz1 hz2 rfl (by decide) _ _ _ rfl (hown.own.alloc _) ⟨wr.heap.size, 0, none⟩ 1 1 [.int .i64 kk] rfl rfl (cell_one_new _ _ _) (one_cell _ _) (by unfold maxLen; omega) (by omega) (size_alloc_le hown.below _) ?_)
      intro v' w2 hown2 hgrow _
      have HPU := Lib.hid (hown.push kk HKK.out.symm hown2 hgrow)
      clear hown hown2 hgrow x0 x1 x2 c0
      go_wp2_with fail
      go_roundw
      case rel => exact ⟨j + 1, by omega, by go_num, HPU.out⟩
      case measure => simp [intOf]; omega
    · have hjm : j = m := by omega
      subst hjm
      obtain ⟨a3, c3, rfl, hca, hg⟩ := own_slice2 hown.own
      have hbe : Below w.heap.size w wr := chain HB0.out hown.below
      have HBE := Lib.hid hbe
      clear hbe hlt
      have HG := HN
      have HQ : Hid (nodeB 4 n j (Tr.kid t.kids 0).num (Tr.kid t.kids 1).num = sidesB n j (Tr.kid t.kids 0).num (Tr.kid t.kids 1).num) := by unfold Hid nodeB; simp
      rw [HQ.out] at HG
      clear HQ
      by_cases hm : j = 2
      · cases B with
        | false =>
          have HF : Hid (sidesB n j (Tr.kid t.kids 0).num (Tr.kid t.kids 1).num = false) := by unfold Hid sidesB; rw [HB.out, Bool.and_false]
          rw [HF.out] at HG
          subst hm
          clear hown hg
          go_wp2_with fail
          go_quiet ((first | (go_at_call 18; exact Calls.quiet_of_same (sameW (HS.out _)))))
          go_wp2_with fail
          go_ret
          exact ⟨ret_bool (by rw [HG.out] <;> simp), below_drewN HBE.out _⟩
        | true =>
          have hsz := hasSz_bd HB.out
          have hd0 := HD.out 0 (by omega)
          have hd1 := HD.out 1 (by omega)
          obtain ⟨g, rfl⟩ := hg (by omega)
          have c0 := own_int_cell hown 0 (by omega)
          have c1 := own_int_cell hown 1 (by omega)
          have HF : Hid (sidesB n j (Tr.kid t.kids 0).num (Tr.kid t.kids 1).num = decide (2 ≤ (Tr.kid t.kids 0).num ∧ 2 ≤ (Tr.kid t.kids 1).num ∧ (Tr.kid t.kids 0).num ≤ n ∧ (Tr.kid t.kids 1).num ≤ n ∧ (Tr.kid t.kids 0).num * (Tr.kid t.kids 1).num = n)) := by
            unfold Hid sidesB
            rw [HB.out, Bool.and_true, hm]
            simp
          rw [HF.out] at HG
          clear HF hown hg HD HT
          obtain ⟨k0, hk0⟩ : ∃ x, (Tr.kid t.kids 0).num = x := ⟨_, rfl⟩
          obtain ⟨k1, hk1⟩ : ∃ x, (Tr.kid t.kids 1).num = x := ⟨_, rfl⟩
          try simp only [] at c0 c1
          rw [hk0] at c0 hd0 HG
          rw [hk1] at c1 hd1 HG
          clear hk0 hk1
          subst hm
          by_cases h0 : 2 ≤ k0
          · have d0 : decide (k0 < 2) = false := by simp; omega
            by_cases h1 : 2 ≤ k1
            · have d1 : decide (k1 < 2) = false := by simp; omega
              have hdv := sides_div hsz.1 h0 h1
              obtain ⟨R, hR⟩ : ∃ R, n % k0 = R := ⟨_, rfl⟩
              have r0 := Int.emod_nonneg n (show k0 ≠ 0 by omega)
              have r1 := Int.emod_lt_of_pos n (show 0 < k0 by omega)
              have q0 : 0 ≤ n / k0 := Int.ediv_nonneg (by omega) (by omega)
              have q1 : n / k0 ≤ n := Int.ediv_le_self _ (by omega)
              obtain ⟨Q, hQ⟩ : ∃ Q, n / k0 = Q := ⟨_, rfl⟩
              have e1 : n.tmod k0 = R := by rw [Int.tmod_eq_emod_of_nonneg (by omega), hR]
              have e3 : n.tdiv k0 = Q := by rw [Int.tdiv_eq_ediv_of_nonneg (by omega), hQ]
              rw [hR] at hdv r0 r1
              rw [hQ] at hdv q0 q1
              have wq : IntKind.i64.wrap Q = Q := IntWalk.i64_in _ (by omega)
              have HDV := Lib.hid hdv
              have z1 : (k0 == 0) = false := bno (by omega)
              have z2 : ¬ k0 = 0 := by omega
              have HE2 := Lib.hid hR
              have HE4 := Lib.hid hQ
              clear hdv hR hQ
              by_cases hr : R = 0
              · have b1 : (R != 0) = false := bfalse hr
                have HRR := Lib.hid hr
                clear hr
                by_cases hq : Q = k1
                · have b2 : (Q != k1) = false := bfalse hq
                  have HQQ := Lib.hid hq
                  clear hq
                  have e2 : n % k0 = R := HE2.out
                  have e4 : n / k0 = Q := HE4.out
                  have HYES : Hid (decide (2 ≤ k0 ∧ 2 ≤ k1 ∧ k0 ≤ n ∧ k1 ≤ n ∧ k0 * k1 = n) = true) := by
                    have := HDV.out.1 ⟨HRR.out, HQQ.out⟩
                    unfold Hid; rw [decide_eq_true_eq]; exact ⟨h0, h1, this⟩
                  rw [HYES.out] at HG
                  go_wp2_with fail
                  go_quiet ((first | (go_at_call 18; exact Calls.quiet_of_same (sameW (HS.out _)))))
                  clear e2 e4
                  go_wp2_with fail
                  go_quiet (fail)
                  go_wp2_with fail
                  go_ret
                  exact ⟨ret_bool (by rw [HG.out] <;> simp), below_drewN (below_drewN HBE.out _) _⟩
                · have b2 : (Q != k1) = true := bdiff hq
                  have HNO : Hid (decide (2 ≤ k0 ∧ 2 ≤ k1 ∧ k0 ≤ n ∧ k1 ≤ n ∧ k0 * k1 = n) = false) := by
                    unfold Hid; rw [decide_eq_false_iff_not]; intro h; exact hq (HDV.out.2 h.2.2).2
                  rw [HNO.out] at HG
                  have e2 : n % k0 = R := HE2.out
                  have e4 : n / k0 = Q := HE4.out
                  clear hq
                  go_wp2_with fail
                  go_quiet ((first | (go_at_call 18; exact Calls.quiet_of_same (sameW (HS.out _)))))
                  clear e2 e4
                  go_wp2_with fail
                  go_ret
                  exact ⟨ret_bool (by rw [HG.out] <;> simp), below_drewN HBE.out _⟩
              · have b1 : (R != 0) = true := bdiff hr
                have HNO : Hid (decide (2 ≤ k0 ∧ 2 ≤ k1 ∧ k0 ≤ n ∧ k1 ≤ n ∧ k0 * k1 = n) = false) := by
                  unfold Hid; rw [decide_eq_false_iff_not]; intro h; exact hr (HDV.out.2 h.2.2).1
                rw [HNO.out] at HG
                have e2 : n % k0 = R := HE2.out
                have e4 : n / k0 = Q := HE4.out
                clear hr
                go_wp2_with fail
                go_quiet ((first | (go_at_call 18; exact Calls.quiet_of_same (sameW (HS.out _)))))
                clear e2 e4
                go_wp2_with fail
                go_ret
                exact ⟨ret_bool (by rw [HG.out] <;> simp), below_drewN HBE.out _⟩
            · have b1 : decide (k1 < 2) = true := by simp; omega
              have HNO : Hid (decide (2 ≤ k0 ∧ 2 ≤ k1 ∧ k0 ≤ n ∧ k1 ≤ n ∧ k0 * k1 = n) = false) := by
                unfold Hid; rw [decide_eq_false_iff_not]; intro h; omega
              rw [HNO.out] at HG
              go_wp2_with fail
              go_quiet ((first | (go_at_call 18; exact Calls.quiet_of_same (sameW (HS.out _)))))
              go_wp2_with fail
              go_ret
              exact ⟨ret_bool (by rw [HG.out] <;> simp), below_drewN HBE.out _⟩
          · have b1 : decide (k0 < 2) = true := by simp; omega
            have HNO : Hid (decide (2 ≤ k0 ∧ 2 ≤ k1 ∧ k0 ≤ n ∧ k1 ≤ n ∧ k0 * k1 = n) = false) := by
              unfold Hid; rw [decide_eq_false_iff_not]; intro h; omega
            rw [HNO.out] at HG
            go_wp2_with fail
            go_quiet ((first | (go_at_call 18; exact Calls.quiet_of_same (sameW (HS.out _)))))
            go_wp2_with fail
            go_ret
            exact ⟨ret_bool (by rw [HG.out] <;> simp), below_drewN HBE.out _⟩
      · skip
        have HF : Hid (sidesB n j (Tr.kid t.kids 0).num (Tr.kid t.kids 1).num = false) := by unfold Hid sidesB; rw [decide_eq_false (by intro h; exact hm h.1), Bool.false_and]
        rw [HF.out] at HG
        have hm2 : ((j : Int) == 2) = false := bno (by omega)
        have hn2 : ((j : Int) != 2) = true := bdiff (by omega)
        clear hown hg
        go_wp2_with fail
        go_quiet (fail)
        go_wp2_with fail
        go_ret
        exact ⟨ret_bool (by rw [HG.out] <;> simp), below_drewN HBE.out _⟩
set_option maxHeartbeats 1600000 in
theorem ref14_Node_5 (t : Tr) (n : Int) (a : Option Addr) (m cap : Nat) (w : World) (F : Nat → Prop) (hs : t.size ≤ 4194304) (hT : IsT w F 5 n a m cap t) :
    Calls Tryz.prog 94 #[.agg #[.int .i64 5, .int .i64 n, .slice a m cap]] w fun e w' => e = .returned (.bool (nodeOk t)) ∧ Below w.heap.size w w' := by
  obtain ⟨i0, hi, hz0, hz1, hz2⟩ := info_parts info_int
  have hn := hT.fn
  have hmm : m ≤ 4194304 := by
    have h1 := Tr.len_le_sizeL t.kids
    rw [Tr.size_kids] at hs
    rw [hT.em]; omega
  have HN : Hid (nodeOk t = nodeB 5 n m (Tr.kid t.kids 0).num (Tr.kid t.kids 1).num) := by unfold Hid nodeOk; rw [hT.ek, hT.en, hT.em]
  have hd : ∀ i, i < m → -9223372036854775808 ≤ (Tr.kid t.kids i).num ∧ (Tr.kid t.kids i).num < 9223372036854775808 := fun i h => by
    obtain ⟨_, _, _, _, _, d⟩ := hT.knum i h
    exact d
  have HD := Lib.hid hd
  obtain ⟨B, hB⟩ : ∃ B, hasSz n = B := ⟨_, rfl⟩
  have HS : Hid (∀ W, Calls Tryz.prog 18 #[.int .i64 n] W fun e w' => e = .returned (.bool B) ∧ W = w') := fun W => by
    cases B with
    | true => exact refHas_yes n W hB
    | false => exact refHas_no n W hB hn
  have HB := Lib.hid hB
  obtain ⟨W0, hW0⟩ : ∃ W0, w.alloc (.cells #[.int .i64 5, .int .i64 n, .slice a m cap] 48) = W0 := ⟨_, rfl⟩
  have hx0 : W0.heap[w.heap.size]? = some (.cells #[.int .i64 5, .int .i64 n, .slice a m cap] 48 (0, 0)) := by rw [← hW0]; exact block_new rfl
  have hb0 : Below w.heap.size w W0 := by rw [← hW0]; exact (Below.refl _ _).alloc (Nat.le_refl _) _
  have HT := Lib.hid (hT.below hb0)
  have HX0 := Lib.hid hx0
  have HW0 := Lib.hid hW0
  have HB0 := Lib.hid hb0
  clear hs hT hd hB hx0 hW0 hb0
  go_enter Tryz.func94, Tryz.ntmps94
  go_wp2_with fail
  rw [HW0.out]
  go_loopw [3, 4] (fun v i wr => ∃ j : Nat, j ≤ m ∧ i = .int .i64 j ∧ Own .i64 3 W0 wr v j (fun i => (Tr.kid t.kids i).num)) (fun _ i _ => m - (intOf i).toNat)
  case atStart => exact ⟨0, Nat.zero_le _, rfl, World.ownsRow_nil _ _ _ _, Below.refl _ _⟩
  case round =>
    obtain ⟨j, hj, rfl, hown⟩ := hrel
    have hX := (hown.below.block _ (block_lt HX0.out)).trans HX0.out
    have x0 : wr.cell? ⟨w.heap.size, 0, none⟩ = some (.int .i64 5) := block_cell hX 0
    have x1 : wr.cell? ⟨w.heap.size, 1, none⟩ = some (.int .i64 n) := block_cell hX 1
    have x2 : wr.cell? ⟨w.heap.size, 2, none⟩ = some (.slice a m cap) := block_cell hX 2
    clear hX
    by_cases hlt : j < m
    · obtain ⟨b, off, rfl, hbl, c0, d0⟩ := (HT.out.below hown.below).knum j hlt
      obtain ⟨kk, hkk⟩ : ∃ kk, (Tr.kid t.kids j).num = kk := ⟨_, rfl⟩
      rw [hkk] at c0 d0
      have HKK := Lib.hid hkk
      clear hkk
      have g1 : (0 : Int) ≤ (j : Int) := by omega
      have g2 : (j : Int) < (m : Int) := by omega
      go_wp2_with (at_builtin; refine wpList_append_own _ rfl _ _ 44 rfl W0.heap.size 3 i0 (.int .i64 0) 1 8 Tryz.underlying44 hi hz0 hz1 hz2 rfl (by decide) _ _ _ rfl (hown.own.alloc _) ⟨wr.heap.size, 0, none⟩ 1 1 [.int .i64 kk] rfl rfl (cell_one_new _ _ _) (one_cell _ _) (by unfold maxLen; omega) (by omega) (size_alloc_le hown.below _) ?_)
      intro v' w2 hown2 hgrow _
      have HPU := Lib.hid (hown.push kk HKK.out.symm hown2 hgrow)
      clear hown hown2 hgrow x0 x1 x2 c0
      go_wp2_with fail
      go_roundw
      case rel => exact ⟨j + 1, by omega, by go_num, HPU.out⟩
      case measure => simp [intOf]; omega
    · have hjm : j = m := by omega
      subst hjm
      obtain ⟨a3, c3, rfl, hca, hg⟩ := own_slice2 hown.own
      have hbe : Below w.heap.size w wr := chain HB0.out hown.below
      have HBE := Lib.hid hbe
      clear hbe hlt
      have HG := HN
      have HQ : Hid (nodeB 5 n j (Tr.kid t.kids 0).num (Tr.kid t.kids 1).num = (sidesB n j (Tr.kid t.kids 0).num (Tr.kid t.kids 1).num && decide (gcdI (Tr.kid t.kids 0).num (Tr.kid t.kids 1).num = 1))) := by unfold Hid nodeB; simp
      rw [HQ.out] at HG
      clear HQ
      by_cases hm : j = 2
      · cases B with
        | false =>
          have HF : Hid (sidesB n j (Tr.kid t.kids 0).num (Tr.kid t.kids 1).num = false) := by unfold Hid sidesB; rw [HB.out, Bool.and_false]
          rw [HF.out] at HG
          subst hm
          clear hown hg
          go_wp2_with fail
          go_quiet ((first | (go_at_call 18; exact Calls.quiet_of_same (sameW (HS.out _)))))
          go_wp2_with fail
          go_ret
          exact ⟨ret_bool (by rw [HG.out] <;> simp), below_drewN HBE.out _⟩
        | true =>
          have hsz := hasSz_bd HB.out
          have hd0 := HD.out 0 (by omega)
          have hd1 := HD.out 1 (by omega)
          obtain ⟨g, rfl⟩ := hg (by omega)
          have c0 := own_int_cell hown 0 (by omega)
          have c1 := own_int_cell hown 1 (by omega)
          have HF : Hid (sidesB n j (Tr.kid t.kids 0).num (Tr.kid t.kids 1).num = decide (2 ≤ (Tr.kid t.kids 0).num ∧ 2 ≤ (Tr.kid t.kids 1).num ∧ (Tr.kid t.kids 0).num ≤ n ∧ (Tr.kid t.kids 1).num ≤ n ∧ (Tr.kid t.kids 0).num * (Tr.kid t.kids 1).num = n)) := by
            unfold Hid sidesB
            rw [HB.out, Bool.and_true, hm]
            simp
          rw [HF.out] at HG
          clear HF hown hg HD HT
          obtain ⟨k0, hk0⟩ : ∃ x, (Tr.kid t.kids 0).num = x := ⟨_, rfl⟩
          obtain ⟨k1, hk1⟩ : ∃ x, (Tr.kid t.kids 1).num = x := ⟨_, rfl⟩
          try simp only [] at c0 c1
          rw [hk0] at c0 hd0 HG
          rw [hk1] at c1 hd1 HG
          clear hk0 hk1
          subst hm
          by_cases h0 : 2 ≤ k0
          · have d0 : decide (k0 < 2) = false := by simp; omega
            by_cases h1 : 2 ≤ k1
            · have d1 : decide (k1 < 2) = false := by simp; omega
              have hdv := sides_div hsz.1 h0 h1
              obtain ⟨R, hR⟩ : ∃ R, n % k0 = R := ⟨_, rfl⟩
              have r0 := Int.emod_nonneg n (show k0 ≠ 0 by omega)
              have r1 := Int.emod_lt_of_pos n (show 0 < k0 by omega)
              have q0 : 0 ≤ n / k0 := Int.ediv_nonneg (by omega) (by omega)
              have q1 : n / k0 ≤ n := Int.ediv_le_self _ (by omega)
              obtain ⟨Q, hQ⟩ : ∃ Q, n / k0 = Q := ⟨_, rfl⟩
              have e1 : n.tmod k0 = R := by rw [Int.tmod_eq_emod_of_nonneg (by omega), hR]
              have e3 : n.tdiv k0 = Q := by rw [Int.tdiv_eq_ediv_of_nonneg (by omega), hQ]
              rw [hR] at hdv r0 r1
              rw [hQ] at hdv q0 q1
              have wq : IntKind.i64.wrap Q = Q := IntWalk.i64_in _ (by omega)
              have HDV := Lib.hid hdv
              have z1 : (k0 == 0) = false := bno (by omega)
              have z2 : ¬ k0 = 0 := by omega
              have HE2 := Lib.hid hR
              have HE4 := Lib.hid hQ
              clear hdv hR hQ
              by_cases hr : R = 0
              · have b1 : (R != 0) = false := bfalse hr
                have HRR := Lib.hid hr
                clear hr
                by_cases hq : Q = k1
                · have b2 : (Q != k1) = false := bfalse hq
                  have HQQ := Lib.hid hq
                  clear hq
                  have e2 : n % k0 = R := HE2.out
                  have e4 : n / k0 = Q := HE4.out
                  have HYES : Hid (decide (2 ≤ k0 ∧ 2 ≤ k1 ∧ k0 ≤ n ∧ k1 ≤ n ∧ k0 * k1 = n) = true) := by
                    have := HDV.out.1 ⟨HRR.out, HQQ.out⟩
                    unfold Hid; rw [decide_eq_true_eq]; exact ⟨h0, h1, this⟩
                  rw [HYES.out] at HG
                  have hkn : k0 ≤ n ∧ k1 ≤ n := by
                    have := HDV.out.1 ⟨HRR.out, HQQ.out⟩
                    exact ⟨this.1, this.2.1⟩
                  have HGC : Hid (∀ W, Calls Tryz.prog 119 #[.int .i64 k0, .int .i64 k1] W fun e w' => e = .returned (.int .i64 (gcdI k0 k1)) ∧ W = w') := fun W => by
                    obtain ⟨x, rfl⟩ := Int.eq_ofNat_of_zero_le (show 0 ≤ k0 by omega)
                    obtain ⟨y, rfl⟩ := Int.eq_ofNat_of_zero_le (show 0 ≤ k1 by omega)
                    rw [show gcdI (x : Int) (y : Int) = ((Nat.gcd x y : Nat) : Int) by unfold gcdI; rw [if_neg (by omega), Int.toNat_natCast, Int.toNat_natCast]]
                    exact refGcd (x + y) x y W (Nat.le_refl _) (by omega) (by omega)
                  obtain ⟨G, hG⟩ : ∃ G, gcdI k0 k1 = G := ⟨_, rfl⟩
                  rw [hG] at HGC HG
                  clear hG
                  rw [Bool.true_and] at HG
                  by_cases hgg : G = 1
                  · have b3 : (G == 1) = true := btrue hgg
                    have HGV := Lib.hid hgg
                    clear hgg
                    go_wp2_with fail
                    go_quiet ((first | (go_at_call 18; exact Calls.quiet_of_same (sameW (HS.out _)))))
                    clear e2 e4
                    go_wp2_with fail
                    go_quiet ((go_at_call 119; exact quiet_same2 (sameW (HGC.out _))))
                    go_wp2_with fail
                    go_ret
                    exact ⟨ret_bool (by rw [HG.out]; simp [HGV.out]), below_drewN (below_drewN HBE.out _) _⟩
                  · have b3 : (G == 1) = false := bno hgg
                    have HGV := Lib.hid hgg
                    clear hgg
                    go_wp2_with fail
                    go_quiet ((first | (go_at_call 18; exact Calls.quiet_of_same (sameW (HS.out _)))))
                    clear e2 e4
                    go_wp2_with fail
                    go_quiet ((go_at_call 119; exact quiet_same2 (sameW (HGC.out _))))
                    go_wp2_with fail
                    go_ret
                    exact ⟨ret_bool (by rw [HG.out]; simp [HGV.out]), below_drewN (below_drewN HBE.out _) _⟩
                · have b2 : (Q != k1) = true := bdiff hq
                  have HNO : Hid (decide (2 ≤ k0 ∧ 2 ≤ k1 ∧ k0 ≤ n ∧ k1 ≤ n ∧ k0 * k1 = n) = false) := by
                    unfold Hid; rw [decide_eq_false_iff_not]; intro h; exact hq (HDV.out.2 h.2.2).2
                  rw [HNO.out] at HG
                  have e2 : n % k0 = R := HE2.out
                  have e4 : n / k0 = Q := HE4.out
                  clear hq
                  go_wp2_with fail
                  go_quiet ((first | (go_at_call 18; exact Calls.quiet_of_same (sameW (HS.out _)))))
                  clear e2 e4
                  go_wp2_with fail
                  go_ret
                  exact ⟨ret_bool (by rw [HG.out] <;> simp), below_drewN HBE.out _⟩
              · have b1 : (R != 0) = true := bdiff hr
                have HNO : Hid (decide (2 ≤ k0 ∧ 2 ≤ k1 ∧ k0 ≤ n ∧ k1 ≤ n ∧ k0 * k1 = n) = false) := by
                  unfold Hid; rw [decide_eq_false_iff_not]; intro h; exact hr (HDV.out.2 h.2.2).1
                rw [HNO.out] at HG
                have e2 : n % k0 = R := HE2.out
                have e4 : n / k0 = Q := HE4.out
                clear hr
                go_wp2_with fail
                go_quiet ((first | (go_at_call 18; exact Calls.quiet_of_same (sameW (HS.out _)))))
                clear e2 e4
                go_wp2_with fail
                go_ret
                exact ⟨ret_bool (by rw [HG.out] <;> simp), below_drewN HBE.out _⟩
            · have b1 : decide (k1 < 2) = true := by simp; omega
              have HNO : Hid (decide (2 ≤ k0 ∧ 2 ≤ k1 ∧ k0 ≤ n ∧ k1 ≤ n ∧ k0 * k1 = n) = false) := by
                unfold Hid; rw [decide_eq_false_iff_not]; intro h; omega
              rw [HNO.out] at HG
              go_wp2_with fail
              go_quiet ((first | (go_at_call 18; exact Calls.quiet_of_same (sameW (HS.out _)))))
              go_wp2_with fail
              go_ret
              exact ⟨ret_bool (by rw [HG.out] <;> simp), below_drewN HBE.out _⟩
          · have b1 : decide (k0 < 2) = true := by simp; omega
            have HNO : Hid (decide (2 ≤ k0 ∧ 2 ≤ k1 ∧ k0 ≤ n ∧ k1 ≤ n ∧ k0 * k1 = n) = false) := by
              unfold Hid; rw [decide_eq_false_iff_not]; intro h; omega
            rw [HNO.out] at HG
            go_wp2_with fail
            go_quiet ((first | (go_at_call 18; exact Calls.quiet_of_same (sameW (HS.out _)))))
            go_wp2_with fail
            go_ret
            exact ⟨ret_bool (by rw [HG.out] <;> simp), below_drewN HBE.out _⟩
      · skip
        have HF : Hid (sidesB n j (Tr.kid t.kids 0).num (Tr.kid t.kids 1).num = false) := by unfold Hid sidesB; rw [decide_eq_false (by intro h; exact hm h.1), Bool.false_and]
        rw [HF.out] at HG
        have hm2 : ((j : Int) == 2) = false := bno (by omega)
        have hn2 : ((j : Int) != 2) = true := bdiff (by omega)
        clear hown hg
        go_wp2_with fail
        go_quiet (fail)
        go_wp2_with fail
        go_ret
        exact ⟨ret_bool (by rw [HG.out] <;> simp), below_drewN HBE.out _⟩
set_option maxHeartbeats 1600000 in
theorem ref14_Node_6 (t : Tr) (n : Int) (a : Option Addr) (m cap : Nat) (w : World) (F : Nat → Prop) (hs : t.size ≤ 4194304) (hT : IsT w F 6 n a m cap t) :
    Calls Tryz.prog 94 #[.agg #[.int .i64 6, .int .i64 n, .slice a m cap]] w fun e w' => e = .returned (.bool (nodeOk t)) ∧ Below w.heap.size w w' := by
  obtain ⟨i0, hi, hz0, hz1, hz2⟩ := info_parts info_int
  have hn := hT.fn
  have hmm : m ≤ 4194304 := by
    have h1 := Tr.len_le_sizeL t.kids
    rw [Tr.size_kids] at hs
    rw [hT.em]; omega
  have HN : Hid (nodeOk t = nodeB 6 n m (Tr.kid t.kids 0).num (Tr.kid t.kids 1).num) := by unfold Hid nodeOk; rw [hT.ek, hT.en, hT.em]
  have hd : ∀ i, i < m → -9223372036854775808 ≤ (Tr.kid t.kids i).num ∧ (Tr.kid t.kids i).num < 9223372036854775808 := fun i h => by
    obtain ⟨_, _, _, _, _, d⟩ := hT.knum i h
    exact d
  have HD := Lib.hid hd
  obtain ⟨B, hB⟩ : ∃ B, hasSz n = B := ⟨_, rfl⟩
  have HS : Hid (∀ W, Calls Tryz.prog 18 #[.int .i64 n] W fun e w' => e = .returned (.bool B) ∧ W = w') := fun W => by
    cases B with
    | true => exact refHas_yes n W hB
    | false => exact refHas_no n W hB hn
  have HB := Lib.hid hB
  obtain ⟨W0, hW0⟩ : ∃ W0, w.alloc (.cells #[.int .i64 6, .int .i64 n, .slice a m cap] 48) = W0 := ⟨_, rfl⟩
  have hx0 : W0.heap[w.heap.size]? = some (.cells #[.int .i64 6, .int .i64 n, .slice a m cap] 48 (0, 0)) := by rw [← hW0]; exact block_new rfl
  have hb0 : Below w.heap.size w W0 := by rw [← hW0]; exact (Below.refl _ _).alloc (Nat.le_refl _) _
  have HT := Lib.hid (hT.below hb0)
  have HX0 := Lib.hid hx0
  have HW0 := Lib.hid hW0
  have HB0 := Lib.hid hb0
  clear hs hT hd hB hx0 hW0 hb0
  go_enter Tryz.func94, Tryz.ntmps94
  go_wp2_with fail
  rw [HW0.out]
  go_loopw [3, 4] (fun v i wr => ∃ j : Nat, j ≤ m ∧ i = .int .i64 j ∧ Own .i64 3 W0 wr v j (fun i => (Tr.kid t.kids i).num)) (fun _ i _ => m - (intOf i).toNat)
  case atStart => exact ⟨0, Nat.zero_le _, rfl, World.ownsRow_nil _ _ _ _, Below.refl _ _⟩
  case round =>
    obtain ⟨j, hj, rfl, hown⟩ := hrel
    have hX := (hown.below.block _ (block_lt HX0.out)).trans HX0.out
    have x0 : wr.cell? ⟨w.heap.size, 0, none⟩ = some (.int .i64 6) := block_cell hX 0
    have x1 : wr.cell? ⟨w.heap.size, 1, none⟩ = some (.int .i64 n) := block_cell hX 1
    have x2 : wr.cell? ⟨w.heap.size, 2, none⟩ = some (.slice a m cap) := block_cell hX 2
    clear hX
    by_cases hlt : j < m
    · obtain ⟨b, off, rfl, hbl, c0, d0⟩ := (HT.out.below hown.below).knum j hlt
      obtain ⟨kk, hkk⟩ : ∃ kk, (Tr.kid t.kids j).num = kk := ⟨_, rfl⟩
      rw [hkk] at c0 d0
      have HKK := Lib.hid hkk
      clear hkk
      have g1 : (0 : Int) ≤ (j : Int) := by omega
      have g2 : (j : Int) < (m : Int) := by omega
      go_wp2_with (at_builtin; refine wpList_append_own _ rfl _ _ 44 rfl W0.heap.size 3 i0 (.int .i64 0) 1 8 Tryz.underlying44 hi hz0 hz1 hz2 rfl (by decide) _ _ _ rfl (hown.own.alloc _) ⟨wr.heap.size, 0, none⟩ 1 1 [.int .i64 kk] rfl rfl (cell_one_new _ _ _) (one_cell _ _) (by unfold maxLen; omega) (by omega) (size_alloc_le hown.below _) ?_)
      intro v' w2 hown2 hgrow _
      have HPU := Lib.hid (hown.push kk HKK.out.symm hown2 hgrow)
      clear hown hown2 hgrow x0 x1 x2 c0
      go_wp2_with fail
      go_roundw
      case rel => exact ⟨j + 1, by omega, by go_num, HPU.out⟩
      case measure => simp [intOf]; omega
    · have hjm : j = m := by omega
      subst hjm
      obtain ⟨a3, c3, rfl, hca, hg⟩ := own_slice2 hown.own
      have hbe : Below w.heap.size w wr := chain HB0.out hown.below
      have HBE := Lib.hid hbe
      clear hbe hlt
      have HG := HN
      by_cases hm : j = 1
      · have hd0 := HD.out 0 (by omega)
        obtain ⟨g, rfl⟩ := hg (by omega)
        have c0 := own_int_cell hown 0 (by omega)
        clear hown hg HD HT
        obtain ⟨k0, hk0⟩ : ∃ x, (Tr.kid t.kids 0).num = x := ⟨_, rfl⟩
        obtain ⟨k1, hk1⟩ : ∃ x, (Tr.kid t.kids 1).num = x := ⟨_, rfl⟩
        try simp only [] at c0
        rw [hk0] at c0 hd0 HG
        rw [hk1] at HG
        clear hk0 hk1
        subst hm
        by_cases hlo : 3 ≤ n
        · cases B with
          
          | false =>
            have HF : Hid (nodeB 6 n 1 k0 k1 = false) := by unfold Hid nodeB; rw [HB.out]; simp
            rw [HF.out] at HG
            go_wp2_with fail
            go_quiet ((go_at_call 18; exact Calls.quiet_of_same (sameW (HS.out _))))
            go_wp2_with fail
            go_ret
            exact ⟨ret_bool (by first | (rw [HG.out]; done) | (rw [HG.out]; simp)), below_drewN HBE.out _⟩
          | true =>
            have hsz := hasSz_bd HB.out
            obtain ⟨N, rfl⟩ := Int.eq_ofNat_of_zero_le (show 0 ≤ n by omega)
            obtain ⟨P, hP⟩ : ∃ P, isPr (N : Int) = P := ⟨_, rfl⟩
            have HP : Hid (∀ W, Calls Tryz.prog 69 #[.int .i64 (N : Int)] W fun e w' => e = .returned (.bool P) ∧ W = w') := fun W => by rw [← hP]; exact ref03_Prime N W (by omega) (by omega)
            have HF : Hid (nodeB 6 (N : Int) 1 k0 k1 = (decide (3 ≤ (N : Int) ∧ k0 = (N : Int) - 1) && P)) := by unfold Hid nodeB; rw [HB.out, hP]; simp
            have wn : IntKind.i64.wrap ((N : Int) - 1) = (N : Int) - 1 := IntWalk.i64_in _ (by omega)
            have HWN := Lib.hid wn
            rw [HF.out] at HG
            clear HF hP wn
            cases P with
            | false =>
              have wn := HWN.out
              go_wp2_with fail
              go_quiet ((first | (go_at_call 18; exact Calls.quiet_of_same (sameW (HS.out _))) | (go_at_call 69; exact Calls.quiet_of_same (sameW (HP.out _)))))
              clear wn
              go_wp2_with fail
              go_ret
              exact ⟨ret_bool (by first | (rw [HG.out]; done) | (rw [HG.out]; simp)), below_drewN HBE.out _⟩
            | true =>
              by_cases hk : k0 = (N : Int) - 1
              · have b5 : (k0 == (N : Int) - 1) = true := btrue hk
                have HK := Lib.hid hk
                have wn := HWN.out
                clear hk
                go_wp2_with fail
                go_quiet ((first | (go_at_call 18; exact Calls.quiet_of_same (sameW (HS.out _))) | (go_at_call 69; exact Calls.quiet_of_same (sameW (HP.out _)))))
                clear wn
                go_wp2_with fail
                go_ret
                exact ⟨ret_bool (by first | (rw [HG.out]; done) | (rw [HG.out]; have := HK.out; simp; omega)), below_drewN HBE.out _⟩
              · have b5 : (k0 == (N : Int) - 1) = false := bno hk
                have HK := Lib.hid hk
                have wn := HWN.out
                clear hk
                go_wp2_with fail
                go_quiet ((first | (go_at_call 18; exact Calls.quiet_of_same (sameW (HS.out _))) | (go_at_call 69; exact Calls.quiet_of_same (sameW (HP.out _)))))
                clear wn
                go_wp2_with fail
                go_ret
                exact ⟨ret_bool (by first | (rw [HG.out]; done) | (rw [HG.out]; have := HK.out; simp; intros; omega)), below_drewN HBE.out _⟩
        · have HF : Hid (nodeB 6 n 1 k0 k1 = false) := by unfold Hid nodeB; simp; intros; omega
          have hlo2 : decide (n ≥ 3) = false := by simp; omega
          rw [HF.out] at HG
          go_wp2_with fail
          go_quiet (fail)
          go_wp2_with fail
          go_ret
          exact ⟨ret_bool (by first | (rw [HG.out]; done) | (rw [HG.out]; simp)), below_drewN HBE.out _⟩
      · skip
        have HF : Hid (nodeB 6 n j (Tr.kid t.kids 0).num (Tr.kid t.kids 1).num = false) := by unfold Hid nodeB; simp [hm]
        rw [HF.out] at HG
        have hm1 : ((j : Int) == 1) = false := bno (by omega)
        have hn1 : ((j : Int) != 1) = true := bdiff (by omega)
        clear hown hg
        go_wp2_with fail
        go_quiet (fail)
        go_wp2_with fail
        go_ret
        exact ⟨ret_bool (by first | (rw [HG.out]; done) | (rw [HG.out]; simp)), below_drewN HBE.out _⟩
set_option maxHeartbeats 1600000 in
theorem ref14_Node_7 (t : Tr) (n : Int) (a : Option Addr) (m cap : Nat) (w : World) (F : Nat → Prop) (hs : t.size ≤ 4194304) (hT : IsT w F 7 n a m cap t) :
    Calls Tryz.prog 94 #[.agg #[.int .i64 7, .int .i64 n, .slice a m cap]] w fun e w' => e = .returned (.bool (nodeOk t)) ∧ Below w.heap.size w w' := by
  obtain ⟨i0, hi, hz0, hz1, hz2⟩ := info_parts info_int
  have hn := hT.fn
  have hmm : m ≤ 4194304 := by
    have h1 := Tr.len_le_sizeL t.kids
    rw [Tr.size_kids] at hs
    rw [hT.em]; omega
  have HN : Hid (nodeOk t = nodeB 7 n m (Tr.kid t.kids 0).num (Tr.kid t.kids 1).num) := by unfold Hid nodeOk; rw [hT.ek, hT.en, hT.em]
  have hd : ∀ i, i < m → -9223372036854775808 ≤ (Tr.kid t.kids i).num ∧ (Tr.kid t.kids i).num < 9223372036854775808 := fun i h => by
    obtain ⟨_, _, _, _, _, d⟩ := hT.knum i h
    exact d
  have HD := Lib.hid hd
  obtain ⟨B, hB⟩ : ∃ B, hasSz n = B := ⟨_, rfl⟩
  have HS : Hid (∀ W, Calls Tryz.prog 18 #[.int .i64 n] W fun e w' => e = .returned (.bool B) ∧ W = w') := fun W => by
    cases B with
    | true => exact refHas_yes n W hB
    | false => exact refHas_no n W hB hn
  have HB := Lib.hid hB
  obtain ⟨W0, hW0⟩ : ∃ W0, w.alloc (.cells #[.int .i64 7, .int .i64 n, .slice a m cap] 48) = W0 := ⟨_, rfl⟩
  have hx0 : W0.heap[w.heap.size]? = some (.cells #[.int .i64 7, .int .i64 n, .slice a m cap] 48 (0, 0)) := by rw [← hW0]; exact block_new rfl
  have hb0 : Below w.heap.size w W0 := by rw [← hW0]; exact (Below.refl _ _).alloc (Nat.le_refl _) _
  have HT := Lib.hid (hT.below hb0)
  have HX0 := Lib.hid hx0
  have HW0 := Lib.hid hW0
  have HB0 := Lib.hid hb0
  clear hs hT hd hB hx0 hW0 hb0
  go_enter Tryz.func94, Tryz.ntmps94
  go_wp2_with fail
  rw [HW0.out]
  go_loopw [3, 4] (fun v i wr => ∃ j : Nat, j ≤ m ∧ i = .int .i64 j ∧ Own .i64 3 W0 wr v j (fun i => (Tr.kid t.kids i).num)) (fun _ i _ => m - (intOf i).toNat)
  case atStart => exact ⟨0, Nat.zero_le _, rfl, World.ownsRow_nil _ _ _ _, Below.refl _ _⟩
  case round =>
    obtain ⟨j, hj, rfl, hown⟩ := hrel
    have hX := (hown.below.block _ (block_lt HX0.out)).trans HX0.out
    have x0 : wr.cell? ⟨w.heap.size, 0, none⟩ = some (.int .i64 7) := block_cell hX 0
    have x1 : wr.cell? ⟨w.heap.size, 1, none⟩ = some (.int .i64 n) := block_cell hX 1
    have x2 : wr.cell? ⟨w.heap.size, 2, none⟩ = some (.slice a m cap) := block_cell hX 2
    clear hX
    by_cases hlt : j < m
    · obtain ⟨b, off, rfl, hbl, c0, d0⟩ := (HT.out.below hown.below).knum j hlt
      obtain ⟨kk, hkk⟩ : ∃ kk, (Tr.kid t.kids j).num = kk := ⟨_, rfl⟩
      rw [hkk] at c0 d0
      have HKK := Lib.hid hkk
      clear hkk
      have g1 : (0 : Int) ≤ (j : Int) := by omega
      have g2 : (j : Int) < (m : Int) := by omega
      go_wp2_with (at_builtin; refine wpList_append_own _ rfl _ _ 44 rfl W0.heap.size 3 i0 (.int .i64 0) 1 8 Tryz.underlying44 hi hz0 hz1 hz2 rfl (by decide) _ _ _ rfl (hown.own.alloc _) ⟨wr.heap.size, 0, none⟩ 1 1 [.int .i64 kk] rfl rfl (cell_one_new _ _ _) (one_cell _ _) (by unfold maxLen; omega) (by omega) (size_alloc_le hown.below _) ?_)
      intro v' w2 hown2 hgrow _
      have HPU := Lib.hid (hown.push kk HKK.out.symm hown2 hgrow)
      clear hown hown2 hgrow x0 x1 x2 c0
      go_wp2_with fail
      go_roundw
      case rel => exact ⟨j + 1, by omega, by go_num, HPU.out⟩
      case measure => simp [intOf]; omega
    · have hjm : j = m := by omega
      subst hjm
      obtain ⟨a3, c3, rfl, hca, hg⟩ := own_slice2 hown.own
      have hbe : Below w.heap.size w wr := chain HB0.out hown.below
      have HBE := Lib.hid hbe
      clear hbe hlt
      have HG := HN
      by_cases hm : j = 1
      · have hd0 := HD.out 0 (by omega)
        obtain ⟨g, rfl⟩ := hg (by omega)
        have c0 := own_int_cell hown 0 (by omega)
        clear hown hg HD HT
        obtain ⟨k0, hk0⟩ : ∃ x, (Tr.kid t.kids 0).num = x := ⟨_, rfl⟩
        obtain ⟨k1, hk1⟩ : ∃ x, (Tr.kid t.kids 1).num = x := ⟨_, rfl⟩
        try simp only [] at c0
        rw [hk0] at c0 hd0 HG
        rw [hk1] at HG
        clear hk0 hk1
        subst hm
        by_cases hlo : 2 ≤ n
        · cases B with
          
          | false =>
            have HF : Hid (nodeB 7 n 1 k0 k1 = false) := by unfold Hid nodeB; rw [HB.out]; simp
            rw [HF.out] at HG
            go_wp2_with fail
            go_quiet ((go_at_call 18; exact Calls.quiet_of_same (sameW (HS.out _))))
            go_wp2_with fail
            go_ret
            exact ⟨ret_bool (by first | (rw [HG.out]; done) | (rw [HG.out]; simp)), below_drewN HBE.out _⟩
          | true =>
            have hsz := hasSz_bd HB.out
            obtain ⟨P, hP⟩ : ∃ P, hasP2 k0 = P := ⟨_, rfl⟩
            have HP : Hid (∀ W, Calls Tryz.prog 118 #[.int .i64 k0] W fun e w' => e = .returned (.bool P) ∧ W = w') := fun W => by rw [← hP]; exact ref14_power k0 W hd0
            have HF : Hid (nodeB 7 n 1 k0 k1 = (decide (2 ≤ n ∧ 2 * n - 1 ≤ k0) && P)) := by unfold Hid nodeB; rw [HB.out, hP]; simp
            have wn1 : IntKind.i64.wrap (2 * n) = 2 * n := IntWalk.i64_in _ (by omega)
            have wn2 : IntKind.i64.wrap (2 * n - 1) = 2 * n - 1 := IntWalk.i64_in _ (by omega)
            have HWN1 := Lib.hid wn1
            have HWN2 := Lib.hid wn2
            rw [HF.out] at HG
            clear HF hP wn1 wn2
            cases P with
            | false =>
              have wn1 := HWN1.out
              have wn2 := HWN2.out
              go_wp2_with fail
              go_quiet ((first | (go_at_call 18; exact Calls.quiet_of_same (sameW (HS.out _))) | (go_at_call 118; exact Calls.quiet_of_same (sameW (HP.out _)))))
              clear wn1 wn2
              go_wp2_with fail
              go_ret
              exact ⟨ret_bool (by first | (rw [HG.out]; done) | (rw [HG.out]; simp)), below_drewN HBE.out _⟩
            | true =>
              by_cases hk : 2 * n - 1 ≤ k0
              · have b5 : decide (k0 ≥ 2 * n - 1) = true := by simp; omega
                have wn1 := HWN1.out
                have wn2 := HWN2.out
                go_wp2_with fail
                go_quiet ((first | (go_at_call 18; exact Calls.quiet_of_same (sameW (HS.out _))) | (go_at_call 118; exact Calls.quiet_of_same (sameW (HP.out _)))))
                clear wn1 wn2
                go_wp2_with fail
                go_ret
                exact ⟨ret_bool (by first | (rw [HG.out]; done) | (rw [HG.out]; simp; omega)), below_drewN HBE.out _⟩
              · have b5 : decide (k0 ≥ 2 * n - 1) = false := by simp; omega
                have wn1 := HWN1.out
                have wn2 := HWN2.out
                go_wp2_with fail
                go_quiet ((first | (go_at_call 18; exact Calls.quiet_of_same (sameW (HS.out _))) | (go_at_call 118; exact Calls.quiet_of_same (sameW (HP.out _)))))
                clear wn1 wn2
                go_wp2_with fail
                go_ret
                exact ⟨ret_bool (by first | (rw [HG.out]; done) | (rw [HG.out]; simp; intros; omega)), below_drewN HBE.out _⟩
        · have HF : Hid (nodeB 7 n 1 k0 k1 = false) := by unfold Hid nodeB; simp; intros; omega
          have hlo2 : decide (n ≥ 2) = false := by simp; omega
          rw [HF.out] at HG
          go_wp2_with fail
          go_quiet (fail)
          go_wp2_with fail
          go_ret
          exact ⟨ret_bool (by first | (rw [HG.out]; done) | (rw [HG.out]; simp)), below_drewN HBE.out _⟩
      · skip
        have HF : Hid (nodeB 7 n j (Tr.kid t.kids 0).num (Tr.kid t.kids 1).num = false) := by unfold Hid nodeB; simp [hm]
        rw [HF.out] at HG
        have hm1 : ((j : Int) == 1) = false := bno (by omega)
        have hn1 : ((j : Int) != 1) = true := bdiff (by omega)
        clear hown hg
        go_wp2_with fail
        go_quiet (fail)
        go_wp2_with fail
        go_ret
        exact ⟨ret_bool (by first | (rw [HG.out]; done) | (rw [HG.out]; simp)), below_drewN HBE.out _⟩
set_option maxHeartbeats 1600000 in
theorem ref14_Node_0 (t : Tr) (k : Int) (n : Int) (a : Option Addr) (m cap : Nat) (w : World) (F : Nat → Prop) (hs : t.size ≤ 4194304) (hT : IsT w F k n a m cap t) (hk : k < 1 ∨ 7 < k) :
    Calls Tryz.prog 94 #[.agg #[.int .i64 k, .int .i64 n, .slice a m cap]] w fun e w' => e = .returned (.bool (nodeOk t)) ∧ Below w.heap.size w w' := by
  obtain ⟨i0, hi, hz0, hz1, hz2⟩ := info_parts info_int
  have hn := hT.fn
  have hmm : m ≤ 4194304 := by
    have h1 := Tr.len_le_sizeL t.kids
    rw [Tr.size_kids] at hs
    rw [hT.em]; omega
  have HN : Hid (nodeOk t = nodeB k n m (Tr.kid t.kids 0).num (Tr.kid t.kids 1).num) := by unfold Hid nodeOk; rw [hT.ek, hT.en, hT.em]
  have hd : ∀ i, i < m → -9223372036854775808 ≤ (Tr.kid t.kids i).num ∧ (Tr.kid t.kids i).num < 9223372036854775808 := fun i h => by
    obtain ⟨_, _, _, _, _, d⟩ := hT.knum i h
    exact d
  have HD := Lib.hid hd
  obtain ⟨B, hB⟩ : ∃ B, hasSz n = B := ⟨_, rfl⟩
  have HS : Hid (∀ W, Calls Tryz.prog 18 #[.int .i64 n] W fun e w' => e = .returned (.bool B) ∧ W = w') := fun W => by
    cases B with
    | true => exact refHas_yes n W hB
    | false => exact refHas_no n W hB hn
  have HB := Lib.hid hB
  obtain ⟨W0, hW0⟩ : ∃ W0, w.alloc (.cells #[.int .i64 k, .int .i64 n, .slice a m cap] 48) = W0 := ⟨_, rfl⟩
  have hx0 : W0.heap[w.heap.size]? = some (.cells #[.int .i64 k, .int .i64 n, .slice a m cap] 48 (0, 0)) := by rw [← hW0]; exact block_new rfl
  have hb0 : Below w.heap.size w W0 := by rw [← hW0]; exact (Below.refl _ _).alloc (Nat.le_refl _) _
  have HT := Lib.hid (hT.below hb0)
  have HX0 := Lib.hid hx0
  have HW0 := Lib.hid hW0
  have HB0 := Lib.hid hb0
  clear hs hT hd hB hx0 hW0 hb0
  go_enter Tryz.func94, Tryz.ntmps94
  go_wp2_with fail
  rw [HW0.out]
  go_loopw [3, 4] (fun v i wr => ∃ j : Nat, j ≤ m ∧ i = .int .i64 j ∧ Own .i64 3 W0 wr v j (fun i => (Tr.kid t.kids i).num)) (fun _ i _ => m - (intOf i).toNat)
  case atStart => exact ⟨0, Nat.zero_le _, rfl, World.ownsRow_nil _ _ _ _, Below.refl _ _⟩
  case round =>
    obtain ⟨j, hj, rfl, hown⟩ := hrel
    have hX := (hown.below.block _ (block_lt HX0.out)).trans HX0.out
    have x0 : wr.cell? ⟨w.heap.size, 0, none⟩ = some (.int .i64 k) := block_cell hX 0
    have x1 : wr.cell? ⟨w.heap.size, 1, none⟩ = some (.int .i64 n) := block_cell hX 1
    have x2 : wr.cell? ⟨w.heap.size, 2, none⟩ = some (.slice a m cap) := block_cell hX 2
    clear hX
    by_cases hlt : j < m
    · obtain ⟨b, off, rfl, hbl, c0, d0⟩ := (HT.out.below hown.below).knum j hlt
      obtain ⟨kk, hkk⟩ : ∃ kk, (Tr.kid t.kids j).num = kk := ⟨_, rfl⟩
      rw [hkk] at c0 d0
      have HKK := Lib.hid hkk
      clear hkk
      have g1 : (0 : Int) ≤ (j : Int) := by omega
      have g2 : (j : Int) < (m : Int) := by omega
      go_wp2_with (at_builtin; refine wpList_append_own _ rfl _ _ 44 rfl W0.heap.size 3 i0 (.int .i64 0) 1 8 Tryz.underlying44 hi hz0 hz1 hz2 rfl (by decide) _ _ _ rfl (hown.own.alloc _) ⟨wr.heap.size, 0, none⟩ 1 1 [.int .i64 kk] rfl rfl (cell_one_new _ _ _) (one_cell _ _) (by unfold maxLen; omega) (by omega) (size_alloc_le hown.below _) ?_)
      intro v' w2 hown2 hgrow _
      have HPU := Lib.hid (hown.push kk HKK.out.symm hown2 hgrow)
      clear hown hown2 hgrow x0 x1 x2 c0
      go_wp2_with fail
      go_roundw
      case rel => exact ⟨j + 1, by omega, by go_num, HPU.out⟩
      case measure => simp [intOf]; omega
    · have hjm : j = m := by omega
      subst hjm
      obtain ⟨a3, c3, rfl, hca, hg⟩ := own_slice2 hown.own
      have hbe : Below w.heap.size w wr := chain HB0.out hown.below
      have HBE := Lib.hid hbe
      clear hbe hlt
      have HG := HN
      have HF : Hid (nodeB k n j (Tr.kid t.kids 0).num (Tr.kid t.kids 1).num = false) := by unfold Hid nodeB; rw [if_neg (by omega), if_neg (by omega), if_neg (by omega), if_neg (by omega), if_neg (by omega), if_neg (by omega), if_neg (by omega)]
      rw [HF.out] at HG
      have e1 : (k == 1) = false := bno (by omega)
      have e2 : (k == 2) = false := bno (by omega)
      have e3 : (k == 3) = false := bno (by omega)
      have e4 : (k == 4) = false := bno (by omega)
      have e5 : (k == 5) = false := bno (by omega)
      have e6 : (k == 6) = false := bno (by omega)
      have e7 : (k == 7) = false := bno (by omega)
      clear hown hg hk
      go_wp2_with fail
      go_ret
      exact ⟨ret_bool (by rw [HG.out]; skip), HBE.out⟩
theorem ref14_Node (t : Tr) (k n : Int) (a : Option Addr) (m cap : Nat) (w : World) (F : Nat → Prop) (hs : t.size ≤ 4194304) (hT : IsT w F k n a m cap t) :
    Calls Tryz.prog 94 #[.agg #[.int .i64 k, .int .i64 n, .slice a m cap]] w fun e w' => e = .returned (.bool (nodeOk t)) ∧ Below w.heap.size w w' := by
  by_cases h : k < 1 ∨ 7 < k
  · exact ref14_Node_0 t k n a m cap w F hs hT h
  · rcases (show k = 1 ∨ k = 2 ∨ k = 3 ∨ k = 4 ∨ k = 5 ∨ k = 6 ∨ k = 7 by omega) with rfl | rfl | rfl | rfl | rfl | rfl | rfl
    · exact ref14_Node_1 t n a m cap w F hs hT
    · exact ref14_Node_2 t n a m cap w F hs hT
    · exact ref14_Node_3 t n a m cap w F hs hT
    · exact ref14_Node_4 t n a m cap w F hs hT
    · exact ref14_Node_5 t n a m cap w F hs hT
    · exact ref14_Node_6 t n a m cap w F hs hT
    · exact ref14_Node_7 t n a m cap w F hs hT
end Go.Proofs.YtlnlijeamflpiaaGreat

namespace Go.Proofs.YtlnlijeamflpiaaGreat
open Go.RowKit
set_option linter.unusedVariables false
set_option linter.unusedSimpArgs false
set_option maxRecDepth 100000
set_option maxRecDepth 20000
namespace Tr
/-- The first node that is not right is there just where not all nodes are right. -/
theorem wrong_all' (N : Nat) : ∀ t : Tr, t.size ≤ N → (t.wrong.isSome = false ↔ ∀ u ∈ t.nodes, nodeOk u = true) := by
  induction N with
  | zero => intro t h; have := size_pos t; omega
  | succ N ih =>
    intro t h
    rw [size_kids] at h
    have hL : ∀ (ks : List Tr) (i : Nat), sizeL ks ≤ N → ((wrongL i ks).isSome = false ↔ ∀ u ∈ nodesL ks, nodeOk u = true) := by
      intro ks
      induction ks with
      | nil => intro i _; simp [wrongL, nodesL]
      | cons x r ih2 =>
        intro i hs
        simp only [sizeL] at hs
        have hx := ih x (by omega)
        simp only [wrongL, nodesL, List.mem_append]
        cases hw : wrong x with
        | none =>
          rw [hw] at hx
          simp only []
          rw [ih2 (i + 1) (by omega)]
          constructor
          · intro h u hu
            rcases hu with hu | hu
            · exact hx.1 rfl u hu
            · exact h u hu
          · intro h u hu; exact h u (.inr hu)
        | some p =>
          rw [hw] at hx
          simp only [Option.isSome_some, Bool.true_eq_false, false_iff]
          intro h
          have := hx.2 (fun u hu => h u (.inl hu))
          simp at this
    rw [wrong_kids, nodes_kids]
    by_cases hn : nodeOk t = true
    · rw [if_pos hn, hL t.kids 0 (by omega)]
      constructor
      · intro h u hu
        rcases List.mem_cons.1 hu with rfl | hu
        · exact hn
        · exact h u hu
      · intro h u hu; exact h u (List.mem_cons.2 (.inr hu))
    · rw [if_neg hn]
      simp only [Option.isSome_some, Bool.true_eq_false, false_iff]
      intro h; exact hn (h t (by simp))
theorem wrong_all (t : Tr) : t.wrong.isSome = false ↔ ∀ u ∈ t.nodes, nodeOk u = true := wrong_all' _ t (Nat.le_refl _)
theorem nodes_le' (N : Nat) : ∀ t : Tr, t.size ≤ N → ∀ u ∈ t.nodes, u.size ≤ t.size := by
  induction N with
  | zero => intro t h; have := size_pos t; omega
  | succ N ih =>
    intro t h u hu
    rw [nodes_kids] at hu
    rcases List.mem_cons.1 hu with rfl | hu
    · exact Nat.le_refl _
    · have hk : ∀ ks : List Tr, sizeL ks ≤ N → u ∈ nodesL ks → u.size ≤ sizeL ks := by
        intro ks
        induction ks with
        | nil => intro _ h; simp [nodesL] at h
        | cons x r ih2 =>
          intro hs hu
          simp only [nodesL, List.mem_append] at hu
          simp only [sizeL] at hs ⊢
          rcases hu with hu | hu
          · have := ih x (by omega) u hu; omega
          · have := ih2 (by omega) hu; omega
      rw [size_kids t] at h ⊢
      have := hk t.kids (by omega) hu
      omega
theorem nodes_le (t : Tr) : ∀ u ∈ t.nodes, u.size ≤ t.size := nodes_le' _ t (Nat.le_refl _)
end Tr
set_option maxHeartbeats 4000000 in
theorem ref14_Check (t : Tr) (k n : Int) (a : Option Addr) (m cap : Nat) (w : World) (B : Nat) (hB : B ≤ w.heap.size) (hs : t.size ≤ 4194304) (hT : IsT w (Lt B) k n a m cap t) :
    Calls Tryz.prog 60 #[.agg #[.int .i64 k, .int .i64 n, .slice a m cap]] w fun e w' => e = .returned (.int .i64 (chk t)) ∧ Below w.heap.size w w' := by
  obtain ⟨q, hq⟩ : ∃ q, t.size = q := ⟨_, rfl⟩
  have hnl : t.nodes.length = q := by rw [Tr.nodes_len _ t (Nat.le_refl _), hq]
  have CL : Hid (∀ W, Below w.heap.size w W → Calls Tryz.prog 51 #[.agg #[.int .i64 k, .int .i64 n, .slice a m cap]] W fun e w' => ∃ g cp xs, e = .returned (.slice (some ⟨g, 0, none⟩) q cp) ∧ w'.ownsRow W.heap.size 48 3 (.slice (some ⟨g, 0, none⟩) q cp) q xs ∧ CellsT w' (Lt B) xs t.nodes ∧ Below W.heap.size W w') := fun W hb => by
    have := ref_List 4194304 B (by omega) t k n a m cap W (by omega) (hT.below hb) (Nat.le_trans hB hb.size)
    unfold GivesT at this
    rw [hnl] at this
    exact this
  have CD : Hid (∀ W, Below w.heap.size w W → Calls Tryz.prog 93 #[.agg #[.int .i64 k, .int .i64 n, .slice a m cap]] W fun e w' => e = .returned (.int .i64 (t.depth : Nat)) ∧ Below W.heap.size W w') := fun W hb => ref13_Depth 4194304 (by omega) t k n a m cap W _ (by omega) (hT.below hb)
  have HC : Hid (chk t = if decide (60 < q) || decide (12 < t.depth) then 12 else if t.wrong.isSome then 8 else 0) := by unfold Hid chk bigB; rw [hq]
  have hsz : ∀ u ∈ t.nodes, u.size ≤ 4194304 := fun u hu => Nat.le_trans (Tr.nodes_le t u hu) hs
  have HSZ := Lib.hid hsz
  obtain ⟨d, hd⟩ : ∃ d, t.depth = d := ⟨_, rfl⟩
  rw [hd] at CD HC
  rw [HC.out]
  have HNL := Lib.hid hnl
  have HWA := Lib.hid (Tr.wrong_all t)
  obtain ⟨R, hR⟩ : ∃ R, t.wrong.isSome = R := ⟨_, rfl⟩
  rw [hR] at HWA ⊢
  obtain ⟨ns, hns⟩ : ∃ ns, t.nodes = ns := ⟨_, rfl⟩
  rw [hns] at CL HNL HWA HSZ
  clear hsz hR hd hnl HC hT hns hs hq
  by_cases h60 : 60 < q
  · have t1 : decide ((q : Int) > 60) = true := by simp; omega
    have t2 : (60 : Int) < (q : Int) := by omega
    rw [if_pos (by simp [h60])]
    go_enter Tryz.func60, Tryz.ntmps60
    go_wp2_with fail
    refine (CL.out _ ((Below.refl _ _).alloc (Nat.le_refl _) _)).mono ?_; rintro e w1 ⟨g, cp, xs, rfl, ho, hct, hb1⟩
    have hb := chainA (Below.refl w.heap.size w) hb1
    clear ho hct hb1
    go_wp2_with fail
    go_ret
    exact ⟨rfl, hb⟩
  · have t1 : decide ((q : Int) > 60) = false := by simp; omega
    have t2 : ¬ (60 : Int) < (q : Int) := by omega
    rw [show decide (60 < q) = false by simp; omega, Bool.false_or]
    by_cases h12 : 12 < d
    · have t3 : decide ((d : Int) > 12) = true := by simp; omega
      have t4 : (12 : Int) < (d : Int) := by omega
      rw [if_pos (by simp [h12])]
      go_enter Tryz.func60, Tryz.ntmps60
      go_wp2_with fail
      refine (CL.out _ ((Below.refl _ _).alloc (Nat.le_refl _) _)).mono ?_; rintro e w1 ⟨g, cp, xs, rfl, ho, hct, hb1⟩
      have hb := chainA (Below.refl w.heap.size w) hb1
      have hx := (hb1.block w.heap.size (by simp)).trans (block_new rfl)
      have x0 : w1.cell? ⟨w.heap.size, 0, none⟩ = some (.int .i64 k) := block_cell hx 0
      have x1 : w1.cell? ⟨w.heap.size, 1, none⟩ = some (.int .i64 n) := block_cell hx 1
      have x2 : w1.cell? ⟨w.heap.size, 2, none⟩ = some (.slice a m cap) := block_cell hx 2
      have HBL := Lib.hid hb
      clear ho hct hb1 hx hb
      go_wp2_with fail
      refine (CD.out _ HBL.out).mono ?_; rintro e w2 ⟨rfl, hb2⟩
      have hb := chain HBL.out hb2
      clear hb2 x0 x1 x2
      go_wp2_with fail
      go_ret
      exact ⟨rfl, hb⟩
    · have t3 : decide ((d : Int) > 12) = false := by simp; omega
      have t4 : ¬ (12 : Int) < (d : Int) := by omega
      rw [if_neg (by simp; omega)]
      obtain ⟨V, hV⟩ : ∃ V : Int, (if R = true then (8 : Int) else 0) = V := ⟨_, rfl⟩
      rw [hV]
      have HVV := Lib.hid hV
      clear hV
      go_enter Tryz.func60, Tryz.ntmps60
      go_wp2_with fail
      refine (CL.out _ ((Below.refl _ _).alloc (Nat.le_refl _) _)).mono ?_; rintro e w1 ⟨g, cp, xs, rfl, ho, hct, hb1⟩
      have hb := chainA (Below.refl w.heap.size w) hb1
      have hx := (hb1.block w.heap.size (by simp)).trans (block_new rfl)
      have x0 : w1.cell? ⟨w.heap.size, 0, none⟩ = some (.int .i64 k) := block_cell hx 0
      have x1 : w1.cell? ⟨w.heap.size, 1, none⟩ = some (.int .i64 n) := block_cell hx 1
      have x2 : w1.cell? ⟨w.heap.size, 2, none⟩ = some (.slice a m cap) := block_cell hx 2
      have HBL := Lib.hid hb
      have OW := Lib.hid ho
      have CT := Lib.hid hct
      clear ho hct hb1 hx hb
      go_wp2_with fail
      refine (CD.out _ HBL.out).mono ?_; rintro e w2 ⟨rfl, hb2⟩
      have HBL := Lib.hid (chain HBL.out hb2)
      have OW := Lib.hid (own_later3 OW.out hb2)
      have CT := Lib.hid (CT.out.later hb2)
      clear hb2 x0 x1 x2
      go_wp2_with fail
      go_loopw [4] (fun i wr => ∃ j : Nat, j ≤ q ∧ i = .int .i64 j ∧ Below w2.heap.size w2 wr ∧ Hid (∀ i, i < j → nodeOk (Tr.kid ns i) = true)) (fun i _ => q - (intOf i).toNat)
      case atStart => exact ⟨0, Nat.zero_le _, rfl, Below.refl _ _, fun i hi => by omega⟩
      case round =>
        obtain ⟨j, hj, rfl, hbel, HA⟩ := hrel
        by_cases hlt : j < q
        · obtain ⟨k2, n2, a2, m2, c2, e0, e1, e2, hT2⟩ := own_cells (own_later3 OW.out hbel) (CT.out.later hbel) HNL.out j hlt
          simp only [Nat.zero_add] at e0 e1 e2
          have hmem : Tr.kid ns j ∈ ns := Tr.kid_mem (by rw [HNL.out]; exact hlt)
          obtain ⟨B2, hB2⟩ : ∃ B2, nodeOk (Tr.kid ns j) = B2 := ⟨_, rfl⟩
          have CN : Hid (∀ W, Below wr.heap.size wr W → Calls Tryz.prog 94 #[.agg #[.int .i64 k2, .int .i64 n2, .slice a2 m2 c2]] W fun e w' => e = .returned (.bool B2) ∧ Below W.heap.size W w') := fun W hb => by
            rw [← hB2]; exact ref14_Node _ k2 n2 a2 m2 c2 W _ (HSZ.out _ hmem) (hT2.below hb)
          have HB2 := Lib.hid hB2
          have HMEM := Lib.hid hmem
          have g1 : (0 : Int) ≤ (j : Int) := by omega
          have g2 : (j : Int) < (q : Int) := by omega
          clear hT2 hmem hB2
          cases B2 with
          | true =>
            go_wp2_with fail
            refine (CN.out _ (Below.refl _ _)).mono ?_; rintro e w3 ⟨rfl, hb3⟩
            have HBB := Lib.hid (chain hbel hb3)
            clear hb3 e0 e1 e2
            go_wp2_with fail
            go_roundw
            case rel =>
              refine ⟨j + 1, by omega, by go_num, HBB.out, fun i hi => ?_⟩
              by_cases hij : i < j
              · exact HA.out i hij
              · obtain rfl : i = j := by omega
                exact HB2.out
            case measure => simp [intOf]; omega
          | false =>
            go_wp2_with fail
            refine (CN.out _ (Below.refl _ _)).mono ?_; rintro e w3 ⟨rfl, hb3⟩
            have HBB := Lib.hid (chain HBL.out (chain hbel hb3))
            clear hb3 e0 e1 e2
            have HRR : Hid (R = true) := by
              unfold Hid
              cases R with
              | true => rfl
              | false => have := HWA.out.1 rfl _ HMEM.out; rw [HB2.out] at this; cases this
            go_wp2_with fail
            go_ret
            exact ⟨ret_int (by rw [← HVV.out, HRR.out]; rfl), HBB.out⟩
        · have hjq : j = q := by omega
          have HRR : Hid (R = false) := by
            unfold Hid
            rw [HWA.out]
            intro u hu
            obtain ⟨i, hi, rfl⟩ := List.getElem_of_mem hu
            have := HA.out i (by have := HNL.out; omega)
            rwa [Tr.kid_get hi] at this
          have HBB := Lib.hid (chain HBL.out hbel)
          clear HA hbel
          go_wp2_with fail
          go_ret
          exact ⟨ret_int (by rw [← HVV.out, HRR.out]; rfl), HBB.out⟩
end Go.Proofs.YtlnlijeamflpiaaGreat

namespace Go.Proofs.YtlnlijeamflpiaaGreat
open Go.RowKit
set_option linter.unusedVariables false
set_option linter.unusedSimpArgs false
set_option maxRecDepth 100000
namespace Tr
theorem mem_nodesL {ks : List Tr} {u : Tr} : u ∈ nodesL ks ↔ ∃ i, i < ks.length ∧ u ∈ (kid ks i).nodes := by
  induction ks with
  | nil => simp [nodesL]
  | cons x r ih =>
    simp only [nodesL, List.mem_append, ih]
    constructor
    · rintro (h | ⟨i, hi, h⟩)
      · exact ⟨0, by simp, h⟩
      · exact ⟨i + 1, by simpa using hi, h⟩
    · rintro ⟨i, hi, h⟩
      cases i with
      | zero => exact .inl h
      | succ i => exact .inr ⟨i, by simpa using hi, h⟩
theorem mem_nodes {t u : Tr} : u ∈ t.nodes ↔ u = t ∨ ∃ i, i < t.kids.length ∧ u ∈ (kid t.kids i).nodes := by
  rw [nodes_kids, List.mem_cons, mem_nodesL]
/-- Is each node right? -/
def allOk (t : Tr) : Prop := ∀ u ∈ t.nodes, nodeOk u = true
theorem allOk_iff (t : Tr) : allOk t ↔ nodeOk t = true ∧ ∀ i, i < t.kids.length → allOk (kid t.kids i) := by
  unfold allOk
  constructor
  · intro h; exact ⟨h t (mem_nodes.2 (.inl rfl)), fun i hi u hu => h u (mem_nodes.2 (.inr ⟨i, hi, hu⟩))⟩
  · rintro ⟨h0, h1⟩ u hu
    rcases mem_nodes.1 hu with rfl | ⟨i, hi, hu⟩
    · exact h0
    · exact h1 i hi u hu
end Tr
theorem chk_zero {t : Tr} : chk t = 0 ↔ (t.size ≤ 60 ∧ t.depth ≤ 12) ∧ t.allOk := by
  have h := Tr.wrong_all t
  unfold chk bigB Tr.allOk
  rw [← h]
  by_cases h1 : 60 < t.size
  · simp [h1]; omega
  · by_cases h2 : 12 < t.depth
    · simp [h1, h2]; omega
    · simp only [h1, h2]
      cases hw : t.wrong.isSome <;> simp <;> omega
end Go.Proofs.YtlnlijeamflpiaaGreat

namespace Go.Proofs.YtlnlijeamflpiaaGreat
open Go.RowKit
set_option linter.unusedVariables false
set_option linter.unusedSimpArgs false
set_option maxRecDepth 100000
/-- Where sums and products end. -/
def sat (x : Int) : Int := if x ≤ 1152921504606846976 then x else 1152921504606846976
theorem sat_le (x : Int) : sat x ≤ 1152921504606846976 := by unfold sat; split <;> omega
theorem sat_ge {x a : Int} (h : a ≤ x) (ha : a ≤ 1152921504606846976) : a ≤ sat x := by unfold sat; split <;> omega
theorem sat_id {x : Int} (h : x ≤ 1152921504606846976) : sat x = x := if_pos h
theorem sat_top {x : Int} (h : 1152921504606846976 ≤ x) : sat x = 1152921504606846976 := by unfold sat; split <;> omega
/-- The logarithm. -/
def lg (n : Int) : Int := (Lib.bitLen n.toNat : Int) - 1
/-- The estimate of a node, from those of the first two children and their sizes. -/
def estB (k n e0 e1 k0 k1 : Int) : Int :=
  if k = 1 then n * n
  else if k = 2 then 2 * n
  else if k = 3 then n * lg n
  else if k = 6 then sat (sat (2 * e0) + 2 * n)
  else if k = 7 then sat (sat (sat (2 * e0) + k0) + 3 * n)
  else if k = 4 then sat (sat (sat (k1 * e0) + sat (k0 * e1)) + n)
  else sat (sat (k1 * e0) + sat (k0 * e1))
namespace Tr
mutual
def est : Tr → Int
  | node k n ks => estB k n ((estL ks).getD 0 0) ((estL ks).getD 1 0) (kid ks 0).num (kid ks 1).num
def estL : List Tr → List Int
  | [] => []
  | t :: ts => est t :: estL ts
end
theorem estL_at (ks : List Tr) : ∀ i, i < ks.length → (estL ks).getD i 0 = (kid ks i).est := by
  induction ks with
  | nil => intro i h; simp at h
  | cons t ts ih =>
    intro i h
    cases i with
    | zero => simp [estL, kid]
    | succ i =>
      have := ih i (by simpa using h)
      simpa [estL, kid] using this
theorem est_kids (t : Tr) : t.est = estB t.kind t.num ((estL t.kids).getD 0 0) ((estL t.kids).getD 1 0) (kid t.kids 0).num (kid t.kids 1).num := by cases t; simp [est, kind, num, kids]
end Tr
theorem lg_pow (k : Nat) (hk : k ≤ 24) : lg ((2 ^ k : Nat) : Int) = k := by
  have h : ∀ j : Fin 25, Lib.bitLen (2 ^ j.val) = j.val + 1 := by decide +kernel
  have := h ⟨k, by omega⟩
  simp only [] at this
  unfold lg
  rw [Int.toNat_natCast, this]
  omega
/-- What a right node is, kind by kind. -/
theorem node_cases {t : Tr} (h : nodeOk t = true) :
    (t.kind = 1 ∧ t.kids.length = 0 ∧ 1 ≤ t.num ∧ t.num ≤ 64) ∨
    (t.kind = 2 ∧ t.kids.length = 0 ∧ 2 ≤ t.num ∧ t.num ≤ 5) ∨
    (t.kind = 3 ∧ t.kids.length = 0 ∧ ∃ j, 1 ≤ j ∧ j ≤ 24 ∧ t.num = ((2 ^ j : Nat) : Int)) ∨
    ((t.kind = 4 ∨ t.kind = 5) ∧ t.kids.length = 2 ∧ 1 ≤ t.num ∧ t.num ≤ 16777216 ∧ 2 ≤ (Tr.kid t.kids 0).num ∧ (Tr.kid t.kids 0).num ≤ t.num ∧ 2 ≤ (Tr.kid t.kids 1).num ∧ (Tr.kid t.kids 1).num ≤ t.num ∧ (Tr.kid t.kids 0).num * (Tr.kid t.kids 1).num = t.num) ∨
    (t.kind = 6 ∧ t.kids.length = 1 ∧ 3 ≤ t.num ∧ t.num ≤ 16777216 ∧ (Tr.kid t.kids 0).num = t.num - 1) ∨
    (t.kind = 7 ∧ t.kids.length = 1 ∧ 2 ≤ t.num ∧ t.num ≤ 16777216 ∧ 2 * t.num - 1 ≤ (Tr.kid t.kids 0).num ∧ (Tr.kid t.kids 0).num ≤ 16777216) := by
  unfold nodeOk nodeB at h
  generalize (Tr.kid t.kids 0).num = k0 at *
  generalize (Tr.kid t.kids 1).num = k1 at *
  by_cases h1 : t.kind = 1
  · rw [if_pos h1] at h
    simp only [Bool.and_eq_true, decide_eq_true_eq] at h
    have := hasSz_bd h.2
    exact .inl ⟨h1, h.1.1, this.1, h.1.2⟩
  rw [if_neg h1] at h
  by_cases h2 : t.kind = 2
  · rw [if_pos h2] at h
    simp only [decide_eq_true_eq] at h
    exact .inr (.inl ⟨h2, h.1, h.2.1, h.2.2⟩)
  rw [if_neg h2] at h
  by_cases h3 : t.kind = 3
  · rw [if_pos h3] at h
    simp only [Bool.and_eq_true, decide_eq_true_eq] at h
    obtain ⟨j, hj, e⟩ := (hasP2_iff _).1 h.2
    refine .inr (.inr (.inl ⟨h3, h.1.1, j, ?_, hj, e⟩))
    rcases Nat.eq_zero_or_pos j with h0 | h0
    · subst h0; have := h.1.2; rw [e] at this; simp at this
    · exact h0
  rw [if_neg h3] at h
  by_cases h4 : t.kind = 4
  · rw [if_pos h4] at h
    obtain ⟨⟨a, b, c, d, e, f⟩, g⟩ := sides_iff.1 h
    have := hasSz_bd g
    exact .inr (.inr (.inr (.inl ⟨.inl h4, a, this.1, this.2, b, d, c, e, f⟩)))
  rw [if_neg h4] at h
  by_cases h5 : t.kind = 5
  · rw [if_pos h5] at h
    simp only [Bool.and_eq_true] at h
    obtain ⟨⟨a, b, c, d, e, f⟩, g⟩ := sides_iff.1 h.1
    have := hasSz_bd g
    exact .inr (.inr (.inr (.inl ⟨.inr h5, a, this.1, this.2, b, d, c, e, f⟩)))
  rw [if_neg h5] at h
  by_cases h6 : t.kind = 6
  · rw [if_pos h6] at h
    simp only [Bool.and_eq_true, decide_eq_true_eq] at h
    have := hasSz_bd h.1.2
    exact .inr (.inr (.inr (.inr (.inl ⟨h6, h.1.1.1, h.1.1.2.1, this.2, h.1.1.2.2⟩))))
  rw [if_neg h6] at h
  by_cases h7 : t.kind = 7
  · rw [if_pos h7] at h
    simp only [Bool.and_eq_true, decide_eq_true_eq] at h
    have h8 := hasSz_bd h.1.2
    obtain ⟨j, hj, e⟩ := (hasP2_iff _).1 h.2
    have h9 : 2 ^ j ≤ 2 ^ 24 := Nat.pow_le_pow_right (by omega) hj
    have e9 : (2 : Nat) ^ 24 = 16777216 := by decide
    exact .inr (.inr (.inr (.inr (.inr ⟨h7, h.1.1.1, h.1.1.2.1, h8.2, h.1.1.2.2, by omega⟩))))
  rw [if_neg h7] at h
  cases h
theorem mul_ge_one {a b : Int} (ha : 1 ≤ a) (hb : 1 ≤ b) : 1 ≤ a * b := by
  have := Int.mul_le_mul ha hb (by omega) (by omega)
  omega
/-- The estimate of a plan: from 1 on, and no more than the end. -/
theorem est_bd' (N : Nat) : ∀ t : Tr, t.size ≤ N → t.allOk → 1 ≤ t.est ∧ t.est ≤ 1152921504606846976 := by
  induction N with
  | zero => intro t h; have := Tr.size_pos t; omega
  | succ N ih =>
    intro t hs hok
    have hn := ((Tr.allOk_iff t).1 hok)
    have hk : ∀ i, i < t.kids.length → 1 ≤ (Tr.kid t.kids i).est ∧ (Tr.kid t.kids i).est ≤ 1152921504606846976 := fun i hi =>
      ih _ (by have := Tr.size_kid t i hi; omega) (hn.2 i hi)
    rw [Tr.est_kids]
    unfold estB
    rcases node_cases hn.1 with ⟨hk1, _, h1, h2⟩ | ⟨hk1, _, h1, h2⟩ | ⟨hk1, _, j, h1, h2, h3⟩ | ⟨hk1, hl, h1, h2, h3, h4, h5, h6, h7⟩ | ⟨hk1, hl, h1, h2, h3⟩ | ⟨hk1, hl, h1, h2, h3, h4⟩
    · rw [if_pos hk1]
      have a1 := Int.mul_le_mul h1 h1 (by omega) (by omega)
      have a2 := Int.mul_le_mul h2 h2 (by omega) (by omega)
      omega
    · rw [if_neg (by omega), if_pos hk1]; omega
    · rw [if_neg (by omega), if_neg (by omega), if_pos hk1, h3, lg_pow j h2]
      have h9 : 2 ^ j ≤ 2 ^ 24 := Nat.pow_le_pow_right (by omega) h2
      have e9 : (2 : Nat) ^ 24 = 16777216 := by decide
      have h8 : 0 < 2 ^ j := Nat.pos_of_ne_zero (by simp)
      have a1 := mul_ge_one (a := ((2 ^ j : Nat) : Int)) (b := (j : Int)) (by omega) (by omega)
      have a2 := Int.mul_le_mul (show ((2 ^ j : Nat) : Int) ≤ 16777216 by omega) (show (j : Int) ≤ 24 by omega) (by omega) (by omega)
      omega
    · rw [if_neg (by omega), if_neg (by omega), if_neg (by omega), if_neg (by omega), if_neg (by omega)]
      have e0 := hk 0 (by omega)
      have e1 := hk 1 (by omega)
      rw [Tr.estL_at _ 0 (by omega), Tr.estL_at _ 1 (by omega)]
      have p0 := sat_ge (mul_ge_one (a := (Tr.kid t.kids 1).num) (b := (Tr.kid t.kids 0).est) (by omega) e0.1) (by omega)
      have p1 := sat_ge (mul_ge_one (a := (Tr.kid t.kids 0).num) (b := (Tr.kid t.kids 1).est) (by omega) e1.1) (by omega)
      have p2 : 1 ≤ sat (sat ((Tr.kid t.kids 1).num * (Tr.kid t.kids 0).est) + sat ((Tr.kid t.kids 0).num * (Tr.kid t.kids 1).est)) := sat_ge (by omega) (by omega)
      split
      · exact ⟨sat_ge (by omega) (by omega), sat_le _⟩
      · exact ⟨p2, sat_le _⟩
    · rw [if_neg (by omega), if_neg (by omega), if_neg (by omega), if_pos hk1]
      have e0 := hk 0 (by omega)
      rw [Tr.estL_at _ 0 (by omega)]
      have p0 : 0 ≤ sat (2 * (Tr.kid t.kids 0).est) := sat_ge (by omega) (by omega)
      exact ⟨sat_ge (by omega) (by omega), sat_le _⟩
    · rw [if_neg (by omega), if_neg (by omega), if_neg (by omega), if_neg (by omega), if_pos hk1]
      have e0 := hk 0 (by omega)
      rw [Tr.estL_at _ 0 (by omega)]
      have p0 : 0 ≤ sat (2 * (Tr.kid t.kids 0).est) := sat_ge (by omega) (by omega)
      have p1 : 0 ≤ sat (sat (2 * (Tr.kid t.kids 0).est) + (Tr.kid t.kids 0).num) := sat_ge (by omega) (by omega)
      exact ⟨sat_ge (by omega) (by omega), sat_le _⟩
theorem est_bd {t : Tr} (h : t.allOk) : 1 ≤ t.est ∧ t.est ≤ 1152921504606846976 := est_bd' _ t (Nat.le_refl _) h
end Go.Proofs.YtlnlijeamflpiaaGreat

namespace Go.Proofs.YtlnlijeamflpiaaGreat
open Go.Proofs
open Go.Shelf Go.RowKit
set_option linter.unusedVariables false
shelf_lay Lays.n125 Nm 125 at Tryz as Tryz.lays125
theorem bits_Len (x : Int) (w : World) (h0 : 0 ≤ x) (h1 : x ≤ 18446744073709551615) :
    Calls Tryz.prog 145 #[.int .u64 x] w fun e w' => e = .returned (.int .i64 (Lib.bitLen x.toNat)) ∧ w = w' :=
  (Any.bits_Len Tryz.lays125 x w h0 h1).mono fun e w' ⟨h, h2⟩ => ⟨h, h2.symm⟩
end Go.Proofs.YtlnlijeamflpiaaGreat

namespace Go.Proofs.YtlnlijeamflpiaaGreat
open Go.RowKit
set_option linter.unusedVariables false
set_option linter.unusedSimpArgs false
set_option maxRecDepth 100000
set_option maxRecDepth 20000
theorem sat_min (x : Int) : min x 1152921504606846976 = sat x := by unfold sat; split <;> omega
theorem cost_add (a b : Int) (w : World) (a0 : 0 ≤ a) (a1 : a ≤ 1152921504606846976) (b0 : 0 ≤ b) (b1 : b ≤ 1152921504606846976) :
    Calls Tryz.prog 161 #[.int .i64 a, .int .i64 b] w fun e w' => e = .returned (.int .i64 (sat (a + b))) ∧ w = w' := by
  obtain ⟨S, hS⟩ : ∃ S, a + b = S := ⟨_, rfl⟩
  rw [hS, ← sat_min]
  go_enter Tryz.func161, Tryz.ntmps161
  go_wp2_with fail
  go_ret
  exact ⟨rfl, rfl⟩
theorem sat_over {a b q : Int} (ha : 1 ≤ a) (hq : 1152921504606846976 / a = q) (h : q < b) : sat (a * b) = 1152921504606846976 := by
  have h1 := Int.lt_mul_ediv_self_add (x := 1152921504606846976) (k := a) (by omega)
  rw [hq] at h1
  have h2 : a * (q + 1) ≤ a * b := Int.mul_le_mul_of_nonneg_left (by omega) (by omega)
  rw [Int.mul_add, Int.mul_one] at h2
  exact sat_top (by omega)
theorem mul_under {a b q : Int} (ha : 1 ≤ a) (hb : 0 ≤ b) (hq : 1152921504606846976 / a = q) (h : b ≤ q) : 0 ≤ a * b ∧ a * b ≤ 1152921504606846976 := by
  have h1 := Int.mul_ediv_self_le (x := 1152921504606846976) (k := a) (by omega)
  rw [hq] at h1
  have h2 : a * b ≤ a * q := Int.mul_le_mul_of_nonneg_left h (by omega)
  exact ⟨Int.mul_nonneg (by omega) hb, by omega⟩
theorem cost_times (a b : Int) (w : World) (a0 : 0 ≤ a) (a1 : a ≤ 16777216) (b0 : 0 ≤ b) (b1 : b ≤ 1152921504606846976) :
    Calls Tryz.prog 162 #[.int .i64 a, .int .i64 b] w fun e w' => e = .returned (.int .i64 (sat (a * b))) ∧ w = w' := by
  by_cases ha : a = 0
  · subst ha
    rw [show sat (0 * b) = 0 by rw [Int.zero_mul]; rfl]
    go_enter Tryz.func162, Tryz.ntmps162
    go_wp2_with fail
    go_ret
    exact ⟨rfl, rfl⟩
  · have t1 : (a != 0) = true := bdiff ha
    have t2 : (a == 0) = false := bno ha
    have q0 : 0 ≤ 1152921504606846976 / a := Int.ediv_nonneg (by omega) (by omega)
    have q1 : 1152921504606846976 / a ≤ 1152921504606846976 := Int.ediv_le_self _ (by omega)
    have e1 : (1152921504606846976 : Int).tdiv a = 1152921504606846976 / a := Int.tdiv_eq_ediv_of_nonneg (by omega)
    obtain ⟨q, hq⟩ : ∃ q, 1152921504606846976 / a = q := ⟨_, rfl⟩
    rw [hq] at q0 q1 e1
    have wq : IntKind.i64.wrap q = q := IntWalk.i64_in _ (by omega)
    by_cases hb : q < b
    · have t3 : decide (b > q) = true := by simp; omega
      rw [sat_over (by omega) hq hb]
      go_enter Tryz.func162, Tryz.ntmps162
      go_wp2_with fail
      go_ret
      exact ⟨rfl, rfl⟩
    · have t3 : decide (b > q) = false := by simp; omega
      have hm := mul_under (a := a) (by omega) b0 hq (by omega)
      obtain ⟨S, hS⟩ : ∃ S, a * b = S := ⟨_, rfl⟩
      rw [hS] at hm ⊢
      rw [← sat_min]
      go_enter Tryz.func162, Tryz.ntmps162
      go_wp2_with fail
      go_ret
      exact ⟨rfl, rfl⟩
theorem sat_nn {x : Int} (h : 0 ≤ x) : 0 ≤ sat x := sat_ge h (by omega)
set_option maxHeartbeats 4000000 in
theorem cost_est_leaf (t : Tr) (k n : Int) (a : Option Addr) (m cap : Nat) (w : World) (F : Nat → Prop) (hT : IsT w F k n a m cap t) (hok : t.allOk) (hm : m = 0) :
    Calls Tryz.prog 139 #[.agg #[.int .i64 k, .int .i64 n, .slice a m cap]] w fun e w' => e = .returned (.int .i64 t.est) ∧ Below w.heap.size w w' := by
  have hn := ((Tr.allOk_iff t).1 hok).1
  have hv : Hid (t.est = estB k n ((Tr.estL t.kids).getD 0 0) ((Tr.estL t.kids).getD 1 0) (Tr.kid t.kids 0).num (Tr.kid t.kids 1).num) := by unfold Hid; rw [Tr.est_kids, hT.ek, hT.en]
  have hb : (k = 1 ∧ 1 ≤ n ∧ n ≤ 64) ∨ (k = 2 ∧ 2 ≤ n ∧ n ≤ 5) ∨ (k = 3 ∧ ∃ j, 1 ≤ j ∧ j ≤ 24 ∧ n = ((2 ^ j : Nat) : Int)) := by
    rw [hT.ek, hT.en]
    have hl : t.kids.length = 0 := by rw [← hT.em]; exact hm
    rcases node_cases hn with h | h | h | h | h | h
    · exact .inl ⟨h.1, h.2.2⟩
    · exact .inr (.inl ⟨h.1, h.2.2⟩)
    · exact .inr (.inr ⟨h.1, h.2.2⟩)
    all_goals (exfalso; omega)
  rw [hv.out]
  generalize (Tr.estL t.kids).getD 0 0 = e0
  generalize (Tr.estL t.kids).getD 1 0 = e1
  generalize (Tr.kid t.kids 0).num = k0
  generalize (Tr.kid t.kids 1).num = k1
  clear hv hn hok hT
  rcases hb with ⟨rfl, h1, h2⟩ | ⟨rfl, h1, h2⟩ | ⟨rfl, j, h1, h2, h3⟩
  · rw [show estB 1 n e0 e1 k0 k1 = n * n by unfold estB; rw [if_pos rfl]]
    have a1 := Int.mul_le_mul h1 h1 (by omega) (by omega)
    have a2 := Int.mul_le_mul h2 h2 (by omega) (by omega)
    obtain ⟨S, hS⟩ : ∃ S, n * n = S := ⟨_, rfl⟩
    rw [hS] at a1 a2 ⊢
    go_enter Tryz.func139, Tryz.ntmps139
    go_wp2_with fail
    go_ret
    exact ⟨rfl, (Below.refl _ _).alloc (Nat.le_refl _) _⟩
  · rw [show estB 2 n e0 e1 k0 k1 = 2 * n by unfold estB; rw [if_neg (by omega), if_pos rfl]]
    go_enter Tryz.func139, Tryz.ntmps139
    go_wp2_with fail
    go_ret
    exact ⟨rfl, (Below.refl _ _).alloc (Nat.le_refl _) _⟩
  · rw [show estB 3 n e0 e1 k0 k1 = n * lg n by unfold estB; rw [if_neg (by omega), if_neg (by omega), if_pos rfl]]
    have h9 : 2 ^ j ≤ 2 ^ 24 := Nat.pow_le_pow_right (by omega) h2
    have e9 : (2 : Nat) ^ 24 = 16777216 := by decide
    have h8 : 0 < 2 ^ j := Nat.pos_of_ne_zero (by simp)
    have hn0 : 0 ≤ n := by omega
    have hn1 : n ≤ 16777216 := by omega
    have HB : Hid (∀ W, Calls Tryz.prog 145 #[.int .u64 n] W fun e w' => e = .returned (.int .i64 (lg n + 1)) ∧ W = w') := fun W => by
      have := bits_Len n W (by omega) (by omega)
      rwa [show ((Lib.bitLen n.toNat : Nat) : Int) = lg n + 1 by unfold lg; omega] at this
    have hlg : lg n = j := by rw [h3]; exact lg_pow j h2
    have hm2 := Int.mul_le_mul hn1 (show (j : Int) ≤ 24 by omega) (by omega) (by omega)
    have hm3 := Int.mul_nonneg hn0 (show (0 : Int) ≤ (j : Int) by omega)
    rw [hlg] at HB ⊢
    obtain ⟨S, hS⟩ : ∃ S, n * (j : Int) = S := ⟨_, rfl⟩
    rw [hS] at hm2 hm3 ⊢
    clear h3 h9 e9 h8 hlg
    have e1 : (j : Int) + 1 - 1 = (j : Int) := by omega
    go_enter Tryz.func139, Tryz.ntmps139
    go_wp2_with fail
    go_quiet ((go_at_call 145; exact Calls.quiet_of_same (sameW (HB.out _))))
    go_wp2_with fail
    go_ret
    exact ⟨rfl, below_drewN ((Below.refl _ _).alloc (Nat.le_refl _) _) _⟩
end Go.Proofs.YtlnlijeamflpiaaGreat

namespace Go.Proofs.YtlnlijeamflpiaaGreat
open Go.RowKit
set_option linter.unusedVariables false
set_option linter.unusedSimpArgs false
set_option maxRecDepth 100000
set_option maxRecDepth 20000
set_option maxHeartbeats 8000000 in
theorem cost_est (N : Nat) (hN : N ≤ 4194304) : ∀ (t : Tr) (k n : Int) (a : Option Addr) (m cap : Nat) (w : World) (F : Nat → Prop), t.size ≤ N → IsT w F k n a m cap t → t.allOk →
    Calls Tryz.prog 139 #[.agg #[.int .i64 k, .int .i64 n, .slice a m cap]] w fun e w' => e = .returned (.int .i64 t.est) ∧ Below w.heap.size w w' := by
  induction N with
  | zero => intro t k n a m cap w F h; have := Tr.size_pos t; omega
  | succ N ih =>
    intro t k n a m cap w F hs hT hok
    by_cases hm : m = 0
    · exact cost_est_leaf t k n a m cap w F hT hok hm
    have hn := ((Tr.allOk_iff t).1 hok)
    have hlen := hT.em
    have hv : Hid (t.est = estB k n ((Tr.estL t.kids).getD 0 0) ((Tr.estL t.kids).getD 1 0) (Tr.kid t.kids 0).num (Tr.kid t.kids 1).num) := by unfold Hid; rw [Tr.est_kids, hT.ek, hT.en]
    rw [hv.out, Tr.estL_at _ 0 (by omega)]
    obtain ⟨b, off, k0, n0, a0, m0, c0, rfl, hF0, hbl, x0, x1, x2, hT0⟩ := hT.kid 0 (by omega)
    rw [Nat.zero_mul, Nat.add_zero] at x0 x1 x2
    have ok0 := hn.2 0 (by omega)
    have bd0 := est_bd ok0
    have s0 : (Tr.kid t.kids 0).size ≤ N := by have := Tr.size_kid t 0 (by omega); omega
    have CE0 : Hid (∀ W, Below w.heap.size w W → Calls Tryz.prog 139 #[.agg #[.int .i64 k0, .int .i64 n0, .slice a0 m0 c0]] W fun e w' => e = .returned (.int .i64 (Tr.kid t.kids 0).est) ∧ Below W.heap.size W w') := fun W hb => ih (by omega) _ k0 n0 a0 m0 c0 W F s0 (hT0.below hb) ok0
    have hen0 : (Tr.kid t.kids 0).num = n0 := hT0.en.symm
    obtain ⟨E0, hE0⟩ : ∃ E, (Tr.kid t.kids 0).est = E := ⟨_, rfl⟩
    rw [hE0] at CE0 bd0 ⊢
    have hbx : (w.alloc (.cells #[.int .i64 k, .int .i64 n, .slice (some ⟨b, off, none⟩) m cap] 48)).heap[w.heap.size]? = some (.cells #[.int .i64 k, .int .i64 n, .slice (some ⟨b, off, none⟩) m cap] 48 (0, 0)) := block_new rfl
    have HBX := Lib.hid hbx
    have HX0 := Lib.hid x0
    have HX1 := Lib.hid x1
    have HX2 := Lib.hid x2
    have HBL := Lib.hid hbl
    clear hbx hE0 s0
    rcases (show (m = 1 ∧ ((k = 6 ∧ 3 ≤ n ∧ n ≤ 16777216) ∨ (k = 7 ∧ 2 ≤ n ∧ n ≤ 16777216 ∧ 0 ≤ n0 ∧ n0 ≤ 16777216))) ∨ (m = 2 ∧ (k = 4 ∨ k = 5) ∧ 1 ≤ n ∧ n ≤ 16777216 ∧ 2 ≤ n0 ∧ n0 ≤ n ∧ 2 ≤ (Tr.kid t.kids 1).num ∧ (Tr.kid t.kids 1).num ≤ n) by
      rw [hT.ek, hT.en, ← hen0]
      rcases node_cases hn.1 with h | h | h | h | h | h
      all_goals omega) with ⟨rfl, ⟨rfl, g1, g2⟩ | ⟨rfl, g1, g2, g3, g4⟩⟩ | ⟨rfl, hk, g1, g2, g3, g4, g5, g6⟩
    · -- Rader
      rw [show estB 6 n E0 ((Tr.estL t.kids).getD 1 0) (Tr.kid t.kids 0).num (Tr.kid t.kids 1).num = sat (sat (2 * E0) + 2 * n) by unfold estB; rw [if_neg (by omega), if_neg (by omega), if_neg (by omega), if_pos rfl]]
      have CT : Hid (∀ W, Calls Tryz.prog 162 #[.int .i64 2, .int .i64 E0] W fun e w' => e = .returned (.int .i64 (sat (2 * E0))) ∧ W = w') := fun W => cost_times 2 E0 W (by omega) (by omega) (by omega) (by omega)
      have p0 := sat_nn (show 0 ≤ 2 * E0 by omega)
      have p1 := sat_le (2 * E0)
      obtain ⟨S, hS⟩ : ∃ S, sat (2 * E0) = S := ⟨_, rfl⟩
      rw [hS] at CT p0 p1 ⊢
      have CA : Hid (∀ W, Calls Tryz.prog 161 #[.int .i64 S, .int .i64 (2 * n)] W fun e w' => e = .returned (.int .i64 (sat (S + 2 * n))) ∧ W = w') := fun W => cost_add S (2 * n) W (by omega) (by omega) (by omega) (by omega)
      obtain ⟨V, hV⟩ : ∃ V, sat (S + 2 * n) = V := ⟨_, rfl⟩
      rw [hV] at CA ⊢
      have y0 := (cell_past w (.cells #[.int .i64 6, .int .i64 n, .slice (some ⟨b, off, none⟩) 1 cap] 48) ⟨b, off, none⟩ hbl).trans x0
      have y1 := (cell_past w (.cells #[.int .i64 6, .int .i64 n, .slice (some ⟨b, off, none⟩) 1 cap] 48) ⟨b, off + 1, none⟩ hbl).trans x1
      have y2 := (cell_past w (.cells #[.int .i64 6, .int .i64 n, .slice (some ⟨b, off, none⟩) 1 cap] 48) ⟨b, off + 2, none⟩ hbl).trans x2
      have ne1 : b ≠ w.heap.size := by omega
      clear hS hV hv hT hT0 hn hok hlen hs x0 x1 x2 ok0 hm ih
      go_enter Tryz.func139, Tryz.ntmps139
      go_wp2_with fail
      refine (CE0.out _ ((Below.refl _ _).alloc (Nat.le_refl _) _)).mono ?_; rintro e w1 ⟨rfl, hb⟩
      have hb1 := chainA (Below.refl w.heap.size w) hb
      have hx := (hb.block _ (block_lt HBX.out)).trans HBX.out
      have z0 : w1.cell? ⟨w.heap.size, 0, none⟩ = some (.int .i64 6) := block_cell hx 0
      have z1 : w1.cell? ⟨w.heap.size, 1, none⟩ = some (.int .i64 n) := block_cell hx 1
      have z2 : w1.cell? ⟨w.heap.size, 2, none⟩ = some (.slice (some ⟨b, off, none⟩) 1 cap) := block_cell hx 2
      have HB1 := Lib.hid hb1
      clear hb hb1 hx y0 y1 y2
      go_wp2_with fail
      go_quiet ((first | (go_at_call 162; exact Calls.quiet_of_same (sameW (CT.out _))) | (go_at_call 161; exact Calls.quiet_of_same (sameW (CA.out _)))))
      go_wp2_with fail
      go_ret
      exact ⟨rfl, below_drewN HB1.out _⟩
    · -- Bluestein
      rw [show estB 7 n E0 ((Tr.estL t.kids).getD 1 0) (Tr.kid t.kids 0).num (Tr.kid t.kids 1).num = sat (sat (sat (2 * E0) + n0) + 3 * n) by unfold estB; rw [if_neg (by omega), if_neg (by omega), if_neg (by omega), if_neg (by omega), if_pos rfl, hen0]]
      have CT : Hid (∀ W, Calls Tryz.prog 162 #[.int .i64 2, .int .i64 E0] W fun e w' => e = .returned (.int .i64 (sat (2 * E0))) ∧ W = w') := fun W => cost_times 2 E0 W (by omega) (by omega) (by omega) (by omega)
      have p0 := sat_nn (show 0 ≤ 2 * E0 by omega)
      have p1 := sat_le (2 * E0)
      obtain ⟨S, hS⟩ : ∃ S, sat (2 * E0) = S := ⟨_, rfl⟩
      rw [hS] at CT p0 p1 ⊢
      have CA : Hid (∀ W, Calls Tryz.prog 161 #[.int .i64 S, .int .i64 n0] W fun e w' => e = .returned (.int .i64 (sat (S + n0))) ∧ W = w') := fun W => cost_add S n0 W (by omega) (by omega) (by omega) (by omega)
      have p2 := sat_nn (show 0 ≤ S + n0 by omega)
      have p3 := sat_le (S + n0)
      obtain ⟨V, hV⟩ : ∃ V, sat (S + n0) = V := ⟨_, rfl⟩
      rw [hV] at CA p2 p3 ⊢
      have CA2 : Hid (∀ W, Calls Tryz.prog 161 #[.int .i64 V, .int .i64 (3 * n)] W fun e w' => e = .returned (.int .i64 (sat (V + 3 * n))) ∧ W = w') := fun W => cost_add V (3 * n) W (by omega) (by omega) (by omega) (by omega)
      obtain ⟨V2, hV2⟩ : ∃ V2, sat (V + 3 * n) = V2 := ⟨_, rfl⟩
      rw [hV2] at CA2 ⊢
      have y0 := (cell_past w (.cells #[.int .i64 7, .int .i64 n, .slice (some ⟨b, off, none⟩) 1 cap] 48) ⟨b, off, none⟩ hbl).trans x0
      have y1 := (cell_past w (.cells #[.int .i64 7, .int .i64 n, .slice (some ⟨b, off, none⟩) 1 cap] 48) ⟨b, off + 1, none⟩ hbl).trans x1
      have y2 := (cell_past w (.cells #[.int .i64 7, .int .i64 n, .slice (some ⟨b, off, none⟩) 1 cap] 48) ⟨b, off + 2, none⟩ hbl).trans x2
      clear hS hV hV2 hv hT hT0 hn hok hlen hs x0 x1 x2 ok0 hm ih
      go_enter Tryz.func139, Tryz.ntmps139
      go_wp2_with fail
      refine (CE0.out _ ((Below.refl _ _).alloc (Nat.le_refl _) _)).mono ?_; rintro e w1 ⟨rfl, hb⟩
      have hb1 := chainA (Below.refl w.heap.size w) hb
      have hx := (hb.block _ (block_lt HBX.out)).trans HBX.out
      have z0 : w1.cell? ⟨w.heap.size, 0, none⟩ = some (.int .i64 7) := block_cell hx 0
      have z1 : w1.cell? ⟨w.heap.size, 1, none⟩ = some (.int .i64 n) := block_cell hx 1
      have z2 : w1.cell? ⟨w.heap.size, 2, none⟩ = some (.slice (some ⟨b, off, none⟩) 1 cap) := block_cell hx 2
      have u1 := (hb1.cell (p := ⟨b, off + 1, none⟩) hbl).trans HX1.out
      have HB1 := Lib.hid hb1
      clear hb hb1 hx y0 y1 y2
      go_wp2_with fail
      go_quiet ((first | (go_at_call 162; exact Calls.quiet_of_same (sameW (CT.out _))) | (go_at_call 161; exact Calls.quiet_of_same (sameW (CA.out _))) | (go_at_call 161; exact Calls.quiet_of_same (sameW (CA2.out _)))))
      go_wp2_with fail
      go_ret
      exact ⟨rfl, below_drewN HB1.out _⟩
    · -- products
      obtain ⟨b', off', k1, n1, a1, m1, c1, hab, hF1, _, v0, v1, v2, hT1⟩ := hT.kid 1 (by omega)
      simp only [Option.some.injEq, Addr.mk.injEq, and_true] at hab
      obtain ⟨rfl, rfl⟩ := hab
      rw [Nat.one_mul] at v0 v1 v2
      have ok1 := hn.2 1 (by omega)
      have bd1 := est_bd ok1
      have s1 : (Tr.kid t.kids 1).size ≤ N := by have := Tr.size_kid t 1 (by omega); omega
      have CE1 : Hid (∀ W, Below w.heap.size w W → Calls Tryz.prog 139 #[.agg #[.int .i64 k1, .int .i64 n1, .slice a1 m1 c1]] W fun e w' => e = .returned (.int .i64 (Tr.kid t.kids 1).est) ∧ Below W.heap.size W w') := fun W hb => ih (by omega) _ k1 n1 a1 m1 c1 W F s1 (hT1.below hb) ok1
      have hen1 : (Tr.kid t.kids 1).num = n1 := hT1.en.symm
      rw [Tr.estL_at _ 1 (by omega), hen0, hen1]
      rw [hen1] at g5 g6
      obtain ⟨E1, hE1⟩ : ∃ E, (Tr.kid t.kids 1).est = E := ⟨_, rfl⟩
      rw [hE1] at CE1 bd1 ⊢
      clear hE1 s1 ok1
      have CT0 : Hid (∀ W, Calls Tryz.prog 162 #[.int .i64 n1, .int .i64 E0] W fun e w' => e = .returned (.int .i64 (sat (n1 * E0))) ∧ W = w') := fun W => cost_times n1 E0 W (by omega) (by omega) (by omega) (by omega)
      have CT1 : Hid (∀ W, Calls Tryz.prog 162 #[.int .i64 n0, .int .i64 E1] W fun e w' => e = .returned (.int .i64 (sat (n0 * E1))) ∧ W = w') := fun W => cost_times n0 E1 W (by omega) (by omega) (by omega) (by omega)
      have p0 := sat_nn (Int.mul_nonneg (show 0 ≤ n1 by omega) (show 0 ≤ E0 by omega))
      have p1 := sat_le (n1 * E0)
      have p2 := sat_nn (Int.mul_nonneg (show 0 ≤ n0 by omega) (show 0 ≤ E1 by omega))
      have p3 := sat_le (n0 * E1)
      have hval : Hid (estB k n E0 E1 n0 n1 = if k = 4 then sat (sat (sat (n1 * E0) + sat (n0 * E1)) + n) else sat (sat (n1 * E0) + sat (n0 * E1))) := by
        unfold Hid estB
        rw [if_neg (by omega), if_neg (by omega), if_neg (by omega), if_neg (by omega), if_neg (by omega)]
      rw [hval.out]
      obtain ⟨S, hS⟩ : ∃ S, sat (n1 * E0) = S := ⟨_, rfl⟩
      rw [hS] at CT0 p0 p1 ⊢
      obtain ⟨S2, hS2⟩ : ∃ S, sat (n0 * E1) = S := ⟨_, rfl⟩
      rw [hS2] at CT1 p2 p3 ⊢
      have CA : Hid (∀ W, Calls Tryz.prog 161 #[.int .i64 S, .int .i64 S2] W fun e w' => e = .returned (.int .i64 (sat (S + S2))) ∧ W = w') := fun W => cost_add S S2 W (by omega) (by omega) (by omega) (by omega)
      have p4 := sat_nn (show 0 ≤ S + S2 by omega)
      have p5 := sat_le (S + S2)
      obtain ⟨V, hV⟩ : ∃ V, sat (S + S2) = V := ⟨_, rfl⟩
      rw [hV] at CA p4 p5 ⊢
      have CA2 : Hid (∀ W, Calls Tryz.prog 161 #[.int .i64 V, .int .i64 n] W fun e w' => e = .returned (.int .i64 (sat (V + n))) ∧ W = w') := fun W => cost_add V n W (by omega) (by omega) (by omega) (by omega)
      obtain ⟨V2, hV2⟩ : ∃ V2, sat (V + n) = V2 := ⟨_, rfl⟩
      rw [hV2] at CA2 ⊢
      have y0 := (cell_past w (.cells #[.int .i64 k, .int .i64 n, .slice (some ⟨b, off, none⟩) 2 cap] 48) ⟨b, off, none⟩ hbl).trans x0
      have y1 := (cell_past w (.cells #[.int .i64 k, .int .i64 n, .slice (some ⟨b, off, none⟩) 2 cap] 48) ⟨b, off + 1, none⟩ hbl).trans x1
      have y2 := (cell_past w (.cells #[.int .i64 k, .int .i64 n, .slice (some ⟨b, off, none⟩) 2 cap] 48) ⟨b, off + 2, none⟩ hbl).trans x2
      have HV0 := Lib.hid v0
      have HV1 := Lib.hid v1
      have HV2 := Lib.hid v2
      clear hS hV hV2 hS2 hv hval hT hT0 hT1 hn hok hlen hs x0 x1 x2 v0 v1 v2 ok0 hm ih hen0 hen1
      rcases hk with rfl | rfl
      · skip
        go_enter Tryz.func139, Tryz.ntmps139
        go_wp2_with fail
        refine (CE0.out _ ((Below.refl _ _).alloc (Nat.le_refl _) _)).mono ?_; rintro e w1 ⟨rfl, hb⟩
        have hb1 := chainA (Below.refl w.heap.size w) hb
        have hx := (hb.block _ (block_lt HBX.out)).trans HBX.out
        have z0 : w1.cell? ⟨w.heap.size, 0, none⟩ = some (.int .i64 4) := block_cell hx 0
        have z1 : w1.cell? ⟨w.heap.size, 1, none⟩ = some (.int .i64 n) := block_cell hx 1
        have z2 : w1.cell? ⟨w.heap.size, 2, none⟩ = some (.slice (some ⟨b, off, none⟩) 2 cap) := block_cell hx 2
        have u1 := (hb1.cell (p := ⟨b, off + 1, none⟩) hbl).trans HX1.out
        have u3 := (hb1.cell (p := ⟨b, off + 3, none⟩) hbl).trans HV0.out
        have u4 := (hb1.cell (p := ⟨b, off + 3 + 1, none⟩) hbl).trans HV1.out
        have u5 := (hb1.cell (p := ⟨b, off + 3 + 2, none⟩) hbl).trans HV2.out
        have HB1 := Lib.hid hb1
        have HXX := Lib.hid hx
        have hlx := block_lt hx
        have hlb : b < w1.heap.size := Nat.lt_of_lt_of_le hbl hb1.size
        clear hb hb1 hx y0 y1 y2
        go_wp2_with fail
        have hb : Below w1.heap.size w1 w1.drew := (Below.refl _ _).drew
        go_region_held3 (fun w' => (w'.cell? ⟨w.heap.size, 2, none⟩ = some (.slice (some ⟨b, off, none⟩) 2 cap) ∧ w'.cell? ⟨b, off + 1, none⟩ = some (.int .i64 n0)) ∧ (w'.cell? ⟨b, off + 3, none⟩ = some (.int .i64 k1) ∧ w'.cell? ⟨b, off + 3 + 1, none⟩ = some (.int .i64 n1) ∧ w'.cell? ⟨b, off + 3 + 2, none⟩ = some (.slice a1 m1 c1))) (first | exact ⟨⟨z2, u1⟩, u3, u4, u5⟩ | exact ⟨⟨(hb.cell (p := ⟨w.heap.size, 2, none⟩) hlx).trans z2, (hb.cell (p := ⟨b, off + 1, none⟩) hlb).trans u1⟩, (hb.cell (p := ⟨b, off + 3, none⟩) hlb).trans u3, (hb.cell (p := ⟨b, off + 3 + 1, none⟩) hlb).trans u4, (hb.cell (p := ⟨b, off + 3 + 2, none⟩) hlb).trans u5⟩) ((first | (go_at_call 139; ((with_reducible refine (CE1.out _ (chain HB1.out hb)).mono ?_); rintro e z ⟨rfl, hc⟩; have hb := chain hb hc)) | (go_at_call 162; ((with_reducible refine (CT0.out _).mono ?_); rintro e z ⟨rfl, rfl⟩)) | (go_at_call 162; ((with_reducible refine (CT1.out _).mono ?_); rintro e z ⟨rfl, rfl⟩)) | (go_at_call 161; ((with_reducible refine (CA.out _).mono ?_); rintro e z ⟨rfl, rfl⟩))))
        clear z0 z1 z2 u1 u3 u4 u5
        have hx := (hb.block _ hlx).trans HXX.out
        have z0 : z.cell? ⟨w.heap.size, 0, none⟩ = some (.int .i64 4) := block_cell hx 0
        have z1 : z.cell? ⟨w.heap.size, 1, none⟩ = some (.int .i64 n) := block_cell hx 1
        have HBZ := Lib.hid (chain HB1.out hb)
        clear hx hb
        go_wp2_with fail
        refine (CA2.out _).mono ?_; rintro e z2 ⟨rfl, rfl⟩
        go_wp2_with fail
        go_ret
        exact ⟨rfl, HBZ.out⟩
      · skip
        go_enter Tryz.func139, Tryz.ntmps139
        go_wp2_with fail
        refine (CE0.out _ ((Below.refl _ _).alloc (Nat.le_refl _) _)).mono ?_; rintro e w1 ⟨rfl, hb⟩
        have hb1 := chainA (Below.refl w.heap.size w) hb
        have hx := (hb.block _ (block_lt HBX.out)).trans HBX.out
        have z0 : w1.cell? ⟨w.heap.size, 0, none⟩ = some (.int .i64 5) := block_cell hx 0
        have z1 : w1.cell? ⟨w.heap.size, 1, none⟩ = some (.int .i64 n) := block_cell hx 1
        have z2 : w1.cell? ⟨w.heap.size, 2, none⟩ = some (.slice (some ⟨b, off, none⟩) 2 cap) := block_cell hx 2
        have u1 := (hb1.cell (p := ⟨b, off + 1, none⟩) hbl).trans HX1.out
        have u3 := (hb1.cell (p := ⟨b, off + 3, none⟩) hbl).trans HV0.out
        have u4 := (hb1.cell (p := ⟨b, off + 3 + 1, none⟩) hbl).trans HV1.out
        have u5 := (hb1.cell (p := ⟨b, off + 3 + 2, none⟩) hbl).trans HV2.out
        have HB1 := Lib.hid hb1
        have HXX := Lib.hid hx
        have hlx := block_lt hx
        have hlb : b < w1.heap.size := Nat.lt_of_lt_of_le hbl hb1.size
        clear hb hb1 hx y0 y1 y2
        go_wp2_with fail
        have hb : Below w1.heap.size w1 w1.drew := (Below.refl _ _).drew
        go_region_held3 (fun w' => (w'.cell? ⟨w.heap.size, 2, none⟩ = some (.slice (some ⟨b, off, none⟩) 2 cap) ∧ w'.cell? ⟨b, off + 1, none⟩ = some (.int .i64 n0)) ∧ (w'.cell? ⟨b, off + 3, none⟩ = some (.int .i64 k1) ∧ w'.cell? ⟨b, off + 3 + 1, none⟩ = some (.int .i64 n1) ∧ w'.cell? ⟨b, off + 3 + 2, none⟩ = some (.slice a1 m1 c1))) (first | exact ⟨⟨z2, u1⟩, u3, u4, u5⟩ | exact ⟨⟨(hb.cell (p := ⟨w.heap.size, 2, none⟩) hlx).trans z2, (hb.cell (p := ⟨b, off + 1, none⟩) hlb).trans u1⟩, (hb.cell (p := ⟨b, off + 3, none⟩) hlb).trans u3, (hb.cell (p := ⟨b, off + 3 + 1, none⟩) hlb).trans u4, (hb.cell (p := ⟨b, off + 3 + 2, none⟩) hlb).trans u5⟩) ((first | (go_at_call 139; ((with_reducible refine (CE1.out _ (chain HB1.out hb)).mono ?_); rintro e z ⟨rfl, hc⟩; have hb := chain hb hc)) | (go_at_call 162; ((with_reducible refine (CT0.out _).mono ?_); rintro e z ⟨rfl, rfl⟩)) | (go_at_call 162; ((with_reducible refine (CT1.out _).mono ?_); rintro e z ⟨rfl, rfl⟩)) | (go_at_call 161; ((with_reducible refine (CA.out _).mono ?_); rintro e z ⟨rfl, rfl⟩))))
        clear z0 z1 z2 u1 u3 u4 u5
        have hx := (hb.block _ hlx).trans HXX.out
        have z0 : z.cell? ⟨w.heap.size, 0, none⟩ = some (.int .i64 5) := block_cell hx 0
        have z1 : z.cell? ⟨w.heap.size, 1, none⟩ = some (.int .i64 n) := block_cell hx 1
        have HBZ := Lib.hid (chain HB1.out hb)
        clear hx hb
        go_wp2_with fail
        go_ret
        exact ⟨rfl, HBZ.out⟩
theorem cost_Est (t : Tr) (k n : Int) (a : Option Addr) (m cap : Nat) (w : World) (F : Nat → Prop) (hs : t.size ≤ 4194304) (hT : IsT w F k n a m cap t) :
    Calls Tryz.prog 110 #[.agg #[.int .i64 k, .int .i64 n, .slice a m cap]] w fun e w' => e = .returned (.tuple #[.int .i64 (if chk t = 0 then t.est else 0), .int .i64 (chk t)]) ∧ Below w.heap.size w w' := by
  have CC : Hid (∀ W, Below w.heap.size w W → Calls Tryz.prog 57 #[.agg #[.int .i64 k, .int .i64 n, .slice a m cap]] W fun e w' => e = .returned (.int .i64 (chk t)) ∧ Below W.heap.size W w') := fun W hb => valid_Check t k n a m cap W F hs (hT.below hb)
  have CE : Hid (chk t = 0 → ∀ W, Below w.heap.size w W → Calls Tryz.prog 139 #[.agg #[.int .i64 k, .int .i64 n, .slice a m cap]] W fun e w' => e = .returned (.int .i64 t.est) ∧ Below W.heap.size W w') := fun h W hb => cost_est 4194304 (by omega) t k n a m cap W F hs (hT.below hb) (chk_zero.1 h).2
  obtain ⟨C, hC⟩ : ∃ C, chk t = C := ⟨_, rfl⟩
  rw [hC] at CC CE ⊢
  clear hC hT hs
  by_cases hc : C = 0
  · subst hc
    have CE1 := Lib.hid (CE.out rfl)
    clear CE
    rw [if_pos rfl]
    obtain ⟨E, hE⟩ : ∃ E, t.est = E := ⟨_, rfl⟩
    rw [hE] at CE1 ⊢
    clear hE
    go_enter Tryz.func110, Tryz.ntmps110
    go_wp2_with fail
    refine (CC.out _ ((Below.refl _ _).alloc (Nat.le_refl _) _)).mono ?_; rintro e w1 ⟨rfl, hb⟩
    have hb1 := chainA (Below.refl w.heap.size w) hb
    have hx := (hb.block w.heap.size (by simp)).trans (block_new rfl)
    have z0 : w1.cell? ⟨w.heap.size, 0, none⟩ = some (.int .i64 k) := block_cell hx 0
    have z1 : w1.cell? ⟨w.heap.size, 1, none⟩ = some (.int .i64 n) := block_cell hx 1
    have z2 : w1.cell? ⟨w.heap.size, 2, none⟩ = some (.slice a m cap) := block_cell hx 2
    have HB1 := Lib.hid hb1
    clear hb hb1 hx
    go_wp2_with fail
    refine (CE1.out _ HB1.out).mono ?_; rintro e w2 ⟨rfl, hb2⟩
    have hbe := chain HB1.out hb2
    clear hb2
    go_wp2_with fail
    go_ret2
    exact ⟨rfl, hbe⟩
  · have t1 : (C != 0) = true := bdiff hc
    rw [if_neg hc]
    clear hc CE
    go_enter Tryz.func110, Tryz.ntmps110
    go_wp2_with fail
    refine (CC.out _ ((Below.refl _ _).alloc (Nat.le_refl _) _)).mono ?_; rintro e w1 ⟨rfl, hb⟩
    have hb1 := chainA (Below.refl w.heap.size w) hb
    clear hb
    go_wp2_with fail
    go_ret2
    exact ⟨rfl, hb1⟩
end Go.Proofs.YtlnlijeamflpiaaGreat

namespace Go.Proofs.YtlnlijeamflpiaaGreat
open Go.RowKit
set_option linter.unusedVariables false
set_option linter.unusedSimpArgs false
set_option maxRecDepth 100000
set_option maxRecDepth 20000
theorem ref18_Add (a b : Int) (w : World) (a0 : 0 ≤ a) (a1 : a ≤ 1152921504606846976) (b0 : 0 ≤ b) (b1 : b ≤ 1152921504606846976) :
    Calls Tryz.prog 112 #[.int .i64 a, .int .i64 b] w fun e w' => e = .returned (.int .i64 (sat (a + b))) ∧ w = w' := by
  by_cases h : a > 1152921504606846976 - b
  · rw [sat_top (by omega)]
    have h' : decide (a > 1152921504606846976 - b) = true := by simp; omega
    go_enter Tryz.func112, Tryz.ntmps112
    go_wp2_with fail
    go_ret
    exact ⟨rfl, rfl⟩
  · rw [sat_id (by omega)]
    have h' : decide (a > 1152921504606846976 - b) = false := by simp; omega
    go_enter Tryz.func112, Tryz.ntmps112
    go_wp2_with fail
    go_ret
    exact ⟨rfl, rfl⟩
theorem sat_sat {x y : Int} (hy : 0 ≤ y) : sat (sat x + y) = sat (x + y) := by
  unfold sat
  repeat' split
  all_goals omega
theorem sat_dbl {x : Int} (hx : 0 ≤ x) : sat (sat x + sat x) = sat (2 * x) := by
  unfold sat
  repeat' split
  all_goals omega
set_option maxHeartbeats 1000000 in
theorem ref18_Times (a : Nat) (b : Int) (w : World) (a1 : a ≤ 16777216) (b0 : 0 ≤ b) (b1 : b ≤ 1152921504606846976) :
    Calls Tryz.prog 113 #[.int .i64 a, .int .i64 b] w fun e w' => e = .returned (.int .i64 (sat (a * b))) ∧ w = w' := by
  obtain ⟨R, hR⟩ : ∃ R, sat ((a : Int) * b) = R := ⟨_, rfl⟩
  rw [hR]
  have HR := Lib.hid hR
  clear hR
  have CAd : Hid (∀ x y W, 0 ≤ x → x ≤ 1152921504606846976 → 0 ≤ y → y ≤ 1152921504606846976 → Calls Tryz.prog 112 #[.int .i64 x, .int .i64 y] W fun e w' => e = .returned (.int .i64 (sat (x + y))) ∧ W = w') := fun x y W h1 h2 h3 h4 => ref18_Add x y W h1 h2 h3 h4
  go_enter Tryz.func113, Tryz.ntmps113
  go_wp2_with fail
  go_loop [5, 6] (fun s i => ∃ (y : Int) (x : Int), -1 ≤ y ∧ y ≤ 25 ∧ i = .int .i64 y ∧ s = .int .i64 x ∧ 0 ≤ x ∧ x ≤ 1152921504606846976 ∧ Hid (x = sat (((a / 2 ^ (y + 1).toNat : Nat) : Int) * b))) (fun _ i => (intOf i + 1).toNat)
  case atStart => exact ⟨25, 0, by omega, by omega, rfl, rfl, by omega, by omega, by
    unfold Hid
    rw [Nat.div_eq_of_lt (show a < 2 ^ ((25 : Int) + 1).toNat from Nat.lt_of_le_of_lt a1 (by decide))]; simp [sat]⟩
  case round =>
    obtain ⟨y, x, hy1, hy2, rfl, rfl, x0, x1, HX⟩ := hrel
    by_cases h0 : y = -1
    · subst h0
      go_wp2_with fail
      go_ret
      exact ⟨ret_int (by rw [HX.out, ← HR.out]; simp), rfl⟩
    · obtain ⟨i, rfl⟩ := Int.eq_ofNat_of_zero_le (show 0 ≤ y by omega)
      have hd : decide ((i : Int) ≥ 0) = true := by simp
      obtain ⟨q, hq⟩ : ∃ q, a / 2 ^ i = q := ⟨_, rfl⟩
      have e1 : (a : Int) / 2 ^ i = (q : Int) := by rw [← hq]; simp
      have hqa : q ≤ 16777216 := by rw [← hq]; exact Nat.le_trans (Nat.div_le_self _ _) a1
      have e2 : (q : Int).tmod 2 = ((q % 2 : Nat) : Int) := by rw [Int.tmod_eq_emod_of_nonneg (by omega)]; simp
      have e3 : (q : Int) % 2 = ((q % 2 : Nat) : Int) := by simp
      have hA : a / 2 ^ (i + 1) = q / 2 := by rw [Nat.pow_succ, ← Nat.div_div_eq_div_mul, hq]
      have HX2 : Hid (x = sat (((q / 2 : Nat) : Int) * b)) := by
        have := HX.out
        rwa [show ((i : Int) + 1).toNat = i + 1 by omega, hA] at this
      have hqq : q = 2 * (q / 2) + q % 2 := by omega
      have hp : 0 ≤ ((q / 2 : Nat) : Int) * b := Int.mul_nonneg (by omega) b0
      have HS : Hid (sat (x + x) = sat (2 * (((q / 2 : Nat) : Int) * b))) := by unfold Hid; rw [HX2.out, sat_dbl hp]
      have s0 : 0 ≤ sat (x + x) := sat_ge (by omega) (by omega)
      have s1 : sat (x + x) ≤ 1152921504606846976 := sat_le _
      have CA1 : Hid (∀ W, Calls Tryz.prog 112 #[.int .i64 x, .int .i64 x] W fun e w' => e = .returned (.int .i64 (sat (x + x))) ∧ W = w') := fun W => CAd.out x x W x0 x1 x0 x1
      obtain ⟨S, hS⟩ : ∃ S, sat (x + x) = S := ⟨_, rfl⟩
      rw [hS] at HS s0 s1 CA1
      have CA2 : Hid (∀ W, Calls Tryz.prog 112 #[.int .i64 S, .int .i64 b] W fun e w' => e = .returned (.int .i64 (sat (S + b))) ∧ W = w') := fun W => CAd.out S b W s0 s1 b0 b1
      have t0 : 0 ≤ sat (S + b) := sat_ge (by omega) (by omega)
      have t1 : sat (S + b) ≤ 1152921504606846976 := sat_le _
      have HQ := Lib.hid hq
      have HQQ := Lib.hid hqq
      obtain ⟨r, hr⟩ : ∃ r, q % 2 = r := ⟨_, rfl⟩
      rw [hr] at e2 e3
      have hr2 : r < 2 := by rw [← hr]; exact Nat.mod_lt _ (by omega)
      have HRR := Lib.hid hr
      have HX3 : Hid (r = 0 → S = sat ((q : Int) * b)) := fun h => by
        rw [HS.out, ← Int.mul_assoc, show (2 : Int) * ((q / 2 : Nat) : Int) = (q : Int) by omega]
      have HX4 : Hid (r = 1 → sat (S + b) = sat ((q : Int) * b)) := fun h => by
        rw [HS.out, sat_sat b0, ← Int.mul_assoc, show (q : Int) * b = (2 * ((q / 2 : Nat) : Int)) * b + b by
          rw [show (q : Int) = 2 * ((q / 2 : Nat) : Int) + 1 by omega, Int.add_mul, Int.one_mul]]
      obtain ⟨V, hV⟩ : ∃ V, sat (S + b) = V := ⟨_, rfl⟩
      rw [hV] at CA2 t0 t1 HX4
      clear hq hA hqq hp HX HX2 hS hr hV
      rcases (show r = 0 ∨ r = 1 by omega) with rfl | rfl
      · go_wp2_with fail
        refine (CA1.out _).mono ?_; rintro e z ⟨rfl, rfl⟩
        go_wp2_with fail
        go_round
        case rel => exact ⟨(i : Int) - 1, S, by omega, by omega, rfl, rfl, s0, s1, by unfold Hid; rw [show S = _ from by first | exact HX3.out rfl | exact HX3.out trivial, show ((i : Int) - 1 + 1).toNat = i by omega, HQ.out]⟩
        case measure => simp [intOf] <;> omega
      · go_wp2_with fail
        refine (CA1.out _).mono ?_; rintro e z ⟨rfl, rfl⟩
        go_wp2_with fail
        refine (CA2.out _).mono ?_; rintro e z ⟨rfl, rfl⟩
        go_wp2_with fail
        go_round
        case rel => exact ⟨(i : Int) - 1, V, by omega, by omega, rfl, rfl, t0, t1, by unfold Hid; rw [show V = _ from by first | exact HX4.out rfl | exact HX4.out trivial, show ((i : Int) - 1 + 1).toNat = i by omega, HQ.out]⟩
        case measure => simp [intOf] <;> omega
end Go.Proofs.YtlnlijeamflpiaaGreat

namespace Go.Proofs.YtlnlijeamflpiaaGreat
open Go.RowKit
set_option linter.unusedVariables false
set_option linter.unusedSimpArgs false
set_option maxRecDepth 100000
set_option maxRecDepth 20000
theorem sat_nn' {x : Int} (h : 0 ≤ x) : 0 ≤ sat x := sat_ge h (by omega)
set_option maxHeartbeats 4000000 in
theorem ref18_Est_leaf (t : Tr) (k n : Int) (a : Option Addr) (m cap : Nat) (w : World) (F : Nat → Prop) (hT : IsT w F k n a m cap t) (hok : t.allOk) (hm : m = 0) :
    Calls Tryz.prog 87 #[.agg #[.int .i64 k, .int .i64 n, .slice a m cap]] w fun e w' => e = .returned (.int .i64 t.est) ∧ Below w.heap.size w w' := by
  have hn := ((Tr.allOk_iff t).1 hok).1
  have hv : Hid (t.est = estB k n ((Tr.estL t.kids).getD 0 0) ((Tr.estL t.kids).getD 1 0) (Tr.kid t.kids 0).num (Tr.kid t.kids 1).num) := by unfold Hid; rw [Tr.est_kids, hT.ek, hT.en]
  have hb : (k = 1 ∧ 1 ≤ n ∧ n ≤ 64) ∨ (k = 2 ∧ 2 ≤ n ∧ n ≤ 5) ∨ (k = 3 ∧ ∃ j, 1 ≤ j ∧ j ≤ 24 ∧ n = ((2 ^ j : Nat) : Int)) := by
    rw [hT.ek, hT.en]
    have hl : t.kids.length = 0 := by rw [← hT.em]; exact hm
    rcases node_cases hn with h | h | h | h | h | h
    · exact .inl ⟨h.1, h.2.2⟩
    · exact .inr (.inl ⟨h.1, h.2.2⟩)
    · exact .inr (.inr ⟨h.1, h.2.2⟩)
    all_goals (exfalso; omega)
  rw [hv.out]
  generalize (Tr.estL t.kids).getD 0 0 = e0
  generalize (Tr.estL t.kids).getD 1 0 = e1
  generalize (Tr.kid t.kids 0).num = k0
  generalize (Tr.kid t.kids 1).num = k1
  clear hv hn hok hT
  rcases hb with ⟨rfl, h1, h2⟩ | ⟨rfl, h1, h2⟩ | ⟨rfl, j, h1, h2, h3⟩
  · rw [show estB 1 n e0 e1 k0 k1 = n * n by unfold estB; rw [if_pos rfl]]
    have a1 := Int.mul_le_mul h1 h1 (by omega) (by omega)
    have a2 := Int.mul_le_mul h2 h2 (by omega) (by omega)
    obtain ⟨S, hS⟩ : ∃ S, n * n = S := ⟨_, rfl⟩
    rw [hS] at a1 a2 ⊢
    go_enter Tryz.func87, Tryz.ntmps87
    go_wp2_with fail
    go_ret
    exact ⟨rfl, (Below.refl _ _).alloc (Nat.le_refl _) _⟩
  · rw [show estB 2 n e0 e1 k0 k1 = 2 * n by unfold estB; rw [if_neg (by omega), if_pos rfl]]
    go_enter Tryz.func87, Tryz.ntmps87
    go_wp2_with fail
    go_ret
    exact ⟨rfl, (Below.refl _ _).alloc (Nat.le_refl _) _⟩
  · rw [show estB 3 n e0 e1 k0 k1 = n * lg n by unfold estB; rw [if_neg (by omega), if_neg (by omega), if_pos rfl]]
    have h9 : 2 ^ j ≤ 2 ^ 24 := Nat.pow_le_pow_right (by omega) h2
    have e9 : (2 : Nat) ^ 24 = 16777216 := by decide
    have h8 : 0 < 2 ^ j := Nat.pos_of_ne_zero (by simp)
    have hn0 : 0 ≤ n := by omega
    have hn1 : n ≤ 16777216 := by omega
    have hlg : lg n = j := by rw [h3]; exact lg_pow j h2
    have hm2 := Int.mul_le_mul hn1 (show (j : Int) ≤ 24 by omega) (by omega) (by omega)
    have hm3 := Int.mul_nonneg hn0 (show (0 : Int) ≤ (j : Int) by omega)
    rw [hlg]
    obtain ⟨S, hS⟩ : ∃ S, n * (j : Int) = S := ⟨_, rfl⟩
    have H3 := Lib.hid h3
    have HS := Lib.hid hS
    rw [hS] at hm2 hm3 ⊢
    clear h3 h9 e9 h8 hlg hS
    go_enter Tryz.func87, Tryz.ntmps87
    go_wp2_with fail
    go_loopw [4] (fun v wr => ∃ i : Nat, i ≤ j ∧ v = .int .i64 i ∧ Below w.heap.size w wr) (fun v _ => 30 - (intOf v).toNat)
    case atStart => exact ⟨0, by omega, rfl, (Below.refl _ _).alloc (Nat.le_refl _) _⟩
    case round =>
      obtain ⟨i, hij, rfl, hbl⟩ := hrel
      have hp : 2 ^ (i + 1) ≤ 2 ^ 25 := Nat.pow_le_pow_right (by omega) (by omega)
      have e9 : (2 : Nat) ^ 25 = 33554432 := by decide
      obtain ⟨p, hpp⟩ : ∃ p, 2 ^ (i + 1) = p := ⟨_, rfl⟩
      rw [hpp] at hp
      have e1 : (2 : Int) ^ (i + 1) = (p : Int) := by rw [← hpp]; simp
      have hbs := hbl.size
      have HP := Lib.hid hpp
      clear hpp e9
      by_cases hlt : i < j
      · have hle : (p : Int) ≤ n := by
          rw [H3.out, ← HP.out]
          exact Int.ofNat_le.2 (Nat.pow_le_pow_right (by omega) (by omega))
        have d1 : decide ((p : Int) ≤ n) = true := by simp; omega
        go_wp2_with fail
        go_roundw
        case rel => exact ⟨i + 1, by omega, by go_num, hbl⟩
        case measure => simp [intOf]; omega
      · have hji : i = j := by omega
        have hle : ¬ (p : Int) ≤ n := by
          rw [H3.out, ← HP.out]
          have : 2 ^ j < 2 ^ (i + 1) := Nat.pow_lt_pow_right (by omega) (by omega)
          omega
        have d1 : decide ((p : Int) ≤ n) = false := by simp; omega
        subst hji
        have hs1 : n * (i : Int) = S := HS.out
        go_wp2_with fail
        go_ret
        exact ⟨rfl, hbl⟩
end Go.Proofs.YtlnlijeamflpiaaGreat

namespace Go.Proofs.YtlnlijeamflpiaaGreat
open Go.RowKit
set_option linter.unusedVariables false
set_option linter.unusedSimpArgs false
set_option maxRecDepth 100000
set_option maxRecDepth 20000
theorem ref18_TimesI (a b : Int) (w : World) (a0 : 0 ≤ a) (a1 : a ≤ 16777216) (b0 : 0 ≤ b) (b1 : b ≤ 1152921504606846976) :
    Calls Tryz.prog 113 #[.int .i64 a, .int .i64 b] w fun e w' => e = .returned (.int .i64 (sat (a * b))) ∧ w = w' := by
  obtain ⟨x, rfl⟩ := Int.eq_ofNat_of_zero_le a0
  exact ref18_Times x b w (by omega) b0 b1
set_option maxHeartbeats 8000000 in
theorem ref18_Est (N : Nat) (hN : N ≤ 4194304) : ∀ (t : Tr) (k n : Int) (a : Option Addr) (m cap : Nat) (w : World) (F : Nat → Prop), t.size ≤ N → IsT w F k n a m cap t → t.allOk →
    Calls Tryz.prog 87 #[.agg #[.int .i64 k, .int .i64 n, .slice a m cap]] w fun e w' => e = .returned (.int .i64 t.est) ∧ Below w.heap.size w w' := by
  induction N with
  | zero => intro t k n a m cap w F h; have := Tr.size_pos t; omega
  | succ N ih =>
    intro t k n a m cap w F hs hT hok
    by_cases hm : m = 0
    · exact ref18_Est_leaf t k n a m cap w F hT hok hm
    have hn := ((Tr.allOk_iff t).1 hok)
    have hlen := hT.em
    have hv : Hid (t.est = estB k n ((Tr.estL t.kids).getD 0 0) ((Tr.estL t.kids).getD 1 0) (Tr.kid t.kids 0).num (Tr.kid t.kids 1).num) := by unfold Hid; rw [Tr.est_kids, hT.ek, hT.en]
    rw [hv.out, Tr.estL_at _ 0 (by omega)]
    obtain ⟨b, off, k0, n0, a0, m0, c0, rfl, hF0, hbl, x0, x1, x2, hT0⟩ := hT.kid 0 (by omega)
    rw [Nat.zero_mul, Nat.add_zero] at x0 x1 x2
    have ok0 := hn.2 0 (by omega)
    have bd0 := est_bd ok0
    have s0 : (Tr.kid t.kids 0).size ≤ N := by have := Tr.size_kid t 0 (by omega); omega
    have CE0 : Hid (∀ W, Below w.heap.size w W → Calls Tryz.prog 87 #[.agg #[.int .i64 k0, .int .i64 n0, .slice a0 m0 c0]] W fun e w' => e = .returned (.int .i64 (Tr.kid t.kids 0).est) ∧ Below W.heap.size W w') := fun W hb => ih (by omega) _ k0 n0 a0 m0 c0 W F s0 (hT0.below hb) ok0
    have hen0 : (Tr.kid t.kids 0).num = n0 := hT0.en.symm
    obtain ⟨E0, hE0⟩ : ∃ E, (Tr.kid t.kids 0).est = E := ⟨_, rfl⟩
    rw [hE0] at CE0 bd0 ⊢
    have hbx : (w.alloc (.cells #[.int .i64 k, .int .i64 n, .slice (some ⟨b, off, none⟩) m cap] 48)).heap[w.heap.size]? = some (.cells #[.int .i64 k, .int .i64 n, .slice (some ⟨b, off, none⟩) m cap] 48 (0, 0)) := block_new rfl
    have HBX := Lib.hid hbx
    have HX0 := Lib.hid x0
    have HX1 := Lib.hid x1
    have HX2 := Lib.hid x2
    have HBL := Lib.hid hbl
    clear hbx hE0 s0
    rcases (show (m = 1 ∧ ((k = 6 ∧ 3 ≤ n ∧ n ≤ 16777216) ∨ (k = 7 ∧ 2 ≤ n ∧ n ≤ 16777216 ∧ 0 ≤ n0 ∧ n0 ≤ 16777216))) ∨ (m = 2 ∧ (k = 4 ∨ k = 5) ∧ 1 ≤ n ∧ n ≤ 16777216 ∧ 2 ≤ n0 ∧ n0 ≤ n ∧ 2 ≤ (Tr.kid t.kids 1).num ∧ (Tr.kid t.kids 1).num ≤ n) by
      rw [hT.ek, hT.en, ← hen0]
      rcases node_cases hn.1 with h | h | h | h | h | h
      all_goals omega) with ⟨rfl, ⟨rfl, g1, g2⟩ | ⟨rfl, g1, g2, g3, g4⟩⟩ | ⟨rfl, hk, g1, g2, g3, g4, g5, g6⟩
    · -- Rader
      rw [show estB 6 n E0 ((Tr.estL t.kids).getD 1 0) (Tr.kid t.kids 0).num (Tr.kid t.kids 1).num = sat (sat (2 * E0) + 2 * n) by unfold estB; rw [if_neg (by omega), if_neg (by omega), if_neg (by omega), if_pos rfl]]
      have CT : Hid (∀ W, Calls Tryz.prog 113 #[.int .i64 2, .int .i64 E0] W fun e w' => e = .returned (.int .i64 (sat (2 * E0))) ∧ W = w') := fun W => ref18_TimesI 2 E0 W (by omega) (by omega) (by omega) (by omega)
      have p0 := sat_nn' (show 0 ≤ 2 * E0 by omega)
      have p1 := sat_le (2 * E0)
      obtain ⟨S, hS⟩ : ∃ S, sat (2 * E0) = S := ⟨_, rfl⟩
      rw [hS] at CT p0 p1 ⊢
      have CA : Hid (∀ W, Calls Tryz.prog 112 #[.int .i64 S, .int .i64 (2 * n)] W fun e w' => e = .returned (.int .i64 (sat (S + 2 * n))) ∧ W = w') := fun W => ref18_Add S (2 * n) W (by omega) (by omega) (by omega) (by omega)
      obtain ⟨V, hV⟩ : ∃ V, sat (S + 2 * n) = V := ⟨_, rfl⟩
      rw [hV] at CA ⊢
      have y0 := (cell_past w (.cells #[.int .i64 6, .int .i64 n, .slice (some ⟨b, off, none⟩) 1 cap] 48) ⟨b, off, none⟩ hbl).trans x0
      have y1 := (cell_past w (.cells #[.int .i64 6, .int .i64 n, .slice (some ⟨b, off, none⟩) 1 cap] 48) ⟨b, off + 1, none⟩ hbl).trans x1
      have y2 := (cell_past w (.cells #[.int .i64 6, .int .i64 n, .slice (some ⟨b, off, none⟩) 1 cap] 48) ⟨b, off + 2, none⟩ hbl).trans x2
      clear hS hV hv hT hT0 hn hok hlen hs ok0 hm ih
      go_enter Tryz.func87, Tryz.ntmps87
      go_wp2_with fail
      refine (CE0.out _ ((Below.refl _ _).alloc (Nat.le_refl _) _)).mono ?_; rintro e w1 ⟨rfl, hb⟩
      have HB1 := Lib.hid (chainA (Below.refl w.heap.size w) hb)
      clear hb y0 y1 y2
      go_wp2_with fail
      refine (CT.out _).mono ?_; rintro e z ⟨rfl, rfl⟩
      go_wp2_with fail
      refine (CA.out _).mono ?_; rintro e z ⟨rfl, rfl⟩
      go_wp2_with fail
      go_ret
      exact ⟨rfl, HB1.out⟩
    · -- Bluestein
      rw [show estB 7 n E0 ((Tr.estL t.kids).getD 1 0) (Tr.kid t.kids 0).num (Tr.kid t.kids 1).num = sat (sat (sat (2 * E0) + n0) + 3 * n) by unfold estB; rw [if_neg (by omega), if_neg (by omega), if_neg (by omega), if_neg (by omega), if_pos rfl, hen0]]
      have CT : Hid (∀ W, Calls Tryz.prog 113 #[.int .i64 2, .int .i64 E0] W fun e w' => e = .returned (.int .i64 (sat (2 * E0))) ∧ W = w') := fun W => ref18_TimesI 2 E0 W (by omega) (by omega) (by omega) (by omega)
      have p0 := sat_nn' (show 0 ≤ 2 * E0 by omega)
      have p1 := sat_le (2 * E0)
      obtain ⟨S, hS⟩ : ∃ S, sat (2 * E0) = S := ⟨_, rfl⟩
      rw [hS] at CT p0 p1 ⊢
      have CA : Hid (∀ W, Calls Tryz.prog 112 #[.int .i64 S, .int .i64 (n0)] W fun e w' => e = .returned (.int .i64 (sat (S + n0))) ∧ W = w') := fun W => ref18_Add S (n0) W (by omega) (by omega) (by omega) (by omega)
      have p2 := sat_nn' (show 0 ≤ S + n0 by omega)
      have p3 := sat_le (S + n0)
      obtain ⟨V, hV⟩ : ∃ V, sat (S + n0) = V := ⟨_, rfl⟩
      rw [hV] at CA p2 p3 ⊢
      have CA2 : Hid (∀ W, Calls Tryz.prog 112 #[.int .i64 V, .int .i64 (3 * n)] W fun e w' => e = .returned (.int .i64 (sat (V + 3 * n))) ∧ W = w') := fun W => ref18_Add V (3 * n) W (by omega) (by omega) (by omega) (by omega)
      obtain ⟨V2, hV2⟩ : ∃ V2, sat (V + 3 * n) = V2 := ⟨_, rfl⟩
      rw [hV2] at CA2 ⊢
      obtain ⟨w0, hW, hbw, hx⟩ := box_any w #[.int .i64 7, .int .i64 n, .slice (some ⟨b, off, none⟩) 1 cap] 48
      have z2 : w0.cell? ⟨w.heap.size, 2, none⟩ = some (.slice (some ⟨b, off, none⟩) 1 cap) := block_cell hx 2
      have u0 := (hbw.cell (p := ⟨b, off, none⟩) hbl).trans x0
      have u1 := (hbw.cell (p := ⟨b, off + 1, none⟩) hbl).trans x1
      have u2 := (hbw.cell (p := ⟨b, off + 2, none⟩) hbl).trans x2
      have HBW := Lib.hid hbw
      have HW := Lib.hid hW
      have hlx := block_lt hx
      have hlb : b < w0.heap.size := Nat.lt_of_lt_of_le hbl hbw.size
      have q0 := block_cell hx 0
      have q1 := block_cell hx 1
      simp at q0 q1
      clear hV2 hW hbw hx x0 x1 x2 hS hV hv hT hT0 hn hok hlen hs ok0 hm ih
      go_enter Tryz.func87, Tryz.ntmps87
      go_wp2_with fail
      try rw [HW.out]
      have wn3 : IntKind.i64.wrap (3 * n) = 3 * n := IntWalk.i64_in _ (by omega)
      have hb : Below w0.heap.size w0 w0.drew := (Below.refl _ _).drew
      go_region_held3 (fun w' => w'.cell? ⟨w.heap.size, 2, none⟩ = some (.slice (some ⟨b, off, none⟩) 1 cap) ∧ (w'.cell? ⟨b, off, none⟩ = some (.int .i64 k0) ∧ w'.cell? ⟨b, off + 1, none⟩ = some (.int .i64 n0) ∧ w'.cell? ⟨b, off + 2, none⟩ = some (.slice a0 m0 c0))) (first | exact ⟨z2, u0, u1, u2⟩ | exact ⟨(hb.cell (p := ⟨w.heap.size, 2, none⟩) hlx).trans z2, (hb.cell (p := ⟨b, off, none⟩) hlb).trans u0, (hb.cell (p := ⟨b, off + 1, none⟩) hlb).trans u1, (hb.cell (p := ⟨b, off + 2, none⟩) hlb).trans u2⟩) ((first | (go_at_call 87; ((with_reducible refine (CE0.out _ (chain HBW.out hb)).mono ?_); rintro e z ⟨rfl, hc⟩; have hb := chain hb hc)) | (go_at_call 113; ((with_reducible refine (CT.out _).mono ?_); rintro e z ⟨rfl, rfl⟩)) | (go_at_call 112; ((with_reducible refine (CA.out _).mono ?_); rintro e z ⟨rfl, rfl⟩)) | (go_at_call 112; ((with_reducible refine (CA2.out _).mono ?_); rintro e z ⟨rfl, rfl⟩))))
      have HBZ := Lib.hid (chain HBW.out hb)
      clear hb z2 u0 u1 u2 q0 q1
      go_wp2_with fail
      go_ret
      exact ⟨rfl, HBZ.out⟩
    · -- products
      obtain ⟨b', off', k1, n1, a1, m1, c1, hab, hF1, _, v0, v1, v2, hT1⟩ := hT.kid 1 (by omega)
      simp only [Option.some.injEq, Addr.mk.injEq, and_true] at hab
      obtain ⟨rfl, rfl⟩ := hab
      rw [Nat.one_mul] at v0 v1 v2
      have ok1 := hn.2 1 (by omega)
      have bd1 := est_bd ok1
      have s1 : (Tr.kid t.kids 1).size ≤ N := by have := Tr.size_kid t 1 (by omega); omega
      have CE1 : Hid (∀ W, Below w.heap.size w W → Calls Tryz.prog 87 #[.agg #[.int .i64 k1, .int .i64 n1, .slice a1 m1 c1]] W fun e w' => e = .returned (.int .i64 (Tr.kid t.kids 1).est) ∧ Below W.heap.size W w') := fun W hb => ih (by omega) _ k1 n1 a1 m1 c1 W F s1 (hT1.below hb) ok1
      have hen1 : (Tr.kid t.kids 1).num = n1 := hT1.en.symm
      rw [Tr.estL_at _ 1 (by omega), hen0, hen1]
      rw [hen1] at g5 g6
      obtain ⟨E1, hE1⟩ : ∃ E, (Tr.kid t.kids 1).est = E := ⟨_, rfl⟩
      rw [hE1] at CE1 bd1 ⊢
      clear hE1 s1 ok1
      have CT0 : Hid (∀ W, Calls Tryz.prog 113 #[.int .i64 n1, .int .i64 E0] W fun e w' => e = .returned (.int .i64 (sat (n1 * E0))) ∧ W = w') := fun W => ref18_TimesI n1 E0 W (by omega) (by omega) (by omega) (by omega)
      have CT1 : Hid (∀ W, Calls Tryz.prog 113 #[.int .i64 n0, .int .i64 E1] W fun e w' => e = .returned (.int .i64 (sat (n0 * E1))) ∧ W = w') := fun W => ref18_TimesI n0 E1 W (by omega) (by omega) (by omega) (by omega)
      have p0 := sat_nn' (Int.mul_nonneg (show 0 ≤ n1 by omega) (show 0 ≤ E0 by omega))
      have p1 := sat_le (n1 * E0)
      have p2 := sat_nn' (Int.mul_nonneg (show 0 ≤ n0 by omega) (show 0 ≤ E1 by omega))
      have p3 := sat_le (n0 * E1)
      have hval : Hid (estB k n E0 E1 n0 n1 = if k = 4 then sat (sat (sat (n1 * E0) + sat (n0 * E1)) + n) else sat (sat (n1 * E0) + sat (n0 * E1))) := by
        unfold Hid estB
        rw [if_neg (by omega), if_neg (by omega), if_neg (by omega), if_neg (by omega), if_neg (by omega)]
      rw [hval.out]
      obtain ⟨S, hS⟩ : ∃ S, sat (n1 * E0) = S := ⟨_, rfl⟩
      rw [hS] at CT0 p0 p1 ⊢
      obtain ⟨S2, hS2⟩ : ∃ S, sat (n0 * E1) = S := ⟨_, rfl⟩
      rw [hS2] at CT1 p2 p3 ⊢
      have CA : Hid (∀ W, Calls Tryz.prog 112 #[.int .i64 S, .int .i64 S2] W fun e w' => e = .returned (.int .i64 (sat (S + S2))) ∧ W = w') := fun W => ref18_Add S S2 W (by omega) (by omega) (by omega) (by omega)
      have p4 := sat_nn' (show 0 ≤ S + S2 by omega)
      have p5 := sat_le (S + S2)
      obtain ⟨V, hV⟩ : ∃ V, sat (S + S2) = V := ⟨_, rfl⟩
      rw [hV] at CA p4 p5 ⊢
      have CA2 : Hid (∀ W, Calls Tryz.prog 112 #[.int .i64 V, .int .i64 n] W fun e w' => e = .returned (.int .i64 (sat (V + n))) ∧ W = w') := fun W => ref18_Add V n W (by omega) (by omega) (by omega) (by omega)
      obtain ⟨V2, hV2⟩ : ∃ V2, sat (V + n) = V2 := ⟨_, rfl⟩
      rw [hV2] at CA2 ⊢
      have HV0 := Lib.hid v0
      have HV1 := Lib.hid v1
      have HV2 := Lib.hid v2
      clear hS hV hV2 hS2 hv hval hT hT0 hT1 hn hok hlen hs x0 x1 x2 v0 v1 v2 ok0 hm ih hen0 hen1
      rcases hk with rfl | rfl
      · skip
        obtain ⟨w0, hW, hbw, hx⟩ := box_any w #[.int .i64 4, .int .i64 n, .slice (some ⟨b, off, none⟩) 2 cap] 48
        have z2 : w0.cell? ⟨w.heap.size, 2, none⟩ = some (.slice (some ⟨b, off, none⟩) 2 cap) := block_cell hx 2
        have u0 := (hbw.cell (p := ⟨b, off, none⟩) hbl).trans HX0.out
        have u1 := (hbw.cell (p := ⟨b, off + 1, none⟩) hbl).trans HX1.out
        have u2 := (hbw.cell (p := ⟨b, off + 2, none⟩) hbl).trans HX2.out
        have u3 := (hbw.cell (p := ⟨b, off + 3, none⟩) hbl).trans HV0.out
        have u4 := (hbw.cell (p := ⟨b, off + 3 + 1, none⟩) hbl).trans HV1.out
        have u5 := (hbw.cell (p := ⟨b, off + 3 + 2, none⟩) hbl).trans HV2.out
        have HBW := Lib.hid hbw
        have HW := Lib.hid hW
        have HXX := Lib.hid hx
        have hlx := block_lt hx
        have hlb : b < w0.heap.size := Nat.lt_of_lt_of_le hbl hbw.size
        have q0 : w0.cell? ⟨w.heap.size, 0, none⟩ = some (.int .i64 4) := block_cell hx 0
        have q1 : w0.cell? ⟨w.heap.size, 1, none⟩ = some (.int .i64 n) := block_cell hx 1
        clear hW hbw hx
        go_enter Tryz.func87, Tryz.ntmps87
        go_wp2_with fail
        try rw [HW.out]
        have hb : Below w0.heap.size w0 w0.drew := (Below.refl _ _).drew
        go_region_held3 (fun w' => w'.cell? ⟨w.heap.size, 2, none⟩ = some (.slice (some ⟨b, off, none⟩) 2 cap) ∧ (w'.cell? ⟨b, off, none⟩ = some (.int .i64 k0) ∧ w'.cell? ⟨b, off + 1, none⟩ = some (.int .i64 n0) ∧ w'.cell? ⟨b, off + 2, none⟩ = some (.slice a0 m0 c0)) ∧ (w'.cell? ⟨b, off + 3, none⟩ = some (.int .i64 k1) ∧ w'.cell? ⟨b, off + 3 + 1, none⟩ = some (.int .i64 n1) ∧ w'.cell? ⟨b, off + 3 + 2, none⟩ = some (.slice a1 m1 c1))) (first | exact ⟨z2, ⟨u0, u1, u2⟩, u3, u4, u5⟩ | exact ⟨(hb.cell (p := ⟨w.heap.size, 2, none⟩) hlx).trans z2, ⟨(hb.cell (p := ⟨b, off, none⟩) hlb).trans u0, (hb.cell (p := ⟨b, off + 1, none⟩) hlb).trans u1, (hb.cell (p := ⟨b, off + 2, none⟩) hlb).trans u2⟩, (hb.cell (p := ⟨b, off + 3, none⟩) hlb).trans u3, (hb.cell (p := ⟨b, off + 3 + 1, none⟩) hlb).trans u4, (hb.cell (p := ⟨b, off + 3 + 2, none⟩) hlb).trans u5⟩) ((first | (go_at_call 87; ((with_reducible refine (CE0.out _ (chain HBW.out hb)).mono ?_); rintro e z ⟨rfl, hc⟩; have hb := chain hb hc)) | (go_at_call 87; ((with_reducible refine (CE1.out _ (chain HBW.out hb)).mono ?_); rintro e z ⟨rfl, hc⟩; have hb := chain hb hc)) | (go_at_call 113; ((with_reducible refine (CT0.out _).mono ?_); rintro e z ⟨rfl, rfl⟩)) | (go_at_call 113; ((with_reducible refine (CT1.out _).mono ?_); rintro e z ⟨rfl, rfl⟩)) | (go_at_call 112; ((with_reducible refine (CA.out _).mono ?_); rintro e z ⟨rfl, rfl⟩))))
        clear z2 u0 u1 u2 u3 u4 u5 q0 q1
        have hx := (hb.block _ hlx).trans HXX.out
        have q0 : z.cell? ⟨w.heap.size, 0, none⟩ = some (.int .i64 4) := block_cell hx 0
        have HBZ := Lib.hid (chain HBW.out hb)
        clear hx hb
        go_wp2_with fail
        refine (CA2.out _).mono ?_; rintro e z2 ⟨rfl, rfl⟩
        go_wp2_with fail
        go_ret
        exact ⟨rfl, HBZ.out⟩
      · skip
        obtain ⟨w0, hW, hbw, hx⟩ := box_any w #[.int .i64 5, .int .i64 n, .slice (some ⟨b, off, none⟩) 2 cap] 48
        have z2 : w0.cell? ⟨w.heap.size, 2, none⟩ = some (.slice (some ⟨b, off, none⟩) 2 cap) := block_cell hx 2
        have u0 := (hbw.cell (p := ⟨b, off, none⟩) hbl).trans HX0.out
        have u1 := (hbw.cell (p := ⟨b, off + 1, none⟩) hbl).trans HX1.out
        have u2 := (hbw.cell (p := ⟨b, off + 2, none⟩) hbl).trans HX2.out
        have u3 := (hbw.cell (p := ⟨b, off + 3, none⟩) hbl).trans HV0.out
        have u4 := (hbw.cell (p := ⟨b, off + 3 + 1, none⟩) hbl).trans HV1.out
        have u5 := (hbw.cell (p := ⟨b, off + 3 + 2, none⟩) hbl).trans HV2.out
        have HBW := Lib.hid hbw
        have HW := Lib.hid hW
        have HXX := Lib.hid hx
        have hlx := block_lt hx
        have hlb : b < w0.heap.size := Nat.lt_of_lt_of_le hbl hbw.size
        have q0 : w0.cell? ⟨w.heap.size, 0, none⟩ = some (.int .i64 5) := block_cell hx 0
        have q1 : w0.cell? ⟨w.heap.size, 1, none⟩ = some (.int .i64 n) := block_cell hx 1
        clear hW hbw hx
        go_enter Tryz.func87, Tryz.ntmps87
        go_wp2_with fail
        try rw [HW.out]
        have hb : Below w0.heap.size w0 w0.drew := (Below.refl _ _).drew
        go_region_held3 (fun w' => w'.cell? ⟨w.heap.size, 2, none⟩ = some (.slice (some ⟨b, off, none⟩) 2 cap) ∧ (w'.cell? ⟨b, off, none⟩ = some (.int .i64 k0) ∧ w'.cell? ⟨b, off + 1, none⟩ = some (.int .i64 n0) ∧ w'.cell? ⟨b, off + 2, none⟩ = some (.slice a0 m0 c0)) ∧ (w'.cell? ⟨b, off + 3, none⟩ = some (.int .i64 k1) ∧ w'.cell? ⟨b, off + 3 + 1, none⟩ = some (.int .i64 n1) ∧ w'.cell? ⟨b, off + 3 + 2, none⟩ = some (.slice a1 m1 c1))) (first | exact ⟨z2, ⟨u0, u1, u2⟩, u3, u4, u5⟩ | exact ⟨(hb.cell (p := ⟨w.heap.size, 2, none⟩) hlx).trans z2, ⟨(hb.cell (p := ⟨b, off, none⟩) hlb).trans u0, (hb.cell (p := ⟨b, off + 1, none⟩) hlb).trans u1, (hb.cell (p := ⟨b, off + 2, none⟩) hlb).trans u2⟩, (hb.cell (p := ⟨b, off + 3, none⟩) hlb).trans u3, (hb.cell (p := ⟨b, off + 3 + 1, none⟩) hlb).trans u4, (hb.cell (p := ⟨b, off + 3 + 2, none⟩) hlb).trans u5⟩) ((first | (go_at_call 87; ((with_reducible refine (CE0.out _ (chain HBW.out hb)).mono ?_); rintro e z ⟨rfl, hc⟩; have hb := chain hb hc)) | (go_at_call 87; ((with_reducible refine (CE1.out _ (chain HBW.out hb)).mono ?_); rintro e z ⟨rfl, hc⟩; have hb := chain hb hc)) | (go_at_call 113; ((with_reducible refine (CT0.out _).mono ?_); rintro e z ⟨rfl, rfl⟩)) | (go_at_call 113; ((with_reducible refine (CT1.out _).mono ?_); rintro e z ⟨rfl, rfl⟩)) | (go_at_call 112; ((with_reducible refine (CA.out _).mono ?_); rintro e z ⟨rfl, rfl⟩))))
        clear z2 u0 u1 u2 u3 u4 u5 q0 q1
        have hx := (hb.block _ hlx).trans HXX.out
        have q0 : z.cell? ⟨w.heap.size, 0, none⟩ = some (.int .i64 5) := block_cell hx 0
        have HBZ := Lib.hid (chain HBW.out hb)
        clear hx hb
        go_wp2_with fail
        go_ret
        exact ⟨rfl, HBZ.out⟩
end Go.Proofs.YtlnlijeamflpiaaGreat

namespace Go.Proofs.YtlnlijeamflpiaaGreat
open Go.RowKit
set_option linter.unusedVariables false
set_option linter.unusedSimpArgs false
set_option maxRecDepth 100000
theorem orI_neg {x y x' y' : Int} (h : x' = -x) (h2 : x = 0 → y' = -y) : orI x' y' = - orI x y := by
  unfold orI
  by_cases hx : x = 0
  · rw [if_pos (by omega), if_pos hx]; exact h2 hx
  · rw [if_neg (by omega), if_neg hx]; exact h
namespace Tr
theorem cmpL_neg (ts : List Tr) (h : ∀ t ∈ ts, ∀ u, cmp u t = - cmp t u) : ∀ us, ts.length = us.length → cmpL us ts = - cmpL ts us := by
  induction ts with
  | nil => intro us hl; cases us with
    | nil => simp [cmpL]
    | cons u us => simp at hl
  | cons t ts ih =>
    intro us hl
    cases us with
    | nil => simp at hl
    | cons u us =>
      simp only [cmpL]
      exact orI_neg (h t (by simp) u) fun _ => ih (fun t ht => h t (by simp [ht])) us (by simpa using hl)
theorem cmp_neg' (N : Nat) : ∀ t u : Tr, t.size ≤ N → cmp u t = - cmp t u := by
  induction N with
  | zero => intro t u h; have := size_pos t; omega
  | succ N ih =>
    intro t u h
    rw [cmp_kids, cmp_kids t u]
    refine orI_neg (cmpI_neg _ _) fun _ => orI_neg (cmpI_neg _ _) fun _ => orI_neg (cmpI_neg _ _) fun h3 => cmpL_neg _ (fun t' ht u => ih t' u ?_) _ ?_
    · have := size_mem ht; rw [size_kids] at h; omega
    · have := cmpI_zero h3; omega
theorem cmp_neg (t u : Tr) : cmp u t = - cmp t u := cmp_neg' _ t u (Nat.le_refl _)
theorem cmp_self (t : Tr) : cmp t t = 0 := by have := cmp_neg t t; omega
end Tr
end Go.Proofs.YtlnlijeamflpiaaGreat

