/- The contracts and plain laws that the statements WmapPuts WmapMerges WmapNils need, part 4 of 5: ValC ValF ValG WmA WmB WmC WmD WmE WmF WmG WmH WmI. -/
import Derived.Test.YtonffapiamhdbaaWmB3
namespace Go.Proofs.Ytonffapiamhdbaa
open Go.RowKit
set_option linter.unusedVariables false
set_option linter.unusedSimpArgs false
set_option maxRecDepth 100000
set_option maxRecDepth 20000
theorem own_int_cell {e : TypeId} {w wr : World} {g cap n : Nat} {f : Nat → Int} (h : Own .i64 e w wr (.slice (some ⟨g, 0, none⟩) n cap) n f) (i : Nat) (hi : i < n) : wr.cell? ⟨g, i, none⟩ = some (.int .i64 (f i)) :=
  (h.own.cellAt i (by omega)).trans (by simp [hi])
/-- A quiet call behind an earlier quiet region. -/
theorem quiet_same2 {P : Program} {f : FuncId} {args : Array Value} {w : World} {q a : Nat} {v : Value} (h : Calls P f args (w.drewN (q + a)) fun e w' => e = .returned v ∧ w' = w.drewN (q + a)) :
    Calls P f args (w.drewN (q + a)) fun e w'' => e = .returned v ∧ ∃ n, w'' = w.drewN (q + n) := h.mono fun _ _ ⟨he, hm⟩ => ⟨he, a, hm⟩
set_option maxHeartbeats 1600000 in
theorem ref14_Node_1 (t : Tr) (n : Int) (a : Option Addr) (m cap : Nat) (w : World) (F : Nat → Prop) (hs : t.size ≤ 4194304) (hT : IsT w F 1 n a m cap t) :
    Calls Try.prog 40 #[.agg #[.int .i64 1, .int .i64 n, .slice a m cap]] w fun e w' => e = .returned (.bool (nodeOk t)) ∧ Below w.heap.size w w' := by
  obtain ⟨i0, hi, hz0, hz1, hz2⟩ := info_parts info_int
  have hn := hT.fn
  have hmm : m ≤ 4194304 := by
    have h1 := Tr.len_le_sizeL t.kids
    rw [Tr.size_kids] at hs
    rw [hT.em]; omega
  have HN : Hid (nodeOk t = nodeB 1 n m (Tr.kid t.kids 0).num (Tr.kid t.kids 1).num) := by unfold Hid nodeOk; rw [hT.ek, hT.en, hT.em]
  have hd : ∀ i, i < m → -9223372036854775808 ≤ (Tr.kid t.kids i).num ∧ (Tr.kid t.kids i).num < 9223372036854775808 := fun i h => by
    obtain ⟨_, _, _, _, _, d⟩ := hT.knum i h
    exact d
  have HD := Lib.hid hd
  obtain ⟨B, hB⟩ : ∃ B, hasSz n = B := ⟨_, rfl⟩
  have HS : Hid (∀ W, Calls Try.prog 33 #[.int .i64 n] W fun e w' => e = .returned (.bool B) ∧ W = w') := fun W => by
    cases B with
    | true => exact refHas_yes n W hB
    | false => exact refHas_no n W hB hn
  have HB := Lib.hid hB
  obtain ⟨W0, hW0⟩ : ∃ W0, w.alloc (.cells #[.int .i64 1, .int .i64 n, .slice a m cap] 34) = W0 := ⟨_, rfl⟩
  have hx0 : W0.heap[w.heap.size]? = some (.cells #[.int .i64 1, .int .i64 n, .slice a m cap] 34 (0, 0)) := by rw [← hW0]; exact block_new rfl
  have hb0 : Below w.heap.size w W0 := by rw [← hW0]; exact (Below.refl _ _).alloc (Nat.le_refl _) _
  have HT := Lib.hid (hT.below hb0)
  have HX0 := Lib.hid hx0
  have HW0 := Lib.hid hW0
  have HB0 := Lib.hid hb0
  clear hs hT hd hB hx0 hW0 hb0
  go_enter Try.func40, Try.ntmps40
  go_wp2_with fail
  rw [HW0.out]
  go_loopw [3, 4] (fun v i wr => ∃ j : Nat, j ≤ m ∧ i = .int .i64 j ∧ Own .i64 3 W0 wr v j (fun i => (Tr.kid t.kids i).num)) (fun _ i _ => m - (intOf i).toNat)
  case atStart => exact ⟨0, Nat.zero_le _, rfl, World.ownsRow_nil _ _ _ _, Below.refl _ _⟩
  case round =>
    obtain ⟨j, hj, rfl, hown⟩ := hrel
    have hX := (hown.below.block _ (block_lt HX0.out)).trans HX0.out
    have x0 : wr.cell? ⟨w.heap.size, 0, none⟩ = some (.int .i64 1) := block_cell hX 0
    have x1 : wr.cell? ⟨w.heap.size, 1, none⟩ = some (.int .i64 n) := block_cell hX 1
    have x2 : wr.cell? ⟨w.heap.size, 2, none⟩ = some (.slice a m cap) := block_cell hX 2
    clear hX
    by_cases hlt : j < m
    · obtain ⟨b, off, rfl, hbl, c0, d0⟩ := (HT.out.below hown.below).knum j hlt
      obtain ⟨kk, hkk⟩ : ∃ kk, (Tr.kid t.kids j).num = kk := ⟨_, rfl⟩
      rw [hkk] at c0 d0
      have HKK := Lib.hid hkk
      clear hkk
      have g1 : (0 : Int) ≤ (j : Int) := by omega
      have g2 : (j : Int) < (m : Int) := by omega
      go_wp2_with (at_builtin; refine wpList_append_own _ rfl _ _ 68 rfl W0.heap.size 3 i0 (.int .i64 0) 1 8 Try.underlying68 hi hz0 hz1 hz2 rfl (by decide) _ _ _ rfl (hown.own.alloc _) ⟨wr.heap.size, 0, none⟩ 1 1 [.int .i64 kk] rfl rfl (cell_one_new _ _ _) (one_cell _ _) (by unfold maxLen; omega) (by omega) (size_alloc_le hown.below _) ?_)
      intro v' w2 hown2 hgrow _
      have HPU := Lib.hid (hown.push kk HKK.out.symm hown2 hgrow)
      clear hown hown2 hgrow x0 x1 x2 c0
      go_wp2_with fail
      go_roundw
      case rel => exact ⟨j + 1, by omega, by go_num, HPU.out⟩
      case measure => simp [intOf]; omega
    · have hjm : j = m := by omega
      subst hjm
      obtain ⟨a3, c3, rfl, hca, hg⟩ := own_slice2 hown.own
      have hbe : Below w.heap.size w wr := chain HB0.out hown.below
      have HBE := Lib.hid hbe
      clear hbe hlt
      have HG := HN
      clear hown hg
      have HQ : Hid (nodeB 1 n j (Tr.kid t.kids 0).num (Tr.kid t.kids 1).num = (decide (j = 0 ∧ n ≤ 64) && B)) := by unfold Hid nodeB; rw [if_pos rfl, HB.out]
      rw [HQ.out] at HG
      clear HQ
      by_cases hm : j = 0
      · subst hm
        cases B with
        | true =>
          by_cases h : n ≤ 64
          all_goals
            go_wp2_with fail
            refine (HS.out _).mono ?_; rintro e w1 ⟨rfl, rfl⟩
            go_wp2_with fail
            go_ret
            exact ⟨ret_bool (by rw [HG.out]; simp [h]), HBE.out⟩
        | false =>
          go_wp2_with fail
          refine (HS.out _).mono ?_; rintro e w1 ⟨rfl, rfl⟩
          go_wp2_with fail
          go_ret
          exact ⟨ret_bool (by rw [HG.out]; simp), HBE.out⟩
      · skip
        have hm0 : ((j : Int) == 0) = false := bno (by omega)
        have hn0 : ((j : Int) != 0) = true := bdiff (by omega)
        go_wp2_with fail
        go_ret
        exact ⟨ret_bool (by rw [HG.out]; simp [hm]), HBE.out⟩
set_option maxHeartbeats 1600000 in
theorem ref14_Node_2 (t : Tr) (n : Int) (a : Option Addr) (m cap : Nat) (w : World) (F : Nat → Prop) (hs : t.size ≤ 4194304) (hT : IsT w F 2 n a m cap t) :
    Calls Try.prog 40 #[.agg #[.int .i64 2, .int .i64 n, .slice a m cap]] w fun e w' => e = .returned (.bool (nodeOk t)) ∧ Below w.heap.size w w' := by
  obtain ⟨i0, hi, hz0, hz1, hz2⟩ := info_parts info_int
  have hn := hT.fn
  have hmm : m ≤ 4194304 := by
    have h1 := Tr.len_le_sizeL t.kids
    rw [Tr.size_kids] at hs
    rw [hT.em]; omega
  have HN : Hid (nodeOk t = nodeB 2 n m (Tr.kid t.kids 0).num (Tr.kid t.kids 1).num) := by unfold Hid nodeOk; rw [hT.ek, hT.en, hT.em]
  have hd : ∀ i, i < m → -9223372036854775808 ≤ (Tr.kid t.kids i).num ∧ (Tr.kid t.kids i).num < 9223372036854775808 := fun i h => by
    obtain ⟨_, _, _, _, _, d⟩ := hT.knum i h
    exact d
  have HD := Lib.hid hd
  obtain ⟨B, hB⟩ : ∃ B, hasSz n = B := ⟨_, rfl⟩
  have HS : Hid (∀ W, Calls Try.prog 33 #[.int .i64 n] W fun e w' => e = .returned (.bool B) ∧ W = w') := fun W => by
    cases B with
    | true => exact refHas_yes n W hB
    | false => exact refHas_no n W hB hn
  have HB := Lib.hid hB
  obtain ⟨W0, hW0⟩ : ∃ W0, w.alloc (.cells #[.int .i64 2, .int .i64 n, .slice a m cap] 34) = W0 := ⟨_, rfl⟩
  have hx0 : W0.heap[w.heap.size]? = some (.cells #[.int .i64 2, .int .i64 n, .slice a m cap] 34 (0, 0)) := by rw [← hW0]; exact block_new rfl
  have hb0 : Below w.heap.size w W0 := by rw [← hW0]; exact (Below.refl _ _).alloc (Nat.le_refl _) _
  have HT := Lib.hid (hT.below hb0)
  have HX0 := Lib.hid hx0
  have HW0 := Lib.hid hW0
  have HB0 := Lib.hid hb0
  clear hs hT hd hB hx0 hW0 hb0
  go_enter Try.func40, Try.ntmps40
  go_wp2_with fail
  rw [HW0.out]
  go_loopw [3, 4] (fun v i wr => ∃ j : Nat, j ≤ m ∧ i = .int .i64 j ∧ Own .i64 3 W0 wr v j (fun i => (Tr.kid t.kids i).num)) (fun _ i _ => m - (intOf i).toNat)
  case atStart => exact ⟨0, Nat.zero_le _, rfl, World.ownsRow_nil _ _ _ _, Below.refl _ _⟩
  case round =>
    obtain ⟨j, hj, rfl, hown⟩ := hrel
    have hX := (hown.below.block _ (block_lt HX0.out)).trans HX0.out
    have x0 : wr.cell? ⟨w.heap.size, 0, none⟩ = some (.int .i64 2) := block_cell hX 0
    have x1 : wr.cell? ⟨w.heap.size, 1, none⟩ = some (.int .i64 n) := block_cell hX 1
    have x2 : wr.cell? ⟨w.heap.size, 2, none⟩ = some (.slice a m cap) := block_cell hX 2
    clear hX
    by_cases hlt : j < m
    · obtain ⟨b, off, rfl, hbl, c0, d0⟩ := (HT.out.below hown.below).knum j hlt
      obtain ⟨kk, hkk⟩ : ∃ kk, (Tr.kid t.kids j).num = kk := ⟨_, rfl⟩
      rw [hkk] at c0 d0
      have HKK := Lib.hid hkk
      clear hkk
      have g1 : (0 : Int) ≤ (j : Int) := by omega
      have g2 : (j : Int) < (m : Int) := by omega
      go_wp2_with (at_builtin; refine wpList_append_own _ rfl _ _ 68 rfl W0.heap.size 3 i0 (.int .i64 0) 1 8 Try.underlying68 hi hz0 hz1 hz2 rfl (by decide) _ _ _ rfl (hown.own.alloc _) ⟨wr.heap.size, 0, none⟩ 1 1 [.int .i64 kk] rfl rfl (cell_one_new _ _ _) (one_cell _ _) (by unfold maxLen; omega) (by omega) (size_alloc_le hown.below _) ?_)
      intro v' w2 hown2 hgrow _
      have HPU := Lib.hid (hown.push kk HKK.out.symm hown2 hgrow)
      clear hown hown2 hgrow x0 x1 x2 c0
      go_wp2_with fail
      go_roundw
      case rel => exact ⟨j + 1, by omega, by go_num, HPU.out⟩
      case measure => simp [intOf]; omega
    · have hjm : j = m := by omega
      subst hjm
      obtain ⟨a3, c3, rfl, hca, hg⟩ := own_slice2 hown.own
      have hbe : Below w.heap.size w wr := chain HB0.out hown.below
      have HBE := Lib.hid hbe
      clear hbe hlt
      have HG := HN
      clear hown hg
      have HQ : Hid (nodeB 2 n j (Tr.kid t.kids 0).num (Tr.kid t.kids 1).num = decide (j = 0 ∧ 2 ≤ n ∧ n ≤ 5)) := by unfold Hid nodeB; simp
      rw [HQ.out] at HG
      clear HQ
      by_cases hm : j = 0
      · subst hm
        rcases (show n < 2 ∨ (2 ≤ n ∧ 5 < n) ∨ (2 ≤ n ∧ n ≤ 5) by omega) with h | ⟨h, h5⟩ | ⟨h, h5⟩
        all_goals
          go_wp2_with fail
          go_ret
          exact ⟨ret_bool (by rw [HG.out]; simp; try omega), HBE.out⟩
      · skip
        have hm0 : ((j : Int) == 0) = false := bno (by omega)
        have hn0 : ((j : Int) != 0) = true := bdiff (by omega)
        go_wp2_with fail
        go_ret
        exact ⟨ret_bool (by rw [HG.out]; simp [hm]), HBE.out⟩
set_option maxHeartbeats 1600000 in
theorem ref14_Node_3 (t : Tr) (n : Int) (a : Option Addr) (m cap : Nat) (w : World) (F : Nat → Prop) (hs : t.size ≤ 4194304) (hT : IsT w F 3 n a m cap t) :
    Calls Try.prog 40 #[.agg #[.int .i64 3, .int .i64 n, .slice a m cap]] w fun e w' => e = .returned (.bool (nodeOk t)) ∧ Below w.heap.size w w' := by
  obtain ⟨i0, hi, hz0, hz1, hz2⟩ := info_parts info_int
  have hn := hT.fn
  have hmm : m ≤ 4194304 := by
    have h1 := Tr.len_le_sizeL t.kids
    rw [Tr.size_kids] at hs
    rw [hT.em]; omega
  have HN : Hid (nodeOk t = nodeB 3 n m (Tr.kid t.kids 0).num (Tr.kid t.kids 1).num) := by unfold Hid nodeOk; rw [hT.ek, hT.en, hT.em]
  have hd : ∀ i, i < m → -9223372036854775808 ≤ (Tr.kid t.kids i).num ∧ (Tr.kid t.kids i).num < 9223372036854775808 := fun i h => by
    obtain ⟨_, _, _, _, _, d⟩ := hT.knum i h
    exact d
  have HD := Lib.hid hd
  obtain ⟨B, hB⟩ : ∃ B, hasSz n = B := ⟨_, rfl⟩
  have HS : Hid (∀ W, Calls Try.prog 33 #[.int .i64 n] W fun e w' => e = .returned (.bool B) ∧ W = w') := fun W => by
    cases B with
    | true => exact refHas_yes n W hB
    | false => exact refHas_no n W hB hn
  have HB := Lib.hid hB
  obtain ⟨W0, hW0⟩ : ∃ W0, w.alloc (.cells #[.int .i64 3, .int .i64 n, .slice a m cap] 34) = W0 := ⟨_, rfl⟩
  have hx0 : W0.heap[w.heap.size]? = some (.cells #[.int .i64 3, .int .i64 n, .slice a m cap] 34 (0, 0)) := by rw [← hW0]; exact block_new rfl
  have hb0 : Below w.heap.size w W0 := by rw [← hW0]; exact (Below.refl _ _).alloc (Nat.le_refl _) _
  have HT := Lib.hid (hT.below hb0)
  have HX0 := Lib.hid hx0
  have HW0 := Lib.hid hW0
  have HB0 := Lib.hid hb0
  clear hs hT hd hB hx0 hW0 hb0
  go_enter Try.func40, Try.ntmps40
  go_wp2_with fail
  rw [HW0.out]
  go_loopw [3, 4] (fun v i wr => ∃ j : Nat, j ≤ m ∧ i = .int .i64 j ∧ Own .i64 3 W0 wr v j (fun i => (Tr.kid t.kids i).num)) (fun _ i _ => m - (intOf i).toNat)
  case atStart => exact ⟨0, Nat.zero_le _, rfl, World.ownsRow_nil _ _ _ _, Below.refl _ _⟩
  case round =>
    obtain ⟨j, hj, rfl, hown⟩ := hrel
    have hX := (hown.below.block _ (block_lt HX0.out)).trans HX0.out
    have x0 : wr.cell? ⟨w.heap.size, 0, none⟩ = some (.int .i64 3) := block_cell hX 0
    have x1 : wr.cell? ⟨w.heap.size, 1, none⟩ = some (.int .i64 n) := block_cell hX 1
    have x2 : wr.cell? ⟨w.heap.size, 2, none⟩ = some (.slice a m cap) := block_cell hX 2
    clear hX
    by_cases hlt : j < m
    · obtain ⟨b, off, rfl, hbl, c0, d0⟩ := (HT.out.below hown.below).knum j hlt
      obtain ⟨kk, hkk⟩ : ∃ kk, (Tr.kid t.kids j).num = kk := ⟨_, rfl⟩
      rw [hkk] at c0 d0
      have HKK := Lib.hid hkk
      clear hkk
      have g1 : (0 : Int) ≤ (j : Int) := by omega
      have g2 : (j : Int) < (m : Int) := by omega
      go_wp2_with (at_builtin; refine wpList_append_own _ rfl _ _ 68 rfl W0.heap.size 3 i0 (.int .i64 0) 1 8 Try.underlying68 hi hz0 hz1 hz2 rfl (by decide) _ _ _ rfl (hown.own.alloc _) ⟨wr.heap.size, 0, none⟩ 1 1 [.int .i64 kk] rfl rfl (cell_one_new _ _ _) (one_cell _ _) (by unfold maxLen; omega) (by omega) (size_alloc_le hown.below _) ?_)
      intro v' w2 hown2 hgrow _
      have HPU := Lib.hid (hown.push kk HKK.out.symm hown2 hgrow)
      clear hown hown2 hgrow x0 x1 x2 c0
      go_wp2_with fail
      go_roundw
      case rel => exact ⟨j + 1, by omega, by go_num, HPU.out⟩
      case measure => simp [intOf]; omega
    · have hjm : j = m := by omega
      subst hjm
      obtain ⟨a3, c3, rfl, hca, hg⟩ := own_slice2 hown.own
      have hbe : Below w.heap.size w wr := chain HB0.out hown.below
      have HBE := Lib.hid hbe
      clear hbe hlt
      have HG := HN
      clear hown hg
      obtain ⟨C, hC⟩ : ∃ C, hasP2 n = C := ⟨_, rfl⟩
      have HST : Hid (∀ W, Calls Try.prog 47 #[.int .i64 n] W fun e w' => e = .returned (.bool C) ∧ W = w') := fun W => by rw [← hC]; exact ref14_power n W hn
      have HQ : Hid (nodeB 3 n j (Tr.kid t.kids 0).num (Tr.kid t.kids 1).num = (decide (j = 0 ∧ 2 ≤ n) && C)) := by unfold Hid nodeB; simp [hC]
      clear hC
      rw [HQ.out] at HG
      clear HQ
      by_cases hm : j = 0
      · subst hm
        by_cases h : 2 ≤ n
        · go_wp2_with fail
          refine (HST.out _).mono ?_; rintro e w1 ⟨rfl, rfl⟩
          go_wp2_with fail
          go_ret
          exact ⟨ret_bool (by rw [HG.out]; simp [h]), HBE.out⟩
        · go_wp2_with fail
          go_ret
          exact ⟨ret_bool (by rw [HG.out]; first | (simp [h]; done) | (simp; intros; omega)), HBE.out⟩
      · skip
        have hm0 : ((j : Int) == 0) = false := bno (by omega)
        have hn0 : ((j : Int) != 0) = true := bdiff (by omega)
        go_wp2_with fail
        go_ret
        exact ⟨ret_bool (by rw [HG.out]; simp [hm]), HBE.out⟩
set_option maxHeartbeats 1600000 in
theorem ref14_Node_4 (t : Tr) (n : Int) (a : Option Addr) (m cap : Nat) (w : World) (F : Nat → Prop) (hs : t.size ≤ 4194304) (hT : IsT w F 4 n a m cap t) :
    Calls Try.prog 40 #[.agg #[.int .i64 4, .int .i64 n, .slice a m cap]] w fun e w' => e = .returned (.bool (nodeOk t)) ∧ Below w.heap.size w w' := by
  obtain ⟨i0, hi, hz0, hz1, hz2⟩ := info_parts info_int
  have hn := hT.fn
  have hmm : m ≤ 4194304 := by
    have h1 := Tr.len_le_sizeL t.kids
    rw [Tr.size_kids] at hs
    rw [hT.em]; omega
  have HN : Hid (nodeOk t = nodeB 4 n m (Tr.kid t.kids 0).num (Tr.kid t.kids 1).num) := by unfold Hid nodeOk; rw [hT.ek, hT.en, hT.em]
  have hd : ∀ i, i < m → -9223372036854775808 ≤ (Tr.kid t.kids i).num ∧ (Tr.kid t.kids i).num < 9223372036854775808 := fun i h => by
    obtain ⟨_, _, _, _, _, d⟩ := hT.knum i h
    exact d
  have HD := Lib.hid hd
  obtain ⟨B, hB⟩ : ∃ B, hasSz n = B := ⟨_, rfl⟩
  have HS : Hid (∀ W, Calls Try.prog 33 #[.int .i64 n] W fun e w' => e = .returned (.bool B) ∧ W = w') := fun W => by
    cases B with
    | true => exact refHas_yes n W hB
    | false => exact refHas_no n W hB hn
  have HB := Lib.hid hB
  obtain ⟨W0, hW0⟩ : ∃ W0, w.alloc (.cells #[.int .i64 4, .int .i64 n, .slice a m cap] 34) = W0 := ⟨_, rfl⟩
  have hx0 : W0.heap[w.heap.size]? = some (.cells #[.int .i64 4, .int .i64 n, .slice a m cap] 34 (0, 0)) := by rw [← hW0]; exact block_new rfl
  have hb0 : Below w.heap.size w W0 := by rw [← hW0]; exact (Below.refl _ _).alloc (Nat.le_refl _) _
  have HT := Lib.hid (hT.below hb0)
  have HX0 := Lib.hid hx0
  have HW0 := Lib.hid hW0
  have HB0 := Lib.hid hb0
  clear hs hT hd hB hx0 hW0 hb0
  go_enter Try.func40, Try.ntmps40
  go_wp2_with fail
  rw [HW0.out]
  go_loopw [3, 4] (fun v i wr => ∃ j : Nat, j ≤ m ∧ i = .int .i64 j ∧ Own .i64 3 W0 wr v j (fun i => (Tr.kid t.kids i).num)) (fun _ i _ => m - (intOf i).toNat)
  case atStart => exact ⟨0, Nat.zero_le _, rfl, World.ownsRow_nil _ _ _ _, Below.refl _ _⟩
  case round =>
    obtain ⟨j, hj, rfl, hown⟩ := hrel
    have hX := (hown.below.block _ (block_lt HX0.out)).trans HX0.out
    have x0 : wr.cell? ⟨w.heap.size, 0, none⟩ = some (.int .i64 4) := block_cell hX 0
    have x1 : wr.cell? ⟨w.heap.size, 1, none⟩ = some (.int .i64 n) := block_cell hX 1
    have x2 : wr.cell? ⟨w.heap.size, 2, none⟩ = some (.slice a m cap) := block_cell hX 2
    clear hX
    by_cases hlt : j < m
    · obtain ⟨b, off, rfl, hbl, c0, d0⟩ := (HT.out.below hown.below).knum j hlt
      obtain ⟨kk, hkk⟩ : ∃ kk, (Tr.kid t.kids j).num = kk := ⟨_, rfl⟩
      rw [hkk] at c0 d0
      have HKK := Lib.hid hkk
      clear hkk
      have g1 : (0 : Int) ≤ (j : Int) := by omega
      have g2 : (j : Int) < (m : Int) := by omega
      go_wp2_with (at_builtin; refine wpList_append_own _ rfl _ _ 68 rfl W0.heap.size 3 i0 (.int .i64 0) 1 8 Try.underlying68 hi hz0 hz1 hz2 rfl (by decide) _ _ _ rfl (hown.own.alloc _) ⟨wr.heap.size, 0, none⟩ 1 1 [.int .i64 kk] rfl rfl (cell_one_new _ _ _) (one_cell _ _) (by unfold maxLen; omega) (by omega) (size_alloc_le hown.below _) ?_)
      intro v' w2 hown2 hgrow _
      have HPU := Lib.hid (hown.push kk HKK.out.symm hown2 hgrow)
      clear hown hown2 hgrow x0 x1 x2 c0
      go_wp2_with fail
      go_roundw
      case rel => exact ⟨j + 1, by omega, by go_num, HPU.out⟩
      case measure => simp [intOf]; omega
    · have hjm : j = m := by omega
      subst hjm
      obtain ⟨a3, c3, rfl, hca, hg⟩ := own_slice2 hown.own
      have hbe : Below w.heap.size w wr := chain HB0.out hown.below
      have HBE := Lib.hid hbe
      clear hbe hlt
      have HG := HN
      have HQ : Hid (nodeB 4 n j (Tr.kid t.kids 0).num (Tr.kid t.kids 1).num = sidesB n j (Tr.kid t.kids 0).num (Tr.kid t.kids 1).num) := by unfold Hid nodeB; simp
      rw [HQ.out] at HG
      clear HQ
      by_cases hm : j = 2
      · cases B with
        | false =>
          have HF : Hid (sidesB n j (Tr.kid t.kids 0).num (Tr.kid t.kids 1).num = false) := by unfold Hid sidesB; rw [HB.out, Bool.and_false]
          rw [HF.out] at HG
          subst hm
          clear hown hg
          go_wp2_with fail
          go_quiet ((first | (go_at_call 33; exact Calls.quiet_of_same (sameW (HS.out _)))))
          go_wp2_with fail
          go_ret
          exact ⟨ret_bool (by rw [HG.out] <;> simp), below_drewN HBE.out _⟩
        | true =>
          have hsz := hasSz_bd HB.out
          have hd0 := HD.out 0 (by omega)
          have hd1 := HD.out 1 (by omega)
          obtain ⟨g, rfl⟩ := hg (by omega)
          have c0 := own_int_cell hown 0 (by omega)
          have c1 := own_int_cell hown 1 (by omega)
          have HF : Hid (sidesB n j (Tr.kid t.kids 0).num (Tr.kid t.kids 1).num = decide (2 ≤ (Tr.kid t.kids 0).num ∧ 2 ≤ (Tr.kid t.kids 1).num ∧ (Tr.kid t.kids 0).num ≤ n ∧ (Tr.kid t.kids 1).num ≤ n ∧ (Tr.kid t.kids 0).num * (Tr.kid t.kids 1).num = n)) := by
            unfold Hid sidesB
            rw [HB.out, Bool.and_true, hm]
            simp
          rw [HF.out] at HG
          clear HF hown hg HD HT
          obtain ⟨k0, hk0⟩ : ∃ x, (Tr.kid t.kids 0).num = x := ⟨_, rfl⟩
          obtain ⟨k1, hk1⟩ : ∃ x, (Tr.kid t.kids 1).num = x := ⟨_, rfl⟩
          try simp only [] at c0 c1
          rw [hk0] at c0 hd0 HG
          rw [hk1] at c1 hd1 HG
          clear hk0 hk1
          subst hm
          by_cases h0 : 2 ≤ k0
          · have d0 : decide (k0 < 2) = false := by simp; omega
            by_cases h1 : 2 ≤ k1
            · have d1 : decide (k1 < 2) = false := by simp; omega
              have hdv := sides_div hsz.1 h0 h1
              obtain ⟨R, hR⟩ : ∃ R, n % k0 = R := ⟨_, rfl⟩
              have r0 := Int.emod_nonneg n (show k0 ≠ 0 by omega)
              have r1 := Int.emod_lt_of_pos n (show 0 < k0 by omega)
              have q0 : 0 ≤ n / k0 := Int.ediv_nonneg (by omega) (by omega)
              have q1 : n / k0 ≤ n := Int.ediv_le_self _ (by omega)
              obtain ⟨Q, hQ⟩ : ∃ Q, n / k0 = Q := ⟨_, rfl⟩
              have e1 : n.tmod k0 = R := by rw [Int.tmod_eq_emod_of_nonneg (by omega), hR]
              have e3 : n.tdiv k0 = Q := by rw [Int.tdiv_eq_ediv_of_nonneg (by omega), hQ]
              rw [hR] at hdv r0 r1
              rw [hQ] at hdv q0 q1
              have wq : IntKind.i64.wrap Q = Q := IntWalk.i64_in _ (by omega)
              have HDV := Lib.hid hdv
              have z1 : (k0 == 0) = false := bno (by omega)
              have z2 : ¬ k0 = 0 := by omega
              have HE2 := Lib.hid hR
              have HE4 := Lib.hid hQ
              clear hdv hR hQ
              by_cases hr : R = 0
              · have b1 : (R != 0) = false := bfalse hr
                have HRR := Lib.hid hr
                clear hr
                by_cases hq : Q = k1
                · have b2 : (Q != k1) = false := bfalse hq
                  have HQQ := Lib.hid hq
                  clear hq
                  have e2 : n % k0 = R := HE2.out
                  have e4 : n / k0 = Q := HE4.out
                  have HYES : Hid (decide (2 ≤ k0 ∧ 2 ≤ k1 ∧ k0 ≤ n ∧ k1 ≤ n ∧ k0 * k1 = n) = true) := by
                    have := HDV.out.1 ⟨HRR.out, HQQ.out⟩
                    unfold Hid; rw [decide_eq_true_eq]; exact ⟨h0, h1, this⟩
                  rw [HYES.out] at HG
                  go_wp2_with fail
                  go_quiet ((first | (go_at_call 33; exact Calls.quiet_of_same (sameW (HS.out _)))))
                  clear e2 e4
                  go_wp2_with fail
                  go_quiet (fail)
                  go_wp2_with fail
                  go_ret
                  exact ⟨ret_bool (by rw [HG.out] <;> simp), below_drewN (below_drewN HBE.out _) _⟩
                · have b2 : (Q != k1) = true := bdiff hq
                  have HNO : Hid (decide (2 ≤ k0 ∧ 2 ≤ k1 ∧ k0 ≤ n ∧ k1 ≤ n ∧ k0 * k1 = n) = false) := by
                    unfold Hid; rw [decide_eq_false_iff_not]; intro h; exact hq (HDV.out.2 h.2.2).2
                  rw [HNO.out] at HG
                  have e2 : n % k0 = R := HE2.out
                  have e4 : n / k0 = Q := HE4.out
                  clear hq
                  go_wp2_with fail
                  go_quiet ((first | (go_at_call 33; exact Calls.quiet_of_same (sameW (HS.out _)))))
                  clear e2 e4
                  go_wp2_with fail
                  go_ret
                  exact ⟨ret_bool (by rw [HG.out] <;> simp), below_drewN HBE.out _⟩
              · have b1 : (R != 0) = true := bdiff hr
                have HNO : Hid (decide (2 ≤ k0 ∧ 2 ≤ k1 ∧ k0 ≤ n ∧ k1 ≤ n ∧ k0 * k1 = n) = false) := by
                  unfold Hid; rw [decide_eq_false_iff_not]; intro h; exact hr (HDV.out.2 h.2.2).1
                rw [HNO.out] at HG
                have e2 : n % k0 = R := HE2.out
                have e4 : n / k0 = Q := HE4.out
                clear hr
                go_wp2_with fail
                go_quiet ((first | (go_at_call 33; exact Calls.quiet_of_same (sameW (HS.out _)))))
                clear e2 e4
                go_wp2_with fail
                go_ret
                exact ⟨ret_bool (by rw [HG.out] <;> simp), below_drewN HBE.out _⟩
            · have b1 : decide (k1 < 2) = true := by simp; omega
              have HNO : Hid (decide (2 ≤ k0 ∧ 2 ≤ k1 ∧ k0 ≤ n ∧ k1 ≤ n ∧ k0 * k1 = n) = false) := by
                unfold Hid; rw [decide_eq_false_iff_not]; intro h; omega
              rw [HNO.out] at HG
              go_wp2_with fail
              go_quiet ((first | (go_at_call 33; exact Calls.quiet_of_same (sameW (HS.out _)))))
              go_wp2_with fail
              go_ret
              exact ⟨ret_bool (by rw [HG.out] <;> simp), below_drewN HBE.out _⟩
          · have b1 : decide (k0 < 2) = true := by simp; omega
            have HNO : Hid (decide (2 ≤ k0 ∧ 2 ≤ k1 ∧ k0 ≤ n ∧ k1 ≤ n ∧ k0 * k1 = n) = false) := by
              unfold Hid; rw [decide_eq_false_iff_not]; intro h; omega
            rw [HNO.out] at HG
            go_wp2_with fail
            go_quiet ((first | (go_at_call 33; exact Calls.quiet_of_same (sameW (HS.out _)))))
            go_wp2_with fail
            go_ret
            exact ⟨ret_bool (by rw [HG.out] <;> simp), below_drewN HBE.out _⟩
      · skip
        have HF : Hid (sidesB n j (Tr.kid t.kids 0).num (Tr.kid t.kids 1).num = false) := by unfold Hid sidesB; rw [decide_eq_false (by intro h; exact hm h.1), Bool.false_and]
        rw [HF.out] at HG
        have hm2 : ((j : Int) == 2) = false := bno (by omega)
        have hn2 : ((j : Int) != 2) = true := bdiff (by omega)
        clear hown hg
        go_wp2_with fail
        go_quiet (fail)
        go_wp2_with fail
        go_ret
        exact ⟨ret_bool (by rw [HG.out] <;> simp), below_drewN HBE.out _⟩
set_option maxHeartbeats 1600000 in
theorem ref14_Node_5 (t : Tr) (n : Int) (a : Option Addr) (m cap : Nat) (w : World) (F : Nat → Prop) (hs : t.size ≤ 4194304) (hT : IsT w F 5 n a m cap t) :
    Calls Try.prog 40 #[.agg #[.int .i64 5, .int .i64 n, .slice a m cap]] w fun e w' => e = .returned (.bool (nodeOk t)) ∧ Below w.heap.size w w' := by
  obtain ⟨i0, hi, hz0, hz1, hz2⟩ := info_parts info_int
  have hn := hT.fn
  have hmm : m ≤ 4194304 := by
    have h1 := Tr.len_le_sizeL t.kids
    rw [Tr.size_kids] at hs
    rw [hT.em]; omega
  have HN : Hid (nodeOk t = nodeB 5 n m (Tr.kid t.kids 0).num (Tr.kid t.kids 1).num) := by unfold Hid nodeOk; rw [hT.ek, hT.en, hT.em]
  have hd : ∀ i, i < m → -9223372036854775808 ≤ (Tr.kid t.kids i).num ∧ (Tr.kid t.kids i).num < 9223372036854775808 := fun i h => by
    obtain ⟨_, _, _, _, _, d⟩ := hT.knum i h
    exact d
  have HD := Lib.hid hd
  obtain ⟨B, hB⟩ : ∃ B, hasSz n = B := ⟨_, rfl⟩
  have HS : Hid (∀ W, Calls Try.prog 33 #[.int .i64 n] W fun e w' => e = .returned (.bool B) ∧ W = w') := fun W => by
    cases B with
    | true => exact refHas_yes n W hB
    | false => exact refHas_no n W hB hn
  have HB := Lib.hid hB
  obtain ⟨W0, hW0⟩ : ∃ W0, w.alloc (.cells #[.int .i64 5, .int .i64 n, .slice a m cap] 34) = W0 := ⟨_, rfl⟩
  have hx0 : W0.heap[w.heap.size]? = some (.cells #[.int .i64 5, .int .i64 n, .slice a m cap] 34 (0, 0)) := by rw [← hW0]; exact block_new rfl
  have hb0 : Below w.heap.size w W0 := by rw [← hW0]; exact (Below.refl _ _).alloc (Nat.le_refl _) _
  have HT := Lib.hid (hT.below hb0)
  have HX0 := Lib.hid hx0
  have HW0 := Lib.hid hW0
  have HB0 := Lib.hid hb0
  clear hs hT hd hB hx0 hW0 hb0
  go_enter Try.func40, Try.ntmps40
  go_wp2_with fail
  rw [HW0.out]
  go_loopw [3, 4] (fun v i wr => ∃ j : Nat, j ≤ m ∧ i = .int .i64 j ∧ Own .i64 3 W0 wr v j (fun i => (Tr.kid t.kids i).num)) (fun _ i _ => m - (intOf i).toNat)
  case atStart => exact ⟨0, Nat.zero_le _, rfl, World.ownsRow_nil _ _ _ _, Below.refl _ _⟩
  case round =>
    obtain ⟨j, hj, rfl, hown⟩ := hrel
    have hX := (hown.below.block _ (block_lt HX0.out)).trans HX0.out
    have x0 : wr.cell? ⟨w.heap.size, 0, none⟩ = some (.int .i64 5) := block_cell hX 0
    have x1 : wr.cell? ⟨w.heap.size, 1, none⟩ = some (.int .i64 n) := block_cell hX 1
    have x2 : wr.cell? ⟨w.heap.size, 2, none⟩ = some (.slice a m cap) := block_cell hX 2
    clear hX
    by_cases hlt : j < m
    · obtain ⟨b, off, rfl, hbl, c0, d0⟩ := (HT.out.below hown.below).knum j hlt
      obtain ⟨kk, hkk⟩ : ∃ kk, (Tr.kid t.kids j).num = kk := ⟨_, rfl⟩
      rw [hkk] at c0 d0
      have HKK := Lib.hid hkk
      clear hkk
      have g1 : (0 : Int) ≤ (j : Int) := by omega
      have g2 : (j : Int) < (m : Int) := by omega
      go_wp2_with (at_builtin; refine wpList_append_own _ rfl _ _ 68 rfl W0.heap.size 3 i0 (.int .i64 0) 1 8 Try.underlying68 hi hz0 hz1 hz2 rfl (by decide) _ _ _ rfl (hown.own.alloc _) ⟨wr.heap.size, 0, none⟩ 1 1 [.int .i64 kk] rfl rfl (cell_one_new _ _ _) (one_cell _ _) (by unfold maxLen; omega) (by omega) (size_alloc_le hown.below _) ?_)
      intro v' w2 hown2 hgrow _
      have HPU := Lib.hid (hown.push kk HKK.out.symm hown2 hgrow)
      clear hown hown2 hgrow x0 x1 x2 c0
      go_wp2_with fail
      go_roundw
      case rel => exact ⟨j + 1, by omega, by go_num, HPU.out⟩
      case measure => simp [intOf]; omega
    · have hjm : j = m := by omega
      subst hjm
      obtain ⟨a3, c3, rfl, hca, hg⟩ := own_slice2 hown.own
      have hbe : Below w.heap.size w wr := chain HB0.out hown.below
      have HBE := Lib.hid hbe
      clear hbe hlt
      have HG := HN
      have HQ : Hid (nodeB 5 n j (Tr.kid t.kids 0).num (Tr.kid t.kids 1).num = (sidesB n j (Tr.kid t.kids 0).num (Tr.kid t.kids 1).num && decide (gcdI (Tr.kid t.kids 0).num (Tr.kid t.kids 1).num = 1))) := by unfold Hid nodeB; simp
      rw [HQ.out] at HG
      clear HQ
      by_cases hm : j = 2
      · cases B with
        | false =>
          have HF : Hid (sidesB n j (Tr.kid t.kids 0).num (Tr.kid t.kids 1).num = false) := by unfold Hid sidesB; rw [HB.out, Bool.and_false]
          rw [HF.out] at HG
          subst hm
          clear hown hg
          go_wp2_with fail
          go_quiet ((first | (go_at_call 33; exact Calls.quiet_of_same (sameW (HS.out _)))))
          go_wp2_with fail
          go_ret
          exact ⟨ret_bool (by rw [HG.out] <;> simp), below_drewN HBE.out _⟩
        | true =>
          have hsz := hasSz_bd HB.out
          have hd0 := HD.out 0 (by omega)
          have hd1 := HD.out 1 (by omega)
          obtain ⟨g, rfl⟩ := hg (by omega)
          have c0 := own_int_cell hown 0 (by omega)
          have c1 := own_int_cell hown 1 (by omega)
          have HF : Hid (sidesB n j (Tr.kid t.kids 0).num (Tr.kid t.kids 1).num = decide (2 ≤ (Tr.kid t.kids 0).num ∧ 2 ≤ (Tr.kid t.kids 1).num ∧ (Tr.kid t.kids 0).num ≤ n ∧ (Tr.kid t.kids 1).num ≤ n ∧ (Tr.kid t.kids 0).num * (Tr.kid t.kids 1).num = n)) := by
            unfold Hid sidesB
            rw [HB.out, Bool.and_true, hm]
            simp
          rw [HF.out] at HG
          clear HF hown hg HD HT
          obtain ⟨k0, hk0⟩ : ∃ x, (Tr.kid t.kids 0).num = x := ⟨_, rfl⟩
          obtain ⟨k1, hk1⟩ : ∃ x, (Tr.kid t.kids 1).num = x := ⟨_, rfl⟩
          try simp only [] at c0 c1
          rw [hk0] at c0 hd0 HG
          rw [hk1] at c1 hd1 HG
          clear hk0 hk1
          subst hm
          by_cases h0 : 2 ≤ k0
          · have d0 : decide (k0 < 2) = false := by simp; omega
            by_cases h1 : 2 ≤ k1
            · have d1 : decide (k1 < 2) = false := by simp; omega
              have hdv := sides_div hsz.1 h0 h1
              obtain ⟨R, hR⟩ : ∃ R, n % k0 = R := ⟨_, rfl⟩
              have r0 := Int.emod_nonneg n (show k0 ≠ 0 by omega)
              have r1 := Int.emod_lt_of_pos n (show 0 < k0 by omega)
              have q0 : 0 ≤ n / k0 := Int.ediv_nonneg (by omega) (by omega)
              have q1 : n / k0 ≤ n := Int.ediv_le_self _ (by omega)
              obtain ⟨Q, hQ⟩ : ∃ Q, n / k0 = Q := ⟨_, rfl⟩
              have e1 : n.tmod k0 = R := by rw [Int.tmod_eq_emod_of_nonneg (by omega), hR]
              have e3 : n.tdiv k0 = Q := by rw [Int.tdiv_eq_ediv_of_nonneg (by omega), hQ]
              rw [hR] at hdv r0 r1
              rw [hQ] at hdv q0 q1
              have wq : IntKind.i64.wrap Q = Q := IntWalk.i64_in _ (by omega)
              have HDV := Lib.hid hdv
              have z1 : (k0 == 0) = false := bno (by omega)
              have z2 : ¬ k0 = 0 := by omega
              have HE2 := Lib.hid hR
              have HE4 := Lib.hid hQ
              clear hdv hR hQ
              by_cases hr : R = 0
              · have b1 : (R != 0) = false := bfalse hr
                have HRR := Lib.hid hr
                clear hr
                by_cases hq : Q = k1
                · have b2 : (Q != k1) = false := bfalse hq
                  have HQQ := Lib.hid hq
                  clear hq
                  have e2 : n % k0 = R := HE2.out
                  have e4 : n / k0 = Q := HE4.out
                  have HYES : Hid (decide (2 ≤ k0 ∧ 2 ≤ k1 ∧ k0 ≤ n ∧ k1 ≤ n ∧ k0 * k1 = n) = true) := by
                    have := HDV.out.1 ⟨HRR.out, HQQ.out⟩
                    unfold Hid; rw [decide_eq_true_eq]; exact ⟨h0, h1, this⟩
                  rw [HYES.out] at HG
                  have hkn : k0 ≤ n ∧ k1 ≤ n := by
                    have := HDV.out.1 ⟨HRR.out, HQQ.out⟩
                    exact ⟨this.1, this.2.1⟩
                  have HGC : Hid (∀ W, Calls Try.prog 48 #[.int .i64 k0, .int .i64 k1] W fun e w' => e = .returned (.int .i64 (gcdI k0 k1)) ∧ W = w') := fun W => by
                    obtain ⟨x, rfl⟩ := Int.eq_ofNat_of_zero_le (show 0 ≤ k0 by omega)
                    obtain ⟨y, rfl⟩ := Int.eq_ofNat_of_zero_le (show 0 ≤ k1 by omega)
                    rw [show gcdI (x : Int) (y : Int) = ((Nat.gcd x y : Nat) : Int) by unfold gcdI; rw [if_neg (by omega), Int.toNat_natCast, Int.toNat_natCast]]
                    exact refGcd (x + y) x y W (Nat.le_refl _) (by omega) (by omega)
                  obtain ⟨G, hG⟩ : ∃ G, gcdI k0 k1 = G := ⟨_, rfl⟩
                  rw [hG] at HGC HG
                  clear hG
                  rw [Bool.true_and] at HG
                  by_cases hgg : G = 1
                  · have b3 : (G == 1) = true := btrue hgg
                    have HGV := Lib.hid hgg
                    clear hgg
                    go_wp2_with fail
                    go_quiet ((first | (go_at_call 33; exact Calls.quiet_of_same (sameW (HS.out _)))))
                    clear e2 e4
                    go_wp2_with fail
                    go_quiet ((go_at_call 48; exact quiet_same2 (sameW (HGC.out _))))
                    go_wp2_with fail
                    go_ret
                    exact ⟨ret_bool (by rw [HG.out]; simp [HGV.out]), below_drewN (below_drewN HBE.out _) _⟩
                  · have b3 : (G == 1) = false := bno hgg
                    have HGV := Lib.hid hgg
                    clear hgg
                    go_wp2_with fail
                    go_quiet ((first | (go_at_call 33; exact Calls.quiet_of_same (sameW (HS.out _)))))
                    clear e2 e4
                    go_wp2_with fail
                    go_quiet ((go_at_call 48; exact quiet_same2 (sameW (HGC.out _))))
                    go_wp2_with fail
                    go_ret
                    exact ⟨ret_bool (by rw [HG.out]; simp [HGV.out]), below_drewN (below_drewN HBE.out _) _⟩
                · have b2 : (Q != k1) = true := bdiff hq
                  have HNO : Hid (decide (2 ≤ k0 ∧ 2 ≤ k1 ∧ k0 ≤ n ∧ k1 ≤ n ∧ k0 * k1 = n) = false) := by
                    unfold Hid; rw [decide_eq_false_iff_not]; intro h; exact hq (HDV.out.2 h.2.2).2
                  rw [HNO.out] at HG
                  have e2 : n % k0 = R := HE2.out
                  have e4 : n / k0 = Q := HE4.out
                  clear hq
                  go_wp2_with fail
                  go_quiet ((first | (go_at_call 33; exact Calls.quiet_of_same (sameW (HS.out _)))))
                  clear e2 e4
                  go_wp2_with fail
                  go_ret
                  exact ⟨ret_bool (by rw [HG.out] <;> simp), below_drewN HBE.out _⟩
              · have b1 : (R != 0) = true := bdiff hr
                have HNO : Hid (decide (2 ≤ k0 ∧ 2 ≤ k1 ∧ k0 ≤ n ∧ k1 ≤ n ∧ k0 * k1 = n) = false) := by
                  unfold Hid; rw [decide_eq_false_iff_not]; intro h; exact hr (HDV.out.2 h.2.2).1
                rw [HNO.out] at HG
                have e2 : n % k0 = R := HE2.out
                have e4 : n / k0 = Q := HE4.out
                clear hr
                go_wp2_with fail
                go_quiet ((first | (go_at_call 33; exact Calls.quiet_of_same (sameW (HS.out _)))))
                clear e2 e4
                go_wp2_with fail
                go_ret
                exact ⟨ret_bool (by rw [HG.out] <;> simp), below_drewN HBE.out _⟩
            · have b1 : decide (k1 < 2) = true := by simp; omega
              have HNO : Hid (decide (2 ≤ k0 ∧ 2 ≤ k1 ∧ k0 ≤ n ∧ k1 ≤ n ∧ k0 * k1 = n) = false) := by
                unfold Hid; rw [decide_eq_false_iff_not]; intro h; omega
              rw [HNO.out] at HG
              go_wp2_with fail
              go_quiet ((first | (go_at_call 33; exact Calls.quiet_of_same (sameW (HS.out _)))))
              go_wp2_with fail
              go_ret
              exact ⟨ret_bool (by rw [HG.out] <;> simp), below_drewN HBE.out _⟩
          · have b1 : decide (k0 < 2) = true := by simp; omega
            have HNO : Hid (decide (2 ≤ k0 ∧ 2 ≤ k1 ∧ k0 ≤ n ∧ k1 ≤ n ∧ k0 * k1 = n) = false) := by
              unfold Hid; rw [decide_eq_false_iff_not]; intro h; omega
            rw [HNO.out] at HG
            go_wp2_with fail
            go_quiet ((first | (go_at_call 33; exact Calls.quiet_of_same (sameW (HS.out _)))))
            go_wp2_with fail
            go_ret
            exact ⟨ret_bool (by rw [HG.out] <;> simp), below_drewN HBE.out _⟩
      · skip
        have HF : Hid (sidesB n j (Tr.kid t.kids 0).num (Tr.kid t.kids 1).num = false) := by unfold Hid sidesB; rw [decide_eq_false (by intro h; exact hm h.1), Bool.false_and]
        rw [HF.out] at HG
        have hm2 : ((j : Int) == 2) = false := bno (by omega)
        have hn2 : ((j : Int) != 2) = true := bdiff (by omega)
        clear hown hg
        go_wp2_with fail
        go_quiet (fail)
        go_wp2_with fail
        go_ret
        exact ⟨ret_bool (by rw [HG.out] <;> simp), below_drewN HBE.out _⟩
set_option maxHeartbeats 1600000 in
theorem ref14_Node_6 (t : Tr) (n : Int) (a : Option Addr) (m cap : Nat) (w : World) (F : Nat → Prop) (hs : t.size ≤ 4194304) (hT : IsT w F 6 n a m cap t) :
    Calls Try.prog 40 #[.agg #[.int .i64 6, .int .i64 n, .slice a m cap]] w fun e w' => e = .returned (.bool (nodeOk t)) ∧ Below w.heap.size w w' := by
  obtain ⟨i0, hi, hz0, hz1, hz2⟩ := info_parts info_int
  have hn := hT.fn
  have hmm : m ≤ 4194304 := by
    have h1 := Tr.len_le_sizeL t.kids
    rw [Tr.size_kids] at hs
    rw [hT.em]; omega
  have HN : Hid (nodeOk t = nodeB 6 n m (Tr.kid t.kids 0).num (Tr.kid t.kids 1).num) := by unfold Hid nodeOk; rw [hT.ek, hT.en, hT.em]
  have hd : ∀ i, i < m → -9223372036854775808 ≤ (Tr.kid t.kids i).num ∧ (Tr.kid t.kids i).num < 9223372036854775808 := fun i h => by
    obtain ⟨_, _, _, _, _, d⟩ := hT.knum i h
    exact d
  have HD := Lib.hid hd
  obtain ⟨B, hB⟩ : ∃ B, hasSz n = B := ⟨_, rfl⟩
  have HS : Hid (∀ W, Calls Try.prog 33 #[.int .i64 n] W fun e w' => e = .returned (.bool B) ∧ W = w') := fun W => by
    cases B with
    | true => exact refHas_yes n W hB
    | false => exact refHas_no n W hB hn
  have HB := Lib.hid hB
  obtain ⟨W0, hW0⟩ : ∃ W0, w.alloc (.cells #[.int .i64 6, .int .i64 n, .slice a m cap] 34) = W0 := ⟨_, rfl⟩
  have hx0 : W0.heap[w.heap.size]? = some (.cells #[.int .i64 6, .int .i64 n, .slice a m cap] 34 (0, 0)) := by rw [← hW0]; exact block_new rfl
  have hb0 : Below w.heap.size w W0 := by rw [← hW0]; exact (Below.refl _ _).alloc (Nat.le_refl _) _
  have HT := Lib.hid (hT.below hb0)
  have HX0 := Lib.hid hx0
  have HW0 := Lib.hid hW0
  have HB0 := Lib.hid hb0
  clear hs hT hd hB hx0 hW0 hb0
  go_enter Try.func40, Try.ntmps40
  go_wp2_with fail
  rw [HW0.out]
  go_loopw [3, 4] (fun v i wr => ∃ j : Nat, j ≤ m ∧ i = .int .i64 j ∧ Own .i64 3 W0 wr v j (fun i => (Tr.kid t.kids i).num)) (fun _ i _ => m - (intOf i).toNat)
  case atStart => exact ⟨0, Nat.zero_le _, rfl, World.ownsRow_nil _ _ _ _, Below.refl _ _⟩
  case round =>
    obtain ⟨j, hj, rfl, hown⟩ := hrel
    have hX := (hown.below.block _ (block_lt HX0.out)).trans HX0.out
    have x0 : wr.cell? ⟨w.heap.size, 0, none⟩ = some (.int .i64 6) := block_cell hX 0
    have x1 : wr.cell? ⟨w.heap.size, 1, none⟩ = some (.int .i64 n) := block_cell hX 1
    have x2 : wr.cell? ⟨w.heap.size, 2, none⟩ = some (.slice a m cap) := block_cell hX 2
    clear hX
    by_cases hlt : j < m
    · obtain ⟨b, off, rfl, hbl, c0, d0⟩ := (HT.out.below hown.below).knum j hlt
      obtain ⟨kk, hkk⟩ : ∃ kk, (Tr.kid t.kids j).num = kk := ⟨_, rfl⟩
      rw [hkk] at c0 d0
      have HKK := Lib.hid hkk
      clear hkk
      have g1 : (0 : Int) ≤ (j : Int) := by omega
      have g2 : (j : Int) < (m : Int) := by omega
      go_wp2_with (at_builtin; refine wpList_append_own _ rfl _ _ 68 rfl W0.heap.size 3 i0 (.int .i64 0) 1 8 Try.underlying68 hi hz0 hz1 hz2 rfl (by decide) _ _ _ rfl (hown.own.alloc _) ⟨wr.heap.size, 0, none⟩ 1 1 [.int .i64 kk] rfl rfl (cell_one_new _ _ _) (one_cell _ _) (by unfold maxLen; omega) (by omega) (size_alloc_le hown.below _) ?_)
      intro v' w2 hown2 hgrow _
      have HPU := Lib.hid (hown.push kk HKK.out.symm hown2 hgrow)
      clear hown hown2 hgrow x0 x1 x2 c0
      go_wp2_with fail
      go_roundw
      case rel => exact ⟨j + 1, by omega, by go_num, HPU.out⟩
      case measure => simp [intOf]; omega
    · have hjm : j = m := by omega
      subst hjm
      obtain ⟨a3, c3, rfl, hca, hg⟩ := own_slice2 hown.own
      have hbe : Below w.heap.size w wr := chain HB0.out hown.below
      have HBE := Lib.hid hbe
      clear hbe hlt
      have HG := HN
      by_cases hm : j = 1
      · have hd0 := HD.out 0 (by omega)
        obtain ⟨g, rfl⟩ := hg (by omega)
        have c0 := own_int_cell hown 0 (by omega)
        clear hown hg HD HT
        obtain ⟨k0, hk0⟩ : ∃ x, (Tr.kid t.kids 0).num = x := ⟨_, rfl⟩
        obtain ⟨k1, hk1⟩ : ∃ x, (Tr.kid t.kids 1).num = x := ⟨_, rfl⟩
        try simp only [] at c0
        rw [hk0] at c0 hd0 HG
        rw [hk1] at HG
        clear hk0 hk1
        subst hm
        by_cases hlo : 3 ≤ n
        · cases B with
          
          | false =>
            have HF : Hid (nodeB 6 n 1 k0 k1 = false) := by unfold Hid nodeB; rw [HB.out]; simp
            rw [HF.out] at HG
            go_wp2_with fail
            go_quiet ((go_at_call 33; exact Calls.quiet_of_same (sameW (HS.out _))))
            go_wp2_with fail
            go_ret
            exact ⟨ret_bool (by first | (rw [HG.out]; done) | (rw [HG.out]; simp)), below_drewN HBE.out _⟩
          | true =>
            have hsz := hasSz_bd HB.out
            obtain ⟨N, rfl⟩ := Int.eq_ofNat_of_zero_le (show 0 ≤ n by omega)
            obtain ⟨P, hP⟩ : ∃ P, isPr (N : Int) = P := ⟨_, rfl⟩
            have HP : Hid (∀ W, Calls Try.prog 49 #[.int .i64 (N : Int)] W fun e w' => e = .returned (.bool P) ∧ W = w') := fun W => by rw [← hP]; exact ref03_Prime N W (by omega) (by omega)
            have HF : Hid (nodeB 6 (N : Int) 1 k0 k1 = (decide (3 ≤ (N : Int) ∧ k0 = (N : Int) - 1) && P)) := by unfold Hid nodeB; rw [HB.out, hP]; simp
            have wn : IntKind.i64.wrap ((N : Int) - 1) = (N : Int) - 1 := IntWalk.i64_in _ (by omega)
            have HWN := Lib.hid wn
            rw [HF.out] at HG
            clear HF hP wn
            cases P with
            | false =>
              have wn := HWN.out
              go_wp2_with fail
              go_quiet ((first | (go_at_call 33; exact Calls.quiet_of_same (sameW (HS.out _))) | (go_at_call 49; exact Calls.quiet_of_same (sameW (HP.out _)))))
              clear wn
              go_wp2_with fail
              go_ret
              exact ⟨ret_bool (by first | (rw [HG.out]; done) | (rw [HG.out]; simp)), below_drewN HBE.out _⟩
            | true =>
              by_cases hk : k0 = (N : Int) - 1
              · have b5 : (k0 == (N : Int) - 1) = true := btrue hk
                have HK := Lib.hid hk
                have wn := HWN.out
                clear hk
                go_wp2_with fail
                go_quiet ((first | (go_at_call 33; exact Calls.quiet_of_same (sameW (HS.out _))) | (go_at_call 49; exact Calls.quiet_of_same (sameW (HP.out _)))))
                clear wn
                go_wp2_with fail
                go_ret
                exact ⟨ret_bool (by first | (rw [HG.out]; done) | (rw [HG.out]; have := HK.out; simp; omega)), below_drewN HBE.out _⟩
              · have b5 : (k0 == (N : Int) - 1) = false := bno hk
                have HK := Lib.hid hk
                have wn := HWN.out
                clear hk
                go_wp2_with fail
                go_quiet ((first | (go_at_call 33; exact Calls.quiet_of_same (sameW (HS.out _))) | (go_at_call 49; exact Calls.quiet_of_same (sameW (HP.out _)))))
                clear wn
                go_wp2_with fail
                go_ret
                exact ⟨ret_bool (by first | (rw [HG.out]; done) | (rw [HG.out]; have := HK.out; simp; intros; omega)), below_drewN HBE.out _⟩
        · have HF : Hid (nodeB 6 n 1 k0 k1 = false) := by unfold Hid nodeB; simp; intros; omega
          have hlo2 : decide (n ≥ 3) = false := by simp; omega
          rw [HF.out] at HG
          go_wp2_with fail
          go_quiet (fail)
          go_wp2_with fail
          go_ret
          exact ⟨ret_bool (by first | (rw [HG.out]; done) | (rw [HG.out]; simp)), below_drewN HBE.out _⟩
      · skip
        have HF : Hid (nodeB 6 n j (Tr.kid t.kids 0).num (Tr.kid t.kids 1).num = false) := by unfold Hid nodeB; simp [hm]
        rw [HF.out] at HG
        have hm1 : ((j : Int) == 1) = false := bno (by omega)
        have hn1 : ((j : Int) != 1) = true := bdiff (by omega)
        clear hown hg
        go_wp2_with fail
        go_quiet (fail)
        go_wp2_with fail
        go_ret
        exact ⟨ret_bool (by first | (rw [HG.out]; done) | (rw [HG.out]; simp)), below_drewN HBE.out _⟩
set_option maxHeartbeats 1600000 in
theorem ref14_Node_7 (t : Tr) (n : Int) (a : Option Addr) (m cap : Nat) (w : World) (F : Nat → Prop) (hs : t.size ≤ 4194304) (hT : IsT w F 7 n a m cap t) :
    Calls Try.prog 40 #[.agg #[.int .i64 7, .int .i64 n, .slice a m cap]] w fun e w' => e = .returned (.bool (nodeOk t)) ∧ Below w.heap.size w w' := by
  obtain ⟨i0, hi, hz0, hz1, hz2⟩ := info_parts info_int
  have hn := hT.fn
  have hmm : m ≤ 4194304 := by
    have h1 := Tr.len_le_sizeL t.kids
    rw [Tr.size_kids] at hs
    rw [hT.em]; omega
  have HN : Hid (nodeOk t = nodeB 7 n m (Tr.kid t.kids 0).num (Tr.kid t.kids 1).num) := by unfold Hid nodeOk; rw [hT.ek, hT.en, hT.em]
  have hd : ∀ i, i < m → -9223372036854775808 ≤ (Tr.kid t.kids i).num ∧ (Tr.kid t.kids i).num < 9223372036854775808 := fun i h => by
    obtain ⟨_, _, _, _, _, d⟩ := hT.knum i h
    exact d
  have HD := Lib.hid hd
  obtain ⟨B, hB⟩ : ∃ B, hasSz n = B := ⟨_, rfl⟩
  have HS : Hid (∀ W, Calls Try.prog 33 #[.int .i64 n] W fun e w' => e = .returned (.bool B) ∧ W = w') := fun W => by
    cases B with
    | true => exact refHas_yes n W hB
    | false => exact refHas_no n W hB hn
  have HB := Lib.hid hB
  obtain ⟨W0, hW0⟩ : ∃ W0, w.alloc (.cells #[.int .i64 7, .int .i64 n, .slice a m cap] 34) = W0 := ⟨_, rfl⟩
  have hx0 : W0.heap[w.heap.size]? = some (.cells #[.int .i64 7, .int .i64 n, .slice a m cap] 34 (0, 0)) := by rw [← hW0]; exact block_new rfl
  have hb0 : Below w.heap.size w W0 := by rw [← hW0]; exact (Below.refl _ _).alloc (Nat.le_refl _) _
  have HT := Lib.hid (hT.below hb0)
  have HX0 := Lib.hid hx0
  have HW0 := Lib.hid hW0
  have HB0 := Lib.hid hb0
  clear hs hT hd hB hx0 hW0 hb0
  go_enter Try.func40, Try.ntmps40
  go_wp2_with fail
  rw [HW0.out]
  go_loopw [3, 4] (fun v i wr => ∃ j : Nat, j ≤ m ∧ i = .int .i64 j ∧ Own .i64 3 W0 wr v j (fun i => (Tr.kid t.kids i).num)) (fun _ i _ => m - (intOf i).toNat)
  case atStart => exact ⟨0, Nat.zero_le _, rfl, World.ownsRow_nil _ _ _ _, Below.refl _ _⟩
  case round =>
    obtain ⟨j, hj, rfl, hown⟩ := hrel
    have hX := (hown.below.block _ (block_lt HX0.out)).trans HX0.out
    have x0 : wr.cell? ⟨w.heap.size, 0, none⟩ = some (.int .i64 7) := block_cell hX 0
    have x1 : wr.cell? ⟨w.heap.size, 1, none⟩ = some (.int .i64 n) := block_cell hX 1
    have x2 : wr.cell? ⟨w.heap.size, 2, none⟩ = some (.slice a m cap) := block_cell hX 2
    clear hX
    by_cases hlt : j < m
    · obtain ⟨b, off, rfl, hbl, c0, d0⟩ := (HT.out.below hown.below).knum j hlt
      obtain ⟨kk, hkk⟩ : ∃ kk, (Tr.kid t.kids j).num = kk := ⟨_, rfl⟩
      rw [hkk] at c0 d0
      have HKK := Lib.hid hkk
      clear hkk
      have g1 : (0 : Int) ≤ (j : Int) := by omega
      have g2 : (j : Int) < (m : Int) := by omega
      go_wp2_with (at_builtin; refine wpList_append_own _ rfl _ _ 68 rfl W0.heap.size 3 i0 (.int .i64 0) 1 8 Try.underlying68 hi hz0 hz1 hz2 rfl (by decide) _ _ _ rfl (hown.own.alloc _) ⟨wr.heap.size, 0, none⟩ 1 1 [.int .i64 kk] rfl rfl (cell_one_new _ _ _) (one_cell _ _) (by unfold maxLen; omega) (by omega) (size_alloc_le hown.below _) ?_)
      intro v' w2 hown2 hgrow _
      have HPU := Lib.hid (hown.push kk HKK.out.symm hown2 hgrow)
      clear hown hown2 hgrow x0 x1 x2 c0
      go_wp2_with fail
      go_roundw
      case rel => exact ⟨j + 1, by omega, by go_num, HPU.out⟩
      case measure => simp [intOf]; omega
    · have hjm : j = m := by omega
      subst hjm
      obtain ⟨a3, c3, rfl, hca, hg⟩ := own_slice2 hown.own
      have hbe : Below w.heap.size w wr := chain HB0.out hown.below
      have HBE := Lib.hid hbe
      clear hbe hlt
      have HG := HN
      by_cases hm : j = 1
      · have hd0 := HD.out 0 (by omega)
        obtain ⟨g, rfl⟩ := hg (by omega)
        have c0 := own_int_cell hown 0 (by omega)
        clear hown hg HD HT
        obtain ⟨k0, hk0⟩ : ∃ x, (Tr.kid t.kids 0).num = x := ⟨_, rfl⟩
        obtain ⟨k1, hk1⟩ : ∃ x, (Tr.kid t.kids 1).num = x := ⟨_, rfl⟩
        try simp only [] at c0
        rw [hk0] at c0 hd0 HG
        rw [hk1] at HG
        clear hk0 hk1
        subst hm
        by_cases hlo : 2 ≤ n
        · cases B with
          
          | false =>
            have HF : Hid (nodeB 7 n 1 k0 k1 = false) := by unfold Hid nodeB; rw [HB.out]; simp
            rw [HF.out] at HG
            go_wp2_with fail
            go_quiet ((go_at_call 33; exact Calls.quiet_of_same (sameW (HS.out _))))
            go_wp2_with fail
            go_ret
            exact ⟨ret_bool (by first | (rw [HG.out]; done) | (rw [HG.out]; simp)), below_drewN HBE.out _⟩
          | true =>
            have hsz := hasSz_bd HB.out
            obtain ⟨P, hP⟩ : ∃ P, hasP2 k0 = P := ⟨_, rfl⟩
            have HP : Hid (∀ W, Calls Try.prog 47 #[.int .i64 k0] W fun e w' => e = .returned (.bool P) ∧ W = w') := fun W => by rw [← hP]; exact ref14_power k0 W hd0
            have HF : Hid (nodeB 7 n 1 k0 k1 = (decide (2 ≤ n ∧ 2 * n - 1 ≤ k0) && P)) := by unfold Hid nodeB; rw [HB.out, hP]; simp
            have wn1 : IntKind.i64.wrap (2 * n) = 2 * n := IntWalk.i64_in _ (by omega)
            have wn2 : IntKind.i64.wrap (2 * n - 1) = 2 * n - 1 := IntWalk.i64_in _ (by omega)
            have HWN1 := Lib.hid wn1
            have HWN2 := Lib.hid wn2
            rw [HF.out] at HG
            clear HF hP wn1 wn2
            cases P with
            | false =>
              have wn1 := HWN1.out
              have wn2 := HWN2.out
              go_wp2_with fail
              go_quiet ((first | (go_at_call 33; exact Calls.quiet_of_same (sameW (HS.out _))) | (go_at_call 47; exact Calls.quiet_of_same (sameW (HP.out _)))))
              clear wn1 wn2
              go_wp2_with fail
              go_ret
              exact ⟨ret_bool (by first | (rw [HG.out]; done) | (rw [HG.out]; simp)), below_drewN HBE.out _⟩
            | true =>
              by_cases hk : 2 * n - 1 ≤ k0
              · have b5 : decide (k0 ≥ 2 * n - 1) = true := by simp; omega
                have wn1 := HWN1.out
                have wn2 := HWN2.out
                go_wp2_with fail
                go_quiet ((first | (go_at_call 33; exact Calls.quiet_of_same (sameW (HS.out _))) | (go_at_call 47; exact Calls.quiet_of_same (sameW (HP.out _)))))
                clear wn1 wn2
                go_wp2_with fail
                go_ret
                exact ⟨ret_bool (by first | (rw [HG.out]; done) | (rw [HG.out]; simp; omega)), below_drewN HBE.out _⟩
              · have b5 : decide (k0 ≥ 2 * n - 1) = false := by simp; omega
                have wn1 := HWN1.out
                have wn2 := HWN2.out
                go_wp2_with fail
                go_quiet ((first | (go_at_call 33; exact Calls.quiet_of_same (sameW (HS.out _))) | (go_at_call 47; exact Calls.quiet_of_same (sameW (HP.out _)))))
                clear wn1 wn2
                go_wp2_with fail
                go_ret
                exact ⟨ret_bool (by first | (rw [HG.out]; done) | (rw [HG.out]; simp; intros; omega)), below_drewN HBE.out _⟩
        · have HF : Hid (nodeB 7 n 1 k0 k1 = false) := by unfold Hid nodeB; simp; intros; omega
          have hlo2 : decide (n ≥ 2) = false := by simp; omega
          rw [HF.out] at HG
          go_wp2_with fail
          go_quiet (fail)
          go_wp2_with fail
          go_ret
          exact ⟨ret_bool (by first | (rw [HG.out]; done) | (rw [HG.out]; simp)), below_drewN HBE.out _⟩
      · skip
        have HF : Hid (nodeB 7 n j (Tr.kid t.kids 0).num (Tr.kid t.kids 1).num = false) := by unfold Hid nodeB; simp [hm]
        rw [HF.out] at HG
        have hm1 : ((j : Int) == 1) = false := bno (by omega)
        have hn1 : ((j : Int) != 1) = true := bdiff (by omega)
        clear hown hg
        go_wp2_with fail
        go_quiet (fail)
        go_wp2_with fail
        go_ret
        exact ⟨ret_bool (by first | (rw [HG.out]; done) | (rw [HG.out]; simp)), below_drewN HBE.out _⟩
set_option maxHeartbeats 1600000 in
theorem ref14_Node_0 (t : Tr) (k : Int) (n : Int) (a : Option Addr) (m cap : Nat) (w : World) (F : Nat → Prop) (hs : t.size ≤ 4194304) (hT : IsT w F k n a m cap t) (hk : k < 1 ∨ 7 < k) :
    Calls Try.prog 40 #[.agg #[.int .i64 k, .int .i64 n, .slice a m cap]] w fun e w' => e = .returned (.bool (nodeOk t)) ∧ Below w.heap.size w w' := by
  obtain ⟨i0, hi, hz0, hz1, hz2⟩ := info_parts info_int
  have hn := hT.fn
  have hmm : m ≤ 4194304 := by
    have h1 := Tr.len_le_sizeL t.kids
    rw [Tr.size_kids] at hs
    rw [hT.em]; omega
  have HN : Hid (nodeOk t = nodeB k n m (Tr.kid t.kids 0).num (Tr.kid t.kids 1).num) := by unfold Hid nodeOk; rw [hT.ek, hT.en, hT.em]
  have hd : ∀ i, i < m → -9223372036854775808 ≤ (Tr.kid t.kids i).num ∧ (Tr.kid t.kids i).num < 9223372036854775808 := fun i h => by
    obtain ⟨_, _, _, _, _, d⟩ := hT.knum i h
    exact d
  have HD := Lib.hid hd
  obtain ⟨B, hB⟩ : ∃ B, hasSz n = B := ⟨_, rfl⟩
  have HS : Hid (∀ W, Calls Try.prog 33 #[.int .i64 n] W fun e w' => e = .returned (.bool B) ∧ W = w') := fun W => by
    cases B with
    | true => exact refHas_yes n W hB
    | false => exact refHas_no n W hB hn
  have HB := Lib.hid hB
  obtain ⟨W0, hW0⟩ : ∃ W0, w.alloc (.cells #[.int .i64 k, .int .i64 n, .slice a m cap] 34) = W0 := ⟨_, rfl⟩
  have hx0 : W0.heap[w.heap.size]? = some (.cells #[.int .i64 k, .int .i64 n, .slice a m cap] 34 (0, 0)) := by rw [← hW0]; exact block_new rfl
  have hb0 : Below w.heap.size w W0 := by rw [← hW0]; exact (Below.refl _ _).alloc (Nat.le_refl _) _
  have HT := Lib.hid (hT.below hb0)
  have HX0 := Lib.hid hx0
  have HW0 := Lib.hid hW0
  have HB0 := Lib.hid hb0
  clear hs hT hd hB hx0 hW0 hb0
  go_enter Try.func40, Try.ntmps40
  go_wp2_with fail
  rw [HW0.out]
  go_loopw [3, 4] (fun v i wr => ∃ j : Nat, j ≤ m ∧ i = .int .i64 j ∧ Own .i64 3 W0 wr v j (fun i => (Tr.kid t.kids i).num)) (fun _ i _ => m - (intOf i).toNat)
  case atStart => exact ⟨0, Nat.zero_le _, rfl, World.ownsRow_nil _ _ _ _, Below.refl _ _⟩
  case round =>
    obtain ⟨j, hj, rfl, hown⟩ := hrel
    have hX := (hown.below.block _ (block_lt HX0.out)).trans HX0.out
    have x0 : wr.cell? ⟨w.heap.size, 0, none⟩ = some (.int .i64 k) := block_cell hX 0
    have x1 : wr.cell? ⟨w.heap.size, 1, none⟩ = some (.int .i64 n) := block_cell hX 1
    have x2 : wr.cell? ⟨w.heap.size, 2, none⟩ = some (.slice a m cap) := block_cell hX 2
    clear hX
    by_cases hlt : j < m
    · obtain ⟨b, off, rfl, hbl, c0, d0⟩ := (HT.out.below hown.below).knum j hlt
      obtain ⟨kk, hkk⟩ : ∃ kk, (Tr.kid t.kids j).num = kk := ⟨_, rfl⟩
      rw [hkk] at c0 d0
      have HKK := Lib.hid hkk
      clear hkk
      have g1 : (0 : Int) ≤ (j : Int) := by omega
      have g2 : (j : Int) < (m : Int) := by omega
      go_wp2_with (at_builtin; refine wpList_append_own _ rfl _ _ 68 rfl W0.heap.size 3 i0 (.int .i64 0) 1 8 Try.underlying68 hi hz0 hz1 hz2 rfl (by decide) _ _ _ rfl (hown.own.alloc _) ⟨wr.heap.size, 0, none⟩ 1 1 [.int .i64 kk] rfl rfl (cell_one_new _ _ _) (one_cell _ _) (by unfold maxLen; omega) (by omega) (size_alloc_le hown.below _) ?_)
      intro v' w2 hown2 hgrow _
      have HPU := Lib.hid (hown.push kk HKK.out.symm hown2 hgrow)
      clear hown hown2 hgrow x0 x1 x2 c0
      go_wp2_with fail
      go_roundw
      case rel => exact ⟨j + 1, by omega, by go_num, HPU.out⟩
      case measure => simp [intOf]; omega
    · have hjm : j = m := by omega
      subst hjm
      obtain ⟨a3, c3, rfl, hca, hg⟩ := own_slice2 hown.own
      have hbe : Below w.heap.size w wr := chain HB0.out hown.below
      have HBE := Lib.hid hbe
      clear hbe hlt
      have HG := HN
      have HF : Hid (nodeB k n j (Tr.kid t.kids 0).num (Tr.kid t.kids 1).num = false) := by unfold Hid nodeB; rw [if_neg (by omega), if_neg (by omega), if_neg (by omega), if_neg (by omega), if_neg (by omega), if_neg (by omega), if_neg (by omega)]
      rw [HF.out] at HG
      have e1 : (k == 1) = false := bno (by omega)
      have e2 : (k == 2) = false := bno (by omega)
      have e3 : (k == 3) = false := bno (by omega)
      have e4 : (k == 4) = false := bno (by omega)
      have e5 : (k == 5) = false := bno (by omega)
      have e6 : (k == 6) = false := bno (by omega)
      have e7 : (k == 7) = false := bno (by omega)
      clear hown hg hk
      go_wp2_with fail
      go_ret
      exact ⟨ret_bool (by rw [HG.out]; skip), HBE.out⟩
theorem ref14_Node (t : Tr) (k n : Int) (a : Option Addr) (m cap : Nat) (w : World) (F : Nat → Prop) (hs : t.size ≤ 4194304) (hT : IsT w F k n a m cap t) :
    Calls Try.prog 40 #[.agg #[.int .i64 k, .int .i64 n, .slice a m cap]] w fun e w' => e = .returned (.bool (nodeOk t)) ∧ Below w.heap.size w w' := by
  by_cases h : k < 1 ∨ 7 < k
  · exact ref14_Node_0 t k n a m cap w F hs hT h
  · rcases (show k = 1 ∨ k = 2 ∨ k = 3 ∨ k = 4 ∨ k = 5 ∨ k = 6 ∨ k = 7 by omega) with rfl | rfl | rfl | rfl | rfl | rfl | rfl
    · exact ref14_Node_1 t n a m cap w F hs hT
    · exact ref14_Node_2 t n a m cap w F hs hT
    · exact ref14_Node_3 t n a m cap w F hs hT
    · exact ref14_Node_4 t n a m cap w F hs hT
    · exact ref14_Node_5 t n a m cap w F hs hT
    · exact ref14_Node_6 t n a m cap w F hs hT
    · exact ref14_Node_7 t n a m cap w F hs hT
end Go.Proofs.Ytonffapiamhdbaa

namespace Go.Proofs.Ytonffapiamhdbaa
open Go.RowKit
set_option linter.unusedVariables false
set_option linter.unusedSimpArgs false
set_option maxRecDepth 100000
set_option maxRecDepth 20000
namespace Tr
/-- The first node that is not right is there just where not all nodes are right. -/
theorem wrong_all' (N : Nat) : ∀ t : Tr, t.size ≤ N → (t.wrong.isSome = false ↔ ∀ u ∈ t.nodes, nodeOk u = true) := by
  induction N with
  | zero => intro t h; have := size_pos t; omega
  | succ N ih =>
    intro t h
    rw [size_kids] at h
    have hL : ∀ (ks : List Tr) (i : Nat), sizeL ks ≤ N → ((wrongL i ks).isSome = false ↔ ∀ u ∈ nodesL ks, nodeOk u = true) := by
      intro ks
      induction ks with
      | nil => intro i _; simp [wrongL, nodesL]
      | cons x r ih2 =>
        intro i hs
        simp only [sizeL] at hs
        have hx := ih x (by omega)
        simp only [wrongL, nodesL, List.mem_append]
        cases hw : wrong x with
        | none =>
          rw [hw] at hx
          simp only []
          rw [ih2 (i + 1) (by omega)]
          constructor
          · intro h u hu
            rcases hu with hu | hu
            · exact hx.1 rfl u hu
            · exact h u hu
          · intro h u hu; exact h u (.inr hu)
        | some p =>
          rw [hw] at hx
          simp only [Option.isSome_some, Bool.true_eq_false, false_iff]
          intro h
          have := hx.2 (fun u hu => h u (.inl hu))
          simp at this
    rw [wrong_kids, nodes_kids]
    by_cases hn : nodeOk t = true
    · rw [if_pos hn, hL t.kids 0 (by omega)]
      constructor
      · intro h u hu
        rcases List.mem_cons.1 hu with rfl | hu
        · exact hn
        · exact h u hu
      · intro h u hu; exact h u (List.mem_cons.2 (.inr hu))
    · rw [if_neg hn]
      simp only [Option.isSome_some, Bool.true_eq_false, false_iff]
      intro h; exact hn (h t (by simp))
theorem wrong_all (t : Tr) : t.wrong.isSome = false ↔ ∀ u ∈ t.nodes, nodeOk u = true := wrong_all' _ t (Nat.le_refl _)
theorem nodes_le' (N : Nat) : ∀ t : Tr, t.size ≤ N → ∀ u ∈ t.nodes, u.size ≤ t.size := by
  induction N with
  | zero => intro t h; have := size_pos t; omega
  | succ N ih =>
    intro t h u hu
    rw [nodes_kids] at hu
    rcases List.mem_cons.1 hu with rfl | hu
    · exact Nat.le_refl _
    · have hk : ∀ ks : List Tr, sizeL ks ≤ N → u ∈ nodesL ks → u.size ≤ sizeL ks := by
        intro ks
        induction ks with
        | nil => intro _ h; simp [nodesL] at h
        | cons x r ih2 =>
          intro hs hu
          simp only [nodesL, List.mem_append] at hu
          simp only [sizeL] at hs ⊢
          rcases hu with hu | hu
          · have := ih x (by omega) u hu; omega
          · have := ih2 (by omega) hu; omega
      rw [size_kids t] at h ⊢
      have := hk t.kids (by omega) hu
      omega
theorem nodes_le (t : Tr) : ∀ u ∈ t.nodes, u.size ≤ t.size := nodes_le' _ t (Nat.le_refl _)
end Tr
set_option maxHeartbeats 4000000 in
theorem ref14_Check (t : Tr) (k n : Int) (a : Option Addr) (m cap : Nat) (w : World) (B : Nat) (hB : B ≤ w.heap.size) (hs : t.size ≤ 4194304) (hT : IsT w (Lt B) k n a m cap t) :
    Calls Try.prog 34 #[.agg #[.int .i64 k, .int .i64 n, .slice a m cap]] w fun e w' => e = .returned (.int .i64 (chk t)) ∧ Below w.heap.size w w' := by
  obtain ⟨q, hq⟩ : ∃ q, t.size = q := ⟨_, rfl⟩
  have hnl : t.nodes.length = q := by rw [Tr.nodes_len _ t (Nat.le_refl _), hq]
  have CL : Hid (∀ W, Below w.heap.size w W → Calls Try.prog 31 #[.agg #[.int .i64 k, .int .i64 n, .slice a m cap]] W fun e w' => ∃ g cp xs, e = .returned (.slice (some ⟨g, 0, none⟩) q cp) ∧ w'.ownsRow W.heap.size 34 3 (.slice (some ⟨g, 0, none⟩) q cp) q xs ∧ CellsT w' (Lt B) xs t.nodes ∧ Below W.heap.size W w') := fun W hb => by
    have := ref_List 4194304 B (by omega) t k n a m cap W (by omega) (hT.below hb) (Nat.le_trans hB hb.size)
    unfold GivesT at this
    rw [hnl] at this
    exact this
  have CD : Hid (∀ W, Below w.heap.size w W → Calls Try.prog 39 #[.agg #[.int .i64 k, .int .i64 n, .slice a m cap]] W fun e w' => e = .returned (.int .i64 (t.depth : Nat)) ∧ Below W.heap.size W w') := fun W hb => ref13_Depth 4194304 (by omega) t k n a m cap W _ (by omega) (hT.below hb)
  have HC : Hid (chk t = if decide (60 < q) || decide (12 < t.depth) then 12 else if t.wrong.isSome then 8 else 0) := by unfold Hid chk bigB; rw [hq]
  have hsz : ∀ u ∈ t.nodes, u.size ≤ 4194304 := fun u hu => Nat.le_trans (Tr.nodes_le t u hu) hs
  have HSZ := Lib.hid hsz
  obtain ⟨d, hd⟩ : ∃ d, t.depth = d := ⟨_, rfl⟩
  rw [hd] at CD HC
  rw [HC.out]
  have HNL := Lib.hid hnl
  have HWA := Lib.hid (Tr.wrong_all t)
  obtain ⟨R, hR⟩ : ∃ R, t.wrong.isSome = R := ⟨_, rfl⟩
  rw [hR] at HWA ⊢
  obtain ⟨ns, hns⟩ : ∃ ns, t.nodes = ns := ⟨_, rfl⟩
  rw [hns] at CL HNL HWA HSZ
  clear hsz hR hd hnl HC hT hns hs hq
  by_cases h60 : 60 < q
  · have t1 : decide ((q : Int) > 60) = true := by simp; omega
    have t2 : (60 : Int) < (q : Int) := by omega
    rw [if_pos (by simp [h60])]
    go_enter Try.func34, Try.ntmps34
    go_wp2_with fail
    refine (CL.out _ ((Below.refl _ _).alloc (Nat.le_refl _) _)).mono ?_; rintro e w1 ⟨g, cp, xs, rfl, ho, hct, hb1⟩
    have hb := chainA (Below.refl w.heap.size w) hb1
    clear ho hct hb1
    go_wp2_with fail
    go_ret
    exact ⟨rfl, hb⟩
  · have t1 : decide ((q : Int) > 60) = false := by simp; omega
    have t2 : ¬ (60 : Int) < (q : Int) := by omega
    rw [show decide (60 < q) = false by simp; omega, Bool.false_or]
    by_cases h12 : 12 < d
    · have t3 : decide ((d : Int) > 12) = true := by simp; omega
      have t4 : (12 : Int) < (d : Int) := by omega
      rw [if_pos (by simp [h12])]
      go_enter Try.func34, Try.ntmps34
      go_wp2_with fail
      refine (CL.out _ ((Below.refl _ _).alloc (Nat.le_refl _) _)).mono ?_; rintro e w1 ⟨g, cp, xs, rfl, ho, hct, hb1⟩
      have hb := chainA (Below.refl w.heap.size w) hb1
      have hx := (hb1.block w.heap.size (by simp)).trans (block_new rfl)
      have x0 : w1.cell? ⟨w.heap.size, 0, none⟩ = some (.int .i64 k) := block_cell hx 0
      have x1 : w1.cell? ⟨w.heap.size, 1, none⟩ = some (.int .i64 n) := block_cell hx 1
      have x2 : w1.cell? ⟨w.heap.size, 2, none⟩ = some (.slice a m cap) := block_cell hx 2
      have HBL := Lib.hid hb
      clear ho hct hb1 hx hb
      go_wp2_with fail
      refine (CD.out _ HBL.out).mono ?_; rintro e w2 ⟨rfl, hb2⟩
      have hb := chain HBL.out hb2
      clear hb2 x0 x1 x2
      go_wp2_with fail
      go_ret
      exact ⟨rfl, hb⟩
    · have t3 : decide ((d : Int) > 12) = false := by simp; omega
      have t4 : ¬ (12 : Int) < (d : Int) := by omega
      rw [if_neg (by simp; omega)]
      obtain ⟨V, hV⟩ : ∃ V : Int, (if R = true then (8 : Int) else 0) = V := ⟨_, rfl⟩
      rw [hV]
      have HVV := Lib.hid hV
      clear hV
      go_enter Try.func34, Try.ntmps34
      go_wp2_with fail
      refine (CL.out _ ((Below.refl _ _).alloc (Nat.le_refl _) _)).mono ?_; rintro e w1 ⟨g, cp, xs, rfl, ho, hct, hb1⟩
      have hb := chainA (Below.refl w.heap.size w) hb1
      have hx := (hb1.block w.heap.size (by simp)).trans (block_new rfl)
      have x0 : w1.cell? ⟨w.heap.size, 0, none⟩ = some (.int .i64 k) := block_cell hx 0
      have x1 : w1.cell? ⟨w.heap.size, 1, none⟩ = some (.int .i64 n) := block_cell hx 1
      have x2 : w1.cell? ⟨w.heap.size, 2, none⟩ = some (.slice a m cap) := block_cell hx 2
      have HBL := Lib.hid hb
      have OW := Lib.hid ho
      have CT := Lib.hid hct
      clear ho hct hb1 hx hb
      go_wp2_with fail
      refine (CD.out _ HBL.out).mono ?_; rintro e w2 ⟨rfl, hb2⟩
      have HBL := Lib.hid (chain HBL.out hb2)
      have OW := Lib.hid (own_later3 OW.out hb2)
      have CT := Lib.hid (CT.out.later hb2)
      clear hb2 x0 x1 x2
      go_wp2_with fail
      go_loopw [4] (fun i wr => ∃ j : Nat, j ≤ q ∧ i = .int .i64 j ∧ Below w2.heap.size w2 wr ∧ Hid (∀ i, i < j → nodeOk (Tr.kid ns i) = true)) (fun i _ => q - (intOf i).toNat)
      case atStart => exact ⟨0, Nat.zero_le _, rfl, Below.refl _ _, fun i hi => by omega⟩
      case round =>
        obtain ⟨j, hj, rfl, hbel, HA⟩ := hrel
        by_cases hlt : j < q
        · obtain ⟨k2, n2, a2, m2, c2, e0, e1, e2, hT2⟩ := own_cells (own_later3 OW.out hbel) (CT.out.later hbel) HNL.out j hlt
          simp only [Nat.zero_add] at e0 e1 e2
          have hmem : Tr.kid ns j ∈ ns := Tr.kid_mem (by rw [HNL.out]; exact hlt)
          obtain ⟨B2, hB2⟩ : ∃ B2, nodeOk (Tr.kid ns j) = B2 := ⟨_, rfl⟩
          have CN : Hid (∀ W, Below wr.heap.size wr W → Calls Try.prog 40 #[.agg #[.int .i64 k2, .int .i64 n2, .slice a2 m2 c2]] W fun e w' => e = .returned (.bool B2) ∧ Below W.heap.size W w') := fun W hb => by
            rw [← hB2]; exact ref14_Node _ k2 n2 a2 m2 c2 W _ (HSZ.out _ hmem) (hT2.below hb)
          have HB2 := Lib.hid hB2
          have HMEM := Lib.hid hmem
          have g1 : (0 : Int) ≤ (j : Int) := by omega
          have g2 : (j : Int) < (q : Int) := by omega
          clear hT2 hmem hB2
          cases B2 with
          | true =>
            go_wp2_with fail
            refine (CN.out _ (Below.refl _ _)).mono ?_; rintro e w3 ⟨rfl, hb3⟩
            have HBB := Lib.hid (chain hbel hb3)
            clear hb3 e0 e1 e2
            go_wp2_with fail
            go_roundw
            case rel =>
              refine ⟨j + 1, by omega, by go_num, HBB.out, fun i hi => ?_⟩
              by_cases hij : i < j
              · exact HA.out i hij
              · obtain rfl : i = j := by omega
                exact HB2.out
            case measure => simp [intOf]; omega
          | false =>
            go_wp2_with fail
            refine (CN.out _ (Below.refl _ _)).mono ?_; rintro e w3 ⟨rfl, hb3⟩
            have HBB := Lib.hid (chain HBL.out (chain hbel hb3))
            clear hb3 e0 e1 e2
            have HRR : Hid (R = true) := by
              unfold Hid
              cases R with
              | true => rfl
              | false => have := HWA.out.1 rfl _ HMEM.out; rw [HB2.out] at this; cases this
            go_wp2_with fail
            go_ret
            exact ⟨ret_int (by rw [← HVV.out, HRR.out]; rfl), HBB.out⟩
        · have hjq : j = q := by omega
          have HRR : Hid (R = false) := by
            unfold Hid
            rw [HWA.out]
            intro u hu
            obtain ⟨i, hi, rfl⟩ := List.getElem_of_mem hu
            have := HA.out i (by have := HNL.out; omega)
            rwa [Tr.kid_get hi] at this
          have HBB := Lib.hid (chain HBL.out hbel)
          clear HA hbel
          go_wp2_with fail
          go_ret
          exact ⟨ret_int (by rw [← HVV.out, HRR.out]; rfl), HBB.out⟩
end Go.Proofs.Ytonffapiamhdbaa

namespace Go.Proofs.Ytonffapiamhdbaa
open Go.RowKit
set_option linter.unusedVariables false
set_option linter.unusedSimpArgs false
set_option maxRecDepth 100000
set_option maxRecDepth 20000
set_option maxHeartbeats 2000000 in
theorem valid_For (K D : Int) (t : Tr) (k n : Int) (a : Option Addr) (m cap : Nat) (w : World) (B : Nat) (hB : B ≤ w.heap.size) (hK : -9223372036854775808 ≤ K ∧ K < 9223372036854775808) (hs : t.size ≤ 4194304) (hT : IsT w (Lt B) k n a m cap t) :
    Calls Try.prog 32 #[.agg #[.int .i64 K, .int .i64 D], .agg #[.int .i64 k, .int .i64 n, .slice a m cap]] w fun e w' => e = .returned (.int .i64 (forK K D t)) ∧ Below w.heap.size w w' := by
  have en := hT.en
  have CK : Hid (∀ W, Below w.heap.size w W → Calls Try.prog 38 #[.agg #[.int .i64 k, .int .i64 n, .slice a m cap]] W fun e w' => e = .returned (.int .i64 (chk t)) ∧ Below W.heap.size W w') := fun W hb => valid_Check t k n a m cap W (Lt B) hs (hT.below hb)
  have HF : Hid (forK K D t = if hasSz K = false then 4 else if D ≠ 0 ∧ D ≠ 1 then 2 else if chk t ≠ 0 then chk t else if n ≠ K then 8 else 0) := by unfold Hid forK; rw [en]
  rw [HF.out]
  obtain ⟨C, hC⟩ : ∃ C, chk t = C := ⟨_, rfl⟩
  rw [hC] at CK ⊢
  clear hT hs hC HF en
  obtain ⟨W0, hW0, hb0, x0, x1⟩ := key_box w K D k n a m cap 24 34
  have HW0 := Lib.hid hW0
  have HB := Lib.hid hb0
  have KX := Lib.hid x0
  have DX := Lib.hid x1
  have k0 : W0.cell? ⟨w.heap.size, 0, none⟩ = some (.int .i64 K) := block_cell x0 0
  have k1 : W0.cell? ⟨w.heap.size, 1, none⟩ = some (.int .i64 D) := block_cell x0 1
  have d0 : W0.cell? ⟨w.heap.size + 1, 0, none⟩ = some (.int .i64 k) := block_cell x1 0
  have d1 : W0.cell? ⟨w.heap.size + 1, 1, none⟩ = some (.int .i64 n) := block_cell x1 1
  have d2 : W0.cell? ⟨w.heap.size + 1, 2, none⟩ = some (.slice a m cap) := block_cell x1 2
  clear hW0 hb0 x0 x1
  by_cases hsz : hasSz K = true
  case neg =>
    have hsz' : hasSz K = false := by simpa using hsz
    have HS : Hid (∀ W, Calls Try.prog 37 #[.int .i64 K] W fun e w' => e = .returned (.bool false) ∧ W = w') := fun W => rootHas_no K W hsz' hK
    rw [if_pos hsz']
    clear hsz hsz'
    go_enter Try.func32, Try.ntmps32
    go_wp2_with fail
    rw [HW0.out]
    refine (HS.out _).mono ?_; rintro e w1 ⟨rfl, rfl⟩
    go_wp2_with fail
    go_ret
    exact ⟨rfl, HB.out⟩
  have HS : Hid (∀ W, Calls Try.prog 37 #[.int .i64 K] W fun e w' => e = .returned (.bool true) ∧ W = w') := fun W => rootHas_yes K W hsz
  rw [if_neg (by simp [hsz])]
  clear hsz
  by_cases hd : D ≠ 0 ∧ D ≠ 1
  · rw [if_pos hd]
    have t0 : (D != 0) = true := bdiff hd.1
    have t1 : (D != 1) = true := bdiff hd.2
    clear hd
    go_enter Try.func32, Try.ntmps32
    go_wp2_with fail
    rw [HW0.out]
    refine (HS.out _).mono ?_; rintro e w1 ⟨rfl, rfl⟩
    go_wp2_with fail
    go_ret
    exact ⟨rfl, HB.out⟩
  rw [if_neg hd]
  rcases (show D = 0 ∨ D = 1 by omega) with rfl | rfl
  all_goals
    clear hd
    rcases (show C ≠ 0 ∨ (C = 0 ∧ n ≠ K) ∨ (C = 0 ∧ n = K) by omega) with hc | ⟨hc, hn⟩ | ⟨hc, hn⟩
    · rw [if_pos hc]
      have tc : (C != 0) = true := bdiff hc
      clear hc
      go_enter Try.func32, Try.ntmps32
      go_wp2_with fail
      rw [HW0.out]
      refine (HS.out _).mono ?_; rintro e w1 ⟨rfl, rfl⟩
      go_wp2_with fail
      refine (CK.out _ HB.out).mono ?_; rintro e w2 ⟨rfl, hb⟩
      clear k0 k1 d0 d1 d2
      have KX := Lib.hid ((hb.block _ (block_lt KX.out)).trans KX.out)
      have DX := Lib.hid ((hb.block _ (block_lt DX.out)).trans DX.out)
      have HB := Lib.hid (chain HB.out hb)
      have k0 : w2.cell? ⟨w.heap.size, 0, none⟩ = some (.int .i64 K) := block_cell KX.out 0
      have k1 : w2.cell? ⟨w.heap.size, 1, none⟩ = some (.int .i64 _) := block_cell KX.out 1
      have d0 : w2.cell? ⟨w.heap.size + 1, 0, none⟩ = some (.int .i64 k) := block_cell DX.out 0
      have d1 : w2.cell? ⟨w.heap.size + 1, 1, none⟩ = some (.int .i64 n) := block_cell DX.out 1
      have d2 : w2.cell? ⟨w.heap.size + 1, 2, none⟩ = some (.slice a m cap) := block_cell DX.out 2
      clear hb
      go_wp2_with fail
      go_ret
      exact ⟨rfl, HB.out⟩
    · subst hc
      rw [if_neg (by simp), if_pos hn]
      have tn : (n != K) = true := bdiff hn
      clear hn
      go_enter Try.func32, Try.ntmps32
      go_wp2_with fail
      rw [HW0.out]
      refine (HS.out _).mono ?_; rintro e w1 ⟨rfl, rfl⟩
      go_wp2_with fail
      refine (CK.out _ HB.out).mono ?_; rintro e w2 ⟨rfl, hb⟩
      clear k0 k1 d0 d1 d2
      have KX := Lib.hid ((hb.block _ (block_lt KX.out)).trans KX.out)
      have DX := Lib.hid ((hb.block _ (block_lt DX.out)).trans DX.out)
      have HB := Lib.hid (chain HB.out hb)
      have k0 : w2.cell? ⟨w.heap.size, 0, none⟩ = some (.int .i64 K) := block_cell KX.out 0
      have k1 : w2.cell? ⟨w.heap.size, 1, none⟩ = some (.int .i64 _) := block_cell KX.out 1
      have d0 : w2.cell? ⟨w.heap.size + 1, 0, none⟩ = some (.int .i64 k) := block_cell DX.out 0
      have d1 : w2.cell? ⟨w.heap.size + 1, 1, none⟩ = some (.int .i64 n) := block_cell DX.out 1
      have d2 : w2.cell? ⟨w.heap.size + 1, 2, none⟩ = some (.slice a m cap) := block_cell DX.out 2
      clear hb
      go_wp2_with fail
      go_ret
      exact ⟨rfl, HB.out⟩
    · subst hc
      rw [if_neg (by simp), if_neg (by simp [hn])]
      have tn : (n != K) = false := bfalse hn
      clear hn
      go_enter Try.func32, Try.ntmps32
      go_wp2_with fail
      rw [HW0.out]
      refine (HS.out _).mono ?_; rintro e w1 ⟨rfl, rfl⟩
      go_wp2_with fail
      refine (CK.out _ HB.out).mono ?_; rintro e w2 ⟨rfl, hb⟩
      clear k0 k1 d0 d1 d2
      have KX := Lib.hid ((hb.block _ (block_lt KX.out)).trans KX.out)
      have DX := Lib.hid ((hb.block _ (block_lt DX.out)).trans DX.out)
      have HB := Lib.hid (chain HB.out hb)
      have k0 : w2.cell? ⟨w.heap.size, 0, none⟩ = some (.int .i64 K) := block_cell KX.out 0
      have k1 : w2.cell? ⟨w.heap.size, 1, none⟩ = some (.int .i64 _) := block_cell KX.out 1
      have d0 : w2.cell? ⟨w.heap.size + 1, 0, none⟩ = some (.int .i64 k) := block_cell DX.out 0
      have d1 : w2.cell? ⟨w.heap.size + 1, 1, none⟩ = some (.int .i64 n) := block_cell DX.out 1
      have d2 : w2.cell? ⟨w.heap.size + 1, 2, none⟩ = some (.slice a m cap) := block_cell DX.out 2
      clear hb
      go_wp2_with fail
      go_ret
      exact ⟨rfl, HB.out⟩
set_option maxHeartbeats 2000000 in
theorem ref14_For (K D : Int) (t : Tr) (k n : Int) (a : Option Addr) (m cap : Nat) (w : World) (B : Nat) (hB : B ≤ w.heap.size) (hK : -9223372036854775808 ≤ K ∧ K < 9223372036854775808) (hs : t.size ≤ 4194304) (hT : IsT w (Lt B) k n a m cap t) :
    Calls Try.prog 24 #[.agg #[.int .i64 K, .int .i64 D], .agg #[.int .i64 k, .int .i64 n, .slice a m cap]] w fun e w' => e = .returned (.int .i64 (forK K D t)) ∧ Below w.heap.size w w' := by
  have en := hT.en
  have CK : Hid (∀ W, Below w.heap.size w W → Calls Try.prog 34 #[.agg #[.int .i64 k, .int .i64 n, .slice a m cap]] W fun e w' => e = .returned (.int .i64 (chk t)) ∧ Below W.heap.size W w') := fun W hb => ref14_Check t k n a m cap W B (Nat.le_trans hB hb.size) hs (hT.below hb)
  have HF : Hid (forK K D t = if hasSz K = false then 4 else if D ≠ 0 ∧ D ≠ 1 then 2 else if chk t ≠ 0 then chk t else if n ≠ K then 8 else 0) := by unfold Hid forK; rw [en]
  rw [HF.out]
  obtain ⟨C, hC⟩ : ∃ C, chk t = C := ⟨_, rfl⟩
  rw [hC] at CK ⊢
  clear hT hs hC HF en
  obtain ⟨W0, hW0, hb0, x0, x1⟩ := key_box w K D k n a m cap 24 34
  have HW0 := Lib.hid hW0
  have HB := Lib.hid hb0
  have KX := Lib.hid x0
  have DX := Lib.hid x1
  have k0 : W0.cell? ⟨w.heap.size, 0, none⟩ = some (.int .i64 K) := block_cell x0 0
  have k1 : W0.cell? ⟨w.heap.size, 1, none⟩ = some (.int .i64 D) := block_cell x0 1
  have d0 : W0.cell? ⟨w.heap.size + 1, 0, none⟩ = some (.int .i64 k) := block_cell x1 0
  have d1 : W0.cell? ⟨w.heap.size + 1, 1, none⟩ = some (.int .i64 n) := block_cell x1 1
  have d2 : W0.cell? ⟨w.heap.size + 1, 2, none⟩ = some (.slice a m cap) := block_cell x1 2
  clear hW0 hb0 x0 x1
  by_cases hsz : hasSz K = true
  case neg =>
    have hsz' : hasSz K = false := by simpa using hsz
    have HS : Hid (∀ W, Calls Try.prog 33 #[.int .i64 K] W fun e w' => e = .returned (.bool false) ∧ W = w') := fun W => refHas_no K W hsz' hK
    rw [if_pos hsz']
    clear hsz hsz'
    go_enter Try.func24, Try.ntmps24
    go_wp2_with fail
    rw [HW0.out]
    refine (HS.out _).mono ?_; rintro e w1 ⟨rfl, rfl⟩
    go_wp2_with fail
    go_ret
    exact ⟨rfl, HB.out⟩
  have HS : Hid (∀ W, Calls Try.prog 33 #[.int .i64 K] W fun e w' => e = .returned (.bool true) ∧ W = w') := fun W => refHas_yes K W hsz
  rw [if_neg (by simp [hsz])]
  clear hsz
  by_cases hd : D ≠ 0 ∧ D ≠ 1
  · rw [if_pos hd]
    have t0 : (D != 0) = true := bdiff hd.1
    have t1 : (D != 1) = true := bdiff hd.2
    clear hd
    go_enter Try.func24, Try.ntmps24
    go_wp2_with fail
    rw [HW0.out]
    refine (HS.out _).mono ?_; rintro e w1 ⟨rfl, rfl⟩
    go_wp2_with fail
    go_ret
    exact ⟨rfl, HB.out⟩
  rw [if_neg hd]
  rcases (show D = 0 ∨ D = 1 by omega) with rfl | rfl
  all_goals
    clear hd
    rcases (show C ≠ 0 ∨ (C = 0 ∧ n ≠ K) ∨ (C = 0 ∧ n = K) by omega) with hc | ⟨hc, hn⟩ | ⟨hc, hn⟩
    · rw [if_pos hc]
      have tc : (C != 0) = true := bdiff hc
      clear hc
      go_enter Try.func24, Try.ntmps24
      go_wp2_with fail
      rw [HW0.out]
      refine (HS.out _).mono ?_; rintro e w1 ⟨rfl, rfl⟩
      go_wp2_with fail
      refine (CK.out _ HB.out).mono ?_; rintro e w2 ⟨rfl, hb⟩
      clear k0 k1 d0 d1 d2
      have KX := Lib.hid ((hb.block _ (block_lt KX.out)).trans KX.out)
      have DX := Lib.hid ((hb.block _ (block_lt DX.out)).trans DX.out)
      have HB := Lib.hid (chain HB.out hb)
      have k0 : w2.cell? ⟨w.heap.size, 0, none⟩ = some (.int .i64 K) := block_cell KX.out 0
      have k1 : w2.cell? ⟨w.heap.size, 1, none⟩ = some (.int .i64 _) := block_cell KX.out 1
      have d0 : w2.cell? ⟨w.heap.size + 1, 0, none⟩ = some (.int .i64 k) := block_cell DX.out 0
      have d1 : w2.cell? ⟨w.heap.size + 1, 1, none⟩ = some (.int .i64 n) := block_cell DX.out 1
      have d2 : w2.cell? ⟨w.heap.size + 1, 2, none⟩ = some (.slice a m cap) := block_cell DX.out 2
      clear hb
      go_wp2_with fail
      go_ret
      exact ⟨rfl, HB.out⟩
    · subst hc
      rw [if_neg (by simp), if_pos hn]
      have tn : (n != K) = true := bdiff hn
      clear hn
      go_enter Try.func24, Try.ntmps24
      go_wp2_with fail
      rw [HW0.out]
      refine (HS.out _).mono ?_; rintro e w1 ⟨rfl, rfl⟩
      go_wp2_with fail
      refine (CK.out _ HB.out).mono ?_; rintro e w2 ⟨rfl, hb⟩
      clear k0 k1 d0 d1 d2
      have KX := Lib.hid ((hb.block _ (block_lt KX.out)).trans KX.out)
      have DX := Lib.hid ((hb.block _ (block_lt DX.out)).trans DX.out)
      have HB := Lib.hid (chain HB.out hb)
      have k0 : w2.cell? ⟨w.heap.size, 0, none⟩ = some (.int .i64 K) := block_cell KX.out 0
      have k1 : w2.cell? ⟨w.heap.size, 1, none⟩ = some (.int .i64 _) := block_cell KX.out 1
      have d0 : w2.cell? ⟨w.heap.size + 1, 0, none⟩ = some (.int .i64 k) := block_cell DX.out 0
      have d1 : w2.cell? ⟨w.heap.size + 1, 1, none⟩ = some (.int .i64 n) := block_cell DX.out 1
      have d2 : w2.cell? ⟨w.heap.size + 1, 2, none⟩ = some (.slice a m cap) := block_cell DX.out 2
      clear hb
      go_wp2_with fail
      go_ret
      exact ⟨rfl, HB.out⟩
    · subst hc
      rw [if_neg (by simp), if_neg (by simp [hn])]
      have tn : (n != K) = false := bfalse hn
      clear hn
      go_enter Try.func24, Try.ntmps24
      go_wp2_with fail
      rw [HW0.out]
      refine (HS.out _).mono ?_; rintro e w1 ⟨rfl, rfl⟩
      go_wp2_with fail
      refine (CK.out _ HB.out).mono ?_; rintro e w2 ⟨rfl, hb⟩
      clear k0 k1 d0 d1 d2
      have KX := Lib.hid ((hb.block _ (block_lt KX.out)).trans KX.out)
      have DX := Lib.hid ((hb.block _ (block_lt DX.out)).trans DX.out)
      have HB := Lib.hid (chain HB.out hb)
      have k0 : w2.cell? ⟨w.heap.size, 0, none⟩ = some (.int .i64 K) := block_cell KX.out 0
      have k1 : w2.cell? ⟨w.heap.size, 1, none⟩ = some (.int .i64 _) := block_cell KX.out 1
      have d0 : w2.cell? ⟨w.heap.size + 1, 0, none⟩ = some (.int .i64 k) := block_cell DX.out 0
      have d1 : w2.cell? ⟨w.heap.size + 1, 1, none⟩ = some (.int .i64 n) := block_cell DX.out 1
      have d2 : w2.cell? ⟨w.heap.size + 1, 2, none⟩ = some (.slice a m cap) := block_cell DX.out 2
      clear hb
      go_wp2_with fail
      go_ret
      exact ⟨rfl, HB.out⟩
end Go.Proofs.Ytonffapiamhdbaa

namespace Go.Proofs.Ytonffapiamhdbaa
open Go.RowKit
set_option linter.unusedVariables false
set_option linter.unusedSimpArgs false
set_option maxRecDepth 100000
set_option maxRecDepth 20000
set_option maxHeartbeats 1000000 in
theorem entry_Check (e : Ent) (k n : Int) (a : Option Addr) (m c : Nat) (w : World) (F : Nat → Prop) (hs : e.t.size ≤ 4194304) (hf : fits .i64 e.n) (hT : IsT w F k n a m c e.t) :
    Calls Try.prog 22 #[.agg #[.int .i64 e.n, .int .i64 e.d, .int .i64 k, .int .i64 n, .slice a m c]] w fun r w' => r = .returned (.int .i64 (forK e.n e.d e.t)) ∧ Below w.heap.size w w' := by
  obtain ⟨W0, hW0, hb0, x0⟩ := box_any w #[.int .i64 e.n, .int .i64 e.d, .int .i64 k, .int .i64 n, .slice a m c] 36
  have D0 : W0.cell? ⟨w.heap.size, 0, none⟩ = some (.int .i64 e.n) := block_cell x0 0
  have D1 : W0.cell? ⟨w.heap.size, 1, none⟩ = some (.int .i64 e.d) := block_cell x0 1
  have D2 : W0.cell? ⟨w.heap.size, 2, none⟩ = some (.int .i64 k) := block_cell x0 2
  have D3 : W0.cell? ⟨w.heap.size, 3, none⟩ = some (.int .i64 n) := block_cell x0 3
  have D4 : W0.cell? ⟨w.heap.size, 4, none⟩ = some (.slice a m c) := block_cell x0 4
  have CF : Hid (∀ W, Below W0.heap.size W0 W → Calls Try.prog 32 #[.agg #[.int .i64 e.n, .int .i64 e.d], .agg #[.int .i64 k, .int .i64 n, .slice a m c]] W fun r w' => r = .returned (.int .i64 (forK e.n e.d e.t)) ∧ Below W.heap.size W w') := fun W hb => valid_For e.n e.d e.t k n a m c W W.heap.size (Nat.le_refl _) (fits_i64.1 hf) hs ((hT.below hb0).below hb).lt
  have HB0 := Lib.hid hb0
  have HW0 := Lib.hid hW0
  obtain ⟨C, hC⟩ : ∃ C, forK e.n e.d e.t = C := ⟨_, rfl⟩
  rw [hC] at CF ⊢
  rw [← hW0] at D0 D1 D2 D3 D4
  clear hT hC hb0 x0 hW0
  go_enter Try.func22, Try.ntmps22
  go_wp2_with fail
  rw [HW0.out]
  refine (CF.out _ (Below.refl _ _)).mono ?_; rintro r w1 ⟨rfl, hb1⟩
  have hbe := chain HB0.out hb1
  clear hb1 D0 D1 D2 D3 D4
  go_wp2_with fail
  go_ret
  exact ⟨rfl, hbe⟩
set_option maxHeartbeats 1000000 in
theorem ref24_Check (e : Ent) (k n : Int) (a : Option Addr) (m c : Nat) (w : World) (F : Nat → Prop) (hs : e.t.size ≤ 4194304) (hf : fits .i64 e.n) (hT : IsT w F k n a m c e.t) :
    Calls Try.prog 10 #[.agg #[.int .i64 e.n, .int .i64 e.d, .int .i64 k, .int .i64 n, .slice a m c]] w fun r w' => r = .returned (.int .i64 (forK e.n e.d e.t)) ∧ Below w.heap.size w w' := by
  obtain ⟨W0, hW0, hb0, x0⟩ := box_any w #[.int .i64 e.n, .int .i64 e.d, .int .i64 k, .int .i64 n, .slice a m c] 36
  have D0 : W0.cell? ⟨w.heap.size, 0, none⟩ = some (.int .i64 e.n) := block_cell x0 0
  have D1 : W0.cell? ⟨w.heap.size, 1, none⟩ = some (.int .i64 e.d) := block_cell x0 1
  have D2 : W0.cell? ⟨w.heap.size, 2, none⟩ = some (.int .i64 k) := block_cell x0 2
  have D3 : W0.cell? ⟨w.heap.size, 3, none⟩ = some (.int .i64 n) := block_cell x0 3
  have D4 : W0.cell? ⟨w.heap.size, 4, none⟩ = some (.slice a m c) := block_cell x0 4
  have CF : Hid (∀ W, Below W0.heap.size W0 W → Calls Try.prog 24 #[.agg #[.int .i64 e.n, .int .i64 e.d], .agg #[.int .i64 k, .int .i64 n, .slice a m c]] W fun r w' => r = .returned (.int .i64 (forK e.n e.d e.t)) ∧ Below W.heap.size W w') := fun W hb => ref14_For e.n e.d e.t k n a m c W W.heap.size (Nat.le_refl _) (fits_i64.1 hf) hs ((hT.below hb0).below hb).lt
  have HB0 := Lib.hid hb0
  have HW0 := Lib.hid hW0
  obtain ⟨C, hC⟩ : ∃ C, forK e.n e.d e.t = C := ⟨_, rfl⟩
  rw [hC] at CF ⊢
  rw [← hW0] at D0 D1 D2 D3 D4
  clear hT hC hb0 x0 hW0
  go_enter Try.func10, Try.ntmps10
  go_wp2_with fail
  rw [HW0.out]
  refine (CF.out _ (Below.refl _ _)).mono ?_; rintro r w1 ⟨rfl, hb1⟩
  have hbe := chain HB0.out hb1
  clear hb1 D0 D1 D2 D3 D4
  go_wp2_with fail
  go_ret
  exact ⟨rfl, hbe⟩
end Go.Proofs.Ytonffapiamhdbaa

namespace Go.Proofs.Ytonffapiamhdbaa
open Go.RowKit
set_option linter.unusedVariables false
set_option linter.unusedSimpArgs false
set_option maxRecDepth 100000
set_option maxRecDepth 20000
theorem info_entry : (Try.prog.info? 36).map (fun i => (i.zero, i.size, i.bytes)) = some (some (.agg #[.int .i64 0, .int .i64 0, .int .i64 0, .int .i64 0, .slice none 0 0]), 5, 56) := by kernel_rfl
/-- A result: entries in blocks of the call's own. -/
def GivesI (l : List Ent) (w : World) (e : Ending) (w' : World) : Prop :=
  ∃ a m c, e = .returned (.slice a m c) ∧ IsE w' (fun b => w.heap.size ≤ b) a m c l ∧ Below w.heap.size w w'
theorem srt_below {w w1 w' : World} {g : Nat} {B : Nat} (h0 : Below B w w1) (h : w1.grownBy w' (some g)) (hB : B ≤ g) (hs : B ≤ w1.heap.size) : Below B w w' := h0.grown h hs (fun k hk => by injection hk with e; omega)
theorem cell_five_new (w : World) (x y z u v : Value) (t : TypeId) : ∀ j s, [x, y, z, u, v][j]? = some s → (w.alloc (.cells #[x, y, z, u, v] t)).cell? ((⟨w.heap.size, 0, none⟩ : Addr).add j) = some s := by
  intro j s hj
  match j, hj with
  | 0, hj => simp at hj; subst hj; simp [Addr.add]
  | 1, hj => simp at hj; subst hj; simp [Addr.add]
  | 2, hj => simp at hj; subst hj; simp [Addr.add]
  | 3, hj => simp at hj; subst hj; simp [Addr.add]
  | 4, hj => simp at hj; subst hj; simp [Addr.add]
theorem one_five (x y k n : Int) (a : Option Addr) (m c : Nat) : ∀ u ∈ [Value.int .i64 x, Value.int .i64 y, Value.int .i64 k, Value.int .i64 n, Value.slice a m c], u.oneCell' = true := by
  intro u hu
  simp only [List.mem_cons, List.not_mem_nil, or_false] at hu
  rcases hu with rfl | rfl | rfl | rfl | rfl <;> rfl
/-- One entry more, its tree a copy. -/
theorem ent_round {w wr W0 w1 w2 : World} {T : TypeId} {B : Nat} {v : Value} {j g3 c3 : Nat} {xs : List Value} {es : List Ent} {k2 n2 : Int} {a2 : Option Addr} {m2 c2 : Nat} {e : Ent} {o : Obj} (hB : B = w.heap.size + 1)
    (hown : wr.ownsRow B T 5 v j xs) (HC : CellsE wr (Fr B wr v) xs es) (hbel : Below w.heap.size w wr) (hBr : B ≤ wr.heap.size) (hbW : Below wr.heap.size wr W0) (hs0 : W0.heap.size = wr.heap.size + 1)
    (hS : IsS w1 (Iv W0.drew.heap.size w1.heap.size) k2 n2 a2 m2 c2 e.t) (hb1 : Below W0.drew.heap.size W0.drew w1) (hf : fits .i64 e.n ∧ fits .i64 e.d)
    (hown3 : w2.ownsRow B T 5 (.slice (some ⟨g3, 0, none⟩) (j + 1) c3) (j + 1) (xs ++ [.int .i64 e.n, .int .i64 e.d, .int .i64 k2, .int .i64 n2, .slice a2 m2 c2])) (hgrow : (w1.alloc o).grownBy w2 v.ownBlock) (hat : v.ownBlock = some g3 ∨ g3 = w1.heap.size + 1) :
    CellsE w2 (Fr B w2 (.slice (some ⟨g3, 0, none⟩) (j + 1) c3)) (xs ++ [.int .i64 e.n, .int .i64 e.d, .int .i64 k2, .int .i64 n2, .slice a2 m2 c2]) (es ++ [e]) ∧ Below w.heap.size w w2 ∧ w2.heap[w.heap.size]? = wr.heap[w.heap.size]? ∧ B ≤ w2.heap.size := by
  have hd : W0.drew.heap.size = W0.heap.size := rfl
  have hs1 := hb1.size
  have hgs : (w1.alloc o).heap.size ≤ w2.heap.size := hgrow.size
  have hal : (w1.alloc o).heap.size = w1.heap.size + 1 := by simp
  have hw1 : ∀ b, b < wr.heap.size → w1.heap[b]? = wr.heap[b]? := fun b hb => (hb1.block b (by omega)).trans (hbW.block b hb)
  have hbb : Below wr.heap.size wr w1 := chain (w1 := W0) hbW ⟨hb1.os, hb1.tape, hb1.output, hb1.size, hb1.block⟩
  have hv : ∀ g, v.ownBlock = some g → B ≤ g ∧ g < wr.heap.size := fun g hg => hown.lt g hg
  have hst : ∀ b, b < w1.heap.size → v.ownBlock ≠ some b → w2.heap[b]? = w1.heap[b]? := fun b hb hne => by
    rw [hgrow.block b (by omega) (Ne.symm hne)]
    exact heap_alloc_old w1 o hb
  refine ⟨?_, ?_, ?_, by omega⟩
  · have h1 : CellsE w2 (Fr B wr v) xs es := HC.stay fun b hb hlt => by
      obtain ⟨b1, b2, b3⟩ := hb
      rw [hst b (by omega) b3, hw1 b b2]
    have h2 : IsS w2 (Iv W0.drew.heap.size w1.heap.size) k2 n2 a2 m2 c2 e.t := hS.stay fun b hb hlt => by
      obtain ⟨b1, b2⟩ := hb
      exact hst b (by omega) (fun e => by have := (hv b e).2; omega)
    refine (h1.mono fun x hx => ?_).append (.cons (h2.tree.mono fun x hx => ?_) hf .nil)
    · obtain ⟨x1, x2, x3⟩ := hx
      refine ⟨x1, by omega, fun e => ?_⟩
      simp only [Value.ownBlock, Option.some.injEq] at e
      rcases hat with h | h
      · exact x3 (by rw [h, e])
      · omega
    · obtain ⟨x1, x2⟩ := hx
      refine ⟨by omega, by omega, fun e => ?_⟩
      simp only [Value.ownBlock, Option.some.injEq] at e
      rcases hat with h | h
      · have := (hv _ h).2; omega
      · omega
  · have h1 : Below w.heap.size w w1 := chain hbel hbb
    have h1s := h1.size
    exact (h1.alloc h1.size o).grown hgrow (by omega) (fun k hk => by have := (hv k hk).1; omega)
  · exact (hst _ (by omega) (fun e => by have := (hv _ e).1; omega)).trans (hw1 _ (by omega))
set_option maxHeartbeats 4000000 in
theorem entry_sorted (a : Option Addr) (m c : Nat) (l : List Ent) (w : World) (F : Nat → Prop) (hI : IsE w F a m c l) (hk : (l.map Ent.key).Nodup) (hz : entNodes l ≤ 1048576) :
    Calls Try.prog 36 #[.agg #[.slice a m c, .func (.func 35) #[] #[]]] w (GivesI (Ent.sortR [] l) w) := by
  obtain ⟨i0, hi, hz0, hz1, hz2⟩ := info_parts info_entry
  have hm : m ≤ 1048576 := by have := entNodes_len l; rw [← hI.len]; omega
  have hz2' : i0.bytes * m ≤ 281474976710656 := by rw [hz2]; omega
  have HI := Lib.hid hI
  have HK := Lib.hid hk
  have HZ := Lib.hid hz
  clear hI hk hz
  obtain ⟨W0, hW0⟩ : ∃ W0, w.alloc (.cells #[.slice a m c, .func (.func 35) #[] #[]] 71) = W0 := ⟨_, rfl⟩
  have hb0 : Below w.heap.size w W0 := by rw [← hW0]; exact (Below.refl _ _).alloc (Nat.le_refl _) _
  have hx0 : W0.heap[w.heap.size]? = some (.cells #[.slice a m c, .func (.func 35) #[] #[]] 71 (0, 0)) := by rw [← hW0]; exact block_new rfl
  have hs0 : W0.heap.size = w.heap.size + 1 := by rw [← hW0]; simp
  obtain ⟨w1, hrun, hown0, hg0⟩ := run_make_own (P := Try.prog) W0 (w.heap.size + 1) 22 36 i0 _ 5 Try.underlying22 hi hz0 hz1 .i64 .i64 m hz2' (by unfold maxLen; omega) (by omega)
  have hb1 : Below w.heap.size w w1 := hb0.grown hg0 (by omega) (fun k hk => by cases hk)
  have hx1 : w1.heap[w.heap.size]? = some (.cells #[.slice a m c, .func (.func 35) #[] #[]] 71 (0, 0)) := (hg0.block _ (by omega) (fun e => by cases e)).trans hx0
  have hs1 := hg0.size
  have HB1 := Lib.hid hb1
  have HX1 := Lib.hid hx1
  rw [hs0] at hown0
  have HOWN0 := Lib.hid hown0
  have hbx := block_cell hx1 0
  simp at hbx
  have hbx0 := block_cell hx0 0
  simp at hbx0
  have hbx00 : (w.alloc (.cells #[.slice a m c, .func (.func 35) #[] #[]] 71)).cell? ⟨w.heap.size, 0, none⟩ = some (.slice a m c) := by rw [hW0]; exact hbx0
  clear hb0 hx0 hown0 hg0 hb1 hx1
  go_enter Try.func36, Try.ntmps36
  go_wp2_with fail
  go_loopw [3, 13] (fun y i wr => ∃ (j : Nat) (v : Value) (xs : List Value), j ≤ m ∧ i = .int .i64 j ∧ y = v ∧ Hid (wr.heap[w.heap.size]? = some (.cells #[.slice a m c, .func (.func 35) #[] #[]] 71 (0, 0))) ∧ Hid (wr.ownsRow (w.heap.size + 1) 36 5 v j xs) ∧ Hid (CellsE wr (Fr (w.heap.size + 1) wr v) xs (l.take j)) ∧ w.heap.size + 1 ≤ wr.heap.size ∧ Hid (v ≠ .slice none 0 0) ∧ Below w.heap.size w wr) (fun _ i _ => m - (intOf i).toNat)
  case atStart =>
    exact ⟨0, _, [], Nat.zero_le _, rfl, rfl, HX1.out, HOWN0.out, CellsE.nil, by omega, (by unfold Hid; intro h; cases h), HB1.out⟩
  case round =>
    obtain ⟨j, v, xs, hj, rfl, rfl, HO, HOWN, HC, hsz, HNN, hbel⟩ := hrel
    by_cases hlt : j < m
    · obtain ⟨b, off, k', n', a', m', c', rfl, hF, hbl, ⟨h0, h1, h2, h3, h4⟩, hT'⟩ := (HI.out.below hbel).at_ j hlt
      have hjl : j < l.length := by rw [HI.out.len]; exact hlt
      have hst := Ent.take_at hjl
      have hsz1 : (Ent.at_ l j).t.size ≤ 4194304 := by have := entNodes_mem (Ent.at_mem hjl); have := HZ.out; omega
      have hfit := HI.out.fitAt hlt
      obtain ⟨e, he⟩ : ∃ e, Ent.at_ l j = e := ⟨_, rfl⟩
      rw [he] at hT' hst hsz1 h0 h1 hfit
      have HST := Lib.hid hst
      have HFT := Lib.hid hfit
      have CK : Hid (∀ W, Below wr.heap.size wr W → Calls Try.prog 26 #[.agg #[.int .i64 k', .int .i64 n', .slice a' m' c']] W (GivesS e.t W)) := fun W hb => desc_Clone 4194304 (Nat.le_refl _) e.t k' n' a' m' c' W F hsz1 (hT'.below hb)
      have hob := block_lt HO.out
      obtain ⟨y0, hy0⟩ : ∃ y0, e.n = y0 := ⟨_, rfl⟩
      obtain ⟨y1, hy1⟩ : ∃ y1, e.d = y1 := ⟨_, rfl⟩
      rw [hy0] at h0
      rw [hy1] at h1
      have HYY := Lib.hid (And.intro hy0 hy1)
      obtain ⟨W1, hW1⟩ : ∃ W1, wr.alloc (.cells #[.int .i64 y0, .int .i64 y1, .int .i64 k', .int .i64 n', .slice a' m' c'] 36) = W1 := ⟨_, rfl⟩
      have hbW : Below wr.heap.size wr W1 := by rw [← hW1]; exact (Below.refl _ _).alloc (Nat.le_refl _) _
      have HKB : Hid (W1.heap[wr.heap.size]? = some (.cells #[.int .i64 y0, .int .i64 y1, .int .i64 k', .int .i64 n', .slice a' m' c'] 36 (0, 0))) := by unfold Hid; rw [← hW1]; exact block_new rfl
      have hs1' : W1.heap.size = wr.heap.size + 1 := by rw [← hW1]; simp
      clear hT' hst hsz1 hjl he hfit hy0 hy1
      have p0 := block_cell HKB.out 0
      have p1 := block_cell HKB.out 1
      have p2 := block_cell HKB.out 2
      have p3 := block_cell HKB.out 3
      have p4 := block_cell HKB.out 4
      simp at p0 p1 p2 p3 p4
      have l1 : wr.heap.size < W1.heap.size := by omega
      have HOWN1 := Lib.hid (own_later3 HOWN.out hbW)
      have HBW := Lib.hid hbW
      have HS1 := Lib.hid hs1'
      have HW1 := Lib.hid hW1
      clear hbW hs1' hW1
      go_wp2_with fail
      rw [HW1.out]
      go_region_law ((first | (refine step_append_lies _ (by rfl) _ _ 22 (by rfl) (w.heap.size + 1) 36 i0 _ 5 56 Try.underlying22 hi hz0 hz1 hz2 rfl (by omega) _ j xs (by rfl) ((own_later3 HOWN1.out.drew hb1).alloc _) ⟨z1.heap.size, 0, none⟩ 1 1 [.int .i64 y0, .int .i64 y1, .int .i64 k2, .int .i64 n2, .slice a2 m2 c2] (by rfl) (by rfl) (cell_five_new _ _ _ _ _ _ _) (one_five _ _ _ _ _ _ _) (by omega) (by unfold maxLen; omega) (by omega) (by simp; omega) (z1.heap.size + 1) (by simp) ?_; intro g3 c3 w2 hown3 hgrow hat hlt3) | (go_simp; go_at_call 26; refine (CK.out _ HBW.out.drew).mono ?_; rintro e1 z1 ⟨k2, n2, a2, m2, c2, rfl, hS2, hb1⟩; have q0 := (hb1.cell (p := ⟨wr.heap.size, 0, none⟩) l1).trans p0; have q1 := (hb1.cell (p := ⟨wr.heap.size, 1, none⟩) l1).trans p1; have q2 := (hb1.cell (p := ⟨wr.heap.size, 2, none⟩) l1).trans p2; have q3 := (hb1.cell (p := ⟨wr.heap.size, 3, none⟩) l1).trans p3; have q4 := (hb1.cell (p := ⟨wr.heap.size, 4, none⟩) l1).trans p4; have z2 : wr.heap.size < z1.heap.size := Nat.lt_of_lt_of_le l1 hb1.size; have z3 : w.heap.size + 1 ≤ z1.heap.size := Nat.le_trans hsz (Nat.le_of_lt z2))))
      all_goals
        obtain ⟨c1, c2', c3', c4'⟩ := ent_round (e := e) rfl HOWN.out HC.out hbel hsz HBW.out HS1.out hS2 hb1 HFT.out (by rw [HYY.out.1, HYY.out.2]; exact hown3) hgrow hat
        rw [HYY.out.1, HYY.out.2, ← HST.out] at c1
        have K1 := Lib.hid c1
        have K2 := Lib.hid (c3'.trans HO.out)
        have K3 := Lib.hid hown3
        clear c1 c3' hgrow hat hown3 hS2 hb1 q0 q1 q2 q3 q4 p0 p1 p2 p3 p4
        go_wp2_with fail
        go_roundw
        case rel => exact ⟨j + 1, _, _, by omega, by go_num, rfl, K2.out, K3.out, K1.out, c4', (by unfold Hid; intro h; cases h), c2'⟩
        case measure => simp [intOf]; omega
    · have hjm : j = m := by omega
      have hE : l.take j = l := List.take_of_length_le (by rw [HI.out.len]; omega)
      have hc := HC.out
      have hown := HOWN.out
      rw [hE] at hc
      rw [hjm] at hown
      obtain ⟨g, cap, hv, hBg, hmc⟩ : ∃ g cap, u3 = .slice (some ⟨g, 0, none⟩) m cap ∧ w.heap.size + 1 ≤ g ∧ m ≤ cap := by
        rcases hown.2 with ⟨hv, _⟩ | ⟨g, cap', cur, hv, hb, _, hnc, _⟩
        · exact absurd hv HNN.out
        · exact ⟨g, cap', hv, hb, hnc⟩
      rw [hv] at hown hc
      obtain ⟨f, hEs, hEl, hTs⟩ := es_of_own hown hc HI.out.len
      have CS := Lib.hid (sort_ents g 0 m cap w.heap.size f wr hEs ⟨_, HO.out⟩ (by omega) (by omega) hmc (ord_keys (by rw [hEl]; exact HK.out)))
      have HBK : Hid (∀ w' f', wr.grownBy w' (some g) → Es w' g 0 m f' → PermIn f f' 0 m → Srt Rec5.Lt f' 0 m → IsE w' (fun b => w.heap.size ≤ b) (some ⟨g, 0, none⟩) m cap (Ent.sortR [] l)) := fun w' f' hg h1 h2 h3 => sorted_back hEl HI.out.fit HK.out hTs (fun b hb e => hb.2.2 (by rw [e]; rfl)) (fun b hb => by have := hb.1; omega) (by omega) hg h1 h2 h3 hmc
      have HBE : Hid (∀ w', wr.grownBy w' (some g) → Below w.heap.size w w') := fun w' hg => srt_below hbel hg (by omega) (by omega)
      clear hc hown hEs hEl hTs hE
      subst hv
      go_wp2_with fail
      refine CS.out.mono ?_; rintro x w2 ⟨rfl, ⟨f', hE', hP', hS'⟩, hG'⟩
      have HR := Lib.hid (HBK.out w2 f' hG' hE' hP' hS')
      have HRB := Lib.hid (HBE.out w2 hG')
      clear hE' hP' hS' hG'
      go_wp2_with fail
      go_ret
      exact ⟨_, _, _, rfl, HR.out, HRB.out⟩
theorem entry_Sort (a : Option Addr) (m c : Nat) (l : List Ent) (w : World) (F : Nat → Prop) (hI : IsE w F a m c l) (hk : (l.map Ent.key).Nodup) (hz : entNodes l ≤ 1048576) :
    Calls Try.prog 29 #[.slice a m c] w (GivesI (Ent.sortR [] l) w) := by
  have CS := Lib.hid (entry_sorted a m c l w F hI hk hz)
  clear hI hk hz
  go_enter Try.func29, Try.ntmps29
  go_wp2_with fail
  refine CS.out.mono ?_; rintro x w1 ⟨a2, m2, c2, rfl, hE, hb⟩
  have HE := Lib.hid hE
  have HB := Lib.hid hb
  clear hE hb
  go_wp2_with fail
  go_ret
  exact ⟨_, _, _, rfl, HE.out, HB.out⟩
end Go.Proofs.Ytonffapiamhdbaa

namespace Go.Proofs.Ytonffapiamhdbaa
open Go.RowKit
set_option linter.unusedVariables false
set_option linter.unusedSimpArgs false
set_option maxRecDepth 100000
/-- Keys and elements that read as entries. -/
inductive MapE (w : World) (F : Nat → Prop) : List (Value × Value) → List Ent → Prop
  | nil : MapE w F [] []
  | cons {k n : Int} {a : Option Addr} {m c : Nat} {e : Ent} {xs : List (Value × Value)} {l : List Ent} (h : IsT w F k n a m c e.t) (hx : fits .i64 e.n ∧ fits .i64 e.d) (hs : MapE w F xs l) : MapE w F ((kv e.n e.d, .agg #[.int .i64 k, .int .i64 n, .slice a m c]) :: xs) (e :: l)
theorem MapE.append {w : World} {F : Nat → Prop} {xs ys : List (Value × Value)} {l r : List Ent} (h : MapE w F xs l) (h2 : MapE w F ys r) : MapE w F (xs ++ ys) (l ++ r) := by
  induction h with
  | nil => exact h2
  | cons h hx _ ih => exact .cons h hx ih
theorem MapE.mono {w : World} {F G : Nat → Prop} {xs : List (Value × Value)} {l : List Ent} (h : MapE w F xs l) (hs : ∀ b, F b → G b) : MapE w G xs l := by
  induction h with
  | nil => exact .nil
  | cons h hx _ ih => exact .cons (h.mono hs) hx ih
theorem MapE.stay {w w' : World} {F : Nat → Prop} {xs : List (Value × Value)} {l : List Ent} (h : MapE w F xs l) (hs : ∀ b, F b → b < w.heap.size → w'.heap[b]? = w.heap[b]?) : MapE w' F xs l := by
  induction h with
  | nil => exact .nil
  | cons h hx _ ih => exact .cons (h.stay hs) hx ih
theorem MapE.len {w : World} {F : Nat → Prop} {xs : List (Value × Value)} {l : List Ent} (h : MapE w F xs l) : xs.length = l.length := by
  induction h with
  | nil => rfl
  | cons _ _ _ ih => simp only [List.length_cons]; omega
theorem MapE.fit {w : World} {F : Nat → Prop} {xs : List (Value × Value)} {l : List Ent} (h : MapE w F xs l) : ∀ x ∈ l, fits .i64 x.n ∧ fits .i64 x.d := by
  induction h with
  | nil => intro x hx; cases hx
  | cons _ hx _ ih =>
    intro x h
    rcases List.mem_cons.1 h with rfl | h
    · exact hx
    · exact ih x h
theorem MapE.keys {w : World} {F : Nat → Prop} {xs : List (Value × Value)} {l : List Ent} (h : MapE w F xs l) : xs.map (·.1) = l.map fun x => kv x.n x.d := by
  induction h with
  | nil => rfl
  | cons _ _ _ ih => simp only [List.map_cons, ih]
theorem MapE.isKv {w : World} {F : Nat → Prop} {xs : List (Value × Value)} {l : List Ent} (h : MapE w F xs l) : ∀ p ∈ xs, isKv p.1 := fun p hp => by
  have h1 : p.1 ∈ xs.map (·.1) := List.mem_map.2 ⟨p, hp, rfl⟩
  rw [h.keys] at h1
  obtain ⟨x, _, e⟩ := List.mem_map.1 h1
  exact ⟨x.n, x.d, e.symm⟩
theorem MapE.nodup {w : World} {F : Nat → Prop} {xs : List (Value × Value)} {l : List Ent} (h : MapE w F xs l) (hk : (l.map Ent.key).Nodup) : (xs.map (·.1)).Nodup := by
  rw [h.keys]
  have e : (l.map fun x => kv x.n x.d) = (l.map Ent.key).map fun q => kv q.1 q.2 := by rw [List.map_map]; rfl
  rw [e]
  exact hk.map _ (fun a b hab e => hab (by obtain ⟨h1, h2⟩ := kv_inj e; exact Prod.ext h1 h2))
theorem MapE.at {w : World} {F : Nat → Prop} {xs : List (Value × Value)} {l : List Ent} (h : MapE w F xs l) : ∀ i, i < l.length → ∃ k n a m c, xs[i]? = some (kv (Ent.at_ l i).n (Ent.at_ l i).d, .agg #[.int .i64 k, .int .i64 n, .slice a m c]) ∧ IsT w F k n a m c (Ent.at_ l i).t := by
  induction h with
  | nil => intro i hi; cases hi
  | cons h hx _ ih =>
    intro i hi
    match i with
    | 0 => exact ⟨_, _, _, _, _, rfl, h⟩
    | i + 1 => exact ih i (by simpa using hi)
theorem MapE.no {w : World} {F : Nat → Prop} {xs : List (Value × Value)} {l : List Ent} (h : MapE w F xs l) {n d : Int} (hn : Ent.has l n d = false) : ∀ p ∈ xs, p.1 ≠ kv n d := fun p hp e => by
  have h1 : p.1 ∈ xs.map (·.1) := List.mem_map.2 ⟨p, hp, rfl⟩
  rw [h.keys, e] at h1
  obtain ⟨x, hx, e⟩ := List.mem_map.1 h1
  obtain ⟨e1, e2⟩ := kv_inj e
  rw [Ent.has_iff.2 ⟨x, hx, e1, e2⟩] at hn
  cases hn
theorem MapE.yes {w : World} {F : Nat → Prop} {xs : List (Value × Value)} {l : List Ent} (h : MapE w F xs l) {n d : Int} (hn : Ent.has l n d = true) : ∃ j k nn a m c, j < l.length ∧ xs[j]? = some (kv n d, .agg #[.int .i64 k, .int .i64 nn, .slice a m c]) ∧ IsT w F k nn a m c (Ent.at_ l j).t ∧ (Ent.at_ l j).n = n ∧ (Ent.at_ l j).d = d := by
  obtain ⟨x, hx, e1, e2⟩ := Ent.has_iff.1 hn
  obtain ⟨j, hj, e⟩ := List.getElem_of_mem hx
  have ea : Ent.at_ l j = x := by simp [Ent.at_, List.getD, hj, e]
  obtain ⟨k, nn, a, m, c, h1, h2⟩ := h.at j hj
  rw [ea, e1, e2] at h1
  exact ⟨j, k, nn, a, m, c, hj, h1, h2, by rw [ea]; exact e1, by rw [ea]; exact e2⟩
/-- The page's map: p points to it, its table lies in block mb, and what it knows are these entries. -/
structure IsM (w : World) (F : Nat → Prop) (p mb : Nat) (l : List Ent) : Prop where
  ptr : w.heap[p]? = some (.cells #[.map (some mb)] 57 (0, 0))
  ne : p ≠ mb
  tab : ∃ xs, w.heap[mb]? = some (mapObj xs) ∧ MapE w (fun b => F b ∧ b ≠ mb) xs l
  keys : (l.map Ent.key).Nodup
theorem IsM.stay {w w' : World} {F : Nat → Prop} {p mb : Nat} {l : List Ent} (h : IsM w F p mb l) (hp : w'.heap[p]? = w.heap[p]?) (hm : w'.heap[mb]? = w.heap[mb]?) (hs : ∀ b, F b → b < w.heap.size → w'.heap[b]? = w.heap[b]?) : IsM w' F p mb l := by
  obtain ⟨xs, h1, h2⟩ := h.tab
  exact ⟨hp.trans h.ptr, h.ne, ⟨xs, hm.trans h1, h2.stay fun b hb hlt => hs b hb.1 hlt⟩, h.keys⟩
theorem IsM.lt {w : World} {F : Nat → Prop} {p mb : Nat} {l : List Ent} (h : IsM w F p mb l) : p < w.heap.size ∧ mb < w.heap.size := by
  obtain ⟨xs, h1, h2⟩ := h.tab
  exact ⟨block_lt h.ptr, block_lt h1⟩
theorem IsM.below {w w' : World} {F : Nat → Prop} {p mb : Nat} {l : List Ent} (h : IsM w F p mb l) (hb : Below w.heap.size w w') : IsM w' F p mb l := h.stay (hb.block _ h.lt.1) (hb.block _ h.lt.2) (fun b _ hlt => hb.block b hlt)
end Go.Proofs.Ytonffapiamhdbaa

namespace Go.Proofs.Ytonffapiamhdbaa
open Go.RowKit
set_option linter.unusedVariables false
set_option linter.unusedSimpArgs false
set_option maxRecDepth 100000
set_option maxRecDepth 20000
theorem zero_desc (W : World) : (zeroValue 34).run Try.prog W = .ok (.agg #[.int .i64 0, .int .i64 0, .slice none 0 0]) W := by kernel_rfl
theorem wmap_New (w : World) :
    Calls Try.prog 8 #[] w fun e w' => ∃ p mb, e = .returned (.pointer (some ⟨p, 0, none⟩)) ∧ IsM w' (fun b => w.heap.size ≤ b) p mb [] ∧ w.heap.size ≤ p ∧ w.heap.size ≤ mb ∧ Below w.heap.size w w' := by
  have hmm := @run_makeMap Try.prog
  have HB : Hid (Below w.heap.size w ((w.alloc (.map #[] 0)).alloc (.cells #[.map (some w.heap.size)] 57))) := ((Below.refl _ _).alloc (Nat.le_refl _) _).alloc (by simp) _
  have H1 : Hid (((w.alloc (.map #[] 0)).alloc (.cells #[.map (some w.heap.size)] 57)).heap[w.heap.size]? = some (mapObj [])) := block_old (by simp) (block_new rfl)
  have H2 : Hid (((w.alloc (.map #[] 0)).alloc (.cells #[.map (some w.heap.size)] 57)).heap[w.heap.size + 1]? = some (.cells #[.map (some w.heap.size)] 57 (0, 0))) := block_new (by simp)
  go_enter Try.func8, Try.ntmps8
  go_wp2_with fail
  go_ret
  exact ⟨w.heap.size + 1, w.heap.size, by simp, ⟨H2.out, by omega, ⟨[], H1.out, .nil⟩, List.nodup_nil⟩, by omega, Nat.le_refl _, HB.out⟩
set_option maxHeartbeats 2000000 in
theorem wmap_put_yes (B p mb : Nat) (l : List Ent) (e : Ent) (k n : Int) (a : Option Addr) (m c : Nat) (w : World) (h : IsM w (fun b => B ≤ b) p mb l) (hh : Ent.has l e.n e.d = true) :
    Calls Try.prog 23 #[.pointer (some ⟨p, 0, none⟩), .agg #[.int .i64 e.n, .int .i64 e.d, .int .i64 k, .int .i64 n, .slice a m c]] w fun r w' => r = .returned (.bool false) ∧ Below w.heap.size w w' := by
  obtain ⟨xs, h1, h2⟩ := h.tab
  obtain ⟨j, kk, nn, aa, mm, cc, hj, hx, hT, _, _⟩ := h2.yes hh
  obtain ⟨W0, hW0, hb0, x0⟩ := box_any w #[.int .i64 e.n, .int .i64 e.d, .int .i64 k, .int .i64 n, .slice a m c] 36
  have hl0 : W0.heap[mb]? = some (mapObj xs) := (hb0.block _ (block_lt h1)).trans h1
  have r1 : ∀ V : World, V.heap[mb]? = some (mapObj xs) → (Instr.lookup 55 (.map (some mb)) (kv e.n e.d) true).run Try.prog V = .ok (.tuple #[.agg #[.int .i64 kk, .int .i64 nn, .slice aa mm cc], .bool true]) V := fun V hV => key_keys.lookup_yes Try.underlying55 hV h2.isKv ⟨_, _, rfl⟩ (h2.nodup h.keys) hx true
  have r2 := r1 W0.drew hl0
  have r3 := r1 (W0.alloc (.cells #[.int .i64 0, .int .i64 0, .slice none 0 0] 34)).drew (block_old (block_lt hl0) hl0)
  simp only [kv] at r2 r3
  have hbz : Below W0.heap.size W0 (W0.alloc (.cells #[.int .i64 0, .int .i64 0, .slice none 0 0] 34)).drew := ((Below.refl _ _).alloc (Nat.le_refl _) _).drew
  have s0 := (hb0.block _ (block_lt h.ptr)).trans h.ptr
  have q0 : W0.cell? ⟨p, 0, none⟩ = some (.map (some mb)) := block_cell s0 0
  have D0 : W0.cell? ⟨w.heap.size, 0, none⟩ = some (.int .i64 e.n) := block_cell x0 0
  have D1 : W0.cell? ⟨w.heap.size, 1, none⟩ = some (.int .i64 e.d) := block_cell x0 1
  have D2 := (hbz.cell (p := ⟨w.heap.size, 0, none⟩) (block_lt x0)).trans D0
  have D3 := (hbz.cell (p := ⟨w.heap.size, 1, none⟩) (block_lt x0)).trans D1
  have q1 := (hbz.cell (p := ⟨p, 0, none⟩) (block_lt s0)).trans q0
  have z1 := block_lt x0
  have HB0 := Lib.hid hb0
  have HBZ := Lib.hid hbz
  clear h h1 h2 hT hx hb0 hl0 x0 s0 r1 hh hj hbz
  go_enter Try.func23, Try.ntmps23
  go_wp2_with fail
  go_region
  all_goals
    have HF : Hid (Below w.heap.size w (W0.alloc (.cells #[.int .i64 kk, .int .i64 nn, .slice aa mm cc] 34)).drew) := chain HB0.out ((Below.refl _ _).alloc (Nat.le_refl _) _).drew
    clear r2 r3 q0 q1 D0 D1 D2 D3
    go_wp2_with fail
    go_ret
    exact ⟨rfl, HF.out⟩
theorem six_keep {w W : World} {b p : Nat} {x y z u v q : Value} (h : w.cell? ⟨p, 0, none⟩ = some q ∧ w.cell? ⟨b, 0, none⟩ = some x ∧ w.cell? ⟨b, 1, none⟩ = some y ∧ w.cell? ⟨b, 2, none⟩ = some z ∧ w.cell? ⟨b, 3, none⟩ = some u ∧ w.cell? ⟨b, 4, none⟩ = some v) (hb : Below w.heap.size w W) : W.cell? ⟨p, 0, none⟩ = some q ∧ W.cell? ⟨b, 0, none⟩ = some x ∧ W.cell? ⟨b, 1, none⟩ = some y ∧ W.cell? ⟨b, 2, none⟩ = some z ∧ W.cell? ⟨b, 3, none⟩ = some u ∧ W.cell? ⟨b, 4, none⟩ = some v := by
  obtain ⟨hq, h⟩ := h
  exact ⟨(hb.cell (World.block_lt_of_cell? w _ hq)).trans hq, five_at h hb⟩
theorem six_put {w : World} {b p mb : Nat} {x y z u v q : Value} (h : w.cell? ⟨p, 0, none⟩ = some q ∧ w.cell? ⟨b, 0, none⟩ = some x ∧ w.cell? ⟨b, 1, none⟩ = some y ∧ w.cell? ⟨b, 2, none⟩ = some z ∧ w.cell? ⟨b, 3, none⟩ = some u ∧ w.cell? ⟨b, 4, none⟩ = some v) (hp : p ≠ mb) (hq : b ≠ mb) (o : Obj) : (w.putObj mb o).cell? ⟨p, 0, none⟩ = some q ∧ (w.putObj mb o).cell? ⟨b, 0, none⟩ = some x ∧ (w.putObj mb o).cell? ⟨b, 1, none⟩ = some y ∧ (w.putObj mb o).cell? ⟨b, 2, none⟩ = some z ∧ (w.putObj mb o).cell? ⟨b, 3, none⟩ = some u ∧ (w.putObj mb o).cell? ⟨b, 4, none⟩ = some v := by
  obtain ⟨hc, h⟩ := h
  exact ⟨(World.cell?_of_block (World.putObj_heap_other hp)).trans hc, five_stay h (World.putObj_heap_other hq)⟩
theorem grown_putM {w z : World} (hb : Below w.heap.size w z) (mb : Nat) (o : Obj) : w.grownBy (z.putObj mb o) (some mb) :=
  ⟨hb.os, hb.tape, hb.output, by simpa using hb.size, fun k hk hne => (World.putObj_heap_other (fun e => hne (by rw [e]))).trans (hb.block k hk)⟩
/-- The table has one entry more, its tree a copy that came anew. -/
theorem IsM.more {w z : World} {B p mb : Nat} {l : List Ent} {xs : List (Value × Value)} {e : Ent} {k n : Int} {a : Option Addr} {m c : Nat} {G : Nat → Prop} (h : IsM w (fun b => B ≤ b) p mb l) (h1 : w.heap[mb]? = some (mapObj xs)) (h2 : MapE w (fun b => B ≤ b ∧ b ≠ mb) xs l) (hb : Below w.heap.size w z) (hB : B ≤ w.heap.size)
    (hS : IsT z G k n a m c e.t) (hG : ∀ b, G b → w.heap.size ≤ b) (hf : fits .i64 e.n ∧ fits .i64 e.d) (hh : Ent.has l e.n e.d = false) : IsM (z.putObj mb (mapObj (xs ++ [(kv e.n e.d, .agg #[.int .i64 k, .int .i64 n, .slice a m c])]))) (fun b => B ≤ b) p mb (l ++ [e]) := by
  have hl := block_lt h1
  have hz := hb.size
  have hst : ∀ b, b ≠ mb → (z.putObj mb (mapObj (xs ++ [(kv e.n e.d, .agg #[.int .i64 k, .int .i64 n, .slice a m c])]))).heap[b]? = z.heap[b]? := fun b hne => World.putObj_heap_other hne
  refine ⟨(hst _ h.ne).trans ((hb.block _ h.lt.1).trans h.ptr), h.ne, ⟨_, World.putObj_heap_same (by omega), ?_⟩, ?_⟩
  · refine (h2.stay fun b hb1 hlt => (hst b hb1.2).trans (hb.block b hlt)).append (.cons ((hS.stay fun b hb1 hlt => hst b (by have := hG b hb1; omega)).mono fun b hb1 => ?_) hf .nil)
    have := hG b hb1
    exact ⟨by omega, by omega⟩
  · have := Ent.put_keys (x := e) h.keys
    unfold Ent.put at this
    rw [hh] at this
    simpa using this
set_option maxHeartbeats 2000000 in
theorem wmap_put_no (B p mb : Nat) (l : List Ent) (e : Ent) (k n : Int) (a : Option Addr) (m c : Nat) (w : World) (F : Nat → Prop) (h : IsM w (fun b => B ≤ b) p mb l) (hB : B ≤ w.heap.size) (hf : fits .i64 e.n ∧ fits .i64 e.d) (hs : e.t.size ≤ 4194304) (ht : IsT w F k n a m c e.t) (hh : Ent.has l e.n e.d = false) :
    Calls Try.prog 23 #[.pointer (some ⟨p, 0, none⟩), .agg #[.int .i64 e.n, .int .i64 e.d, .int .i64 k, .int .i64 n, .slice a m c]] w fun r w' => r = .returned (.bool true) ∧ IsM w' (fun b => B ≤ b) p mb (l ++ [e]) ∧ w.grownBy w' (some mb) := by
  have hne := h.ne
  obtain ⟨xs, h1, h2⟩ := h.tab
  obtain ⟨W0, hW0, hb0, x0⟩ := box_any w #[.int .i64 e.n, .int .i64 e.d, .int .i64 k, .int .i64 n, .slice a m c] 36
  have hl0 : W0.heap[mb]? = some (mapObj xs) := (hb0.block _ (block_lt h1)).trans h1
  have hno := h2.no hh
  have r1 : ∀ V : World, V.heap[mb]? = some (mapObj xs) → (Instr.lookup 55 (.map (some mb)) (kv e.n e.d) true).run Try.prog V = .ok (.tuple #[.agg #[.int .i64 0, .int .i64 0, .slice none 0 0], .bool false]) V := fun V hV => key_keys.lookup_no Try.underlying55 hV h2.isKv ⟨_, _, rfl⟩ zero_desc hno true
  have HU : Hid (∀ (V : World) (v : Value), V.heap[mb]? = some (mapObj xs) → (Instr.mapUpdate 55 (.map (some mb)) (kv e.n e.d) v).run Try.prog V = .ok () (V.putObj mb (mapObj (xs ++ [(kv e.n e.d, v)])))) := fun V v hV => key_keys.update_no Try.underlying55 hV h2.isKv ⟨_, _, rfl⟩ hno
  have r2 := r1 W0.drew hl0
  have r3 := r1 (W0.alloc (.cells #[.int .i64 0, .int .i64 0, .slice none 0 0] 34)).drew (block_old (block_lt hl0) hl0)
  simp only [kv] at r2 r3
  have hbz : Below W0.heap.size W0 (W0.alloc (.cells #[.int .i64 0, .int .i64 0, .slice none 0 0] 34)).drew := ((Below.refl _ _).alloc (Nat.le_refl _) _).drew
  have s0 := (hb0.block _ (block_lt h.ptr)).trans h.ptr
  have q0 : W0.cell? ⟨p, 0, none⟩ = some (.map (some mb)) := block_cell s0 0
  have D0 : W0.cell? ⟨w.heap.size, 0, none⟩ = some (.int .i64 e.n) := block_cell x0 0
  have D1 : W0.cell? ⟨w.heap.size, 1, none⟩ = some (.int .i64 e.d) := block_cell x0 1
  have D2 := (hbz.cell (p := ⟨w.heap.size, 0, none⟩) (block_lt x0)).trans D0
  have D3 := (hbz.cell (p := ⟨w.heap.size, 1, none⟩) (block_lt x0)).trans D1
  have q1 := (hbz.cell (p := ⟨p, 0, none⟩) (block_lt s0)).trans q0
  have z1 := block_lt x0
  have HB0 := Lib.hid hb0
  have HX0 := Lib.hid x0
  have H := Lib.hid h
  have H1 := Lib.hid h1
  have H2 := Lib.hid h2
  have HFT := Lib.hid hf
  have HHH := Lib.hid hh
  have CK : Hid (∀ W, Below w.heap.size w W → Calls Try.prog 26 #[.agg #[.int .i64 k, .int .i64 n, .slice a m c]] W (GivesS e.t W)) := fun W hb => desc_Clone 4194304 (Nat.le_refl _) e.t k n a m c W F hs (ht.below hb)
  clear h h1 h2 hb0 hl0 x0 s0 r1 hh hbz hno hf ht
  go_enter Try.func23, Try.ntmps23
  go_wp2_with fail
  go_upto_region 1 with fail
  go_cut [6] from 5 to 16 (fun c wx => c = .bool false ∧ Hid (Below W0.heap.size W0 wx))
  case first =>
    go_region
    all_goals
      have HF : Hid (Below W0.heap.size W0 (W0.alloc (.cells #[.int .i64 0, .int .i64 0, .slice none 0 0] 34)).drew) := ((Below.refl _ _).alloc (Nat.le_refl _) _).drew
      clear r2 r3 q0 q1 D0 D1 D2 D3
      go_wp2_with fail
      go_meet
      exact ⟨rfl, HF.out⟩
  case rest =>
    obtain ⟨rfl, HBC⟩ := hcut
    have hb : Below wc.heap.size wc wc.drew := (Below.refl _ _).drew
    have x0 := (HBC.out.block _ z1).trans HX0.out
    have hcu : wc.cell? ⟨p, 0, none⟩ = some (.map (some mb)) ∧ wc.cell? ⟨w.heap.size, 0, none⟩ = some (.int .i64 e.n) ∧ wc.cell? ⟨w.heap.size, 1, none⟩ = some (.int .i64 e.d) ∧ wc.cell? ⟨w.heap.size, 2, none⟩ = some (.int .i64 k) ∧ wc.cell? ⟨w.heap.size, 3, none⟩ = some (.int .i64 n) ∧ wc.cell? ⟨w.heap.size, 4, none⟩ = some (.slice a m c) := ⟨(HBC.out.cell (p := ⟨p, 0, none⟩) (World.block_lt_of_cell? _ _ q0)).trans q0, block_cell x0 0, block_cell x0 1, block_cell x0 2, block_cell x0 3, block_cell x0 4⟩
    have HBW := Lib.hid (chain HB0.out HBC.out)
    have hmne : w.heap.size ≠ mb := fun e => by have := block_lt H1.out; omega
    have HM : Hid (∀ z, Below wc.heap.size wc z → z.heap[mb]? = some (mapObj xs)) := fun z hz => ((chain HBW.out hz).block _ (block_lt H1.out)).trans H1.out
    clear r2 r3 q0 q1 D0 D1 D2 D3 x0
    go_wp2_with fail
    go_region_held3 (fun w' => w'.cell? ⟨p, 0, none⟩ = some (.map (some mb)) ∧ w'.cell? ⟨w.heap.size, 0, none⟩ = some (.int .i64 e.n) ∧ w'.cell? ⟨w.heap.size, 1, none⟩ = some (.int .i64 e.d) ∧ w'.cell? ⟨w.heap.size, 2, none⟩ = some (.int .i64 k) ∧ w'.cell? ⟨w.heap.size, 3, none⟩ = some (.int .i64 n) ∧ w'.cell? ⟨w.heap.size, 4, none⟩ = some (.slice a m c)) (first | exact hcu | exact six_keep hcu hb | exact six_keep hcu hb3 | exact six_put (six_keep hcu hb3) hne hmne _) ((first
      | (go_at_call 26; ((with_reducible refine (CK.out _ (chain HBW.out hb)).mono ?_); rintro e1 z3 ⟨k2, n2, a2, m2, c2, rfl, hS2, hb2⟩; have hb3 := chain hb hb2; have r3 := HU.out z3 (.agg #[.int .i64 k2, .int .i64 n2, .slice a2 m2 c2]) (HM.out z3 hb3); simp only [kv] at r3))
      | fail))
    all_goals
      have hbw := chain HBW.out hb3
      have HR := Lib.hid (IsM.more H.out H1.out H2.out hbw hB hS2.tree (fun b hq => by have h1 := hq.1; have h2 := (chain HBW.out hb).size; omega) HFT.out HHH.out)
      have HG := Lib.hid (grown_putM hbw mb (mapObj (xs ++ [(kv e.n e.d, .agg #[.int .i64 k2, .int .i64 n2, .slice a2 m2 c2])])))
      clear hS2 hb2 hb3 hb r3 hbw hcu
      rename_i hHeld
      clear hHeld
      obtain ⟨V3, hV3⟩ : ∃ V3, z3.putObj mb (mapObj (xs ++ [(kv e.n e.d, .agg #[.int .i64 k2, .int .i64 n2, .slice a2 m2 c2])])) = V3 := ⟨_, rfl⟩
      rw [hV3] at HR HG
      have hV3' : z3.putObj mb (mapObj (xs ++ [(.agg #[.int .i64 e.n, .int .i64 e.d], .agg #[.int .i64 k2, .int .i64 n2, .slice a2 m2 c2])])) = V3 := hV3
      rw [hV3']
      clear hV3 hV3'
      go_wp2_with fail
      go_ret
      exact ⟨rfl, HR.out, HG.out⟩
end Go.Proofs.Ytonffapiamhdbaa

namespace Go.Proofs.Ytonffapiamhdbaa
open Go.RowKit
set_option linter.unusedVariables false
set_option linter.unusedSimpArgs false
set_option maxRecDepth 100000
set_option maxRecDepth 20000
theorem IsM.grown0 {w w' : World} {F : Nat → Prop} {p mb : Nat} {l : List Ent} (h : IsM w F p mb l) (hb : Below w.heap.size w w') : IsM w' F p mb l ∧ w.grownBy w' (some mb) := ⟨h.below hb, grown_of_belowS hb _⟩
theorem wmap_put (B p mb : Nat) (l : List Ent) (e : Ent) (k n : Int) (a : Option Addr) (m c : Nat) (w : World) (F : Nat → Prop) (h : IsM w (fun b => B ≤ b) p mb l) (hB : B ≤ w.heap.size) (hf : fits .i64 e.n ∧ fits .i64 e.d) (hs : e.t.size ≤ 4194304) (ht : IsT w F k n a m c e.t) :
    Calls Try.prog 23 #[.pointer (some ⟨p, 0, none⟩), .agg #[.int .i64 e.n, .int .i64 e.d, .int .i64 k, .int .i64 n, .slice a m c]] w fun r w' => r = .returned (.bool (!Ent.has l e.n e.d)) ∧ IsM w' (fun b => B ≤ b) p mb (Ent.put l e) ∧ w.grownBy w' (some mb) := by
  cases hh : Ent.has l e.n e.d with
  | true =>
    refine (wmap_put_yes B p mb l e k n a m c w h hh).mono ?_
    rintro r w' ⟨rfl, hb⟩
    unfold Ent.put
    rw [hh]
    exact ⟨rfl, h.grown0 hb⟩
  | false =>
    refine (wmap_put_no B p mb l e k n a m c w F h hB hf hs ht hh).mono ?_
    rintro r w' ⟨rfl, h1, h2⟩
    unfold Ent.put
    rw [hh]
    exact ⟨rfl, h1, h2⟩
set_option maxHeartbeats 2000000 in
theorem wmap_Put (B p mb : Nat) (l : List Ent) (e : Ent) (k n : Int) (a : Option Addr) (m c : Nat) (w : World) (F : Nat → Prop) (h : IsM w (fun b => B ≤ b) p mb l) (hB : B ≤ w.heap.size) (hf : fits .i64 e.n ∧ fits .i64 e.d) (hs : e.t.size ≤ 4194304) (ht : IsT w F k n a m c e.t) :
    Calls Try.prog 9 #[.pointer (some ⟨p, 0, none⟩), .agg #[.int .i64 e.n, .int .i64 e.d, .int .i64 k, .int .i64 n, .slice a m c]] w fun r w' => r = .returned (.tuple #[.bool (decide (forK e.n e.d e.t = 0) && !Ent.has l e.n e.d), .int .i64 (forK e.n e.d e.t)]) ∧ IsM w' (fun b => B ≤ b) p mb (if forK e.n e.d e.t = 0 then Ent.put l e else l) ∧ w.grownBy w' (some mb) := by
  obtain ⟨W0, hW0, hb0, x0⟩ := box_any w #[.int .i64 e.n, .int .i64 e.d, .int .i64 k, .int .i64 n, .slice a m c] 36
  have CC : Hid (∀ W, Below w.heap.size w W → Calls Try.prog 22 #[.agg #[.int .i64 e.n, .int .i64 e.d, .int .i64 k, .int .i64 n, .slice a m c]] W fun r w' => r = .returned (.int .i64 (forK e.n e.d e.t)) ∧ Below W.heap.size W w') := fun W hb => entry_Check e k n a m c W F hs hf.1 (ht.below hb)
  have CP : Hid (∀ W, Below w.heap.size w W → Calls Try.prog 23 #[.pointer (some ⟨p, 0, none⟩), .agg #[.int .i64 e.n, .int .i64 e.d, .int .i64 k, .int .i64 n, .slice a m c]] W fun r w' => r = .returned (.bool (!Ent.has l e.n e.d)) ∧ IsM w' (fun b => B ≤ b) p mb (Ent.put l e) ∧ W.grownBy w' (some mb)) := fun W hb => wmap_put B p mb l e k n a m c W F (h.below hb) (by have := hb.size; omega) hf hs (ht.below hb)
  have H0 : Hid (∀ W, Below w.heap.size w W → IsM W (fun b => B ≤ b) p mb l ∧ w.grownBy W (some mb)) := fun W hb => h.grown0 hb
  obtain ⟨h0, h1, h2, h3, h4⟩ : W0.cell? ⟨w.heap.size, 0, none⟩ = some (.int .i64 e.n) ∧ W0.cell? ⟨w.heap.size, 1, none⟩ = some (.int .i64 e.d) ∧ W0.cell? ⟨w.heap.size, 2, none⟩ = some (.int .i64 k) ∧ W0.cell? ⟨w.heap.size, 3, none⟩ = some (.int .i64 n) ∧ W0.cell? ⟨w.heap.size, 4, none⟩ = some (.slice a m c) := ⟨block_cell x0 0, block_cell x0 1, block_cell x0 2, block_cell x0 3, block_cell x0 4⟩
  have HB0 := Lib.hid hb0
  have HX := Lib.hid x0
  obtain ⟨C, hC⟩ : ∃ C, forK e.n e.d e.t = C := ⟨_, rfl⟩
  rw [hC] at CC ⊢
  obtain ⟨bh, hbh⟩ : ∃ bh, Ent.has l e.n e.d = bh := ⟨_, rfl⟩
  rw [hbh] at CP ⊢
  have hlt := block_lt x0
  clear h ht hb0 x0 hC hbh hf hs
  go_enter Try.func9, Try.ntmps9
  go_wp2_with fail
  refine (CC.out _ HB0.out).mono ?_; rintro r w1 ⟨rfl, hb1⟩
  have HB1 := Lib.hid (chain HB0.out hb1)
  obtain ⟨c0, c1, c2, c3, c4⟩ := five_at ⟨h0, h1, h2, h3, h4⟩ hb1
  clear h0 h1 h2 h3 h4 hb1
  by_cases hC0 : C = 0
  · subst hC0
    go_wp2_with fail
    refine (CP.out _ HB1.out).mono ?_; rintro r w2 ⟨rfl, hM, hG⟩
    have HM := Lib.hid hM
    have HG := Lib.hid ((grown_of_belowS HB1.out (some mb)).trans hG)
    clear hM hG
    go_wp2_with fail
    go_ret2
    exact ⟨by simp, by simpa using HM.out, HG.out⟩
  · have t1 : (C != 0) = true := by simp [hC0]
    go_wp2_with fail
    go_ret2
    have := H0.out _ HB1.out
    exact ⟨by simp [hC0], by simpa [hC0] using this.1, this.2⟩
end Go.Proofs.Ytonffapiamhdbaa

namespace Go.Proofs.Ytonffapiamhdbaa
open Go.RowKit
set_option linter.unusedVariables false
set_option linter.unusedSimpArgs false
set_option maxRecDepth 100000
set_option maxRecDepth 20000
theorem get_yes {l : List Ent} (hk : (l.map Ent.key).Nodup) {j : Nat} {n d : Int} (hj : j < l.length) (h1 : (Ent.at_ l j).n = n) (h2 : (Ent.at_ l j).d = d) : Ent.get l n d = (Ent.at_ l j).t := by
  unfold Ent.get
  have hm := Ent.at_mem hj
  cases hf : l.find? fun x => x.n == n && x.d == d with
  | none =>
    have := List.find?_eq_none.1 hf _ hm
    rw [h1, h2] at this
    simp at this
  | some x =>
    have hx := List.find?_some hf
    have hxm := List.mem_of_find?_eq_some hf
    simp only [Bool.and_eq_true, beq_iff_eq] at hx
    obtain ⟨i, hi, e⟩ := List.getElem_of_mem hxm
    have ea : Ent.at_ l i = x := by simp [Ent.at_, List.getD, hi, e]
    have hij : i = j := by
      refine (List.getElem?_inj (l := l.map Ent.key) (by rw [List.length_map]; exact hi) hk).1 ?_
      rw [List.getElem?_map, List.getElem?_map, List.getElem?_eq_getElem hi, List.getElem?_eq_getElem hj, e]
      have ej : l[j] = Ent.at_ l j := by simp [Ent.at_, List.getD, hj]
      rw [ej]
      simp only [Option.map_some, Ent.key, h1, h2, hx.1, hx.2]
    subst hij
    rw [ea]
theorem get_no {l : List Ent} {n d : Int} (h : Ent.has l n d = false) : Ent.get l n d = .node 0 0 [] := by
  unfold Ent.get
  cases hf : l.find? fun x => x.n == n && x.d == d with
  | none => rfl
  | some x =>
    have hx := List.find?_some hf
    simp only [Bool.and_eq_true, beq_iff_eq] at hx
    rw [Ent.has_iff.2 ⟨x, List.mem_of_find?_eq_some hf, hx.1, hx.2⟩] at h
    cases h
theorem zero_isW (w : World) (F : Nat → Prop) : IsT w F 0 0 none 0 0 (.node 0 0 []) := ⟨rfl, rfl, rfl, by simp only [Tr.Ok, Tr.OkL]; exact ⟨fits_i64.2 (by omega), fits_i64.2 (by omega), trivial⟩, .nil⟩
/-- What the table tells of a key: the tree that it holds, or none. -/
theorem IsM.told {w : World} {B p mb : Nat} {l : List Ent} (h : IsM w (fun b => B ≤ b) p mb l) (n d : Int) : ∃ xs k nn a m c, w.heap[mb]? = some (mapObj xs) ∧ IsT w (fun b => B ≤ b) k nn a m c (Ent.get l n d) ∧ ∀ V : World, V.heap[mb]? = some (mapObj xs) → (Instr.lookup 55 (.map (some mb)) (.agg #[.int .i64 n, .int .i64 d]) true).run Try.prog V = .ok (.tuple #[.agg #[.int .i64 k, .int .i64 nn, .slice a m c], .bool (Ent.has l n d)]) V := by
  obtain ⟨xs, h1, h2⟩ := h.tab
  cases hh : Ent.has l n d with
  | true =>
    obtain ⟨j, kk, nn, aa, mm, cc, hj, hx, hT, e1, e2⟩ := h2.yes hh
    refine ⟨xs, kk, nn, aa, mm, cc, h1, ?_, fun V hV => ?_⟩
    · rw [get_yes h.keys hj e1 e2]; exact hT.mono fun b hb => hb.1
    · have := key_keys.lookup_yes Try.underlying55 hV h2.isKv (k := kv n d) ⟨_, _, rfl⟩ (h2.nodup h.keys) hx true
      simpa [kv] using this
  | false =>
    refine ⟨xs, 0, 0, none, 0, 0, h1, ?_, fun V hV => ?_⟩
    · rw [get_no hh]; exact zero_isW _ _
    · have := key_keys.lookup_no Try.underlying55 hV h2.isKv (k := kv n d) ⟨_, _, rfl⟩ zero_desc (h2.no hh) true
      simpa [kv] using this
theorem get_size {l : List Ent} {N : Nat} (h : ∀ x ∈ l, x.t.size ≤ N) (hN : 1 ≤ N) (n d : Int) : (Ent.get l n d).size ≤ N := by
  unfold Ent.get
  cases hf : l.find? fun x => x.n == n && x.d == d with
  | none => simpa [Tr.size, Tr.sizeL] using hN
  | some x => exact h x (List.mem_of_find?_eq_some hf)
end Go.Proofs.Ytonffapiamhdbaa

namespace Go.Proofs.Ytonffapiamhdbaa
open Go.RowKit
set_option linter.unusedVariables false
set_option linter.unusedSimpArgs false
set_option maxRecDepth 100000
set_option maxRecDepth 20000
set_option maxHeartbeats 2000000 in
theorem wmap_Get (B p mb : Nat) (l : List Ent) (n d : Int) (w : World) (h : IsM w (fun b => B ≤ b) p mb l) (hs : ∀ x ∈ l, x.t.size ≤ 4194304) :
    Calls Try.prog 13 #[.pointer (some ⟨p, 0, none⟩), .agg #[.int .i64 n, .int .i64 d]] w fun r w' => ∃ k nn a m c, r = .returned (.tuple #[.agg #[.int .i64 k, .int .i64 nn, .slice a m c], .bool (Ent.has l n d)]) ∧ IsT w' (fun b => w.heap.size ≤ b) k nn a m c (Ent.get l n d) ∧ Below w.heap.size w w' := by
  obtain ⟨xs, kk, nk, aa, mm, cc, h1, hT, hL⟩ := h.told n d
  obtain ⟨W0, hW0, hb0, x0, x1⟩ := two_boxesS w #[.int .i64 n, .int .i64 d] #[.int .i64 0, .int .i64 0, .slice none 0 0] 24 34
  have CK : Hid (∀ W, Below w.heap.size w W → Calls Try.prog 26 #[.agg #[.int .i64 kk, .int .i64 nk, .slice aa mm cc]] W (GivesS (Ent.get l n d) W)) := fun W hb => desc_Clone 4194304 (Nat.le_refl _) (Ent.get l n d) kk nk aa mm cc W _ (get_size hs (by omega) n d) (hT.below hb)
  obtain ⟨bh, hbh⟩ : ∃ bh, Ent.has l n d = bh := ⟨_, rfl⟩
  rw [hbh] at hL ⊢
  have hl0 : W0.heap[mb]? = some (mapObj xs) := (hb0.block _ (block_lt h1)).trans h1
  have r2 := hL W0.drew hl0
  have r3 := hL (W0.alloc (.cells #[.int .i64 0, .int .i64 0, .slice none 0 0] 34)).drew (block_old (block_lt hl0) hl0)
  have hbz : Below W0.heap.size W0 (W0.alloc (.cells #[.int .i64 0, .int .i64 0, .slice none 0 0] 34)).drew := ((Below.refl _ _).alloc (Nat.le_refl _) _).drew
  have s0 := (hb0.block _ (block_lt h.ptr)).trans h.ptr
  have q0 : W0.cell? ⟨p, 0, none⟩ = some (.map (some mb)) := block_cell s0 0
  have D0 : W0.cell? ⟨w.heap.size, 0, none⟩ = some (.int .i64 n) := block_cell x0 0
  have D1 : W0.cell? ⟨w.heap.size, 1, none⟩ = some (.int .i64 d) := block_cell x0 1
  have D2 := (hbz.cell (p := ⟨w.heap.size, 0, none⟩) (block_lt x0)).trans D0
  have D3 := (hbz.cell (p := ⟨w.heap.size, 1, none⟩) (block_lt x0)).trans D1
  have q1 := (hbz.cell (p := ⟨p, 0, none⟩) (block_lt s0)).trans q0
  have HB0 := Lib.hid hb0
  have HX1 := Lib.hid x1
  have z1 := block_lt x0
  have z2 := block_lt x1
  clear h h1 hT hL hb0 hl0 x0 x1 s0 hbz
  go_enter Try.func13, Try.ntmps13
  go_wp2_with fail
  go_upto_region 3 with fail
  go_cut [6, 7] from 10 to 19 (fun c b wx => ∃ q : Nat, c = .pointer (some ⟨q, 0, none⟩) ∧ b = .bool bh ∧ Hid (wx.heap[q]? = some (.cells #[.int .i64 kk, .int .i64 nk, .slice aa mm cc] 34 (0, 0))) ∧ Hid (Below W0.heap.size W0 wx) ∧ W0.heap.size ≤ q)
  case first =>
    go_region
    all_goals
      have HF : Hid (Below W0.heap.size W0 (W0.alloc (.cells #[.int .i64 kk, .int .i64 nk, .slice aa mm cc] 34)).drew) := ((Below.refl _ _).alloc (Nat.le_refl _) _).drew
      have HN : Hid ((W0.alloc (.cells #[.int .i64 kk, .int .i64 nk, .slice aa mm cc] 34)).drew.heap[W0.heap.size]? = some (.cells #[.int .i64 kk, .int .i64 nk, .slice aa mm cc] 34 (0, 0))) := heap_alloc_new W0 _
      clear r2 r3 q0 q1 D0 D1 D2 D3
      go_wp2_with fail
      go_meet
      exact ⟨_, rfl, rfl, HN.out, HF.out, Nat.le_refl _⟩
  case rest =>
    obtain ⟨q, rfl, rfl, HQ, HBC, hq⟩ := hcut
    have e0 := block_cell HQ.out 0
    have e1 := block_cell HQ.out 1
    have e2 := block_cell HQ.out 2
    simp at e0 e1 e2
    have HBW := Lib.hid (chain HB0.out HBC.out)
    have CKC := Lib.hid (CK.out wc HBW.out)
    have x1 := (HBC.out.block _ z2).trans HX1.out
    clear r2 r3 q0 q1 D0 D1 D2 D3
    go_wp2_with fail
    refine CKC.out.mono ?_; rintro r w1 ⟨k2, n2, a2, m2, c2, rfl, hS, hb1⟩
    have x2 := (hb1.block _ (block_lt x1)).trans x1
    have HX2 := Lib.hid x2
    have f0 := block_free x2 0
    have f1 := block_free x2 1
    have f2 := block_free x2 2
    have g0 := block_cell x2 0
    have g1 := block_cell x2 1
    have g2 := block_cell x2 2
    simp at g0 g1 g2
    have HB2 := Lib.hid (chain HBW.out hb1)
    have HS2 := Lib.hid hS
    have hc1 := HBC.out.size
    clear hS hb1 e0 e1 e2 x1 x2
    go_wp2_with fail
    obtain ⟨w3, hw3⟩ : ∃ w3, ((w1.setCell ⟨w.heap.size + 1, 0, none⟩ (.int .i64 k2)).setCell ⟨w.heap.size + 1, 1, none⟩ (.int .i64 n2)).setCell ⟨w.heap.size + 1, 2, none⟩ (.slice a2 m2 c2) = w3 := ⟨_, rfl⟩
    have hbl : w3.heap[w.heap.size + 1]? = some (.cells #[.int .i64 k2, .int .i64 n2, .slice a2 m2 c2] 34 (0, 0)) := by
      rw [← hw3]; exact block_set (block_set (block_set HX2.out 0 _) 1 _) 2 _
    have hfar : ∀ b, b ≠ w.heap.size + 1 → w3.heap[b]? = w1.heap[b]? := fun b hb => by rw [← hw3, set_far _ _ _ _ hb, set_far _ _ _ _ hb, set_far _ _ _ _ hb]
    have hb3 : Below w.heap.size w w3 := by rw [← hw3]; exact ((HB2.out.setCell (by show w.heap.size ≤ w.heap.size + 1; omega) _).setCell (by show w.heap.size ≤ w.heap.size + 1; omega) _).setCell (by show w.heap.size ≤ w.heap.size + 1; omega) _
    have hT3 : IsT w3 (fun b => w.heap.size ≤ b) k2 n2 a2 m2 c2 (Ent.get l n d) := (HS2.out.tree.stay fun b hb _ => hfar b (by have := hb.1; omega)).mono fun b hb => by have := hb.1; omega
    rw [hw3]
    have r0 := block_cell hbl 0
    have r1 := block_cell hbl 1
    have r2 := block_cell hbl 2
    simp at r0 r1 r2
    refine bodyPost_ret (v := .tuple #[.agg #[.int .i64 k2, .int .i64 n2, .slice a2 m2 c2], .bool bh]) (by simp [results, Try.results13, go_sem, r0, r1, r2]) rfl ⟨k2, n2, a2, m2, c2, rfl, hT3, hb3⟩
end Go.Proofs.Ytonffapiamhdbaa

namespace Go.Proofs.Ytonffapiamhdbaa
open Go.RowKit
set_option linter.unusedVariables false
set_option linter.unusedSimpArgs false
set_option maxRecDepth 100000
/-- The entries at some places. -/
def pick (l : List Ent) (s : List Nat) : List Ent := s.map fun i => Ent.at_ l i
theorem pick_all (l : List Ent) : pick l (List.range l.length) = l := by
  refine List.ext_getElem (by simp [pick]) fun i h1 h2 => ?_
  simp [pick, Ent.at_, h2]
theorem pick_perm {l : List Ent} {s : List Nat} (hn : s.Nodup) (hs : ∀ i, i ∈ s ↔ i < l.length) : (pick l s).Perm l := by
  have h : s.Perm (List.range l.length) := (List.perm_ext_iff_of_nodup hn List.nodup_range).2 fun i => by rw [hs, List.mem_range]
  have := h.map (fun i => Ent.at_ l i)
  rw [← pick_all l] 
  conv => rhs; rw [pick]
  rw [pick_all]
  exact this
theorem sizeL_perm {a b : List Tr} (h : a.Perm b) : Tr.sizeL a = Tr.sizeL b := by
  induction h with
  | nil => rfl
  | cons x _ ih => simp only [Tr.sizeL]; omega
  | swap x y l => simp only [Tr.sizeL]; omega
  | trans _ _ h1 h2 => omega
theorem nodes_perm {a b : List Ent} (h : a.Perm b) : entNodes a = entNodes b := sizeL_perm (h.map fun x => x.t)
theorem keys_perm {a b : List Ent} (h : a.Perm b) (hk : (b.map Ent.key).Nodup) : (a.map Ent.key).Nodup := ((h.map Ent.key).nodup_iff).2 hk
theorem sort_perm {a b : List Ent} (h : a.Perm b) (hk : (b.map Ent.key).Nodup) : Ent.sortR [] a = Ent.sortR [] b := by
  refine Ent.up_ext _ _ (Ent.up_sortR List.Pairwise.nil (by simpa using keys_perm h hk)) (Ent.up_sortR List.Pairwise.nil (by simpa using hk)) fun x => ?_
  rw [Ent.mem_sortR, Ent.mem_sortR, h.mem_iff]
end Go.Proofs.Ytonffapiamhdbaa

namespace Go.Proofs.Ytonffapiamhdbaa
open Go.RowKit
set_option linter.unusedVariables false
set_option linter.unusedSimpArgs false
set_option maxRecDepth 100000
set_option maxRecDepth 20000
/-- The range is under way: the places that it has told, and the cells that were laid. -/
structure Rng (w wr : World) (B mb ri : Nat) (xs : List (Value × Value)) (l : List Ent) (v : Value) (s : List Nat) : Prop where
  iter : ∃ (seen : Array Nat) (c0 : Nat), seen.toList = s ∧ wr.heap[ri]? = some (.mapIter (some mb) xs.length seen c0) ∧ xs.length ≤ c0
  nodup : s.Nodup
  places : ∀ i ∈ s, i < l.length
  cells : ∃ ys, wr.ownsRow (ri + 1) 36 5 v s.length ys ∧ CellsE wr (fun b => B ≤ b ∧ b < w.heap.size) ys (pick l s)
  below : Below w.heap.size w wr
  size : ri + 1 ≤ wr.heap.size
theorem nodup_len : ∀ (n : Nat) (s : List Nat), s.Nodup → (∀ i ∈ s, i < n) → s.length ≤ n
  | 0, s, _, h => by
    cases s with
    | nil => simp
    | cons x s => have := h x (by simp); omega
  | n + 1, s, hn, h => by
    have h1 := nodup_len n (s.erase n) (hn.erase n) fun i hi => by
      have h2 := (List.Nodup.mem_erase_iff hn).1 hi
      have := h i h2.2
      have := h2.1
      omega
    have h2 := List.le_length_erase (l := s) (a := n)
    omega
theorem pick_snoc (l : List Ent) (s : List Nat) (i : Nat) : pick l (s ++ [i]) = pick l s ++ [Ent.at_ l i] := by simp [pick]
theorem left_at {w : World} {mb ri since c : Nat} {es : Array MapEntry} {k : Nat} {seen : Array Nat} (h1 : w.heap[mb]? = some (.map es k)) (h2 : w.heap[ri]? = some (.mapIter (some mb) since seen c)) : w.rangeLeft mb ri = (leftOf es seen).size := by
  simp only [World.rangeLeft, h1, h2]
theorem left_none {xs : List (Value × Value)} {seen : Array Nat} (h : (leftOf (ents xs).toArray seen).size = 0) (i : Nat) (hi : i < xs.length) : i ∈ seen.toList := by
  by_cases hc : seen.contains i = true
  · simpa using hc
  · exfalso
    have hm : ({ key := (xs[i]).1, val := (xs[i]).2, born := i } : MapEntry) ∈ leftOf (ents xs).toArray seen := by
      unfold leftOf
      refine Array.mem_filter.2 ⟨?_, by simpa using hc⟩
      have : ({ key := (xs[i]).1, val := (xs[i]).2, born := i } : MapEntry) ∈ ents xs := List.mem_of_getElem? (i := i) (by rw [ents_get, List.getElem?_eq_getElem hi]; rfl)
      simpa using this
    have := Array.size_pos_of_mem hm
    omega
set_option maxHeartbeats 4000000 in
theorem wmap_Entries (B p mb : Nat) (l : List Ent) (w : World) (h : IsM w (fun b => B ≤ b) p mb l) (hB : B ≤ w.heap.size) (hz : entNodes l ≤ 1048576) :
    Calls Try.prog 17 #[.pointer (some ⟨p, 0, none⟩)] w fun e w' => ∃ a m c, e = .returned (.slice a m c) ∧ IsE w' (fun b => w.heap.size ≤ b) a m c (Ent.sortR [] l) ∧ Below w.heap.size w w' := by
  obtain ⟨xs, h1, h2⟩ := h.tab
  obtain ⟨i0, hi0, hz0, hz1, hz2⟩ := info_parts info_entry
  have q0 : w.cell? ⟨p, 0, none⟩ = some (.map (some mb)) := block_cell h.ptr 0
  have hrm := run_range_map (P := Try.prog) w 55 _ _ mb (ents xs).toArray xs.length Try.underlying55 h1
  have H1 := Lib.hid h1
  have H2 := Lib.hid h2
  have HK := Lib.hid h.keys
  have HZ := Lib.hid hz
  clear h h1 h2 hz
  go_enter Try.func17, Try.ntmps17
  go_wp2_with fail
  go_loopw [3] (fun v wr => ∃ s : List Nat, Hid (Rng w wr B mb w.heap.size xs l v s)) (fun _ wr => wr.rangeLeft mb w.heap.size)
  case atStart =>
    refine ⟨[], ⟨⟨#[], xs.length, rfl, heap_alloc_new w _, Nat.le_refl _⟩, List.nodup_nil, (fun i hi => by cases hi), ⟨[], World.ownsRow_nil _ _ _ _, .nil⟩, (Below.refl _ _).alloc (Nat.le_refl _) _, by simp⟩⟩
  case round =>
    obtain ⟨s, HR⟩ := hrel
    obtain ⟨⟨seen, c0, hseen, hit, hc0⟩, hnd, hpl, ⟨ys, hown, hcl⟩, hbel, hsz⟩ := HR.out
    have hmb : wr.heap[mb]? = some (.map (ents xs).toArray xs.length) := (hbel.block _ (block_lt H1.out)).trans H1.out
    have hold : ∀ x ∈ (ents xs).toArray.toList, x.born < xs.length := fun x hx => by
      obtain ⟨i, hi, e⟩ := List.getElem_of_mem hx
      have h1 : i < xs.length := by simpa [ents] using hi
      rw [← e]
      simpa [ents] using h1
    have HOLD := Lib.hid hold
    rcases run_next_at (P := Try.prog) wr 0 w.heap.size mb xs.length c0 seen (ents xs).toArray xs.length hit hmb hold hc0 with ⟨hl0, hrun⟩ | ⟨e, he, w1, hw1, hrun⟩
    · have hall : ∀ i, i ∈ s ↔ i < l.length := fun i => ⟨hpl i, fun hi => by rw [← hseen]; exact left_none hl0 i (by rw [H2.out.len]; exact hi)⟩
      have hpm := pick_perm hnd hall
      obtain ⟨a, c, hv, hok, hg⟩ := own_slice2 hown
      rw [hv] at hown
      have hI : IsE wr (fun b => B ≤ b) a s.length c (pick l s) := ents_of_own hown hcl (by simp [pick]) (fun b hb => hb.1) (fun g hg => by have h1 := (hown.lt g (by rw [hg]; rfl)).1; omega)
      have CS := Lib.hid (entry_Sort a s.length c (pick l s) wr _ hI (keys_perm hpm HK.out) (by rw [nodes_perm hpm]; exact HZ.out))
      have HSP := Lib.hid (sort_perm hpm HK.out)
      have HBL := Lib.hid hbel
      clear hI hpm hall hown hcl hold hok hg
      subst hv
      go_wp2_with fail
      refine CS.out.mono ?_; rintro x w2 ⟨a2, m2, c2, rfl, hE, hb2⟩
      rw [HSP.out] at hE
      have hbs := hbel.size
      have HE := Lib.hid (hE.mono (G := fun b => w.heap.size ≤ b) fun b hb => by omega)
      have HB2 := Lib.hid (chain HBL.out hb2)
      clear hE hb2
      go_wp2_with fail
      go_ret
      exact ⟨_, _, _, rfl, HE.out, HB2.out⟩
    · obtain ⟨hem, hnc⟩ := mem_left he
      obtain ⟨i, hi, hei⟩ : ∃ i, ∃ hi : i < xs.length, e = { key := (xs[i]).1, val := (xs[i]).2, born := i } := by
        obtain ⟨i, hi, e1⟩ := List.getElem_of_mem hem
        have h1 : i < xs.length := by simpa [ents] using hi
        exact ⟨i, h1, by rw [← e1]; simp [ents]⟩
      have hil : i < l.length := by rw [← H2.out.len]; exact hi
      obtain ⟨k, nn, a, m, c, hx, hT⟩ := H2.out.at i hil
      rw [List.getElem?_eq_getElem hi] at hx
      have hxi : xs[i] = (kv (Ent.at_ l i).n (Ent.at_ l i).d, .agg #[.int .i64 k, .int .i64 nn, .slice a m c]) := by injection hx
      have hbo : e.born = i := by rw [hei]
      have hke : e.key = kv (Ent.at_ l i).n (Ent.at_ l i).d := by rw [hei, hxi]
      have hva : e.val = .agg #[.int .i64 k, .int .i64 nn, .slice a m c] := by rw [hei, hxi]
      have hni : i ∉ s := by
        rw [hbo] at hnc
        rw [← hseen]
        intro h
        have : seen.contains i = true := by simpa using h
        rw [this] at hnc; cases hnc
      have hfi := H2.out.fit _ (Ent.at_mem hil)
      have hww : w1.heap = wr.heap ∧ wr.grownBy w1 none := by rcases hw1 with rfl | rfl <;> exact ⟨rfl, rfl, rfl, rfl, Nat.le_refl _, fun _ _ _ => rfl⟩
      obtain ⟨V, hV⟩ : ∃ V, Go.ChangeMaps.setBlock w1 w.heap.size (.mapIter (some mb) xs.length (seen.push e.born) xs.length) = V := ⟨_, rfl⟩
      rw [hV] at hrun
      have hVs : V.heap.size = wr.heap.size := by rw [← hV]; show (w1.putObj _ _).heap.size = _; rw [← hww.1]; simp [World.putObj]
      have hVri : V.heap[w.heap.size]? = some (.mapIter (some mb) xs.length (seen.push e.born) xs.length) := by rw [← hV]; exact World.putObj_heap_same (by rw [hww.1]; omega)
      have hVo : ∀ b, b ≠ w.heap.size → V.heap[b]? = wr.heap[b]? := fun b hb => by rw [← hV, ← hww.1]; exact World.putObj_heap_other hb
      have hVg : wr.grownBy V (some w.heap.size) := by
        refine ⟨?_, ?_, ?_, by omega, fun b hb hne => hVo b (fun e => hne (by rw [e]))⟩
        · rw [← hV]; exact hww.2.os
        · rw [← hV]; exact hww.2.tape
        · rw [← hV]; exact hww.2.output
      have hmlt : mb < w.heap.size := block_lt H1.out
      have hVmb : V.heap[mb]? = some (.map (ents xs).toArray xs.length) := (hVo _ (by omega)).trans hmb
      have hent := run_entry_at (P := Try.prog) V w.heap.size mb xs.length seen (ents xs).toArray xs.length e hVri hVmb hem (by
        have : ((ents xs).toArray.toList.map (·.born)) = List.range xs.length := by
          refine List.ext_getElem (by simp [ents]) fun i h1 h2 => ?_
          simp [ents]
        rw [this]; exact List.nodup_range)
      rw [hke, hva] at hrun hent
      simp only [kv] at hrun hent
      have hownV := hown.kept hVg (.inr (fun e => by have := (hown.lt _ e).1; omega))
      have hclV : CellsE V (fun b => B ≤ b ∧ b < w.heap.size) ys (pick l s) := hcl.stay fun b hb _ => hVo b (by omega)
      have hVb : Below w.heap.size w V := hbel.grown hVg (by omega) (fun k hk => by injection hk with e; omega)
      have hTV : IsT V (fun b => B ≤ b ∧ b < w.heap.size) k nn a m c (Ent.at_ l i).t := (hT.inn.below hVb).mono fun b hb => ⟨hb.1.1, hb.2⟩
      obtain ⟨y0, hy0⟩ : ∃ y, (Ent.at_ l i).n = y := ⟨_, rfl⟩
      obtain ⟨y1, hy1⟩ : ∃ y, (Ent.at_ l i).d = y := ⟨_, rfl⟩
      have HYY := Lib.hid (And.intro hy0 hy1)
      rw [hy0, hy1] at hrun hent
      obtain ⟨W0, hW0, hb0, x0, x1⟩ := two_boxesS V #[.int .i64 y0, .int .i64 y1] #[.int .i64 k, .int .i64 nn, .slice a m c] 24 34
      have k0 := block_cell x0 0
      have k1 := block_cell x0 1
      have d0 := block_cell x1 0
      have d1 := block_cell x1 1
      have d2 := block_cell x1 2
      simp at k0 k1 d0 d1 d2
      rw [hVs] at k0 k1 d0 d1 d2
      have hb0s := hb0.size
      have hsl : s.length ≤ l.length := nodup_len _ s hnd hpl
      have hll : l.length ≤ 1048576 := Nat.le_trans (entNodes_len l) HZ.out
      have HOW := Lib.hid (own_later3 hownV hb0)
      have HCW : Hid (CellsE W0 (fun b => B ≤ b ∧ b < w.heap.size) ys (pick l s)) := hclV.later hb0
      have HTW : Hid (IsT W0 (fun b => B ≤ b ∧ b < w.heap.size) k nn a m c (Ent.at_ l i).t) := hTV.below hb0
      have HBW := Lib.hid (chain hVb hb0)
      have HRI := Lib.hid ((hb0.block _ (block_lt hVri)).trans hVri)
      have HMB := Lib.hid ((hb0.block _ (block_lt hVmb)).trans hVmb)
      have HFI := Lib.hid hfi
      have HLT := Lib.hid (left_at hmb hit)
      have HSH := Lib.hid (left_shrinks _ _ _ he)
      have HNI := Lib.hid hni
      have HPL := Lib.hid hpl
      have HND := Lib.hid hnd
      have HSE := Lib.hid hseen
      have HBO := Lib.hid hbo
      clear hownV hclV hVb hTV hb0 x0 x1 hVri hVmb hfi hmb hit he hni hpl hnd hseen hbo hVo hVg hww hw1 hown hcl hbel hold hT hx hxi hei hke hva hem hnc hV hy0 hy1 hc0
      go_wp2_with (at_builtin; refine wpList_append_lies _ rfl _ _ 22 rfl (w.heap.size + 1) 36 i0 _ 5 56 Try.underlying22 hi0 hz0 hz1 hz2 rfl (by decide) _ s.length ys rfl (HOW.out.alloc _) ⟨W0.heap.size, 0, none⟩ 1 1 [.int .i64 y0, .int .i64 y1, .int .i64 k, .int .i64 nn, .slice a m c] rfl rfl (cell_five_new _ _ _ _ _ _ _) (one_five _ _ _ _ _ _ _) (by omega) (by unfold maxLen; omega) (by omega) (by simp; omega) (W0.heap.size + 1) (by simp) ?_)
      intro g3 c3 w2 hown3 hgrow hat hlt3
      have hal : (W0.alloc (.cells #[.int .i64 y0, .int .i64 y1, .int .i64 k, .int .i64 nn, .slice a m c] 36)).heap.size = W0.heap.size + 1 := by simp
      have hst : ∀ b, b ≤ w.heap.size → w2.heap[b]? = W0.heap[b]? := fun b hb => by
        rw [hgrow.block b (by omega) (fun e => by have := (HOW.out.lt b e.symm).1; omega)]
        exact heap_alloc_old W0 _ (by omega)
      have hc2 : CellsE w2 (fun b => B ≤ b ∧ b < w.heap.size) (ys ++ [.int .i64 y0, .int .i64 y1, .int .i64 k, .int .i64 nn, .slice a m c]) (pick l (s ++ [i])) := by
        rw [pick_snoc, ← HYY.out.1, ← HYY.out.2]
        exact (HCW.out.stay fun b hb _ => hst b (by omega)).append (.cons (HTW.out.stay fun b hb _ => hst b (by omega)) HFI.out .nil)
      have hb2 : Below w.heap.size w w2 := (HBW.out.alloc (by omega) _).grown hgrow (by omega) (fun k hk => by have := (HOW.out.lt k hk).1; omega)
      have hri2 := (hst _ (Nat.le_refl _)).trans HRI.out
      have hmb2 := (hst _ (by omega)).trans HMB.out
      have hm2 := left_at hmb2 hri2
      have HR2 : Hid (Rng w w2 B mb w.heap.size xs l (.slice (some ⟨g3, 0, none⟩) (s.length + 1) c3) (s ++ [i])) := by
        refine ⟨⟨seen.push e.born, _, by rw [Array.toList_push, HSE.out, HBO.out], hri2, Nat.le_refl _⟩, ?_, ?_, ⟨_, ?_, hc2⟩, hb2, by have := hgrow.size; omega⟩
        · rw [List.nodup_append]
          refine ⟨HND.out, by simp, fun x hx y hy e => ?_⟩
          rw [List.mem_singleton] at hy
          exact HNI.out (by rw [← hy, ← e]; exact hx)
        · intro x hx
          rcases List.mem_append.1 hx with hx | hx
          · exact HPL.out x hx
          · rw [List.mem_singleton] at hx; rw [hx]; exact hil
        · rw [List.length_append, List.length_singleton]; exact hown3
      have HM : Hid (w2.rangeLeft mb w.heap.size < wr.rangeLeft mb w.heap.size) := by unfold Hid; rw [hm2, HLT.out]; exact HSH.out
      clear hat hgrow hown3 hst hc2 hb2 hri2 hmb2 hm2
      go_wp2_with fail
      go_roundw
      case rel => exact ⟨s ++ [i], HR2⟩
      case measure => exact HM.out
end Go.Proofs.Ytonffapiamhdbaa

