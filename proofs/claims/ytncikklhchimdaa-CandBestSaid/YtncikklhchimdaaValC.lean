/- Contracts: is a node of a tree right by itself? The reference. -/
import Derived.Test.YtncikklhchimdaaValB
namespace Go.Proofs.Ytncikklhchimdaa
open Go.RowKit
set_option linter.unusedVariables false
set_option linter.unusedSimpArgs false
set_option maxRecDepth 100000
set_option maxRecDepth 20000

theorem own_int_cell {e : TypeId} {w wr : World} {g cap n : Nat} {f : Nat → Int} (h : Own .i64 e w wr (.slice (some ⟨g, 0, none⟩) n cap) n f) (i : Nat) (hi : i < n) : wr.cell? ⟨g, i, none⟩ = some (.int .i64 (f i)) :=
  (h.own.cellAt i (by omega)).trans (by simp [hi])

/-- A quiet call behind an earlier quiet region. -/
theorem quiet_same2 {P : Program} {f : FuncId} {args : Array Value} {w : World} {q a : Nat} {v : Value} (h : Calls P f args (w.drewN (q + a)) fun e w' => e = .returned v ∧ w' = w.drewN (q + a)) :
    Calls P f args (w.drewN (q + a)) fun e w'' => e = .returned v ∧ ∃ n, w'' = w.drewN (q + n) := h.mono fun _ _ ⟨he, hm⟩ => ⟨he, a, hm⟩

set_option maxHeartbeats 1600000 in
theorem ref14_Node_1 (t : Tr) (n : Int) (a : Option Addr) (m cap : Nat) (w : World) (F : Nat → Prop) (hs : t.size ≤ 4194304) (hT : IsT w F 1 n a m cap t) :
    Calls Try.prog 22 #[.agg #[.int .i64 1, .int .i64 n, .slice a m cap]] w fun e w' => e = .returned (.bool (nodeOk t)) ∧ Below w.heap.size w w' := by
  obtain ⟨i0, hi, hz0, hz1, hz2⟩ := info_parts info_int
  have hn := hT.fn
  have hmm : m ≤ 4194304 := by
    have h1 := Tr.len_le_sizeL t.kids
    rw [Tr.size_kids] at hs
    rw [hT.em]; omega
  have HN : Hid (nodeOk t = nodeB 1 n m (Tr.kid t.kids 0).num (Tr.kid t.kids 1).num) := by unfold Hid nodeOk; rw [hT.ek, hT.en, hT.em]
  have hd : ∀ i, i < m → -9223372036854775808 ≤ (Tr.kid t.kids i).num ∧ (Tr.kid t.kids i).num < 9223372036854775808 := fun i h => by
    obtain ⟨_, _, _, _, _, d⟩ := hT.knum i h
    exact d
  have HD := Lib.hid hd
  obtain ⟨B, hB⟩ : ∃ B, hasSz n = B := ⟨_, rfl⟩
  have HS : Hid (∀ W, Calls Try.prog 29 #[.int .i64 n] W fun e w' => e = .returned (.bool B) ∧ W = w') := fun W => by
    cases B with
    | true => exact refHas_yes n W hB
    | false => exact refHas_no n W hB hn
  have HB := Lib.hid hB
  obtain ⟨W0, hW0⟩ : ∃ W0, w.alloc (.cells #[.int .i64 1, .int .i64 n, .slice a m cap] 24) = W0 := ⟨_, rfl⟩
  have hx0 : W0.heap[w.heap.size]? = some (.cells #[.int .i64 1, .int .i64 n, .slice a m cap] 24 (0, 0)) := by rw [← hW0]; exact block_new rfl
  have hb0 : Below w.heap.size w W0 := by rw [← hW0]; exact (Below.refl _ _).alloc (Nat.le_refl _) _
  have HT := Lib.hid (hT.below hb0)
  have HX0 := Lib.hid hx0
  have HW0 := Lib.hid hW0
  have HB0 := Lib.hid hb0
  clear hs hT hd hB hx0 hW0 hb0
  go_enter Try.func22, Try.ntmps22
  go_wp2_with fail
  rw [HW0.out]
  go_loopw [3, 4] (fun v i wr => ∃ j : Nat, j ≤ m ∧ i = .int .i64 j ∧ Own .i64 3 W0 wr v j (fun i => (Tr.kid t.kids i).num)) (fun _ i _ => m - (intOf i).toNat)
  case atStart => exact ⟨0, Nat.zero_le _, rfl, World.ownsRow_nil _ _ _ _, Below.refl _ _⟩
  case round =>
    obtain ⟨j, hj, rfl, hown⟩ := hrel
    have hX := (hown.below.block _ (block_lt HX0.out)).trans HX0.out
    have x0 : wr.cell? ⟨w.heap.size, 0, none⟩ = some (.int .i64 1) := block_cell hX 0
    have x1 : wr.cell? ⟨w.heap.size, 1, none⟩ = some (.int .i64 n) := block_cell hX 1
    have x2 : wr.cell? ⟨w.heap.size, 2, none⟩ = some (.slice a m cap) := block_cell hX 2
    clear hX
    by_cases hlt : j < m
    · obtain ⟨b, off, rfl, hbl, c0, d0⟩ := (HT.out.below hown.below).knum j hlt
      obtain ⟨kk, hkk⟩ : ∃ kk, (Tr.kid t.kids j).num = kk := ⟨_, rfl⟩
      rw [hkk] at c0 d0
      have HKK := Lib.hid hkk
      clear hkk
      have g1 : (0 : Int) ≤ (j : Int) := by omega
      have g2 : (j : Int) < (m : Int) := by omega
      go_wp2_with (at_builtin; refine wpList_append_own _ rfl _ _ 25 rfl W0.heap.size 3 i0 (.int .i64 0) 1 8 Try.underlying25 hi hz0 hz1 hz2 rfl (by decide) _ _ _ rfl (hown.own.alloc _) ⟨wr.heap.size, 0, none⟩ 1 1 [.int .i64 kk] rfl rfl (cell_one_new _ _ _) (one_cell _ _) (by unfold maxLen; omega) (by omega) (size_alloc_le hown.below _) ?_)
      intro v' w2 hown2 hgrow _
      have HPU := Lib.hid (hown.push kk HKK.out.symm hown2 hgrow)
      clear hown hown2 hgrow x0 x1 x2 c0
      go_wp2_with fail
      go_roundw
      case rel => exact ⟨j + 1, by omega, by go_num, HPU.out⟩
      case measure => simp [intOf]; omega
    · have hjm : j = m := by omega
      subst hjm
      obtain ⟨a3, c3, rfl, hca, hg⟩ := own_slice2 hown.own
      have hbe : Below w.heap.size w wr := chain HB0.out hown.below
      have HBE := Lib.hid hbe
      clear hbe hlt
      have HG := HN
      clear hown hg
      have HQ : Hid (nodeB 1 n j (Tr.kid t.kids 0).num (Tr.kid t.kids 1).num = (decide (j = 0 ∧ n ≤ 64) && B)) := by unfold Hid nodeB; rw [if_pos rfl, HB.out]
      rw [HQ.out] at HG
      clear HQ
      by_cases hm : j = 0
      · subst hm
        cases B with
        | true =>
          by_cases h : n ≤ 64
          all_goals
            go_wp2_with fail
            refine (HS.out _).mono ?_; rintro e w1 ⟨rfl, rfl⟩
            go_wp2_with fail
            go_ret
            exact ⟨ret_bool (by rw [HG.out]; simp [h]), HBE.out⟩
        | false =>
          go_wp2_with fail
          refine (HS.out _).mono ?_; rintro e w1 ⟨rfl, rfl⟩
          go_wp2_with fail
          go_ret
          exact ⟨ret_bool (by rw [HG.out]; simp), HBE.out⟩
      · skip
        have hm0 : ((j : Int) == 0) = false := bno (by omega)
        have hn0 : ((j : Int) != 0) = true := bdiff (by omega)
        go_wp2_with fail
        go_ret
        exact ⟨ret_bool (by rw [HG.out]; simp [hm]), HBE.out⟩

set_option maxHeartbeats 1600000 in
theorem ref14_Node_2 (t : Tr) (n : Int) (a : Option Addr) (m cap : Nat) (w : World) (F : Nat → Prop) (hs : t.size ≤ 4194304) (hT : IsT w F 2 n a m cap t) :
    Calls Try.prog 22 #[.agg #[.int .i64 2, .int .i64 n, .slice a m cap]] w fun e w' => e = .returned (.bool (nodeOk t)) ∧ Below w.heap.size w w' := by
  obtain ⟨i0, hi, hz0, hz1, hz2⟩ := info_parts info_int
  have hn := hT.fn
  have hmm : m ≤ 4194304 := by
    have h1 := Tr.len_le_sizeL t.kids
    rw [Tr.size_kids] at hs
    rw [hT.em]; omega
  have HN : Hid (nodeOk t = nodeB 2 n m (Tr.kid t.kids 0).num (Tr.kid t.kids 1).num) := by unfold Hid nodeOk; rw [hT.ek, hT.en, hT.em]
  have hd : ∀ i, i < m → -9223372036854775808 ≤ (Tr.kid t.kids i).num ∧ (Tr.kid t.kids i).num < 9223372036854775808 := fun i h => by
    obtain ⟨_, _, _, _, _, d⟩ := hT.knum i h
    exact d
  have HD := Lib.hid hd
  obtain ⟨B, hB⟩ : ∃ B, hasSz n = B := ⟨_, rfl⟩
  have HS : Hid (∀ W, Calls Try.prog 29 #[.int .i64 n] W fun e w' => e = .returned (.bool B) ∧ W = w') := fun W => by
    cases B with
    | true => exact refHas_yes n W hB
    | false => exact refHas_no n W hB hn
  have HB := Lib.hid hB
  obtain ⟨W0, hW0⟩ : ∃ W0, w.alloc (.cells #[.int .i64 2, .int .i64 n, .slice a m cap] 24) = W0 := ⟨_, rfl⟩
  have hx0 : W0.heap[w.heap.size]? = some (.cells #[.int .i64 2, .int .i64 n, .slice a m cap] 24 (0, 0)) := by rw [← hW0]; exact block_new rfl
  have hb0 : Below w.heap.size w W0 := by rw [← hW0]; exact (Below.refl _ _).alloc (Nat.le_refl _) _
  have HT := Lib.hid (hT.below hb0)
  have HX0 := Lib.hid hx0
  have HW0 := Lib.hid hW0
  have HB0 := Lib.hid hb0
  clear hs hT hd hB hx0 hW0 hb0
  go_enter Try.func22, Try.ntmps22
  go_wp2_with fail
  rw [HW0.out]
  go_loopw [3, 4] (fun v i wr => ∃ j : Nat, j ≤ m ∧ i = .int .i64 j ∧ Own .i64 3 W0 wr v j (fun i => (Tr.kid t.kids i).num)) (fun _ i _ => m - (intOf i).toNat)
  case atStart => exact ⟨0, Nat.zero_le _, rfl, World.ownsRow_nil _ _ _ _, Below.refl _ _⟩
  case round =>
    obtain ⟨j, hj, rfl, hown⟩ := hrel
    have hX := (hown.below.block _ (block_lt HX0.out)).trans HX0.out
    have x0 : wr.cell? ⟨w.heap.size, 0, none⟩ = some (.int .i64 2) := block_cell hX 0
    have x1 : wr.cell? ⟨w.heap.size, 1, none⟩ = some (.int .i64 n) := block_cell hX 1
    have x2 : wr.cell? ⟨w.heap.size, 2, none⟩ = some (.slice a m cap) := block_cell hX 2
    clear hX
    by_cases hlt : j < m
    · obtain ⟨b, off, rfl, hbl, c0, d0⟩ := (HT.out.below hown.below).knum j hlt
      obtain ⟨kk, hkk⟩ : ∃ kk, (Tr.kid t.kids j).num = kk := ⟨_, rfl⟩
      rw [hkk] at c0 d0
      have HKK := Lib.hid hkk
      clear hkk
      have g1 : (0 : Int) ≤ (j : Int) := by omega
      have g2 : (j : Int) < (m : Int) := by omega
      go_wp2_with (at_builtin; refine wpList_append_own _ rfl _ _ 25 rfl W0.heap.size 3 i0 (.int .i64 0) 1 8 Try.underlying25 hi hz0 hz1 hz2 rfl (by decide) _ _ _ rfl (hown.own.alloc _) ⟨wr.heap.size, 0, none⟩ 1 1 [.int .i64 kk] rfl rfl (cell_one_new _ _ _) (one_cell _ _) (by unfold maxLen; omega) (by omega) (size_alloc_le hown.below _) ?_)
      intro v' w2 hown2 hgrow _
      have HPU := Lib.hid (hown.push kk HKK.out.symm hown2 hgrow)
      clear hown hown2 hgrow x0 x1 x2 c0
      go_wp2_with fail
      go_roundw
      case rel => exact ⟨j + 1, by omega, by go_num, HPU.out⟩
      case measure => simp [intOf]; omega
    · have hjm : j = m := by omega
      subst hjm
      obtain ⟨a3, c3, rfl, hca, hg⟩ := own_slice2 hown.own
      have hbe : Below w.heap.size w wr := chain HB0.out hown.below
      have HBE := Lib.hid hbe
      clear hbe hlt
      have HG := HN
      clear hown hg
      have HQ : Hid (nodeB 2 n j (Tr.kid t.kids 0).num (Tr.kid t.kids 1).num = decide (j = 0 ∧ 2 ≤ n ∧ n ≤ 5)) := by unfold Hid nodeB; simp
      rw [HQ.out] at HG
      clear HQ
      by_cases hm : j = 0
      · subst hm
        rcases (show n < 2 ∨ (2 ≤ n ∧ 5 < n) ∨ (2 ≤ n ∧ n ≤ 5) by omega) with h | ⟨h, h5⟩ | ⟨h, h5⟩
        all_goals
          go_wp2_with fail
          go_ret
          exact ⟨ret_bool (by rw [HG.out]; simp; try omega), HBE.out⟩
      · skip
        have hm0 : ((j : Int) == 0) = false := bno (by omega)
        have hn0 : ((j : Int) != 0) = true := bdiff (by omega)
        go_wp2_with fail
        go_ret
        exact ⟨ret_bool (by rw [HG.out]; simp [hm]), HBE.out⟩

set_option maxHeartbeats 1600000 in
theorem ref14_Node_3 (t : Tr) (n : Int) (a : Option Addr) (m cap : Nat) (w : World) (F : Nat → Prop) (hs : t.size ≤ 4194304) (hT : IsT w F 3 n a m cap t) :
    Calls Try.prog 22 #[.agg #[.int .i64 3, .int .i64 n, .slice a m cap]] w fun e w' => e = .returned (.bool (nodeOk t)) ∧ Below w.heap.size w w' := by
  obtain ⟨i0, hi, hz0, hz1, hz2⟩ := info_parts info_int
  have hn := hT.fn
  have hmm : m ≤ 4194304 := by
    have h1 := Tr.len_le_sizeL t.kids
    rw [Tr.size_kids] at hs
    rw [hT.em]; omega
  have HN : Hid (nodeOk t = nodeB 3 n m (Tr.kid t.kids 0).num (Tr.kid t.kids 1).num) := by unfold Hid nodeOk; rw [hT.ek, hT.en, hT.em]
  have hd : ∀ i, i < m → -9223372036854775808 ≤ (Tr.kid t.kids i).num ∧ (Tr.kid t.kids i).num < 9223372036854775808 := fun i h => by
    obtain ⟨_, _, _, _, _, d⟩ := hT.knum i h
    exact d
  have HD := Lib.hid hd
  obtain ⟨B, hB⟩ : ∃ B, hasSz n = B := ⟨_, rfl⟩
  have HS : Hid (∀ W, Calls Try.prog 29 #[.int .i64 n] W fun e w' => e = .returned (.bool B) ∧ W = w') := fun W => by
    cases B with
    | true => exact refHas_yes n W hB
    | false => exact refHas_no n W hB hn
  have HB := Lib.hid hB
  obtain ⟨W0, hW0⟩ : ∃ W0, w.alloc (.cells #[.int .i64 3, .int .i64 n, .slice a m cap] 24) = W0 := ⟨_, rfl⟩
  have hx0 : W0.heap[w.heap.size]? = some (.cells #[.int .i64 3, .int .i64 n, .slice a m cap] 24 (0, 0)) := by rw [← hW0]; exact block_new rfl
  have hb0 : Below w.heap.size w W0 := by rw [← hW0]; exact (Below.refl _ _).alloc (Nat.le_refl _) _
  have HT := Lib.hid (hT.below hb0)
  have HX0 := Lib.hid hx0
  have HW0 := Lib.hid hW0
  have HB0 := Lib.hid hb0
  clear hs hT hd hB hx0 hW0 hb0
  go_enter Try.func22, Try.ntmps22
  go_wp2_with fail
  rw [HW0.out]
  go_loopw [3, 4] (fun v i wr => ∃ j : Nat, j ≤ m ∧ i = .int .i64 j ∧ Own .i64 3 W0 wr v j (fun i => (Tr.kid t.kids i).num)) (fun _ i _ => m - (intOf i).toNat)
  case atStart => exact ⟨0, Nat.zero_le _, rfl, World.ownsRow_nil _ _ _ _, Below.refl _ _⟩
  case round =>
    obtain ⟨j, hj, rfl, hown⟩ := hrel
    have hX := (hown.below.block _ (block_lt HX0.out)).trans HX0.out
    have x0 : wr.cell? ⟨w.heap.size, 0, none⟩ = some (.int .i64 3) := block_cell hX 0
    have x1 : wr.cell? ⟨w.heap.size, 1, none⟩ = some (.int .i64 n) := block_cell hX 1
    have x2 : wr.cell? ⟨w.heap.size, 2, none⟩ = some (.slice a m cap) := block_cell hX 2
    clear hX
    by_cases hlt : j < m
    · obtain ⟨b, off, rfl, hbl, c0, d0⟩ := (HT.out.below hown.below).knum j hlt
      obtain ⟨kk, hkk⟩ : ∃ kk, (Tr.kid t.kids j).num = kk := ⟨_, rfl⟩
      rw [hkk] at c0 d0
      have HKK := Lib.hid hkk
      clear hkk
      have g1 : (0 : Int) ≤ (j : Int) := by omega
      have g2 : (j : Int) < (m : Int) := by omega
      go_wp2_with (at_builtin; refine wpList_append_own _ rfl _ _ 25 rfl W0.heap.size 3 i0 (.int .i64 0) 1 8 Try.underlying25 hi hz0 hz1 hz2 rfl (by decide) _ _ _ rfl (hown.own.alloc _) ⟨wr.heap.size, 0, none⟩ 1 1 [.int .i64 kk] rfl rfl (cell_one_new _ _ _) (one_cell _ _) (by unfold maxLen; omega) (by omega) (size_alloc_le hown.below _) ?_)
      intro v' w2 hown2 hgrow _
      have HPU := Lib.hid (hown.push kk HKK.out.symm hown2 hgrow)
      clear hown hown2 hgrow x0 x1 x2 c0
      go_wp2_with fail
      go_roundw
      case rel => exact ⟨j + 1, by omega, by go_num, HPU.out⟩
      case measure => simp [intOf]; omega
    · have hjm : j = m := by omega
      subst hjm
      obtain ⟨a3, c3, rfl, hca, hg⟩ := own_slice2 hown.own
      have hbe : Below w.heap.size w wr := chain HB0.out hown.below
      have HBE := Lib.hid hbe
      clear hbe hlt
      have HG := HN
      clear hown hg
      obtain ⟨C, hC⟩ : ∃ C, hasP2 n = C := ⟨_, rfl⟩
      have HST : Hid (∀ W, Calls Try.prog 68 #[.int .i64 n] W fun e w' => e = .returned (.bool C) ∧ W = w') := fun W => by rw [← hC]; exact ref14_power n W hn
      have HQ : Hid (nodeB 3 n j (Tr.kid t.kids 0).num (Tr.kid t.kids 1).num = (decide (j = 0 ∧ 2 ≤ n) && C)) := by unfold Hid nodeB; simp [hC]
      clear hC
      rw [HQ.out] at HG
      clear HQ
      by_cases hm : j = 0
      · subst hm
        by_cases h : 2 ≤ n
        · go_wp2_with fail
          refine (HST.out _).mono ?_; rintro e w1 ⟨rfl, rfl⟩
          go_wp2_with fail
          go_ret
          exact ⟨ret_bool (by rw [HG.out]; simp [h]), HBE.out⟩
        · go_wp2_with fail
          go_ret
          exact ⟨ret_bool (by rw [HG.out]; first | (simp [h]; done) | (simp; intros; omega)), HBE.out⟩
      · skip
        have hm0 : ((j : Int) == 0) = false := bno (by omega)
        have hn0 : ((j : Int) != 0) = true := bdiff (by omega)
        go_wp2_with fail
        go_ret
        exact ⟨ret_bool (by rw [HG.out]; simp [hm]), HBE.out⟩

set_option maxHeartbeats 1600000 in
theorem ref14_Node_4 (t : Tr) (n : Int) (a : Option Addr) (m cap : Nat) (w : World) (F : Nat → Prop) (hs : t.size ≤ 4194304) (hT : IsT w F 4 n a m cap t) :
    Calls Try.prog 22 #[.agg #[.int .i64 4, .int .i64 n, .slice a m cap]] w fun e w' => e = .returned (.bool (nodeOk t)) ∧ Below w.heap.size w w' := by
  obtain ⟨i0, hi, hz0, hz1, hz2⟩ := info_parts info_int
  have hn := hT.fn
  have hmm : m ≤ 4194304 := by
    have h1 := Tr.len_le_sizeL t.kids
    rw [Tr.size_kids] at hs
    rw [hT.em]; omega
  have HN : Hid (nodeOk t = nodeB 4 n m (Tr.kid t.kids 0).num (Tr.kid t.kids 1).num) := by unfold Hid nodeOk; rw [hT.ek, hT.en, hT.em]
  have hd : ∀ i, i < m → -9223372036854775808 ≤ (Tr.kid t.kids i).num ∧ (Tr.kid t.kids i).num < 9223372036854775808 := fun i h => by
    obtain ⟨_, _, _, _, _, d⟩ := hT.knum i h
    exact d
  have HD := Lib.hid hd
  obtain ⟨B, hB⟩ : ∃ B, hasSz n = B := ⟨_, rfl⟩
  have HS : Hid (∀ W, Calls Try.prog 29 #[.int .i64 n] W fun e w' => e = .returned (.bool B) ∧ W = w') := fun W => by
    cases B with
    | true => exact refHas_yes n W hB
    | false => exact refHas_no n W hB hn
  have HB := Lib.hid hB
  obtain ⟨W0, hW0⟩ : ∃ W0, w.alloc (.cells #[.int .i64 4, .int .i64 n, .slice a m cap] 24) = W0 := ⟨_, rfl⟩
  have hx0 : W0.heap[w.heap.size]? = some (.cells #[.int .i64 4, .int .i64 n, .slice a m cap] 24 (0, 0)) := by rw [← hW0]; exact block_new rfl
  have hb0 : Below w.heap.size w W0 := by rw [← hW0]; exact (Below.refl _ _).alloc (Nat.le_refl _) _
  have HT := Lib.hid (hT.below hb0)
  have HX0 := Lib.hid hx0
  have HW0 := Lib.hid hW0
  have HB0 := Lib.hid hb0
  clear hs hT hd hB hx0 hW0 hb0
  go_enter Try.func22, Try.ntmps22
  go_wp2_with fail
  rw [HW0.out]
  go_loopw [3, 4] (fun v i wr => ∃ j : Nat, j ≤ m ∧ i = .int .i64 j ∧ Own .i64 3 W0 wr v j (fun i => (Tr.kid t.kids i).num)) (fun _ i _ => m - (intOf i).toNat)
  case atStart => exact ⟨0, Nat.zero_le _, rfl, World.ownsRow_nil _ _ _ _, Below.refl _ _⟩
  case round =>
    obtain ⟨j, hj, rfl, hown⟩ := hrel
    have hX := (hown.below.block _ (block_lt HX0.out)).trans HX0.out
    have x0 : wr.cell? ⟨w.heap.size, 0, none⟩ = some (.int .i64 4) := block_cell hX 0
    have x1 : wr.cell? ⟨w.heap.size, 1, none⟩ = some (.int .i64 n) := block_cell hX 1
    have x2 : wr.cell? ⟨w.heap.size, 2, none⟩ = some (.slice a m cap) := block_cell hX 2
    clear hX
    by_cases hlt : j < m
    · obtain ⟨b, off, rfl, hbl, c0, d0⟩ := (HT.out.below hown.below).knum j hlt
      obtain ⟨kk, hkk⟩ : ∃ kk, (Tr.kid t.kids j).num = kk := ⟨_, rfl⟩
      rw [hkk] at c0 d0
      have HKK := Lib.hid hkk
      clear hkk
      have g1 : (0 : Int) ≤ (j : Int) := by omega
      have g2 : (j : Int) < (m : Int) := by omega
      go_wp2_with (at_builtin; refine wpList_append_own _ rfl _ _ 25 rfl W0.heap.size 3 i0 (.int .i64 0) 1 8 Try.underlying25 hi hz0 hz1 hz2 rfl (by decide) _ _ _ rfl (hown.own.alloc _) ⟨wr.heap.size, 0, none⟩ 1 1 [.int .i64 kk] rfl rfl (cell_one_new _ _ _) (one_cell _ _) (by unfold maxLen; omega) (by omega) (size_alloc_le hown.below _) ?_)
      intro v' w2 hown2 hgrow _
      have HPU := Lib.hid (hown.push kk HKK.out.symm hown2 hgrow)
      clear hown hown2 hgrow x0 x1 x2 c0
      go_wp2_with fail
      go_roundw
      case rel => exact ⟨j + 1, by omega, by go_num, HPU.out⟩
      case measure => simp [intOf]; omega
    · have hjm : j = m := by omega
      subst hjm
      obtain ⟨a3, c3, rfl, hca, hg⟩ := own_slice2 hown.own
      have hbe : Below w.heap.size w wr := chain HB0.out hown.below
      have HBE := Lib.hid hbe
      clear hbe hlt
      have HG := HN
      have HQ : Hid (nodeB 4 n j (Tr.kid t.kids 0).num (Tr.kid t.kids 1).num = sidesB n j (Tr.kid t.kids 0).num (Tr.kid t.kids 1).num) := by unfold Hid nodeB; simp
      rw [HQ.out] at HG
      clear HQ
      by_cases hm : j = 2
      · cases B with
        | false =>
          have HF : Hid (sidesB n j (Tr.kid t.kids 0).num (Tr.kid t.kids 1).num = false) := by unfold Hid sidesB; rw [HB.out, Bool.and_false]
          rw [HF.out] at HG
          subst hm
          clear hown hg
          go_wp2_with fail
          go_quiet ((first | (go_at_call 29; exact Calls.quiet_of_same (sameW (HS.out _)))))
          go_wp2_with fail
          go_ret
          exact ⟨ret_bool (by rw [HG.out] <;> simp), below_drewN HBE.out _⟩
        | true =>
          have hsz := hasSz_bd HB.out
          have hd0 := HD.out 0 (by omega)
          have hd1 := HD.out 1 (by omega)
          obtain ⟨g, rfl⟩ := hg (by omega)
          have c0 := own_int_cell hown 0 (by omega)
          have c1 := own_int_cell hown 1 (by omega)
          have HF : Hid (sidesB n j (Tr.kid t.kids 0).num (Tr.kid t.kids 1).num = decide (2 ≤ (Tr.kid t.kids 0).num ∧ 2 ≤ (Tr.kid t.kids 1).num ∧ (Tr.kid t.kids 0).num ≤ n ∧ (Tr.kid t.kids 1).num ≤ n ∧ (Tr.kid t.kids 0).num * (Tr.kid t.kids 1).num = n)) := by
            unfold Hid sidesB
            rw [HB.out, Bool.and_true, hm]
            simp
          rw [HF.out] at HG
          clear HF hown hg HD HT
          obtain ⟨k0, hk0⟩ : ∃ x, (Tr.kid t.kids 0).num = x := ⟨_, rfl⟩
          obtain ⟨k1, hk1⟩ : ∃ x, (Tr.kid t.kids 1).num = x := ⟨_, rfl⟩
          try simp only [] at c0 c1
          rw [hk0] at c0 hd0 HG
          rw [hk1] at c1 hd1 HG
          clear hk0 hk1
          subst hm
          by_cases h0 : 2 ≤ k0
          · have d0 : decide (k0 < 2) = false := by simp; omega
            by_cases h1 : 2 ≤ k1
            · have d1 : decide (k1 < 2) = false := by simp; omega
              have hdv := sides_div hsz.1 h0 h1
              obtain ⟨R, hR⟩ : ∃ R, n % k0 = R := ⟨_, rfl⟩
              have r0 := Int.emod_nonneg n (show k0 ≠ 0 by omega)
              have r1 := Int.emod_lt_of_pos n (show 0 < k0 by omega)
              have q0 : 0 ≤ n / k0 := Int.ediv_nonneg (by omega) (by omega)
              have q1 : n / k0 ≤ n := Int.ediv_le_self _ (by omega)
              obtain ⟨Q, hQ⟩ : ∃ Q, n / k0 = Q := ⟨_, rfl⟩
              have e1 : n.tmod k0 = R := by rw [Int.tmod_eq_emod_of_nonneg (by omega), hR]
              have e3 : n.tdiv k0 = Q := by rw [Int.tdiv_eq_ediv_of_nonneg (by omega), hQ]
              rw [hR] at hdv r0 r1
              rw [hQ] at hdv q0 q1
              have wq : IntKind.i64.wrap Q = Q := IntWalk.i64_in _ (by omega)
              have HDV := Lib.hid hdv
              have z1 : (k0 == 0) = false := bno (by omega)
              have z2 : ¬ k0 = 0 := by omega
              have HE2 := Lib.hid hR
              have HE4 := Lib.hid hQ
              clear hdv hR hQ
              by_cases hr : R = 0
              · have b1 : (R != 0) = false := bfalse hr
                have HRR := Lib.hid hr
                clear hr
                by_cases hq : Q = k1
                · have b2 : (Q != k1) = false := bfalse hq
                  have HQQ := Lib.hid hq
                  clear hq
                  have e2 : n % k0 = R := HE2.out
                  have e4 : n / k0 = Q := HE4.out
                  have HYES : Hid (decide (2 ≤ k0 ∧ 2 ≤ k1 ∧ k0 ≤ n ∧ k1 ≤ n ∧ k0 * k1 = n) = true) := by
                    have := HDV.out.1 ⟨HRR.out, HQQ.out⟩
                    unfold Hid; rw [decide_eq_true_eq]; exact ⟨h0, h1, this⟩
                  rw [HYES.out] at HG
                  go_wp2_with fail
                  go_quiet ((first | (go_at_call 29; exact Calls.quiet_of_same (sameW (HS.out _)))))
                  clear e2 e4
                  go_wp2_with fail
                  go_quiet (fail)
                  go_wp2_with fail
                  go_ret
                  exact ⟨ret_bool (by rw [HG.out] <;> simp), below_drewN (below_drewN HBE.out _) _⟩
                · have b2 : (Q != k1) = true := bdiff hq
                  have HNO : Hid (decide (2 ≤ k0 ∧ 2 ≤ k1 ∧ k0 ≤ n ∧ k1 ≤ n ∧ k0 * k1 = n) = false) := by
                    unfold Hid; rw [decide_eq_false_iff_not]; intro h; exact hq (HDV.out.2 h.2.2).2
                  rw [HNO.out] at HG
                  have e2 : n % k0 = R := HE2.out
                  have e4 : n / k0 = Q := HE4.out
                  clear hq
                  go_wp2_with fail
                  go_quiet ((first | (go_at_call 29; exact Calls.quiet_of_same (sameW (HS.out _)))))
                  clear e2 e4
                  go_wp2_with fail
                  go_ret
                  exact ⟨ret_bool (by rw [HG.out] <;> simp), below_drewN HBE.out _⟩
              · have b1 : (R != 0) = true := bdiff hr
                have HNO : Hid (decide (2 ≤ k0 ∧ 2 ≤ k1 ∧ k0 ≤ n ∧ k1 ≤ n ∧ k0 * k1 = n) = false) := by
                  unfold Hid; rw [decide_eq_false_iff_not]; intro h; exact hr (HDV.out.2 h.2.2).1
                rw [HNO.out] at HG
                have e2 : n % k0 = R := HE2.out
                have e4 : n / k0 = Q := HE4.out
                clear hr
                go_wp2_with fail
                go_quiet ((first | (go_at_call 29; exact Calls.quiet_of_same (sameW (HS.out _)))))
                clear e2 e4
                go_wp2_with fail
                go_ret
                exact ⟨ret_bool (by rw [HG.out] <;> simp), below_drewN HBE.out _⟩
            · have b1 : decide (k1 < 2) = true := by simp; omega
              have HNO : Hid (decide (2 ≤ k0 ∧ 2 ≤ k1 ∧ k0 ≤ n ∧ k1 ≤ n ∧ k0 * k1 = n) = false) := by
                unfold Hid; rw [decide_eq_false_iff_not]; intro h; omega
              rw [HNO.out] at HG
              go_wp2_with fail
              go_quiet ((first | (go_at_call 29; exact Calls.quiet_of_same (sameW (HS.out _)))))
              go_wp2_with fail
              go_ret
              exact ⟨ret_bool (by rw [HG.out] <;> simp), below_drewN HBE.out _⟩
          · have b1 : decide (k0 < 2) = true := by simp; omega
            have HNO : Hid (decide (2 ≤ k0 ∧ 2 ≤ k1 ∧ k0 ≤ n ∧ k1 ≤ n ∧ k0 * k1 = n) = false) := by
              unfold Hid; rw [decide_eq_false_iff_not]; intro h; omega
            rw [HNO.out] at HG
            go_wp2_with fail
            go_quiet ((first | (go_at_call 29; exact Calls.quiet_of_same (sameW (HS.out _)))))
            go_wp2_with fail
            go_ret
            exact ⟨ret_bool (by rw [HG.out] <;> simp), below_drewN HBE.out _⟩
      · skip
        have HF : Hid (sidesB n j (Tr.kid t.kids 0).num (Tr.kid t.kids 1).num = false) := by unfold Hid sidesB; rw [decide_eq_false (by intro h; exact hm h.1), Bool.false_and]
        rw [HF.out] at HG
        have hm2 : ((j : Int) == 2) = false := bno (by omega)
        have hn2 : ((j : Int) != 2) = true := bdiff (by omega)
        clear hown hg
        go_wp2_with fail
        go_quiet (fail)
        go_wp2_with fail
        go_ret
        exact ⟨ret_bool (by rw [HG.out] <;> simp), below_drewN HBE.out _⟩

set_option maxHeartbeats 1600000 in
theorem ref14_Node_5 (t : Tr) (n : Int) (a : Option Addr) (m cap : Nat) (w : World) (F : Nat → Prop) (hs : t.size ≤ 4194304) (hT : IsT w F 5 n a m cap t) :
    Calls Try.prog 22 #[.agg #[.int .i64 5, .int .i64 n, .slice a m cap]] w fun e w' => e = .returned (.bool (nodeOk t)) ∧ Below w.heap.size w w' := by
  obtain ⟨i0, hi, hz0, hz1, hz2⟩ := info_parts info_int
  have hn := hT.fn
  have hmm : m ≤ 4194304 := by
    have h1 := Tr.len_le_sizeL t.kids
    rw [Tr.size_kids] at hs
    rw [hT.em]; omega
  have HN : Hid (nodeOk t = nodeB 5 n m (Tr.kid t.kids 0).num (Tr.kid t.kids 1).num) := by unfold Hid nodeOk; rw [hT.ek, hT.en, hT.em]
  have hd : ∀ i, i < m → -9223372036854775808 ≤ (Tr.kid t.kids i).num ∧ (Tr.kid t.kids i).num < 9223372036854775808 := fun i h => by
    obtain ⟨_, _, _, _, _, d⟩ := hT.knum i h
    exact d
  have HD := Lib.hid hd
  obtain ⟨B, hB⟩ : ∃ B, hasSz n = B := ⟨_, rfl⟩
  have HS : Hid (∀ W, Calls Try.prog 29 #[.int .i64 n] W fun e w' => e = .returned (.bool B) ∧ W = w') := fun W => by
    cases B with
    | true => exact refHas_yes n W hB
    | false => exact refHas_no n W hB hn
  have HB := Lib.hid hB
  obtain ⟨W0, hW0⟩ : ∃ W0, w.alloc (.cells #[.int .i64 5, .int .i64 n, .slice a m cap] 24) = W0 := ⟨_, rfl⟩
  have hx0 : W0.heap[w.heap.size]? = some (.cells #[.int .i64 5, .int .i64 n, .slice a m cap] 24 (0, 0)) := by rw [← hW0]; exact block_new rfl
  have hb0 : Below w.heap.size w W0 := by rw [← hW0]; exact (Below.refl _ _).alloc (Nat.le_refl _) _
  have HT := Lib.hid (hT.below hb0)
  have HX0 := Lib.hid hx0
  have HW0 := Lib.hid hW0
  have HB0 := Lib.hid hb0
  clear hs hT hd hB hx0 hW0 hb0
  go_enter Try.func22, Try.ntmps22
  go_wp2_with fail
  rw [HW0.out]
  go_loopw [3, 4] (fun v i wr => ∃ j : Nat, j ≤ m ∧ i = .int .i64 j ∧ Own .i64 3 W0 wr v j (fun i => (Tr.kid t.kids i).num)) (fun _ i _ => m - (intOf i).toNat)
  case atStart => exact ⟨0, Nat.zero_le _, rfl, World.ownsRow_nil _ _ _ _, Below.refl _ _⟩
  case round =>
    obtain ⟨j, hj, rfl, hown⟩ := hrel
    have hX := (hown.below.block _ (block_lt HX0.out)).trans HX0.out
    have x0 : wr.cell? ⟨w.heap.size, 0, none⟩ = some (.int .i64 5) := block_cell hX 0
    have x1 : wr.cell? ⟨w.heap.size, 1, none⟩ = some (.int .i64 n) := block_cell hX 1
    have x2 : wr.cell? ⟨w.heap.size, 2, none⟩ = some (.slice a m cap) := block_cell hX 2
    clear hX
    by_cases hlt : j < m
    · obtain ⟨b, off, rfl, hbl, c0, d0⟩ := (HT.out.below hown.below).knum j hlt
      obtain ⟨kk, hkk⟩ : ∃ kk, (Tr.kid t.kids j).num = kk := ⟨_, rfl⟩
      rw [hkk] at c0 d0
      have HKK := Lib.hid hkk
      clear hkk
      have g1 : (0 : Int) ≤ (j : Int) := by omega
      have g2 : (j : Int) < (m : Int) := by omega
      go_wp2_with (at_builtin; refine wpList_append_own _ rfl _ _ 25 rfl W0.heap.size 3 i0 (.int .i64 0) 1 8 Try.underlying25 hi hz0 hz1 hz2 rfl (by decide) _ _ _ rfl (hown.own.alloc _) ⟨wr.heap.size, 0, none⟩ 1 1 [.int .i64 kk] rfl rfl (cell_one_new _ _ _) (one_cell _ _) (by unfold maxLen; omega) (by omega) (size_alloc_le hown.below _) ?_)
      intro v' w2 hown2 hgrow _
      have HPU := Lib.hid (hown.push kk HKK.out.symm hown2 hgrow)
      clear hown hown2 hgrow x0 x1 x2 c0
      go_wp2_with fail
      go_roundw
      case rel => exact ⟨j + 1, by omega, by go_num, HPU.out⟩
      case measure => simp [intOf]; omega
    · have hjm : j = m := by omega
      subst hjm
      obtain ⟨a3, c3, rfl, hca, hg⟩ := own_slice2 hown.own
      have hbe : Below w.heap.size w wr := chain HB0.out hown.below
      have HBE := Lib.hid hbe
      clear hbe hlt
      have HG := HN
      have HQ : Hid (nodeB 5 n j (Tr.kid t.kids 0).num (Tr.kid t.kids 1).num = (sidesB n j (Tr.kid t.kids 0).num (Tr.kid t.kids 1).num && decide (gcdI (Tr.kid t.kids 0).num (Tr.kid t.kids 1).num = 1))) := by unfold Hid nodeB; simp
      rw [HQ.out] at HG
      clear HQ
      by_cases hm : j = 2
      · cases B with
        | false =>
          have HF : Hid (sidesB n j (Tr.kid t.kids 0).num (Tr.kid t.kids 1).num = false) := by unfold Hid sidesB; rw [HB.out, Bool.and_false]
          rw [HF.out] at HG
          subst hm
          clear hown hg
          go_wp2_with fail
          go_quiet ((first | (go_at_call 29; exact Calls.quiet_of_same (sameW (HS.out _)))))
          go_wp2_with fail
          go_ret
          exact ⟨ret_bool (by rw [HG.out] <;> simp), below_drewN HBE.out _⟩
        | true =>
          have hsz := hasSz_bd HB.out
          have hd0 := HD.out 0 (by omega)
          have hd1 := HD.out 1 (by omega)
          obtain ⟨g, rfl⟩ := hg (by omega)
          have c0 := own_int_cell hown 0 (by omega)
          have c1 := own_int_cell hown 1 (by omega)
          have HF : Hid (sidesB n j (Tr.kid t.kids 0).num (Tr.kid t.kids 1).num = decide (2 ≤ (Tr.kid t.kids 0).num ∧ 2 ≤ (Tr.kid t.kids 1).num ∧ (Tr.kid t.kids 0).num ≤ n ∧ (Tr.kid t.kids 1).num ≤ n ∧ (Tr.kid t.kids 0).num * (Tr.kid t.kids 1).num = n)) := by
            unfold Hid sidesB
            rw [HB.out, Bool.and_true, hm]
            simp
          rw [HF.out] at HG
          clear HF hown hg HD HT
          obtain ⟨k0, hk0⟩ : ∃ x, (Tr.kid t.kids 0).num = x := ⟨_, rfl⟩
          obtain ⟨k1, hk1⟩ : ∃ x, (Tr.kid t.kids 1).num = x := ⟨_, rfl⟩
          try simp only [] at c0 c1
          rw [hk0] at c0 hd0 HG
          rw [hk1] at c1 hd1 HG
          clear hk0 hk1
          subst hm
          by_cases h0 : 2 ≤ k0
          · have d0 : decide (k0 < 2) = false := by simp; omega
            by_cases h1 : 2 ≤ k1
            · have d1 : decide (k1 < 2) = false := by simp; omega
              have hdv := sides_div hsz.1 h0 h1
              obtain ⟨R, hR⟩ : ∃ R, n % k0 = R := ⟨_, rfl⟩
              have r0 := Int.emod_nonneg n (show k0 ≠ 0 by omega)
              have r1 := Int.emod_lt_of_pos n (show 0 < k0 by omega)
              have q0 : 0 ≤ n / k0 := Int.ediv_nonneg (by omega) (by omega)
              have q1 : n / k0 ≤ n := Int.ediv_le_self _ (by omega)
              obtain ⟨Q, hQ⟩ : ∃ Q, n / k0 = Q := ⟨_, rfl⟩
              have e1 : n.tmod k0 = R := by rw [Int.tmod_eq_emod_of_nonneg (by omega), hR]
              have e3 : n.tdiv k0 = Q := by rw [Int.tdiv_eq_ediv_of_nonneg (by omega), hQ]
              rw [hR] at hdv r0 r1
              rw [hQ] at hdv q0 q1
              have wq : IntKind.i64.wrap Q = Q := IntWalk.i64_in _ (by omega)
              have HDV := Lib.hid hdv
              have z1 : (k0 == 0) = false := bno (by omega)
              have z2 : ¬ k0 = 0 := by omega
              have HE2 := Lib.hid hR
              have HE4 := Lib.hid hQ
              clear hdv hR hQ
              by_cases hr : R = 0
              · have b1 : (R != 0) = false := bfalse hr
                have HRR := Lib.hid hr
                clear hr
                by_cases hq : Q = k1
                · have b2 : (Q != k1) = false := bfalse hq
                  have HQQ := Lib.hid hq
                  clear hq
                  have e2 : n % k0 = R := HE2.out
                  have e4 : n / k0 = Q := HE4.out
                  have HYES : Hid (decide (2 ≤ k0 ∧ 2 ≤ k1 ∧ k0 ≤ n ∧ k1 ≤ n ∧ k0 * k1 = n) = true) := by
                    have := HDV.out.1 ⟨HRR.out, HQQ.out⟩
                    unfold Hid; rw [decide_eq_true_eq]; exact ⟨h0, h1, this⟩
                  rw [HYES.out] at HG
                  have hkn : k0 ≤ n ∧ k1 ≤ n := by
                    have := HDV.out.1 ⟨HRR.out, HQQ.out⟩
                    exact ⟨this.1, this.2.1⟩
                  have HGC : Hid (∀ W, Calls Try.prog 69 #[.int .i64 k0, .int .i64 k1] W fun e w' => e = .returned (.int .i64 (gcdI k0 k1)) ∧ W = w') := fun W => by
                    obtain ⟨x, rfl⟩ := Int.eq_ofNat_of_zero_le (show 0 ≤ k0 by omega)
                    obtain ⟨y, rfl⟩ := Int.eq_ofNat_of_zero_le (show 0 ≤ k1 by omega)
                    rw [show gcdI (x : Int) (y : Int) = ((Nat.gcd x y : Nat) : Int) by unfold gcdI; rw [if_neg (by omega), Int.toNat_natCast, Int.toNat_natCast]]
                    exact refGcd (x + y) x y W (Nat.le_refl _) (by omega) (by omega)
                  obtain ⟨G, hG⟩ : ∃ G, gcdI k0 k1 = G := ⟨_, rfl⟩
                  rw [hG] at HGC HG
                  clear hG
                  rw [Bool.true_and] at HG
                  by_cases hgg : G = 1
                  · have b3 : (G == 1) = true := btrue hgg
                    have HGV := Lib.hid hgg
                    clear hgg
                    go_wp2_with fail
                    go_quiet ((first | (go_at_call 29; exact Calls.quiet_of_same (sameW (HS.out _)))))
                    clear e2 e4
                    go_wp2_with fail
                    go_quiet ((go_at_call 69; exact quiet_same2 (sameW (HGC.out _))))
                    go_wp2_with fail
                    go_ret
                    exact ⟨ret_bool (by rw [HG.out]; simp [HGV.out]), below_drewN (below_drewN HBE.out _) _⟩
                  · have b3 : (G == 1) = false := bno hgg
                    have HGV := Lib.hid hgg
                    clear hgg
                    go_wp2_with fail
                    go_quiet ((first | (go_at_call 29; exact Calls.quiet_of_same (sameW (HS.out _)))))
                    clear e2 e4
                    go_wp2_with fail
                    go_quiet ((go_at_call 69; exact quiet_same2 (sameW (HGC.out _))))
                    go_wp2_with fail
                    go_ret
                    exact ⟨ret_bool (by rw [HG.out]; simp [HGV.out]), below_drewN (below_drewN HBE.out _) _⟩
                · have b2 : (Q != k1) = true := bdiff hq
                  have HNO : Hid (decide (2 ≤ k0 ∧ 2 ≤ k1 ∧ k0 ≤ n ∧ k1 ≤ n ∧ k0 * k1 = n) = false) := by
                    unfold Hid; rw [decide_eq_false_iff_not]; intro h; exact hq (HDV.out.2 h.2.2).2
                  rw [HNO.out] at HG
                  have e2 : n % k0 = R := HE2.out
                  have e4 : n / k0 = Q := HE4.out
                  clear hq
                  go_wp2_with fail
                  go_quiet ((first | (go_at_call 29; exact Calls.quiet_of_same (sameW (HS.out _)))))
                  clear e2 e4
                  go_wp2_with fail
                  go_ret
                  exact ⟨ret_bool (by rw [HG.out] <;> simp), below_drewN HBE.out _⟩
              · have b1 : (R != 0) = true := bdiff hr
                have HNO : Hid (decide (2 ≤ k0 ∧ 2 ≤ k1 ∧ k0 ≤ n ∧ k1 ≤ n ∧ k0 * k1 = n) = false) := by
                  unfold Hid; rw [decide_eq_false_iff_not]; intro h; exact hr (HDV.out.2 h.2.2).1
                rw [HNO.out] at HG
                have e2 : n % k0 = R := HE2.out
                have e4 : n / k0 = Q := HE4.out
                clear hr
                go_wp2_with fail
                go_quiet ((first | (go_at_call 29; exact Calls.quiet_of_same (sameW (HS.out _)))))
                clear e2 e4
                go_wp2_with fail
                go_ret
                exact ⟨ret_bool (by rw [HG.out] <;> simp), below_drewN HBE.out _⟩
            · have b1 : decide (k1 < 2) = true := by simp; omega
              have HNO : Hid (decide (2 ≤ k0 ∧ 2 ≤ k1 ∧ k0 ≤ n ∧ k1 ≤ n ∧ k0 * k1 = n) = false) := by
                unfold Hid; rw [decide_eq_false_iff_not]; intro h; omega
              rw [HNO.out] at HG
              go_wp2_with fail
              go_quiet ((first | (go_at_call 29; exact Calls.quiet_of_same (sameW (HS.out _)))))
              go_wp2_with fail
              go_ret
              exact ⟨ret_bool (by rw [HG.out] <;> simp), below_drewN HBE.out _⟩
          · have b1 : decide (k0 < 2) = true := by simp; omega
            have HNO : Hid (decide (2 ≤ k0 ∧ 2 ≤ k1 ∧ k0 ≤ n ∧ k1 ≤ n ∧ k0 * k1 = n) = false) := by
              unfold Hid; rw [decide_eq_false_iff_not]; intro h; omega
            rw [HNO.out] at HG
            go_wp2_with fail
            go_quiet ((first | (go_at_call 29; exact Calls.quiet_of_same (sameW (HS.out _)))))
            go_wp2_with fail
            go_ret
            exact ⟨ret_bool (by rw [HG.out] <;> simp), below_drewN HBE.out _⟩
      · skip
        have HF : Hid (sidesB n j (Tr.kid t.kids 0).num (Tr.kid t.kids 1).num = false) := by unfold Hid sidesB; rw [decide_eq_false (by intro h; exact hm h.1), Bool.false_and]
        rw [HF.out] at HG
        have hm2 : ((j : Int) == 2) = false := bno (by omega)
        have hn2 : ((j : Int) != 2) = true := bdiff (by omega)
        clear hown hg
        go_wp2_with fail
        go_quiet (fail)
        go_wp2_with fail
        go_ret
        exact ⟨ret_bool (by rw [HG.out] <;> simp), below_drewN HBE.out _⟩

set_option maxHeartbeats 1600000 in
theorem ref14_Node_6 (t : Tr) (n : Int) (a : Option Addr) (m cap : Nat) (w : World) (F : Nat → Prop) (hs : t.size ≤ 4194304) (hT : IsT w F 6 n a m cap t) :
    Calls Try.prog 22 #[.agg #[.int .i64 6, .int .i64 n, .slice a m cap]] w fun e w' => e = .returned (.bool (nodeOk t)) ∧ Below w.heap.size w w' := by
  obtain ⟨i0, hi, hz0, hz1, hz2⟩ := info_parts info_int
  have hn := hT.fn
  have hmm : m ≤ 4194304 := by
    have h1 := Tr.len_le_sizeL t.kids
    rw [Tr.size_kids] at hs
    rw [hT.em]; omega
  have HN : Hid (nodeOk t = nodeB 6 n m (Tr.kid t.kids 0).num (Tr.kid t.kids 1).num) := by unfold Hid nodeOk; rw [hT.ek, hT.en, hT.em]
  have hd : ∀ i, i < m → -9223372036854775808 ≤ (Tr.kid t.kids i).num ∧ (Tr.kid t.kids i).num < 9223372036854775808 := fun i h => by
    obtain ⟨_, _, _, _, _, d⟩ := hT.knum i h
    exact d
  have HD := Lib.hid hd
  obtain ⟨B, hB⟩ : ∃ B, hasSz n = B := ⟨_, rfl⟩
  have HS : Hid (∀ W, Calls Try.prog 29 #[.int .i64 n] W fun e w' => e = .returned (.bool B) ∧ W = w') := fun W => by
    cases B with
    | true => exact refHas_yes n W hB
    | false => exact refHas_no n W hB hn
  have HB := Lib.hid hB
  obtain ⟨W0, hW0⟩ : ∃ W0, w.alloc (.cells #[.int .i64 6, .int .i64 n, .slice a m cap] 24) = W0 := ⟨_, rfl⟩
  have hx0 : W0.heap[w.heap.size]? = some (.cells #[.int .i64 6, .int .i64 n, .slice a m cap] 24 (0, 0)) := by rw [← hW0]; exact block_new rfl
  have hb0 : Below w.heap.size w W0 := by rw [← hW0]; exact (Below.refl _ _).alloc (Nat.le_refl _) _
  have HT := Lib.hid (hT.below hb0)
  have HX0 := Lib.hid hx0
  have HW0 := Lib.hid hW0
  have HB0 := Lib.hid hb0
  clear hs hT hd hB hx0 hW0 hb0
  go_enter Try.func22, Try.ntmps22
  go_wp2_with fail
  rw [HW0.out]
  go_loopw [3, 4] (fun v i wr => ∃ j : Nat, j ≤ m ∧ i = .int .i64 j ∧ Own .i64 3 W0 wr v j (fun i => (Tr.kid t.kids i).num)) (fun _ i _ => m - (intOf i).toNat)
  case atStart => exact ⟨0, Nat.zero_le _, rfl, World.ownsRow_nil _ _ _ _, Below.refl _ _⟩
  case round =>
    obtain ⟨j, hj, rfl, hown⟩ := hrel
    have hX := (hown.below.block _ (block_lt HX0.out)).trans HX0.out
    have x0 : wr.cell? ⟨w.heap.size, 0, none⟩ = some (.int .i64 6) := block_cell hX 0
    have x1 : wr.cell? ⟨w.heap.size, 1, none⟩ = some (.int .i64 n) := block_cell hX 1
    have x2 : wr.cell? ⟨w.heap.size, 2, none⟩ = some (.slice a m cap) := block_cell hX 2
    clear hX
    by_cases hlt : j < m
    · obtain ⟨b, off, rfl, hbl, c0, d0⟩ := (HT.out.below hown.below).knum j hlt
      obtain ⟨kk, hkk⟩ : ∃ kk, (Tr.kid t.kids j).num = kk := ⟨_, rfl⟩
      rw [hkk] at c0 d0
      have HKK := Lib.hid hkk
      clear hkk
      have g1 : (0 : Int) ≤ (j : Int) := by omega
      have g2 : (j : Int) < (m : Int) := by omega
      go_wp2_with (at_builtin; refine wpList_append_own _ rfl _ _ 25 rfl W0.heap.size 3 i0 (.int .i64 0) 1 8 Try.underlying25 hi hz0 hz1 hz2 rfl (by decide) _ _ _ rfl (hown.own.alloc _) ⟨wr.heap.size, 0, none⟩ 1 1 [.int .i64 kk] rfl rfl (cell_one_new _ _ _) (one_cell _ _) (by unfold maxLen; omega) (by omega) (size_alloc_le hown.below _) ?_)
      intro v' w2 hown2 hgrow _
      have HPU := Lib.hid (hown.push kk HKK.out.symm hown2 hgrow)
      clear hown hown2 hgrow x0 x1 x2 c0
      go_wp2_with fail
      go_roundw
      case rel => exact ⟨j + 1, by omega, by go_num, HPU.out⟩
      case measure => simp [intOf]; omega
    · have hjm : j = m := by omega
      subst hjm
      obtain ⟨a3, c3, rfl, hca, hg⟩ := own_slice2 hown.own
      have hbe : Below w.heap.size w wr := chain HB0.out hown.below
      have HBE := Lib.hid hbe
      clear hbe hlt
      have HG := HN
      by_cases hm : j = 1
      · have hd0 := HD.out 0 (by omega)
        obtain ⟨g, rfl⟩ := hg (by omega)
        have c0 := own_int_cell hown 0 (by omega)
        clear hown hg HD HT
        obtain ⟨k0, hk0⟩ : ∃ x, (Tr.kid t.kids 0).num = x := ⟨_, rfl⟩
        obtain ⟨k1, hk1⟩ : ∃ x, (Tr.kid t.kids 1).num = x := ⟨_, rfl⟩
        try simp only [] at c0
        rw [hk0] at c0 hd0 HG
        rw [hk1] at HG
        clear hk0 hk1
        subst hm
        by_cases hlo : 3 ≤ n
        · cases B with
          
          | false =>
            have HF : Hid (nodeB 6 n 1 k0 k1 = false) := by unfold Hid nodeB; rw [HB.out]; simp
            rw [HF.out] at HG
            go_wp2_with fail
            go_quiet ((go_at_call 29; exact Calls.quiet_of_same (sameW (HS.out _))))
            go_wp2_with fail
            go_ret
            exact ⟨ret_bool (by first | (rw [HG.out]; done) | (rw [HG.out]; simp)), below_drewN HBE.out _⟩
          | true =>
            have hsz := hasSz_bd HB.out
            obtain ⟨N, rfl⟩ := Int.eq_ofNat_of_zero_le (show 0 ≤ n by omega)
            obtain ⟨P, hP⟩ : ∃ P, isPr (N : Int) = P := ⟨_, rfl⟩
            have HP : Hid (∀ W, Calls Try.prog 70 #[.int .i64 (N : Int)] W fun e w' => e = .returned (.bool P) ∧ W = w') := fun W => by rw [← hP]; exact ref03_Prime N W (by omega) (by omega)
            have HF : Hid (nodeB 6 (N : Int) 1 k0 k1 = (decide (3 ≤ (N : Int) ∧ k0 = (N : Int) - 1) && P)) := by unfold Hid nodeB; rw [HB.out, hP]; simp
            have wn : IntKind.i64.wrap ((N : Int) - 1) = (N : Int) - 1 := IntWalk.i64_in _ (by omega)
            have HWN := Lib.hid wn
            rw [HF.out] at HG
            clear HF hP wn
            cases P with
            | false =>
              have wn := HWN.out
              go_wp2_with fail
              go_quiet ((first | (go_at_call 29; exact Calls.quiet_of_same (sameW (HS.out _))) | (go_at_call 70; exact Calls.quiet_of_same (sameW (HP.out _)))))
              clear wn
              go_wp2_with fail
              go_ret
              exact ⟨ret_bool (by first | (rw [HG.out]; done) | (rw [HG.out]; simp)), below_drewN HBE.out _⟩
            | true =>
              by_cases hk : k0 = (N : Int) - 1
              · have b5 : (k0 == (N : Int) - 1) = true := btrue hk
                have HK := Lib.hid hk
                have wn := HWN.out
                clear hk
                go_wp2_with fail
                go_quiet ((first | (go_at_call 29; exact Calls.quiet_of_same (sameW (HS.out _))) | (go_at_call 70; exact Calls.quiet_of_same (sameW (HP.out _)))))
                clear wn
                go_wp2_with fail
                go_ret
                exact ⟨ret_bool (by first | (rw [HG.out]; done) | (rw [HG.out]; have := HK.out; simp; omega)), below_drewN HBE.out _⟩
              · have b5 : (k0 == (N : Int) - 1) = false := bno hk
                have HK := Lib.hid hk
                have wn := HWN.out
                clear hk
                go_wp2_with fail
                go_quiet ((first | (go_at_call 29; exact Calls.quiet_of_same (sameW (HS.out _))) | (go_at_call 70; exact Calls.quiet_of_same (sameW (HP.out _)))))
                clear wn
                go_wp2_with fail
                go_ret
                exact ⟨ret_bool (by first | (rw [HG.out]; done) | (rw [HG.out]; have := HK.out; simp; intros; omega)), below_drewN HBE.out _⟩
        · have HF : Hid (nodeB 6 n 1 k0 k1 = false) := by unfold Hid nodeB; simp; intros; omega
          have hlo2 : decide (n ≥ 3) = false := by simp; omega
          rw [HF.out] at HG
          go_wp2_with fail
          go_quiet (fail)
          go_wp2_with fail
          go_ret
          exact ⟨ret_bool (by first | (rw [HG.out]; done) | (rw [HG.out]; simp)), below_drewN HBE.out _⟩
      · skip
        have HF : Hid (nodeB 6 n j (Tr.kid t.kids 0).num (Tr.kid t.kids 1).num = false) := by unfold Hid nodeB; simp [hm]
        rw [HF.out] at HG
        have hm1 : ((j : Int) == 1) = false := bno (by omega)
        have hn1 : ((j : Int) != 1) = true := bdiff (by omega)
        clear hown hg
        go_wp2_with fail
        go_quiet (fail)
        go_wp2_with fail
        go_ret
        exact ⟨ret_bool (by first | (rw [HG.out]; done) | (rw [HG.out]; simp)), below_drewN HBE.out _⟩

set_option maxHeartbeats 1600000 in
theorem ref14_Node_7 (t : Tr) (n : Int) (a : Option Addr) (m cap : Nat) (w : World) (F : Nat → Prop) (hs : t.size ≤ 4194304) (hT : IsT w F 7 n a m cap t) :
    Calls Try.prog 22 #[.agg #[.int .i64 7, .int .i64 n, .slice a m cap]] w fun e w' => e = .returned (.bool (nodeOk t)) ∧ Below w.heap.size w w' := by
  obtain ⟨i0, hi, hz0, hz1, hz2⟩ := info_parts info_int
  have hn := hT.fn
  have hmm : m ≤ 4194304 := by
    have h1 := Tr.len_le_sizeL t.kids
    rw [Tr.size_kids] at hs
    rw [hT.em]; omega
  have HN : Hid (nodeOk t = nodeB 7 n m (Tr.kid t.kids 0).num (Tr.kid t.kids 1).num) := by unfold Hid nodeOk; rw [hT.ek, hT.en, hT.em]
  have hd : ∀ i, i < m → -9223372036854775808 ≤ (Tr.kid t.kids i).num ∧ (Tr.kid t.kids i).num < 9223372036854775808 := fun i h => by
    obtain ⟨_, _, _, _, _, d⟩ := hT.knum i h
    exact d
  have HD := Lib.hid hd
  obtain ⟨B, hB⟩ : ∃ B, hasSz n = B := ⟨_, rfl⟩
  have HS : Hid (∀ W, Calls Try.prog 29 #[.int .i64 n] W fun e w' => e = .returned (.bool B) ∧ W = w') := fun W => by
    cases B with
    | true => exact refHas_yes n W hB
    | false => exact refHas_no n W hB hn
  have HB := Lib.hid hB
  obtain ⟨W0, hW0⟩ : ∃ W0, w.alloc (.cells #[.int .i64 7, .int .i64 n, .slice a m cap] 24) = W0 := ⟨_, rfl⟩
  have hx0 : W0.heap[w.heap.size]? = some (.cells #[.int .i64 7, .int .i64 n, .slice a m cap] 24 (0, 0)) := by rw [← hW0]; exact block_new rfl
  have hb0 : Below w.heap.size w W0 := by rw [← hW0]; exact (Below.refl _ _).alloc (Nat.le_refl _) _
  have HT := Lib.hid (hT.below hb0)
  have HX0 := Lib.hid hx0
  have HW0 := Lib.hid hW0
  have HB0 := Lib.hid hb0
  clear hs hT hd hB hx0 hW0 hb0
  go_enter Try.func22, Try.ntmps22
  go_wp2_with fail
  rw [HW0.out]
  go_loopw [3, 4] (fun v i wr => ∃ j : Nat, j ≤ m ∧ i = .int .i64 j ∧ Own .i64 3 W0 wr v j (fun i => (Tr.kid t.kids i).num)) (fun _ i _ => m - (intOf i).toNat)
  case atStart => exact ⟨0, Nat.zero_le _, rfl, World.ownsRow_nil _ _ _ _, Below.refl _ _⟩
  case round =>
    obtain ⟨j, hj, rfl, hown⟩ := hrel
    have hX := (hown.below.block _ (block_lt HX0.out)).trans HX0.out
    have x0 : wr.cell? ⟨w.heap.size, 0, none⟩ = some (.int .i64 7) := block_cell hX 0
    have x1 : wr.cell? ⟨w.heap.size, 1, none⟩ = some (.int .i64 n) := block_cell hX 1
    have x2 : wr.cell? ⟨w.heap.size, 2, none⟩ = some (.slice a m cap) := block_cell hX 2
    clear hX
    by_cases hlt : j < m
    · obtain ⟨b, off, rfl, hbl, c0, d0⟩ := (HT.out.below hown.below).knum j hlt
      obtain ⟨kk, hkk⟩ : ∃ kk, (Tr.kid t.kids j).num = kk := ⟨_, rfl⟩
      rw [hkk] at c0 d0
      have HKK := Lib.hid hkk
      clear hkk
      have g1 : (0 : Int) ≤ (j : Int) := by omega
      have g2 : (j : Int) < (m : Int) := by omega
      go_wp2_with (at_builtin; refine wpList_append_own _ rfl _ _ 25 rfl W0.heap.size 3 i0 (.int .i64 0) 1 8 Try.underlying25 hi hz0 hz1 hz2 rfl (by decide) _ _ _ rfl (hown.own.alloc _) ⟨wr.heap.size, 0, none⟩ 1 1 [.int .i64 kk] rfl rfl (cell_one_new _ _ _) (one_cell _ _) (by unfold maxLen; omega) (by omega) (size_alloc_le hown.below _) ?_)
      intro v' w2 hown2 hgrow _
      have HPU := Lib.hid (hown.push kk HKK.out.symm hown2 hgrow)
      clear hown hown2 hgrow x0 x1 x2 c0
      go_wp2_with fail
      go_roundw
      case rel => exact ⟨j + 1, by omega, by go_num, HPU.out⟩
      case measure => simp [intOf]; omega
    · have hjm : j = m := by omega
      subst hjm
      obtain ⟨a3, c3, rfl, hca, hg⟩ := own_slice2 hown.own
      have hbe : Below w.heap.size w wr := chain HB0.out hown.below
      have HBE := Lib.hid hbe
      clear hbe hlt
      have HG := HN
      by_cases hm : j = 1
      · have hd0 := HD.out 0 (by omega)
        obtain ⟨g, rfl⟩ := hg (by omega)
        have c0 := own_int_cell hown 0 (by omega)
        clear hown hg HD HT
        obtain ⟨k0, hk0⟩ : ∃ x, (Tr.kid t.kids 0).num = x := ⟨_, rfl⟩
        obtain ⟨k1, hk1⟩ : ∃ x, (Tr.kid t.kids 1).num = x := ⟨_, rfl⟩
        try simp only [] at c0
        rw [hk0] at c0 hd0 HG
        rw [hk1] at HG
        clear hk0 hk1
        subst hm
        by_cases hlo : 2 ≤ n
        · cases B with
          
          | false =>
            have HF : Hid (nodeB 7 n 1 k0 k1 = false) := by unfold Hid nodeB; rw [HB.out]; simp
            rw [HF.out] at HG
            go_wp2_with fail
            go_quiet ((go_at_call 29; exact Calls.quiet_of_same (sameW (HS.out _))))
            go_wp2_with fail
            go_ret
            exact ⟨ret_bool (by first | (rw [HG.out]; done) | (rw [HG.out]; simp)), below_drewN HBE.out _⟩
          | true =>
            have hsz := hasSz_bd HB.out
            obtain ⟨P, hP⟩ : ∃ P, hasP2 k0 = P := ⟨_, rfl⟩
            have HP : Hid (∀ W, Calls Try.prog 68 #[.int .i64 k0] W fun e w' => e = .returned (.bool P) ∧ W = w') := fun W => by rw [← hP]; exact ref14_power k0 W hd0
            have HF : Hid (nodeB 7 n 1 k0 k1 = (decide (2 ≤ n ∧ 2 * n - 1 ≤ k0) && P)) := by unfold Hid nodeB; rw [HB.out, hP]; simp
            have wn1 : IntKind.i64.wrap (2 * n) = 2 * n := IntWalk.i64_in _ (by omega)
            have wn2 : IntKind.i64.wrap (2 * n - 1) = 2 * n - 1 := IntWalk.i64_in _ (by omega)
            have HWN1 := Lib.hid wn1
            have HWN2 := Lib.hid wn2
            rw [HF.out] at HG
            clear HF hP wn1 wn2
            cases P with
            | false =>
              have wn1 := HWN1.out
              have wn2 := HWN2.out
              go_wp2_with fail
              go_quiet ((first | (go_at_call 29; exact Calls.quiet_of_same (sameW (HS.out _))) | (go_at_call 68; exact Calls.quiet_of_same (sameW (HP.out _)))))
              clear wn1 wn2
              go_wp2_with fail
              go_ret
              exact ⟨ret_bool (by first | (rw [HG.out]; done) | (rw [HG.out]; simp)), below_drewN HBE.out _⟩
            | true =>
              by_cases hk : 2 * n - 1 ≤ k0
              · have b5 : decide (k0 ≥ 2 * n - 1) = true := by simp; omega
                have wn1 := HWN1.out
                have wn2 := HWN2.out
                go_wp2_with fail
                go_quiet ((first | (go_at_call 29; exact Calls.quiet_of_same (sameW (HS.out _))) | (go_at_call 68; exact Calls.quiet_of_same (sameW (HP.out _)))))
                clear wn1 wn2
                go_wp2_with fail
                go_ret
                exact ⟨ret_bool (by first | (rw [HG.out]; done) | (rw [HG.out]; simp; omega)), below_drewN HBE.out _⟩
              · have b5 : decide (k0 ≥ 2 * n - 1) = false := by simp; omega
                have wn1 := HWN1.out
                have wn2 := HWN2.out
                go_wp2_with fail
                go_quiet ((first | (go_at_call 29; exact Calls.quiet_of_same (sameW (HS.out _))) | (go_at_call 68; exact Calls.quiet_of_same (sameW (HP.out _)))))
                clear wn1 wn2
                go_wp2_with fail
                go_ret
                exact ⟨ret_bool (by first | (rw [HG.out]; done) | (rw [HG.out]; simp; intros; omega)), below_drewN HBE.out _⟩
        · have HF : Hid (nodeB 7 n 1 k0 k1 = false) := by unfold Hid nodeB; simp; intros; omega
          have hlo2 : decide (n ≥ 2) = false := by simp; omega
          rw [HF.out] at HG
          go_wp2_with fail
          go_quiet (fail)
          go_wp2_with fail
          go_ret
          exact ⟨ret_bool (by first | (rw [HG.out]; done) | (rw [HG.out]; simp)), below_drewN HBE.out _⟩
      · skip
        have HF : Hid (nodeB 7 n j (Tr.kid t.kids 0).num (Tr.kid t.kids 1).num = false) := by unfold Hid nodeB; simp [hm]
        rw [HF.out] at HG
        have hm1 : ((j : Int) == 1) = false := bno (by omega)
        have hn1 : ((j : Int) != 1) = true := bdiff (by omega)
        clear hown hg
        go_wp2_with fail
        go_quiet (fail)
        go_wp2_with fail
        go_ret
        exact ⟨ret_bool (by first | (rw [HG.out]; done) | (rw [HG.out]; simp)), below_drewN HBE.out _⟩

set_option maxHeartbeats 1600000 in
theorem ref14_Node_0 (t : Tr) (k : Int) (n : Int) (a : Option Addr) (m cap : Nat) (w : World) (F : Nat → Prop) (hs : t.size ≤ 4194304) (hT : IsT w F k n a m cap t) (hk : k < 1 ∨ 7 < k) :
    Calls Try.prog 22 #[.agg #[.int .i64 k, .int .i64 n, .slice a m cap]] w fun e w' => e = .returned (.bool (nodeOk t)) ∧ Below w.heap.size w w' := by
  obtain ⟨i0, hi, hz0, hz1, hz2⟩ := info_parts info_int
  have hn := hT.fn
  have hmm : m ≤ 4194304 := by
    have h1 := Tr.len_le_sizeL t.kids
    rw [Tr.size_kids] at hs
    rw [hT.em]; omega
  have HN : Hid (nodeOk t = nodeB k n m (Tr.kid t.kids 0).num (Tr.kid t.kids 1).num) := by unfold Hid nodeOk; rw [hT.ek, hT.en, hT.em]
  have hd : ∀ i, i < m → -9223372036854775808 ≤ (Tr.kid t.kids i).num ∧ (Tr.kid t.kids i).num < 9223372036854775808 := fun i h => by
    obtain ⟨_, _, _, _, _, d⟩ := hT.knum i h
    exact d
  have HD := Lib.hid hd
  obtain ⟨B, hB⟩ : ∃ B, hasSz n = B := ⟨_, rfl⟩
  have HS : Hid (∀ W, Calls Try.prog 29 #[.int .i64 n] W fun e w' => e = .returned (.bool B) ∧ W = w') := fun W => by
    cases B with
    | true => exact refHas_yes n W hB
    | false => exact refHas_no n W hB hn
  have HB := Lib.hid hB
  obtain ⟨W0, hW0⟩ : ∃ W0, w.alloc (.cells #[.int .i64 k, .int .i64 n, .slice a m cap] 24) = W0 := ⟨_, rfl⟩
  have hx0 : W0.heap[w.heap.size]? = some (.cells #[.int .i64 k, .int .i64 n, .slice a m cap] 24 (0, 0)) := by rw [← hW0]; exact block_new rfl
  have hb0 : Below w.heap.size w W0 := by rw [← hW0]; exact (Below.refl _ _).alloc (Nat.le_refl _) _
  have HT := Lib.hid (hT.below hb0)
  have HX0 := Lib.hid hx0
  have HW0 := Lib.hid hW0
  have HB0 := Lib.hid hb0
  clear hs hT hd hB hx0 hW0 hb0
  go_enter Try.func22, Try.ntmps22
  go_wp2_with fail
  rw [HW0.out]
  go_loopw [3, 4] (fun v i wr => ∃ j : Nat, j ≤ m ∧ i = .int .i64 j ∧ Own .i64 3 W0 wr v j (fun i => (Tr.kid t.kids i).num)) (fun _ i _ => m - (intOf i).toNat)
  case atStart => exact ⟨0, Nat.zero_le _, rfl, World.ownsRow_nil _ _ _ _, Below.refl _ _⟩
  case round =>
    obtain ⟨j, hj, rfl, hown⟩ := hrel
    have hX := (hown.below.block _ (block_lt HX0.out)).trans HX0.out
    have x0 : wr.cell? ⟨w.heap.size, 0, none⟩ = some (.int .i64 k) := block_cell hX 0
    have x1 : wr.cell? ⟨w.heap.size, 1, none⟩ = some (.int .i64 n) := block_cell hX 1
    have x2 : wr.cell? ⟨w.heap.size, 2, none⟩ = some (.slice a m cap) := block_cell hX 2
    clear hX
    by_cases hlt : j < m
    · obtain ⟨b, off, rfl, hbl, c0, d0⟩ := (HT.out.below hown.below).knum j hlt
      obtain ⟨kk, hkk⟩ : ∃ kk, (Tr.kid t.kids j).num = kk := ⟨_, rfl⟩
      rw [hkk] at c0 d0
      have HKK := Lib.hid hkk
      clear hkk
      have g1 : (0 : Int) ≤ (j : Int) := by omega
      have g2 : (j : Int) < (m : Int) := by omega
      go_wp2_with (at_builtin; refine wpList_append_own _ rfl _ _ 25 rfl W0.heap.size 3 i0 (.int .i64 0) 1 8 Try.underlying25 hi hz0 hz1 hz2 rfl (by decide) _ _ _ rfl (hown.own.alloc _) ⟨wr.heap.size, 0, none⟩ 1 1 [.int .i64 kk] rfl rfl (cell_one_new _ _ _) (one_cell _ _) (by unfold maxLen; omega) (by omega) (size_alloc_le hown.below _) ?_)
      intro v' w2 hown2 hgrow _
      have HPU := Lib.hid (hown.push kk HKK.out.symm hown2 hgrow)
      clear hown hown2 hgrow x0 x1 x2 c0
      go_wp2_with fail
      go_roundw
      case rel => exact ⟨j + 1, by omega, by go_num, HPU.out⟩
      case measure => simp [intOf]; omega
    · have hjm : j = m := by omega
      subst hjm
      obtain ⟨a3, c3, rfl, hca, hg⟩ := own_slice2 hown.own
      have hbe : Below w.heap.size w wr := chain HB0.out hown.below
      have HBE := Lib.hid hbe
      clear hbe hlt
      have HG := HN
      have HF : Hid (nodeB k n j (Tr.kid t.kids 0).num (Tr.kid t.kids 1).num = false) := by unfold Hid nodeB; rw [if_neg (by omega), if_neg (by omega), if_neg (by omega), if_neg (by omega), if_neg (by omega), if_neg (by omega), if_neg (by omega)]
      rw [HF.out] at HG
      have e1 : (k == 1) = false := bno (by omega)
      have e2 : (k == 2) = false := bno (by omega)
      have e3 : (k == 3) = false := bno (by omega)
      have e4 : (k == 4) = false := bno (by omega)
      have e5 : (k == 5) = false := bno (by omega)
      have e6 : (k == 6) = false := bno (by omega)
      have e7 : (k == 7) = false := bno (by omega)
      clear hown hg hk
      go_wp2_with fail
      go_ret
      exact ⟨ret_bool (by rw [HG.out]; skip), HBE.out⟩

theorem ref14_Node (t : Tr) (k n : Int) (a : Option Addr) (m cap : Nat) (w : World) (F : Nat → Prop) (hs : t.size ≤ 4194304) (hT : IsT w F k n a m cap t) :
    Calls Try.prog 22 #[.agg #[.int .i64 k, .int .i64 n, .slice a m cap]] w fun e w' => e = .returned (.bool (nodeOk t)) ∧ Below w.heap.size w w' := by
  by_cases h : k < 1 ∨ 7 < k
  · exact ref14_Node_0 t k n a m cap w F hs hT h
  · rcases (show k = 1 ∨ k = 2 ∨ k = 3 ∨ k = 4 ∨ k = 5 ∨ k = 6 ∨ k = 7 by omega) with rfl | rfl | rfl | rfl | rfl | rfl | rfl
    · exact ref14_Node_1 t n a m cap w F hs hT
    · exact ref14_Node_2 t n a m cap w F hs hT
    · exact ref14_Node_3 t n a m cap w F hs hT
    · exact ref14_Node_4 t n a m cap w F hs hT
    · exact ref14_Node_5 t n a m cap w F hs hT
    · exact ref14_Node_6 t n a m cap w F hs hT
    · exact ref14_Node_7 t n a m cap w F hs hT
end Go.Proofs.Ytncikklhchimdaa
