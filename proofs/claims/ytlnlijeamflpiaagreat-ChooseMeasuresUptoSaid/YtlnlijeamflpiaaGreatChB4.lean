/- The contracts and plain laws that the statements ChooseFirst ChooseMeasures ChooseBest need, part 4 of 11: CostG CostI ChoL Abv CandL Gold Field GoldB GoldLaws Vec VecB VecC Sums ConvB Roots RootW VecD VecE DftA DftB VecF DftC DftL ConvL StockL SmallL. -/
import Derived.Test.YtlnlijeamflpiaaGreatChB3
namespace Go.Proofs.YtlnlijeamflpiaaGreat
open Go.RowKit
set_option linter.unusedVariables false
set_option linter.unusedSimpArgs false
set_option maxRecDepth 100000
set_option maxRecDepth 20000
/-- A plan's estimate; of others more than all. -/
def wt (t : Tr) : Int := if chk t = 0 then t.est else 1152921504606846977
/-- By the estimate, then as trees. -/
def wcmp (t u : Tr) : Int := orI (cmpI (wt t) (wt u)) (Tr.cmp t u)
theorem wt_bd (t : Tr) : 1 ≤ wt t ∧ wt t ≤ 1152921504606846977 := by
  unfold wt
  split
  · rename_i h
    have := est_bd (chk_zero.1 h).2
    omega
  · omega
theorem wcmp_bd (t u : Tr) : -1 ≤ wcmp t u ∧ wcmp t u ≤ 1 := Tr.orI_bd (cmpI_bd _ _) (Tr.cmp_bd _ t u (Nat.le_refl _))
theorem orL_two (x y : Int) : orL [x, y] = orI x y := by
  simp only [orL]
  unfold orI
  split <;> (try split) <;> first | rfl | omega
theorem two_boxes (w : World) (cs ds : Array Value) (T U : TypeId) : ∃ W0, (w.alloc (.cells cs T)).alloc (.cells ds U) = W0 ∧ Below w.heap.size w W0 ∧ W0.heap[w.heap.size]? = some (.cells cs T (0, 0)) ∧ W0.heap[w.heap.size + 1]? = some (.cells ds U (0, 0)) :=
  ⟨_, rfl, ((Below.refl _ _).alloc (Nat.le_refl _) _).alloc (by simp) _, block_old (by simp) (block_new rfl), block_new (by simp)⟩
theorem cost_weight (t : Tr) (k n : Int) (a : Option Addr) (m cap : Nat) (w : World) (F : Nat → Prop) (hs : t.size ≤ 4194304) (hT : IsT w F k n a m cap t) :
    Calls Tryz.prog 85 #[.agg #[.int .i64 k, .int .i64 n, .slice a m cap]] w fun e w' => e = .returned (.int .i64 (wt t)) ∧ Below w.heap.size w w' := by
  have CE : Hid (∀ W, Below w.heap.size w W → Calls Tryz.prog 110 #[.agg #[.int .i64 k, .int .i64 n, .slice a m cap]] W fun e w' => e = .returned (.tuple #[.int .i64 (if chk t = 0 then t.est else 0), .int .i64 (chk t)]) ∧ Below W.heap.size W w') := fun W hb => cost_Est t k n a m cap W F hs (hT.below hb)
  have hw : Hid (wt t = if chk t = 0 then t.est else 1152921504606846977) := rfl
  rw [hw.out]
  obtain ⟨C, hC⟩ : ∃ C, chk t = C := ⟨_, rfl⟩
  obtain ⟨E, hE⟩ : ∃ E, t.est = E := ⟨_, rfl⟩
  rw [hC, hE] at CE ⊢
  clear hC hE hT hs hw
  by_cases hc : C = 0
  · subst hc
    rw [if_pos rfl] at CE ⊢
    go_enter Tryz.func85, Tryz.ntmps85
    go_wp2_with fail
    refine (CE.out _ ((Below.refl _ _).alloc (Nat.le_refl _) _)).mono ?_; rintro e w1 ⟨rfl, hb⟩
    have hb1 := chainA (Below.refl w.heap.size w) hb
    clear hb
    go_wp2_with fail
    go_ret
    exact ⟨rfl, hb1⟩
  · have t1 : (C == 0) = false := bno hc
    rw [if_neg hc] at CE ⊢
    clear hc
    go_enter Tryz.func85, Tryz.ntmps85
    go_wp2_with fail
    refine (CE.out _ ((Below.refl _ _).alloc (Nat.le_refl _) _)).mono ?_; rintro e w1 ⟨rfl, hb⟩
    have hb1 := chainA (Below.refl w.heap.size w) hb
    clear hb
    go_wp2_with fail
    go_ret
    exact ⟨rfl, hb1⟩
set_option maxHeartbeats 2000000 in
theorem cost_Cmp (t u : Tr) (k n : Int) (a : Option Addr) (m c : Nat) (k' n' : Int) (a' : Option Addr) (m' c' : Nat) (w : World) (F G : Nat → Prop) (hs : t.size ≤ 4194304) (hu : u.size ≤ 4194304) (hT : IsT w F k n a m c t) (hU : IsT w G k' n' a' m' c' u) :
    Calls Tryz.prog 54 #[.agg #[.int .i64 k, .int .i64 n, .slice a m c], .agg #[.int .i64 k', .int .i64 n', .slice a' m' c']] w fun e w' => e = .returned (.int .i64 (wcmp t u)) ∧ Below w.heap.size w w' := by
  have C0 : Hid (∀ W, Below w.heap.size w W → Calls Tryz.prog 85 #[.agg #[.int .i64 k, .int .i64 n, .slice a m c]] W fun e w' => e = .returned (.int .i64 (wt t)) ∧ Below W.heap.size W w') := fun W hb => cost_weight t _ _ _ _ _ W F hs (hT.below hb)
  have C1 : Hid (∀ W, Below w.heap.size w W → Calls Tryz.prog 85 #[.agg #[.int .i64 k', .int .i64 n', .slice a' m' c']] W fun e w' => e = .returned (.int .i64 (wt u)) ∧ Below W.heap.size W w') := fun W hb => cost_weight u _ _ _ _ _ W G hu (hU.below hb)
  have CD : Hid (∀ W, Below w.heap.size w W → Calls Tryz.prog 86 #[.agg #[.int .i64 k, .int .i64 n, .slice a m c], .agg #[.int .i64 k', .int .i64 n', .slice a' m' c']] W fun e w' => e = .returned (.int .i64 (Tr.cmp t u)) ∧ Below W.heap.size W w') := fun W hb => desc_Cmp 4194304 (by omega) _ _ _ _ _ _ _ _ _ _ _ _ W _ _ hs hu (hT.below hb) (hU.below hb)
  have bt := wt_bd t
  have bu := wt_bd u
  have HR : Hid (wcmp t u = orI (cmpI (wt t) (wt u)) (Tr.cmp t u)) := rfl
  rw [HR.out]
  have bq := Tr.cmp_bd _ t u (Nat.le_refl _)
  obtain ⟨x, hx⟩ : ∃ x, wt t = x := ⟨_, rfl⟩
  obtain ⟨y, hy⟩ : ∃ y, wt u = y := ⟨_, rfl⟩
  obtain ⟨q, hq⟩ : ∃ q, Tr.cmp t u = q := ⟨_, rfl⟩
  rw [hx] at C0 bt ⊢
  rw [hy] at C1 bu ⊢
  rw [hq] at CD bq ⊢
  clear hx hy hq HR hT hU hs hu
  have CC : Hid (∀ W, Calls Tryz.prog 53 #[.int .i64 x, .int .i64 y] W fun e w' => e = .returned (.int .i64 (cmpI x y)) ∧ W = w') := fun W => cmp_Compare _ _ _
  have bp := cmpI_bd x y
  obtain ⟨p, hp⟩ : ∃ p, cmpI x y = p := ⟨_, rfl⟩
  rw [hp] at CC bp ⊢
  have COr : Hid (∀ W : World, Calls Tryz.prog 52 #[.slice (some ⟨W.heap.size, 0, none⟩) 2 2] (W.alloc (.cells #[.int .i64 p, .int .i64 q] 3)) fun e w' => e = .returned (.int .i64 (orI p q)) ∧ W.alloc (.cells #[.int .i64 p, .int .i64 q] 3) = w') := fun W => by
    have := cmp_Or (some ⟨W.heap.size, 0, none⟩) 2 2 [p, q] (W.alloc (.cells #[.int .i64 p, .int .i64 q] 3)) (row_new .i64 W 3 [p, q] (by
      intro z hz
      simp only [List.mem_cons, List.not_mem_nil, or_false] at hz
      rcases hz with rfl | rfl <;> exact fits_i64.2 (by omega)) (by simp)) rfl (by omega)
    rwa [orL_two] at this
  clear hp bt bu bp bq
  obtain ⟨W0, hW0, hb0, x0, x1⟩ := two_boxes w #[.int .i64 k, .int .i64 n, .slice a m c] #[.int .i64 k', .int .i64 n', .slice a' m' c'] 48 48
  have HB := Lib.hid hb0
  have HW0 := Lib.hid hW0
  have XD := Lib.hid x0
  have XE := Lib.hid x1
  clear hb0 hW0 x0 x1
  go_enter Tryz.func54, Tryz.ntmps54
  go_wp2_with fail
  rw [HW0.out]
  have D0 : W0.cell? ⟨w.heap.size, 0, none⟩ = some (.int .i64 k) := block_cell XD.out 0
  have D1 : W0.cell? ⟨w.heap.size, 1, none⟩ = some (.int .i64 n) := block_cell XD.out 1
  have D2 : W0.cell? ⟨w.heap.size, 2, none⟩ = some (.slice a m c) := block_cell XD.out 2
  have E0 : W0.cell? ⟨w.heap.size + 1, 0, none⟩ = some (.int .i64 k') := block_cell XE.out 0
  have E1 : W0.cell? ⟨w.heap.size + 1, 1, none⟩ = some (.int .i64 n') := block_cell XE.out 1
  have E2 : W0.cell? ⟨w.heap.size + 1, 2, none⟩ = some (.slice a' m' c') := block_cell XE.out 2
  have lD := block_lt XD.out
  have lE := block_lt XE.out
  have hb : Below W0.heap.size W0 W0.drew := (Below.refl _ _).drew
  go_region_held3 (fun w' => (w'.cell? ⟨w.heap.size, 0, none⟩ = some (.int .i64 k) ∧ w'.cell? ⟨w.heap.size, 1, none⟩ = some (.int .i64 n) ∧ w'.cell? ⟨w.heap.size, 2, none⟩ = some (.slice a m c)) ∧ (w'.cell? ⟨w.heap.size + 1, 0, none⟩ = some (.int .i64 k') ∧ w'.cell? ⟨w.heap.size + 1, 1, none⟩ = some (.int .i64 n') ∧ w'.cell? ⟨w.heap.size + 1, 2, none⟩ = some (.slice a' m' c'))) (first | exact ⟨⟨D0, D1, D2⟩, E0, E1, E2⟩ | exact ⟨⟨(hb.cell (p := ⟨w.heap.size, 0, none⟩) lD).trans D0, (hb.cell (p := ⟨w.heap.size, 1, none⟩) lD).trans D1, (hb.cell (p := ⟨w.heap.size, 2, none⟩) lD).trans D2⟩, (hb.cell (p := ⟨w.heap.size + 1, 0, none⟩) lE).trans E0, (hb.cell (p := ⟨w.heap.size + 1, 1, none⟩) lE).trans E1, (hb.cell (p := ⟨w.heap.size + 1, 2, none⟩) lE).trans E2⟩ | exact ⟨⟨((hb.alloc hb.size _).cell (p := ⟨w.heap.size, 0, none⟩) lD).trans D0, ((hb.alloc hb.size _).cell (p := ⟨w.heap.size, 1, none⟩) lD).trans D1, ((hb.alloc hb.size _).cell (p := ⟨w.heap.size, 2, none⟩) lD).trans D2⟩, ((hb.alloc hb.size _).cell (p := ⟨w.heap.size + 1, 0, none⟩) lE).trans E0, ((hb.alloc hb.size _).cell (p := ⟨w.heap.size + 1, 1, none⟩) lE).trans E1, ((hb.alloc hb.size _).cell (p := ⟨w.heap.size + 1, 2, none⟩) lE).trans E2⟩) ((first | (go_at_call 85; ((with_reducible refine (C0.out _ (chain HB.out hb)).mono ?_); rintro e z ⟨rfl, hc⟩; have hb := chain hb hc)) | (go_at_call 85; ((with_reducible refine (C1.out _ (chain HB.out hb)).mono ?_); rintro e z ⟨rfl, hc⟩; have hb := chain hb hc)) | (go_at_call 53; ((with_reducible refine (CC.out _).mono ?_); rintro e z ⟨rfl, rfl⟩)) | (go_at_call 86; ((with_reducible refine (CD.out _ (chain HB.out hb)).mono ?_); rintro e z ⟨rfl, hc⟩; have hb := chain hb hc)) | (go_at_call 52; ((with_reducible refine (COr.out _).mono ?_); rintro e z ⟨rfl, rfl⟩))))
  all_goals
    go_wp2_with fail
    go_ret
    exact ⟨rfl, chain HB.out (hb.alloc hb.size _)⟩
set_option maxHeartbeats 2000000 in
theorem ref18_Cmp (t u : Tr) (k n : Int) (a : Option Addr) (m c : Nat) (k' n' : Int) (a' : Option Addr) (m' c' : Nat) (w : World) (B : Nat) (hB : B ≤ w.heap.size) (hs : t.size ≤ 4194304) (hu : u.size ≤ 4194304) (hT : IsT w (Lt B) k n a m c t) (hU : IsT w (Lt B) k' n' a' m' c' u) :
    Calls Tryz.prog 55 #[.agg #[.int .i64 k, .int .i64 n, .slice a m c], .agg #[.int .i64 k', .int .i64 n', .slice a' m' c']] w fun e w' => e = .returned (.int .i64 (wcmp t u)) ∧ Below w.heap.size w w' := by
  have K0 : Hid (∀ W, Below w.heap.size w W → Calls Tryz.prog 60 #[.agg #[.int .i64 k, .int .i64 n, .slice a m c]] W fun e w' => e = .returned (.int .i64 (chk t)) ∧ Below W.heap.size W w') := fun W hb => ref14_Check t _ _ _ _ _ W B (Nat.le_trans hB hb.size) hs (hT.below hb)
  have K1 : Hid (∀ W, Below w.heap.size w W → Calls Tryz.prog 60 #[.agg #[.int .i64 k', .int .i64 n', .slice a' m' c']] W fun e w' => e = .returned (.int .i64 (chk u)) ∧ Below W.heap.size W w') := fun W hb => ref14_Check u _ _ _ _ _ W B (Nat.le_trans hB hb.size) hu (hU.below hb)
  have P0 : Hid (chk t = 0 → ∀ W, Below w.heap.size w W → Calls Tryz.prog 87 #[.agg #[.int .i64 k, .int .i64 n, .slice a m c]] W fun e w' => e = .returned (.int .i64 t.est) ∧ Below W.heap.size W w') := fun h W hb => ref18_Est 4194304 (by omega) t _ _ _ _ _ W _ hs (hT.below hb) (chk_zero.1 h).2
  have P1 : Hid (chk u = 0 → ∀ W, Below w.heap.size w W → Calls Tryz.prog 87 #[.agg #[.int .i64 k', .int .i64 n', .slice a' m' c']] W fun e w' => e = .returned (.int .i64 u.est) ∧ Below W.heap.size W w') := fun h W hb => ref18_Est 4194304 (by omega) u _ _ _ _ _ W _ hu (hU.below hb) (chk_zero.1 h).2
  have CD : Hid (∀ W, Below w.heap.size w W → Calls Tryz.prog 62 #[.agg #[.int .i64 k, .int .i64 n, .slice a m c], .agg #[.int .i64 k', .int .i64 n', .slice a' m' c']] W fun e w' => e = .returned (.int .i64 (Tr.cmp t u)) ∧ Below W.heap.size W w') := fun W hb => ref13_Cmp 4194304 (by omega) _ _ _ _ _ _ _ _ _ _ _ _ W _ _ hs hu (hT.below hb) (hU.below hb)
  have HR : Hid (wcmp t u = orI (cmpI (wt t) (wt u)) (Tr.cmp t u)) := rfl
  rw [HR.out]
  have h0 : (chk t = 0 ∧ wt t = t.est ∧ wt t ≤ 1152921504606846976) ∨ (chk t ≠ 0 ∧ wt t = 1152921504606846977) := by
    by_cases h : chk t = 0
    · exact .inl ⟨h, if_pos h, by have := est_bd (chk_zero.1 h).2; unfold wt; rw [if_pos h]; omega⟩
    · exact .inr ⟨h, if_neg h⟩
  have h1 : (chk u = 0 ∧ wt u = u.est ∧ wt u ≤ 1152921504606846976) ∨ (chk u ≠ 0 ∧ wt u = 1152921504606846977) := by
    by_cases h : chk u = 0
    · exact .inl ⟨h, if_pos h, by have := est_bd (chk_zero.1 h).2; unfold wt; rw [if_pos h]; omega⟩
    · exact .inr ⟨h, if_neg h⟩
  have bt := (wt_bd t).1
  have bu := (wt_bd u).1
  obtain ⟨x, hx⟩ : ∃ x, wt t = x := ⟨_, rfl⟩
  obtain ⟨y, hy⟩ : ∃ y, wt u = y := ⟨_, rfl⟩
  obtain ⟨q, hq⟩ : ∃ q, Tr.cmp t u = q := ⟨_, rfl⟩
  obtain ⟨X, hX⟩ : ∃ x, chk t = x := ⟨_, rfl⟩
  obtain ⟨Y, hY⟩ : ∃ x, chk u = x := ⟨_, rfl⟩
  obtain ⟨x', hx'⟩ : ∃ x, t.est = x := ⟨_, rfl⟩
  obtain ⟨y', hy'⟩ : ∃ x, u.est = x := ⟨_, rfl⟩
  rw [hx, hX, hx'] at h0
  rw [hy, hY, hy'] at h1
  rw [hx] at bt
  rw [hy] at bu
  rw [hx, hy, hq]
  rw [hX, hx'] at P0
  rw [hY, hy'] at P1
  rw [hX] at K0
  rw [hY] at K1
  rw [hq] at CD
  clear hx hy hq HR hT hU hs hu hB hX hY hx' hy'
  obtain ⟨W0, hW0, hb0, x0, x1⟩ := two_boxes w #[.int .i64 k, .int .i64 n, .slice a m c] #[.int .i64 k', .int .i64 n', .slice a' m' c'] 48 48
  have HB := Lib.hid hb0
  have HW0 := Lib.hid hW0
  have XD := Lib.hid x0
  have XE := Lib.hid x1
  clear hb0 hW0 x0 x1
  rcases h0 with ⟨e0, rfl, b0⟩ | ⟨e0, rfl⟩ <;> rcases h1 with ⟨e1, rfl, b1⟩ | ⟨e1, rfl⟩
  · skip
    subst e0
    have Q0 := Lib.hid (P0.out rfl)
    clear P0
    subst e1
    have Q1 := Lib.hid (P1.out rfl)
    clear P1
    rcases Int.lt_trichotomy x y with hr | rfl | hr
    · skip
      rw [show orI (cmpI x y) q = -1 by unfold cmpI; rw [if_pos (by omega)]; rfl]
      have d1 : decide (x < y) = true := by simp; omega
      have D0 : W0.cell? ⟨w.heap.size, 0, none⟩ = some (.int .i64 k) := block_cell XD.out 0
      have D1 : W0.cell? ⟨w.heap.size, 1, none⟩ = some (.int .i64 n) := block_cell XD.out 1
      have D2 : W0.cell? ⟨w.heap.size, 2, none⟩ = some (.slice a m c) := block_cell XD.out 2
      go_enter Tryz.func55, Tryz.ntmps55
      go_wp2_with fail
      rw [HW0.out]
      refine (K0.out _ HB.out).mono ?_; rintro e v1 ⟨rfl, hb1⟩
      clear D0 D1 D2
      have XD := Lib.hid ((hb1.block _ (block_lt XD.out)).trans XD.out)
      have XE := Lib.hid ((hb1.block _ (block_lt XE.out)).trans XE.out)
      have HB := Lib.hid (chain HB.out hb1)
      clear hb1
      have D0 : v1.cell? ⟨w.heap.size, 0, none⟩ = some (.int .i64 k) := block_cell XD.out 0
      have D1 : v1.cell? ⟨w.heap.size, 1, none⟩ = some (.int .i64 n) := block_cell XD.out 1
      have D2 : v1.cell? ⟨w.heap.size, 2, none⟩ = some (.slice a m c) := block_cell XD.out 2
      go_wp2_with fail
      refine (Q0.out _ HB.out).mono ?_; rintro e v2 ⟨rfl, hb2⟩
      clear D0 D1 D2
      have XD := Lib.hid ((hb2.block _ (block_lt XD.out)).trans XD.out)
      have XE := Lib.hid ((hb2.block _ (block_lt XE.out)).trans XE.out)
      have HB := Lib.hid (chain HB.out hb2)
      clear hb2
      have E0 : v2.cell? ⟨w.heap.size + 1, 0, none⟩ = some (.int .i64 k') := block_cell XE.out 0
      have E1 : v2.cell? ⟨w.heap.size + 1, 1, none⟩ = some (.int .i64 n') := block_cell XE.out 1
      have E2 : v2.cell? ⟨w.heap.size + 1, 2, none⟩ = some (.slice a' m' c') := block_cell XE.out 2
      go_wp2_with fail
      refine (K1.out _ HB.out).mono ?_; rintro e v3 ⟨rfl, hb3⟩
      clear E0 E1 E2
      have XD := Lib.hid ((hb3.block _ (block_lt XD.out)).trans XD.out)
      have XE := Lib.hid ((hb3.block _ (block_lt XE.out)).trans XE.out)
      have HB := Lib.hid (chain HB.out hb3)
      clear hb3
      have E0 : v3.cell? ⟨w.heap.size + 1, 0, none⟩ = some (.int .i64 k') := block_cell XE.out 0
      have E1 : v3.cell? ⟨w.heap.size + 1, 1, none⟩ = some (.int .i64 n') := block_cell XE.out 1
      have E2 : v3.cell? ⟨w.heap.size + 1, 2, none⟩ = some (.slice a' m' c') := block_cell XE.out 2
      go_wp2_with fail
      refine (Q1.out _ HB.out).mono ?_; rintro e v4 ⟨rfl, hb4⟩
      clear E0 E1 E2
      have XD := Lib.hid ((hb4.block _ (block_lt XD.out)).trans XD.out)
      have XE := Lib.hid ((hb4.block _ (block_lt XE.out)).trans XE.out)
      have HB := Lib.hid (chain HB.out hb4)
      clear hb4
      go_wp2_with fail
      go_ret
      exact ⟨rfl, HB.out⟩
    · skip
      rw [show orI (cmpI x x) q = q by unfold cmpI; rw [if_neg (by omega), if_neg (by omega)]; rfl]
      have d1 : decide (x < x) = false := by simp
      have d2 : decide (x > x) = false := by simp
      have D0 : W0.cell? ⟨w.heap.size, 0, none⟩ = some (.int .i64 k) := block_cell XD.out 0
      have D1 : W0.cell? ⟨w.heap.size, 1, none⟩ = some (.int .i64 n) := block_cell XD.out 1
      have D2 : W0.cell? ⟨w.heap.size, 2, none⟩ = some (.slice a m c) := block_cell XD.out 2
      go_enter Tryz.func55, Tryz.ntmps55
      go_wp2_with fail
      rw [HW0.out]
      refine (K0.out _ HB.out).mono ?_; rintro e v1 ⟨rfl, hb1⟩
      clear D0 D1 D2
      have XD := Lib.hid ((hb1.block _ (block_lt XD.out)).trans XD.out)
      have XE := Lib.hid ((hb1.block _ (block_lt XE.out)).trans XE.out)
      have HB := Lib.hid (chain HB.out hb1)
      clear hb1
      have D0 : v1.cell? ⟨w.heap.size, 0, none⟩ = some (.int .i64 k) := block_cell XD.out 0
      have D1 : v1.cell? ⟨w.heap.size, 1, none⟩ = some (.int .i64 n) := block_cell XD.out 1
      have D2 : v1.cell? ⟨w.heap.size, 2, none⟩ = some (.slice a m c) := block_cell XD.out 2
      go_wp2_with fail
      refine (Q0.out _ HB.out).mono ?_; rintro e v2 ⟨rfl, hb2⟩
      clear D0 D1 D2
      have XD := Lib.hid ((hb2.block _ (block_lt XD.out)).trans XD.out)
      have XE := Lib.hid ((hb2.block _ (block_lt XE.out)).trans XE.out)
      have HB := Lib.hid (chain HB.out hb2)
      clear hb2
      have E0 : v2.cell? ⟨w.heap.size + 1, 0, none⟩ = some (.int .i64 k') := block_cell XE.out 0
      have E1 : v2.cell? ⟨w.heap.size + 1, 1, none⟩ = some (.int .i64 n') := block_cell XE.out 1
      have E2 : v2.cell? ⟨w.heap.size + 1, 2, none⟩ = some (.slice a' m' c') := block_cell XE.out 2
      go_wp2_with fail
      refine (K1.out _ HB.out).mono ?_; rintro e v3 ⟨rfl, hb3⟩
      clear E0 E1 E2
      have XD := Lib.hid ((hb3.block _ (block_lt XD.out)).trans XD.out)
      have XE := Lib.hid ((hb3.block _ (block_lt XE.out)).trans XE.out)
      have HB := Lib.hid (chain HB.out hb3)
      clear hb3
      have E0 : v3.cell? ⟨w.heap.size + 1, 0, none⟩ = some (.int .i64 k') := block_cell XE.out 0
      have E1 : v3.cell? ⟨w.heap.size + 1, 1, none⟩ = some (.int .i64 n') := block_cell XE.out 1
      have E2 : v3.cell? ⟨w.heap.size + 1, 2, none⟩ = some (.slice a' m' c') := block_cell XE.out 2
      go_wp2_with fail
      refine (Q1.out _ HB.out).mono ?_; rintro e v4 ⟨rfl, hb4⟩
      clear E0 E1 E2
      have XD := Lib.hid ((hb4.block _ (block_lt XD.out)).trans XD.out)
      have XE := Lib.hid ((hb4.block _ (block_lt XE.out)).trans XE.out)
      have HB := Lib.hid (chain HB.out hb4)
      clear hb4
      have D0 : v4.cell? ⟨w.heap.size, 0, none⟩ = some (.int .i64 k) := block_cell XD.out 0
      have D1 : v4.cell? ⟨w.heap.size, 1, none⟩ = some (.int .i64 n) := block_cell XD.out 1
      have D2 : v4.cell? ⟨w.heap.size, 2, none⟩ = some (.slice a m c) := block_cell XD.out 2
      have E0 : v4.cell? ⟨w.heap.size + 1, 0, none⟩ = some (.int .i64 k') := block_cell XE.out 0
      have E1 : v4.cell? ⟨w.heap.size + 1, 1, none⟩ = some (.int .i64 n') := block_cell XE.out 1
      have E2 : v4.cell? ⟨w.heap.size + 1, 2, none⟩ = some (.slice a' m' c') := block_cell XE.out 2
      go_wp2_with fail
      refine (CD.out _ HB.out).mono ?_; rintro e v5 ⟨rfl, hb5⟩
      clear D0 D1 D2 E0 E1 E2
      have XD := Lib.hid ((hb5.block _ (block_lt XD.out)).trans XD.out)
      have XE := Lib.hid ((hb5.block _ (block_lt XE.out)).trans XE.out)
      have HB := Lib.hid (chain HB.out hb5)
      clear hb5
      go_wp2_with fail
      go_ret
      exact ⟨rfl, HB.out⟩
    · skip
      rw [show orI (cmpI x y) q = 1 by unfold cmpI; rw [if_neg (by omega), if_pos (by omega)]; rfl]
      have d1 : decide (x < y) = false := by simp; omega
      have d2 : decide (x > y) = true := by simp; omega
      have D0 : W0.cell? ⟨w.heap.size, 0, none⟩ = some (.int .i64 k) := block_cell XD.out 0
      have D1 : W0.cell? ⟨w.heap.size, 1, none⟩ = some (.int .i64 n) := block_cell XD.out 1
      have D2 : W0.cell? ⟨w.heap.size, 2, none⟩ = some (.slice a m c) := block_cell XD.out 2
      go_enter Tryz.func55, Tryz.ntmps55
      go_wp2_with fail
      rw [HW0.out]
      refine (K0.out _ HB.out).mono ?_; rintro e v1 ⟨rfl, hb1⟩
      clear D0 D1 D2
      have XD := Lib.hid ((hb1.block _ (block_lt XD.out)).trans XD.out)
      have XE := Lib.hid ((hb1.block _ (block_lt XE.out)).trans XE.out)
      have HB := Lib.hid (chain HB.out hb1)
      clear hb1
      have D0 : v1.cell? ⟨w.heap.size, 0, none⟩ = some (.int .i64 k) := block_cell XD.out 0
      have D1 : v1.cell? ⟨w.heap.size, 1, none⟩ = some (.int .i64 n) := block_cell XD.out 1
      have D2 : v1.cell? ⟨w.heap.size, 2, none⟩ = some (.slice a m c) := block_cell XD.out 2
      go_wp2_with fail
      refine (Q0.out _ HB.out).mono ?_; rintro e v2 ⟨rfl, hb2⟩
      clear D0 D1 D2
      have XD := Lib.hid ((hb2.block _ (block_lt XD.out)).trans XD.out)
      have XE := Lib.hid ((hb2.block _ (block_lt XE.out)).trans XE.out)
      have HB := Lib.hid (chain HB.out hb2)
      clear hb2
      have E0 : v2.cell? ⟨w.heap.size + 1, 0, none⟩ = some (.int .i64 k') := block_cell XE.out 0
      have E1 : v2.cell? ⟨w.heap.size + 1, 1, none⟩ = some (.int .i64 n') := block_cell XE.out 1
      have E2 : v2.cell? ⟨w.heap.size + 1, 2, none⟩ = some (.slice a' m' c') := block_cell XE.out 2
      go_wp2_with fail
      refine (K1.out _ HB.out).mono ?_; rintro e v3 ⟨rfl, hb3⟩
      clear E0 E1 E2
      have XD := Lib.hid ((hb3.block _ (block_lt XD.out)).trans XD.out)
      have XE := Lib.hid ((hb3.block _ (block_lt XE.out)).trans XE.out)
      have HB := Lib.hid (chain HB.out hb3)
      clear hb3
      have E0 : v3.cell? ⟨w.heap.size + 1, 0, none⟩ = some (.int .i64 k') := block_cell XE.out 0
      have E1 : v3.cell? ⟨w.heap.size + 1, 1, none⟩ = some (.int .i64 n') := block_cell XE.out 1
      have E2 : v3.cell? ⟨w.heap.size + 1, 2, none⟩ = some (.slice a' m' c') := block_cell XE.out 2
      go_wp2_with fail
      refine (Q1.out _ HB.out).mono ?_; rintro e v4 ⟨rfl, hb4⟩
      clear E0 E1 E2
      have XD := Lib.hid ((hb4.block _ (block_lt XD.out)).trans XD.out)
      have XE := Lib.hid ((hb4.block _ (block_lt XE.out)).trans XE.out)
      have HB := Lib.hid (chain HB.out hb4)
      clear hb4
      go_wp2_with fail
      go_ret
      exact ⟨rfl, HB.out⟩
  · skip
    subst e0
    have Q0 := Lib.hid (P0.out rfl)
    clear P0
    have t1 : (Y == 0) = false := bno e1
    clear e1 P1
    rw [show orI (cmpI x 1152921504606846977) q = -1 by unfold cmpI; rw [if_pos (by omega)]; rfl]
    have d1 : decide (x < 1152921504606846977) = true := by simp; omega
    have D0 : W0.cell? ⟨w.heap.size, 0, none⟩ = some (.int .i64 k) := block_cell XD.out 0
    have D1 : W0.cell? ⟨w.heap.size, 1, none⟩ = some (.int .i64 n) := block_cell XD.out 1
    have D2 : W0.cell? ⟨w.heap.size, 2, none⟩ = some (.slice a m c) := block_cell XD.out 2
    go_enter Tryz.func55, Tryz.ntmps55
    go_wp2_with fail
    rw [HW0.out]
    refine (K0.out _ HB.out).mono ?_; rintro e v1 ⟨rfl, hb1⟩
    clear D0 D1 D2
    have XD := Lib.hid ((hb1.block _ (block_lt XD.out)).trans XD.out)
    have XE := Lib.hid ((hb1.block _ (block_lt XE.out)).trans XE.out)
    have HB := Lib.hid (chain HB.out hb1)
    clear hb1
    have D0 : v1.cell? ⟨w.heap.size, 0, none⟩ = some (.int .i64 k) := block_cell XD.out 0
    have D1 : v1.cell? ⟨w.heap.size, 1, none⟩ = some (.int .i64 n) := block_cell XD.out 1
    have D2 : v1.cell? ⟨w.heap.size, 2, none⟩ = some (.slice a m c) := block_cell XD.out 2
    go_wp2_with fail
    refine (Q0.out _ HB.out).mono ?_; rintro e v2 ⟨rfl, hb2⟩
    clear D0 D1 D2
    have XD := Lib.hid ((hb2.block _ (block_lt XD.out)).trans XD.out)
    have XE := Lib.hid ((hb2.block _ (block_lt XE.out)).trans XE.out)
    have HB := Lib.hid (chain HB.out hb2)
    clear hb2
    have E0 : v2.cell? ⟨w.heap.size + 1, 0, none⟩ = some (.int .i64 k') := block_cell XE.out 0
    have E1 : v2.cell? ⟨w.heap.size + 1, 1, none⟩ = some (.int .i64 n') := block_cell XE.out 1
    have E2 : v2.cell? ⟨w.heap.size + 1, 2, none⟩ = some (.slice a' m' c') := block_cell XE.out 2
    go_wp2_with fail
    refine (K1.out _ HB.out).mono ?_; rintro e v3 ⟨rfl, hb3⟩
    clear E0 E1 E2
    have XD := Lib.hid ((hb3.block _ (block_lt XD.out)).trans XD.out)
    have XE := Lib.hid ((hb3.block _ (block_lt XE.out)).trans XE.out)
    have HB := Lib.hid (chain HB.out hb3)
    clear hb3
    go_wp2_with fail
    go_ret
    exact ⟨rfl, HB.out⟩
  · skip
    have t0 : (X == 0) = false := bno e0
    clear e0 P0
    subst e1
    have Q1 := Lib.hid (P1.out rfl)
    clear P1
    rw [show orI (cmpI 1152921504606846977 y) q = 1 by unfold cmpI; rw [if_neg (by omega), if_pos (by omega)]; rfl]
    have d1 : decide (1152921504606846977 < y) = false := by simp; omega
    have d2 : decide (1152921504606846977 > y) = true := by simp; omega
    have D0 : W0.cell? ⟨w.heap.size, 0, none⟩ = some (.int .i64 k) := block_cell XD.out 0
    have D1 : W0.cell? ⟨w.heap.size, 1, none⟩ = some (.int .i64 n) := block_cell XD.out 1
    have D2 : W0.cell? ⟨w.heap.size, 2, none⟩ = some (.slice a m c) := block_cell XD.out 2
    go_enter Tryz.func55, Tryz.ntmps55
    go_wp2_with fail
    rw [HW0.out]
    refine (K0.out _ HB.out).mono ?_; rintro e v1 ⟨rfl, hb1⟩
    clear D0 D1 D2
    have XD := Lib.hid ((hb1.block _ (block_lt XD.out)).trans XD.out)
    have XE := Lib.hid ((hb1.block _ (block_lt XE.out)).trans XE.out)
    have HB := Lib.hid (chain HB.out hb1)
    clear hb1
    have E0 : v1.cell? ⟨w.heap.size + 1, 0, none⟩ = some (.int .i64 k') := block_cell XE.out 0
    have E1 : v1.cell? ⟨w.heap.size + 1, 1, none⟩ = some (.int .i64 n') := block_cell XE.out 1
    have E2 : v1.cell? ⟨w.heap.size + 1, 2, none⟩ = some (.slice a' m' c') := block_cell XE.out 2
    go_wp2_with fail
    refine (K1.out _ HB.out).mono ?_; rintro e v2 ⟨rfl, hb2⟩
    clear E0 E1 E2
    have XD := Lib.hid ((hb2.block _ (block_lt XD.out)).trans XD.out)
    have XE := Lib.hid ((hb2.block _ (block_lt XE.out)).trans XE.out)
    have HB := Lib.hid (chain HB.out hb2)
    clear hb2
    have E0 : v2.cell? ⟨w.heap.size + 1, 0, none⟩ = some (.int .i64 k') := block_cell XE.out 0
    have E1 : v2.cell? ⟨w.heap.size + 1, 1, none⟩ = some (.int .i64 n') := block_cell XE.out 1
    have E2 : v2.cell? ⟨w.heap.size + 1, 2, none⟩ = some (.slice a' m' c') := block_cell XE.out 2
    go_wp2_with fail
    refine (Q1.out _ HB.out).mono ?_; rintro e v3 ⟨rfl, hb3⟩
    clear E0 E1 E2
    have XD := Lib.hid ((hb3.block _ (block_lt XD.out)).trans XD.out)
    have XE := Lib.hid ((hb3.block _ (block_lt XE.out)).trans XE.out)
    have HB := Lib.hid (chain HB.out hb3)
    clear hb3
    go_wp2_with fail
    go_ret
    exact ⟨rfl, HB.out⟩
  · skip
    have t0 : (X == 0) = false := bno e0
    clear e0 P0
    have t1 : (Y == 0) = false := bno e1
    clear e1 P1
    rw [show orI (cmpI 1152921504606846977 1152921504606846977) q = q by unfold cmpI; rw [if_neg (by omega), if_neg (by omega)]; rfl]
    have D0 : W0.cell? ⟨w.heap.size, 0, none⟩ = some (.int .i64 k) := block_cell XD.out 0
    have D1 : W0.cell? ⟨w.heap.size, 1, none⟩ = some (.int .i64 n) := block_cell XD.out 1
    have D2 : W0.cell? ⟨w.heap.size, 2, none⟩ = some (.slice a m c) := block_cell XD.out 2
    go_enter Tryz.func55, Tryz.ntmps55
    go_wp2_with fail
    rw [HW0.out]
    refine (K0.out _ HB.out).mono ?_; rintro e v1 ⟨rfl, hb1⟩
    clear D0 D1 D2
    have XD := Lib.hid ((hb1.block _ (block_lt XD.out)).trans XD.out)
    have XE := Lib.hid ((hb1.block _ (block_lt XE.out)).trans XE.out)
    have HB := Lib.hid (chain HB.out hb1)
    clear hb1
    have E0 : v1.cell? ⟨w.heap.size + 1, 0, none⟩ = some (.int .i64 k') := block_cell XE.out 0
    have E1 : v1.cell? ⟨w.heap.size + 1, 1, none⟩ = some (.int .i64 n') := block_cell XE.out 1
    have E2 : v1.cell? ⟨w.heap.size + 1, 2, none⟩ = some (.slice a' m' c') := block_cell XE.out 2
    go_wp2_with fail
    refine (K1.out _ HB.out).mono ?_; rintro e v2 ⟨rfl, hb2⟩
    clear E0 E1 E2
    have XD := Lib.hid ((hb2.block _ (block_lt XD.out)).trans XD.out)
    have XE := Lib.hid ((hb2.block _ (block_lt XE.out)).trans XE.out)
    have HB := Lib.hid (chain HB.out hb2)
    clear hb2
    have D0 : v2.cell? ⟨w.heap.size, 0, none⟩ = some (.int .i64 k) := block_cell XD.out 0
    have D1 : v2.cell? ⟨w.heap.size, 1, none⟩ = some (.int .i64 n) := block_cell XD.out 1
    have D2 : v2.cell? ⟨w.heap.size, 2, none⟩ = some (.slice a m c) := block_cell XD.out 2
    have E0 : v2.cell? ⟨w.heap.size + 1, 0, none⟩ = some (.int .i64 k') := block_cell XE.out 0
    have E1 : v2.cell? ⟨w.heap.size + 1, 1, none⟩ = some (.int .i64 n') := block_cell XE.out 1
    have E2 : v2.cell? ⟨w.heap.size + 1, 2, none⟩ = some (.slice a' m' c') := block_cell XE.out 2
    go_wp2_with fail
    refine (CD.out _ HB.out).mono ?_; rintro e v3 ⟨rfl, hb3⟩
    clear D0 D1 D2 E0 E1 E2
    have XD := Lib.hid ((hb3.block _ (block_lt XD.out)).trans XD.out)
    have XE := Lib.hid ((hb3.block _ (block_lt XE.out)).trans XE.out)
    have HB := Lib.hid (chain HB.out hb3)
    clear hb3
    go_wp2_with fail
    go_ret
    exact ⟨rfl, HB.out⟩
end Go.Proofs.YtlnlijeamflpiaaGreat

namespace Go.Proofs.YtlnlijeamflpiaaGreat
open Go.RowKit
set_option linter.unusedVariables false
set_option linter.unusedSimpArgs false
set_option maxRecDepth 100000
set_option maxRecDepth 20000
/-- A slice reads as some trees. -/
def IsL (w : World) (F : Nat → Prop) (a : Option Addr) (m cap : Nat) (ts : List Tr) : Prop := IsT w F 0 0 a m cap (.node 0 0 ts)
theorem IsL.below {w w' : World} {F : Nat → Prop} {a : Option Addr} {m cap : Nat} {ts : List Tr} (h : IsL w F a m cap ts) (hb : Below w.heap.size w w') : IsL w' F a m cap ts := IsT.below h hb
theorem IsL.len {w : World} {F : Nat → Prop} {a : Option Addr} {m cap : Nat} {ts : List Tr} (h : IsL w F a m cap ts) : m = ts.length := IsT.em h
theorem IsL.kid {w : World} {F : Nat → Prop} {a : Option Addr} {m cap : Nat} {ts : List Tr} (h : IsL w F a m cap ts) (i : Nat) (hi : i < m) :
    ∃ b off k' n' a' m' c', a = some ⟨b, off, none⟩ ∧ F b ∧ b < w.heap.size ∧ w.cell? ⟨b, off + i * 3, none⟩ = some (.int .i64 k') ∧ w.cell? ⟨b, off + i * 3 + 1, none⟩ = some (.int .i64 n') ∧ w.cell? ⟨b, off + i * 3 + 2, none⟩ = some (.slice a' m' c') ∧
      IsT w F k' n' a' m' c' (Tr.kid ts i) := IsT.kid h i hi
end Go.Proofs.YtlnlijeamflpiaaGreat

namespace Go.Proofs.YtlnlijeamflpiaaGreat
open Go.RowKit
set_option linter.unusedVariables false
set_option linter.unusedSimpArgs false
set_option maxRecDepth 100000
/-- A clock's step. -/
def tstep (s x : Int) : Int := min (s + min (max x 0) 1152921504606846976) 1152921504606846976
/-- Where a clock stands that was asked n times. -/
def tnow (l : List Int) : Nat → Int
  | 0 => 0
  | n + 1 => if n < l.length then tstep (tnow l n) (nth l n) else tnow l n
theorem tstep_bd (s x : Int) (h : 0 ≤ s ∧ s ≤ 1152921504606846976) : s ≤ tstep s x ∧ tstep s x ≤ 1152921504606846976 := by
  unfold tstep
  omega
theorem tnow_bd (l : List Int) : ∀ n, 0 ≤ tnow l n ∧ tnow l n ≤ 1152921504606846976 := by
  intro n
  induction n with
  | zero => exact ⟨Int.le_refl _, by unfold tnow; omega⟩
  | succ n ih =>
    unfold tnow
    split
    · have := tstep_bd (tnow l n) (nth l n) ih; omega
    · exact ih
theorem tnow_mono (l : List Int) (n : Nat) : tnow l n ≤ tnow l (n + 1) := by
  have h := tnow_bd l n
  show _ ≤ (if n < l.length then tstep (tnow l n) (nth l n) else tnow l n)
  split
  · exact (tstep_bd _ _ h).1
  · exact Int.le_refl _
theorem tnow_past (l : List Int) (n : Nat) (h : l.length ≤ n) : tnow l (n + 1) = tnow l n := by
  show (if n < l.length then tstep (tnow l n) (nth l n) else tnow l n) = _
  rw [if_neg (by omega)]
theorem tnow_stop (l : List Int) : ∀ n, l.length ≤ n → tnow l n = tnow l l.length := by
  intro n h
  induction n with
  | zero => rw [show l.length = 0 by omega]
  | succ n ih =>
    by_cases h1 : l.length ≤ n
    · rw [tnow_past l n h1, ih h1]
    · rw [show l.length = n + 1 by omega]
/-- How long the i-th of some takes, by a clock that was asked q times. -/
def lapA (l : List Int) (q : Nat) : Int := tnow l (q + 2) - tnow l (q + 1)
def lapsT (l : List Int) (q n : Nat) : List Int := (List.range n).map fun i => lapA l (q + 2 * i)
theorem lapA_bd (l : List Int) (q : Nat) : 0 ≤ lapA l q ∧ lapA l q ≤ 1152921504606846976 := by
  unfold lapA
  have h1 := tnow_bd l (q + 2)
  have h2 := tnow_bd l (q + 1)
  have h3 : tnow l (q + 1) ≤ tnow l (q + 2) := tnow_mono l (q + 1)
  omega
theorem lapsT_len (l : List Int) (q n : Nat) : (lapsT l q n).length = n := by simp [lapsT]
theorem lapsT_at (l : List Int) (q n i : Nat) (h : i < n) : nth (lapsT l q n) i = lapA l (q + 2 * i) := nth_ofFn _ _ _ h
theorem lapsT_succ (l : List Int) (q n : Nat) : lapsT l q (n + 1) = lapsT l q n ++ [lapA l (q + 2 * n)] := by simp [lapsT, List.range_succ]
/-- Does the i-th run come ahead of the k-th? -/
def aheadR (ts : List Tr) (xs : List Int) (i k : Nat) : Prop := orI (cmpI (nth xs i) (nth xs k)) (wcmp (Tr.kid ts i) (Tr.kid ts k)) < 0
instance (ts : List Tr) (xs : List Int) (i k : Nat) : Decidable (aheadR ts xs i k) := by unfold aheadR; infer_instance
/-- The place of the first of j runs. -/
def firstR (ts : List Tr) (xs : List Int) : Nat → Nat
  | 0 => 0
  | j + 1 => if aheadR ts xs j (firstR ts xs j) then j else firstR ts xs j
theorem firstR_lt (ts : List Tr) (xs : List Int) : ∀ j, 0 < j → firstR ts xs j < j := by
  intro j
  induction j with
  | zero => intro h; omega
  | succ j ih =>
    intro _
    unfold firstR
    split
    · omega
    · by_cases h0 : j = 0
      · subst h0; show firstR ts xs 0 < _; unfold firstR; omega
      · have := ih (by omega); omega
theorem firstR_le (ts : List Tr) (xs : List Int) (j : Nat) : firstR ts xs j ≤ j := by
  by_cases h : j = 0
  · subst h; exact Nat.le_refl _
  · have := firstR_lt ts xs j (by omega); omega
theorem firstR_one (ts : List Tr) (xs : List Int) : firstR ts xs 1 = 0 := by
  show (if aheadR ts xs 0 (firstR ts xs 0) then 0 else firstR ts xs 0) = 0
  show (if aheadR ts xs 0 0 then 0 else 0) = 0
  split <;> rfl
theorem aheadR_lt {ts : List Tr} {xs : List Int} {i k : Nat} (h : nth xs i < nth xs k) : aheadR ts xs i k := by
  unfold aheadR cmpI orI
  rw [if_pos h, if_neg (by omega)]; omega
theorem aheadR_gt {ts : List Tr} {xs : List Int} {i k : Nat} (h : nth xs k < nth xs i) : ¬ aheadR ts xs i k := by
  unfold aheadR cmpI orI
  rw [if_neg (by omega), if_pos h, if_neg (by omega)]; omega
theorem aheadR_eq {ts : List Tr} {xs : List Int} {i k : Nat} (h : nth xs i = nth xs k) : aheadR ts xs i k ↔ wcmp (Tr.kid ts i) (Tr.kid ts k) < 0 := by
  unfold aheadR cmpI orI
  rw [if_neg (show ¬ nth xs i < nth xs k by omega), if_neg (show ¬ nth xs k < nth xs i by omega), if_pos rfl]
/-- The clock's cell: what is ahead, where it stands, how often it was asked. -/
def ClockAt (T : TypeId) (p : Nat) (l : List Int) (q : Nat) (w : World) : Prop :=
  ∃ (a : Option Addr) (m c : Nat), w.heap[p]? = some (.cells #[.slice a m c, .int .i64 (tnow l q), .int .i64 q] T (0, 0)) ∧ Row .i64 w a (l.drop q) ∧ (l.drop q).length = m ∧ m ≤ c ∧ (∀ b o, a = some ⟨b, o, none⟩ → b < p) ∧ l.length ≤ 9223372036854775807
theorem ClockAt.lt {T : TypeId} {p : Nat} {l : List Int} {q : Nat} {w : World} (h : ClockAt T p l q w) : p < w.heap.size := by
  obtain ⟨a, m, c, h, _⟩ := h
  exact block_lt h
theorem ClockAt.below {T : TypeId} {p : Nat} {l : List Int} {q : Nat} {w w' : World} (h : ClockAt T p l q w) (hb : Below w.heap.size w w') : ClockAt T p l q w' := by
  obtain ⟨a, m, c, h1, h2, h3⟩ := h
  exact ⟨a, m, c, (hb.block _ (block_lt h1)).trans h1, h2.below hb, h3⟩
theorem ClockAt.stay {T : TypeId} {p : Nat} {l : List Int} {q : Nat} {w w' : World} (h : ClockAt T p l q w) (hs : ∀ b, b ≤ p → w'.heap[b]? = w.heap[b]?) : ClockAt T p l q w' := by
  obtain ⟨a, m, c, h1, h2, h3, h4, h5, h6⟩ := h
  refine ⟨a, m, c, (hs p (Nat.le_refl _)).trans h1, ⟨h2.len, h2.wf, ?_⟩, h3, h4, h5, h6⟩
  rcases h2.lies with e | ⟨b, off, e, hc⟩
  · exact .inl e
  · exact .inr ⟨b, off, e, fun i hi => (World.cell?_of_block (a := ⟨b, off + i, none⟩) (hs b (Nat.le_of_lt (h5 b off e)))).trans (hc i hi)⟩
end Go.Proofs.YtlnlijeamflpiaaGreat

namespace Go.Proofs.YtlnlijeamflpiaaGreat
open Go.RowKit
set_option linter.unusedVariables false
set_option linter.unusedSimpArgs false
set_option maxRecDepth 100000
theorem bl_aux (f : Nat) : ∀ x j, x < 2 ^ f → (2 ^ j ≤ x ↔ j < Lib.bitLenAux f x) := by
  induction f with
  | zero => intro x j hx; simp at hx; subst hx; simp [Lib.bitLenAux]
  | succ f ih =>
    intro x j hx
    rw [Lib.bitLenAux]
    by_cases h0 : x = 0
    · subst h0; rw [if_pos rfl]; have := Nat.two_pow_pos j; omega
    · rw [if_neg h0]
      cases j with
      | zero => simp; omega
      | succ j =>
        have h := ih (x / 2) j (by rw [Nat.pow_succ] at hx; omega)
        rw [Nat.pow_succ]
        constructor
        · intro h1; have := h.1 (by omega); omega
        · intro h1; have := h.2 (by omega); omega
theorem bl_iff (x j : Nat) (hx : x < 18446744073709551616) : 2 ^ j ≤ x ↔ j < Lib.bitLen x := bl_aux 64 x j hx
theorem bl_24 (x : Nat) (hx : x < 16777216) : Lib.bitLen x ≤ 24 := by
  rcases Nat.lt_or_ge 24 (Lib.bitLen x) with h | h
  · have := (bl_iff x 24 (by omega)).2 h
    have e : (2 : Nat) ^ 24 = 16777216 := by decide
    omega
  · exact h
/-- The least power of two that is not below n. -/
def abv (n : Nat) : Nat := 2 ^ Lib.bitLen (n - 1)
theorem fact_there (n : Nat) (w : World) (h1 : 1 ≤ n) (h2 : n ≤ 16777216) :
    Calls Tryz.prog 144 #[.int .i64 n] w fun e w' => e = .returned (.bool true) ∧ w = w' := by
  go_enter Tryz.func144, Tryz.ntmps144
  go_wp2_with fail
  go_ret
  exact ⟨ret_bool (by simp; omega), rfl⟩
theorem fact_there_no (n : Nat) (w : World) (h2 : 16777216 < n) (h3 : n ≤ 9223372036854775807) :
    Calls Tryz.prog 144 #[.int .i64 n] w fun e w' => e = .returned (.bool false) ∧ w = w' := by
  go_enter Tryz.func144, Tryz.ntmps144
  go_wp2_with fail
  go_ret
  exact ⟨ret_bool (by simp; omega), rfl⟩
theorem fact_Above_no (n : Nat) (w : World) (h2 : 16777216 < n) (h3 : n ≤ 9223372036854775807) :
    Calls Tryz.prog 124 #[.int .i64 n] w fun e w' => e = .returned (.tuple #[.int .i64 0, .int .i64 3]) ∧ w = w' := by
  go_enter Tryz.func124, Tryz.ntmps124
  go_wp2_with fail
  refine (fact_there_no n _ h2 h3).mono ?_; rintro e w' ⟨rfl, rfl⟩
  go_wp2_with fail
  go_ret2
  exact ⟨rfl, rfl⟩
set_option maxHeartbeats 800000 in
theorem fact_Above (n : Nat) (w : World) (h1 : 1 ≤ n) (h2 : n ≤ 16777216) :
    Calls Tryz.prog 124 #[.int .i64 n] w fun e w' => e = .returned (.tuple #[.int .i64 (abv n : Nat), .int .i64 0]) ∧ w = w' := by
  have hL := bl_24 (n - 1) (by omega)
  obtain ⟨m, hm⟩ : ∃ m : Nat, n - 1 = m := ⟨n - 1, rfl⟩
  have hA : abv n = 2 ^ Lib.bitLen (n - 1) := rfl
  rw [hm] at hA hL
  have e1 : (n : Int) - 1 = (m : Int) := by omega
  have hm2 : m < 16777216 := by omega
  obtain ⟨L, hLL⟩ : ∃ L, Lib.bitLen m = L := ⟨_, rfl⟩
  have C1 : Hid (∀ w : World, Calls Tryz.prog 145 #[.int .u64 m] w fun e w' => e = .returned (.int .i64 L) ∧ w = w') := fun w => by
    have := bits_Len m w (by omega) (by omega)
    rw [Int.toNat_natCast, hLL] at this
    exact this
  rw [hLL] at hA hL
  have HA := Lib.hid hA
  clear hA hLL hm
  go_enter Tryz.func124, Tryz.ntmps124
  go_wp2_with fail
  refine (fact_there n _ h1 h2).mono ?_; rintro e w' ⟨rfl, rfl⟩
  go_wp2_with fail
  refine (C1.out _).mono ?_; rintro e w' ⟨rfl, rfl⟩
  go_wp2_with fail
  go_ret2
  have hw : wrap64 (2 ^ L) = (abv n : Nat) := by
    rw [HA.out]
    have h3 : 2 ^ L ≤ 2 ^ 24 := Nat.pow_le_pow_right (by omega) hL
    have e : (2 : Nat) ^ 24 = 16777216 := by decide
    have e4 : (2 : Int) ^ L = ((2 ^ L : Nat) : Int) := by rw [Int.natCast_pow]; rfl
    rw [e4]
    generalize 2 ^ L = q at h3 ⊢
    unfold wrap64; omega
  exact ⟨by simp [hw], rfl⟩
theorem abv_ge (n j : Nat) (h1 : 1 ≤ n) (h2 : n ≤ 16777216) : j < Lib.bitLen (n - 1) ↔ 2 ^ j < n := by
  rw [← bl_iff (n - 1) j (by omega)]; omega
set_option maxHeartbeats 800000 in
theorem ref_Above (n : Nat) (w : World) (h1 : 1 ≤ n) (h2 : n ≤ 16777216) :
    Calls Tryz.prog 72 #[.int .i64 n] w fun e w' => e = .returned (.int .i64 (abv n : Nat)) ∧ w = w' := by
  have hL := bl_24 (n - 1) (by omega)
  go_enter Tryz.func72, Tryz.ntmps72
  go_wp2_with fail
  go_loop [3] (fun v => ∃ (j p : Nat), j ≤ Lib.bitLen (n - 1) ∧ v = .int .i64 p ∧ Hid (p = 2 ^ j) ∧ p ≤ 16777216 ∧ 1 ≤ p) (fun v => n - (intOf v).toNat)
  case atStart => exact ⟨0, 1, Nat.zero_le _, rfl, rfl, by omega, by omega⟩
  case round =>
    obtain ⟨j, p, hj, rfl, HP, hp, hp1⟩ := hrel
    by_cases hlt : p < n
    · have hj2 : j < Lib.bitLen (n - 1) := (abv_ge n j h1 h2).2 (by rw [← HP.out]; exact hlt)
      have hp3 : 2 * p ≤ 16777216 := by
        have h3 : 2 ^ (j + 1) ≤ 2 ^ 24 := Nat.pow_le_pow_right (by omega) (by omega)
        have e : (2 : Nat) ^ 24 = 16777216 := by decide
        rw [Nat.pow_succ, ← HP.out] at h3
        omega
      go_wp2_with fail
      go_round
      case rel => exact ⟨j + 1, 2 * p, by omega, by go_num, by unfold Hid; rw [Nat.pow_succ, ← HP.out]; omega, by omega, by omega⟩
      case measure => simp [intOf]; omega
    · have hjL : j = Lib.bitLen (n - 1) := by
        rcases Nat.lt_or_ge j (Lib.bitLen (n - 1)) with h | h
        · exact absurd ((abv_ge n j h1 h2).1 h) (by rw [← HP.out]; exact hlt)
        · omega
      have HA : Hid (p = abv n) := by unfold Hid abv; rw [HP.out, hjL]
      clear hjL hj
      go_wp2_with fail
      go_ret
      exact ⟨by simp [HA.out], rfl⟩
theorem chirp_Least_range (n : Nat) (w : World) (h : hasSz n = true) (hn : 8388608 < n) :
    Calls Tryz.prog 100 #[.int .i64 n] w fun e w' => e = .returned (.tuple #[.int .i64 0, .int .i64 3]) ∧ w = w' := by
  have H := Lib.hid h
  obtain ⟨h1, h2, _⟩ := hasSz_iff.1 h
  clear h
  obtain ⟨m, hm⟩ : ∃ m : Nat, 2 * (n : Int) - 1 = m := ⟨2 * n - 1, by omega⟩
  have hm2 : 16777216 < m := by omega
  have hm3 : m ≤ 33554432 := by omega
  go_enter Tryz.func100, Tryz.ntmps100
  go_wp2_with fail
  refine (rootHas_yes _ _ H.out).mono ?_; rintro e w' ⟨rfl, rfl⟩
  go_wp2_with fail
  refine (fact_Above_no m _ hm2 (by omega)).mono ?_; rintro e w' ⟨rfl, rfl⟩
  go_wp2_with fail
  go_ret2
  exact ⟨rfl, rfl⟩
theorem abv_le (n : Nat) (h2 : n ≤ 16777216) (h1 : 1 ≤ n) : abv n ≤ 16777216 := by
  have h3 : 2 ^ Lib.bitLen (n - 1) ≤ 2 ^ 24 := Nat.pow_le_pow_right (by omega) (bl_24 _ (by omega))
  have e : (2 : Nat) ^ 24 = 16777216 := by decide
  unfold abv; omega
theorem chirp_Least_ok (n m : Nat) (w : World) (h : hasSz n = true) (hn : n ≤ 8388608) (hm' : m = 2 * n - 1) :
    Calls Tryz.prog 100 #[.int .i64 n] w fun e w' => e = .returned (.tuple #[.int .i64 (abv m : Nat), .int .i64 0]) ∧ w = w' := by
  have H := Lib.hid h
  obtain ⟨h1, h2, _⟩ := hasSz_iff.1 h
  clear h
  have hm : 2 * (n : Int) - 1 = m := by omega
  have hm2 : 1 ≤ m := by omega
  have hm3 : m ≤ 16777216 := by omega
  have hA := abv_le m hm3 hm2
  obtain ⟨A, hAA⟩ : ∃ A, abv m = A := ⟨_, rfl⟩
  have HA := Lib.hid hAA
  rw [hAA] at hA ⊢
  clear hm' hAA
  go_enter Tryz.func100, Tryz.ntmps100
  go_wp2_with fail
  refine (rootHas_yes _ _ H.out).mono ?_; rintro e w' ⟨rfl, rfl⟩
  go_wp2_with fail
  refine (fact_Above m _ hm2 hm3).mono ?_; rintro e w' ⟨rfl, rfl⟩
  rw [HA.out]
  go_wp2_with fail
  go_ret2
  exact ⟨rfl, rfl⟩
end Go.Proofs.YtlnlijeamflpiaaGreat

namespace Go.Proofs.YtlnlijeamflpiaaGreat
open Go.RowKit
set_option linter.unusedVariables false
set_option linter.unusedSimpArgs false
set_option maxRecDepth 100000
def stL (n : Nat) : List Nat → List (Nat × Nat)
  | [] => []
  | p :: ps => (if n % p = 0 then [(p, (stripF 25 p n 0).2)] else []) ++ stL n ps
/-- The primes of a size. -/
def facS (n : Nat) : List (Nat × Nat) := stL n [2, 3, 5, 17, 257, 65537]
def lastP (ps : List (Nat × Nat)) : Nat := (ps.getD (ps.length - 1) (0, 0)).1
/-- Without a kid? -/
def noKid (n : Nat) : Bool := decide (2 ≤ n ∧ n ≤ 5) || (decide (n = 1) || (decide (n ≤ 64) && !hasP2 n)) || hasP2 n
def leafK (n : Nat) : Int := if 2 ≤ n ∧ n ≤ 5 then 2 else if n = 1 ∨ (n ≤ 64 ∧ hasP2 n = false) then 1 else 3
def planF : Nat → Nat → Tr
  | 0, n => .node 0 n []
  | f + 1, n =>
    if noKid n then .node (leafK n) n []
    else if prB (facS n) then .node 6 n [planF f (n - 1)]
    else .node 4 n [planF f (lastP (facS n)), planF f (n / lastP (facS n))]
/-- Do so many steps do? -/
def okF : Nat → Nat → Bool
  | 0, _ => false
  | f + 1, n => hasSz n && (
    if noKid n then true
    else if prB (facS n) then okF f (n - 1)
    else decide (1 ≤ (facS n).length) && decide (1 ≤ lastP (facS n)) && okF f (lastP (facS n)) && okF f (n / lastP (facS n)))
def pl (n : Nat) : Tr := planF 10 n
def leavesT (n : Nat) : List Tr := ((if n ≤ 64 then [.node 1 n []] else []) ++ (if 2 ≤ n ∧ n ≤ 5 then [.node 2 n []] else [])) ++ (if 2 ≤ n ∧ hasP2 n = true then [.node 3 n []] else [])
def splitT (n : Nat) (p : Nat × Nat) : List Tr := if p.1 = n then [] else [.node 4 n [pl p.1, pl (n / p.1)]]
def goodT (n : Nat) (p : Nat × Nat) : List Tr := if p.1 ^ p.2 = n then [] else [.node 5 n [pl (p.1 ^ p.2), pl (n / p.1 ^ p.2)]]
def splitsT (n : Nat) (ps : List (Nat × Nat)) : List Tr := ps.flatMap (splitT n)
def goodsT (n : Nat) (ps : List (Nat × Nat)) : List Tr := ps.flatMap (goodT n)
def raderT (n : Nat) : List Tr := if 3 ≤ n ∧ prB (facS n) = true then [.node 6 n [pl (n - 1)]] else []
def blueT (n : Nat) : List Tr := if 2 ≤ n ∧ n ≤ 8388608 then [.node 7 n [pl (abv (2 * n - 1))]] else []
def listT (n : Nat) : List Tr := ((leavesT n ++ (splitsT n (facS n) ++ goodsT n (facS n))) ++ raderT n) ++ blueT n
def differ : List Tr → Bool
  | [] => true
  | t :: ts => ts.all (fun u => decide (Tr.cmp u t ≠ 0)) && differ ts
def kidsB (n : Nat) : Bool :=
  okF 10 n && (facS n).all (fun p => decide (1 ≤ p.1) && decide (p.1 ≤ n) && decide (p.2 ≤ 24) && decide (1 ≤ p.1 ^ p.2) && decide (p.1 ^ p.2 ≤ n) && okF 10 p.1 && okF 10 (n / p.1) && okF 10 (p.1 ^ p.2) && okF 10 (n / p.1 ^ p.2) && decide (Tr.size (pl p.1) ≤ 60)) && decide ((facS n).length ≤ 6) && (!prB (facS n) || decide (n ≤ 2) || okF 10 (n - 1)) &&
  (decide (n < 2) || decide (8388608 < n) || okF 10 (abv (2 * n - 1)))
def listB (n : Nat) : Bool :=
  decide (chk (pl n) = 0) && decide ((pl n).num = n) && (listT n).all (fun t => decide (chk t = 0) && decide (t.num = n)) && decide (1 ≤ (listT n).length) && decide ((listT n).length ≤ 12) && differ (listT n)
def candB (n : Nat) : Bool := kidsB n && listB n && decide (facL n = facS n)
def oddL : List Nat := [1, 3, 5, 15, 17, 51, 85, 255].flatMap fun a => [a, a * 257, a * 65537, a * 257 * 65537]
theorem candAll : (oddL.all fun g => (List.range 25).all fun j => decide (16777216 < 2 ^ j * g) || candB (2 ^ j * g)) = true := by decide +kernel
theorem dvd_two (k : Nat) : ∀ d, d ∣ 2 ^ k → ∃ j, d = 2 ^ j := by
  induction k with
  | zero => intro d h; exact ⟨0, by simpa using h⟩
  | succ k ih =>
    intro d h
    by_cases h2 : d % 2 = 0
    · obtain ⟨e, rfl⟩ := Nat.dvd_of_mod_eq_zero h2
      rw [Nat.pow_succ, Nat.mul_comm (2 ^ k) 2] at h
      obtain ⟨j, rfl⟩ := ih e (Nat.dvd_of_mul_dvd_mul_left (by omega) h)
      exact ⟨j + 1, by rw [Nat.pow_succ]; omega⟩
    · have hc : Nat.Coprime d 2 := by
        unfold Nat.Coprime
        rw [Nat.gcd_comm, Nat.gcd_rec, show d % 2 = 1 by omega]
        rfl
      rw [Nat.pow_succ] at h
      exact ih d (hc.dvd_of_dvd_mul_right h)
theorem dvd_fewer {p s : Nat} (hp : 0 < p) (hs : p < (s + 1) * (s + 1)) (h : ∀ k, k < s + 1 → 2 ≤ k → p % k ≠ 0) (d : Nat) (hd : d ∣ p) : d = 1 ∨ d = p := by
  obtain ⟨e, rfl⟩ := hd
  have hd0 : d ≠ 0 := by rintro rfl; simp at hp
  have he0 : e ≠ 0 := by rintro rfl; simp at hp
  by_cases h1 : d = 1
  · exact .inl h1
  by_cases h2 : e = 1
  · exact .inr (by rw [h2, Nat.mul_one])
  exfalso
  by_cases hk : d < s + 1
  · exact h d hk (by omega) (Nat.mul_mod_right d e)
  · by_cases hk2 : e < s + 1
    · exact h e hk2 (by omega) (Nat.mul_mod_left d e)
    · have := Nat.mul_le_mul (show s + 1 ≤ d by omega) (show s + 1 ≤ e by omega)
      omega
theorem gcd_split {n a b : Nat} (hc : Nat.Coprime a b) (h : n ∣ a * b) : n = Nat.gcd n a * Nat.gcd n b := by
  rw [← hc.gcd_mul, Nat.gcd_eq_left h]
theorem size_form (n : Nat) (h1 : 1 ≤ n) (h2 : n ≤ 16777216) (h : n ∣ 18446744069414584320) : ∃ g ∈ oddL, ∃ j, j < 25 ∧ n = 2 ^ j * g := by
  have e : 18446744069414584320 = 2 ^ 32 * (3 * (5 * (17 * (257 * 65537)))) := by decide
  rw [e] at h
  obtain ⟨j, hj⟩ := dvd_two 32 (Nat.gcd n (2 ^ 32)) (Nat.gcd_dvd_right _ _)
  have s0 := gcd_split (by decide) h
  have f0 : Nat.gcd n (3 * (5 * (17 * (257 * 65537)))) ∣ 3 * (5 * (17 * (257 * 65537))) := Nat.gcd_dvd_right _ _
  rw [hj] at s0
  obtain ⟨m, hm⟩ : ∃ m, Nat.gcd n (3 * (5 * (17 * (257 * 65537)))) = m := ⟨_, rfl⟩
  rw [hm] at s0 f0
  have s1 := gcd_split (by decide) f0
  have f1 : Nat.gcd m (5 * (17 * (257 * 65537))) ∣ 5 * (17 * (257 * 65537)) := Nat.gcd_dvd_right _ _
  have g3 := dvd_fewer (p := 3) (s := 1) (by omega) (by omega) (by decide) _ (Nat.gcd_dvd_right m 3)
  obtain ⟨m1, hm1⟩ : ∃ x, Nat.gcd m (5 * (17 * (257 * 65537))) = x := ⟨_, rfl⟩
  obtain ⟨a3, ha3⟩ : ∃ x, Nat.gcd m 3 = x := ⟨_, rfl⟩
  rw [hm1] at s1 f1; rw [ha3] at s1 g3
  have s2 := gcd_split (by decide) f1
  have f2 : Nat.gcd m1 (17 * (257 * 65537)) ∣ 17 * (257 * 65537) := Nat.gcd_dvd_right _ _
  have g5 := dvd_fewer (p := 5) (s := 2) (by omega) (by omega) (by decide) _ (Nat.gcd_dvd_right m1 5)
  obtain ⟨m2, hm2⟩ : ∃ x, Nat.gcd m1 (17 * (257 * 65537)) = x := ⟨_, rfl⟩
  obtain ⟨a5, ha5⟩ : ∃ x, Nat.gcd m1 5 = x := ⟨_, rfl⟩
  rw [hm2] at s2 f2; rw [ha5] at s2 g5
  have s3 := gcd_split (by decide) f2
  have f3 : Nat.gcd m2 (257 * 65537) ∣ 257 * 65537 := Nat.gcd_dvd_right _ _
  have g17 := dvd_fewer (p := 17) (s := 4) (by omega) (by omega) (by decide) _ (Nat.gcd_dvd_right m2 17)
  obtain ⟨m3, hm3⟩ : ∃ x, Nat.gcd m2 (257 * 65537) = x := ⟨_, rfl⟩
  obtain ⟨a17, ha17⟩ : ∃ x, Nat.gcd m2 17 = x := ⟨_, rfl⟩
  rw [hm3] at s3 f3; rw [ha17] at s3 g17
  have s4 := gcd_split (by decide) f3
  have g257 := dvd_fewer (p := 257) (s := 16) (by omega) (by omega) (by decide) _ (Nat.gcd_dvd_right m3 257)
  have g655 := dvd_fewer (p := 65537) (s := 256) (by omega) (by omega) (by decide +kernel) _ (Nat.gcd_dvd_right m3 65537)
  obtain ⟨a257, ha257⟩ : ∃ x, Nat.gcd m3 257 = x := ⟨_, rfl⟩
  obtain ⟨a655, ha655⟩ : ∃ x, Nat.gcd m3 65537 = x := ⟨_, rfl⟩
  rw [ha257] at s4 g257; rw [ha655] at s4 g655
  have hmo : m ∈ oddL := by
    rw [s1, s2, s3, s4]
    clear s0 s1 s2 s3 s4 f0 f1 f2 f3 hm hm1 hm2 hm3 ha3 ha5 ha17 ha257 ha655 e h hj
    rcases g3 with rfl | rfl <;> rcases g5 with rfl | rfl <;> rcases g17 with rfl | rfl <;> rcases g257 with rfl | rfl <;> rcases g655 with rfl | rfl <;> decide
  refine ⟨m, hmo, j, ?_, s0⟩
  by_cases hj25 : j < 25
  · exact hj25
  · exfalso
    have h25 : 2 ^ 25 ≤ 2 ^ j := Nat.pow_le_pow_right (by omega) (by omega)
    have e2 : (2 : Nat) ^ 25 = 33554432 := by decide
    have hm0 : 1 ≤ m := by
      rcases Nat.eq_zero_or_pos m with h0 | h0
      · rw [h0] at s0; omega
      · exact h0
    have := Nat.mul_le_mul h25 hm0
    omega
theorem cand_sz {n : Nat} (h : hasSz n = true) : candB n = true := by
  obtain ⟨h1, h2, h3⟩ := hasSz_iff.1 h
  have hd : n ∣ 18446744069414584320 := by
    refine Nat.dvd_of_mod_eq_zero ?_
    have : ((18446744069414584320 % n : Nat) : Int) = 0 := by rw [Int.natCast_emod]; exact h3
    omega
  obtain ⟨g, hg, j, hj, hn⟩ := size_form n (by omega) (by omega) hd
  have h4 := List.all_eq_true.1 (List.all_eq_true.1 candAll g hg) j (List.mem_range.2 hj)
  rw [← hn] at h4
  rw [Bool.or_eq_true, decide_eq_true_eq] at h4
  rcases h4 with h4 | h4
  · omega
  · exact h4
theorem fac_sz {n : Nat} (h : hasSz n = true) : facL n = facS n := by
  have := cand_sz h
  unfold candB at this
  simp only [Bool.and_eq_true, decide_eq_true_eq] at this
  exact this.2
theorem kids_sz {n : Nat} (h : hasSz n = true) : kidsB n = true := by
  have := cand_sz h
  unfold candB at this
  simp only [Bool.and_eq_true] at this
  exact this.1.1
theorem list_sz {n : Nat} (h : hasSz n = true) : listB n = true := by
  have := cand_sz h
  unfold candB at this
  simp only [Bool.and_eq_true] at this
  exact this.1.2
end Go.Proofs.YtlnlijeamflpiaaGreat

namespace Go.Proofs.YtlnlijeamflpiaaGreat
open Go.RowKit
set_option linter.unusedVariables false
set_option linter.unusedSimpArgs false
set_option maxRecDepth 100000
set_option maxHeartbeats 400000 in
theorem gold_Red (a : Int) (w : World) (h0 : 0 ≤ a) (h1 : a < 18446744073709551616) :
    Calls Tryz.prog 76 #[.int .u64 a] w fun e w' => e = .returned (.int .u64 (a % 18446744069414584321)) ∧ w = w' := by
  by_cases h : 18446744069414584321 ≤ a
  all_goals
    go_enter Tryz.func76, Tryz.ntmps76
    go_wp2
    go_ret
    exact ⟨ret_int (by omega), rfl⟩
theorem add64 (x y : Int) (hx0 : 0 ≤ x) (hx : x < 18446744073709551616) (hy0 : 0 ≤ y) (hy : y < 18446744073709551616) (w : World) :
    (callFunc 77 #[.int .u64 x, .int .u64 y, .int .u64 0]).run Tryz.prog w = .ok (.value (.tuple #[.int .u64 ((x + y) % 18446744073709551616), .int .u64 ((x + y) / 18446744073709551616)])) w := by
  rw [run_callFunc_extern Tryz.func77 (by kernel_rfl) (by kernel_rfl) (by kernel_rfl) (e := add64Entry) (by kernel_rfl), run_add64 x y 0 (by omega) (by omega) (by omega) (by omega)]
  simp
theorem sub64 (x y : Int) (hx0 : 0 ≤ x) (hx : x < 18446744073709551616) (hy0 : 0 ≤ y) (hy : y < 18446744073709551616) (w : World) :
    (callFunc 105 #[.int .u64 x, .int .u64 y, .int .u64 0]).run Tryz.prog w = .ok (.value (.tuple #[.int .u64 ((x - y) % 18446744073709551616), .int .u64 (if x < y then 1 else 0)])) w := by
  obtain ⟨a, rfl⟩ := Int.eq_ofNat_of_zero_le hx0
  obtain ⟨b, rfl⟩ := Int.eq_ofNat_of_zero_le hy0
  have h := Go.Proofs.run_sub64 (P := Tryz.prog) a b 0 (by omega) w
  have e1 : (((a + 18446744073709551616 - b - 0) % 18446744073709551616 : Nat) : Int) = ((a : Int) - b) % 18446744073709551616 := by omega
  have e2 : ((if a < b + 0 then 1 else 0 : Nat) : Int) = if (a : Int) < b then 1 else 0 := by
    by_cases hab : a < b
    · rw [if_pos (by omega), if_pos (by omega)]; rfl
    · rw [if_neg (by omega), if_neg (by omega)]; rfl
  rw [e1, e2] at h
  rw [run_callFunc_extern Tryz.func105 (by kernel_rfl) (by kernel_rfl) (by kernel_rfl) (e := Go.Proofs.sub64Entry) (by kernel_rfl)]
  have h' : (Go.Proofs.sub64Entry #[.int .u64 (a : Int), .int .u64 (b : Int), .int .u64 0]).run Tryz.prog w = _ := h
  rw [h']
  rfl
set_option maxHeartbeats 400000 in
theorem gold_Add (a b : Int) (w : World) (ha0 : 0 ≤ a) (ha : a < 18446744073709551616) (hb0 : 0 ≤ b) (hb : b < 18446744073709551616) :
    Calls Tryz.prog 45 #[.int .u64 a, .int .u64 b] w fun e w' => e = .returned (.int .u64 ((a + b) % 18446744069414584321)) ∧ w = w' := by
  have e1 := add64 (a % 18446744069414584321) (b % 18446744069414584321) (by omega) (by omega) (by omega) (by omega) w
  go_enter Tryz.func45, Tryz.ntmps45
  go_wp2_with fail
  refine (gold_Red a _ ha0 ha).mono ?_; rintro e w' ⟨rfl, rfl⟩
  go_wp2_with fail
  refine (gold_Red b _ hb0 hb).mono ?_; rintro e w' ⟨rfl, rfl⟩
  go_wp2_with fail
  all_goals
    go_ret
    refine ⟨ret_int ?_, rfl⟩
    simp only [beq_iff_eq, beq_eq_false_iff_ne, IntKind.wrap_u64] at *
    omega
set_option maxHeartbeats 400000 in
theorem gold_Neg (a : Int) (w : World) (ha0 : 0 ≤ a) (ha : a < 18446744073709551616) :
    Calls Tryz.prog 208 #[.int .u64 a] w fun e w' => e = .returned (.int .u64 ((-a) % 18446744069414584321)) ∧ w = w' := by
  go_enter Tryz.func208, Tryz.ntmps208
  go_wp2_with fail
  refine (gold_Red a _ ha0 ha).mono ?_; rintro e w' ⟨rfl, rfl⟩
  go_wp2_with fail
  all_goals
    go_ret
    refine ⟨ret_int ?_, rfl⟩
    try simp only [bne_iff_ne, bne_eq_false_iff_eq] at *
    omega
set_option maxHeartbeats 400000 in
theorem gold_Sub (a b : Int) (w : World) (ha0 : 0 ≤ a) (ha : a < 18446744073709551616) (hb0 : 0 ≤ b) (hb : b < 18446744073709551616) :
    Calls Tryz.prog 201 #[.int .u64 a, .int .u64 b] w fun e w' => e = .returned (.int .u64 ((a - b) % 18446744069414584321)) ∧ w = w' := by
  go_enter Tryz.func201, Tryz.ntmps201
  go_wp2_with fail
  refine (gold_Neg b _ hb0 hb).mono ?_; rintro e w' ⟨rfl, rfl⟩
  go_wp2_with fail
  refine (gold_Add a _ _ ha0 ha (by omega) (by omega)).mono ?_; rintro e w' ⟨rfl, rfl⟩
  go_wp2_with fail
  go_ret
  exact ⟨ret_int (by omega), rfl⟩
theorem add64_lt (x y : Int) (hx0 : 0 ≤ x) (hy0 : 0 ≤ y) (h : x + y < 18446744073709551616) (w : World) :
    (callFunc 77 #[.int .u64 x, .int .u64 y, .int .u64 0]).run Tryz.prog w = .ok (.value (.tuple #[.int .u64 (x + y), .int .u64 0])) w := by
  rw [add64 x y hx0 (by omega) hy0 (by omega) w, Int.emod_eq_of_lt (by omega) h, Int.ediv_eq_zero_of_lt (by omega) h]
theorem add64_ge (x y : Int) (hx0 : 0 ≤ x) (hx : x < 18446744073709551616) (hy0 : 0 ≤ y) (hy : y < 18446744073709551616) (h : 18446744073709551616 ≤ x + y) (w : World) :
    (callFunc 77 #[.int .u64 x, .int .u64 y, .int .u64 0]).run Tryz.prog w = .ok (.value (.tuple #[.int .u64 (x + y - 18446744073709551616), .int .u64 1])) w := by
  rw [add64 x y hx0 hx hy0 hy w, show (x + y) % 18446744073709551616 = x + y - 18446744073709551616 from by omega, show (x + y) / 18446744073709551616 = 1 from by omega]
theorem sub64_ge (x y : Int) (hx : x < 18446744073709551616) (hy0 : 0 ≤ y) (h : y ≤ x) (w : World) :
    (callFunc 105 #[.int .u64 x, .int .u64 y, .int .u64 0]).run Tryz.prog w = .ok (.value (.tuple #[.int .u64 (x - y), .int .u64 0])) w := by
  rw [sub64 x y (by omega) hx hy0 (by omega) w, show (x - y) % 18446744073709551616 = x - y from by omega, if_neg (by omega)]
theorem sub64_lt (x y : Int) (hx0 : 0 ≤ x) (hy : y < 18446744073709551616) (h : x < y) (w : World) :
    (callFunc 105 #[.int .u64 x, .int .u64 y, .int .u64 0]).run Tryz.prog w = .ok (.value (.tuple #[.int .u64 (x - y + 18446744073709551616), .int .u64 1])) w := by
  rw [sub64 x y hx0 (by omega) (by omega) hy w, show (x - y) % 18446744073709551616 = x - y + 18446744073709551616 from by omega, if_pos h]
set_option maxHeartbeats 800000 in
theorem gold_fold (hi lo : Int) (w : World) (ha0 : 0 ≤ hi) (ha : hi < 18446744073709551616) (hb0 : 0 ≤ lo) (hb : lo < 18446744073709551616) :
    Calls Tryz.prog 79 #[.int .u64 hi, .int .u64 lo] w fun e w' => e = .returned (.int .u64 ((hi * 18446744073709551616 + lo) % 18446744069414584321)) ∧ w = w' := by
  have m1 := and_low32 hi ha0 ha
  by_cases h1 : lo < hi / 4294967296
  · have e1 := sub64_lt lo (hi / 4294967296) hb0 (by omega) h1 w
    by_cases h2 : lo - hi / 4294967296 + 18446744073709551616 - 4294967295 + hi % 4294967296 * 4294967295 < 18446744073709551616
    · have e2 := add64_lt (lo - hi / 4294967296 + 18446744073709551616 - 4294967295) (hi % 4294967296 * 4294967295) (by omega) (by omega) h2 w
      go_enter Tryz.func79, Tryz.ntmps79
      go_wp2_with fail
      refine (gold_Red _ _ (by omega) (by omega)).mono ?_; rintro e w' ⟨rfl, rfl⟩
      go_wp2_with fail
      go_ret
      exact ⟨ret_int (by omega), rfl⟩
    · have e2 := add64_ge (lo - hi / 4294967296 + 18446744073709551616 - 4294967295) (hi % 4294967296 * 4294967295) (by omega) (by omega) (by omega) (by omega) (by omega) w
      go_enter Tryz.func79, Tryz.ntmps79
      go_wp2_with fail
      refine (gold_Red _ _ (by omega) (by omega)).mono ?_; rintro e w' ⟨rfl, rfl⟩
      go_wp2_with fail
      go_ret
      exact ⟨ret_int (by omega), rfl⟩
  · have e1 := sub64_ge lo (hi / 4294967296) hb (by omega) (by omega) w
    by_cases h2 : lo - hi / 4294967296 + hi % 4294967296 * 4294967295 < 18446744073709551616
    · have e2 := add64_lt (lo - hi / 4294967296) (hi % 4294967296 * 4294967295) (by omega) (by omega) h2 w
      go_enter Tryz.func79, Tryz.ntmps79
      go_wp2_with fail
      refine (gold_Red _ _ (by omega) (by omega)).mono ?_; rintro e w' ⟨rfl, rfl⟩
      go_wp2_with fail
      go_ret
      exact ⟨ret_int (by omega), rfl⟩
    · have e2 := add64_ge (lo - hi / 4294967296) (hi % 4294967296 * 4294967295) (by omega) (by omega) (by omega) (by omega) (by omega) w
      go_enter Tryz.func79, Tryz.ntmps79
      go_wp2_with fail
      refine (gold_Red _ _ (by omega) (by omega)).mono ?_; rintro e w' ⟨rfl, rfl⟩
      go_wp2_with fail
      go_ret
      exact ⟨ret_int (by omega), rfl⟩
end Go.Proofs.YtlnlijeamflpiaaGreat

namespace Go.Proofs.YtlnlijeamflpiaaGreat.Fld
/-- The prime. -/
def pn : Nat := 18446744069414584321
theorem pn_pos : 0 < pn := by decide
theorem pow_add_mod (a m n p : Nat) : a ^ (m + n) % p = (a ^ m % p) * (a ^ n % p) % p := by
  rw [Nat.pow_add, Nat.mul_mod]
theorem pow_mul_one (a b q p : Nat) (hp : 1 < p) (h : a ^ b % p = 1) : a ^ (b * q) % p = 1 := by
  rw [Nat.pow_mul, Nat.pow_mod, h]
  simp [Nat.mod_eq_of_lt hp]
theorem pow_mod_one (a m b p : Nat) (hp : 1 < p) (hb : a ^ b % p = 1) : a ^ (m % b) % p = a ^ m % p := by
  have e : m = b * (m / b) + m % b := (Nat.div_add_mod m b).symm
  have h : a ^ m % p = (a ^ (b * (m / b)) % p) * (a ^ (m % b) % p) % p := by
    rw [← pow_add_mod, ← e]
  rw [h, pow_mul_one a b _ p hp hb, Nat.one_mul, Nat.mod_mod]
theorem pow_gcd_one (a p : Nat) (hp : 1 < p) (m n : Nat) : a ^ m % p = 1 → a ^ n % p = 1 → a ^ (Nat.gcd m n) % p = 1 := by
  induction m, n using Nat.gcd.induction with
  | H0 n => intro _ h; simpa using h
  | H1 m n hm ih =>
    intro h1 h2
    rw [Nat.gcd_rec]
    exact ih (by rw [pow_mod_one a n m p hp h1]; exact h2) h1
/-- A power modulo p, by squares. -/
def pm (p : Nat) : Nat → Nat → Nat → Nat
  | 0, _, _ => 1 % p
  | f + 1, a, n => if n % 2 = 1 then (a * pm p f (a * a % p) (n / 2)) % p else pm p f (a * a % p) (n / 2)
theorem pm_eq (p : Nat) (f : Nat) : ∀ a n, n < 2 ^ f → pm p f a n = a ^ n % p := by
  induction f with
  | zero => intro a n h; have : n = 0 := by simpa using h
            subst this; simp [pm]
  | succ f ih =>
    intro a n h
    have h2 : n / 2 < 2 ^ f := by rw [Nat.pow_succ] at h; omega
    have e : (a * a % p) ^ (n / 2) % p = a ^ (2 * (n / 2)) % p := by
      rw [← Nat.pow_mod, Nat.pow_mul, Nat.pow_two]
    simp only [pm, ih _ _ h2, e]
    split
    · rename_i h1
      have e2 : n = 2 * (n / 2) + 1 := by omega
      rw [Nat.mul_mod_mod, ← Nat.pow_succ', Nat.succ_eq_add_one, ← e2]
    · rename_i h1
      have e2 : n = 2 * (n / 2) := by omega
      rw [← e2]
theorem dvd_small (q : Nat) (hq : q = 2 ∨ q = 3 ∨ q = 5 ∨ q = 17 ∨ q = 257 ∨ q = 65537) (m : Nat) : q ∣ m ∨ Nat.gcd m q = 1 := by
  have hd : Nat.gcd m q ∣ q := Nat.gcd_dvd_right m q
  have key : ∀ d, d ∣ q → d = 1 ∨ d = q := by
    intro d ⟨e, he⟩
    have hall : ∀ q ∈ [2, 3, 5, 17, 257, 65537], ∀ d ∈ List.range 257, d ≤ 1 ∨ d = q ∨ q % d ≠ 0 := by decide +kernel
    have hq' : q ∈ [2, 3, 5, 17, 257, 65537] := by simp; exact hq
    have hpos : 0 < q := by rcases hq with h | h | h | h | h | h <;> omega
    have d0 : d ≠ 0 := by rintro rfl; simp at he; omega
    have e0 : e ≠ 0 := by rintro rfl; simp at he; omega
    by_cases hd : d ≤ 256
    · rcases hall q hq' d (by simp; omega) with h | h | h
      · left; omega
      · right; exact h
      · exfalso; apply h; rw [he]; simp
    · by_cases he' : e ≤ 256
      · rcases hall q hq' e (by simp; omega) with h | h | h
        · have : e = 1 := by omega
          subst this; right; omega
        · have h3 : q * d = q * 1 := by rw [Nat.mul_comm q d, ← h, ← he]; omega
          have := Nat.eq_of_mul_eq_mul_left hpos h3
          left; exact this
        · exfalso; apply h; rw [he]; simp
      · exfalso
        have : 257 * 257 ≤ d * e := Nat.mul_le_mul (by omega) (by omega)
        rcases hq with h | h | h | h | h | h <;> omega
  rcases key _ hd with h | h
  · exact Or.inr h
  · exact Or.inl (h ▸ Nat.gcd_dvd_left m q)
theorem split_off (m a b : Nat) (h : m ∣ a * b) (hc : Nat.gcd m a = 1) : m ∣ b :=
  Nat.Coprime.dvd_of_dvd_mul_left (k := m) (m := a) (n := b) hc h
theorem gcd_pow_one (m a n : Nat) (h : Nat.gcd m a = 1) : Nat.gcd m (a ^ n) = 1 :=
  Nat.Coprime.pow_right n h
theorem seven (k : Nat) (h : 7 ^ k % pn = 1) : pn - 1 ∣ k := by
  have hp : 1 < pn := by decide
  have h1 : 7 ^ (pn - 1) % pn = 1 := by rw [← pm_eq pn 64 7 _ (by decide)]; decide +kernel
  have hg := pow_gcd_one 7 pn hp k (pn - 1) h h1
  obtain ⟨m, hm⟩ := Nat.gcd_dvd_right k (pn - 1)
  have hmd : m ∣ pn - 1 := ⟨Nat.gcd k (pn - 1), by rw [Nat.mul_comm]; exact hm⟩
  have no : ∀ q, (q = 2 ∨ q = 3 ∨ q = 5 ∨ q = 17 ∨ q = 257 ∨ q = 65537) → Nat.gcd m q = 1 := by
    intro q hq
    rcases dvd_small q hq m with ⟨c, hc⟩ | h'
    · exfalso
      have hq0 : 0 < q := by omega
      have e1 : (pn - 1) / q = Nat.gcd k (pn - 1) * c := by
        have : pn - 1 = q * (Nat.gcd k (pn - 1) * c) := by rw [← Nat.mul_assoc, Nat.mul_comm q, Nat.mul_assoc, ← hc]; exact hm
        rw [this, Nat.mul_div_cancel_left _ hq0, ← this]
      have e2 : 7 ^ ((pn - 1) / q) % pn = 1 := by rw [e1]; exact pow_mul_one _ _ _ _ hp hg
      rw [← pm_eq pn 64 7 _ (Nat.lt_of_le_of_lt (Nat.div_le_self _ _) (by decide))] at e2
      revert e2
      rcases hq with h | h | h | h | h | h <;> subst h <;> decide +kernel
    · exact h'
  have f : pn - 1 = 2 ^ 32 * (3 * (5 * (17 * (257 * (65537 * 1))))) := by decide +kernel
  rw [f] at hmd
  have m1 := split_off _ _ _ hmd (gcd_pow_one _ _ _ (no 2 (by simp)))
  have m2 := split_off _ _ _ m1 (no 3 (by simp))
  have m3 := split_off _ _ _ m2 (no 5 (by simp))
  have m4 := split_off _ _ _ m3 (no 17 (by simp))
  have m5 := split_off _ _ _ m4 (no 257 (by simp))
  have m6 := split_off _ _ _ m5 (no 65537 (by simp))
  have : m = 1 := Nat.dvd_one.1 m6
  rw [this, Nat.mul_one] at hm
  rw [hm]
  exact Nat.gcd_dvd_left k (pn - 1)
/-- Pigeons: what takes n places to n places, no two to one, meets each. -/
theorem onto (n : Nat) : ∀ f : Nat → Nat, (∀ i, i < n → f i < n) → (∀ i j, i < j → j < n → f i ≠ f j) → ∀ b, b < n → ∃ i, i < n ∧ f i = b := by
  induction n with
  | zero => intro f _ _ b hb; omega
  | succ n ih =>
    intro f hf hi b hb
    by_cases hlast : f n = b
    · exact ⟨n, by omega, hlast⟩
    · -- strike f n out of the places
      let t : Nat := f n
      let g : Nat → Nat := fun i => if f i < t then f i else f i - 1
      have ht : t < n + 1 := hf n (by omega)
      have hg : ∀ i, i < n → g i < n := by
        intro i hi'
        have h1 := hf i (by omega)
        have h2 := hi i n hi' (by omega)
        show (if f i < t then f i else f i - 1) < n
        have h3 : f i ≠ t := h2
        split <;> omega
      have hinj : ∀ i j, i < j → j < n → g i ≠ g j := by
        intro i j hij hj
        have h1 := hi i j hij (by omega)
        have h2 : f i ≠ t := hi i n (by omega) (by omega)
        have h3 : f j ≠ t := hi j n (by omega) (by omega)
        show (if f i < t then f i else f i - 1) ≠ (if f j < t then f j else f j - 1)
        split <;> split <;> omega
      have hbt : b ≠ t := fun e => hlast e.symm
      obtain ⟨i, hi1, hi2⟩ := ih g hg hinj (if b < t then b else b - 1) (by split <;> omega)
      refine ⟨i, by omega, ?_⟩
      have h2 : f i ≠ t := hi i n (by omega) (by omega)
      have h3 : (if f i < t then f i else f i - 1) = (if b < t then b else b - 1) := hi2
      revert h3
      split <;> split <;> omega
theorem seven_pow_ne_zero (k : Nat) : 7 ^ k % pn ≠ 0 := by
  have hp : 1 < pn := by decide
  have h1 : 7 ^ (pn - 1) % pn = 1 := by rw [← pm_eq pn 64 7 _ (by decide)]; decide +kernel
  intro h
  have h2 : 7 ^ ((pn - 1) * k) % pn = 1 := pow_mul_one _ _ _ _ hp h1
  have e : (pn - 1) * k = k + (pn - 2) * k := by
    have : pn - 1 = 1 + (pn - 2) := by decide
    rw [this, Nat.add_mul, Nat.one_mul]
  rw [e, pow_add_mod, h] at h2
  simp at h2
/-- Each number that P does not divide is a power of 7. -/
theorem power (a : Nat) (h : a % pn ≠ 0) : ∃ i, 7 ^ i % pn = a % pn := by
  have hp : 1 < pn := by decide
  have key := onto (pn - 1) (fun i => 7 ^ i % pn - 1) (fun i _ => by
      have := Nat.mod_lt (7 ^ i) pn_pos
      have := seven_pow_ne_zero i
      show 7 ^ i % pn - 1 < pn - 1
      omega) (fun i j hij hj => by
      show 7 ^ i % pn - 1 ≠ 7 ^ j % pn - 1
      have h1 := seven_pow_ne_zero i
      have h2 := seven_pow_ne_zero j
      intro e
      have e' : 7 ^ i % pn = 7 ^ j % pn := by omega
      -- 7 ^ (j - i) leaves 1
      have hone : 7 ^ (pn - 1) % pn = 1 := by rw [← pm_eq pn 64 7 _ (by decide)]; decide +kernel
      have c : 7 ^ (j - i) % pn = 1 := by
        have hA : 7 ^ ((pn - 1) * i - i + j) % pn = 7 ^ ((pn - 1) * i - i + i) % pn := by
          rw [pow_add_mod, ← e', ← pow_add_mod]
        have hle : i ≤ (pn - 1) * i := Nat.le_mul_of_pos_left i (by decide)
        have e1 : (pn - 1) * i - i + i = (pn - 1) * i := by omega
        have e2 : (pn - 1) * i - i + j = (pn - 1) * i + (j - i) := by omega
        rw [e1, e2, pow_add_mod, pow_mul_one _ _ _ _ hp hone, Nat.one_mul, Nat.mod_mod] at hA
        exact hA
      have hd := seven (j - i) c
      have := Nat.le_of_dvd (by omega) hd
      omega) (a % pn - 1) (by have := Nat.mod_lt a pn_pos; omega)
  obtain ⟨i, _, hi⟩ := key
  refine ⟨i, ?_⟩
  have := seven_pow_ne_zero i
  have hi' : 7 ^ i % pn - 1 = a % pn - 1 := hi
  omega
/-- Fermat's theorem at P. -/
theorem fermat (a : Nat) (h : a % pn ≠ 0) : a ^ (pn - 1) % pn = 1 := by
  have hp : 1 < pn := by decide
  have hone : 7 ^ (pn - 1) % pn = 1 := by rw [← pm_eq pn 64 7 _ (by decide)]; decide +kernel
  obtain ⟨i, hi⟩ := power a h
  rw [Nat.pow_mod, ← hi, ← Nat.pow_mod, ← Nat.pow_mul, Nat.mul_comm]
  exact pow_mul_one _ _ _ _ hp hone
end Go.Proofs.YtlnlijeamflpiaaGreat.Fld

namespace Go.Proofs.YtlnlijeamflpiaaGreat
open Go.RowKit
set_option linter.unusedVariables false
set_option linter.unusedSimpArgs false
set_option maxRecDepth 100000
set_option maxHeartbeats 1000000 in
theorem bits_Mul64 (x y : Nat) (hx : x < 18446744073709551616) (hy : y < 18446744073709551616) (w : World) :
    Calls Tryz.prog 78 #[.int .u64 x, .int .u64 y] w fun e w' => e = .returned (.tuple #[.int .u64 ((x * y / 18446744073709551616 : Nat) : Int), .int .u64 ((x * y % 18446744073709551616 : Nat) : Int)]) ∧ w = w' := by
  obtain ⟨bd, bt, bw, hhi⟩ := Lib.mul64_hi x y hx hy
  have ba := Lib.half_mul_le (a := x / 4294967296) (b := y / 4294967296) (by omega) (by omega)
  have bb := Lib.half_mul_le (a := x / 4294967296) (b := y % 4294967296) (by omega) (by omega)
  have bc := Lib.half_mul_le (a := x % 4294967296) (b := y / 4294967296) (by omega) (by omega)
  have ba' : x / 4294967296 * (y / 4294967296) < 18446744073709551616 := by omega
  have bb' : x / 4294967296 * (y % 4294967296) < 18446744073709551616 := by omega
  have bc' : x % 4294967296 * (y / 4294967296) < 18446744073709551616 := by omega
  have bh1 : x / 4294967296 * (y / 4294967296) + (x / 4294967296 * (y % 4294967296) + x % 4294967296 * (y % 4294967296) / 4294967296) / 4294967296 < 18446744073709551616 := by omega
  have bh : x / 4294967296 * (y / 4294967296) + (x / 4294967296 * (y % 4294967296) + x % 4294967296 * (y % 4294967296) / 4294967296) / 4294967296 + ((x / 4294967296 * (y % 4294967296) + x % 4294967296 * (y % 4294967296) / 4294967296) % 4294967296 + x % 4294967296 * (y / 4294967296)) / 4294967296 < 18446744073709551616 := by omega
  go_enter Tryz.func78, Tryz.ntmps78
  go_wp2
  simp only [Go.Proofs.Mul64.maskN x hx, Go.Proofs.Mul64.maskN y hy, Go.Proofs.Mul64.divN, Go.Proofs.Mul64.mulN, Go.Proofs.Mul64.addN, Go.Proofs.Mul64.wrapN _ bd, Go.Proofs.Mul64.wrapN _ bb', Go.Proofs.Mul64.wrapN _ bt, Go.Proofs.Mul64.maskN _ bt, Go.Proofs.Mul64.wrapN _ bc', Go.Proofs.Mul64.wrapN _ bw, Go.Proofs.Mul64.wrapN _ ba', Go.Proofs.Mul64.wrapN _ bh1, Go.Proofs.Mul64.wrapN _ bh, Go.Proofs.Mul64.wrapM (x * y)]
  rw [hhi]
  go_ret2
  exact ⟨rfl, rfl⟩
theorem mul64_any (x y : Int) (w : World) (hx0 : 0 ≤ x) (hx : x < 18446744073709551616) (hy0 : 0 ≤ y) (hy : y < 18446744073709551616) :
    Calls Tryz.prog 78 #[.int .u64 x, .int .u64 y] w fun e w' => e = .returned (.tuple #[.int .u64 (x * y / 18446744073709551616), .int .u64 (x * y % 18446744073709551616)]) ∧ w = w' := by
  obtain ⟨a, rfl⟩ := Int.eq_ofNat_of_zero_le hx0
  obtain ⟨b, rfl⟩ := Int.eq_ofNat_of_zero_le hy0
  refine (bits_Mul64 a b (by omega) (by omega) w).mono fun e w' ⟨he, hw⟩ => ⟨?_, hw⟩
  rw [he]
  simp only [Int.natCast_ediv, Int.natCast_emod, Int.natCast_mul]
  rfl
theorem mul_lt (x y : Int) (hx0 : 0 ≤ x) (hx : x < 18446744073709551616) (hy0 : 0 ≤ y) (hy : y < 18446744073709551616) : 0 ≤ x * y ∧ x * y < 18446744073709551616 * 18446744073709551616 :=
  ⟨Int.mul_nonneg hx0 hy0, Int.lt_of_le_of_lt (Int.mul_le_mul_of_nonneg_right (by omega : x ≤ 18446744073709551616) hy0) (Int.mul_lt_mul_of_pos_left hy (by omega))⟩
set_option maxHeartbeats 400000 in
theorem gold_Mul (a b : Int) (w : World) (ha0 : 0 ≤ a) (ha : a < 18446744073709551616) (hb0 : 0 ≤ b) (hb : b < 18446744073709551616) :
    Calls Tryz.prog 46 #[.int .u64 a, .int .u64 b] w fun e w' => e = .returned (.int .u64 (a * b % 18446744069414584321)) ∧ w = w' := by
  obtain ⟨m0, m1⟩ := mul_lt a b ha0 ha hb0 hb
  go_enter Tryz.func46, Tryz.ntmps46
  go_wp2_with fail
  refine (mul64_any a b _ ha0 ha hb0 hb).mono ?_; rintro e w' ⟨rfl, rfl⟩
  go_wp2_with fail
  refine (gold_fold _ _ _ (by omega) (by omega) (by omega) (by omega)).mono ?_; rintro e w' ⟨rfl, rfl⟩
  go_wp2_with fail
  go_ret
  exact ⟨ret_int (by omega), rfl⟩
set_option maxHeartbeats 400000 in
theorem gold_Half (a : Int) (w : World) (ha0 : 0 ≤ a) (ha : a < 18446744073709551616) :
    Calls Tryz.prog 212 #[.int .u64 a] w fun e w' => e = .returned (.int .u64 (a * 9223372034707292161 % 18446744069414584321)) ∧ w = w' := by
  go_enter Tryz.func212, Tryz.ntmps212
  go_wp2_with fail
  refine (gold_Red a _ ha0 ha).mono ?_; rintro e w' ⟨rfl, rfl⟩
  have hm := and_one_u64 (a % 18446744069414584321) (by omega) (by omega)
  go_wp2_with fail
  all_goals
    go_ret
    refine ⟨ret_int ?_, rfl⟩
    simp only [beq_iff_eq, beq_eq_false_iff_ne] at *
    omega
/-- A power, modulo P. (Irreducible: else a tactic that brings terms to head form would reckon it.) -/
@[irreducible] def pw (a : Int) (n : Nat) : Int := a ^ n % 18446744069414584321
theorem pw_range (a : Int) (n : Nat) : 0 ≤ pw a n ∧ pw a n < 18446744069414584321 := by
  unfold pw; omega
theorem modmul_l (a b p : Int) : (a % p) * b % p = a * b % p := by rw [Int.mul_emod, Int.emod_emod, ← Int.mul_emod]
theorem modmul_r (a b p : Int) : a * (b % p) % p = a * b % p := by rw [Int.mul_emod, Int.emod_emod, ← Int.mul_emod]
theorem modpow (a p : Int) (n : Nat) : (a % p) ^ n % p = a ^ n % p := by
  induction n with
  | zero => simp
  | succ n ih => rw [Int.pow_succ, Int.pow_succ, modmul_r, ← modmul_l, ih, modmul_l]
theorem pow_step0 (p a : Int) (m : Nat) (h : m % 2 = 0) : p * (a * a % 18446744069414584321) ^ (m / 2) % 18446744069414584321 = p * a ^ m % 18446744069414584321 := by
  have e : a ^ m = (a * a) ^ (m / 2) := by
    rw [show a * a = a ^ 2 from by rw [Int.pow_succ, Int.pow_succ, Int.pow_zero, Int.one_mul], ← Int.pow_mul, show 2 * (m / 2) = m from by omega]
  rw [e, ← modmul_r, modpow, modmul_r]
theorem pow_step1 (p a : Int) (m : Nat) (h : m % 2 = 1) : (p * a % 18446744069414584321) * (a * a % 18446744069414584321) ^ (m / 2) % 18446744069414584321 = p * a ^ m % 18446744069414584321 := by
  have h2 := pow_step0 (p * a % 18446744069414584321) a (m - 1) (by omega)
  rw [show (m - 1) / 2 = m / 2 from by omega] at h2
  rw [h2, modmul_l]
  rw [Int.mul_assoc, ← Int.pow_succ', show m - 1 + 1 = m from by omega]
set_option maxHeartbeats 400000 in
theorem gold_Pow (a n : Int) (w : World) (ha0 : 0 ≤ a) (ha : a < 18446744073709551616) (hn0 : 0 ≤ n) (hn : n < 18446744073709551616) :
    Calls Tryz.prog 128 #[.int .u64 a, .int .u64 n] w fun e w' => e = .returned (.int .u64 (pw a n.toNat)) ∧ w = w' := by
  go_enter Tryz.func128, Tryz.ntmps128
  go_wp2_with fail
  refine (gold_Red a _ ha0 ha).mono ?_; rintro e w' ⟨rfl, rfl⟩
  go_wp2_with fail
  go_loop [5, 0, 1] (fun v5 v0 v1 => ∃ p b m : Int, v5 = .int .u64 p ∧ v0 = .int .u64 b ∧ v1 = .int .u64 m ∧ 0 ≤ p ∧ p < 18446744069414584321 ∧ 0 ≤ b ∧ b < 18446744069414584321 ∧ 0 ≤ m ∧ m < 18446744073709551616 ∧ Hid (p * b ^ m.toNat % 18446744069414584321 = pw a n.toNat)) (fun v5 v0 v1 => (intOf v1).toNat)
  case atStart =>
    refine ⟨1, a % 18446744069414584321, n, rfl, rfl, rfl, by omega, by omega, by omega, by omega, hn0, hn, ?_⟩
    unfold Hid pw
    rw [Int.one_mul, modpow]
  case round =>
    obtain ⟨p, b, m, rfl, rfl, rfl, hp0, hp, hb0, hb, hm0, hm, H⟩ := hrel
    by_cases h0 : 0 < m
    · have ha := and_one_u64 m (by omega) (by omega)
      have hs : IntKind.u64.wrap (m / 2) = m / 2 := by rw [IntKind.wrap_u64]; omega
      by_cases h1 : m % 2 = 1
      · have hb1 : (m % 2 == 1) = true := by rw [beq_iff_eq]; exact h1
        have H1 := Lib.hid h1; clear h1
        go_wp2_with fail
        refine (gold_Mul p b _ (by omega) (by omega) (by omega) (by omega)).mono ?_; rintro e w' ⟨rfl, rfl⟩
        go_wp2_with fail
        refine (gold_Mul b b _ (by omega) (by omega) (by omega) (by omega)).mono ?_; rintro e w' ⟨rfl, rfl⟩
        go_wp2_with fail
        go_round
        case rel =>
          refine ⟨p * b % 18446744069414584321, b * b % 18446744069414584321, m / 2, rfl, rfl, rfl, by omega, by omega, by omega, by omega, by omega, by omega, ?_⟩
          unfold Hid
          have e1 : (m / 2).toNat = m.toNat / 2 := by omega
          have h1 := H1.out
          rw [e1, pow_step1 _ _ _ (by omega)]; exact H.out
        case measure => simp [intOf]; omega
      · have hb1 : (m % 2 == 1) = false := by rw [beq_eq_false_iff_ne]; exact h1
        have H1 := Lib.hid h1; clear h1
        go_wp2_with fail
        refine (gold_Mul b b _ (by omega) (by omega) (by omega) (by omega)).mono ?_; rintro e w' ⟨rfl, rfl⟩
        go_wp2_with fail
        go_round
        case rel =>
          refine ⟨p, b * b % 18446744069414584321, m / 2, rfl, rfl, rfl, by omega, by omega, by omega, by omega, by omega, by omega, ?_⟩
          unfold Hid
          have e1 : (m / 2).toNat = m.toNat / 2 := by omega
          have h1 := H1.out
          rw [e1, pow_step0 _ _ _ (by omega)]; exact H.out
        case measure => simp [intOf]; omega
    · go_wp2_with fail
      go_ret
      refine ⟨ret_int ?_, rfl⟩
      have h := H.out
      rw [show m.toNat = 0 from by omega, Int.pow_zero, Int.mul_one] at h
      omega
theorem gold_Inv (a : Int) (w : World) (ha0 : 0 ≤ a) (ha : a < 18446744073709551616) :
    Calls Tryz.prog 104 #[.int .u64 a] w fun e w' => e = .returned (.int .u64 (pw a 18446744069414584319)) ∧ w = w' := by
  go_enter Tryz.func104, Tryz.ntmps104
  go_wp2_with fail
  refine (gold_Pow a _ _ ha0 ha (by omega) (by omega)).mono ?_; rintro e w' ⟨rfl, rfl⟩
  go_wp2_with fail
  go_ret
  exact ⟨rfl, rfl⟩
/-- The sum of all, modulo P. -/
def sumP (xs : List Int) : Int := xs.foldl (fun s x => (s + x) % 18446744069414584321) 0
theorem sumP_snoc (xs : List Int) (x : Int) : sumP (xs ++ [x]) = (sumP xs + x) % 18446744069414584321 := by
  simp [sumP, List.foldl_append]
theorem sumP_range (xs : List Int) : 0 ≤ sumP xs ∧ sumP xs < 18446744069414584321 := by
  rcases List.eq_nil_or_concat xs with rfl | ⟨l, b, rfl⟩
  · simp [sumP]
  · rw [List.concat_eq_append, sumP_snoc]; omega
set_option maxHeartbeats 400000 in
theorem gold_Sum (a : Option Addr) (cap : Nat) (xs : List Int) (w : World) (hx : Row .u64 w a xs) :
    Calls Tryz.prog 189 #[.slice a xs.length cap] w fun e w' => e = .returned (.int .u64 (sumP xs)) ∧ w = w' := by
  have hlen := hx.len
  have HX : Hid (Row .u64 w a xs) := hx
  clear hx
  go_enter Tryz.func189, Tryz.ntmps189
  go_wp2_with fail
  go_loop [3, 8] (fun s i => ∃ k : Nat, k ≤ xs.length ∧ i = .int .i64 k ∧ s = .int .u64 (sumP (xs.take k))) (fun _ i => xs.length - (intOf i).toNat)
  case atStart => exact ⟨0, Nat.zero_le _, rfl, rfl⟩
  case round =>
    obtain ⟨k, hk, rfl, rfl⟩ := hrel
    have hs := sumP_range (xs.take k)
    by_cases hlt : k < xs.length
    · obtain ⟨b, off, rfl, hc⟩ := HX.out.at (by omega)
      have hck := hc k hlt
      have hf := fits_u64.1 (HX.out.wf _ (nth_mem hlt))
      clear hc
      go_wp2_with fail
      refine (gold_Add _ _ _ (by omega) (by omega) (by omega) (by omega)).mono ?_; rintro e w' ⟨rfl, rfl⟩
      go_wp2_with fail
      go_round
      case rel => exact ⟨k + 1, by omega, by go_num, by rw [take_succ_nth hlt, sumP_snoc]⟩
      case measure => simp [intOf]; omega
    · go_wp2_with fail
      go_ret
      exact ⟨ret_int (by rw [List.take_of_length_le (by omega)]), rfl⟩
end Go.Proofs.YtlnlijeamflpiaaGreat

namespace Go.Proofs.YtlnlijeamflpiaaGreat
open Go.RowKit
set_option linter.unusedVariables false
set_option linter.unusedSimpArgs false
set_option maxRecDepth 100000
theorem fermat_int (n e p : Nat) (q : Int) (hq : (p : Int) = q) (h : n ^ e % p = 1) : (n : Int) ^ e % q = 1 := by
  have h3 : ((n ^ e % p : Nat) : Int) = 1 := by rw [h]; rfl
  rw [Int.natCast_emod, Int.natCast_pow, hq] at h3
  exact h3
theorem pn_sub : Fld.pn - 1 = 18446744069414584320 := rfl
/-- Fermat's theorem over the integers. -/
theorem fermatZ (a : Int) (h0 : 0 ≤ a) (h : a % 18446744069414584321 ≠ 0) : pw a 18446744069414584320 = 1 := by
  obtain ⟨n, rfl⟩ := Int.eq_ofNat_of_zero_le h0
  have h1 : n % Fld.pn ≠ 0 := by
    unfold Fld.pn; omega
  have h2 := Fld.fermat n h1
  rw [pn_sub] at h2
  unfold pw
  exact fermat_int n _ Fld.pn _ rfl h2
theorem pw_inv (a : Int) (h0 : 0 ≤ a) (h : a % 18446744069414584321 ≠ 0) : a * pw a 18446744069414584319 % 18446744069414584321 = 1 := by
  have h1 := fermatZ a h0 h
  unfold pw at *
  rw [modmul_r, ← Int.pow_succ']
  exact h1
end Go.Proofs.YtlnlijeamflpiaaGreat

namespace Go.Proofs.YtlnlijeamflpiaaGreat
open Go.RowKit
set_option linter.unusedVariables false
set_option linter.unusedSimpArgs false
set_option maxRecDepth 100000
set_option maxHeartbeats 400000 in
theorem vec_each (n : Nat) (g : Nat → Int) (fid : Nat) (caps : Array Value) (w : World) (hn : n ≤ 16777216) (hg : ∀ i, i < n → fits .u64 (g i)) 
    (hent : ∀ args w, (callFunc fid args).run Tryz.prog w = .ok (.enter fid args) w)
    (hf : ∀ (i : Nat) (wr : World), i < n → Below w.heap.size w wr → Calls Tryz.prog fid (#[.int .i64 i] ++ caps) wr fun e w' => e = .returned (.int .u64 (g i)) ∧ Below wr.heap.size wr w') :
    Calls Tryz.prog 82 #[.int .i64 n, .func (.func fid) #[] caps] w (GivesRow .u64 ((List.range n).map g) w) := by
  obtain ⟨i0, hi, hz0, hz1, hz2⟩ := info_parts info_u64
  have HF := Lib.hid hf
  have HG := Lib.hid hg
  clear hf hg
  go_enter Tryz.func82, Tryz.ntmps82
  go_wp2_with (at_make; refine wpList_make_full _ rfl _ _ 22 rfl w.heap.size 23 i0 (.int .u64 0) 1 Tryz.underlying22 hi hz0 hz1 .i64 .i64 n n n rfl rfl rfl rfl (by rw [hz2]; omega) (by unfold maxLen; omega) (Nat.le_refl _) ?_)
  intro w1 hown0 hgrow0
  have hown := Own.made hown0 hgrow0
  clear hown0 hgrow0
  go_wp2_with fail
  go_loopw [11] (fun i wr => ∃ k : Nat, k ≤ n ∧ i = .int .i64 k ∧ OwnAt .u64 23 w wr w.heap.size n (fun j => if j < k then g j else 0)) (fun i _ => n - (intOf i).toNat)
  case atStart => exact ⟨0, Nat.zero_le _, rfl, by simpa using hown⟩
  case round =>
    obtain ⟨k, hk, rfl, hown⟩ := hrel
    by_cases hlt : k < n
    · have hcall := HF.out k wr hlt hown.below
      go_wp2_with fail
      refine hcall.mono ?_
      rintro e w' ⟨rfl, hb'⟩
      have hown2 := hown.later hb'
      have hc := hown2.cell k hlt
      rw [if_neg (Nat.lt_irrefl k)] at hc
      have hfz := hown2.free k
      have hnext := hown2.store k hlt (g k) (f' := fun j => if j < k + 1 then g j else 0) (by simp) (fun j _ hj => by
        by_cases h1 : j < k
        · simp [h1, show j < k + 1 by omega]
        · simp [h1, show ¬ j < k + 1 by omega])
      have HN := Lib.hid hnext
      clear hnext hcall hown hown2 hb'
      go_wp2_with fail
      go_roundw
      case rel => exact ⟨k + 1, by omega, by go_num, HN.out⟩
      case measure => simp [intOf]; omega
    · have hres := hown.gives (xs := (List.range n).map g) (by simp) (fun x hx => by obtain ⟨i, hi, rfl⟩ := List.mem_map.1 hx; exact HG.out i (by simpa using hi)) (fun i hi => by rw [nth_ofFn _ _ _ hi, if_pos (by omega)]) hn
      clear hown
      go_wp2_with fail
      go_ret
      exact hres
theorem modfits (f : Nat → Int) {n : Nat} : ∀ i, i < n → fits .u64 (f i % 18446744069414584321) := fun i _ => fits_u64.2 (by omega)
set_option maxHeartbeats 400000 in
theorem vec_Red1 (i : Nat) (a : Option Addr) (cap : Nat) (xs : List Int) (p : Nat) (w : World) (hi : i < xs.length) (hc : w.cell? ⟨p, 0, none⟩ = some (.slice a xs.length cap)) (hx : Row .u64 w a xs) :
    Calls Tryz.prog 83 #[.int .i64 i, .pointer (some ⟨p, 0, none⟩)] w fun e w' => e = .returned (.int .u64 (nth xs i % 18446744069414584321)) ∧ w = w' := by
  have hl := hx.len
  obtain ⟨b, off, rfl, hcs⟩ := hx.at (by omega)
  have hck := hcs i hi
  have hf := fits_u64.1 (hx.wf _ (nth_mem hi))
  clear hcs hx
  go_enter Tryz.func83, Tryz.ntmps83
  go_wp2_with (first | (go_at_call 76; refine (gold_Red _ _ (by omega) (by omega)).mono ?_; rintro e w' ⟨rfl, rfl⟩))
  go_ret
  exact ⟨rfl, rfl⟩
set_option maxHeartbeats 400000 in
theorem vec_Red (a : Option Addr) (cap : Nat) (xs : List Int) (w : World) (hx : Row .u64 w a xs) (hl : xs.length ≤ 16777216) :
    Calls Tryz.prog 49 #[.slice a xs.length cap] w (GivesRow .u64 (xs.map (· % 18446744069414584321)) w) := by
  have hent : ∀ args w, (callFunc 83 args).run Tryz.prog w = .ok (.enter 83 args) w := enters_of Tryz.func83 (by kernel_rfl) rfl
  have HX : Hid (Row .u64 w a xs) := hx
  clear hx
  have hc0 := one_new w (.slice a xs.length cap) 22
  have hf : ∀ (i : Nat) (wr : World), i < xs.length → Below (w.alloc (.cells #[.slice a xs.length cap] 22)).heap.size (w.alloc (.cells #[.slice a xs.length cap] 22)) wr →
      Calls Tryz.prog 83 (#[.int .i64 i] ++ #[.pointer (some ⟨w.heap.size, 0, none⟩)]) wr fun e w' => e = .returned (.int .u64 (nth xs i % 18446744069414584321)) ∧ Below wr.heap.size wr w' :=
    fun i wr hi hb => (vec_Red1 i a cap xs w.heap.size wr hi (by rw [hb.cell (by simp)]; exact hc0) ((HX.out.below ((Below.refl _ _).alloc (Nat.le_refl _) _)).below hb)).mono fun e w' ⟨he, hw⟩ => ⟨he, hw ▸ Below.refl _ _⟩
  have HF := Lib.hid hf
  clear hf
  go_enter Tryz.func49, Tryz.ntmps49
  go_wp2_with fail
  refine (vec_each xs.length (fun i => nth xs i % 18446744069414584321) _ _ _ hl (modfits _) hent (HF.out)).mono ?_
  rintro e w' ⟨a', cap', rfl, hr, hnil, hb⟩
  go_wp2_with fail
  go_ret
  exact ⟨a', cap', by simp, by rw [map_nth]; exact hr, by simpa using hnil, ((Below.refl _ _).alloc (Nat.le_refl _) _).trans (hb.mono (by simp))⟩
/-- gold.Red inside a region that draws. -/
theorem red_quiet (a : Int) (w : World) (n : Nat) (h0 : 0 ≤ a) (h1 : a < 18446744073709551616) :
    Calls Tryz.prog 76 #[.int .u64 a] (w.drewN n) fun e w' => e = .returned (.int .u64 (a % 18446744069414584321)) ∧ ∃ m, w' = w.drewN m :=
  Calls.quiet_of_same ((gold_Red a _ h0 h1).mono fun e w' ⟨x, y⟩ => ⟨x, y.symm⟩)
/-- Place i of a row of n, backwards. -/
def revAt (n i : Nat) : Nat := (n - i) % n
theorem revAt_lt {n i : Nat} (h : i < n) : revAt n i < n := Nat.mod_lt _ (by omega)
theorem revAt_int {n i : Nat} (h : i < n) : ((n : Int) - (i : Int)).tmod (n : Int) = (revAt n i : Nat) := by
  unfold revAt
  rw [Int.tmod_eq_emod_of_nonneg (by omega), Int.natCast_emod]
  congr 1
  omega
set_option maxHeartbeats 400000 in
theorem vec_Rev1 (i : Nat) (a : Option Addr) (cap : Nat) (xs : List Int) (p q : Nat) (w : World) (hi : i < xs.length) (hc : w.cell? ⟨p, 0, none⟩ = some (.slice a xs.length cap)) (hc2 : w.cell? ⟨q, 0, none⟩ = some (.int .i64 xs.length)) (hx : Row .u64 w a xs) :
    Calls Tryz.prog 127 #[.int .i64 i, .pointer (some ⟨p, 0, none⟩), .pointer (some ⟨q, 0, none⟩)] w fun e w' => e = .returned (.int .u64 (nth xs (revAt xs.length i) % 18446744069414584321)) ∧ Below w.heap.size w w' := by
  have hl := hx.len
  obtain ⟨b, off, rfl, hcs⟩ := hx.at (by omega)
  have hj := revAt_lt hi
  have hck := hcs _ hj
  have hf := fits_u64.1 (hx.wf _ (nth_mem hj))
  have e1 : IntKind.i64.wrap ((xs.length : Int) - (i : Int)) = (xs.length : Int) - (i : Int) := IntWalk.i64_in _ (by omega)
  have e2 := revAt_int hi
  generalize revAt xs.length i = j at *
  have j0 : (0 : Int) ≤ (j : Int) := by omega
  have j1 : (j : Int) < (xs.length : Int) := by omega
  have hn0 : ((xs.length : Int) == 0) = false := by simp; intro h; subst h; simp at hi
  clear hcs hx
  go_enter Tryz.func127, Tryz.ntmps127
  go_wp2_with fail
  go_quiet ((go_at_call 76; exact red_quiet _ _ _ (by omega) (by omega)))
  go_wp2_with fail
  go_ret
  exact ⟨rfl, below_drewN (Below.refl _ _) _⟩
end Go.Proofs.YtlnlijeamflpiaaGreat

namespace Go.Proofs.YtlnlijeamflpiaaGreat
open Go.RowKit
set_option linter.unusedVariables false
set_option linter.unusedSimpArgs false
set_option maxRecDepth 100000
def revL (xs : List Int) : List Int := (List.range xs.length).map fun i => nth xs (revAt xs.length i) % 18446744069414584321
theorem revL_len (xs : List Int) : (revL xs).length = xs.length := by simp [revL]
set_option maxHeartbeats 400000 in
theorem vec_Rev (a : Option Addr) (cap : Nat) (xs : List Int) (w : World) (hx : Row .u64 w a xs) (hl : xs.length ≤ 16777216) :
    Calls Tryz.prog 103 #[.slice a xs.length cap] w (GivesRow .u64 (revL xs) w) := by
  have hent : ∀ args w, (callFunc 127 args).run Tryz.prog w = .ok (.enter 127 args) w := enters_of Tryz.func127 (by kernel_rfl) rfl
  obtain ⟨W, hW⟩ : ∃ W : World, W = (w.alloc (.cells #[.slice a xs.length cap] 22)).alloc (.cells #[.int .i64 xs.length] 3) := ⟨_, rfl⟩
  have hWb : Below w.heap.size w W := hW ▸ ((Below.refl _ _).alloc (Nat.le_refl _) _).alloc (by simp) _
  have hc0 : W.cell? ⟨w.heap.size, 0, none⟩ = some (.slice a xs.length cap) := by subst hW; simp
  have hc1 : W.cell? ⟨w.heap.size + 1, 0, none⟩ = some (.int .i64 xs.length) := by subst hW; simp
  have hsz : w.heap.size + 2 = W.heap.size := by subst hW; simp
  have hf : ∀ (i : Nat) (wr : World), i < xs.length → Below W.heap.size W wr →
      Calls Tryz.prog 127 (#[.int .i64 i] ++ #[.pointer (some ⟨w.heap.size, 0, none⟩), .pointer (some ⟨w.heap.size + 1, 0, none⟩)]) wr fun e w' => e = .returned (.int .u64 (nth xs (revAt xs.length i) % 18446744069414584321)) ∧ Below wr.heap.size wr w' :=
    fun i wr hi hb => vec_Rev1 i a cap xs w.heap.size (w.heap.size + 1) wr hi (by rw [hb.cell (by show w.heap.size < W.heap.size; omega)]; exact hc0) (by rw [hb.cell (by show w.heap.size + 1 < W.heap.size; omega)]; exact hc1) ((hx.below hWb).below hb)
  have HF := Lib.hid hf
  have HW := Lib.hid hW
  have HB := Lib.hid hWb
  clear hf hx hWb hc0 hc1 hsz
  subst hW
  go_enter Tryz.func103, Tryz.ntmps103
  go_wp2_with fail
  refine (vec_each xs.length (fun i => nth xs (revAt xs.length i) % 18446744069414584321) _ _ _ hl (modfits _) hent HF.out).mono ?_
  rintro e w' ⟨a', cap', rfl, hr, hnil, hb⟩
  go_wp2_with fail
  go_ret
  exact ⟨a', cap', by simp [revL], hr, hnil, HB.out.trans (hb.mono HB.out.size)⟩
theorem vec_RevN (a : Option Addr) (n cap : Nat) (xs : List Int) (w : World) (hx : Row .u64 w a xs) (hn : xs.length = n) (hl : xs.length ≤ 16777216) :
    Calls Tryz.prog 103 #[.slice a n cap] w (GivesRow .u64 (revL xs) w) := by
  subst hn; exact vec_Rev a cap xs w hx hl
end Go.Proofs.YtlnlijeamflpiaaGreat

namespace Go.Proofs.YtlnlijeamflpiaaGreat
open Go.RowKit
set_option linter.unusedVariables false
set_option linter.unusedSimpArgs false
set_option maxRecDepth 100000
def zipL (op : Int → Int → Int) (xs ys : List Int) : List Int := (List.range xs.length).map fun i => op (nth xs i) (nth ys i) % 18446744069414584321
def mulL (xs ys : List Int) : List Int := zipL (fun x y => x * y) xs ys
theorem zipL_len (op : Int → Int → Int) (xs ys : List Int) : (zipL op xs ys).length = xs.length := by simp [zipL]
theorem modL_fits {l : List Nat} (f : Nat → Int) : ∀ x ∈ l.map (fun i => f i % 18446744069414584321), fits .u64 x := by
  intro x hx; obtain ⟨i, _, rfl⟩ := List.mem_map.1 hx; exact fits_u64.2 (by omega)
/-- What a function value answers of two numbers: op, modulo P. -/
def IsOp (fid : Nat) (op : Int → Int → Int) : Prop := ∀ (a b : Int) (w : World), 0 ≤ a → a < 18446744073709551616 → 0 ≤ b → b < 18446744073709551616 →
  Calls Tryz.prog fid #[.int .u64 a, .int .u64 b] w fun e w' => e = .returned (.int .u64 (op a b % 18446744069414584321)) ∧ w = w'
set_option maxHeartbeats 400000 in
theorem vec_both1 (fid : Nat) (op : Int → Int → Int) (hent : ∀ args w, (callFunc fid args).run Tryz.prog w = .ok (.enter fid args) w) (hop : IsOp fid op) (i : Nat) (a b : Option Addr) (ca cb : Nat) (xs ys : List Int) (p q r : Nat) (w : World) (hi : i < xs.length) (hi2 : i < ys.length)
    (hc : w.cell? ⟨p, 0, none⟩ = some (.func (.func fid) #[] #[])) (hc1 : w.cell? ⟨q, 0, none⟩ = some (.slice a xs.length ca)) (hc2 : w.cell? ⟨r, 0, none⟩ = some (.slice b ys.length cb)) (hx : Row .u64 w a xs) (hy : Row .u64 w b ys) :
    Calls Tryz.prog 125 #[.int .i64 i, .pointer (some ⟨p, 0, none⟩), .pointer (some ⟨q, 0, none⟩), .pointer (some ⟨r, 0, none⟩)] w fun e w' => e = .returned (.int .u64 (op (nth xs i) (nth ys i) % 18446744069414584321)) ∧ Below w.heap.size w w' := by
  obtain ⟨b1, o1, rfl, hcx⟩ := hx.at (by omega)
  obtain ⟨b2, o2, rfl, hcy⟩ := hy.at (by omega)
  have h1 := hcx i hi
  have h2 := hcy i hi2
  have f1 := fits_u64.1 (hx.wf _ (nth_mem hi))
  have f2 := fits_u64.1 (hy.wf _ (nth_mem hi2))
  have j0 : (0 : Int) ≤ (i : Int) := by omega
  have j1 : (i : Int) < (xs.length : Int) := by omega
  have j2 : (i : Int) < (ys.length : Int) := by omega
  have HOP := Lib.hid hop
  clear hcx hcy hx hy hop
  go_enter Tryz.func125, Tryz.ntmps125
  go_wp2_with fail
  go_quiet ((exact Calls.quiet_of_same ((HOP.out _ _ _ f1.1 f1.2 f2.1 f2.2).mono fun e w' ⟨x, y⟩ => ⟨x, y.symm⟩)))
  go_wp2_with fail
  go_ret
  exact ⟨rfl, below_drewN (Below.refl _ _) _⟩
/-- A result: a new row, and an error's number. -/
def GivesRowE (k : IntKind) (xs : List Int) (err : Int) (w : World) (e : Ending) (w' : World) : Prop :=
  ∃ a cap, e = .returned (.tuple #[.slice a xs.length cap, .int .i64 err]) ∧ Row k w' a xs ∧ OkCap a xs.length cap ∧ Below w.heap.size w w'
set_option maxHeartbeats 400000 in
theorem vec_both (fid : Nat) (op : Int → Int → Int) (hent : ∀ args w, (callFunc fid args).run Tryz.prog w = .ok (.enter fid args) w) (hop : IsOp fid op) (a b : Option Addr) (ca cb : Nat) (xs ys : List Int) (w : World) (hx : Row .u64 w a xs) (hy : Row .u64 w b ys) (hl : xs.length = ys.length) (hm : xs.length ≤ 16777216) :
    Calls Tryz.prog 101 #[.slice a xs.length ca, .slice b ys.length cb, .func (.func fid) #[] #[]] w (GivesRowE .u64 (zipL op xs ys) 0 w) := by
  have hent2 : ∀ args w, (callFunc 125 args).run Tryz.prog w = .ok (.enter 125 args) w := enters_of Tryz.func125 (by kernel_rfl) rfl
  obtain ⟨W, hW⟩ : ∃ W : World, W = ((w.alloc (.cells #[.slice a xs.length ca] 22)).alloc (.cells #[.slice b ys.length cb] 22)).alloc (.cells #[.func (.func fid) #[] #[]] 31) := ⟨_, rfl⟩
  have hWb : Below w.heap.size w W := hW ▸ (((Below.refl _ _).alloc (Nat.le_refl _) _).alloc (by simp) _).alloc (by simp; omega) _
  have hc0 : W.cell? ⟨w.heap.size, 0, none⟩ = some (.slice a xs.length ca) := by subst hW; rw [cell_past _ _ _ (by simp; omega), cell_past _ _ _ (by simp), one_new]
  have hc1 : W.cell? ⟨w.heap.size + 1, 0, none⟩ = some (.slice b ys.length cb) := by subst hW; rw [cell_past _ _ _ (by simp)]; exact cell_new (by simp)
  have hc2 : W.cell? ⟨w.heap.size + 2, 0, none⟩ = some (.func (.func fid) #[] #[]) := by subst hW; exact cell_new (by simp)
  have hsz : w.heap.size + 3 = W.heap.size := by subst hW; simp
  have hf : ∀ (i : Nat) (wr : World), i < xs.length → Below W.heap.size W wr →
      Calls Tryz.prog 125 (#[.int .i64 i] ++ #[.pointer (some ⟨w.heap.size + 2, 0, none⟩), .pointer (some ⟨w.heap.size, 0, none⟩), .pointer (some ⟨w.heap.size + 1, 0, none⟩)]) wr fun e w' => e = .returned (.int .u64 (op (nth xs i) (nth ys i) % 18446744069414584321)) ∧ Below wr.heap.size wr w' :=
    fun i wr hi hb => vec_both1 fid op hent hop i a b ca cb xs ys (w.heap.size + 2) w.heap.size (w.heap.size + 1) wr hi (by omega) (by rw [hb.cell (by show w.heap.size + 2 < W.heap.size; omega)]; exact hc2) (by rw [hb.cell (by show w.heap.size < W.heap.size; omega)]; exact hc0) (by rw [hb.cell (by show w.heap.size + 1 < W.heap.size; omega)]; exact hc1) ((hx.below hWb).below hb) ((hy.below hWb).below hb)
  have HF := Lib.hid hf
  have HB := Lib.hid hWb
  have hne : ((xs.length : Int) != (ys.length : Int)) = false := by simp [hl]
  clear hf hx hy hWb hc0 hc1 hc2 hsz hl
  subst hW
  go_enter Tryz.func101, Tryz.ntmps101
  go_wp2_with fail
  refine (vec_each xs.length (fun i => op (nth xs i) (nth ys i) % 18446744069414584321) _ _ _ hm (modfits _) hent2 HF.out).mono ?_
  rintro e w' ⟨a', cap', rfl, hr, hnil, hb⟩
  go_wp2_with fail
  go_ret2
  exact ⟨a', cap', by simp [zipL], hr, hnil, HB.out.trans (hb.mono HB.out.size)⟩
end Go.Proofs.YtlnlijeamflpiaaGreat

namespace Go.Proofs.YtlnlijeamflpiaaGreat.Sm
/-- The same modulo P. -/
def Eqm (a b : Int) : Prop := a % 18446744069414584321 = b % 18446744069414584321
theorem rfl' (a : Int) : Eqm a a := rfl
theorem Eqm.symm {a b : Int} (h : Eqm a b) : Eqm b a := by unfold Eqm at *; exact h.symm
theorem Eqm.trans {a b c : Int} (h : Eqm a b) (k : Eqm b c) : Eqm a c := by unfold Eqm at *; exact h.trans k
theorem Eqm.mod (a : Int) : Eqm (a % 18446744069414584321) a := by unfold Eqm; exact Int.emod_emod _ _
theorem Eqm.add {a b c d : Int} (h : Eqm a b) (k : Eqm c d) : Eqm (a + c) (b + d) := by
  unfold Eqm at *; omega
theorem Eqm.sub {a b c d : Int} (h : Eqm a b) (k : Eqm c d) : Eqm (a - c) (b - d) := by
  unfold Eqm at *; omega
theorem Eqm.mul {a b c d : Int} (h : Eqm a b) (k : Eqm c d) : Eqm (a * c) (b * d) := by
  unfold Eqm at *
  rw [Int.mul_emod, h, k, ← Int.mul_emod]
theorem Eqm.pow {a b : Int} (h : Eqm a b) (n : Nat) : Eqm (a ^ n) (b ^ n) := by
  induction n with
  | zero => rw [Int.pow_zero, Int.pow_zero]; exact rfl' _
  | succ n ih => rw [Int.pow_succ, Int.pow_succ]; exact ih.mul h
/-- The sum of the first n. -/
def S : Nat → (Nat → Int) → Int
  | 0, _ => 0
  | n + 1, f => S n f + f n
theorem S_congr {n : Nat} {f g : Nat → Int} (h : ∀ i, i < n → f i = g i) : S n f = S n g := by
  induction n with
  | zero => rfl
  | succ n ih => simp only [S]; rw [ih (fun i hi => h i (by omega)), h n (by omega)]
theorem S_eqm {n : Nat} {f g : Nat → Int} (h : ∀ i, i < n → Eqm (f i) (g i)) : Eqm (S n f) (S n g) := by
  induction n with
  | zero => exact rfl' _
  | succ n ih => exact (ih (fun i hi => h i (by omega))).add (h n (by omega))
theorem S_add (n : Nat) (f g : Nat → Int) : S n (fun i => f i + g i) = S n f + S n g := by
  induction n with
  | zero => rfl
  | succ n ih => simp only [S, ih]; omega
theorem S_mul (n : Nat) (c : Int) (f : Nat → Int) : S n (fun i => c * f i) = c * S n f := by
  induction n with
  | zero => simp [S]
  | succ n ih => simp only [S, ih, Int.mul_add]
theorem S_mul_r (n : Nat) (c : Int) (f : Nat → Int) : S n (fun i => f i * c) = S n f * c := by
  induction n with
  | zero => simp [S]
  | succ n ih => simp only [S, ih, Int.add_mul]
theorem S_zero (n : Nat) : S n (fun _ => 0) = 0 := by
  induction n with
  | zero => rfl
  | succ n ih => simp only [S, ih]; rfl
theorem S_const (n : Nat) (c : Int) : S n (fun _ => c) = n * c := by
  induction n with
  | zero => simp [S]
  | succ n ih => simp only [S, ih]; rw [Int.natCast_succ, Int.add_mul, Int.one_mul]
theorem S_swap (n m : Nat) (f : Nat → Nat → Int) : S n (fun i => S m (fun j => f i j)) = S m (fun j => S n (fun i => f i j)) := by
  induction n with
  | zero => simp only [S]; rw [S_zero]
  | succ n ih => simp only [S, ih]; rw [← S_add]
/-- A sum with one place that counts. -/
theorem S_one (n k : Nat) (f : Nat → Int) (hk : k < n) (h : ∀ i, i < n → i ≠ k → Eqm (f i) 0) : Eqm (S n f) (f k) := by
  induction n with
  | zero => omega
  | succ n ih =>
    simp only [S]
    by_cases hkn : k = n
    · subst hkn
      have : Eqm (S k f) (S k (fun _ => 0)) := S_eqm (fun i hi => h i (by omega) (by omega))
      rw [S_zero] at this
      have := this.add (rfl' (f k))
      rwa [Int.zero_add] at this
    · have := (ih (by omega) (fun i hi hik => h i (by omega) hik)).add (h n (by omega) (fun e => hkn e.symm))
      rwa [Int.add_zero] at this
/-- The first one apart. -/
theorem S_head (n : Nat) (f : Nat → Int) : S (n + 1) f = f 0 + S n (fun i => f (i + 1)) := by
  induction n with
  | zero => simp [S]
  | succ n ih => rw [S, ih]; simp only [S]; omega
theorem pow_mul' (a b : Int) (n : Nat) : (a * b) ^ n = a ^ n * b ^ n := by
  induction n with
  | zero => simp
  | succ n ih => rw [Int.pow_succ, Int.pow_succ, Int.pow_succ, ih]; simp only [Int.mul_assoc, Int.mul_comm, Int.mul_left_comm]
theorem geo (z : Int) (n : Nat) : (z - 1) * S n (fun i => z ^ i) = z ^ n - 1 := by
  induction n with
  | zero => simp [S]
  | succ n ih => simp only [S, Int.mul_add, ih]; rw [Int.pow_succ, Int.sub_mul, Int.one_mul, Int.mul_comm]; omega
/-- A number that P does not divide can be struck. -/
theorem strike (a b : Int) (h0 : 0 ≤ a) (ha : ¬ Eqm a 0) (h : Eqm (a * b) 0) : Eqm b 0 := by
  obtain ⟨n, rfl⟩ := Int.eq_ofNat_of_zero_le h0
  have h1 : n % Fld.pn ≠ 0 := by
    intro e; apply ha
    unfold Eqm; unfold Fld.pn at e; omega
  have h2 := Fld.fermat n h1
  have h3 : ((n ^ (Fld.pn - 1) % Fld.pn : Nat) : Int) = 1 := by rw [h2]; rfl
  obtain ⟨m, hm⟩ : ∃ m, Fld.pn - 1 = m + 1 := ⟨18446744069414584319, rfl⟩
  rw [hm, Int.natCast_emod, Int.natCast_pow, Int.pow_succ] at h3
  have hp : ((Fld.pn : Nat) : Int) = 18446744069414584321 := rfl
  rw [hp] at h3
  have h4 : Eqm ((n : Int) ^ m * ((n : Int) * b)) ((n : Int) ^ m * 0) := (rfl' _).mul h
  rw [← Int.mul_assoc, Int.mul_zero] at h4
  have h5 : Eqm ((n : Int) ^ m * (n : Int) * b) (1 * b) := Eqm.mul (by unfold Eqm; rw [h3]; rfl) (rfl' b)
  rw [Int.one_mul] at h5
  exact h5.symm.trans h4
theorem strike' (a b : Int) (ha : ¬ Eqm a 0) (h : Eqm (a * b) 0) : Eqm b 0 :=
  strike (a % 18446744069414584321) b (Int.emod_nonneg _ (by omega)) (fun e => ha ((Eqm.mod a).symm.trans e)) (((Eqm.mod a).mul (rfl' b)).trans h)
theorem geo_zero (z : Int) (n : Nat) (h1 : ¬ Eqm z 1) (hn : Eqm (z ^ n) 1) : Eqm (S n (fun i => z ^ i)) 0 := by
  refine strike' (z - 1) _ (fun h => h1 ?_) ?_
  · have := h.add (rfl' 1)
    rwa [Int.sub_add_cancel, Int.zero_add] at this
  · rw [geo]
    have := hn.sub (rfl' 1)
    rwa [Int.sub_self] at this
/-- w is a root of unity of order n, and u its inverse. -/
structure IsRoot (w u : Int) (n : Nat) : Prop where
  pos : 0 < n
  one : Eqm (w ^ n) 1
  least : ∀ m, 0 < m → m < n → ¬ Eqm (w ^ m) 1
  inv : Eqm (w * u) 1
theorem IsRoot.inv_pow {w u : Int} {n : Nat} (h : IsRoot w u n) (i : Nat) : Eqm (w ^ i * u ^ i) 1 := by
  rw [← pow_mul']
  have := h.inv.pow i
  rwa [Int.one_pow] at this
theorem IsRoot.oneU {w u : Int} {n : Nat} (h : IsRoot w u n) : Eqm (u ^ n) 1 := by
  have h1 := h.inv_pow n
  have h2 := h.one.mul (rfl' (u ^ n))
  rw [Int.one_mul] at h2
  exact h2.symm.trans h1
theorem IsRoot.back {w u : Int} {n : Nat} (h : IsRoot w u n) : IsRoot u w n := by
  refine ⟨h.pos, h.oneU, fun m h0 h1 e => h.least m h0 h1 ?_, by rw [Int.mul_comm]; exact h.inv⟩
  have h2 := (rfl' (w ^ m)).mul e
  rw [Int.mul_one] at h2
  exact h2.symm.trans (h.inv_pow m)
theorem IsRoot.times {w u : Int} {n : Nat} (h : IsRoot w u n) (i : Nat) : Eqm (w ^ (n * i)) 1 := by
  rw [Int.pow_mul]
  have := h.one.pow i
  rwa [Int.one_pow] at this
theorem IsRoot.pow_mod {w u : Int} {n : Nat} (h : IsRoot w u n) (i : Nat) : Eqm (w ^ (i % n)) (w ^ i) := by
  have e : i = n * (i / n) + i % n := (Nat.div_add_mod i n).symm
  have h1 : w ^ i = w ^ (n * (i / n)) * w ^ (i % n) := by rw [← Int.pow_add, ← e]
  rw [h1]
  have := (h.times (i / n)).mul (rfl' (w ^ (i % n)))
  rw [Int.one_mul] at this
  exact this.symm
theorem pow_jk (w u : Int) (j i k : Nat) : w ^ (j * i) * u ^ (j * k) = (w ^ i * u ^ k) ^ j := by
  rw [pow_mul', ← Int.pow_mul, ← Int.pow_mul, Nat.mul_comm j i, Nat.mul_comm j k]
/-- Sums of powers of a root. -/
theorem orth {w u : Int} {n : Nat} (h : IsRoot w u n) (i k : Nat) (hi : i < n) (hk : k < n) : Eqm (S n (fun j => w ^ (j * i) * u ^ (j * k))) (if i = k then n else 0) := by
  have e : S n (fun j => w ^ (j * i) * u ^ (j * k)) = S n (fun j => (w ^ i * u ^ k) ^ j) := S_congr (fun j _ => pow_jk w u j i k)
  rw [e]
  by_cases hik : i = k
  · subst hik
    rw [if_pos rfl]
    have h1 : Eqm (S n (fun j => (w ^ i * u ^ i) ^ j)) (S n (fun _ => 1)) := S_eqm (fun j _ => by
      have := (h.inv_pow i).pow j
      rwa [Int.one_pow] at this)
    rwa [S_const, Int.mul_one] at h1
  · rw [if_neg hik]
    refine geo_zero _ n ?_ ?_
    · intro hz
      by_cases hlt : k < i
      · refine h.least (i - k) (by omega) (by omega) ?_
        have e1 : w ^ i * u ^ k = w ^ (i - k) * (w ^ k * u ^ k) := by
          rw [← Int.mul_assoc, ← Int.pow_add, show i - k + k = i by omega]
        rw [e1] at hz
        have h2 := (rfl' (w ^ (i - k))).mul (h.inv_pow k)
        rw [Int.mul_one] at h2
        exact h2.symm.trans hz
      · refine h.back.least (k - i) (by omega) (by omega) ?_
        have e1 : w ^ i * u ^ k = (w ^ i * u ^ i) * u ^ (k - i) := by
          rw [Int.mul_assoc, ← Int.pow_add, show i + (k - i) = k by omega]
        rw [e1] at hz
        have h2 := (h.inv_pow i).mul (rfl' (u ^ (k - i)))
        rw [Int.one_mul] at h2
        exact h2.symm.trans hz
    · rw [pow_mul', ← Int.pow_mul, ← Int.pow_mul, Nat.mul_comm i n, Nat.mul_comm k n]
      have := (h.times i).mul (h.back.times k)
      rwa [Int.one_mul] at this
/-- The transform of X at k. -/
def T (n : Nat) (w : Int) (X : Nat → Int) (k : Nat) : Int := S n (fun i => X i * w ^ (i * k))
theorem T_eqm {n : Nat} {w w' : Int} {X Y : Nat → Int} (hw : Eqm w w') (h : ∀ i, i < n → Eqm (X i) (Y i)) (k : Nat) : Eqm (T n w X k) (T n w' Y k) :=
  S_eqm (fun i hi => (h i hi).mul (hw.pow _))
theorem T_back {w u : Int} {n : Nat} (h : IsRoot w u n) (X : Nat → Int) (k : Nat) (hk : k < n) : Eqm (T n u (T n w X) k) (n * X k) := by
  have e1 : T n u (T n w X) k = S n (fun i => X i * S n (fun j => w ^ (j * i) * u ^ (j * k))) := by
    unfold T
    have : S n (fun j => S n (fun i => X i * w ^ (i * j)) * u ^ (j * k)) = S n (fun j => S n (fun i => X i * (w ^ (j * i) * u ^ (j * k)))) := S_congr (fun j _ => by
      rw [← S_mul_r]; exact S_congr (fun i _ => by rw [Int.mul_assoc, Nat.mul_comm i j]))
    rw [this, S_swap]
    exact S_congr (fun i _ => S_mul n (X i) _)
  rw [e1]
  refine (S_one n k _ hk (fun i hi hik => ?_)).trans ?_
  · have := (rfl' (X i)).mul (orth h i k hi hk)
    rwa [if_neg hik, Int.mul_zero] at this
  · have := (rfl' (X k)).mul (orth h k k hk hk)
    rw [if_pos rfl] at this
    rw [Int.mul_comm (n : Int)]
    exact this
/-- Twice there: backwards, times the length. -/
theorem T_twice {w u : Int} {n : Nat} (h : IsRoot w u n) (X : Nat → Int) (k : Nat) (hk : k < n) : Eqm (T n w (T n w X) k) (n * X ((n - k) % n)) := by
  have h1 : Eqm (T n w (T n w X) k) (T n u (T n w X) ((n - k) % n)) := by
    refine S_eqm (fun i _ => (rfl' _).mul ?_)
    have h2 : Eqm (w ^ k) (u ^ ((n - k) % n)) := by
      refine Eqm.trans ?_ (h.back.pow_mod (n - k)).symm
      have h3 := (h.inv_pow k)
      have h4 := h3.mul (rfl' (u ^ (n - k)))
      rw [Int.mul_assoc, ← Int.pow_add, show k + (n - k) = n by omega, Int.one_mul] at h4
      have h5 := (rfl' (w ^ k)).mul h.oneU
      rw [Int.mul_one] at h5
      exact h5.symm.trans h4
    rw [Nat.mul_comm i k, Nat.mul_comm i, Int.pow_mul, Int.pow_mul]
    exact h2.pow i
  exact h1.trans (T_back h X _ (Nat.mod_lt _ h.pos))
end Go.Proofs.YtlnlijeamflpiaaGreat.Sm

namespace Go.Proofs.YtlnlijeamflpiaaGreat
open Go.RowKit Go.Shelf Sm
set_option linter.unusedVariables false
set_option linter.unusedSimpArgs false
set_option maxRecDepth 100000
/-- One product, if it belongs to the place. -/
def cvT (xs ys : List Int) (n t i j : Nat) : Int := if (i + j) % n = t then nth xs i * nth ys j else 0
def cvS (xs ys : List Int) (n t : Nat) : Int := S xs.length (fun i => S ys.length (fun j => cvT xs ys n t i j))
def cvL (xs ys : List Int) (n : Nat) : List Int := (List.range n).map fun t => cvS xs ys n t % 18446744069414584321
theorem cvL_len (xs ys : List Int) (n : Nat) : (cvL xs ys n).length = n := by simp [cvL]
theorem nth_cvL (xs ys : List Int) (n t : Nat) (h : t < n) : nth (cvL xs ys n) t = cvS xs ys n t % 18446744069414584321 := nth_ofFn _ _ _ h
theorem cvL_fits (xs ys : List Int) (n : Nat) : ∀ x ∈ cvL xs ys n, fits .u64 x := modL_fits _
theorem OwnAt.heap {k : IntKind} {e : TypeId} {w wr : World} {g n : Nat} {f : Nat → Int} (h : OwnAt k e w wr g n f) :
    wr.heap[g]? = some (.cells ((List.range n).map fun j => Value.int k (f j)).toArray e (0, 0)) := by
  obtain ⟨hl, h1 | ⟨g', cap, cur, hv, hg, hc, hcap, hm, hs, ht⟩⟩ := h.own
  · cases h1.1
  · simp only [Value.slice.injEq, Option.some.injEq, Addr.mk.injEq] at hv
    obtain ⟨⟨rfl, _, _⟩, _, rfl⟩ := hv
    rw [hc, ← ht, List.take_of_length_le (by simp; omega)]
theorem OwnAt.of_heap {k : IntKind} {e : TypeId} {w wr : World} {g n : Nat} {f : Nat → Int} (hg : w.heap.size ≤ g) (hm : n ≤ maxLen) (hb : Below w.heap.size w wr)
    (h : wr.heap[g]? = some (.cells ((List.range n).map fun j => Value.int k (f j)).toArray e (0, 0))) : OwnAt k e w wr g n f :=
  ⟨⟨by simp, .inr ⟨g, n, _, rfl, hg, h, Nat.le_refl _, hm, by simp, by rw [List.take_of_length_le (by simp)]⟩⟩, hb⟩
theorem OwnAt.made {k : IntKind} {e : TypeId} {w wx w1 : World} {g n : Nat} (hb : Below w.heap.size w wx) (h : w1.ownsRow w.heap.size e 1 (.slice (some ⟨g, 0, none⟩) n n) n (madeCells #[Value.int k 0] n).toList) (hg : wx.grownBy w1 none) :
    OwnAt k e w w1 g n (fun _ => 0) := by
  refine ⟨?_, hb.grown hg hb.size (by simp)⟩
  have e1 : (madeCells #[Value.int k 0] n).toList = (List.range n).map fun j => Value.int k 0 := by
    rw [toList_madeCells_one]
    apply List.ext_getElem (by simp)
    intro i h1 h2
    simp
  rw [e1] at h
  exact h
end Go.Proofs.YtlnlijeamflpiaaGreat

namespace Go.Proofs.YtlnlijeamflpiaaGreat
open Sm
theorem root_one (n q : Nat) (hq : q * n = Fld.pn - 1) : (7 ^ q) ^ n % Fld.pn = 1 := by
  rw [← Nat.pow_mul, hq]; exact Fld.fermat 7 (by decide)
theorem root_least (n q m : Nat) (hq : q * n = Fld.pn - 1) (h0 : 0 < m) (hm : m < n) : (7 ^ q) ^ m % Fld.pn ≠ 1 := by
  intro h
  rw [← Nat.pow_mul] at h
  have h1 := Fld.seven (q * m) h
  have hq0 : 0 < q := Nat.pos_of_ne_zero (fun e => by subst e; rw [Nat.zero_mul] at hq; exact absurd hq (by decide))
  have h2 : 0 < q * m := Nat.mul_pos hq0 h0
  have h3 := Nat.le_of_dvd h2 h1
  have h4 : q * m < q * n := Nat.mul_lt_mul_of_pos_left hm hq0
  omega
/-- The root of the size n; its inverse. -/
def rtExp (n : Nat) : Nat := 18446744069414584320 / n
def rt (n : Nat) : Int := pw 7 (rtExp n)
def bk (n : Nat) : Int := pw (rt n) 18446744069414584319
def dirRt (n : Nat) (d : Int) : Int := if d = 1 then bk n else rt n
def dirBk (n : Nat) (d : Int) : Int := if d = 1 then rt n else bk n
theorem rtExp_mul (n : Nat) (h : hasSz n = true) : rtExp n * n = Fld.pn - 1 := by
  obtain ⟨h1, _, h3⟩ := hasSz_iff.1 h
  have h4 : 18446744069414584320 % n = 0 := by
    have h5 : ((18446744069414584320 % n : Nat) : Int) = 0 := by rw [Int.natCast_emod]; exact h3
    omega
  exact Nat.div_mul_cancel (Nat.dvd_of_mod_eq_zero h4)
theorem pw_eqm (a : Int) (n : Nat) : Eqm (pw a n) (a ^ n) := by
  unfold pw; exact Eqm.mod _
theorem cast_pow_mod (a e p : Nat) (q : Int) (hq : (p : Int) = q) : ((a ^ e % p : Nat) : Int) = (a : Int) ^ e % q := by
  rw [Int.natCast_emod, Int.natCast_pow, hq]
theorem eqm_pow_one (q n : Nat) : Eqm (((7 : Int) ^ q) ^ n) 1 ↔ (7 ^ q) ^ n % Fld.pn = 1 := by
  have h : ((((7 ^ q) ^ n % Fld.pn : Nat)) : Int) = (((7 ^ q : Nat) : Int)) ^ n % 18446744069414584321 := cast_pow_mod _ _ Fld.pn _ rfl
  rw [Int.natCast_pow] at h
  unfold Eqm
  have h7 : ((7 : Nat) : Int) = 7 := rfl
  rw [h7] at h
  rw [← h, show (1 : Int) % 18446744069414584321 = 1 from rfl]
  omega
theorem rt_pow (n m : Nat) : Eqm (rt n ^ m) (((7 : Int) ^ rtExp n) ^ m) := (pw_eqm 7 _).pow m
theorem rt_range (n : Nat) : 0 ≤ rt n ∧ rt n < 18446744069414584321 := pw_range _ _
theorem bk_range (n : Nat) : 0 ≤ bk n ∧ bk n < 18446744069414584321 := pw_range _ _
theorem dirRt_range (n : Nat) (d : Int) : 0 ≤ dirRt n d ∧ dirRt n d < 18446744069414584321 := by
  unfold dirRt; split
  · exact bk_range n
  · exact rt_range n
theorem isRoot_rt (n : Nat) (h : hasSz n = true) : IsRoot (rt n) (bk n) n := by
  have hm := rtExp_mul n h
  have hn := (hasSz_iff.1 h).1
  have h1 : Eqm (rt n ^ n) 1 := (rt_pow n n).trans ((eqm_pow_one _ _).2 (root_one n _ hm))
  refine ⟨by omega, h1, fun m h0 hlt e => root_least n _ m hm h0 hlt ((eqm_pow_one _ _).1 ((rt_pow n m).symm.trans e)), ?_⟩
  have hz : rt n % 18446744069414584321 ≠ 0 := by
    intro e
    have e0 : Eqm (rt n) 0 := by unfold Eqm; rw [e]; rfl
    obtain ⟨k, hk⟩ : ∃ k, n = k + 1 := ⟨n - 1, by omega⟩
    have h2 := (rfl' (rt n ^ k)).mul e0
    rw [← Int.pow_succ, Nat.succ_eq_add_one, ← hk, Int.mul_zero] at h2
    have h3 := h1.symm.trans h2
    exact absurd h3 (by unfold Eqm; decide)
  have := pw_inv (rt n) (rt_range n).1 hz
  unfold Eqm bk
  rw [this]; rfl
theorem isRoot_dir (n : Nat) (d : Int) (h : hasSz n = true) : IsRoot (dirRt n d) (dirBk n d) n := by
  unfold dirRt dirBk
  split
  · exact (isRoot_rt n h).back
  · exact isRoot_rt n h
end Go.Proofs.YtlnlijeamflpiaaGreat

namespace Go.Proofs.YtlnlijeamflpiaaGreat
open Go.RowKit
set_option linter.unusedVariables false
set_option linter.unusedSimpArgs false
set_option maxRecDepth 100000
theorem quo_bd (n : Int) (h : 1 ≤ n) : 0 ≤ 18446744069414584320 / n ∧ 18446744069414584320 / n ≤ 18446744069414584320 :=
  ⟨Int.ediv_nonneg (by omega) (by omega), Int.ediv_le_self _ (by omega)⟩
theorem toNat_quo (n : Nat) : (18446744069414584320 / (n : Int)).toNat = rtExp n := by
  unfold rtExp
  have h : (18446744069414584320 / (n : Int)) = ((18446744069414584320 / n : Nat) : Int) := by rw [Int.natCast_ediv]; rfl
  rw [h, Int.toNat_natCast]
set_option maxHeartbeats 400000 in
theorem rootRoot_yes (n : Nat) (w : World) (h : hasSz n = true) :
    Calls Tryz.prog 170 #[.int .i64 n] w fun e w' => e = .returned (.tuple #[.int .u64 (rt n), .int .i64 0]) ∧ w = w' := by
  obtain ⟨h1, h2, h3⟩ := hasSz_iff.1 h
  have hq := quo_bd (n : Int) h1
  have h0 : ((n : Int) == 0) = false := bno (by omega)
  have ht := Lib.hid (toNat_quo n)
  have H := Lib.hid h
  clear h h3
  go_enter Tryz.func170, Tryz.ntmps170
  go_wp2_with fail
  refine (rootHas_yes _ _ H.out).mono ?_; rintro e w' ⟨rfl, rfl⟩
  go_wp2_with (go_at_call 128; refine (gold_Pow _ _ _ (by omega) (by omega) (by omega) (by omega)).mono ?_; rintro e w' ⟨rfl, rfl⟩)
  go_ret2
  exact ⟨by rw [ht.out]; rfl, rfl⟩
theorem rootBack_yes (n : Nat) (w : World) (h : hasSz n = true) :
    Calls Tryz.prog 171 #[.int .i64 n] w fun e w' => e = .returned (.tuple #[.int .u64 (bk n), .int .i64 0]) ∧ w = w' := by
  have H := Lib.hid h
  have hr := rt_range n
  clear h
  go_enter Tryz.func171, Tryz.ntmps171
  go_wp2_with fail
  refine (rootRoot_yes _ _ H.out).mono ?_; rintro e w' ⟨rfl, rfl⟩
  go_wp2_with (go_at_call 104; refine (gold_Inv _ _ (by omega) (by omega)).mono ?_; rintro e w' ⟨rfl, rfl⟩)
  go_ret2
  exact ⟨rfl, rfl⟩
def powL (a : Int) (n : Nat) : List Int := (List.range n).map fun i => pw a i
theorem powL_len (a : Int) (n : Nat) : (powL a n).length = n := by simp [powL]
theorem powL_fits (a : Int) (n : Nat) : ∀ x ∈ powL a n, fits .u64 x := by
  intro x hx; obtain ⟨i, _, rfl⟩ := List.mem_map.1 hx
  have := pw_range a i
  exact fits_u64.2 (by omega)
theorem pw_succ (a : Int) (i : Nat) : pw a i * a % 18446744069414584321 = pw a (i + 1) := by
  unfold pw; rw [modmul_l, ← Int.pow_succ]
theorem pw_0 (a : Int) : pw a 0 = 1 := by unfold pw; simp
end Go.Proofs.YtlnlijeamflpiaaGreat

namespace Go.Proofs.YtlnlijeamflpiaaGreat
open Go.RowKit
set_option linter.unusedVariables false
set_option linter.unusedSimpArgs false
set_option maxRecDepth 100000
set_option maxHeartbeats 400000 in
theorem vec_Mul (a b : Option Addr) (n m ca cb : Nat) (xs ys : List Int) (w : World) (hx : Row .u64 w a xs) (hy : Row .u64 w b ys) (hn : xs.length = n) (hm : ys.length = m) (hl : n = m) (hs : n ≤ 16777216) :
    Calls Tryz.prog 74 #[.slice a n ca, .slice b m cb] w (GivesRowE .u64 (mulL xs ys) 0 w) := by
  subst hn hm
  have hent : ∀ args w, (callFunc 46 args).run Tryz.prog w = .ok (.enter 46 args) w := enters_of Tryz.func46 (by kernel_rfl) rfl
  have hop : IsOp 46 (fun x y => x * y) := fun a b w a0 a1 b0 b1 => gold_Mul a b w a0 a1 b0 b1
  have HOP := Lib.hid hop
  have HL := Lib.hid hl
  have HX := Lib.hid hx
  have HY := Lib.hid hy
  clear hop hl hx hy
  go_enter Tryz.func74, Tryz.ntmps74
  go_wp2_with fail
  refine (vec_both 46 (fun x y => x * y) hent HOP.out a b ca cb xs ys _ HX.out HY.out HL.out (by omega)).mono ?_
  rintro e w' ⟨a', cap', rfl, hr, hnil, hb⟩
  go_wp2_with fail
  go_ret2
  exact ⟨a', cap', rfl, hr, hnil, hb⟩
end Go.Proofs.YtlnlijeamflpiaaGreat

namespace Go.Proofs.YtlnlijeamflpiaaGreat
open Go.RowKit
set_option linter.unusedVariables false
set_option linter.unusedSimpArgs false
set_option maxRecDepth 100000
def scaleL (xs : List Int) (c : Int) : List Int := (List.range xs.length).map fun i => nth xs i * c % 18446744069414584321
theorem mul_quiet (a b : Int) (w : World) (n : Nat) (h0 : 0 ≤ a) (h1 : a < 18446744073709551616) (h2 : 0 ≤ b) (h3 : b < 18446744073709551616) :
    Calls Tryz.prog 46 #[.int .u64 a, .int .u64 b] (w.drewN n) fun e w' => e = .returned (.int .u64 (a * b % 18446744069414584321)) ∧ ∃ m, w' = w.drewN m :=
  Calls.quiet_of_same ((gold_Mul a b _ h0 h1 h2 h3).mono fun e w' ⟨x, y⟩ => ⟨x, y.symm⟩)
set_option maxHeartbeats 400000 in
theorem vec_Scale1 (i : Nat) (a : Option Addr) (cap : Nat) (xs : List Int) (c : Int) (p q : Nat) (w : World) (hi : i < xs.length) (hc : w.cell? ⟨p, 0, none⟩ = some (.slice a xs.length cap)) (hc2 : w.cell? ⟨q, 0, none⟩ = some (.int .u64 c)) (h0 : 0 ≤ c) (h1 : c < 18446744073709551616) (hx : Row .u64 w a xs) :
    Calls Tryz.prog 126 #[.int .i64 i, .pointer (some ⟨p, 0, none⟩), .pointer (some ⟨q, 0, none⟩)] w fun e w' => e = .returned (.int .u64 (nth xs i * c % 18446744069414584321)) ∧ Below w.heap.size w w' := by
  have hl := hx.len
  obtain ⟨b, off, rfl, hcs⟩ := hx.at (by omega)
  have hck := hcs _ hi
  have hf := fits_u64.1 (hx.wf _ (nth_mem hi))
  have j0 : (0 : Int) ≤ (i : Int) := by omega
  have j1 : (i : Int) < (xs.length : Int) := by omega
  clear hcs hx
  go_enter Tryz.func126, Tryz.ntmps126
  go_wp2_with fail
  go_quiet ((go_at_call 46; exact mul_quiet _ _ _ _ hf.1 hf.2 h0 h1))
  go_wp2_with fail
  go_ret
  exact ⟨rfl, below_drewN (Below.refl _ _) _⟩
set_option maxHeartbeats 400000 in
theorem vec_Scale (a : Option Addr) (cap : Nat) (xs : List Int) (c : Int) (w : World) (hx : Row .u64 w a xs) (hl : xs.length ≤ 16777216) (h0 : 0 ≤ c) (h1 : c < 18446744073709551616) :
    Calls Tryz.prog 102 #[.slice a xs.length cap, .int .u64 c] w (GivesRow .u64 (scaleL xs c) w) := by
  have hent : ∀ args w, (callFunc 126 args).run Tryz.prog w = .ok (.enter 126 args) w := enters_of Tryz.func126 (by kernel_rfl) rfl
  obtain ⟨W, hW⟩ : ∃ W : World, W = (w.alloc (.cells #[.slice a xs.length cap] 22)).alloc (.cells #[.int .u64 c] 23) := ⟨_, rfl⟩
  have hWb : Below w.heap.size w W := hW ▸ ((Below.refl _ _).alloc (Nat.le_refl _) _).alloc (by simp) _
  have hc0 : W.cell? ⟨w.heap.size, 0, none⟩ = some (.slice a xs.length cap) := by subst hW; simp
  have hc1 : W.cell? ⟨w.heap.size + 1, 0, none⟩ = some (.int .u64 c) := by subst hW; simp
  have hsz : w.heap.size + 2 = W.heap.size := by subst hW; simp
  have hf : ∀ (i : Nat) (wr : World), i < xs.length → Below W.heap.size W wr →
      Calls Tryz.prog 126 (#[.int .i64 i] ++ #[.pointer (some ⟨w.heap.size, 0, none⟩), .pointer (some ⟨w.heap.size + 1, 0, none⟩)]) wr fun e w' => e = .returned (.int .u64 (nth xs i * c % 18446744069414584321)) ∧ Below wr.heap.size wr w' :=
    fun i wr hi hb => vec_Scale1 i a cap xs c w.heap.size (w.heap.size + 1) wr hi (by rw [hb.cell (by show w.heap.size < W.heap.size; omega)]; exact hc0) (by rw [hb.cell (by show w.heap.size + 1 < W.heap.size; omega)]; exact hc1) h0 h1 ((hx.below hWb).below hb)
  have HF := Lib.hid hf
  have HB := Lib.hid hWb
  clear hf hx hWb hc0 hc1 hsz
  subst hW
  go_enter Tryz.func102, Tryz.ntmps102
  go_wp2_with fail
  refine (vec_each xs.length (fun i => nth xs i * c % 18446744069414584321) _ _ _ hl (modfits _) hent HF.out).mono ?_
  rintro e w' ⟨a', cap', rfl, hr, hnil, hb⟩
  go_wp2_with fail
  go_ret
  exact ⟨a', cap', by simp [scaleL], hr, hnil, HB.out.trans (hb.mono HB.out.size)⟩
end Go.Proofs.YtlnlijeamflpiaaGreat

namespace Go.Proofs.YtlnlijeamflpiaaGreat
open Go.RowKit Sm
set_option linter.unusedVariables false
set_option linter.unusedSimpArgs false
set_option maxRecDepth 100000
/-- The sum of a row times the powers of a number. -/
def pt (xs : List Int) (st : Int) : Int := S xs.length (fun i => nth xs i * st ^ i) % 18446744069414584321
def hor (xs : List Int) (st : Int) (j : Nat) : Int := S (xs.length - j) (fun i => nth xs (j + i) * st ^ i)
theorem pt_range (xs : List Int) (st : Int) : 0 ≤ pt xs st ∧ pt xs st < 18446744069414584321 := by unfold pt; omega
end Go.Proofs.YtlnlijeamflpiaaGreat

namespace Go.Proofs.YtlnlijeamflpiaaGreat
open Go.RowKit Sm
set_option linter.unusedVariables false
set_option linter.unusedSimpArgs false
set_option maxRecDepth 100000
def dftL (xs : List Int) (z : Int) : List Int := (List.range xs.length).map fun k => pt xs (pw z k)
theorem dftL_len (xs : List Int) (z : Int) : (dftL xs z).length = xs.length := by simp [dftL]
theorem dftL_fits (xs : List Int) (z : Int) : ∀ x ∈ dftL xs z, fits .u64 x := by
  intro x hx; obtain ⟨i, _, rfl⟩ := List.mem_map.1 hx
  have := pt_range xs (pw z i)
  exact fits_u64.2 (by omega)
end Go.Proofs.YtlnlijeamflpiaaGreat

namespace Go.Proofs.YtlnlijeamflpiaaGreat
open Go.RowKit
set_option linter.unusedVariables false
set_option linter.unusedSimpArgs false
set_option maxRecDepth 100000
theorem scaleL_len (xs : List Int) (c : Int) : (scaleL xs c).length = xs.length := by simp [scaleL]
end Go.Proofs.YtlnlijeamflpiaaGreat

namespace Go.Proofs.YtlnlijeamflpiaaGreat
open Go.RowKit Sm
set_option linter.unusedVariables false
set_option linter.unusedSimpArgs false
set_option maxRecDepth 100000
theorem vec_ScaleN (a : Option Addr) (n cap : Nat) (xs : List Int) (c : Int) (w : World) (hx : Row .u64 w a xs) (hn : xs.length = n) (hl : xs.length ≤ 16777216) (h0 : 0 ≤ c) (h1 : c < 18446744073709551616) :
    Calls Tryz.prog 102 #[.slice a n cap, .int .u64 c] w (GivesRow .u64 (scaleL xs c) w) := by
  subst hn; exact vec_Scale a cap xs c w hx hl h0 h1
theorem GivesRow.step {k : IntKind} {xs : List Int} {w w1 w2 : World} {e : Ending} (h : GivesRow k xs w1 e w2) (hb : Below w.heap.size w w1) : GivesRow k xs w e w2 := by
  obtain ⟨a, cap, he, hr, hc, hb2⟩ := h
  exact ⟨a, cap, he, hr, hc, chain hb hb2⟩
def invN (n : Nat) : Int := pw (n : Int) 18446744069414584319
theorem invN_range (n : Nat) : 0 ≤ invN n ∧ invN n < 18446744069414584321 := pw_range _ _
end Go.Proofs.YtlnlijeamflpiaaGreat

namespace Go.Proofs.YtlnlijeamflpiaaGreat
open Sm
set_option linter.unusedVariables false
set_option linter.unusedSimpArgs false
set_option maxRecDepth 100000
theorem eq_of_eqm {a b : Int} (h : Eqm a b) (a0 : 0 ≤ a) (a1 : a < 18446744069414584321) (b0 : 0 ≤ b) (b1 : b < 18446744069414584321) : a = b := by
  unfold Eqm at h
  rwa [Int.emod_eq_of_lt a0 a1, Int.emod_eq_of_lt b0 b1] at h
theorem pt_T (xs : List Int) (z : Int) (k : Nat) : Eqm (pt xs (pw z k)) (T xs.length z (nth xs) k) := by
  unfold pt T
  refine (Eqm.mod _).trans (S_eqm fun i _ => (rfl' _).mul ?_)
  rw [Nat.mul_comm, Int.pow_mul]
  exact (pw_eqm z k).pow i
theorem nth_dftL (xs : List Int) (z : Int) (k : Nat) (h : k < xs.length) : nth (dftL xs z) k = pt xs (pw z k) := nth_ofFn _ _ _ h
theorem dftL_T (xs : List Int) (z : Int) (k : Nat) (h : k < xs.length) : Eqm (nth (dftL xs z) k) (T xs.length z (nth xs) k) := by
  rw [nth_dftL xs z k h]; exact pt_T xs z k
theorem nth_scaleL (xs : List Int) (c : Int) (k : Nat) (h : k < xs.length) : nth (scaleL xs c) k = nth xs k * c % 18446744069414584321 := nth_ofFn _ _ _ h
theorem inv_n (n : Nat) (h1 : 1 ≤ n) (h2 : n ≤ 16777216) : Eqm ((n : Int) * invN n) 1 := by
  have := pw_inv (n : Int) (by omega) (by omega)
  unfold Eqm invN
  rw [this]; rfl
theorem dir_swap (n : Nat) (d : Int) (hd : d = 0 ∨ d = 1) : dirRt n (1 - d) = dirBk n d := by
  unfold dirRt dirBk
  rcases hd with h | h
  · rw [if_pos (by omega), if_neg (by omega)]
  · rw [if_neg (by omega), if_pos h]
theorem dft_twice (xs : List Int) (d : Int) (hs : hasSz xs.length = true) : dftL (dftL xs (dirRt xs.length d)) (dirRt xs.length d) = scaleL (revL xs) xs.length := by
  have hr := isRoot_dir xs.length d hs
  apply ext_nth (by rw [dftL_len, dftL_len, scaleL_len, revL_len])
  intro k hk
  have hk' : k < xs.length := by rwa [dftL_len, dftL_len] at hk
  have hku : k < (dftL xs (dirRt xs.length d)).length := by rwa [dftL_len]
  have e1 := dftL_T (dftL xs (dirRt xs.length d)) (dirRt xs.length d) k hku
  rw [dftL_len] at e1
  have e2 := (T_eqm (rfl' (dirRt xs.length d)) (fun i hi => dftL_T xs (dirRt xs.length d) i hi) k).trans (T_twice hr (nth xs) k hk')
  rw [nth_scaleL _ _ _ (by rw [revL_len]; exact hk')]
  have e3 : nth (revL xs) k = nth xs (revAt xs.length k) % 18446744069414584321 := nth_ofFn _ _ _ hk'
  rw [e3]
  refine eq_of_eqm ((e1.trans e2).trans ?_) ?_ ?_ (by omega) (by omega)
  · rw [Int.mul_comm]
    exact (((Eqm.mod _).symm).mul (rfl' _)).trans (Eqm.mod _).symm
  · rw [nth_dftL _ _ _ hku]; exact (pt_range _ _).1
  · rw [nth_dftL _ _ _ hku]; exact (pt_range _ _).2
end Go.Proofs.YtlnlijeamflpiaaGreat

namespace Go.Proofs.YtlnlijeamflpiaaGreat
open Sm
set_option linter.unusedVariables false
set_option linter.unusedSimpArgs false
set_option maxRecDepth 100000
/-- Where the other number stands, around n places. -/
def othAt (n k i : Nat) : Nat := (k + n - i) % n
theorem othAt_lt (n k i : Nat) (h : 0 < n) : othAt n k i < n := Nat.mod_lt _ h
theorem othAt_sum (n k i : Nat) (hi : i < n) (hk : k < n) : (i + othAt n k i) % n = k := by
  unfold othAt
  rw [Nat.add_mod_mod, show i + (k + n - i) = k + n by omega, Nat.add_mod_right, Nat.mod_eq_of_lt hk]
theorem othAt_of (n k i j : Nat) (hi : i < n) (hj : j < n) (h : (i + j) % n = k) : j = othAt n k i := by
  unfold othAt
  by_cases hlt : i + j < n
  · rw [Nat.mod_eq_of_lt hlt] at h
    rw [show k + n - i = j + n by omega, Nat.add_mod_right, Nat.mod_eq_of_lt hj]
  · have e : (i + j) % n = i + j - n := by
      rw [Nat.mod_eq_sub_mod (by omega), Nat.mod_eq_of_lt (by omega)]
    rw [e] at h
    rw [show k + n - i = j by omega, Nat.mod_eq_of_lt hj]
theorem emod_of_eqm {a b : Int} (h : Eqm a b) : a % 18446744069414584321 = b % 18446744069414584321 := h
theorem cyc_at (xs ys : List Int) (n k : Nat) (hx : xs.length = n) (hy : ys.length = n) (hk : k < n) :
    cvS xs ys n k % 18446744069414584321 = S n (fun i => nth xs i * nth ys (othAt n k i)) % 18446744069414584321 := by
  refine emod_of_eqm ?_
  unfold cvS
  rw [hx, hy]
  refine S_eqm fun i hi => ?_
  have h := S_one n (othAt n k i) (fun j => cvT xs ys n k i j) (othAt_lt n k i (by omega)) (fun j hj hne => by
    unfold cvT; rw [if_neg (fun e => hne (othAt_of n k i j hi hj e))]; exact rfl' _)
  refine h.trans ?_
  show Eqm (cvT xs ys n k i (othAt n k i)) _
  unfold cvT; rw [if_pos (othAt_sum n k i hi hk)]; exact rfl' _
theorem nth_out (xs : List Int) (i : Nat) (h : xs.length ≤ i) : nth xs i = 0 := by simp [nth, h]
/-- The transform of a product around. -/
theorem T_conv (w u : Int) (n : Nat) (h : IsRoot w u n) (xs ys : List Int) (hx : xs.length = n) (hy : ys.length = n) (k : Nat) : Eqm (T n w (fun t => cvS xs ys n t) k) (T n w (nth xs) k * T n w (nth ys) k) := by
  have e1 : T n w (fun t => cvS xs ys n t) k = S n (fun i => S n (fun j => S n (fun t => cvT xs ys n t i j * w ^ (t * k)))) := by
    unfold T cvS
    rw [hx, hy]
    have e2 : S n (fun t => S n (fun i => S n (fun j => cvT xs ys n t i j)) * w ^ (t * k)) = S n (fun t => S n (fun i => S n (fun j => cvT xs ys n t i j * w ^ (t * k)))) := S_congr fun t _ => by
      rw [← S_mul_r]; exact S_congr fun i _ => by rw [← S_mul_r]
    rw [e2, S_swap]
    exact S_congr fun i _ => S_swap _ _ _
  have e3 : T n w (nth xs) k * T n w (nth ys) k = S n (fun i => S n (fun j => (nth xs i * w ^ (i * k)) * (nth ys j * w ^ (j * k)))) := by
    unfold T
    rw [← S_mul_r]
    exact S_congr fun i _ => by rw [← S_mul]
  rw [e1, e3]
  refine S_eqm fun i hi => S_eqm fun j hj => ?_
  have h1 := S_one n ((i + j) % n) (fun t => cvT xs ys n t i j * w ^ (t * k)) (Nat.mod_lt _ (by omega)) (fun t ht hne => by
    show Eqm (cvT xs ys n t i j * w ^ (t * k)) 0
    unfold cvT; rw [if_neg (fun e => hne e.symm), Int.zero_mul]; exact rfl' _)
  refine h1.trans ?_
  show Eqm (cvT xs ys n ((i + j) % n) i j * w ^ ((i + j) % n * k)) _
  unfold cvT
  rw [if_pos rfl]
  have h2 : Eqm (w ^ ((i + j) % n * k)) (w ^ (i * k) * w ^ (j * k)) := by
    rw [Int.pow_mul, ← Int.pow_add, ← Nat.add_mul, show w ^ ((i + j) * k) = (w ^ (i + j)) ^ k from Int.pow_mul]
    exact (h.pow_mod (i + j)).pow k
  have e4 : nth xs i * w ^ (i * k) * (nth ys j * w ^ (j * k)) = nth xs i * nth ys j * (w ^ (i * k) * w ^ (j * k)) := by
    simp only [Int.mul_assoc, Int.mul_left_comm, Int.mul_comm]
  rw [e4]
  exact (rfl' _).mul h2
theorem nth_mulL (xs ys : List Int) (k : Nat) (h : k < xs.length) : nth (mulL xs ys) k = nth xs k * nth ys k % 18446744069414584321 := nth_ofFn _ _ _ h
theorem dft_conv (xs ys : List Int) (n : Nat) (z u : Int) (hr : IsRoot z u n) (hx : xs.length = n) (hy : ys.length = n) : dftL (cvL xs ys n) z = mulL (dftL xs z) (dftL ys z) := by
  apply ext_nth (by rw [dftL_len, cvL_len, show (mulL (dftL xs z) (dftL ys z)).length = (dftL xs z).length from zipL_len _ _ _, dftL_len, hx])
  intro k hk
  rw [dftL_len, cvL_len] at hk
  rw [nth_mulL _ _ _ (by rw [dftL_len]; omega), nth_dftL _ _ _ (by rw [cvL_len]; exact hk), nth_dftL _ _ _ (by omega), nth_dftL _ _ _ (by omega)]
  have h1 := pt_T (cvL xs ys n) z k
  rw [cvL_len] at h1
  have h2 : Eqm (T n z (nth (cvL xs ys n)) k) (T n z (fun t => cvS xs ys n t) k) := T_eqm (rfl' z) (fun t ht => by rw [nth_cvL _ _ _ _ ht]; exact Eqm.mod _) k
  have h3 := T_conv z u n hr xs ys hx hy k
  have h4 := (pt_T xs z k).mul (pt_T ys z k)
  rw [hx, hy] at h4
  have h5 := ((h1.trans h2).trans h3).trans h4.symm
  have b := pt_range (cvL xs ys n) (pw z k)
  unfold Eqm at h5
  rw [Int.emod_eq_of_lt b.1 b.2] at h5
  exact h5
end Go.Proofs.YtlnlijeamflpiaaGreat

namespace Go.Proofs.YtlnlijeamflpiaaGreat
open Sm
set_option linter.unusedVariables false
set_option linter.unusedSimpArgs false
set_option maxRecDepth 100000
def passAt (xs ws : List Int) (s k : Nat) : Int :=
  if k / s % 2 = 0 then (nth xs (k % s + s * (k / s / 2)) + nth xs (k % s + s * (k / s / 2) + xs.length / 2)) % 18446744069414584321
  else (nth xs (k % s + s * (k / s / 2)) - nth xs (k % s + s * (k / s / 2) + xs.length / 2)) * nth ws (k / s / 2 * s) % 18446744069414584321
def passL (xs ws : List Int) (s : Nat) : List Int := (List.range xs.length).map (passAt xs ws s)
def withTo (xs ws : List Int) : Nat → List Int
  | 0 => xs.map (· % 18446744069414584321)
  | j + 1 => passL (withTo xs ws j) ws (2 ^ j)
theorem passL_len (xs ws : List Int) (s : Nat) : (passL xs ws s).length = xs.length := by simp [passL]
theorem nth_passL (xs ws : List Int) (s k : Nat) (h : k < xs.length) : nth (passL xs ws s) k = passAt xs ws s k := nth_ofFn _ _ _ h
theorem passAt_range (xs ws : List Int) (s k : Nat) : 0 ≤ passAt xs ws s k ∧ passAt xs ws s k < 18446744069414584321 := by unfold passAt; split <;> omega
theorem passL_fits (xs ws : List Int) (s : Nat) : ∀ x ∈ passL xs ws s, fits .u64 x := by
  intro x hx
  obtain ⟨k, _, rfl⟩ := List.mem_map.1 hx
  have := passAt_range xs ws s k
  exact fits_u64.2 (by omega)
theorem withTo_len (xs ws : List Int) (j : Nat) : (withTo xs ws j).length = xs.length := by
  induction j with
  | zero => simp [withTo]
  | succ j ih => simp only [withTo]; rw [passL_len, ih]
theorem withTo_range (xs ws : List Int) (j k : Nat) (hk : k < xs.length) : 0 ≤ nth (withTo xs ws j) k ∧ nth (withTo xs ws j) k < 18446744069414584321 := by
  cases j with
  | zero => simp only [withTo]; rw [nth_map _ _ _ hk]; omega
  | succ j => simp only [withTo]; rw [nth_passL _ _ _ _ (by rw [withTo_len]; exact hk)]; exact passAt_range _ _ _ _
theorem S_double (n : Nat) (f : Nat → Int) : S (2 * n) f = S n (fun i => f (2 * i)) + S n (fun i => f (2 * i + 1)) := by
  induction n with
  | zero => rfl
  | succ n ih =>
    rw [show 2 * (n + 1) = 2 * n + 1 + 1 by omega]
    simp only [S, ih]
    omega
theorem fft_step (w : Int) (s h : Nat) (hs : 0 < s) (hm1 : Eqm (w ^ (s * h)) (-1)) (X Y Z : Nat → Int)
    (hY : ∀ q t, q < s → t < 2 * h → Eqm (Y (q + s * t)) (S s (fun i => X (t + i * (2 * h)) * w ^ (q * (t + i * (2 * h))))))
    (hZ0 : ∀ q p, q < s → p < h → Eqm (Z (q + 2 * s * p)) (Y (q + s * p) + Y (q + s * (p + h))))
    (hZ1 : ∀ q p, q < s → p < h → Eqm (Z (q + s + 2 * s * p)) ((Y (q + s * p) - Y (q + s * (p + h))) * w ^ (p * s))) :
    ∀ Q p, Q < 2 * s → p < h → Eqm (Z (Q + 2 * s * p)) (S (2 * s) (fun i => X (p + i * h) * w ^ (Q * (p + i * h)))) := by
  intro Q p hQ hp
  have e0 : ∀ i, 2 * i * h = i * (2 * h) := fun i => by rw [Nat.mul_comm 2 i, Nat.mul_assoc]
  have e1 : ∀ i, (2 * i + 1) * h = i * (2 * h) + h := fun i => by rw [Nat.add_mul, e0, Nat.one_mul]
  by_cases hlt : Q < s
  · refine (hZ0 Q p hlt hp).trans ?_
    rw [S_double]
    refine ((hY Q p hlt (by omega)).add (hY Q (p + h) hlt (by omega))).trans ?_
    have a1 : S s (fun i => X (p + h + i * (2 * h)) * w ^ (Q * (p + h + i * (2 * h)))) = S s (fun i => X (p + (2 * i + 1) * h) * w ^ (Q * (p + (2 * i + 1) * h))) := S_congr fun i _ => by
      rw [e1, show p + h + i * (2 * h) = p + (i * (2 * h) + h) by omega]
    have a0 : S s (fun i => X (p + i * (2 * h)) * w ^ (Q * (p + i * (2 * h)))) = S s (fun i => X (p + 2 * i * h) * w ^ (Q * (p + 2 * i * h))) := S_congr fun i _ => by rw [e0]
    rw [a0, a1]; exact rfl' _
  · obtain ⟨q, rfl⟩ : ∃ q, Q = q + s := ⟨Q - s, by omega⟩
    refine (hZ1 q p (by omega) hp).trans ?_
    rw [S_double]
    refine (((hY q p (by omega) (by omega)).sub (hY q (p + h) (by omega) (by omega))).mul (rfl' _)).trans ?_
    rw [Int.sub_mul, ← S_mul_r, ← S_mul_r]
    have hpow : ∀ i, Eqm ((w ^ (s * h)) ^ (2 * i)) 1 := fun i => by
      rw [Int.pow_mul]
      have h1 := (hm1.pow 2).pow i
      rw [show ((-1 : Int)) ^ 2 = 1 from rfl, Int.one_pow] at h1
      exact h1
    have t0 : ∀ i, Eqm (w ^ (q * (p + i * (2 * h))) * w ^ (p * s)) (w ^ ((q + s) * (p + 2 * i * h))) := fun i => by
      have h2 : w ^ ((q + s) * (p + 2 * i * h)) = (w ^ (q * (p + i * (2 * h))) * w ^ (p * s)) * (w ^ (s * h)) ^ (2 * i) := by
        rw [← Int.pow_add, ← Int.pow_mul, ← Int.pow_add]
        congr 1
        rw [e0]; grind
      rw [h2]
      have h3 := (rfl' (w ^ (q * (p + i * (2 * h))) * w ^ (p * s))).mul (hpow i)
      rw [Int.mul_one] at h3
      exact h3.symm
    have t1 : ∀ i, Eqm (-(w ^ (q * (p + h + i * (2 * h))) * w ^ (p * s))) (w ^ ((q + s) * (p + (2 * i + 1) * h))) := fun i => by
      have h2 : w ^ ((q + s) * (p + (2 * i + 1) * h)) = (w ^ (q * (p + h + i * (2 * h))) * w ^ (p * s)) * ((w ^ (s * h)) ^ (2 * i) * w ^ (s * h)) := by
        rw [← Int.pow_add, ← Int.pow_mul, ← Int.pow_add, ← Int.pow_add]
        congr 1
        rw [e1]; grind
      rw [h2]
      have h3 := (rfl' (w ^ (q * (p + h + i * (2 * h))) * w ^ (p * s))).mul ((hpow i).mul hm1)
      rw [show (1 : Int) * -1 = -1 from rfl, Int.mul_neg, Int.mul_one] at h3
      exact h3.symm
    have b0 : Eqm (S s (fun i => X (p + i * (2 * h)) * w ^ (q * (p + i * (2 * h))) * w ^ (p * s))) (S s (fun i => X (p + 2 * i * h) * w ^ ((q + s) * (p + 2 * i * h)))) := S_eqm fun i _ => by
      rw [Int.mul_assoc, e0 i]; have := t0 i; rw [e0 i] at this; exact (rfl' _).mul this
    have b1 : Eqm (-(S s (fun i => X (p + h + i * (2 * h)) * w ^ (q * (p + h + i * (2 * h))) * w ^ (p * s)))) (S s (fun i => X (p + (2 * i + 1) * h) * w ^ ((q + s) * (p + (2 * i + 1) * h)))) := by
      have e : -(S s (fun i => X (p + h + i * (2 * h)) * w ^ (q * (p + h + i * (2 * h))) * w ^ (p * s))) = S s (fun i => -1 * (X (p + h + i * (2 * h)) * w ^ (q * (p + h + i * (2 * h))) * w ^ (p * s))) := by
        rw [S_mul]; omega
      rw [e]
      refine S_eqm fun i _ => ?_
      have := t1 i
      rw [e1 i] at this ⊢
      rw [show p + h + i * (2 * h) = p + (i * (2 * h) + h) by omega] at *
      rw [show -1 * (X (p + (i * (2 * h) + h)) * w ^ (q * (p + (i * (2 * h) + h))) * w ^ (p * s)) = X (p + (i * (2 * h) + h)) * -(w ^ (q * (p + (i * (2 * h) + h))) * w ^ (p * s)) by grind]
      exact (rfl' _).mul this
    rw [Int.sub_eq_add_neg]
    exact b0.add b1
theorem root_half {w u : Int} {n : Nat} (hr : IsRoot w u n) (h : Nat) (hn : n = 2 * h) (h0 : 0 < h) : Eqm (w ^ h) (-1) := by
  have h1 : Eqm ((w ^ h - 1) * (w ^ h + 1)) 0 := by
    have e : (w ^ h - 1) * (w ^ h + 1) = w ^ n - 1 := by
      rw [hn, show w ^ (2 * h) = w ^ h * w ^ h by rw [← Int.pow_add]; congr 1; omega]; grind
    rw [e]
    have := hr.one.sub (rfl' 1)
    rwa [Int.sub_self] at this
  have h2 := strike' _ _ (fun e => hr.least h h0 (by omega) (by
    have := e.add (rfl' 1)
    rwa [Int.sub_add_cancel, Int.zero_add] at this)) h1
  have := h2.sub (rfl' 1)
  rw [show w ^ h + 1 - 1 = w ^ h by omega, show (0 : Int) - 1 = -1 from rfl] at this
  exact this
/-- Behind j passes. -/
theorem fft_to (xs ws : List Int) (w u : Int) (m : Nat) (hr : IsRoot w u (2 ^ m)) (hx : xs.length = 2 ^ m) (hw : ∀ i, i < 2 ^ m → Eqm (nth ws i) (w ^ i)) :
    ∀ j h, 2 ^ m = 2 ^ j * h → ∀ q t, q < 2 ^ j → t < h → Eqm (nth (withTo xs ws j) (q + 2 ^ j * t)) (S (2 ^ j) (fun i => nth xs (t + i * h) * w ^ (q * (t + i * h)))) := by
  intro j
  induction j with
  | zero =>
    intro h hh q t hq ht
    rw [Nat.pow_zero] at hh hq ⊢
    have hq0 : q = 0 := by omega
    subst hq0
    rw [Nat.one_mul] at hh
    simp only [withTo, S, Nat.zero_add, Nat.one_mul, Nat.zero_mul, Nat.add_zero, Int.pow_zero, Int.mul_one, Int.zero_add]
    rw [nth_map _ _ _ (by omega)]
    exact Eqm.mod _
  | succ j ih =>
    intro h hh
    have hs : 0 < 2 ^ j := Nat.pow_pos (by omega)
    have e : 2 ^ m = 2 ^ j * (2 * h) := by rw [hh, Nat.pow_succ, Nat.mul_assoc]
    have h0 : 0 < h := Nat.pos_of_ne_zero (fun e0 => by subst e0; have : 0 < 2 ^ m := Nat.pow_pos (by omega); omega)
    have hY := ih (2 * h) e
    have hl : (withTo xs ws j).length = 2 ^ m := by rw [withTo_len, hx]
    have e2 : 2 ^ m = 2 * (2 ^ j * h) := by rw [e]; grind
    have hm1 := root_half hr (2 ^ j * h) e2 (Nat.mul_pos hs h0)
    have hhalf : 2 ^ m / 2 = 2 ^ j * h := by omega
    rw [Nat.pow_succ, Nat.mul_comm (2 ^ j) 2]
    have place : ∀ q p r, q < 2 ^ j → r < 2 → (q + 2 ^ j * r + 2 * 2 ^ j * p) % 2 ^ j = q ∧ (q + 2 ^ j * r + 2 * 2 ^ j * p) / 2 ^ j = r + 2 * p := fun q p r hq hr => by
      have e3 : q + 2 ^ j * r + 2 * 2 ^ j * p = q + 2 ^ j * (r + 2 * p) := by grind
      rw [e3]
      exact ⟨by rw [Nat.add_mul_mod_self_left, Nat.mod_eq_of_lt hq], by rw [Nat.add_mul_div_left _ _ hs, Nat.div_eq_of_lt hq, Nat.zero_add]⟩
    have inside : ∀ q p r, q < 2 ^ j → r < 2 → p < h → q + 2 ^ j * r + 2 * 2 ^ j * p < 2 ^ m := fun q p r hq hr hp => by
      have e3 : q + 2 ^ j * r + 2 * 2 ^ j * p = q + 2 ^ j * (r + 2 * p) := by grind
      have h4 : 2 ^ j * (r + 2 * p + 1) ≤ 2 ^ j * (2 * h) := Nat.mul_le_mul_left _ (by omega)
      rw [Nat.mul_add, Nat.mul_one] at h4
      omega
    refine fft_step w (2 ^ j) h hs hm1 (nth xs) (nth (withTo xs ws j)) (nth (withTo xs ws (j + 1))) hY (fun q p hq hp => ?_) (fun q p hq hp => ?_)
    · have h1 := place q p 0 hq (by omega)
      have h2 := inside q p 0 hq (by omega) hp
      rw [Nat.mul_zero, Nat.add_zero] at h1 h2
      simp only [withTo]
      rw [nth_passL _ _ _ _ (by rw [hl]; exact h2)]
      unfold passAt
      rw [h1.1, h1.2, hl, hhalf, if_pos (by omega), show (0 + 2 * p) / 2 = p by omega]
      rw [show q + 2 ^ j * p + 2 ^ j * h = q + 2 ^ j * (p + h) by rw [Nat.mul_add]; omega]
      exact Eqm.mod _
    · have h1 := place q p 1 hq (by omega)
      have h2 := inside q p 1 hq (by omega) hp
      rw [Nat.mul_one] at h1 h2
      simp only [withTo]
      rw [nth_passL _ _ _ _ (by rw [hl]; exact h2)]
      unfold passAt
      rw [h1.1, h1.2, hl, hhalf, if_neg (by omega), show (1 + 2 * p) / 2 = p by omega]
      rw [show q + 2 ^ j * p + 2 ^ j * h = q + 2 ^ j * (p + h) by rw [Nat.mul_add]; omega]
      refine (Eqm.mod _).trans ((rfl' _).mul (hw (p * 2 ^ j) ?_))
      have h5 : 2 ^ j * (p + 1) ≤ 2 ^ j * (2 * h) := Nat.mul_le_mul_left _ (by omega)
      rw [Nat.mul_add, Nat.mul_one] at h5
      rw [Nat.mul_comm p]
      omega
theorem fft_all (xs : List Int) (z u : Int) (m : Nat) (hr : IsRoot z u (2 ^ m)) (hx : xs.length = 2 ^ m) : withTo xs (powL z (2 ^ m)) m = dftL xs z := by
  apply ext_nth (by rw [withTo_len, dftL_len])
  intro k hk
  rw [withTo_len] at hk
  have h1 := fft_to xs (powL z (2 ^ m)) z u m hr hx (fun i hi => by rw [show nth (powL z (2 ^ m)) i = pw z i from nth_ofFn _ _ _ hi]; exact pw_eqm z i) m 1 (by omega) k 0 (by omega) (by omega)
  rw [Nat.mul_zero, Nat.add_zero] at h1
  have h2 := pt_T xs z k
  rw [hx] at h2
  have e : S (2 ^ m) (fun i => nth xs (0 + i * 1) * z ^ (k * (0 + i * 1))) = T (2 ^ m) z (nth xs) k := by
    unfold T
    exact S_congr fun i _ => by rw [Nat.zero_add, Nat.mul_one, Nat.mul_comm k i]
  rw [e] at h1
  rw [nth_dftL _ _ _ hk]
  have b1 := withTo_range xs (powL z (2 ^ m)) m k hk
  have b2 := pt_range xs (pw z k)
  exact eq_of_eqm (h1.trans h2.symm) b1.1 b1.2 b2.1 b2.2
theorem hasSz_pow (m : Nat) (h : m ≤ 24) : hasSz ((2 ^ m : Nat) : Int) = true := by
  have : ∀ m ∈ List.range 25, hasSz ((2 ^ m : Nat) : Int) = true := by decide
  exact this m (by simp; omega)
end Go.Proofs.YtlnlijeamflpiaaGreat

namespace Go.Proofs.YtlnlijeamflpiaaGreat
open Sm
set_option linter.unusedVariables false
set_option linter.unusedSimpArgs false
set_option maxRecDepth 100000
theorem eqm_of (a b q : Int) (h : a = b + 18446744069414584321 * q) : Eqm a b := by
  unfold Eqm; rw [h, Int.add_mul_emod_self_left]
theorem eqm_wit {a b : Int} (h : Eqm a b) : ∃ m, a = b + 18446744069414584321 * m := by
  unfold Eqm at h
  exact ⟨a / 18446744069414584321 - b / 18446744069414584321, by omega⟩
theorem dft_of (xs ys : List Int) (z u : Int) (hr : IsRoot z u xs.length) (hl : ys.length = xs.length)
    (h : ∀ k, k < xs.length → 0 ≤ nth ys k ∧ nth ys k < 18446744069414584321 ∧ Eqm (nth ys k) (S xs.length (fun i => nth xs i * z ^ (i * k % xs.length)))) : ys = dftL xs z := by
  apply ext_nth (by rw [dftL_len, hl])
  intro k hk
  rw [hl] at hk
  rw [nth_dftL _ _ _ hk]
  obtain ⟨h1, h2, h3⟩ := h k hk
  have h4 : Eqm (S xs.length (fun i => nth xs i * z ^ (i * k % xs.length))) (T xs.length z (nth xs) k) := S_eqm fun i _ => (rfl' _).mul (hr.pow_mod (i * k))
  have b := pt_range xs (pw z k)
  exact eq_of_eqm ((h3.trans h4).trans (pt_T xs z k).symm) h1 h2 b.1 b.2
theorem ipow1 (z : Int) : z ^ 1 = z := by rw [Int.pow_succ, Int.pow_zero, Int.one_mul]
theorem two_eq (a b z u v0 v1 : Int) (hr : IsRoot z u 2) (r0 : 0 ≤ v0 ∧ v0 < 18446744069414584321) (r1 : 0 ≤ v1 ∧ v1 < 18446744069414584321) (e0 : Eqm v0 (a + b)) (e1 : Eqm v1 (a + b * z)) : [v0, v1] = dftL [a, b] z := by
  refine dft_of [a, b] [v0, v1] z u hr rfl fun k hk => ?_
  have : k = 0 ∨ k = 1 := by simp at hk; omega
  rcases this with rfl | rfl
  · exact ⟨r0.1, r0.2, by simpa [S, nth, ipow1] using e0⟩
  · exact ⟨r1.1, r1.2, by simpa [S, nth, ipow1] using e1⟩
theorem three_eq (a b c z u v0 v1 v2 : Int) (hr : IsRoot z u 3) (r0 : 0 ≤ v0 ∧ v0 < 18446744069414584321) (r1 : 0 ≤ v1 ∧ v1 < 18446744069414584321) (r2 : 0 ≤ v2 ∧ v2 < 18446744069414584321)
    (e0 : Eqm v0 (a + b + c)) (e1 : Eqm v1 (a + b * z + c * z ^ 2)) (e2 : Eqm v2 (a + b * z ^ 2 + c * z)) : [v0, v1, v2] = dftL [a, b, c] z := by
  refine dft_of [a, b, c] [v0, v1, v2] z u hr rfl fun k hk => ?_
  have : k = 0 ∨ k = 1 ∨ k = 2 := by simp at hk; omega
  rcases this with rfl | rfl | rfl
  · exact ⟨r0.1, r0.2, by simpa [S, nth, ipow1] using e0⟩
  · exact ⟨r1.1, r1.2, by simpa [S, nth, ipow1] using e1⟩
  · exact ⟨r2.1, r2.2, by simpa [S, nth, ipow1] using e2⟩
theorem four_eq (a b c d z u v0 v1 v2 v3 : Int) (hr : IsRoot z u 4) (r0 : 0 ≤ v0 ∧ v0 < 18446744069414584321) (r1 : 0 ≤ v1 ∧ v1 < 18446744069414584321) (r2 : 0 ≤ v2 ∧ v2 < 18446744069414584321) (r3 : 0 ≤ v3 ∧ v3 < 18446744069414584321)
    (e0 : Eqm v0 (a + b + c + d)) (e1 : Eqm v1 (a + b * z + c * z ^ 2 + d * z ^ 3)) (e2 : Eqm v2 (a + b * z ^ 2 + c + d * z ^ 2)) (e3 : Eqm v3 (a + b * z ^ 3 + c * z ^ 2 + d * z)) : [v0, v1, v2, v3] = dftL [a, b, c, d] z := by
  refine dft_of [a, b, c, d] [v0, v1, v2, v3] z u hr rfl fun k hk => ?_
  have : k = 0 ∨ k = 1 ∨ k = 2 ∨ k = 3 := by simp at hk; omega
  rcases this with rfl | rfl | rfl | rfl
  · exact ⟨r0.1, r0.2, by simpa [S, nth, ipow1] using e0⟩
  · exact ⟨r1.1, r1.2, by simpa [S, nth, ipow1] using e1⟩
  · exact ⟨r2.1, r2.2, by simpa [S, nth, ipow1] using e2⟩
  · exact ⟨r3.1, r3.2, by simpa [S, nth, ipow1] using e3⟩
theorem five_eq (a b c d e z u v0 v1 v2 v3 v4 : Int) (hr : IsRoot z u 5) (r0 : 0 ≤ v0 ∧ v0 < 18446744069414584321) (r1 : 0 ≤ v1 ∧ v1 < 18446744069414584321) (r2 : 0 ≤ v2 ∧ v2 < 18446744069414584321) (r3 : 0 ≤ v3 ∧ v3 < 18446744069414584321) (r4 : 0 ≤ v4 ∧ v4 < 18446744069414584321)
    (e0 : Eqm v0 (a + b + c + d + e)) (e1 : Eqm v1 (a + b * z + c * z ^ 2 + d * z ^ 3 + e * z ^ 4)) (e2 : Eqm v2 (a + b * z ^ 2 + c * z ^ 4 + d * z + e * z ^ 3))
    (e3 : Eqm v3 (a + b * z ^ 3 + c * z + d * z ^ 4 + e * z ^ 2)) (e4 : Eqm v4 (a + b * z ^ 4 + c * z ^ 3 + d * z ^ 2 + e * z)) : [v0, v1, v2, v3, v4] = dftL [a, b, c, d, e] z := by
  refine dft_of [a, b, c, d, e] [v0, v1, v2, v3, v4] z u hr rfl fun k hk => ?_
  have : k = 0 ∨ k = 1 ∨ k = 2 ∨ k = 3 ∨ k = 4 := by simp at hk; omega
  rcases this with rfl | rfl | rfl | rfl | rfl
  · exact ⟨r0.1, r0.2, by simpa [S, nth, ipow1] using e0⟩
  · exact ⟨r1.1, r1.2, by simpa [S, nth, ipow1] using e1⟩
  · exact ⟨r2.1, r2.2, by simpa [S, nth, ipow1] using e2⟩
  · exact ⟨r3.1, r3.2, by simpa [S, nth, ipow1] using e3⟩
  · exact ⟨r4.1, r4.2, by simpa [S, nth, ipow1] using e4⟩
theorem one_eq (xs : List Int) (z u : Int) (hr : IsRoot z u xs.length) (hl : xs.length = 1) : xs.map (· % 18446744069414584321) = dftL xs z := by
  refine dft_of xs _ z u hr (by simp) fun k hk => ?_
  rw [nth_map (· % 18446744069414584321) xs k hk]
  refine ⟨by omega, by omega, ?_⟩
  have : k = 0 := by omega
  subst this
  rw [hl]
  simp only [S, Nat.zero_mul, Nat.zero_mod, Int.pow_zero, Int.mul_one, Int.zero_add]
  exact Eqm.mod _
def hf : Int := 9223372034707292161
theorem hf2 : 2 * hf = 18446744069414584321 + 1 := rfl
end Go.Proofs.YtlnlijeamflpiaaGreat

