/- Contracts: how two trees stand to each other by their work; the law CostOrders, the walk. -/
import Derived.Test.YtncikklhchimdaaCostF
import Derived.Test.YtncikklhchimdaaTreeG
import Derived.Test.YtncikklhchimdaaTreeO
namespace Go.Proofs.Ytncikklhchimdaa
open Go.RowKit
set_option linter.unusedVariables false
set_option linter.unusedSimpArgs false
set_option maxRecDepth 100000
set_option maxRecDepth 20000

/-- A plan's estimate; of others more than all. -/
def wt (t : Tr) : Int := if chk t = 0 then t.est else 1152921504606846977
/-- By the estimate, then as trees. -/
def wcmp (t u : Tr) : Int := orI (cmpI (wt t) (wt u)) (Tr.cmp t u)
theorem wt_bd (t : Tr) : 1 ≤ wt t ∧ wt t ≤ 1152921504606846977 := by
  unfold wt
  split
  · rename_i h
    have := est_bd (chk_zero.1 h).2
    omega
  · omega
theorem wcmp_bd (t u : Tr) : -1 ≤ wcmp t u ∧ wcmp t u ≤ 1 := Tr.orI_bd (cmpI_bd _ _) (Tr.cmp_bd _ t u (Nat.le_refl _))
theorem wcmp_neg (t u : Tr) : wcmp u t = - wcmp t u := orI_neg (cmpI_neg _ _) (fun _ => Tr.cmp_neg _ _)
theorem wcmp_self (t : Tr) : wcmp t t = 0 := by have := wcmp_neg t t; omega
theorem orL_two (x y : Int) : orL [x, y] = orI x y := by
  simp only [orL]
  unfold orI
  split <;> (try split) <;> first | rfl | omega
theorem two_boxes (w : World) (cs ds : Array Value) (T U : TypeId) : ∃ W0, (w.alloc (.cells cs T)).alloc (.cells ds U) = W0 ∧ Below w.heap.size w W0 ∧ W0.heap[w.heap.size]? = some (.cells cs T (0, 0)) ∧ W0.heap[w.heap.size + 1]? = some (.cells ds U (0, 0)) :=
  ⟨_, rfl, ((Below.refl _ _).alloc (Nat.le_refl _) _).alloc (by simp) _, block_old (by simp) (block_new rfl), block_new (by simp)⟩

theorem cost_weight (t : Tr) (k n : Int) (a : Option Addr) (m cap : Nat) (w : World) (F : Nat → Prop) (hs : t.size ≤ 4194304) (hT : IsT w F k n a m cap t) :
    Calls Try.prog 94 #[.agg #[.int .i64 k, .int .i64 n, .slice a m cap]] w fun e w' => e = .returned (.int .i64 (wt t)) ∧ Below w.heap.size w w' := by
  have CE : Hid (∀ W, Below w.heap.size w W → Calls Try.prog 39 #[.agg #[.int .i64 k, .int .i64 n, .slice a m cap]] W fun e w' => e = .returned (.tuple #[.int .i64 (if chk t = 0 then t.est else 0), .int .i64 (chk t)]) ∧ Below W.heap.size W w') := fun W hb => cost_Est t k n a m cap W F hs (hT.below hb)
  have hw : Hid (wt t = if chk t = 0 then t.est else 1152921504606846977) := rfl
  rw [hw.out]
  obtain ⟨C, hC⟩ : ∃ C, chk t = C := ⟨_, rfl⟩
  obtain ⟨E, hE⟩ : ∃ E, t.est = E := ⟨_, rfl⟩
  rw [hC, hE] at CE ⊢
  clear hC hE hT hs hw
  by_cases hc : C = 0
  · subst hc
    rw [if_pos rfl] at CE ⊢
    go_enter Try.func94, Try.ntmps94
    go_wp2_with fail
    refine (CE.out _ ((Below.refl _ _).alloc (Nat.le_refl _) _)).mono ?_; rintro e w1 ⟨rfl, hb⟩
    have hb1 := chainA (Below.refl w.heap.size w) hb
    clear hb
    go_wp2_with fail
    go_ret
    exact ⟨rfl, hb1⟩
  · have t1 : (C == 0) = false := bno hc
    rw [if_neg hc] at CE ⊢
    clear hc
    go_enter Try.func94, Try.ntmps94
    go_wp2_with fail
    refine (CE.out _ ((Below.refl _ _).alloc (Nat.le_refl _) _)).mono ?_; rintro e w1 ⟨rfl, hb⟩
    have hb1 := chainA (Below.refl w.heap.size w) hb
    clear hb
    go_wp2_with fail
    go_ret
    exact ⟨rfl, hb1⟩

set_option maxHeartbeats 2000000 in
theorem cost_Cmp (t u : Tr) (k n : Int) (a : Option Addr) (m c : Nat) (k' n' : Int) (a' : Option Addr) (m' c' : Nat) (w : World) (F G : Nat → Prop) (hs : t.size ≤ 4194304) (hu : u.size ≤ 4194304) (hT : IsT w F k n a m c t) (hU : IsT w G k' n' a' m' c' u) :
    Calls Try.prog 51 #[.agg #[.int .i64 k, .int .i64 n, .slice a m c], .agg #[.int .i64 k', .int .i64 n', .slice a' m' c']] w fun e w' => e = .returned (.int .i64 (wcmp t u)) ∧ Below w.heap.size w w' := by
  have C0 : Hid (∀ W, Below w.heap.size w W → Calls Try.prog 94 #[.agg #[.int .i64 k, .int .i64 n, .slice a m c]] W fun e w' => e = .returned (.int .i64 (wt t)) ∧ Below W.heap.size W w') := fun W hb => cost_weight t _ _ _ _ _ W F hs (hT.below hb)
  have C1 : Hid (∀ W, Below w.heap.size w W → Calls Try.prog 94 #[.agg #[.int .i64 k', .int .i64 n', .slice a' m' c']] W fun e w' => e = .returned (.int .i64 (wt u)) ∧ Below W.heap.size W w') := fun W hb => cost_weight u _ _ _ _ _ W G hu (hU.below hb)
  have CD : Hid (∀ W, Below w.heap.size w W → Calls Try.prog 95 #[.agg #[.int .i64 k, .int .i64 n, .slice a m c], .agg #[.int .i64 k', .int .i64 n', .slice a' m' c']] W fun e w' => e = .returned (.int .i64 (Tr.cmp t u)) ∧ Below W.heap.size W w') := fun W hb => desc_Cmp 4194304 (by omega) _ _ _ _ _ _ _ _ _ _ _ _ W _ _ hs hu (hT.below hb) (hU.below hb)
  have bt := wt_bd t
  have bu := wt_bd u
  have HR : Hid (wcmp t u = orI (cmpI (wt t) (wt u)) (Tr.cmp t u)) := rfl
  rw [HR.out]
  have bq := Tr.cmp_bd _ t u (Nat.le_refl _)
  obtain ⟨x, hx⟩ : ∃ x, wt t = x := ⟨_, rfl⟩
  obtain ⟨y, hy⟩ : ∃ y, wt u = y := ⟨_, rfl⟩
  obtain ⟨q, hq⟩ : ∃ q, Tr.cmp t u = q := ⟨_, rfl⟩
  rw [hx] at C0 bt ⊢
  rw [hy] at C1 bu ⊢
  rw [hq] at CD bq ⊢
  clear hx hy hq HR hT hU hs hu
  have CC : Hid (∀ W, Calls Try.prog 93 #[.int .i64 x, .int .i64 y] W fun e w' => e = .returned (.int .i64 (cmpI x y)) ∧ W = w') := fun W => cmp_Compare _ _ _
  have bp := cmpI_bd x y
  obtain ⟨p, hp⟩ : ∃ p, cmpI x y = p := ⟨_, rfl⟩
  rw [hp] at CC bp ⊢
  have COr : Hid (∀ W : World, Calls Try.prog 92 #[.slice (some ⟨W.heap.size, 0, none⟩) 2 2] (W.alloc (.cells #[.int .i64 p, .int .i64 q] 3)) fun e w' => e = .returned (.int .i64 (orI p q)) ∧ W.alloc (.cells #[.int .i64 p, .int .i64 q] 3) = w') := fun W => by
    have := cmp_Or (some ⟨W.heap.size, 0, none⟩) 2 2 [p, q] (W.alloc (.cells #[.int .i64 p, .int .i64 q] 3)) (row_new .i64 W 3 [p, q] (by
      intro z hz
      simp only [List.mem_cons, List.not_mem_nil, or_false] at hz
      rcases hz with rfl | rfl <;> exact fits_i64.2 (by omega)) (by simp)) rfl (by omega)
    rwa [orL_two] at this
  clear hp bt bu bp bq
  obtain ⟨W0, hW0, hb0, x0, x1⟩ := two_boxes w #[.int .i64 k, .int .i64 n, .slice a m c] #[.int .i64 k', .int .i64 n', .slice a' m' c'] 24 24
  have HB := Lib.hid hb0
  have HW0 := Lib.hid hW0
  have XD := Lib.hid x0
  have XE := Lib.hid x1
  clear hb0 hW0 x0 x1
  go_enter Try.func51, Try.ntmps51
  go_wp2_with fail
  rw [HW0.out]
  have D0 : W0.cell? ⟨w.heap.size, 0, none⟩ = some (.int .i64 k) := block_cell XD.out 0
  have D1 : W0.cell? ⟨w.heap.size, 1, none⟩ = some (.int .i64 n) := block_cell XD.out 1
  have D2 : W0.cell? ⟨w.heap.size, 2, none⟩ = some (.slice a m c) := block_cell XD.out 2
  have E0 : W0.cell? ⟨w.heap.size + 1, 0, none⟩ = some (.int .i64 k') := block_cell XE.out 0
  have E1 : W0.cell? ⟨w.heap.size + 1, 1, none⟩ = some (.int .i64 n') := block_cell XE.out 1
  have E2 : W0.cell? ⟨w.heap.size + 1, 2, none⟩ = some (.slice a' m' c') := block_cell XE.out 2
  have lD := block_lt XD.out
  have lE := block_lt XE.out
  have hb : Below W0.heap.size W0 W0.drew := (Below.refl _ _).drew
  go_region_held3 (fun w' => (w'.cell? ⟨w.heap.size, 0, none⟩ = some (.int .i64 k) ∧ w'.cell? ⟨w.heap.size, 1, none⟩ = some (.int .i64 n) ∧ w'.cell? ⟨w.heap.size, 2, none⟩ = some (.slice a m c)) ∧ (w'.cell? ⟨w.heap.size + 1, 0, none⟩ = some (.int .i64 k') ∧ w'.cell? ⟨w.heap.size + 1, 1, none⟩ = some (.int .i64 n') ∧ w'.cell? ⟨w.heap.size + 1, 2, none⟩ = some (.slice a' m' c'))) (first | exact ⟨⟨D0, D1, D2⟩, E0, E1, E2⟩ | exact ⟨⟨(hb.cell (p := ⟨w.heap.size, 0, none⟩) lD).trans D0, (hb.cell (p := ⟨w.heap.size, 1, none⟩) lD).trans D1, (hb.cell (p := ⟨w.heap.size, 2, none⟩) lD).trans D2⟩, (hb.cell (p := ⟨w.heap.size + 1, 0, none⟩) lE).trans E0, (hb.cell (p := ⟨w.heap.size + 1, 1, none⟩) lE).trans E1, (hb.cell (p := ⟨w.heap.size + 1, 2, none⟩) lE).trans E2⟩ | exact ⟨⟨((hb.alloc hb.size _).cell (p := ⟨w.heap.size, 0, none⟩) lD).trans D0, ((hb.alloc hb.size _).cell (p := ⟨w.heap.size, 1, none⟩) lD).trans D1, ((hb.alloc hb.size _).cell (p := ⟨w.heap.size, 2, none⟩) lD).trans D2⟩, ((hb.alloc hb.size _).cell (p := ⟨w.heap.size + 1, 0, none⟩) lE).trans E0, ((hb.alloc hb.size _).cell (p := ⟨w.heap.size + 1, 1, none⟩) lE).trans E1, ((hb.alloc hb.size _).cell (p := ⟨w.heap.size + 1, 2, none⟩) lE).trans E2⟩) ((first | (go_at_call 94; ((with_reducible refine (C0.out _ (chain HB.out hb)).mono ?_); rintro e z ⟨rfl, hc⟩; have hb := chain hb hc)) | (go_at_call 94; ((with_reducible refine (C1.out _ (chain HB.out hb)).mono ?_); rintro e z ⟨rfl, hc⟩; have hb := chain hb hc)) | (go_at_call 93; ((with_reducible refine (CC.out _).mono ?_); rintro e z ⟨rfl, rfl⟩)) | (go_at_call 95; ((with_reducible refine (CD.out _ (chain HB.out hb)).mono ?_); rintro e z ⟨rfl, hc⟩; have hb := chain hb hc)) | (go_at_call 92; ((with_reducible refine (COr.out _).mono ?_); rintro e z ⟨rfl, rfl⟩))))
  all_goals
    go_wp2_with fail
    go_ret
    exact ⟨rfl, chain HB.out (hb.alloc hb.size _)⟩
  
set_option maxHeartbeats 2000000 in
theorem ref18_Cmp (t u : Tr) (k n : Int) (a : Option Addr) (m c : Nat) (k' n' : Int) (a' : Option Addr) (m' c' : Nat) (w : World) (B : Nat) (hB : B ≤ w.heap.size) (hs : t.size ≤ 4194304) (hu : u.size ≤ 4194304) (hT : IsT w (Lt B) k n a m c t) (hU : IsT w (Lt B) k' n' a' m' c' u) :
    Calls Try.prog 52 #[.agg #[.int .i64 k, .int .i64 n, .slice a m c], .agg #[.int .i64 k', .int .i64 n', .slice a' m' c']] w fun e w' => e = .returned (.int .i64 (wcmp t u)) ∧ Below w.heap.size w w' := by
  have K0 : Hid (∀ W, Below w.heap.size w W → Calls Try.prog 23 #[.agg #[.int .i64 k, .int .i64 n, .slice a m c]] W fun e w' => e = .returned (.int .i64 (chk t)) ∧ Below W.heap.size W w') := fun W hb => ref14_Check t _ _ _ _ _ W B (Nat.le_trans hB hb.size) hs (hT.below hb)
  have K1 : Hid (∀ W, Below w.heap.size w W → Calls Try.prog 23 #[.agg #[.int .i64 k', .int .i64 n', .slice a' m' c']] W fun e w' => e = .returned (.int .i64 (chk u)) ∧ Below W.heap.size W w') := fun W hb => ref14_Check u _ _ _ _ _ W B (Nat.le_trans hB hb.size) hu (hU.below hb)
  have P0 : Hid (chk t = 0 → ∀ W, Below w.heap.size w W → Calls Try.prog 40 #[.agg #[.int .i64 k, .int .i64 n, .slice a m c]] W fun e w' => e = .returned (.int .i64 t.est) ∧ Below W.heap.size W w') := fun h W hb => ref18_Est 4194304 (by omega) t _ _ _ _ _ W _ hs (hT.below hb) (chk_zero.1 h).2
  have P1 : Hid (chk u = 0 → ∀ W, Below w.heap.size w W → Calls Try.prog 40 #[.agg #[.int .i64 k', .int .i64 n', .slice a' m' c']] W fun e w' => e = .returned (.int .i64 u.est) ∧ Below W.heap.size W w') := fun h W hb => ref18_Est 4194304 (by omega) u _ _ _ _ _ W _ hu (hU.below hb) (chk_zero.1 h).2
  have CD : Hid (∀ W, Below w.heap.size w W → Calls Try.prog 77 #[.agg #[.int .i64 k, .int .i64 n, .slice a m c], .agg #[.int .i64 k', .int .i64 n', .slice a' m' c']] W fun e w' => e = .returned (.int .i64 (Tr.cmp t u)) ∧ Below W.heap.size W w') := fun W hb => ref13_Cmp 4194304 (by omega) _ _ _ _ _ _ _ _ _ _ _ _ W _ _ hs hu (hT.below hb) (hU.below hb)
  have HR : Hid (wcmp t u = orI (cmpI (wt t) (wt u)) (Tr.cmp t u)) := rfl
  rw [HR.out]
  have h0 : (chk t = 0 ∧ wt t = t.est ∧ wt t ≤ 1152921504606846976) ∨ (chk t ≠ 0 ∧ wt t = 1152921504606846977) := by
    by_cases h : chk t = 0
    · exact .inl ⟨h, if_pos h, by have := est_bd (chk_zero.1 h).2; unfold wt; rw [if_pos h]; omega⟩
    · exact .inr ⟨h, if_neg h⟩
  have h1 : (chk u = 0 ∧ wt u = u.est ∧ wt u ≤ 1152921504606846976) ∨ (chk u ≠ 0 ∧ wt u = 1152921504606846977) := by
    by_cases h : chk u = 0
    · exact .inl ⟨h, if_pos h, by have := est_bd (chk_zero.1 h).2; unfold wt; rw [if_pos h]; omega⟩
    · exact .inr ⟨h, if_neg h⟩
  have bt := (wt_bd t).1
  have bu := (wt_bd u).1
  obtain ⟨x, hx⟩ : ∃ x, wt t = x := ⟨_, rfl⟩
  obtain ⟨y, hy⟩ : ∃ y, wt u = y := ⟨_, rfl⟩
  obtain ⟨q, hq⟩ : ∃ q, Tr.cmp t u = q := ⟨_, rfl⟩
  obtain ⟨X, hX⟩ : ∃ x, chk t = x := ⟨_, rfl⟩
  obtain ⟨Y, hY⟩ : ∃ x, chk u = x := ⟨_, rfl⟩
  obtain ⟨x', hx'⟩ : ∃ x, t.est = x := ⟨_, rfl⟩
  obtain ⟨y', hy'⟩ : ∃ x, u.est = x := ⟨_, rfl⟩
  rw [hx, hX, hx'] at h0
  rw [hy, hY, hy'] at h1
  rw [hx] at bt
  rw [hy] at bu
  rw [hx, hy, hq]
  rw [hX, hx'] at P0
  rw [hY, hy'] at P1
  rw [hX] at K0
  rw [hY] at K1
  rw [hq] at CD
  clear hx hy hq HR hT hU hs hu hB hX hY hx' hy'
  obtain ⟨W0, hW0, hb0, x0, x1⟩ := two_boxes w #[.int .i64 k, .int .i64 n, .slice a m c] #[.int .i64 k', .int .i64 n', .slice a' m' c'] 24 24
  have HB := Lib.hid hb0
  have HW0 := Lib.hid hW0
  have XD := Lib.hid x0
  have XE := Lib.hid x1
  clear hb0 hW0 x0 x1
  rcases h0 with ⟨e0, rfl, b0⟩ | ⟨e0, rfl⟩ <;> rcases h1 with ⟨e1, rfl, b1⟩ | ⟨e1, rfl⟩
  · skip
    subst e0
    have Q0 := Lib.hid (P0.out rfl)
    clear P0
    subst e1
    have Q1 := Lib.hid (P1.out rfl)
    clear P1
    rcases Int.lt_trichotomy x y with hr | rfl | hr
    · skip
      rw [show orI (cmpI x y) q = -1 by unfold cmpI; rw [if_pos (by omega)]; rfl]
      have d1 : decide (x < y) = true := by simp; omega
      have D0 : W0.cell? ⟨w.heap.size, 0, none⟩ = some (.int .i64 k) := block_cell XD.out 0
      have D1 : W0.cell? ⟨w.heap.size, 1, none⟩ = some (.int .i64 n) := block_cell XD.out 1
      have D2 : W0.cell? ⟨w.heap.size, 2, none⟩ = some (.slice a m c) := block_cell XD.out 2
      go_enter Try.func52, Try.ntmps52
      go_wp2_with fail
      rw [HW0.out]
      refine (K0.out _ HB.out).mono ?_; rintro e v1 ⟨rfl, hb1⟩
      clear D0 D1 D2
      have XD := Lib.hid ((hb1.block _ (block_lt XD.out)).trans XD.out)
      have XE := Lib.hid ((hb1.block _ (block_lt XE.out)).trans XE.out)
      have HB := Lib.hid (chain HB.out hb1)
      clear hb1
      have D0 : v1.cell? ⟨w.heap.size, 0, none⟩ = some (.int .i64 k) := block_cell XD.out 0
      have D1 : v1.cell? ⟨w.heap.size, 1, none⟩ = some (.int .i64 n) := block_cell XD.out 1
      have D2 : v1.cell? ⟨w.heap.size, 2, none⟩ = some (.slice a m c) := block_cell XD.out 2
      go_wp2_with fail
      refine (Q0.out _ HB.out).mono ?_; rintro e v2 ⟨rfl, hb2⟩
      clear D0 D1 D2
      have XD := Lib.hid ((hb2.block _ (block_lt XD.out)).trans XD.out)
      have XE := Lib.hid ((hb2.block _ (block_lt XE.out)).trans XE.out)
      have HB := Lib.hid (chain HB.out hb2)
      clear hb2
      have E0 : v2.cell? ⟨w.heap.size + 1, 0, none⟩ = some (.int .i64 k') := block_cell XE.out 0
      have E1 : v2.cell? ⟨w.heap.size + 1, 1, none⟩ = some (.int .i64 n') := block_cell XE.out 1
      have E2 : v2.cell? ⟨w.heap.size + 1, 2, none⟩ = some (.slice a' m' c') := block_cell XE.out 2
      go_wp2_with fail
      refine (K1.out _ HB.out).mono ?_; rintro e v3 ⟨rfl, hb3⟩
      clear E0 E1 E2
      have XD := Lib.hid ((hb3.block _ (block_lt XD.out)).trans XD.out)
      have XE := Lib.hid ((hb3.block _ (block_lt XE.out)).trans XE.out)
      have HB := Lib.hid (chain HB.out hb3)
      clear hb3
      have E0 : v3.cell? ⟨w.heap.size + 1, 0, none⟩ = some (.int .i64 k') := block_cell XE.out 0
      have E1 : v3.cell? ⟨w.heap.size + 1, 1, none⟩ = some (.int .i64 n') := block_cell XE.out 1
      have E2 : v3.cell? ⟨w.heap.size + 1, 2, none⟩ = some (.slice a' m' c') := block_cell XE.out 2
      go_wp2_with fail
      refine (Q1.out _ HB.out).mono ?_; rintro e v4 ⟨rfl, hb4⟩
      clear E0 E1 E2
      have XD := Lib.hid ((hb4.block _ (block_lt XD.out)).trans XD.out)
      have XE := Lib.hid ((hb4.block _ (block_lt XE.out)).trans XE.out)
      have HB := Lib.hid (chain HB.out hb4)
      clear hb4
      go_wp2_with fail
      go_ret
      exact ⟨rfl, HB.out⟩
    · skip
      rw [show orI (cmpI x x) q = q by unfold cmpI; rw [if_neg (by omega), if_neg (by omega)]; rfl]
      have d1 : decide (x < x) = false := by simp
      have d2 : decide (x > x) = false := by simp
      have D0 : W0.cell? ⟨w.heap.size, 0, none⟩ = some (.int .i64 k) := block_cell XD.out 0
      have D1 : W0.cell? ⟨w.heap.size, 1, none⟩ = some (.int .i64 n) := block_cell XD.out 1
      have D2 : W0.cell? ⟨w.heap.size, 2, none⟩ = some (.slice a m c) := block_cell XD.out 2
      go_enter Try.func52, Try.ntmps52
      go_wp2_with fail
      rw [HW0.out]
      refine (K0.out _ HB.out).mono ?_; rintro e v1 ⟨rfl, hb1⟩
      clear D0 D1 D2
      have XD := Lib.hid ((hb1.block _ (block_lt XD.out)).trans XD.out)
      have XE := Lib.hid ((hb1.block _ (block_lt XE.out)).trans XE.out)
      have HB := Lib.hid (chain HB.out hb1)
      clear hb1
      have D0 : v1.cell? ⟨w.heap.size, 0, none⟩ = some (.int .i64 k) := block_cell XD.out 0
      have D1 : v1.cell? ⟨w.heap.size, 1, none⟩ = some (.int .i64 n) := block_cell XD.out 1
      have D2 : v1.cell? ⟨w.heap.size, 2, none⟩ = some (.slice a m c) := block_cell XD.out 2
      go_wp2_with fail
      refine (Q0.out _ HB.out).mono ?_; rintro e v2 ⟨rfl, hb2⟩
      clear D0 D1 D2
      have XD := Lib.hid ((hb2.block _ (block_lt XD.out)).trans XD.out)
      have XE := Lib.hid ((hb2.block _ (block_lt XE.out)).trans XE.out)
      have HB := Lib.hid (chain HB.out hb2)
      clear hb2
      have E0 : v2.cell? ⟨w.heap.size + 1, 0, none⟩ = some (.int .i64 k') := block_cell XE.out 0
      have E1 : v2.cell? ⟨w.heap.size + 1, 1, none⟩ = some (.int .i64 n') := block_cell XE.out 1
      have E2 : v2.cell? ⟨w.heap.size + 1, 2, none⟩ = some (.slice a' m' c') := block_cell XE.out 2
      go_wp2_with fail
      refine (K1.out _ HB.out).mono ?_; rintro e v3 ⟨rfl, hb3⟩
      clear E0 E1 E2
      have XD := Lib.hid ((hb3.block _ (block_lt XD.out)).trans XD.out)
      have XE := Lib.hid ((hb3.block _ (block_lt XE.out)).trans XE.out)
      have HB := Lib.hid (chain HB.out hb3)
      clear hb3
      have E0 : v3.cell? ⟨w.heap.size + 1, 0, none⟩ = some (.int .i64 k') := block_cell XE.out 0
      have E1 : v3.cell? ⟨w.heap.size + 1, 1, none⟩ = some (.int .i64 n') := block_cell XE.out 1
      have E2 : v3.cell? ⟨w.heap.size + 1, 2, none⟩ = some (.slice a' m' c') := block_cell XE.out 2
      go_wp2_with fail
      refine (Q1.out _ HB.out).mono ?_; rintro e v4 ⟨rfl, hb4⟩
      clear E0 E1 E2
      have XD := Lib.hid ((hb4.block _ (block_lt XD.out)).trans XD.out)
      have XE := Lib.hid ((hb4.block _ (block_lt XE.out)).trans XE.out)
      have HB := Lib.hid (chain HB.out hb4)
      clear hb4
      have D0 : v4.cell? ⟨w.heap.size, 0, none⟩ = some (.int .i64 k) := block_cell XD.out 0
      have D1 : v4.cell? ⟨w.heap.size, 1, none⟩ = some (.int .i64 n) := block_cell XD.out 1
      have D2 : v4.cell? ⟨w.heap.size, 2, none⟩ = some (.slice a m c) := block_cell XD.out 2
      have E0 : v4.cell? ⟨w.heap.size + 1, 0, none⟩ = some (.int .i64 k') := block_cell XE.out 0
      have E1 : v4.cell? ⟨w.heap.size + 1, 1, none⟩ = some (.int .i64 n') := block_cell XE.out 1
      have E2 : v4.cell? ⟨w.heap.size + 1, 2, none⟩ = some (.slice a' m' c') := block_cell XE.out 2
      go_wp2_with fail
      refine (CD.out _ HB.out).mono ?_; rintro e v5 ⟨rfl, hb5⟩
      clear D0 D1 D2 E0 E1 E2
      have XD := Lib.hid ((hb5.block _ (block_lt XD.out)).trans XD.out)
      have XE := Lib.hid ((hb5.block _ (block_lt XE.out)).trans XE.out)
      have HB := Lib.hid (chain HB.out hb5)
      clear hb5
      go_wp2_with fail
      go_ret
      exact ⟨rfl, HB.out⟩
    · skip
      rw [show orI (cmpI x y) q = 1 by unfold cmpI; rw [if_neg (by omega), if_pos (by omega)]; rfl]
      have d1 : decide (x < y) = false := by simp; omega
      have d2 : decide (x > y) = true := by simp; omega
      have D0 : W0.cell? ⟨w.heap.size, 0, none⟩ = some (.int .i64 k) := block_cell XD.out 0
      have D1 : W0.cell? ⟨w.heap.size, 1, none⟩ = some (.int .i64 n) := block_cell XD.out 1
      have D2 : W0.cell? ⟨w.heap.size, 2, none⟩ = some (.slice a m c) := block_cell XD.out 2
      go_enter Try.func52, Try.ntmps52
      go_wp2_with fail
      rw [HW0.out]
      refine (K0.out _ HB.out).mono ?_; rintro e v1 ⟨rfl, hb1⟩
      clear D0 D1 D2
      have XD := Lib.hid ((hb1.block _ (block_lt XD.out)).trans XD.out)
      have XE := Lib.hid ((hb1.block _ (block_lt XE.out)).trans XE.out)
      have HB := Lib.hid (chain HB.out hb1)
      clear hb1
      have D0 : v1.cell? ⟨w.heap.size, 0, none⟩ = some (.int .i64 k) := block_cell XD.out 0
      have D1 : v1.cell? ⟨w.heap.size, 1, none⟩ = some (.int .i64 n) := block_cell XD.out 1
      have D2 : v1.cell? ⟨w.heap.size, 2, none⟩ = some (.slice a m c) := block_cell XD.out 2
      go_wp2_with fail
      refine (Q0.out _ HB.out).mono ?_; rintro e v2 ⟨rfl, hb2⟩
      clear D0 D1 D2
      have XD := Lib.hid ((hb2.block _ (block_lt XD.out)).trans XD.out)
      have XE := Lib.hid ((hb2.block _ (block_lt XE.out)).trans XE.out)
      have HB := Lib.hid (chain HB.out hb2)
      clear hb2
      have E0 : v2.cell? ⟨w.heap.size + 1, 0, none⟩ = some (.int .i64 k') := block_cell XE.out 0
      have E1 : v2.cell? ⟨w.heap.size + 1, 1, none⟩ = some (.int .i64 n') := block_cell XE.out 1
      have E2 : v2.cell? ⟨w.heap.size + 1, 2, none⟩ = some (.slice a' m' c') := block_cell XE.out 2
      go_wp2_with fail
      refine (K1.out _ HB.out).mono ?_; rintro e v3 ⟨rfl, hb3⟩
      clear E0 E1 E2
      have XD := Lib.hid ((hb3.block _ (block_lt XD.out)).trans XD.out)
      have XE := Lib.hid ((hb3.block _ (block_lt XE.out)).trans XE.out)
      have HB := Lib.hid (chain HB.out hb3)
      clear hb3
      have E0 : v3.cell? ⟨w.heap.size + 1, 0, none⟩ = some (.int .i64 k') := block_cell XE.out 0
      have E1 : v3.cell? ⟨w.heap.size + 1, 1, none⟩ = some (.int .i64 n') := block_cell XE.out 1
      have E2 : v3.cell? ⟨w.heap.size + 1, 2, none⟩ = some (.slice a' m' c') := block_cell XE.out 2
      go_wp2_with fail
      refine (Q1.out _ HB.out).mono ?_; rintro e v4 ⟨rfl, hb4⟩
      clear E0 E1 E2
      have XD := Lib.hid ((hb4.block _ (block_lt XD.out)).trans XD.out)
      have XE := Lib.hid ((hb4.block _ (block_lt XE.out)).trans XE.out)
      have HB := Lib.hid (chain HB.out hb4)
      clear hb4
      go_wp2_with fail
      go_ret
      exact ⟨rfl, HB.out⟩
  · skip
    subst e0
    have Q0 := Lib.hid (P0.out rfl)
    clear P0
    have t1 : (Y == 0) = false := bno e1
    clear e1 P1
    rw [show orI (cmpI x 1152921504606846977) q = -1 by unfold cmpI; rw [if_pos (by omega)]; rfl]
    have d1 : decide (x < 1152921504606846977) = true := by simp; omega
    have D0 : W0.cell? ⟨w.heap.size, 0, none⟩ = some (.int .i64 k) := block_cell XD.out 0
    have D1 : W0.cell? ⟨w.heap.size, 1, none⟩ = some (.int .i64 n) := block_cell XD.out 1
    have D2 : W0.cell? ⟨w.heap.size, 2, none⟩ = some (.slice a m c) := block_cell XD.out 2
    go_enter Try.func52, Try.ntmps52
    go_wp2_with fail
    rw [HW0.out]
    refine (K0.out _ HB.out).mono ?_; rintro e v1 ⟨rfl, hb1⟩
    clear D0 D1 D2
    have XD := Lib.hid ((hb1.block _ (block_lt XD.out)).trans XD.out)
    have XE := Lib.hid ((hb1.block _ (block_lt XE.out)).trans XE.out)
    have HB := Lib.hid (chain HB.out hb1)
    clear hb1
    have D0 : v1.cell? ⟨w.heap.size, 0, none⟩ = some (.int .i64 k) := block_cell XD.out 0
    have D1 : v1.cell? ⟨w.heap.size, 1, none⟩ = some (.int .i64 n) := block_cell XD.out 1
    have D2 : v1.cell? ⟨w.heap.size, 2, none⟩ = some (.slice a m c) := block_cell XD.out 2
    go_wp2_with fail
    refine (Q0.out _ HB.out).mono ?_; rintro e v2 ⟨rfl, hb2⟩
    clear D0 D1 D2
    have XD := Lib.hid ((hb2.block _ (block_lt XD.out)).trans XD.out)
    have XE := Lib.hid ((hb2.block _ (block_lt XE.out)).trans XE.out)
    have HB := Lib.hid (chain HB.out hb2)
    clear hb2
    have E0 : v2.cell? ⟨w.heap.size + 1, 0, none⟩ = some (.int .i64 k') := block_cell XE.out 0
    have E1 : v2.cell? ⟨w.heap.size + 1, 1, none⟩ = some (.int .i64 n') := block_cell XE.out 1
    have E2 : v2.cell? ⟨w.heap.size + 1, 2, none⟩ = some (.slice a' m' c') := block_cell XE.out 2
    go_wp2_with fail
    refine (K1.out _ HB.out).mono ?_; rintro e v3 ⟨rfl, hb3⟩
    clear E0 E1 E2
    have XD := Lib.hid ((hb3.block _ (block_lt XD.out)).trans XD.out)
    have XE := Lib.hid ((hb3.block _ (block_lt XE.out)).trans XE.out)
    have HB := Lib.hid (chain HB.out hb3)
    clear hb3
    go_wp2_with fail
    go_ret
    exact ⟨rfl, HB.out⟩
  · skip
    have t0 : (X == 0) = false := bno e0
    clear e0 P0
    subst e1
    have Q1 := Lib.hid (P1.out rfl)
    clear P1
    rw [show orI (cmpI 1152921504606846977 y) q = 1 by unfold cmpI; rw [if_neg (by omega), if_pos (by omega)]; rfl]
    have d1 : decide (1152921504606846977 < y) = false := by simp; omega
    have d2 : decide (1152921504606846977 > y) = true := by simp; omega
    have D0 : W0.cell? ⟨w.heap.size, 0, none⟩ = some (.int .i64 k) := block_cell XD.out 0
    have D1 : W0.cell? ⟨w.heap.size, 1, none⟩ = some (.int .i64 n) := block_cell XD.out 1
    have D2 : W0.cell? ⟨w.heap.size, 2, none⟩ = some (.slice a m c) := block_cell XD.out 2
    go_enter Try.func52, Try.ntmps52
    go_wp2_with fail
    rw [HW0.out]
    refine (K0.out _ HB.out).mono ?_; rintro e v1 ⟨rfl, hb1⟩
    clear D0 D1 D2
    have XD := Lib.hid ((hb1.block _ (block_lt XD.out)).trans XD.out)
    have XE := Lib.hid ((hb1.block _ (block_lt XE.out)).trans XE.out)
    have HB := Lib.hid (chain HB.out hb1)
    clear hb1
    have E0 : v1.cell? ⟨w.heap.size + 1, 0, none⟩ = some (.int .i64 k') := block_cell XE.out 0
    have E1 : v1.cell? ⟨w.heap.size + 1, 1, none⟩ = some (.int .i64 n') := block_cell XE.out 1
    have E2 : v1.cell? ⟨w.heap.size + 1, 2, none⟩ = some (.slice a' m' c') := block_cell XE.out 2
    go_wp2_with fail
    refine (K1.out _ HB.out).mono ?_; rintro e v2 ⟨rfl, hb2⟩
    clear E0 E1 E2
    have XD := Lib.hid ((hb2.block _ (block_lt XD.out)).trans XD.out)
    have XE := Lib.hid ((hb2.block _ (block_lt XE.out)).trans XE.out)
    have HB := Lib.hid (chain HB.out hb2)
    clear hb2
    have E0 : v2.cell? ⟨w.heap.size + 1, 0, none⟩ = some (.int .i64 k') := block_cell XE.out 0
    have E1 : v2.cell? ⟨w.heap.size + 1, 1, none⟩ = some (.int .i64 n') := block_cell XE.out 1
    have E2 : v2.cell? ⟨w.heap.size + 1, 2, none⟩ = some (.slice a' m' c') := block_cell XE.out 2
    go_wp2_with fail
    refine (Q1.out _ HB.out).mono ?_; rintro e v3 ⟨rfl, hb3⟩
    clear E0 E1 E2
    have XD := Lib.hid ((hb3.block _ (block_lt XD.out)).trans XD.out)
    have XE := Lib.hid ((hb3.block _ (block_lt XE.out)).trans XE.out)
    have HB := Lib.hid (chain HB.out hb3)
    clear hb3
    go_wp2_with fail
    go_ret
    exact ⟨rfl, HB.out⟩
  · skip
    have t0 : (X == 0) = false := bno e0
    clear e0 P0
    have t1 : (Y == 0) = false := bno e1
    clear e1 P1
    rw [show orI (cmpI 1152921504606846977 1152921504606846977) q = q by unfold cmpI; rw [if_neg (by omega), if_neg (by omega)]; rfl]
    have D0 : W0.cell? ⟨w.heap.size, 0, none⟩ = some (.int .i64 k) := block_cell XD.out 0
    have D1 : W0.cell? ⟨w.heap.size, 1, none⟩ = some (.int .i64 n) := block_cell XD.out 1
    have D2 : W0.cell? ⟨w.heap.size, 2, none⟩ = some (.slice a m c) := block_cell XD.out 2
    go_enter Try.func52, Try.ntmps52
    go_wp2_with fail
    rw [HW0.out]
    refine (K0.out _ HB.out).mono ?_; rintro e v1 ⟨rfl, hb1⟩
    clear D0 D1 D2
    have XD := Lib.hid ((hb1.block _ (block_lt XD.out)).trans XD.out)
    have XE := Lib.hid ((hb1.block _ (block_lt XE.out)).trans XE.out)
    have HB := Lib.hid (chain HB.out hb1)
    clear hb1
    have E0 : v1.cell? ⟨w.heap.size + 1, 0, none⟩ = some (.int .i64 k') := block_cell XE.out 0
    have E1 : v1.cell? ⟨w.heap.size + 1, 1, none⟩ = some (.int .i64 n') := block_cell XE.out 1
    have E2 : v1.cell? ⟨w.heap.size + 1, 2, none⟩ = some (.slice a' m' c') := block_cell XE.out 2
    go_wp2_with fail
    refine (K1.out _ HB.out).mono ?_; rintro e v2 ⟨rfl, hb2⟩
    clear E0 E1 E2
    have XD := Lib.hid ((hb2.block _ (block_lt XD.out)).trans XD.out)
    have XE := Lib.hid ((hb2.block _ (block_lt XE.out)).trans XE.out)
    have HB := Lib.hid (chain HB.out hb2)
    clear hb2
    have D0 : v2.cell? ⟨w.heap.size, 0, none⟩ = some (.int .i64 k) := block_cell XD.out 0
    have D1 : v2.cell? ⟨w.heap.size, 1, none⟩ = some (.int .i64 n) := block_cell XD.out 1
    have D2 : v2.cell? ⟨w.heap.size, 2, none⟩ = some (.slice a m c) := block_cell XD.out 2
    have E0 : v2.cell? ⟨w.heap.size + 1, 0, none⟩ = some (.int .i64 k') := block_cell XE.out 0
    have E1 : v2.cell? ⟨w.heap.size + 1, 1, none⟩ = some (.int .i64 n') := block_cell XE.out 1
    have E2 : v2.cell? ⟨w.heap.size + 1, 2, none⟩ = some (.slice a' m' c') := block_cell XE.out 2
    go_wp2_with fail
    refine (CD.out _ HB.out).mono ?_; rintro e v3 ⟨rfl, hb3⟩
    clear D0 D1 D2 E0 E1 E2
    have XD := Lib.hid ((hb3.block _ (block_lt XD.out)).trans XD.out)
    have XE := Lib.hid ((hb3.block _ (block_lt XE.out)).trans XE.out)
    have HB := Lib.hid (chain HB.out hb3)
    clear hb3
    go_wp2_with fail
    go_ret
    exact ⟨rfl, HB.out⟩

end Go.Proofs.Ytncikklhchimdaa
