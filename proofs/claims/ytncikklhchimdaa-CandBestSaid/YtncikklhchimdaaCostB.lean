/- Contracts: how much work a plan is. The program: nodes with children. -/
import Derived.Test.YtncikklhchimdaaCostA
namespace Go.Proofs.Ytncikklhchimdaa
open Go.RowKit
set_option linter.unusedVariables false
set_option linter.unusedSimpArgs false
set_option maxRecDepth 100000
set_option maxRecDepth 20000

set_option maxHeartbeats 8000000 in
theorem cost_est (N : Nat) (hN : N ≤ 4194304) : ∀ (t : Tr) (k n : Int) (a : Option Addr) (m cap : Nat) (w : World) (F : Nat → Prop), t.size ≤ N → IsT w F k n a m cap t → t.allOk →
    Calls Try.prog 88 #[.agg #[.int .i64 k, .int .i64 n, .slice a m cap]] w fun e w' => e = .returned (.int .i64 t.est) ∧ Below w.heap.size w w' := by
  induction N with
  | zero => intro t k n a m cap w F h; have := Tr.size_pos t; omega
  | succ N ih =>
    intro t k n a m cap w F hs hT hok
    by_cases hm : m = 0
    · exact cost_est_leaf t k n a m cap w F hT hok hm
    have hn := ((Tr.allOk_iff t).1 hok)
    have hlen := hT.em
    have hv : Hid (t.est = estB k n ((Tr.estL t.kids).getD 0 0) ((Tr.estL t.kids).getD 1 0) (Tr.kid t.kids 0).num (Tr.kid t.kids 1).num) := by unfold Hid; rw [Tr.est_kids, hT.ek, hT.en]
    rw [hv.out, Tr.estL_at _ 0 (by omega)]
    obtain ⟨b, off, k0, n0, a0, m0, c0, rfl, hF0, hbl, x0, x1, x2, hT0⟩ := hT.kid 0 (by omega)
    rw [Nat.zero_mul, Nat.add_zero] at x0 x1 x2
    have ok0 := hn.2 0 (by omega)
    have bd0 := est_bd ok0
    have s0 : (Tr.kid t.kids 0).size ≤ N := by have := Tr.size_kid t 0 (by omega); omega
    have CE0 : Hid (∀ W, Below w.heap.size w W → Calls Try.prog 88 #[.agg #[.int .i64 k0, .int .i64 n0, .slice a0 m0 c0]] W fun e w' => e = .returned (.int .i64 (Tr.kid t.kids 0).est) ∧ Below W.heap.size W w') := fun W hb => ih (by omega) _ k0 n0 a0 m0 c0 W F s0 (hT0.below hb) ok0
    have hen0 : (Tr.kid t.kids 0).num = n0 := hT0.en.symm
    obtain ⟨E0, hE0⟩ : ∃ E, (Tr.kid t.kids 0).est = E := ⟨_, rfl⟩
    rw [hE0] at CE0 bd0 ⊢
    have hbx : (w.alloc (.cells #[.int .i64 k, .int .i64 n, .slice (some ⟨b, off, none⟩) m cap] 24)).heap[w.heap.size]? = some (.cells #[.int .i64 k, .int .i64 n, .slice (some ⟨b, off, none⟩) m cap] 24 (0, 0)) := block_new rfl
    have HBX := Lib.hid hbx
    have HX0 := Lib.hid x0
    have HX1 := Lib.hid x1
    have HX2 := Lib.hid x2
    have HBL := Lib.hid hbl
    clear hbx hE0 s0
    rcases (show (m = 1 ∧ ((k = 6 ∧ 3 ≤ n ∧ n ≤ 16777216) ∨ (k = 7 ∧ 2 ≤ n ∧ n ≤ 16777216 ∧ 0 ≤ n0 ∧ n0 ≤ 16777216))) ∨ (m = 2 ∧ (k = 4 ∨ k = 5) ∧ 1 ≤ n ∧ n ≤ 16777216 ∧ 2 ≤ n0 ∧ n0 ≤ n ∧ 2 ≤ (Tr.kid t.kids 1).num ∧ (Tr.kid t.kids 1).num ≤ n) by
      rw [hT.ek, hT.en, ← hen0]
      rcases node_cases hn.1 with h | h | h | h | h | h
      all_goals omega) with ⟨rfl, ⟨rfl, g1, g2⟩ | ⟨rfl, g1, g2, g3, g4⟩⟩ | ⟨rfl, hk, g1, g2, g3, g4, g5, g6⟩
    · -- Rader
      rw [show estB 6 n E0 ((Tr.estL t.kids).getD 1 0) (Tr.kid t.kids 0).num (Tr.kid t.kids 1).num = sat (sat (2 * E0) + 2 * n) by unfold estB; rw [if_neg (by omega), if_neg (by omega), if_neg (by omega), if_pos rfl]]
      have CT : Hid (∀ W, Calls Try.prog 106 #[.int .i64 2, .int .i64 E0] W fun e w' => e = .returned (.int .i64 (sat (2 * E0))) ∧ W = w') := fun W => cost_times 2 E0 W (by omega) (by omega) (by omega) (by omega)
      have p0 := sat_nn (show 0 ≤ 2 * E0 by omega)
      have p1 := sat_le (2 * E0)
      obtain ⟨S, hS⟩ : ∃ S, sat (2 * E0) = S := ⟨_, rfl⟩
      rw [hS] at CT p0 p1 ⊢
      have CA : Hid (∀ W, Calls Try.prog 105 #[.int .i64 S, .int .i64 (2 * n)] W fun e w' => e = .returned (.int .i64 (sat (S + 2 * n))) ∧ W = w') := fun W => cost_add S (2 * n) W (by omega) (by omega) (by omega) (by omega)
      obtain ⟨V, hV⟩ : ∃ V, sat (S + 2 * n) = V := ⟨_, rfl⟩
      rw [hV] at CA ⊢
      have y0 := (cell_past w (.cells #[.int .i64 6, .int .i64 n, .slice (some ⟨b, off, none⟩) 1 cap] 24) ⟨b, off, none⟩ hbl).trans x0
      have y1 := (cell_past w (.cells #[.int .i64 6, .int .i64 n, .slice (some ⟨b, off, none⟩) 1 cap] 24) ⟨b, off + 1, none⟩ hbl).trans x1
      have y2 := (cell_past w (.cells #[.int .i64 6, .int .i64 n, .slice (some ⟨b, off, none⟩) 1 cap] 24) ⟨b, off + 2, none⟩ hbl).trans x2
      have ne1 : b ≠ w.heap.size := by omega
      clear hS hV hv hT hT0 hn hok hlen hs x0 x1 x2 ok0 hm ih
      go_enter Try.func88, Try.ntmps88
      go_wp2_with fail
      refine (CE0.out _ ((Below.refl _ _).alloc (Nat.le_refl _) _)).mono ?_; rintro e w1 ⟨rfl, hb⟩
      have hb1 := chainA (Below.refl w.heap.size w) hb
      have hx := (hb.block _ (block_lt HBX.out)).trans HBX.out
      have z0 : w1.cell? ⟨w.heap.size, 0, none⟩ = some (.int .i64 6) := block_cell hx 0
      have z1 : w1.cell? ⟨w.heap.size, 1, none⟩ = some (.int .i64 n) := block_cell hx 1
      have z2 : w1.cell? ⟨w.heap.size, 2, none⟩ = some (.slice (some ⟨b, off, none⟩) 1 cap) := block_cell hx 2
      have HB1 := Lib.hid hb1
      clear hb hb1 hx y0 y1 y2
      go_wp2_with fail
      go_quiet ((first | (go_at_call 106; exact Calls.quiet_of_same (sameW (CT.out _))) | (go_at_call 105; exact Calls.quiet_of_same (sameW (CA.out _)))))
      go_wp2_with fail
      go_ret
      exact ⟨rfl, below_drewN HB1.out _⟩
    · -- Bluestein
      rw [show estB 7 n E0 ((Tr.estL t.kids).getD 1 0) (Tr.kid t.kids 0).num (Tr.kid t.kids 1).num = sat (sat (sat (2 * E0) + n0) + 3 * n) by unfold estB; rw [if_neg (by omega), if_neg (by omega), if_neg (by omega), if_neg (by omega), if_pos rfl, hen0]]
      have CT : Hid (∀ W, Calls Try.prog 106 #[.int .i64 2, .int .i64 E0] W fun e w' => e = .returned (.int .i64 (sat (2 * E0))) ∧ W = w') := fun W => cost_times 2 E0 W (by omega) (by omega) (by omega) (by omega)
      have p0 := sat_nn (show 0 ≤ 2 * E0 by omega)
      have p1 := sat_le (2 * E0)
      obtain ⟨S, hS⟩ : ∃ S, sat (2 * E0) = S := ⟨_, rfl⟩
      rw [hS] at CT p0 p1 ⊢
      have CA : Hid (∀ W, Calls Try.prog 105 #[.int .i64 S, .int .i64 n0] W fun e w' => e = .returned (.int .i64 (sat (S + n0))) ∧ W = w') := fun W => cost_add S n0 W (by omega) (by omega) (by omega) (by omega)
      have p2 := sat_nn (show 0 ≤ S + n0 by omega)
      have p3 := sat_le (S + n0)
      obtain ⟨V, hV⟩ : ∃ V, sat (S + n0) = V := ⟨_, rfl⟩
      rw [hV] at CA p2 p3 ⊢
      have CA2 : Hid (∀ W, Calls Try.prog 105 #[.int .i64 V, .int .i64 (3 * n)] W fun e w' => e = .returned (.int .i64 (sat (V + 3 * n))) ∧ W = w') := fun W => cost_add V (3 * n) W (by omega) (by omega) (by omega) (by omega)
      obtain ⟨V2, hV2⟩ : ∃ V2, sat (V + 3 * n) = V2 := ⟨_, rfl⟩
      rw [hV2] at CA2 ⊢
      have y0 := (cell_past w (.cells #[.int .i64 7, .int .i64 n, .slice (some ⟨b, off, none⟩) 1 cap] 24) ⟨b, off, none⟩ hbl).trans x0
      have y1 := (cell_past w (.cells #[.int .i64 7, .int .i64 n, .slice (some ⟨b, off, none⟩) 1 cap] 24) ⟨b, off + 1, none⟩ hbl).trans x1
      have y2 := (cell_past w (.cells #[.int .i64 7, .int .i64 n, .slice (some ⟨b, off, none⟩) 1 cap] 24) ⟨b, off + 2, none⟩ hbl).trans x2
      clear hS hV hV2 hv hT hT0 hn hok hlen hs x0 x1 x2 ok0 hm ih
      go_enter Try.func88, Try.ntmps88
      go_wp2_with fail
      refine (CE0.out _ ((Below.refl _ _).alloc (Nat.le_refl _) _)).mono ?_; rintro e w1 ⟨rfl, hb⟩
      have hb1 := chainA (Below.refl w.heap.size w) hb
      have hx := (hb.block _ (block_lt HBX.out)).trans HBX.out
      have z0 : w1.cell? ⟨w.heap.size, 0, none⟩ = some (.int .i64 7) := block_cell hx 0
      have z1 : w1.cell? ⟨w.heap.size, 1, none⟩ = some (.int .i64 n) := block_cell hx 1
      have z2 : w1.cell? ⟨w.heap.size, 2, none⟩ = some (.slice (some ⟨b, off, none⟩) 1 cap) := block_cell hx 2
      have u1 := (hb1.cell (p := ⟨b, off + 1, none⟩) hbl).trans HX1.out
      have HB1 := Lib.hid hb1
      clear hb hb1 hx y0 y1 y2
      go_wp2_with fail
      go_quiet ((first | (go_at_call 106; exact Calls.quiet_of_same (sameW (CT.out _))) | (go_at_call 105; exact Calls.quiet_of_same (sameW (CA.out _))) | (go_at_call 105; exact Calls.quiet_of_same (sameW (CA2.out _)))))
      go_wp2_with fail
      go_ret
      exact ⟨rfl, below_drewN HB1.out _⟩
    · -- products
      obtain ⟨b', off', k1, n1, a1, m1, c1, hab, hF1, _, v0, v1, v2, hT1⟩ := hT.kid 1 (by omega)
      simp only [Option.some.injEq, Addr.mk.injEq, and_true] at hab
      obtain ⟨rfl, rfl⟩ := hab
      rw [Nat.one_mul] at v0 v1 v2
      have ok1 := hn.2 1 (by omega)
      have bd1 := est_bd ok1
      have s1 : (Tr.kid t.kids 1).size ≤ N := by have := Tr.size_kid t 1 (by omega); omega
      have CE1 : Hid (∀ W, Below w.heap.size w W → Calls Try.prog 88 #[.agg #[.int .i64 k1, .int .i64 n1, .slice a1 m1 c1]] W fun e w' => e = .returned (.int .i64 (Tr.kid t.kids 1).est) ∧ Below W.heap.size W w') := fun W hb => ih (by omega) _ k1 n1 a1 m1 c1 W F s1 (hT1.below hb) ok1
      have hen1 : (Tr.kid t.kids 1).num = n1 := hT1.en.symm
      rw [Tr.estL_at _ 1 (by omega), hen0, hen1]
      rw [hen1] at g5 g6
      obtain ⟨E1, hE1⟩ : ∃ E, (Tr.kid t.kids 1).est = E := ⟨_, rfl⟩
      rw [hE1] at CE1 bd1 ⊢
      clear hE1 s1 ok1
      have CT0 : Hid (∀ W, Calls Try.prog 106 #[.int .i64 n1, .int .i64 E0] W fun e w' => e = .returned (.int .i64 (sat (n1 * E0))) ∧ W = w') := fun W => cost_times n1 E0 W (by omega) (by omega) (by omega) (by omega)
      have CT1 : Hid (∀ W, Calls Try.prog 106 #[.int .i64 n0, .int .i64 E1] W fun e w' => e = .returned (.int .i64 (sat (n0 * E1))) ∧ W = w') := fun W => cost_times n0 E1 W (by omega) (by omega) (by omega) (by omega)
      have p0 := sat_nn (Int.mul_nonneg (show 0 ≤ n1 by omega) (show 0 ≤ E0 by omega))
      have p1 := sat_le (n1 * E0)
      have p2 := sat_nn (Int.mul_nonneg (show 0 ≤ n0 by omega) (show 0 ≤ E1 by omega))
      have p3 := sat_le (n0 * E1)
      have hval : Hid (estB k n E0 E1 n0 n1 = if k = 4 then sat (sat (sat (n1 * E0) + sat (n0 * E1)) + n) else sat (sat (n1 * E0) + sat (n0 * E1))) := by
        unfold Hid estB
        rw [if_neg (by omega), if_neg (by omega), if_neg (by omega), if_neg (by omega), if_neg (by omega)]
      rw [hval.out]
      obtain ⟨S, hS⟩ : ∃ S, sat (n1 * E0) = S := ⟨_, rfl⟩
      rw [hS] at CT0 p0 p1 ⊢
      obtain ⟨S2, hS2⟩ : ∃ S, sat (n0 * E1) = S := ⟨_, rfl⟩
      rw [hS2] at CT1 p2 p3 ⊢
      have CA : Hid (∀ W, Calls Try.prog 105 #[.int .i64 S, .int .i64 S2] W fun e w' => e = .returned (.int .i64 (sat (S + S2))) ∧ W = w') := fun W => cost_add S S2 W (by omega) (by omega) (by omega) (by omega)
      have p4 := sat_nn (show 0 ≤ S + S2 by omega)
      have p5 := sat_le (S + S2)
      obtain ⟨V, hV⟩ : ∃ V, sat (S + S2) = V := ⟨_, rfl⟩
      rw [hV] at CA p4 p5 ⊢
      have CA2 : Hid (∀ W, Calls Try.prog 105 #[.int .i64 V, .int .i64 n] W fun e w' => e = .returned (.int .i64 (sat (V + n))) ∧ W = w') := fun W => cost_add V n W (by omega) (by omega) (by omega) (by omega)
      obtain ⟨V2, hV2⟩ : ∃ V2, sat (V + n) = V2 := ⟨_, rfl⟩
      rw [hV2] at CA2 ⊢
      have y0 := (cell_past w (.cells #[.int .i64 k, .int .i64 n, .slice (some ⟨b, off, none⟩) 2 cap] 24) ⟨b, off, none⟩ hbl).trans x0
      have y1 := (cell_past w (.cells #[.int .i64 k, .int .i64 n, .slice (some ⟨b, off, none⟩) 2 cap] 24) ⟨b, off + 1, none⟩ hbl).trans x1
      have y2 := (cell_past w (.cells #[.int .i64 k, .int .i64 n, .slice (some ⟨b, off, none⟩) 2 cap] 24) ⟨b, off + 2, none⟩ hbl).trans x2
      have HV0 := Lib.hid v0
      have HV1 := Lib.hid v1
      have HV2 := Lib.hid v2
      clear hS hV hV2 hS2 hv hval hT hT0 hT1 hn hok hlen hs x0 x1 x2 v0 v1 v2 ok0 hm ih hen0 hen1
      rcases hk with rfl | rfl
      · skip
        go_enter Try.func88, Try.ntmps88
        go_wp2_with fail
        refine (CE0.out _ ((Below.refl _ _).alloc (Nat.le_refl _) _)).mono ?_; rintro e w1 ⟨rfl, hb⟩
        have hb1 := chainA (Below.refl w.heap.size w) hb
        have hx := (hb.block _ (block_lt HBX.out)).trans HBX.out
        have z0 : w1.cell? ⟨w.heap.size, 0, none⟩ = some (.int .i64 4) := block_cell hx 0
        have z1 : w1.cell? ⟨w.heap.size, 1, none⟩ = some (.int .i64 n) := block_cell hx 1
        have z2 : w1.cell? ⟨w.heap.size, 2, none⟩ = some (.slice (some ⟨b, off, none⟩) 2 cap) := block_cell hx 2
        have u1 := (hb1.cell (p := ⟨b, off + 1, none⟩) hbl).trans HX1.out
        have u3 := (hb1.cell (p := ⟨b, off + 3, none⟩) hbl).trans HV0.out
        have u4 := (hb1.cell (p := ⟨b, off + 3 + 1, none⟩) hbl).trans HV1.out
        have u5 := (hb1.cell (p := ⟨b, off + 3 + 2, none⟩) hbl).trans HV2.out
        have HB1 := Lib.hid hb1
        have HXX := Lib.hid hx
        have hlx := block_lt hx
        have hlb : b < w1.heap.size := Nat.lt_of_lt_of_le hbl hb1.size
        clear hb hb1 hx y0 y1 y2
        go_wp2_with fail
        have hb : Below w1.heap.size w1 w1.drew := (Below.refl _ _).drew
        go_region_held3 (fun w' => (w'.cell? ⟨w.heap.size, 2, none⟩ = some (.slice (some ⟨b, off, none⟩) 2 cap) ∧ w'.cell? ⟨b, off + 1, none⟩ = some (.int .i64 n0)) ∧ (w'.cell? ⟨b, off + 3, none⟩ = some (.int .i64 k1) ∧ w'.cell? ⟨b, off + 3 + 1, none⟩ = some (.int .i64 n1) ∧ w'.cell? ⟨b, off + 3 + 2, none⟩ = some (.slice a1 m1 c1))) (first | exact ⟨⟨z2, u1⟩, u3, u4, u5⟩ | exact ⟨⟨(hb.cell (p := ⟨w.heap.size, 2, none⟩) hlx).trans z2, (hb.cell (p := ⟨b, off + 1, none⟩) hlb).trans u1⟩, (hb.cell (p := ⟨b, off + 3, none⟩) hlb).trans u3, (hb.cell (p := ⟨b, off + 3 + 1, none⟩) hlb).trans u4, (hb.cell (p := ⟨b, off + 3 + 2, none⟩) hlb).trans u5⟩) ((first | (go_at_call 88; ((with_reducible refine (CE1.out _ (chain HB1.out hb)).mono ?_); rintro e z ⟨rfl, hc⟩; have hb := chain hb hc)) | (go_at_call 106; ((with_reducible refine (CT0.out _).mono ?_); rintro e z ⟨rfl, rfl⟩)) | (go_at_call 106; ((with_reducible refine (CT1.out _).mono ?_); rintro e z ⟨rfl, rfl⟩)) | (go_at_call 105; ((with_reducible refine (CA.out _).mono ?_); rintro e z ⟨rfl, rfl⟩))))
        clear z0 z1 z2 u1 u3 u4 u5
        have hx := (hb.block _ hlx).trans HXX.out
        have z0 : z.cell? ⟨w.heap.size, 0, none⟩ = some (.int .i64 4) := block_cell hx 0
        have z1 : z.cell? ⟨w.heap.size, 1, none⟩ = some (.int .i64 n) := block_cell hx 1
        have HBZ := Lib.hid (chain HB1.out hb)
        clear hx hb
        go_wp2_with fail
        refine (CA2.out _).mono ?_; rintro e z2 ⟨rfl, rfl⟩
        go_wp2_with fail
        go_ret
        exact ⟨rfl, HBZ.out⟩
      · skip
        go_enter Try.func88, Try.ntmps88
        go_wp2_with fail
        refine (CE0.out _ ((Below.refl _ _).alloc (Nat.le_refl _) _)).mono ?_; rintro e w1 ⟨rfl, hb⟩
        have hb1 := chainA (Below.refl w.heap.size w) hb
        have hx := (hb.block _ (block_lt HBX.out)).trans HBX.out
        have z0 : w1.cell? ⟨w.heap.size, 0, none⟩ = some (.int .i64 5) := block_cell hx 0
        have z1 : w1.cell? ⟨w.heap.size, 1, none⟩ = some (.int .i64 n) := block_cell hx 1
        have z2 : w1.cell? ⟨w.heap.size, 2, none⟩ = some (.slice (some ⟨b, off, none⟩) 2 cap) := block_cell hx 2
        have u1 := (hb1.cell (p := ⟨b, off + 1, none⟩) hbl).trans HX1.out
        have u3 := (hb1.cell (p := ⟨b, off + 3, none⟩) hbl).trans HV0.out
        have u4 := (hb1.cell (p := ⟨b, off + 3 + 1, none⟩) hbl).trans HV1.out
        have u5 := (hb1.cell (p := ⟨b, off + 3 + 2, none⟩) hbl).trans HV2.out
        have HB1 := Lib.hid hb1
        have HXX := Lib.hid hx
        have hlx := block_lt hx
        have hlb : b < w1.heap.size := Nat.lt_of_lt_of_le hbl hb1.size
        clear hb hb1 hx y0 y1 y2
        go_wp2_with fail
        have hb : Below w1.heap.size w1 w1.drew := (Below.refl _ _).drew
        go_region_held3 (fun w' => (w'.cell? ⟨w.heap.size, 2, none⟩ = some (.slice (some ⟨b, off, none⟩) 2 cap) ∧ w'.cell? ⟨b, off + 1, none⟩ = some (.int .i64 n0)) ∧ (w'.cell? ⟨b, off + 3, none⟩ = some (.int .i64 k1) ∧ w'.cell? ⟨b, off + 3 + 1, none⟩ = some (.int .i64 n1) ∧ w'.cell? ⟨b, off + 3 + 2, none⟩ = some (.slice a1 m1 c1))) (first | exact ⟨⟨z2, u1⟩, u3, u4, u5⟩ | exact ⟨⟨(hb.cell (p := ⟨w.heap.size, 2, none⟩) hlx).trans z2, (hb.cell (p := ⟨b, off + 1, none⟩) hlb).trans u1⟩, (hb.cell (p := ⟨b, off + 3, none⟩) hlb).trans u3, (hb.cell (p := ⟨b, off + 3 + 1, none⟩) hlb).trans u4, (hb.cell (p := ⟨b, off + 3 + 2, none⟩) hlb).trans u5⟩) ((first | (go_at_call 88; ((with_reducible refine (CE1.out _ (chain HB1.out hb)).mono ?_); rintro e z ⟨rfl, hc⟩; have hb := chain hb hc)) | (go_at_call 106; ((with_reducible refine (CT0.out _).mono ?_); rintro e z ⟨rfl, rfl⟩)) | (go_at_call 106; ((with_reducible refine (CT1.out _).mono ?_); rintro e z ⟨rfl, rfl⟩)) | (go_at_call 105; ((with_reducible refine (CA.out _).mono ?_); rintro e z ⟨rfl, rfl⟩))))
        clear z0 z1 z2 u1 u3 u4 u5
        have hx := (hb.block _ hlx).trans HXX.out
        have z0 : z.cell? ⟨w.heap.size, 0, none⟩ = some (.int .i64 5) := block_cell hx 0
        have z1 : z.cell? ⟨w.heap.size, 1, none⟩ = some (.int .i64 n) := block_cell hx 1
        have HBZ := Lib.hid (chain HB1.out hb)
        clear hx hb
        go_wp2_with fail
        go_ret
        exact ⟨rfl, HBZ.out⟩

theorem cost_Est (t : Tr) (k n : Int) (a : Option Addr) (m cap : Nat) (w : World) (F : Nat → Prop) (hs : t.size ≤ 4194304) (hT : IsT w F k n a m cap t) :
    Calls Try.prog 39 #[.agg #[.int .i64 k, .int .i64 n, .slice a m cap]] w fun e w' => e = .returned (.tuple #[.int .i64 (if chk t = 0 then t.est else 0), .int .i64 (chk t)]) ∧ Below w.heap.size w w' := by
  have CC : Hid (∀ W, Below w.heap.size w W → Calls Try.prog 17 #[.agg #[.int .i64 k, .int .i64 n, .slice a m cap]] W fun e w' => e = .returned (.int .i64 (chk t)) ∧ Below W.heap.size W w') := fun W hb => valid_Check t k n a m cap W F hs (hT.below hb)
  have CE : Hid (chk t = 0 → ∀ W, Below w.heap.size w W → Calls Try.prog 88 #[.agg #[.int .i64 k, .int .i64 n, .slice a m cap]] W fun e w' => e = .returned (.int .i64 t.est) ∧ Below W.heap.size W w') := fun h W hb => cost_est 4194304 (by omega) t k n a m cap W F hs (hT.below hb) (chk_zero.1 h).2
  obtain ⟨C, hC⟩ : ∃ C, chk t = C := ⟨_, rfl⟩
  rw [hC] at CC CE ⊢
  clear hC hT hs
  by_cases hc : C = 0
  · subst hc
    have CE1 := Lib.hid (CE.out rfl)
    clear CE
    rw [if_pos rfl]
    obtain ⟨E, hE⟩ : ∃ E, t.est = E := ⟨_, rfl⟩
    rw [hE] at CE1 ⊢
    clear hE
    go_enter Try.func39, Try.ntmps39
    go_wp2_with fail
    refine (CC.out _ ((Below.refl _ _).alloc (Nat.le_refl _) _)).mono ?_; rintro e w1 ⟨rfl, hb⟩
    have hb1 := chainA (Below.refl w.heap.size w) hb
    have hx := (hb.block w.heap.size (by simp)).trans (block_new rfl)
    have z0 : w1.cell? ⟨w.heap.size, 0, none⟩ = some (.int .i64 k) := block_cell hx 0
    have z1 : w1.cell? ⟨w.heap.size, 1, none⟩ = some (.int .i64 n) := block_cell hx 1
    have z2 : w1.cell? ⟨w.heap.size, 2, none⟩ = some (.slice a m cap) := block_cell hx 2
    have HB1 := Lib.hid hb1
    clear hb hb1 hx
    go_wp2_with fail
    refine (CE1.out _ HB1.out).mono ?_; rintro e w2 ⟨rfl, hb2⟩
    have hbe := chain HB1.out hb2
    clear hb2
    go_wp2_with fail
    go_ret2
    exact ⟨rfl, hbe⟩
  · have t1 : (C != 0) = true := bdiff hc
    rw [if_neg hc]
    clear hc CE
    go_enter Try.func39, Try.ntmps39
    go_wp2_with fail
    refine (CC.out _ ((Below.refl _ _).alloc (Nat.le_refl _) _)).mono ?_; rintro e w1 ⟨rfl, hb⟩
    have hb1 := chainA (Below.refl w.heap.size w) hb
    clear hb
    go_wp2_with fail
    go_ret2
    exact ⟨rfl, hb1⟩
end Go.Proofs.Ytncikklhchimdaa
