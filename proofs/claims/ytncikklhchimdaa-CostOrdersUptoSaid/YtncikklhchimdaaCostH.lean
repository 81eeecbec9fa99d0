/- The law of how two trees stand to each other by their work: the walk. -/
import Derived.Test.YtncikklhchimdaaCostG
namespace Go.Proofs.Ytncikklhchimdaa
open Go.RowKit
set_option linter.unusedVariables false
set_option linter.unusedSimpArgs false
set_option maxRecDepth 100000
set_option maxRecDepth 20000

set_option maxHeartbeats 2000000 in
theorem costOrdersW (t : Tr) (k n : Int) (a : Option Addr) (m c : Nat) (u : Tr) (k' n' : Int) (a' : Option Addr) (m' c' : Nat) (w : World) (hs : t.size ≤ 1048576) (hT' : IsT w (fun _ => True) k n a m c t) (hu : u.size ≤ 1048576) (hU' : IsT w (fun _ => True) k' n' a' m' c' u) :
    Calls Try.prog 11 #[.agg #[.int .i64 k, .int .i64 n, .slice a m c], .agg #[.int .i64 k', .int .i64 n', .slice a' m' c']] w fun e w' => e = .returned (.bool true) ∧ Below w.heap.size w w' := by
  have hT := hT'.lt
  have hU := hU'.lt
  clear hT' hU'
  have M0 : Hid (∀ W, Below w.heap.size w W → Calls Try.prog 14 #[.agg #[.int .i64 k, .int .i64 n, .slice a m c]] W fun e w' => e = .returned (.bool (decide (80 < t.size))) ∧ Below W.heap.size W w') := fun W hb => ref_Much t _ _ _ _ _ W w.heap.size (by omega) (hT.below hb) hb.size
  have M1 : Hid (∀ W, Below w.heap.size w W → Calls Try.prog 14 #[.agg #[.int .i64 k', .int .i64 n', .slice a' m' c']] W fun e w' => e = .returned (.bool (decide (80 < u.size))) ∧ Below W.heap.size W w') := fun W hb => ref_Much u _ _ _ _ _ W w.heap.size (by omega) (hU.below hb) hb.size
  have P0 : Hid (∀ W, Below w.heap.size w W → Calls Try.prog 51 #[.agg #[.int .i64 k, .int .i64 n, .slice a m c], .agg #[.int .i64 k', .int .i64 n', .slice a' m' c']] W fun e w' => e = .returned (.int .i64 (wcmp t u)) ∧ Below W.heap.size W w') := fun W hb => cost_Cmp t u _ _ _ _ _ _ _ _ _ _ W _ _ (by omega) (by omega) (hT.below hb) (hU.below hb)
  have P1 : Hid (∀ W, Below w.heap.size w W → Calls Try.prog 51 #[.agg #[.int .i64 k', .int .i64 n', .slice a' m' c'], .agg #[.int .i64 k, .int .i64 n, .slice a m c]] W fun e w' => e = .returned (.int .i64 (- wcmp t u)) ∧ Below W.heap.size W w') := fun W hb => by rw [← wcmp_neg]; exact cost_Cmp u t _ _ _ _ _ _ _ _ _ _ W _ _ (by omega) (by omega) (hU.below hb) (hT.below hb)
  have P2 : Hid (∀ W, Below w.heap.size w W → Calls Try.prog 51 #[.agg #[.int .i64 k, .int .i64 n, .slice a m c], .agg #[.int .i64 k, .int .i64 n, .slice a m c]] W fun e w' => e = .returned (.int .i64 0) ∧ Below W.heap.size W w') := fun W hb => by rw [← wcmp_self t]; exact cost_Cmp t t _ _ _ _ _ _ _ _ _ _ W _ _ (by omega) (by omega) (hT.below hb) (hT.below hb)
  have R0 : Hid (∀ W, Below w.heap.size w W → Calls Try.prog 52 #[.agg #[.int .i64 k, .int .i64 n, .slice a m c], .agg #[.int .i64 k', .int .i64 n', .slice a' m' c']] W fun e w' => e = .returned (.int .i64 (wcmp t u)) ∧ Below W.heap.size W w') := fun W hb => ref18_Cmp t u _ _ _ _ _ _ _ _ _ _ W w.heap.size hb.size (by omega) (by omega) (hT.below hb) (hU.below hb)
  have bd := wcmp_bd t u
  obtain ⟨X, hX⟩ : ∃ X, wcmp t u = X := ⟨_, rfl⟩
  rw [hX] at P0 P1 R0 bd
  have hN : IntKind.i64.wrap (-X) = -X := IntWalk.i64_in _ (by omega)
  obtain ⟨A1, hA1⟩ : ∃ A, decide (80 < t.size) = A := ⟨_, rfl⟩
  rw [hA1] at M0
  obtain ⟨A2, hA2⟩ : ∃ A, decide (80 < u.size) = A := ⟨_, rfl⟩
  rw [hA2] at M1
  clear hA1 hA2 hT hU hs hu hX
  obtain ⟨W0, hW0, hb0, x0, x1⟩ := two_boxes w #[.int .i64 k, .int .i64 n, .slice a m c] #[.int .i64 k', .int .i64 n', .slice a' m' c'] 24 24
  have HB := Lib.hid hb0
  have HW0 := Lib.hid hW0
  have XD := Lib.hid x0
  have XE := Lib.hid x1
  clear hb0 hW0 x0 x1
  cases A1 with
  | true =>
    have D0 : W0.cell? ⟨w.heap.size, 0, none⟩ = some (.int .i64 k) := block_cell XD.out 0
    have D1 : W0.cell? ⟨w.heap.size, 1, none⟩ = some (.int .i64 n) := block_cell XD.out 1
    have D2 : W0.cell? ⟨w.heap.size, 2, none⟩ = some (.slice a m c) := block_cell XD.out 2
    go_enter Try.func11, Try.ntmps11
    go_wp2_with fail
    rw [HW0.out]
    refine (M0.out _ HB.out).mono ?_; rintro e v1 ⟨rfl, hb1⟩
    clear D0 D1 D2
    have XD := Lib.hid ((hb1.block _ (block_lt XD.out)).trans XD.out)
    have XE := Lib.hid ((hb1.block _ (block_lt XE.out)).trans XE.out)
    have HB := Lib.hid (chain HB.out hb1)
    clear hb1
    go_wp2_with fail
    refine (live18 _).mono ?_; rintro e v2 ⟨rfl, hbl⟩
    have hbe := chain HB.out hbl
    clear hbl
    go_wp2_with fail
    go_ret
    exact ⟨rfl, hbe⟩
  | false =>
    cases A2 with
    | true =>
      have D0 : W0.cell? ⟨w.heap.size, 0, none⟩ = some (.int .i64 k) := block_cell XD.out 0
      have D1 : W0.cell? ⟨w.heap.size, 1, none⟩ = some (.int .i64 n) := block_cell XD.out 1
      have D2 : W0.cell? ⟨w.heap.size, 2, none⟩ = some (.slice a m c) := block_cell XD.out 2
      go_enter Try.func11, Try.ntmps11
      go_wp2_with fail
      rw [HW0.out]
      refine (M0.out _ HB.out).mono ?_; rintro e v1 ⟨rfl, hb1⟩
      clear D0 D1 D2
      have XD := Lib.hid ((hb1.block _ (block_lt XD.out)).trans XD.out)
      have XE := Lib.hid ((hb1.block _ (block_lt XE.out)).trans XE.out)
      have HB := Lib.hid (chain HB.out hb1)
      clear hb1
      have E0 : v1.cell? ⟨w.heap.size + 1, 0, none⟩ = some (.int .i64 k') := block_cell XE.out 0
      have E1 : v1.cell? ⟨w.heap.size + 1, 1, none⟩ = some (.int .i64 n') := block_cell XE.out 1
      have E2 : v1.cell? ⟨w.heap.size + 1, 2, none⟩ = some (.slice a' m' c') := block_cell XE.out 2
      go_wp2_with fail
      refine (M1.out _ HB.out).mono ?_; rintro e v2 ⟨rfl, hb2⟩
      clear E0 E1 E2
      have XD := Lib.hid ((hb2.block _ (block_lt XD.out)).trans XD.out)
      have XE := Lib.hid ((hb2.block _ (block_lt XE.out)).trans XE.out)
      have HB := Lib.hid (chain HB.out hb2)
      clear hb2
      go_wp2_with fail
      refine (live18 _).mono ?_; rintro e v3 ⟨rfl, hbl⟩
      have hbe := chain HB.out hbl
      clear hbl
      go_wp2_with fail
      go_ret
      exact ⟨rfl, hbe⟩
    | false =>
      have D0 : W0.cell? ⟨w.heap.size, 0, none⟩ = some (.int .i64 k) := block_cell XD.out 0
      have D1 : W0.cell? ⟨w.heap.size, 1, none⟩ = some (.int .i64 n) := block_cell XD.out 1
      have D2 : W0.cell? ⟨w.heap.size, 2, none⟩ = some (.slice a m c) := block_cell XD.out 2
      go_enter Try.func11, Try.ntmps11
      go_wp2_with fail
      rw [HW0.out]
      refine (M0.out _ HB.out).mono ?_; rintro e v1 ⟨rfl, hb1⟩
      clear D0 D1 D2
      have XD := Lib.hid ((hb1.block _ (block_lt XD.out)).trans XD.out)
      have XE := Lib.hid ((hb1.block _ (block_lt XE.out)).trans XE.out)
      have HB := Lib.hid (chain HB.out hb1)
      clear hb1
      have E0 : v1.cell? ⟨w.heap.size + 1, 0, none⟩ = some (.int .i64 k') := block_cell XE.out 0
      have E1 : v1.cell? ⟨w.heap.size + 1, 1, none⟩ = some (.int .i64 n') := block_cell XE.out 1
      have E2 : v1.cell? ⟨w.heap.size + 1, 2, none⟩ = some (.slice a' m' c') := block_cell XE.out 2
      go_wp2_with fail
      refine (M1.out _ HB.out).mono ?_; rintro e v2 ⟨rfl, hb2⟩
      clear E0 E1 E2
      have XD := Lib.hid ((hb2.block _ (block_lt XD.out)).trans XD.out)
      have XE := Lib.hid ((hb2.block _ (block_lt XE.out)).trans XE.out)
      have HB := Lib.hid (chain HB.out hb2)
      clear hb2
      go_wp2_with fail
      have d1 : (X == X) = true := by simp
      have d2 : (-X == -X) = true := by simp
      have D0 : v2.cell? ⟨w.heap.size, 0, none⟩ = some (.int .i64 k) := block_cell XD.out 0
      have D1 : v2.cell? ⟨w.heap.size, 1, none⟩ = some (.int .i64 n) := block_cell XD.out 1
      have D2 : v2.cell? ⟨w.heap.size, 2, none⟩ = some (.slice a m c) := block_cell XD.out 2
      have E0 : v2.cell? ⟨w.heap.size + 1, 0, none⟩ = some (.int .i64 k') := block_cell XE.out 0
      have E1 : v2.cell? ⟨w.heap.size + 1, 1, none⟩ = some (.int .i64 n') := block_cell XE.out 1
      have E2 : v2.cell? ⟨w.heap.size + 1, 2, none⟩ = some (.slice a' m' c') := block_cell XE.out 2
      have lD := block_lt XD.out
      have lE := block_lt XE.out
      have hb : Below v2.heap.size v2 v2.drew := (Below.refl _ _).drew
      go_region_held3 (fun w' => (w'.cell? ⟨w.heap.size, 0, none⟩ = some (.int .i64 k) ∧ w'.cell? ⟨w.heap.size, 1, none⟩ = some (.int .i64 n) ∧ w'.cell? ⟨w.heap.size, 2, none⟩ = some (.slice a m c)) ∧ (w'.cell? ⟨w.heap.size + 1, 0, none⟩ = some (.int .i64 k') ∧ w'.cell? ⟨w.heap.size + 1, 1, none⟩ = some (.int .i64 n') ∧ w'.cell? ⟨w.heap.size + 1, 2, none⟩ = some (.slice a' m' c'))) (first | exact ⟨⟨D0, D1, D2⟩, ⟨E0, E1, E2⟩⟩ | exact ⟨⟨(hb.cell (p := ⟨w.heap.size, 0, none⟩) lD).trans D0, (hb.cell (p := ⟨w.heap.size, 1, none⟩) lD).trans D1, (hb.cell (p := ⟨w.heap.size, 2, none⟩) lD).trans D2⟩, ⟨(hb.cell (p := ⟨w.heap.size + 1, 0, none⟩) lE).trans E0, (hb.cell (p := ⟨w.heap.size + 1, 1, none⟩) lE).trans E1, (hb.cell (p := ⟨w.heap.size + 1, 2, none⟩) lE).trans E2⟩⟩) ((first | (go_at_call 51; ((with_reducible refine (P0.out _ (chain HB.out hb)).mono ?_); rintro e z3 ⟨rfl, hc⟩; have hb := chain hb hc)) | (go_at_call 51; ((with_reducible refine (P1.out _ (chain HB.out hb)).mono ?_); rintro e z3 ⟨rfl, hc⟩; have hb := chain hb hc)) | (go_at_call 51; ((with_reducible refine (P2.out _ (chain HB.out hb)).mono ?_); rintro e z3 ⟨rfl, hc⟩; have hb := chain hb hc)) | (go_at_call 52; ((with_reducible refine (R0.out _ (chain HB.out hb)).mono ?_); rintro e z3 ⟨rfl, hc⟩; have hb := chain hb hc)) | (go_at_call 38; ((with_reducible refine (live18 _).mono ?_); rintro e z3 ⟨rfl, hc⟩; have hb := chain hb hc))))
      clear lD lE
      clear D0 D1 D2 E0 E1 E2
      have XD := Lib.hid ((hb.block _ (block_lt XD.out)).trans XD.out)
      have XE := Lib.hid ((hb.block _ (block_lt XE.out)).trans XE.out)
      have HB := Lib.hid (chain HB.out hb)
      clear hb
      go_wp2_with fail
      go_ret
      exact ⟨rfl, HB.out⟩
end Go.Proofs.Ytncikklhchimdaa
