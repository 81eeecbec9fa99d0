/- Contracts of transforms of a few numbers. -/
import Derived.Test.YtlgklkhijmeldaaSmallL
import Derived.Test.YtlgklkhijmeldaaVecO
import Derived.Test.YtlgklkhijmeldaaRoundR
import Derived.Test.YtlgklkhijmeldaaStockE
namespace Go.Proofs.Ytlgklkhijmeldaa
open Go.RowKit Sm
set_option linter.unusedVariables false
set_option linter.unusedSimpArgs false
set_option maxRecDepth 100000

theorem small_both (a b : Int) (w : World) (ha0 : 0 ≤ a) (ha : a < 18446744073709551616) (hb0 : 0 ≤ b) (hb : b < 18446744073709551616) :
    Calls Try.prog 94 #[.int .u64 a, .int .u64 b] w fun e w' => e = .returned (.tuple #[.int .u64 ((a + b) % 18446744069414584321), .int .u64 ((a - b) % 18446744069414584321)]) ∧ w = w' := by
  go_enter Try.func94, Try.ntmps94
  go_wp2_with (first | (go_at_call 74; refine (gold_Add _ _ _ (by omega) (by omega) (by omega) (by omega)).mono ?_; rintro e w' ⟨rfl, rfl⟩) | (go_at_call 75; refine (gold_Sub _ _ _ (by omega) (by omega) (by omega) (by omega)).mono ?_; rintro e w' ⟨rfl, rfl⟩))
  go_ret2
  exact ⟨rfl, rfl⟩
theorem small_halves (a b : Int) (w : World) (ha0 : 0 ≤ a) (ha : a < 18446744073709551616) (hb0 : 0 ≤ b) (hb : b < 18446744073709551616) :
    Calls Try.prog 95 #[.int .u64 a, .int .u64 b] w fun e w' => e = .returned (.tuple #[.int .u64 ((a + b) * hf % 18446744069414584321), .int .u64 ((a - b) * hf % 18446744069414584321)]) ∧ w = w' := by
  have h1 : (a + b) % 18446744069414584321 * 9223372034707292161 % 18446744069414584321 = (a + b) * hf % 18446744069414584321 := modmul_l _ _ _
  have h2 : (a - b) % 18446744069414584321 * 9223372034707292161 % 18446744069414584321 = (a - b) * hf % 18446744069414584321 := modmul_l _ _ _
  have H1 := Lib.hid h1
  have H2 := Lib.hid h2
  clear h1 h2
  go_enter Try.func95, Try.ntmps95
  go_wp2_with fail
  refine (gold_Add a b _ ha0 ha hb0 hb).mono ?_; rintro e w' ⟨rfl, rfl⟩
  go_wp2_with fail
  refine (gold_Half ((a + b) % 18446744069414584321) _ (by omega) (by omega)).mono ?_; rintro e w' ⟨rfl, rfl⟩
  rw [H1.out]
  go_wp2_with fail
  refine (gold_Sub a b _ ha0 ha hb0 hb).mono ?_; rintro e w' ⟨rfl, rfl⟩
  go_wp2_with fail
  refine (gold_Half ((a - b) % 18446744069414584321) _ (by omega) (by omega)).mono ?_; rintro e w' ⟨rfl, rfl⟩
  rw [H2.out]
  go_wp2_with fail
  go_ret2
  exact ⟨rfl, rfl⟩

theorem small_Has (n : Int) (w : World) :
    Calls Try.prog 37 #[.int .i64 n] w fun e w' => e = .returned (.bool (decide (1 ≤ n ∧ n ≤ 5))) ∧ w = w' := by
  rcases (show n < 1 ∨ (1 ≤ n ∧ n ≤ 5) ∨ (1 ≤ n ∧ 5 < n) by omega) with h | ⟨h1, h2⟩ | ⟨h1, h2⟩
  all_goals
    go_enter Try.func37, Try.ntmps37
    go_wp2_with fail
    go_ret
    exact ⟨ret_bool (by simp; try omega), rfl⟩
theorem refSm_Has (n : Int) (w : World) :
    Calls Try.prog 38 #[.int .i64 n] w fun e w' => e = .returned (.bool (decide (1 ≤ n ∧ n ≤ 5))) ∧ w = w' := by
  rcases (show n < 1 ∨ (1 ≤ n ∧ n ≤ 5) ∨ (1 ≤ n ∧ 5 < n) by omega) with h | ⟨h1, h2⟩ | ⟨h1, h2⟩
  all_goals
    go_enter Try.func38, Try.ntmps38
    go_wp2_with fail
    go_ret
    exact ⟨ret_bool (by simp; try omega), rfl⟩

theorem gives_lit (w W : World) (t : TypeId) (xs ys : List Int) (n : Nat) (cs : Array Value) (hc : cs = (ys.map (Value.int .u64)).toArray) (hn : n = ys.length) (h : ys = xs) (hf : ∀ x ∈ xs, fits .u64 x) (hl : ys.length ≤ 100) (hb : Below w.heap.size w W) :
    GivesRow .u64 xs w (.returned (.slice (some ⟨W.heap.size, 0, none⟩) n n)) (W.alloc (.cells cs t)) := by
  subst hc hn
  subst h
  exact ⟨_, ys.length, rfl, row_new .u64 W t ys hf (by omega), ⟨Nat.le_refl _, fun h => by cases h⟩, hb.alloc hb.size _⟩

set_option maxHeartbeats 800000 in
theorem small_two (ad : Option Addr) (cap : Nat) (a b z u : Int) (w : World) (hx : Row .u64 w ad [a, b]) (hr : IsRoot z u 2) :
    Calls Try.prog 85 #[.slice ad 2 cap] w (GivesRow .u64 (dftL [a, b] z) w) := by
  obtain ⟨bk, o, rfl, hc⟩ := hx.at (by simp)
  have c0 := hc 0 (by simp)
  have c1 := hc 1 (by simp)
  have f0 := fits_u64.1 (hx.wf a (by simp))
  have f1 := fits_u64.1 (hx.wf b (by simp))
  have e0 : nth [a, b] 0 = a := rfl
  have e1 : nth [a, b] 1 = b := rfl
  rw [e0] at c0
  rw [e1] at c1
  rw [Nat.add_zero] at c0
  have hz : Eqm (z ^ 1) (-1) := root_half hr 1 rfl (by omega)
  rw [ipow1] at hz
  have hlist : [(a + b) % 18446744069414584321, (a - b) % 18446744069414584321] = dftL [a, b] z := two_eq a b z u _ _ hr (by omega) (by omega) (Eqm.mod _) (by
    refine (Eqm.mod _).trans ?_
    rw [Int.sub_eq_add_neg]
    refine (rfl' a).add ?_
    have := (rfl' b).mul hz.symm
    rw [Int.mul_neg, Int.mul_one] at this
    exact this)
  have HL := Lib.hid hlist
  clear hc hx hr hz e0 e1 hlist
  go_enter Try.func85, Try.ntmps85
  go_wp2_with fail
  go_quiet ((go_at_call 94; exact Calls.quiet_of_same (flipW (small_both a b _ (by omega) (by omega) (by omega) (by omega)))))
  have hb := below_drewN (Below.refl w.heap.size w) nq
  obtain ⟨w1, hw1⟩ : ∃ w1, w.drewN nq = w1 := ⟨_, rfl⟩
  rw [hw1] at hb ⊢
  clear hw1
  go_wp2_with fail
  go_ret
  exact gives_lit w w1 _ _ [(a + b) % 18446744069414584321, (a - b) % 18446744069414584321] 2 _ rfl rfl HL.out (dftL_fits _ _) (by simp) hb
end Go.Proofs.Ytlgklkhijmeldaa
