/- The laws of chapter 06, each as a call that returns true. -/
import Derived.Test.YtfoodnmcilogjaaDftL
namespace Go.Proofs.Ytfoodnmcilogjaa
open Go.RowKit Sm
set_option linter.unusedVariables false
set_option linter.unusedSimpArgs false

theorem rt_two : rt 2 = 18446744069414584320 := by
  have hs : hasSz ((2 : Nat) : Int) = true := by decide
  have hr := isRoot_rt 2 hs
  have h1 : Eqm ((rt 2 - 1) * (rt 2 + 1)) 0 := by
    have h2 := hr.one.sub (rfl' 1)
    have e : rt 2 ^ 2 - 1 = (rt 2 - 1) * (rt 2 + 1) := by
      rw [Int.sub_mul, Int.mul_add, Int.one_mul, Int.mul_one, Int.pow_succ, Int.pow_succ, Int.pow_zero, Int.one_mul]; omega
    rw [e, Int.sub_self] at h2
    exact h2
  have h3 : ¬ Eqm (rt 2 - 1) 0 := by
    intro h
    have h4 := h.add (rfl' 1)
    rw [Int.sub_add_cancel, Int.zero_add] at h4
    exact hr.least 1 (by omega) (by omega) (by rw [Int.pow_succ, Int.pow_zero, Int.one_mul]; exact h4)
  have h5 := strike' _ _ h3 h1
  have b := rt_range 2
  generalize rt 2 = r at *
  unfold Eqm at h5
  omega

theorem dft_12 : dftL [1, 2] 18446744069414584320 = [3, 18446744069414584320] := by
  unfold dftL pt pw
  rfl

theorem fits2 (a b : Int) (ha : 0 ≤ a ∧ a < 18446744073709551616) (hb : 0 ≤ b ∧ b < 18446744073709551616) : ∀ x ∈ [a, b], fits .u64 x := by
  intro x hx; simp at hx; rcases hx with rfl | rfl <;> exact fits_u64.2 (by omega)

set_option maxHeartbeats 800000 in
theorem live06 (w : World) : Calls Try.prog 52 #[] w fun e w' => e = .returned (.bool true) ∧ Below w.heap.size w w' := by
  have r1 : ∀ w : World, Row .u64 (w.alloc (.cells #[.int .u64 1, .int .u64 2] 28)) (some ⟨w.heap.size, 0, none⟩) [1, 2] := fun w => row_new .u64 w _ [1, 2] (fits2 _ _ (by omega) (by omega)) (by simp)
  have r2 : ∀ w : World, Row .u64 (w.alloc (.cells #[.int .u64 3, .int .u64 18446744069414584320] 28)) (some ⟨w.heap.size, 0, none⟩) [3, 18446744069414584320] := fun w => row_new .u64 w _ [3, 18446744069414584320] (fits2 _ _ (by omega) (by omega)) (by simp)
  have R1 := Lib.hid r1; have R2 := Lib.hid r2
  have hs : hasSz ((2 : Nat) : Int) = true := by decide
  have HS := Lib.hid hs
  have hd : Hid (dftL [1, 2] (dirRt 2 0) = [3, 18446744069414584320]) := by
    unfold Hid
    have : dirRt 2 0 = rt 2 := by unfold dirRt; rw [if_neg (by omega)]
    rw [this, rt_two, dft_12]
  clear r1 r2 hs
  go_enter Try.func52, Try.ntmps52
  go_wp2_with fail
  refine (dftDft_ok _ 2 _ [1, 2] 0 _ (R1.out _) rfl HS.out (by omega) (.inl rfl)).mono ?_
  rintro e w1 ⟨a1, cap1, rfl, hr1, hcap1, hb1⟩
  have hl2 := dftL_len [1, 2] (dirRt 2 0)
  go_wp2_with fail
  refine (ref_SameT _ _ _ _ _ _ (dftL [1, 2] (dirRt 2 0)) [3, 18446744069414584320] _ (hr1.below ((Below.refl _ _).alloc (Nat.le_refl _) _)) (R2.out _) (by rw [dftL_len]; rfl) (by rfl) hd.out).mono ?_
  rintro e w2 ⟨rfl, hb2⟩
  go_wp2_with fail
  go_ret
  exact ⟨rfl, chainA (chainA (Below.refl _ _) hb1) hb2⟩

theorem vref_ScaleN (a : Option Addr) (n cap : Nat) (xs : List Int) (c : Int) (w : World) (hx : Row .u64 w a xs) (hn : xs.length = n) (hl : xs.length ≤ 16777216) (h0 : 0 ≤ c) (h1 : c < 18446744073709551616) :
    Calls Try.prog 63 #[.slice a n cap, .int .u64 c] w (GivesRow .u64 (scaleL xs c) w) := by
  subst hn; exact vref_Scale a cap xs c w hx hl h0 h1
theorem vref_AddN (a b : Option Addr) (n m ca cb : Nat) (xs ys : List Int) (w : World) (hx : Row .u64 w a xs) (hy : Row .u64 w b ys) (hn : xs.length = n) (hm : ys.length = m) (hl : xs.length = ys.length) (hs : xs.length ≤ 16777216) :
    Calls Try.prog 54 #[.slice a n ca, .slice b m cb] w (GivesRow .u64 (addL xs ys) w) := by
  subst hn hm; exact vref_Add a b ca cb xs ys w hx hy hl hs

set_option maxHeartbeats 2000000 in
theorem dftTells_ok (a : Option Addr) (cap : Nat) (xs : List Int) (d k z : Int) (w : World) (hx : Row .u64 w a xs) (hk : -9223372036854775808 ≤ k ∧ k < 9223372036854775808) (hz0 : 0 ≤ z) (hz1 : z < 18446744073709551616) (hl : xs.length ≤ 70) (hc : chk xs.length d = 0) :
    Calls Try.prog 15 #[.slice a xs.length cap, .agg #[.int .i64 d, .int .i64 k], .int .u64 z] w fun e w' => e = .returned (.bool true) ∧ Below w.heap.size w w' := by
  obtain ⟨hd, hs, _⟩ := chk_ok hc
  have HX := Lib.hid hx
  have HD := Lib.hid hd
  have HS := Lib.hid hs
  have HC := Lib.hid hc
  have hdb : 0 ≤ d ∧ d ≤ 1 := by omega
  have hpp : ∀ t : Int, (t != t) = false := fun t => by simp
  have HU := Lib.hid (dft_undo xs d hd hs (by omega))
  clear hx hd hs hc
  go_enter Try.func15, Try.ntmps15
  go_wp2_with fail
  go_quiet (fail)
  go_wp2_with fail
  refine (dftDft_ok a _ cap xs d _ (HX.out.below (below_drewN ((Below.refl _ _).alloc (Nat.le_refl _) _) _)) rfl HS.out (by omega) HD.out).mono ?_
  rintro e w1 ⟨a1, cap1, rfl, hr1, hcap1, hb1'⟩
  have hb1 : Below w.heap.size w w1 := chain (below_drewN ((Below.refl _ _).alloc (Nat.le_refl _) _) _) hb1'
  clear hb1'
  go_wp2_with fail
  refine (dftUndo_ok a _ cap xs d _ (HX.out.below hb1) rfl HS.out (by omega) HD.out).mono ?_
  rintro e w2 ⟨a2, cap2, rfl, hr2, hcap2, hb2⟩
  have hB2 := chain hb1 hb2
  go_wp2_with fail
  refine (refCheck xs.length d _ (by omega) (by omega)).mono ?_; rintro e w' ⟨rfl, rfl⟩
  rw [HC.out]
  go_wp2_with fail
  refine (dftPoint a _ cap xs z k _ (HX.out.below hB2) rfl (by omega) hk hz0 hz1).mono ?_
  rintro e w3 ⟨rfl, hb3⟩
  have hB3 := chain hB2 hb3
  go_wp2_with fail
  refine (refPoint a _ cap xs z k _ (HX.out.below hB3) rfl (by omega) hk hz0 hz1).mono ?_; rintro e w' ⟨rfl, rfl⟩
  go_wp2_with fail
  refine (refDft a _ cap xs d _ (HX.out.below hB3) rfl HS.out (by omega) HD.out).mono ?_
  rintro e w4 ⟨a4, cap4, rfl, hr4, hcap4, hb4⟩
  have hB4 := chain hB3 hb4
  go_wp2_with fail
  refine (ref_SameT _ _ _ _ _ _ (dftL xs (dirRt xs.length d)) (dftL xs (dirRt xs.length d)) _ (hr1.below (chain (chain hb2 hb3) hb4)) hr4 (by simp [dftL_len]) (by simp [dftL_len]) rfl).mono ?_
  rintro e w5 ⟨rfl, hb5⟩
  have hB5 := chain hB4 hb5
  go_wp2_with fail
  have hul := undoL_len xs d
  refine (refDft a2 _ cap2 (undoL xs d) d _ (hr2.below (chain (chain hb3 hb4) hb5)) rfl (by rw [undoL_len]; exact HS.out) (by rw [undoL_len]; omega) HD.out).mono ?_
  rintro e w6 ⟨a6, cap6, rfl, hr6, hcap6, hb6⟩
  have hB6 := chain hB5 hb6
  go_wp2_with fail
  refine (vref_RedR a cap xs _ (HX.out.below hB6) (by omega)).mono ?_
  rintro e w7 ⟨a7, cap7, rfl, hr7, hcap7, hb7⟩
  have hB7 := chain hB6 hb7
  go_wp2_with fail
  refine (ref_SameT _ _ _ _ _ _ (dftL (undoL xs d) (dirRt (undoL xs d).length d)) (redL xs) _ (hr6.below hb7) hr7 (by simp [dftL_len]) (by simp [redL_len]) (by rw [undoL_len]; exact HU.out)).mono ?_
  rintro e w8 ⟨rfl, hb8⟩
  have hB8 := chain hB7 hb8
  go_wp2_with fail
  refine (live06 _).mono ?_
  rintro e w9 ⟨rfl, hb9⟩
  go_wp2_with fail
  go_ret
  exact ⟨rfl, chain hB8 hb9⟩
end Go.Proofs.Ytfoodnmcilogjaa
