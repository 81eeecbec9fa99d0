/- The law DftLinear. -/
import Derived.Test.YtfoodnmcilogjaaDftE
namespace Go.Proofs.Ytfoodnmcilogjaa
open Go.RowKit Sm
set_option linter.unusedVariables false
set_option linter.unusedSimpArgs false

theorem vref_TurnN (a : Option Addr) (n cap : Nat) (xs : List Int) (k : Int) (w : World) (hx : Row .u64 w a xs) (hn : xs.length = n) (hcap : xs.length ≤ cap) (hl : xs.length ≤ 16777216) (hk : -9223372036854775808 ≤ k ∧ k ≤ 9223372036854775807) :
    Calls Try.prog 23 #[.slice a n cap, .int .i64 k] w (GivesRow .u64 (turnL xs k) w) := by
  subst hn; exact vref_Turn a cap xs k w hx hcap hl hk

/-- The place of a power, as Go reckons it. -/
def mk' (m k n : Nat) : Nat := m % n * k % n
theorem mk_int (m k n : Nat) : (((m : Int).tmod (n : Int)) * (k : Int)).tmod (n : Int) = (mk' m k n : Nat) := by
  unfold mk'
  rw [Int.tmod_eq_emod_of_nonneg (show 0 ≤ (m : Int) by omega), ← Int.natCast_emod, ← Int.natCast_mul, Int.tmod_eq_emod_of_nonneg (by omega), ← Int.natCast_emod]
theorem mk_lt (m k n : Nat) (h : 0 < n) : mk' m k n < n := Nat.mod_lt _ h
theorem mk_mod (m n : Nat) (h : 0 < n) : ∃ r : Nat, (m : Int) % (n : Int) = r ∧ (m : Int).tmod (n : Int) = r ∧ r < n := by
  refine ⟨m % n, by rw [← Int.natCast_emod], by rw [Int.tmod_eq_emod_of_nonneg (show 0 ≤ (m : Int) by omega), ← Int.natCast_emod], Nat.mod_lt _ h⟩

set_option maxHeartbeats 4000000 in
theorem dftLinear_ok (a b : Option Addr) (ca cb : Nat) (xs ys : List Int) (m : Nat) (w : World) (hx : Row .u64 w a xs) (hcap : xs.length ≤ ca) (hy : Row .u64 w b ys) (hl : xs.length = ys.length) (hn : xs.length ≤ 130) (hs : hasSz xs.length = true) (hm : m ≤ 1000) :
    Calls Try.prog 11 #[.slice a xs.length ca, .slice b ys.length cb, .int .i64 m] w fun e w' => e = .returned (.bool true) ∧ Below w.heap.size w w' := by
  have hs1 := (hasSz_iff.1 hs).1
  have HX := Lib.hid hx
  have HY := Lib.hid hy
  have HL := Lib.hid hl
  have HS := Lib.hid hs
  have hcz : chk xs.length 0 = 0 := chk_mk (.inl rfl) hs (by omega)
  have HC := Lib.hid hcz
  have hne : ((ys.length : Int) != (xs.length : Int)) = false := bfalse (by omega)
  have HA := Lib.hid (dft_add xs ys (dirRt xs.length 0) hl)
  have HD : Hid (dirRt xs.length 0 = rt xs.length) := by unfold Hid dirRt; rw [if_neg (by omega)]
  have HB := Lib.hid (bk_last xs.length hs)
  have hrr := rt_range xs.length
  have hyl : ys.length ≤ 130 := by omega
  have hpr := pw_range (rt xs.length) (xs.length - 1)
  have HT : Hid (∀ k, k < xs.length → nth (dftL (turnL xs m) (rt xs.length)) k = nth (dftL xs (rt xs.length)) k * pw (bk xs.length) (mk' m k xs.length) % 18446744069414584321) := fun k hk => dft_turn xs m k hs hk
  clear hx hy hl hs hcz
  go_enter Try.func11, Try.ntmps11
  go_wp2_with fail
  refine (refCheck xs.length 0 _ (by omega) (by omega)).mono ?_; rintro e w' ⟨rfl, rfl⟩
  rw [HC.out]
  go_wp2_with fail
  refine (dftDft_ok a _ ca xs 0 _ HX.out rfl HS.out (by omega) (.inl rfl)).mono ?_
  rintro e w1 ⟨a1, cap1, rfl, hr1, hcap1, hb1⟩
  rw [dftL_len]
  go_wp2_with fail
  refine (dftDft_ok b _ cb ys 0 _ (HY.out.below hb1) rfl (by rw [← HL.out]; exact HS.out) (by omega) (.inl rfl)).mono ?_
  rintro e w2 ⟨a2, cap2, rfl, hr2, hcap2, hb2⟩
  have hB2 := chain hb1 hb2
  have HL2 : Hid ((dftL ys (dirRt ys.length 0)).length = xs.length) := by unfold Hid; rw [dftL_len, HL.out]
  rw [HL2.out]
  go_wp2_with fail
  refine (vref_AddN a b _ _ ca cb xs ys _ (HX.out.below hB2) (HY.out.below hB2) rfl rfl HL.out (by omega)).mono ?_
  rintro e w3 ⟨a3, cap3, rfl, hr3, hcap3, hb3⟩
  have hB3 := chain hB2 hb3
  rw [addL_len]
  go_wp2_with fail
  refine (dftDft_ok a3 _ cap3 (addL xs ys) 0 _ hr3 (addL_len _ _) HS.out (by omega) (.inl rfl)).mono ?_
  rintro e w4 ⟨a4, cap4, rfl, hr4, hcap4, hb4⟩
  have hB4 := chain hB3 hb4
  rw [dftL_len, addL_len]
  go_wp2_with fail
  refine (vref_TurnN a _ ca xs m _ (HX.out.below hB4) rfl hcap (by omega) (by omega)).mono ?_
  rintro e w5 ⟨a5, cap5, rfl, hr5, hcap5, hb5⟩
  have hB5 := chain hB4 hb5
  rw [turnL_len]
  go_wp2_with fail
  refine (dftDft_ok a5 _ cap5 (turnL xs m) 0 _ hr5 (turnL_len _ _) HS.out (by omega) (.inl rfl)).mono ?_
  rintro e w6 ⟨a6, cap6, rfl, hr6, hcap6, hb6⟩
  have hB6 := chain hB5 hb6
  rw [dftL_len, turnL_len]
  go_wp2_with fail
  refine (vref_AddN a1 a2 _ _ cap1 cap2 (dftL xs (dirRt xs.length 0)) (dftL ys (dirRt ys.length 0)) _ (hr1.below (chain (chain (chain (chain hb2 hb3) hb4) hb5) hb6)) (hr2.below (chain (chain (chain hb3 hb4) hb5) hb6)) (dftL_len _ _) HL2.out (by rw [dftL_len, HL2.out]) (by rw [dftL_len]; omega)).mono ?_
  rintro e w7 ⟨a7, cap7, rfl, hr7, hcap7, hb7⟩
  have hB7 := chain hB6 hb7
  rw [addL_len, dftL_len]
  go_wp2_with fail
  refine (ref_SameT _ _ _ _ _ _ (dftL (addL xs ys) (dirRt xs.length 0)) (addL (dftL xs (dirRt xs.length 0)) (dftL ys (dirRt ys.length 0))) _ (hr4.below (chain (chain hb5 hb6) hb7)) hr7 (by rw [dftL_len, addL_len]) (by rw [addL_len, dftL_len]) (by rw [← HL.out]; exact HA.out)).mono ?_
  rintro e w8 ⟨rfl, hb8⟩
  have hB8 := chain hB7 hb8
  go_wp2_with fail
  refine (refBack xs.length _ (by omega) (by omega)).mono ?_; rintro e w' ⟨rfl, rfl⟩
  go_wp2_with fail
  refine (refPowers (pw (rt xs.length) (xs.length - 1)) xs.length _ hpr.1 hpr.2 (by omega)).mono ?_
  rintro e w9 ⟨a9, cap9, rfl, hr9, hcap9, hb9⟩
  have hB9 := chain hB8 hb9
  have hC1 : Below w1.heap.size w1 w9 := chain (chain (chain (chain (chain (chain (chain hb2 hb3) hb4) hb5) hb6) hb7) hb8) hb9
  have hC6 : Below w6.heap.size w6 w9 := chain (chain hb7 hb8) hb9
  have HR1 := Lib.hid (hr1.below hC1)
  have HR6 := Lib.hid (hr6.below hC6)
  have HR9 := Lib.hid hr9
  have HB9 := Lib.hid hB9
  clear hr1 hr2 hr3 hr4 hr5 hr6 hr7 hr9 hb1 hb2 hb3 hb4 hb5 hb6 hb7 hb8 hb9 hB2 hB3 hB4 hB5 hB6 hB7 hB8 hB9 hC1 hC6
  rw [powL_len]
  go_wp2_with fail
  go_loopw [17] (fun i wr => ∃ k : Nat, k ≤ xs.length ∧ i = .int .i64 k ∧ Below w9.heap.size w9 wr) (fun i _ => xs.length - (intOf i).toNat)
  case atStart => exact ⟨0, Nat.zero_le _, rfl, Below.refl _ _⟩
  case round =>
    obtain ⟨k, hk, rfl, hb⟩ := hrel
    by_cases hlt : k < xs.length
    · have hq := mk_lt m k xs.length (by omega)
      have hqi := mk_int m k xs.length
      have HQ := Lib.hid (HT.out k hlt)
      obtain ⟨r, hr0, hr0', hr1⟩ := mk_mod m xs.length (by omega)
      generalize mk' m k xs.length = q at *
      rw [hr0'] at hqi
      have hrk : 0 ≤ (r : Int) * (k : Int) ∧ (r : Int) * (k : Int) ≤ 16900 := by
        have : r * k ≤ 130 * 130 := Nat.mul_le_mul (by omega) (by omega)
        rw [← Int.natCast_mul]; omega
      have e1 : IntKind.i64.wrap ((r : Int) * (k : Int)) = (r : Int) * (k : Int) := IntWalk.i64_in _ (by omega)
      have hn0 : ((xs.length : Int) == 0) = false := bno (by omega)
      have l1 := dftL_len xs (dirRt xs.length 0)
      have l6 := dftL_len (turnL xs m) (dirRt xs.length 0)
      have l6' := turnL_len xs m
      obtain ⟨b1, o1, rfl, hc1⟩ := (HR1.out.below hb).at (by omega)
      obtain ⟨b6, o6, rfl, hc6⟩ := (HR6.out.below hb).at (by omega)
      obtain ⟨b9, o9, rfl, hc9⟩ := (HR9.out.below hb).at (by rw [powL_len]; omega)
      have g1 := hc1 k (by omega)
      have g6 := hc6 k (by omega)
      have g9 := hc9 q (by rw [powL_len]; exact hq)
      have hp9 : nth (powL (pw (rt xs.length) (xs.length - 1)) xs.length) q = pw (bk xs.length) q := by
        rw [← HB.out]; exact nth_ofFn _ _ _ hq
      rw [hp9] at g9
      have e6 : nth (dftL (turnL xs m) (dirRt xs.length 0)) k = nth (dftL xs (dirRt xs.length 0)) k * pw (bk xs.length) q % 18446744069414584321 := by
        have := HQ.out
        rw [HD.out]; exact this
      have f1 := fits_u64.1 (HR1.out.wf _ (nth_mem (show k < (dftL xs (dirRt xs.length 0)).length by omega)))
      have f9 := pw_range (bk xs.length) q
      have hne2 : (nth (dftL (turnL xs m) (dirRt xs.length 0)) k != nth (dftL xs (dirRt xs.length 0)) k * pw (bk xs.length) q % 18446744069414584321) = false := bfalse e6
      generalize nth (dftL (turnL xs m) (dirRt xs.length 0)) k = t6 at *
      generalize nth (dftL xs (dirRt xs.length 0)) k = t1 at *
      generalize pw (bk xs.length) q = t9 at *
      have q1 : (0 : Int) ≤ (q : Int) := by omega
      have q2 : (q : Int) < (xs.length : Int) := by omega
      have q3 : (0 : Int) ≤ (k : Int) := by omega
      have q4 : (k : Int) < (xs.length : Int) := by omega
      clear hc1 hc6 hc9 l1 l6 l6' hp9 e6 HQ
      go_wp2_with fail
      go_quiet ((go_at_call 30; exact Calls.quiet_of_same ((ref_Mul _ _ _ (by omega) (by omega) (by omega) (by omega)).mono fun e w' ⟨x, y⟩ => ⟨x, y.symm⟩)))
      go_wp2_with fail
      go_roundw
      case rel => exact ⟨k + 1, by omega, by go_num, below_drewN hb _⟩
      case measure => simp [intOf]; omega
    · go_wp2_with fail
      refine (live06 _).mono ?_
      rintro e w13 ⟨rfl, hb13⟩
      go_wp2_with fail
      go_ret
      exact ⟨rfl, chain (chain HB9.out hb) hb13⟩

theorem dftLinearW (a : Option Addr) (ca : Nat) (xs : List Int) (b : Option Addr) (cb : Nat) (ys : List Int) (m : Int) (w : World) (hx : Row .u64 w a xs) (hcap : OkCap a xs.length ca) (hy : Row .u64 w b ys) (hcap2 : OkCap b ys.length cb) (hm : fits .i64 m) :
    Calls Try.prog 11 #[.slice a xs.length ca, .slice b ys.length cb, .int .i64 m] w fun e w' => e = .returned (.bool true) ∧ Below w.heap.size w w' := by
  have hm' := fits_i64.1 hm
  have hlx := hx.len
  have hly := hy.len
  by_cases hn : xs.length ≤ 130
  · by_cases hl : xs.length = ys.length
    · have hne : ((ys.length : Int) != (xs.length : Int)) = false := bfalse (by omega)
      by_cases hc : chk xs.length 0 = 0
      · by_cases hmm : 0 ≤ m ∧ m ≤ 1000
        · obtain ⟨j, rfl⟩ := Int.eq_ofNat_of_zero_le hmm.1
          exact dftLinear_ok a b ca cb xs ys j w hx hcap.1 hy hl hn (chk_ok hc).2.1 (by omega)
        · have HC := Lib.hid hc
          have hd : m < 0 ∨ (0 ≤ m ∧ 1000 < m) := by omega
          clear hx hy hc hmm hl hcap hcap2 hm
          rcases hd with h2 | ⟨h2, h3⟩
          all_goals
            go_enter Try.func11, Try.ntmps11
            go_wp2_with fail
            refine (refCheck xs.length 0 _ (by omega) (by omega)).mono ?_; rintro e w' ⟨rfl, rfl⟩
            rw [HC.out]
            go_wp2_with fail
            refine (live06 _).mono ?_
            rintro e w13 ⟨rfl, hb13⟩
            go_wp2_with fail
            go_ret
            exact ⟨rfl, hb13⟩
      · have hcb : (chk xs.length 0 != 0) = true := by simp [hc]
        have HCB := Lib.hid hcb
        clear hx hy hc hcb hl hcap hcap2 hm
        go_enter Try.func11, Try.ntmps11
        go_wp2_with fail
        refine (refCheck xs.length 0 _ (by omega) (by omega)).mono ?_; rintro e w' ⟨rfl, rfl⟩
        have hcb := HCB.out
        go_wp2_with fail
        refine (live06 _).mono ?_
        rintro e w13 ⟨rfl, hb13⟩
        go_wp2_with fail
        go_ret
        exact ⟨rfl, hb13⟩
    · have hne : ((ys.length : Int) != (xs.length : Int)) = true := by simp; omega
      clear hx hy hl hcap hcap2 hm
      go_enter Try.func11, Try.ntmps11
      go_wp2_with fail
      refine (live06 _).mono ?_
      rintro e w13 ⟨rfl, hb13⟩
      go_wp2_with fail
      go_ret
      exact ⟨rfl, hb13⟩
  · clear hx hy hcap hcap2 hm
    go_enter Try.func11, Try.ntmps11
    go_wp2_with fail
    refine (live06 _).mono ?_
    rintro e w13 ⟨rfl, hb13⟩
    go_wp2_with fail
    go_ret
    exact ⟨rfl, hb13⟩
end Go.Proofs.Ytfoodnmcilogjaa
