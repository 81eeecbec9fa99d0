/- The laws of chapter 06, second part. -/
import Derived.Test.YtfoodnmcilogjaaDftD
namespace Go.Proofs.Ytfoodnmcilogjaa
open Go.RowKit Sm
set_option linter.unusedVariables false
set_option linter.unusedSimpArgs false

set_option maxHeartbeats 2000000 in
theorem dftTells_no (a : Option Addr) (cap : Nat) (xs : List Int) (d k z : Int) (w : World) (hx : Row .u64 w a xs) (hd : -9223372036854775808 ≤ d ∧ d < 9223372036854775808) (hk : -9223372036854775808 ≤ k ∧ k < 9223372036854775808) (hz0 : 0 ≤ z) (hz1 : z < 18446744073709551616) (hl : xs.length ≤ 70) (hc : chk xs.length d ≠ 0) :
    Calls Try.prog 15 #[.slice a xs.length cap, .agg #[.int .i64 d, .int .i64 k], .int .u64 z] w fun e w' => e = .returned (.bool true) ∧ Below w.heap.size w w' := by
  have HX := Lib.hid hx
  have HC := Lib.hid hc
  have hcb : (chk xs.length d != 0) = true := by simp [hc]
  have hcc : (chk xs.length d != chk xs.length d) = false := by simp
  clear hx hc
  go_enter Try.func15, Try.ntmps15
  go_wp2_with fail
  go_quiet (fail)
  go_wp2_with fail
  have hb1 : Below w.heap.size w ((w.alloc (.cells #[.int .i64 d, .int .i64 k] 59)).drewN nq) := below_drewN ((Below.refl _ _).alloc (Nat.le_refl _) _) _
  refine (dftDft_no a _ cap d _ HC.out (by omega) hd).mono ?_; rintro e w' ⟨rfl, rfl⟩
  go_wp2_with fail
  refine (dftUndo_no a _ cap d _ HC.out (by omega) hd).mono ?_; rintro e w' ⟨rfl, rfl⟩
  go_wp2_with fail
  refine (refCheck xs.length d _ (by omega) (by omega)).mono ?_; rintro e w' ⟨rfl, rfl⟩
  go_wp2_with fail
  refine (dftPoint a _ cap xs z k _ (HX.out.below hb1) rfl (by omega) hk hz0 hz1).mono ?_
  rintro e w3 ⟨rfl, hb3⟩
  have hB3 := chain hb1 hb3
  go_wp2_with fail
  refine (refPoint a _ cap xs z k _ (HX.out.below hB3) rfl (by omega) hk hz0 hz1).mono ?_; rintro e w' ⟨rfl, rfl⟩
  go_wp2_with fail
  refine (live06 _).mono ?_
  rintro e w9 ⟨rfl, hb9⟩
  go_wp2_with fail
  go_ret
  exact ⟨rfl, chain hB3 hb9⟩

theorem dftTellsW (a : Option Addr) (cap : Nat) (xs : List Int) (d k z : Int) (w : World) (hx : Row .u64 w a xs) (hcap : OkCap a xs.length cap) (hd : fits .i64 d) (hk : fits .i64 k) (hz : fits .u64 z) :
    Calls Try.prog 15 #[.slice a xs.length cap, .agg #[.int .i64 d, .int .i64 k], .int .u64 z] w fun e w' => e = .returned (.bool true) ∧ Below w.heap.size w w' := by
  have hd' := fits_i64.1 hd
  have hk' := fits_i64.1 hk
  have hz' := fits_u64.1 hz
  have hlen := hx.len
  by_cases hl : xs.length ≤ 70
  · by_cases hc : chk xs.length d = 0
    · exact dftTells_ok a cap xs d k z w hx hk' hz'.1 hz'.2 hl hc
    · exact dftTells_no a cap xs d k z w hx hd' hk' hz'.1 hz'.2 hl hc
  · have hb : Below w.heap.size w (w.alloc (.cells #[.int .i64 d, .int .i64 k] 59)) := (Below.refl _ _).alloc (Nat.le_refl _) _
    clear hx hcap hd hk hz
    go_enter Try.func15, Try.ntmps15
    go_wp2_with fail
    go_quiet (fail)
    go_wp2_with fail
    refine (live06 _).mono ?_
    rintro e w9 ⟨rfl, hb9⟩
    go_wp2_with fail
    go_ret
    exact ⟨rfl, chain (below_drewN hb _) hb9⟩

set_option maxHeartbeats 2000000 in
theorem dftBack_ok (a : Option Addr) (cap : Nat) (xs : List Int) (b : Bool) (d : Int) (w : World) (hbd : (b = false ∧ d = 0) ∨ (b = true ∧ d = 1)) (hx : Row .u64 w a xs) (hl : xs.length ≤ 130) (hc : chk xs.length d = 0) :
    Calls Try.prog 16 #[.slice a xs.length cap, .bool b] w fun e w' => e = .returned (.bool true) ∧ Below w.heap.size w w' := by
  obtain ⟨hd, hs, _⟩ := chk_ok hc
  have HX := Lib.hid hx
  have HS := Lib.hid hs
  have HU := Lib.hid (undo_dft xs d hd hs (by omega))
  have HV := Lib.hid (dft_undo xs d hd hs (by omega))
  have HT := Lib.hid (dft_twice xs d hs)
  have HC := Lib.hid hc
  have HD := Lib.hid hd
  clear hx hd hs hc
  rcases hbd with ⟨rfl, rfl⟩ | ⟨rfl, rfl⟩
  all_goals
    go_enter Try.func16, Try.ntmps16
    go_wp2_with fail
    refine (refCheck xs.length _ _ (by omega) (by omega)).mono ?_; rintro e w' ⟨rfl, rfl⟩
    rw [HC.out]
    go_wp2_with fail
    refine (dftDft_ok a _ cap xs _ _ HX.out rfl HS.out (by omega) (by omega)).mono ?_
    rintro e w1 ⟨a1, cap1, rfl, hr1, hcap1, hb1⟩
    rw [dftL_len]
    go_wp2_with fail
    refine (dftUndo_ok a1 _ cap1 (dftL xs (dirRt xs.length _)) _ _ hr1 (dftL_len _ _) HS.out (by omega) (by omega)).mono ?_
    rintro e w2 ⟨a2, cap2, rfl, hr2, hcap2, hb2⟩
    have hB2 := chain hb1 hb2
    rw [undoL_len, dftL_len]
    go_wp2_with fail
    refine (dftUndo_ok a _ cap xs _ _ (HX.out.below hB2) rfl HS.out (by omega) (by omega)).mono ?_
    rintro e w3 ⟨a3, cap3, rfl, hr3, hcap3, hb3⟩
    have hB3 := chain hB2 hb3
    rw [undoL_len]
    go_wp2_with fail
    refine (dftDft_ok a3 _ cap3 (undoL xs _) _ _ hr3 (undoL_len _ _) HS.out (by omega) (by omega)).mono ?_
    rintro e w4 ⟨a4, cap4, rfl, hr4, hcap4, hb4⟩
    have hB4 := chain hB3 hb4
    rw [dftL_len, undoL_len]
    go_wp2_with fail
    refine (dftDft_ok a1 _ cap1 (dftL xs (dirRt xs.length _)) _ _ (hr1.below (chain (chain hb2 hb3) hb4)) (dftL_len _ _) HS.out (by omega) (by omega)).mono ?_
    rintro e w5 ⟨a5, cap5, rfl, hr5, hcap5, hb5⟩
    have hB5 := chain hB4 hb5
    rw [dftL_len, dftL_len]
    go_wp2_with fail
    refine (vref_RedR a cap xs _ (HX.out.below hB5) (by omega)).mono ?_
    rintro e w6 ⟨a6, cap6, rfl, hr6, hcap6, hb6⟩
    have hB6 := chain hB5 hb6
    rw [redL_len]
    go_wp2_with fail
    refine (ref_SameT _ _ _ _ _ _ (undoL (dftL xs (dirRt xs.length _)) _) (redL xs) _ (hr2.below (chain (chain (chain hb3 hb4) hb5) hb6)) hr6 (by rw [undoL_len, dftL_len]) (by rw [redL_len]) HU.out).mono ?_
    rintro e w7 ⟨rfl, hb7⟩
    have hB7 := chain hB6 hb7
    go_wp2_with fail
    refine (vref_RedR a cap xs _ (HX.out.below hB7) (by omega)).mono ?_
    rintro e w8 ⟨a8, cap8, rfl, hr8, hcap8, hb8⟩
    have hB8 := chain hB7 hb8
    rw [redL_len]
    go_wp2_with fail
    refine (ref_SameT _ _ _ _ _ _ (dftL (undoL xs _) (dirRt xs.length _)) (redL xs) _ (hr4.below (chain (chain (chain hb5 hb6) hb7) hb8)) hr8 (by rw [dftL_len, undoL_len]) (by rw [redL_len]) HV.out).mono ?_
    rintro e w9 ⟨rfl, hb9⟩
    have hB9 := chain hB8 hb9
    go_wp2_with fail
    refine (vref_Rev a cap xs _ (HX.out.below hB9) (by omega)).mono ?_
    rintro e w10 ⟨a10, cap10, rfl, hr10, hcap10, hb10⟩
    have hB10 := chain hB9 hb10
    rw [revL_len]
    go_wp2_with fail
    refine (vref_ScaleN a10 _ cap10 (revL xs) (xs.length : Int) _ hr10 (revL_len _) (by rw [revL_len]; omega) (by omega) (by omega)).mono ?_
    rintro e w11 ⟨a11, cap11, rfl, hr11, hcap11, hb11⟩
    have hB11 := chain hB10 hb11
    rw [scaleL_len, revL_len]
    go_wp2_with fail
    refine (ref_SameT _ _ _ _ _ _ (dftL (dftL xs (dirRt xs.length _)) (dirRt xs.length _)) (scaleL (revL xs) xs.length) _ (hr5.below (chain (chain (chain (chain (chain (chain hb6 hb7) hb8) hb9) hb10) hb11) (Below.refl _ _))) hr11 (by rw [dftL_len, dftL_len]) (by rw [scaleL_len, revL_len]) HT.out).mono ?_
    rintro e w12 ⟨rfl, hb12⟩
    have hB12 := chain hB11 hb12
    go_wp2_with fail
    refine (live06 _).mono ?_
    rintro e w13 ⟨rfl, hb13⟩
    go_wp2_with fail
    go_ret
    exact ⟨rfl, chain hB12 hb13⟩

theorem dftBackW (a : Option Addr) (cap : Nat) (xs : List Int) (b : Bool) (w : World) (hx : Row .u64 w a xs) (hcap : OkCap a xs.length cap) :
    Calls Try.prog 16 #[.slice a xs.length cap, .bool b] w fun e w' => e = .returned (.bool true) ∧ Below w.heap.size w w' := by
  have hlen := hx.len
  obtain ⟨d, hbd⟩ : ∃ d : Int, (b = false ∧ d = 0) ∨ (b = true ∧ d = 1) := by cases b; exact ⟨0, .inl ⟨rfl, rfl⟩⟩; exact ⟨1, .inr ⟨rfl, rfl⟩⟩
  by_cases hl : xs.length ≤ 130
  · by_cases hc : chk xs.length d = 0
    · exact dftBack_ok a cap xs b d w hbd hx hl hc
    · have hcb : (chk xs.length d != 0) = true := by simp [hc]
      have HCB := Lib.hid hcb
      clear hx hcap hc hcb
      rcases hbd with ⟨rfl, rfl⟩ | ⟨rfl, rfl⟩
      all_goals
        go_enter Try.func16, Try.ntmps16
        go_wp2_with fail
        refine (refCheck xs.length _ _ (by omega) (by omega)).mono ?_; rintro e w' ⟨rfl, rfl⟩
        have hcb := HCB.out
        go_wp2_with fail
        refine (live06 _).mono ?_
        rintro e w13 ⟨rfl, hb13⟩
        go_wp2_with fail
        go_ret
        exact ⟨rfl, hb13⟩
  · clear hx hcap
    rcases hbd with ⟨rfl, rfl⟩ | ⟨rfl, rfl⟩
    all_goals
      go_enter Try.func16, Try.ntmps16
      go_wp2_with fail
      refine (live06 _).mono ?_
      rintro e w13 ⟨rfl, hb13⟩
      go_wp2_with fail
      go_ret
      exact ⟨rfl, hb13⟩

set_option maxHeartbeats 2000000 in
theorem dftUnits_ok (n k : Nat) (w : World) (hn : n ≤ 130) (hs : hasSz n = true) (hk : k < n) :
    Calls Try.prog 12 #[.int .i64 n, .int .i64 k] w fun e w' => e = .returned (.bool true) ∧ Below w.heap.size w w' := by
  obtain ⟨i0, hi, hz0, hz1, hz2⟩ := info_parts info_u64
  have hs1 := (hasSz_iff.1 hs).1
  have HS := Lib.hid hs
  have hz := rt_range n
  have HU := Lib.hid (dft_unit n k (rt n) hk)
  have HD : Hid (dirRt n 0 = rt n) := by unfold Hid dirRt; rw [if_neg (by omega)]
  clear hs
  go_enter Try.func12, Try.ntmps12
  go_wp2_with fail
  refine (refHas_yes n _ HS.out).mono ?_; rintro e w' ⟨rfl, rfl⟩
  go_wp2_with (at_make; refine wpList_make_full _ rfl _ _ 22 rfl w.heap.size 28 i0 (.int .u64 0) 1 Try.underlying22 hi hz0 hz1 .i64 .i64 n n n rfl rfl rfl rfl (by rw [hz2]; omega) (by unfold maxLen; omega) (Nat.le_refl _) ?_)
  intro w1 hown0 hgrow0
  have hown := Own.made hown0 hgrow0
  have hc := hown.cell k hk
  have hfz := hown.free k
  have hnext := hown.store k hk 1 (f' := fun j => if j = k then 1 else 0) (by simp) (fun j _ hj => by simp [hj])
  have hrow := OwnAt.row hnext (xs := unitL n k) (by simp [unitL]) (fun x hx => by obtain ⟨i, _, rfl⟩ := List.mem_map.1 hx; split <;> exact fits_u64.2 (by omega)) (fun i hi => nth_ofFn _ _ _ hi) (by omega)
  have hb := hnext.below
  have HR := Lib.hid hrow
  have HB := Lib.hid hb
  have hul : Hid ((unitL n k).length = n) := by unfold Hid; simp [unitL]
  clear hown0 hgrow0 hown hnext hrow hb
  go_wp2_with fail
  refine (dftDft_ok _ n _ (unitL n k) 0 _ HR.out hul.out HS.out (by omega) (.inl rfl)).mono ?_
  rintro e w2 ⟨a2, cap2, rfl, hr2, hcap2, hb2⟩
  have hB2 := chain HB.out hb2
  rw [dftL_len, hul.out]
  go_wp2_with fail
  refine (refRoot n _ (by omega) (by omega)).mono ?_; rintro e w' ⟨rfl, rfl⟩
  go_wp2_with fail
  refine (ref_Pow (rt n) (k : Int) _ hz.1 hz.2 (by omega) (by omega)).mono ?_; rintro e w' ⟨rfl, rfl⟩
  rw [Int.toNat_natCast]
  have hpr := pw_range (rt n) k
  go_wp2_with fail
  refine (refPowers (pw (rt n) k) n _ hpr.1 hpr.2 (by omega)).mono ?_
  rintro e w3 ⟨a3, cap3, rfl, hr3, hcap3, hb3⟩
  have hB3 := chain hB2 hb3
  rw [powL_len]
  go_wp2_with fail
  refine (ref_SameT _ _ _ _ _ _ (dftL (unitL n k) (dirRt n 0)) (powL (pw (rt n) k) n) _ (hr2.below hb3) hr3 (by rw [dftL_len]; exact hul.out) (powL_len _ _) (by rw [HD.out]; exact HU.out)).mono ?_
  rintro e w4 ⟨rfl, hb4⟩
  have hB4 := chain hB3 hb4
  go_wp2_with fail
  refine (live06 _).mono ?_
  rintro e w13 ⟨rfl, hb13⟩
  go_wp2_with fail
  go_ret
  exact ⟨rfl, chain hB4 hb13⟩

theorem dftUnitsW (n k : Int) (w : World) (hn : fits .i64 n) (hk : fits .i64 k) :
    Calls Try.prog 12 #[.int .i64 n, .int .i64 k] w fun e w' => e = .returned (.bool true) ∧ Below w.heap.size w w' := by
  have hn' := fits_i64.1 hn
  have hk' := fits_i64.1 hk
  clear hn hk
  by_cases h1 : n ≤ 130
  · cases hs : hasSz n
    · have HS := Lib.hid hs
      clear hs
      go_enter Try.func12, Try.ntmps12
      go_wp2_with fail
      refine (refHas_no n _ HS.out hn').mono ?_; rintro e w' ⟨rfl, rfl⟩
      go_wp2_with fail
      refine (live06 _).mono ?_
      rintro e w13 ⟨rfl, hb13⟩
      go_wp2_with fail
      go_ret
      exact ⟨rfl, hb13⟩
    · have hn1 := (hasSz_iff.1 hs).1
      by_cases hkk : 0 ≤ k ∧ k < n
      · obtain ⟨m, rfl⟩ := Int.eq_ofNat_of_zero_le (show 0 ≤ n by omega)
        obtain ⟨j, rfl⟩ := Int.eq_ofNat_of_zero_le hkk.1
        exact dftUnits_ok m j w (by omega) hs (by omega)
      · have HS := Lib.hid hs
        have hd : k < 0 ∨ (0 ≤ k ∧ n ≤ k) := by omega
        clear hs hkk
        rcases hd with h2 | ⟨h2, h3⟩
        all_goals
          go_enter Try.func12, Try.ntmps12
          go_wp2_with fail
          refine (refHas_yes n _ HS.out).mono ?_; rintro e w' ⟨rfl, rfl⟩
          go_wp2_with fail
          refine (live06 _).mono ?_
          rintro e w13 ⟨rfl, hb13⟩
          go_wp2_with fail
          go_ret
          exact ⟨rfl, hb13⟩
  · go_enter Try.func12, Try.ntmps12
    go_wp2_with fail
    refine (live06 _).mono ?_
    rintro e w13 ⟨rfl, hb13⟩
    go_wp2_with fail
    go_ret
    exact ⟨rfl, hb13⟩
end Go.Proofs.Ytfoodnmcilogjaa
