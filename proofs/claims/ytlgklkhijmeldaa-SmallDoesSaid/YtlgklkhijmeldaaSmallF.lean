/- Transforms of a few numbers: the laws as calls that return true. -/
import Derived.Test.YtlgklkhijmeldaaSmallE
namespace Go.Proofs.Ytlgklkhijmeldaa
open Go.RowKit Sm
set_option linter.unusedVariables false
set_option linter.unusedSimpArgs false
set_option maxRecDepth 100000

theorem hasT (b : Int) (w : World) (h : 1 ≤ b ∧ b ≤ 5) : Calls Try.prog 37 #[.int .i64 b] w fun e w' => e = .returned (.bool true) ∧ w = w' := by
  have := small_Has b w; rw [show decide ((1 : Int) ≤ b ∧ b ≤ 5) = true by simp; omega] at this; exact this
theorem hasF (b : Int) (w : World) (h : ¬ (1 ≤ b ∧ b ≤ 5)) : Calls Try.prog 37 #[.int .i64 b] w fun e w' => e = .returned (.bool false) ∧ w = w' := by
  have := small_Has b w; rw [show decide ((1 : Int) ≤ b ∧ b ≤ 5) = false by simp; omega] at this; exact this
theorem refHasT (b : Int) (w : World) (h : 1 ≤ b ∧ b ≤ 5) : Calls Try.prog 38 #[.int .i64 b] w fun e w' => e = .returned (.bool true) ∧ w = w' := by
  have := refSm_Has b w; rw [show decide ((1 : Int) ≤ b ∧ b ≤ 5) = true by simp; omega] at this; exact this
theorem refHasF (b : Int) (w : World) (h : ¬ (1 ≤ b ∧ b ≤ 5)) : Calls Try.prog 38 #[.int .i64 b] w fun e w' => e = .returned (.bool false) ∧ w = w' := by
  have := refSm_Has b w; rw [show decide ((1 : Int) ≤ b ∧ b ≤ 5) = false by simp; omega] at this; exact this
theorem dirT (d : Int) (w : World) (h : d = 0 ∨ d = 1) : Calls Try.prog 19 #[.int .i64 d] w fun e w' => e = .returned (.bool true) ∧ w = w' := by
  have := refDirTest d w; rw [show decide (d = 0 ∨ d = 1) = true by simp; omega] at this; exact this
theorem dirF (d : Int) (w : World) (h : ¬ (d = 0 ∨ d = 1)) : Calls Try.prog 19 #[.int .i64 d] w fun e w' => e = .returned (.bool false) ∧ w = w' := by
  have := refDirTest d w; rw [show decide (d = 0 ∨ d = 1) = false by simp; omega] at this; exact this

theorem small_Rows_dir (a : Option Addr) (n c : Nat) (b d : Int) (w : World) (h : d < 0 ∨ 1 < d) :
    Calls Try.prog 43 #[.slice a n c, .int .i64 b, .int .i64 d] w fun e w' => e = .returned (.tuple #[.slice none 0 0, .int .i64 2]) ∧ w = w' := by
  rcases (show d < 0 ∨ (0 ≤ d ∧ 1 < d) by omega) with h1 | ⟨h1, h2⟩
  all_goals
    clear h
    go_enter Try.func43, Try.ntmps43
    go_wp2_with fail
    go_ret2
    exact ⟨rfl, rfl⟩
theorem small_Rows_few (a : Option Addr) (n c : Nat) (b d : Int) (w : World) (hd : d = 0 ∨ d = 1) (hb : ¬ (1 ≤ b ∧ b ≤ 5)) :
    Calls Try.prog 43 #[.slice a n c, .int .i64 b, .int .i64 d] w fun e w' => e = .returned (.tuple #[.slice none 0 0, .int .i64 2]) ∧ w = w' := by
  have C1 : Hid (∀ w : World, Calls Try.prog 37 #[.int .i64 b] w fun e w' => e = .returned (.bool false) ∧ w = w') := fun w => hasF b w hb
  clear hb
  rcases hd with h1 | h1
  all_goals
    subst h1
    go_enter Try.func43, Try.ntmps43
    go_wp2_with fail
    refine (C1.out _).mono ?_; rintro e w' ⟨rfl, rfl⟩
    go_wp2_with fail
    go_ret2
    exact ⟨rfl, rfl⟩
theorem small_Rows_len (a : Option Addr) (n c : Nat) (b d : Int) (w : World) (hd : d = 0 ∨ d = 1) (hb : 1 ≤ b ∧ b ≤ 5) (hl : n = 0 ∨ (n : Int) % b ≠ 0) (hn : n ≤ 9223372036854775807) :
    Calls Try.prog 43 #[.slice a n c, .int .i64 b, .int .i64 d] w fun e w' => e = .returned (.tuple #[.slice none 0 0, .int .i64 5]) ∧ w = w' := by
  have C1 : Hid (∀ w : World, Calls Try.prog 37 #[.int .i64 b] w fun e w' => e = .returned (.bool true) ∧ w = w') := fun w => hasT b w hb
  have hb0 : (b == 0) = false := bno (by omega)
  rcases (show n = 0 ∨ (n ≠ 0 ∧ (n : Int) % b ≠ 0) by omega) with h0 | ⟨h0, h0'⟩
  · subst h0
    clear hl hb
    rcases hd with h1 | h1
    all_goals
      subst h1
      go_enter Try.func43, Try.ntmps43
      go_wp2_with fail
      refine (C1.out _).mono ?_; rintro e w' ⟨rfl, rfl⟩
      go_wp2_with fail
      go_ret2
      exact ⟨rfl, rfl⟩
  · have hn0 : ((n : Int) == 0) = false := bno (by omega)
    have hr0 : ((n : Int) % b != 0) = true := bdiff' h0'
    have hb1 : b ≠ -1 := by omega
    have hb2 : 0 < b := by omega
    clear hl hb h0 h0'
    rcases hd with h1 | h1
    all_goals
      subst h1
      go_enter Try.func43, Try.ntmps43
      go_wp2_with fail
      refine (C1.out _).mono ?_; rintro e w' ⟨rfl, rfl⟩
      go_wp2_with fail
      go_ret2
      exact ⟨rfl, rfl⟩

set_option maxHeartbeats 1600000 in
theorem refRows (a : Option Addr) (n m b cap : Nat) (d : Int) (xs : List Int) (w : World) (hx : Row .u64 w a xs) (hxl : xs.length = n) (hcap : n ≤ cap) (hd : d = 0 ∨ d = 1) (h1 : 1 ≤ b) (h5 : b ≤ 5) (hn : n ≤ 16777216) (hm : n = m * b) (hm1 : 1 ≤ m) :
    Calls Try.prog 44 #[.slice a n cap, .int .i64 b, .int .i64 d] w (GivesRow .u64 (rowsL xs b (dirRt b d) m) w) := by
  obtain ⟨i0, hi, hz0, hz1, hz2⟩ := info_parts info_u64
  have hs := few_size b h1 h5
  have C3 : Hid (∀ (a : Option Addr) (c : Nat) (ys : List Int) (w : World), Row .u64 w a ys → ys.length = b → Calls Try.prog 20 #[.slice a b c, .int .i64 d] w (GivesRow .u64 (dftL ys (dirRt b d)) w)) := fun a c ys w hy hyl => refDft a b c ys d w hy hyl hs (by omega) hd
  have hn1 : 1 ≤ n := by rw [hm]; exact Nat.le_trans h1 (Nat.le_mul_of_pos_left b (by omega))
  obtain ⟨bk, off, rfl, _⟩ := hx.at (by omega)
  have HX := Lib.hid hx
  have HXL := Lib.hid hxl
  have HMB := Lib.hid hm
  clear hx hxl hm hs hd
  obtain ⟨z, hz⟩ : ∃ z, dirRt b d = z := ⟨_, rfl⟩
  rw [hz] at C3 ⊢
  have HO0 := Lib.hid (World.ownsRow_nil w w.heap.size 45 1)
  clear hz
  go_enter Try.func44, Try.ntmps44
  go_wp2_with fail
  go_loopw [7, 8] (fun v i wr => ∃ k : Nat, k ≤ m ∧ i = .int .i64 (k * b : Nat) ∧ wr.ownsRow w.heap.size 45 1 v (k * b) ((rowsL xs b z k).map (Value.int .u64)) ∧ Below w.heap.size w wr) (fun _ i _ => n - (intOf i).toNat)
  case atStart => exact ⟨0, Nat.zero_le _, by simp, by simpa [rowsL] using HO0.out, Below.refl _ _⟩
  case round =>
    obtain ⟨k, hk, rfl, hown, hbel⟩ := hrel
    obtain ⟨A, hA⟩ : ∃ A, k * b = A := ⟨_, rfl⟩
    by_cases hlt : k < m
    · have hle : A + b ≤ n := by
        have : (k + 1) * b ≤ m * b := Nat.mul_le_mul_right b (by omega)
        rw [Nat.succ_mul] at this
        rw [HMB.out, ← hA]; exact this
      have HAS : Hid ((k + 1) * b = A + b) := by unfold Hid; rw [Nat.succ_mul, hA]
      have hcut := ((HX.out.below hbel).cut A (A + b))
      have hcl := piece_len xs A b (by rw [HXL.out]; exact hle)
      have hsucc : rowsL xs b z (k + 1) = rowsL xs b z k ++ dftL ((xs.take (A + b)).drop A) z := by rw [rowsL_succ, hA]
      rw [hA] at hown ⊢
      obtain ⟨ys, hys⟩ : ∃ ys, (xs.take (A + b)).drop A = ys := ⟨_, rfl⟩
      rw [hys] at hcut hcl hsucc
      have HC := Lib.hid hcut
      have HCL := Lib.hid hcl
      have HS := Lib.hid hsucc
      have HOW := Lib.hid hown
      have HB := Lib.hid hbel
      have hmc : ¬ A = cap := by omega
      have hsz := hbel.size
      clear hcut hcl hsucc hown hys hbel hA
      go_wp2_with fail
      have HDL : Hid ((dftL ys z).length = b) := (dftL_len ys z).trans HCL.out
      refine (C3.out _ _ ys _ HC.out HCL.out).mono ?_
      rintro e w1 ⟨a1, cap1, rfl, hr1, hcap1, hb1⟩
      rw [HDL.out] at hcap1 ⊢
      have hown1 := own_later HOW.out hb1
      go_wp2_with (at_builtin; refine wpList_append_row rfl _ _ 22 rfl .u64 w.heap.size 45 i0 (.int .u64 0) Try.underlying22 hi hz0 hz1 hz2 rfl _ _ _ rfl hown1 _ _ _ (dftL ys z) rfl HDL.out hr1 hcap1.2 (by omega) (Nat.le_trans hsz hb1.size) ?_)
      intro v2 w2 hown2 hg2
      have hb2 := append_below (HB.out.trans (hb1.mono hsz)) (Nat.le_trans hsz hb1.size) hown1 hg2
      rw [← List.map_append, ← HS.out] at hown2
      have HOW2 := Lib.hid hown2
      clear hown2 hown1 hg2 hr1
      go_wp2_with fail
      go_roundw
      case rel => exact ⟨k + 1, by omega, by rw [HAS.out]; go_num, by rw [HAS.out]; exact HOW2.out, hb2⟩
      case measure => simp [intOf]; omega
    · have hkm : k = m := by omega
      subst hkm
      have hAn : A = n := by rw [← hA, HMB.out]
      subst hAn
      have hres := gives_of_own hown hbel (xs := rowsL xs b z k) rfl (rowsL_len _ _ _ _ (by rw [HXL.out, HMB.out]; exact Nat.le_refl _)) (rowsL_fits xs b z k) (by rw [hA]; exact hn)
      have HR := Lib.hid hres
      rw [hA]
      clear hown hbel hres hA
      go_wp2_with fail
      go_ret
      exact HR.out

/-! ### The page's example -/
theorem dft12 : dftL [1, 2] (dirRt 2 0) = [3, 18446744069414584320] := by
  have hr := isRoot_dir 2 0 (few_size 2 (by omega) (by omega))
  have hz := root_half hr 1 rfl (by omega)
  rw [ipow1] at hz
  refine (two_eq 1 2 _ _ 3 18446744069414584320 hr (by omega) (by omega) (rfl' _) ?_).symm
  obtain ⟨m, hm⟩ := eqm_wit hz
  refine eqm_of _ _ (1 - 2 * m) ?_
  rw [hm]; omega

set_option maxHeartbeats 1000000 in
theorem live10 (w : World) : Calls Try.prog 35 #[] w fun e w' => e = .returned (.bool true) ∧ Below w.heap.size w w' := by
  have r1 : ∀ (w : World) (n : Nat), n = w.heap.size → Row .u64 (w.alloc (.cells #[.int .u64 1, .int .u64 2] 45)) (some ⟨n, 0, none⟩) [1, 2] := fun w n hn => litRow w _ n [1, 2] hn (by decide) (by simp)
  have r2 : ∀ (w : World) (n : Nat), n = w.heap.size → Row .u64 (w.alloc (.cells #[.int .u64 3, .int .u64 18446744069414584320] 45)) (some ⟨n, 0, none⟩) [3, 18446744069414584320] := fun w n hn => litRow w _ n [3, 18446744069414584320] hn (by decide) (by simp)
  have r3 : ∀ (w : World) (n : Nat), n = w.heap.size → Row .u64 (w.alloc (.cells #[.int .u64 1, .int .u64 1, .int .u64 1] 45)) (some ⟨n, 0, none⟩) [1, 1, 1] := fun w n hn => litRow w _ n [1, 1, 1] hn (by decide) (by simp)
  have r4 : ∀ (w : World) (n : Nat), n = w.heap.size → Row .u64 (w.alloc (.cells #[.int .u64 1, .int .u64 2, .int .u64 4] 45)) (some ⟨n, 0, none⟩) [1, 2, 4] := fun w n hn => litRow w _ n [1, 2, 4] hn (by decide) (by simp)
  have e1 : twL [1, 1, 1] 2 = [1, 2, 4] := by unfold twL pw; decide
  have S1 : Hid (∀ (w : World) (a : Option Addr), Row .u64 w a [1, 2] → Calls Try.prog 36 #[.slice a 2 2, .int .i64 0] w (GivesRowE .u64 [3, 18446744069414584320] 0 w)) :=
    fun w a h1 => by rw [← dft12]; exact small_Do_ok a 2 2 0 [1, 2] w h1 rfl (Or.inl rfl) (by omega) (by omega)
  have S2 : Hid (∀ (w : World) (a : Option Addr), Row .u64 w a [1, 1, 1] → Calls Try.prog 39 #[.slice a 3 3, .int .u64 2] w (GivesRow .u64 [1, 2, 4] w)) :=
    fun w a h1 => by rw [← e1]; exact small_Twist a 3 3 [1, 1, 1] 2 w h1 rfl (by omega) (by omega) (by omega)
  have R1 := Lib.hid r1; have R2 := Lib.hid r2; have R3 := Lib.hid r3; have R4 := Lib.hid r4
  clear r1 r2 r3 r4 e1
  go_enter Try.func35, Try.ntmps35
  go_wp2_with fail
  refine (S1.out _ _ (R1.out _ _ rfl)).mono ?_
  rintro e w1 ⟨a1, cap1, rfl, hr1, hcap1, hb1⟩
  have hbl1 := chainA (Below.refl w.heap.size w) hb1
  go_wp2_with fail
  refine (ref_SameT _ _ _ _ _ _ [3, 18446744069414584320] [3, 18446744069414584320] _ (hr1.below ((Below.refl _ _).alloc (Nat.le_refl _) _)) (R2.out _ _ rfl) rfl rfl rfl).mono ?_
  rintro e w3 ⟨rfl, hb3⟩
  have hbl3 := chainA hbl1 hb3
  go_wp2_with fail
  refine (S2.out _ _ (R3.out _ _ rfl)).mono ?_
  rintro e w4 ⟨a4, cap4, rfl, hr4, hcap4, hb4⟩
  have hbl4 := chainA hbl3 hb4
  go_wp2_with fail
  refine (ref_SameT _ _ _ _ _ _ [1, 2, 4] [1, 2, 4] _ (hr4.below ((Below.refl _ _).alloc (Nat.le_refl _) _)) (R4.out _ _ rfl) rfl rfl rfl).mono ?_
  rintro e w5 ⟨rfl, hb5⟩
  have hbl5 := chainA hbl4 hb5
  go_wp2_with fail
  go_ret
  exact ⟨rfl, hbl5⟩

/-! ### Numbers times powers -/
theorem smallTwists_big (a0 : Option Addr) (n c0 : Nat) (z v : Int) (w : World) (h : 60 < n) (hn : n ≤ 9223372036854775807) :
    Calls Try.prog 9 #[.slice a0 n c0, .int .u64 z, .int .u64 v] w fun e w' => e = .returned (.bool true) ∧ Below w.heap.size w w' := by
  go_enter Try.func9, Try.ntmps9
  go_wp2_with fail
  refine (live10 _).mono ?_
  rintro e w7 ⟨rfl, hb7⟩
  go_wp2_with fail
  go_ret
  exact ⟨rfl, hb7⟩

set_option maxHeartbeats 1000000 in
theorem smallTwists_ok (a0 : Option Addr) (n c0 : Nat) (x : List Int) (z v : Int) (w : World) (hx : Row .u64 w a0 x) (hxl : x.length = n) (h : n ≤ 60) (hz0 : 0 ≤ z) (hz1 : z < 18446744073709551616) (hv0 : 0 ≤ v) (hv1 : v < 18446744073709551616) :
    Calls Try.prog 9 #[.slice a0 n c0, .int .u64 z, .int .u64 v] w fun e w' => e = .returned (.bool true) ∧ Below w.heap.size w w' := by
  have HX := Lib.hid hx
  have HXL := Lib.hid hxl
  have HL : Hid (∀ z, (twL x z).length = n) := fun z => (twL_len x z).trans hxl
  have HTT := Lib.hid (twL_twL x z v)
  have HTL : Hid ((twL (twL x z) v).length = n) := (twL_len _ _).trans (HL.out z)
  clear hx hxl
  go_enter Try.func9, Try.ntmps9
  go_wp2_with fail
  refine (small_Twist a0 n c0 x z _ HX.out HXL.out (by omega) hz0 hz1).mono ?_
  rintro e w1 ⟨a1, cap1, rfl, hr1, hcap1, hb1⟩
  rw [HL.out]
  go_wp2_with fail
  refine (refTwist a0 n c0 x z _ (HX.out.below hb1) HXL.out (by omega) hz0 hz1).mono ?_
  rintro e w2 ⟨a2, cap2, rfl, hr2, hcap2, hb2⟩
  rw [HL.out]
  go_wp2_with fail
  refine (ref_SameT _ _ _ _ _ _ (twL x z) (twL x z) _ (hr1.below hb2) hr2 (HL.out z) (HL.out z) rfl).mono ?_
  rintro e w3 ⟨rfl, hb3⟩
  go_wp2_with fail
  refine (small_Twist a1 n cap1 (twL x z) v _ ((hr1.below hb2).below hb3) (HL.out z) (by omega) hv0 hv1).mono ?_
  rintro e w4 ⟨a4, cap4, rfl, hr4, hcap4, hb4⟩
  rw [HTL.out]
  go_wp2_with (first | (go_at_call 42; refine (ref_Red _ _ (by omega) (by omega)).mono ?_; rintro e w' ⟨rfl, rfl⟩) | (go_at_call 41; refine (ref_Mul _ _ _ (by omega) (by omega) (by omega) (by omega)).mono ?_; rintro e w' ⟨rfl, rfl⟩))
  refine (refTwist a0 n c0 x _ _ ((((HX.out.below hb1).below hb2).below hb3).below hb4) HXL.out (by omega) (by omega) (by omega)).mono ?_
  rintro e w5 ⟨a5, cap5, rfl, hr5, hcap5, hb5⟩
  rw [HL.out]
  go_wp2_with fail
  refine (ref_SameT _ _ _ _ _ _ _ _ _ (hr4.below hb5) hr5 HTL.out (HL.out _) HTT.out).mono ?_
  rintro e w6 ⟨rfl, hb6⟩
  go_wp2_with fail
  refine (live10 _).mono ?_
  rintro e w7 ⟨rfl, hb7⟩
  go_wp2_with fail
  go_ret
  exact ⟨rfl, chain (chain (chain (chain (chain (chain hb1 hb2) hb3) hb4) hb5) hb6) hb7⟩

theorem smallTwistsW (a0 : Option Addr) (c0 : Nat) (x0 : List Int) (z v : Int) (w : World) (h0 : Row .u64 w a0 x0) (k0 : OkCap a0 x0.length c0) (hz : fits .u64 z) (hv : fits .u64 v) :
    Calls Try.prog 9 #[.slice a0 x0.length c0, .int .u64 z, .int .u64 v] w fun e w' => e = .returned (.bool true) ∧ Below w.heap.size w w' := by
  have h1 := fits_u64.1 hz
  have h2 := fits_u64.1 hv
  by_cases hb : x0.length ≤ 60
  · exact smallTwists_ok a0 _ c0 x0 z v w h0 rfl hb h1.1 h1.2 h2.1 h2.2
  · exact smallTwists_big a0 _ c0 z v w (by omega) h0.len

/-! ### Do -/
theorem smallDoes_big (a0 : Option Addr) (n c0 : Nat) (d : Int) (w : World) (h : 20 < n) (hn : n ≤ 9223372036854775807) :
    Calls Try.prog 8 #[.slice a0 n c0, .int .i64 d] w fun e w' => e = .returned (.bool true) ∧ Below w.heap.size w w' := by
  go_enter Try.func8, Try.ntmps8
  go_wp2_with fail
  refine (live10 _).mono ?_
  rintro e w7 ⟨rfl, hb7⟩
  go_wp2_with fail
  go_ret
  exact ⟨rfl, hb7⟩

theorem smallDoes_dir (a0 : Option Addr) (n c0 : Nat) (d : Int) (w : World) (h : n ≤ 20) (hd : ¬ (d = 0 ∨ d = 1)) :
    Calls Try.prog 8 #[.slice a0 n c0, .int .i64 d] w fun e w' => e = .returned (.bool true) ∧ Below w.heap.size w w' := by
  have C0 : Hid (∀ w : World, Calls Try.prog 36 #[.slice a0 n c0, .int .i64 d] w fun e w' => e = .returned (.tuple #[.slice none 0 0, .int .i64 2]) ∧ w = w') := fun w => small_Do_dir a0 n c0 d w (by omega)
  have C1 : Hid (∀ w : World, Calls Try.prog 19 #[.int .i64 d] w fun e w' => e = .returned (.bool false) ∧ w = w') := fun w => dirF d w hd
  obtain ⟨q, hq⟩ : ∃ q, decide ((1 : Int) ≤ n ∧ (n : Int) ≤ 5) = q := ⟨_, rfl⟩
  have C2 : Hid (∀ w : World, Calls Try.prog 37 #[.int .i64 n] w fun e w' => e = .returned (.bool q) ∧ w = w') := fun w => by rw [← hq]; exact small_Has n w
  have C3 : Hid (∀ w : World, Calls Try.prog 38 #[.int .i64 n] w fun e w' => e = .returned (.bool q) ∧ w = w') := fun w => by rw [← hq]; exact refSm_Has n w
  clear hd hq
  cases q
  all_goals
    go_enter Try.func8, Try.ntmps8
    go_wp2_with fail
    refine (C0.out _).mono ?_; rintro e w' ⟨rfl, rfl⟩
    go_wp2_with fail
    refine (C2.out _).mono ?_; rintro e w' ⟨rfl, rfl⟩
    go_wp2_with fail
    refine (C3.out _).mono ?_; rintro e w' ⟨rfl, rfl⟩
    go_wp2_with fail
    refine (C1.out _).mono ?_; rintro e w' ⟨rfl, rfl⟩
    go_wp2_with fail
    refine (live10 _).mono ?_
    rintro e w7 ⟨rfl, hb7⟩
    go_wp2_with fail
    go_ret
    exact ⟨rfl, hb7⟩

theorem smallDoes_size (a0 : Option Addr) (n c0 : Nat) (d : Int) (w : World) (h : n ≤ 20) (hd : d = 0 ∨ d = 1) (hP : ¬ (1 ≤ n ∧ n ≤ 5)) :
    Calls Try.prog 8 #[.slice a0 n c0, .int .i64 d] w fun e w' => e = .returned (.bool true) ∧ Below w.heap.size w w' := by
  have C0 : Hid (∀ w : World, Calls Try.prog 36 #[.slice a0 n c0, .int .i64 d] w fun e w' => e = .returned (.tuple #[.slice none 0 0, .int .i64 5]) ∧ w = w') := fun w => small_Do_len a0 n c0 d w hd hP (by omega)
  have C1 : Hid (∀ w : World, Calls Try.prog 19 #[.int .i64 d] w fun e w' => e = .returned (.bool true) ∧ w = w') := fun w => dirT d w hd
  have C2 : Hid (∀ w : World, Calls Try.prog 37 #[.int .i64 n] w fun e w' => e = .returned (.bool false) ∧ w = w') := fun w => hasF n w (by omega)
  have C3 : Hid (∀ w : World, Calls Try.prog 38 #[.int .i64 n] w fun e w' => e = .returned (.bool false) ∧ w = w') := fun w => refHasF n w (by omega)
  clear hd hP
  go_enter Try.func8, Try.ntmps8
  go_wp2_with fail
  refine (C0.out _).mono ?_; rintro e w' ⟨rfl, rfl⟩
  go_wp2_with fail
  refine (C2.out _).mono ?_; rintro e w' ⟨rfl, rfl⟩
  go_wp2_with fail
  refine (C3.out _).mono ?_; rintro e w' ⟨rfl, rfl⟩
  go_wp2_with fail
  refine (C1.out _).mono ?_; rintro e w' ⟨rfl, rfl⟩
  go_wp2_with fail
  refine (C3.out _).mono ?_; rintro e w' ⟨rfl, rfl⟩
  go_wp2_with fail
  refine (live10 _).mono ?_
  rintro e w7 ⟨rfl, hb7⟩
  go_wp2_with fail
  go_ret
  exact ⟨rfl, hb7⟩

set_option maxHeartbeats 1000000 in
theorem smallDoes_ok (a0 : Option Addr) (n c0 : Nat) (d : Int) (x : List Int) (w : World) (hx : Row .u64 w a0 x) (hxl : x.length = n) (h : n ≤ 20) (hd : d = 0 ∨ d = 1) (hP : 1 ≤ n ∧ n ≤ 5) :
    Calls Try.prog 8 #[.slice a0 n c0, .int .i64 d] w fun e w' => e = .returned (.bool true) ∧ Below w.heap.size w w' := by
  have C1 : Hid (∀ w : World, Calls Try.prog 19 #[.int .i64 d] w fun e w' => e = .returned (.bool true) ∧ w = w') := fun w => dirT d w hd
  have C2 : Hid (∀ w : World, Calls Try.prog 37 #[.int .i64 n] w fun e w' => e = .returned (.bool true) ∧ w = w') := fun w => hasT n w (by omega)
  have C3 : Hid (∀ w : World, Calls Try.prog 38 #[.int .i64 n] w fun e w' => e = .returned (.bool true) ∧ w = w') := fun w => refHasT n w (by omega)
  have HX := Lib.hid hx
  have HXL := Lib.hid hxl
  have HD := Lib.hid hd
  have HP := Lib.hid hP
  have HL : Hid ((dftL x (dirRt n d)).length = n) := (dftL_len _ _).trans hxl
  clear hx hxl hd hP
  go_enter Try.func8, Try.ntmps8
  go_wp2_with fail
  refine (small_Do_ok a0 n c0 d x _ HX.out HXL.out HD.out HP.out.1 HP.out.2).mono ?_
  rintro e w1 ⟨a1, cap1, rfl, hr1, hcap1, hb1⟩
  rw [HL.out]
  go_wp2_with fail
  refine (C2.out _).mono ?_; rintro e w' ⟨rfl, rfl⟩
  go_wp2_with fail
  refine (C3.out _).mono ?_; rintro e w' ⟨rfl, rfl⟩
  go_wp2_with fail
  refine (C1.out _).mono ?_; rintro e w' ⟨rfl, rfl⟩
  go_wp2_with fail
  refine (C3.out _).mono ?_; rintro e w' ⟨rfl, rfl⟩
  go_wp2_with fail
  refine (refDft a0 n c0 x d _ (HX.out.below hb1) HXL.out (few_size n HP.out.1 HP.out.2) (by omega) HD.out).mono ?_
  rintro e w2 ⟨a2, cap2, rfl, hr2, hcap2, hb2⟩
  rw [HL.out]
  go_wp2_with fail
  refine (ref_SameT _ _ _ _ _ _ (dftL x (dirRt n d)) (dftL x (dirRt n d)) _ (hr1.below hb2) hr2 HL.out HL.out rfl).mono ?_
  rintro e w3 ⟨rfl, hb3⟩
  go_wp2_with fail
  refine (live10 _).mono ?_
  rintro e w7 ⟨rfl, hb7⟩
  go_wp2_with fail
  go_ret
  exact ⟨rfl, chain (chain (chain hb1 hb2) hb3) hb7⟩

theorem smallDoesW (a0 : Option Addr) (c0 : Nat) (x0 : List Int) (d : Int) (w : World) (h0 : Row .u64 w a0 x0) (k0 : OkCap a0 x0.length c0) (hd : fits .i64 d) :
    Calls Try.prog 8 #[.slice a0 x0.length c0, .int .i64 d] w fun e w' => e = .returned (.bool true) ∧ Below w.heap.size w w' := by
  by_cases hb : x0.length ≤ 20
  · by_cases hd' : d = 0 ∨ d = 1
    · by_cases hP : 1 ≤ x0.length ∧ x0.length ≤ 5
      · exact smallDoes_ok a0 _ c0 d x0 w h0 rfl hb hd' hP
      · exact smallDoes_size a0 _ c0 d w hb hd' hP
    · exact smallDoes_dir a0 _ c0 d w hb hd'
  · exact smallDoes_big a0 _ c0 d w (by omega) h0.len

/-! ### Rows -/
theorem smallRows_big (a0 : Option Addr) (n c0 : Nat) (b d : Int) (w : World) (h : 60 < n) (hn : n ≤ 9223372036854775807) :
    Calls Try.prog 10 #[.slice a0 n c0, .int .i64 b, .int .i64 d] w fun e w' => e = .returned (.bool true) ∧ Below w.heap.size w w' := by
  go_enter Try.func10, Try.ntmps10
  go_wp2_with fail
  refine (live10 _).mono ?_
  rintro e w7 ⟨rfl, hb7⟩
  go_wp2_with fail
  go_ret
  exact ⟨rfl, hb7⟩

theorem smallRows_dir (a0 : Option Addr) (n c0 : Nat) (b d : Int) (w : World) (h : n ≤ 60) (hd : ¬ (d = 0 ∨ d = 1)) :
    Calls Try.prog 10 #[.slice a0 n c0, .int .i64 b, .int .i64 d] w fun e w' => e = .returned (.bool true) ∧ Below w.heap.size w w' := by
  have C0 : Hid (∀ w : World, Calls Try.prog 43 #[.slice a0 n c0, .int .i64 b, .int .i64 d] w fun e w' => e = .returned (.tuple #[.slice none 0 0, .int .i64 2]) ∧ w = w') := fun w => small_Rows_dir a0 n c0 b d w (by omega)
  have C1 : Hid (∀ w : World, Calls Try.prog 19 #[.int .i64 d] w fun e w' => e = .returned (.bool false) ∧ w = w') := fun w => dirF d w hd
  clear hd
  go_enter Try.func10, Try.ntmps10
  go_wp2_with fail
  refine (C0.out _).mono ?_; rintro e w' ⟨rfl, rfl⟩
  go_wp2_with fail
  refine (C1.out _).mono ?_; rintro e w' ⟨rfl, rfl⟩
  go_wp2_with fail
  refine (live10 _).mono ?_
  rintro e w7 ⟨rfl, hb7⟩
  go_wp2_with fail
  go_ret
  exact ⟨rfl, hb7⟩

theorem smallRows_few (a0 : Option Addr) (n c0 : Nat) (b d : Int) (w : World) (h : n ≤ 60) (hd : d = 0 ∨ d = 1) (hb : ¬ (1 ≤ b ∧ b ≤ 5)) :
    Calls Try.prog 10 #[.slice a0 n c0, .int .i64 b, .int .i64 d] w fun e w' => e = .returned (.bool true) ∧ Below w.heap.size w w' := by
  have C0 : Hid (∀ w : World, Calls Try.prog 43 #[.slice a0 n c0, .int .i64 b, .int .i64 d] w fun e w' => e = .returned (.tuple #[.slice none 0 0, .int .i64 2]) ∧ w = w') := fun w => small_Rows_few a0 n c0 b d w hd hb
  have C1 : Hid (∀ w : World, Calls Try.prog 19 #[.int .i64 d] w fun e w' => e = .returned (.bool true) ∧ w = w') := fun w => dirT d w hd
  have C3 : Hid (∀ w : World, Calls Try.prog 38 #[.int .i64 b] w fun e w' => e = .returned (.bool false) ∧ w = w') := fun w => refHasF b w hb
  clear hd hb
  go_enter Try.func10, Try.ntmps10
  go_wp2_with fail
  refine (C0.out _).mono ?_; rintro e w' ⟨rfl, rfl⟩
  go_wp2_with fail
  refine (C1.out _).mono ?_; rintro e w' ⟨rfl, rfl⟩
  go_wp2_with fail
  refine (C3.out _).mono ?_; rintro e w' ⟨rfl, rfl⟩
  go_wp2_with fail
  refine (live10 _).mono ?_
  rintro e w7 ⟨rfl, hb7⟩
  go_wp2_with fail
  go_ret
  exact ⟨rfl, hb7⟩

theorem smallRows_len (a0 : Option Addr) (n c0 : Nat) (b d : Int) (w : World) (h : n ≤ 60) (hd : d = 0 ∨ d = 1) (hb : 1 ≤ b ∧ b ≤ 5) (hl : n = 0 ∨ (n : Int) % b ≠ 0) :
    Calls Try.prog 10 #[.slice a0 n c0, .int .i64 b, .int .i64 d] w fun e w' => e = .returned (.bool true) ∧ Below w.heap.size w w' := by
  have C0 : Hid (∀ w : World, Calls Try.prog 43 #[.slice a0 n c0, .int .i64 b, .int .i64 d] w fun e w' => e = .returned (.tuple #[.slice none 0 0, .int .i64 5]) ∧ w = w') := fun w => small_Rows_len a0 n c0 b d w hd hb hl (by omega)
  have C1 : Hid (∀ w : World, Calls Try.prog 19 #[.int .i64 d] w fun e w' => e = .returned (.bool true) ∧ w = w') := fun w => dirT d w hd
  have C3 : Hid (∀ w : World, Calls Try.prog 38 #[.int .i64 b] w fun e w' => e = .returned (.bool true) ∧ w = w') := fun w => refHasT b w hb
  have hb0 : (b == 0) = false := bno (by omega)
  have hb1 : b ≠ -1 := by omega
  have hb2 : 0 < b := by omega
  rcases (show n = 0 ∨ (n ≠ 0 ∧ (n : Int) % b ≠ 0) by omega) with h0 | ⟨h0, h0'⟩
  · subst h0
    clear hd hb hl
    go_enter Try.func10, Try.ntmps10
    go_wp2_with fail
    refine (C0.out _).mono ?_; rintro e w' ⟨rfl, rfl⟩
    go_wp2_with fail
    refine (C1.out _).mono ?_; rintro e w' ⟨rfl, rfl⟩
    go_wp2_with fail
    refine (C3.out _).mono ?_; rintro e w' ⟨rfl, rfl⟩
    go_wp2_with fail
    refine (live10 _).mono ?_
    rintro e w7 ⟨rfl, hb7⟩
    go_wp2_with fail
    go_ret
    exact ⟨rfl, hb7⟩
  · have hn0 : ((n : Int) == 0) = false := bno (by omega)
    have hr0 : ((n : Int) % b != 0) = true := bdiff' h0'
    clear hd hb hl h0 h0'
    go_enter Try.func10, Try.ntmps10
    go_wp2_with fail
    refine (C0.out _).mono ?_; rintro e w' ⟨rfl, rfl⟩
    go_wp2_with fail
    refine (C1.out _).mono ?_; rintro e w' ⟨rfl, rfl⟩
    go_wp2_with fail
    refine (C3.out _).mono ?_; rintro e w' ⟨rfl, rfl⟩
    go_wp2_with fail
    refine (live10 _).mono ?_
    rintro e w7 ⟨rfl, hb7⟩
    go_wp2_with fail
    go_ret
    exact ⟨rfl, hb7⟩

set_option maxHeartbeats 1000000 in
theorem smallRows_ok (a0 : Option Addr) (n m b c0 : Nat) (d : Int) (x : List Int) (w : World) (hx : Row .u64 w a0 x) (hxl : x.length = n) (hcap : n ≤ c0) (h : n ≤ 60) (hd : d = 0 ∨ d = 1) (h1 : 1 ≤ b) (h5 : b ≤ 5) (hm : n = m * b) (hm1 : 1 ≤ m) :
    Calls Try.prog 10 #[.slice a0 n c0, .int .i64 b, .int .i64 d] w fun e w' => e = .returned (.bool true) ∧ Below w.heap.size w w' := by
  have C1 : Hid (∀ w : World, Calls Try.prog 19 #[.int .i64 d] w fun e w' => e = .returned (.bool true) ∧ w = w') := fun w => dirT d w hd
  have C3 : Hid (∀ w : World, Calls Try.prog 38 #[.int .i64 b] w fun e w' => e = .returned (.bool true) ∧ w = w') := fun w => refHasT b w (by omega)
  have hb0 : ((b : Int) == 0) = false := bno (by omega)
  have hn1 : 1 ≤ n := by rw [hm]; exact Nat.le_trans h1 (Nat.le_mul_of_pos_left b (by omega))
  have hn0 : ((n : Int) == 0) = false := bno (by omega)
  have hrem : (n : Int).tmod b = 0 := by rw [hm]; simp
  have hrem2 : (((n : Int).tmod b) != 0) = false := by rw [hrem]; rfl
  have HX := Lib.hid hx
  have HXL := Lib.hid hxl
  have HD := Lib.hid hd
  have HM := Lib.hid hm
  have HL : Hid ((rowsL x b (dirRt b d) m).length = n) := (rowsL_len _ _ _ _ (by rw [hxl, hm]; exact Nat.le_refl _)).trans hm.symm
  clear hx hxl hd hm
  go_enter Try.func10, Try.ntmps10
  go_wp2_with fail
  refine (small_Rows_ok a0 n m b c0 d x _ HX.out HXL.out hcap HD.out h1 h5 (by omega) HM.out hm1).mono ?_
  rintro e w1 ⟨a1, cap1, rfl, hr1, hcap1, hb1⟩
  rw [HL.out]
  go_wp2_with fail
  refine (C1.out _).mono ?_; rintro e w' ⟨rfl, rfl⟩
  go_wp2_with fail
  refine (C3.out _).mono ?_; rintro e w' ⟨rfl, rfl⟩
  go_wp2_with fail
  refine (refRows a0 n m b c0 d x _ (HX.out.below hb1) HXL.out hcap HD.out h1 h5 (by omega) HM.out hm1).mono ?_
  rintro e w2 ⟨a2, cap2, rfl, hr2, hcap2, hb2⟩
  rw [HL.out]
  go_wp2_with fail
  refine (ref_SameT _ _ _ _ _ _ _ _ _ (hr1.below hb2) hr2 HL.out HL.out rfl).mono ?_
  rintro e w3 ⟨rfl, hb3⟩
  go_wp2_with fail
  refine (live10 _).mono ?_
  rintro e w7 ⟨rfl, hb7⟩
  go_wp2_with fail
  go_ret
  exact ⟨rfl, chain (chain (chain hb1 hb2) hb3) hb7⟩

theorem smallRowsW (a0 : Option Addr) (c0 : Nat) (x0 : List Int) (b d : Int) (w : World) (h0 : Row .u64 w a0 x0) (k0 : OkCap a0 x0.length c0) (hb : fits .i64 b) (hd : fits .i64 d) :
    Calls Try.prog 10 #[.slice a0 x0.length c0, .int .i64 b, .int .i64 d] w fun e w' => e = .returned (.bool true) ∧ Below w.heap.size w w' := by
  by_cases hn : x0.length ≤ 60
  · by_cases hd' : d = 0 ∨ d = 1
    · by_cases hb' : 1 ≤ b ∧ b ≤ 5
      · by_cases hl : x0.length = 0 ∨ (x0.length : Int) % b ≠ 0
        · exact smallRows_len a0 _ c0 b d w hn hd' hb' hl
        · have hr : (x0.length : Int) % b = 0 := by omega
          have hl0 : x0.length ≠ 0 := by omega
          obtain ⟨B, rfl⟩ : ∃ B : Nat, b = B := ⟨b.toNat, by omega⟩
          have hr' : x0.length % B = 0 := by omega
          have hd := Nat.div_add_mod x0.length B
          rw [hr', Nat.add_zero, Nat.mul_comm] at hd
          refine smallRows_ok a0 _ (x0.length / B) B c0 d x0 w h0 rfl k0.1 hn hd' (by omega) (by omega) hd.symm ?_
          rcases Nat.eq_zero_or_pos (x0.length / B) with h | h
          · rw [h] at hd; omega
          · exact h
      · exact smallRows_few a0 _ c0 b d w hn hd' hb'
    · exact smallRows_dir a0 _ c0 b d w hn hd'
  · exact smallRows_big a0 _ c0 b d w (by omega) h0.len
end Go.Proofs.Ytlgklkhijmeldaa
