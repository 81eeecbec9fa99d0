/- Transforms of a few numbers: Do, Twist. -/
import Derived.Test.YtlgklkhijmeldaaSmallC
import Derived.Test.YtlgklkhijmeldaaStockF
namespace Go.Proofs.Ytlgklkhijmeldaa
open Go.RowKit Sm
set_option linter.unusedVariables false
set_option linter.unusedSimpArgs false
set_option maxRecDepth 100000

theorem few_size (n : Nat) (h1 : 1 ≤ n) (h5 : n ≤ 5) : hasSz (n : Int) = true := by
  have : n = 1 ∨ n = 2 ∨ n = 3 ∨ n = 4 ∨ n = 5 := by omega
  rcases this with rfl | rfl | rfl | rfl | rfl <;> exact hasSz_iff.2 (by decide)

theorem small_way (n : Nat) (d : Int) (w : World) (hs : hasSz n = true) (hd : d = 0 ∨ d = 1) :
    Calls Try.prog 68 #[.int .i64 n, .int .i64 d] w fun e w' => e = .returned (.int .u64 (dirRt n d)) ∧ w = w' := by
  have HS := Lib.hid hs
  clear hs
  rcases hd with h1 | h1
  · subst h1
    go_enter Try.func68, Try.ntmps68
    go_wp2_with fail
    refine (rootRoot_yes n _ HS.out).mono ?_; rintro e w' ⟨rfl, rfl⟩
    go_wp2_with fail
    go_ret
    exact ⟨rfl, rfl⟩
  · subst h1
    go_enter Try.func68, Try.ntmps68
    go_wp2_with fail
    refine (rootRoot_yes n _ HS.out).mono ?_; rintro e w' ⟨rfl, rfl⟩
    go_wp2_with fail
    refine (rootBack_yes n _ HS.out).mono ?_; rintro e w' ⟨rfl, rfl⟩
    go_wp2_with fail
    go_ret
    exact ⟨rfl, rfl⟩

theorem small_Do_dir (a : Option Addr) (n c : Nat) (d : Int) (w : World) (h : d < 0 ∨ 1 < d) :
    Calls Try.prog 36 #[.slice a n c, .int .i64 d] w fun e w' => e = .returned (.tuple #[.slice none 0 0, .int .i64 2]) ∧ w = w' := by
  rcases (show d < 0 ∨ (0 ≤ d ∧ 1 < d) by omega) with h1 | ⟨h1, h2⟩
  all_goals
    clear h
    go_enter Try.func36, Try.ntmps36
    go_wp2_with fail
    go_ret2
    exact ⟨rfl, rfl⟩
theorem small_Do_len (a : Option Addr) (n c : Nat) (d : Int) (w : World) (h : d = 0 ∨ d = 1) (hP : ¬ (1 ≤ n ∧ n ≤ 5)) (hn : n ≤ 9223372036854775807) :
    Calls Try.prog 36 #[.slice a n c, .int .i64 d] w fun e w' => e = .returned (.tuple #[.slice none 0 0, .int .i64 5]) ∧ w = w' := by
  have C1 : Hid (∀ w : World, Calls Try.prog 37 #[.int .i64 n] w fun e w' => e = .returned (.bool false) ∧ w = w') := fun w => by
    have := small_Has n w; rw [show decide ((1 : Int) ≤ n ∧ (n : Int) ≤ 5) = false by simp; omega] at this; exact this
  clear hP
  rcases h with h1 | h1
  all_goals
    subst h1
    go_enter Try.func36, Try.ntmps36
    go_wp2_with fail
    refine (C1.out _).mono ?_; rintro e w' ⟨rfl, rfl⟩
    go_wp2_with fail
    go_ret2
    exact ⟨rfl, rfl⟩

set_option maxHeartbeats 800000 in
theorem small_Do_ok (a : Option Addr) (n c : Nat) (d : Int) (xs : List Int) (w : World) (hx : Row .u64 w a xs) (hxl : xs.length = n) (hd : d = 0 ∨ d = 1) (h1 : 1 ≤ n) (h5 : n ≤ 5) :
    Calls Try.prog 36 #[.slice a n c, .int .i64 d] w (GivesRowE .u64 (dftL xs (dirRt n d)) 0 w) := by
  have C1 : Hid (∀ w : World, Calls Try.prog 37 #[.int .i64 n] w fun e w' => e = .returned (.bool true) ∧ w = w') := fun w => by
    have := small_Has n w; rw [show decide ((1 : Int) ≤ n ∧ (n : Int) ≤ 5) = true by simp; omega] at this; exact this
  have hs := few_size n h1 h5
  have hz := dirRt_range n d
  have C2 : Hid (∀ w : World, Calls Try.prog 68 #[.int .i64 n, .int .i64 d] w fun e w' => e = .returned (.int .u64 (dirRt n d)) ∧ w = w') := fun w => small_way n d w hs hd
  have C3 : Hid (Calls Try.prog 67 #[.slice a n c, .int .u64 (dirRt n d)] w (GivesRow .u64 (dftL xs (dirRt n d)) w)) := small_done a c n xs _ (dirBk n d) w hx hxl.symm h1 h5 (isRoot_dir n d hs) hz.1 hz.2
  have HL : Hid ((dftL xs (dirRt n d)).length = n) := (dftL_len _ _).trans hxl
  clear hx hxl hs hz
  rcases hd with h1 | h1
  all_goals
    subst h1
    go_enter Try.func36, Try.ntmps36
    go_wp2_with fail
    refine (C1.out _).mono ?_; rintro e w' ⟨rfl, rfl⟩
    go_wp2_with fail
    refine (C2.out _).mono ?_; rintro e w' ⟨rfl, rfl⟩
    go_wp2_with fail
    refine (C3.out).mono ?_
    rintro e w2 ⟨a2, cap2, rfl, hr2, hcap2, hb2⟩
    rw [HL.out] at hcap2 ⊢
    have HR := Lib.hid hr2
    clear hr2
    go_wp2_with fail
    go_ret2
    exact ⟨a2, cap2, by simp [HL.out], HR.out, by rw [HL.out]; exact hcap2, hb2⟩

/-! ### Twist -/
set_option maxHeartbeats 800000 in
theorem small_Twist (a : Option Addr) (n cap : Nat) (xs : List Int) (z : Int) (w : World) (hx : Row .u64 w a xs) (hn : xs.length = n) (hl : n ≤ 16777216) (hz0 : 0 ≤ z) (hz1 : z < 18446744073709551616) :
    Calls Try.prog 39 #[.slice a n cap, .int .u64 z] w (GivesRow .u64 (twL xs z) w) := by
  obtain ⟨i0, hi, hz0', hz1', hz2⟩ := info_parts info_u64
  have HX := Lib.hid hx
  have HN := Lib.hid hn
  clear hx hn
  go_enter Try.func39, Try.ntmps39
  go_wp2_with (at_make; refine wpList_make_full _ rfl _ _ 22 rfl w.heap.size 45 i0 (.int .u64 0) 1 Try.underlying22 hi hz0' hz1' .i64 .i64 n n n rfl rfl rfl rfl (by rw [hz2]; omega) (by unfold maxLen; omega) (Nat.le_refl _) ?_)
  intro w1 hown0 hgrow0
  have hown := Own.made hown0 hgrow0
  clear hown0 hgrow0
  go_wp2_with fail
  go_loopw [6, 14] (fun p i wr => ∃ (k : Nat) (v : Int), k ≤ n ∧ i = .int .i64 k ∧ p = .int .u64 v ∧ Hid (v = pw z k) ∧ 0 ≤ v ∧ v < 18446744069414584321 ∧ OwnAt .u64 45 w wr w.heap.size n (fun j => if j < k then nth xs j * pw z j % 18446744069414584321 else 0)) (fun _ i _ => n - (intOf i).toNat)
  case atStart => exact ⟨0, 1, Nat.zero_le _, rfl, rfl, (pw_0 z).symm, by omega, by omega, own_eqz hown (fun j => if_neg (by omega))⟩
  case round =>
    obtain ⟨k, v, hk, rfl, rfl, HV, hv0, hv1, hown⟩ := hrel
    by_cases hlt : k < n
    · obtain ⟨b, off, rfl, hc⟩ := (HX.out.below hown.below).at (by rw [HN.out]; omega)
      have hck := hc k (by rw [HN.out]; omega)
      have hf := fits_u64.1 (HX.out.wf _ (nth_mem (show k < xs.length by rw [HN.out]; omega)))
      clear hc
      have hcell := hown.cell k hlt
      rw [if_neg (Nat.lt_irrefl k)] at hcell
      have hfz := hown.free k
      have hnext := hown.store k hlt (nth xs k * v % 18446744069414584321) (f' := fun j => if j < k + 1 then nth xs j * pw z j % 18446744069414584321 else 0) (by rw [if_pos (by omega), HV.out]) (fun j _ hj => by
        by_cases h : j < k
        · rw [if_pos h, if_pos (by omega)]
        · rw [if_neg h, if_neg (by omega)])
      have HNX := Lib.hid hnext
      have HM : Hid (v * z % 18446744069414584321 = pw z (k + 1)) := by unfold Hid; rw [HV.out]; exact pw_succ z k
      clear hown hnext
      go_wp2_with (first | (go_at_call 65; refine (gold_Mul _ _ _ (by omega) (by omega) (by omega) (by omega)).mono ?_; rintro e w' ⟨rfl, rfl⟩))
      go_roundw
      case rel => exact ⟨k + 1, _, by omega, by go_num, rfl, HM.out, by omega, by omega, HNX.out⟩
      case measure => simp [intOf]; omega
    · have hkn : k = n := by omega
      have hrow := hown.gives (xs := twL xs z) ((twL_len xs z).trans HN.out) (twL_fits xs z) (fun i hi => by rw [nth_twL _ _ _ (by rw [HN.out]; exact hi), if_pos (by omega)]) hl
      have HR := Lib.hid hrow
      clear hown hrow
      go_wp2_with fail
      go_ret
      exact HR.out

theorem ref_PowN (a : Int) (n : Nat) (w : World) (ha0 : 0 ≤ a) (ha : a < 18446744069414584321) (hn : n < 18446744073709551616) :
    Calls Try.prog 62 #[.int .u64 a, .int .u64 n] w fun e w' => e = .returned (.int .u64 (pw a n)) ∧ w = w' :=
  (ref_Pow a n w ha0 ha (by omega) (by omega)).mono fun e w' ⟨h, h2⟩ => ⟨h, h2⟩

set_option maxHeartbeats 800000 in
theorem refTwist (a : Option Addr) (n cap : Nat) (xs : List Int) (z : Int) (w : World) (hx : Row .u64 w a xs) (hn : xs.length = n) (hl : n ≤ 16777216) (hzz0 : 0 ≤ z) (hzz1 : z < 18446744073709551616) :
    Calls Try.prog 40 #[.slice a n cap, .int .u64 z] w (GivesRow .u64 (twL xs z) w) := by
  obtain ⟨i0, hi, hz0, hz1, hz2⟩ := info_parts info_u64
  have HX := Lib.hid hx
  have HN := Lib.hid hn
  clear hx hn
  go_enter Try.func40, Try.ntmps40
  go_wp2_with fail
  go_loopw [5, 6] (fun v i wr => ∃ k : Nat, k ≤ n ∧ i = .int .i64 k ∧ Own .u64 45 w wr v k (fun j => nth xs j * pw z j % 18446744069414584321)) (fun _ i _ => n - (intOf i).toNat)
  case atStart => exact ⟨0, Nat.zero_le _, rfl, Own.nil _ _ _ _⟩
  case round =>
    obtain ⟨k, hk, rfl, hown⟩ := hrel
    by_cases hlt : k < n
    · obtain ⟨b, off, rfl, hc⟩ := (HX.out.below hown.below).at (by rw [HN.out]; omega)
      have hck := hc k (by rw [HN.out]; omega)
      have hf := fits_u64.1 (HX.out.wf _ (nth_mem (show k < xs.length by rw [HN.out]; omega)))
      have hpr := pw_range (z % 18446744069414584321) k
      clear hc
      go_wp2_with (first | (go_at_call 42; refine (ref_Red _ _ (by omega) (by omega)).mono ?_; rintro e w' ⟨rfl, rfl⟩) | (go_at_call 62; refine (ref_PowN _ _ _ (by omega) (by omega) (by omega)).mono ?_; rintro e w' ⟨rfl, rfl⟩) | (go_at_call 41; refine (ref_Mul _ _ _ (by omega) (by omega) (by omega) (by omega)).mono ?_; rintro e w' ⟨rfl, rfl⟩) | (at_builtin; refine wpList_append_own _ rfl _ _ 22 rfl w.heap.size 45 i0 (.int .u64 0) 1 8 Try.underlying22 hi hz0 hz1 hz2 rfl (by decide) _ _ _ rfl (hown.own.alloc _) ⟨wr.heap.size, 0, none⟩ 1 1 [.int .u64 (nth xs k % 18446744069414584321 * pw (z % 18446744069414584321) k % 18446744069414584321)] rfl rfl (cell_one_new _ _ _) (one_cell _ _) (by unfold maxLen; omega) (by omega) (size_alloc_le hown.below _) ?_))
      intro v' w1 hown' hgrow _
      have hnext := hown.push (nth xs k % 18446744069414584321 * pw (z % 18446744069414584321) k % 18446744069414584321) (by rw [pw_mod]; exact modmul_l _ _ _) hown' hgrow
      clear hown' hgrow
      go_wp2_with fail
      go_roundw
      case rel => exact ⟨k + 1, by omega, by go_num, hnext⟩
      case measure => simp [intOf]; omega
    · have hk' : k = n := by omega
      have hres := hown.gives (xs := twL xs z) (by rw [twL_len, HN.out]; omega) (twL_fits xs z) (fun i hi => nth_twL _ _ _ (by rw [HN.out]; omega)) (by omega)
      clear hown
      go_wp2_with fail
      go_ret
      exact hres
end Go.Proofs.Ytlgklkhijmeldaa
