/- chirp: what is told, and why not; the reference's; the law of rows. -/
import Derived.Test.YtlgklkhijmeldaaChirpB
import Derived.Test.YtlgklkhijmeldaaSmallD
namespace Go.Proofs.Ytlgklkhijmeldaa
open Go.RowKit Sm
set_option linter.unusedVariables false
set_option linter.unusedSimpArgs false
set_option maxRecDepth 100000

/-! ### Tri -/
theorem chirp_Tri_size (n i : Int) (w : World) (h : hasSz n = false) (hn : -9223372036854775808 ≤ n ∧ n < 9223372036854775808) :
    Calls Try.prog 21 #[.int .i64 n, .int .i64 i] w fun e w' => e = .returned (.tuple #[.int .i64 0, .int .i64 4]) ∧ w = w' := by
  have H := Lib.hid h
  clear h
  go_enter Try.func21, Try.ntmps21
  go_wp2_with fail
  refine (rootHas_no _ _ H.out hn).mono ?_; rintro e w' ⟨rfl, rfl⟩
  go_wp2_with fail
  go_ret2
  exact ⟨rfl, rfl⟩
theorem chirp_Tri_range (n i : Int) (w : World) (h : hasSz n = true) (hi : i < 0 ∨ 67108864 < i) :
    Calls Try.prog 21 #[.int .i64 n, .int .i64 i] w fun e w' => e = .returned (.tuple #[.int .i64 0, .int .i64 3]) ∧ w = w' := by
  have H := Lib.hid h
  clear h
  rcases (show i < 0 ∨ (0 ≤ i ∧ 67108864 < i) by omega) with h1 | ⟨h1, h2⟩
  all_goals
    clear hi
    go_enter Try.func21, Try.ntmps21
    go_wp2_with fail
    refine (rootHas_yes _ _ H.out).mono ?_; rintro e w' ⟨rfl, rfl⟩
    go_wp2_with fail
    go_ret2
    exact ⟨rfl, rfl⟩
theorem chirp_Tri_ok (n i : Nat) (w : World) (h : hasSz n = true) (hi : i ≤ 67108864) :
    Calls Try.prog 21 #[.int .i64 n, .int .i64 i] w fun e w' => e = .returned (.tuple #[.int .i64 (triN n i : Nat), .int .i64 0]) ∧ w = w' := by
  have H := Lib.hid h
  obtain ⟨h1, h2, _⟩ := hasSz_iff.1 h
  clear h
  go_enter Try.func21, Try.ntmps21
  go_wp2_with fail
  refine (rootHas_yes _ _ H.out).mono ?_; rintro e w' ⟨rfl, rfl⟩
  go_wp2_with fail
  refine (chirp_tri n i _ (by omega) (by omega) hi).mono ?_; rintro e w' ⟨rfl, rfl⟩
  go_wp2_with fail
  go_ret2
  exact ⟨rfl, rfl⟩

/-! ### Row: why not -/
theorem chirp_Row_size (n d i : Int) (w : World) (h : hasSz n = false) (hn : -9223372036854775808 ≤ n ∧ n < 9223372036854775808) :
    Calls Try.prog 23 #[.int .i64 n, .int .i64 d, .int .i64 i] w fun e w' => e = .returned (.tuple #[.slice none 0 0, .int .i64 4]) ∧ w = w' := by
  have H := Lib.hid h
  clear h
  go_enter Try.func23, Try.ntmps23
  go_wp2_with fail
  refine (chirp_way_size _ _ _ H.out hn).mono ?_; rintro e w' ⟨rfl, rfl⟩
  go_wp2_with fail
  go_ret2
  exact ⟨rfl, rfl⟩
theorem chirp_Row_arg (n d i : Int) (w : World) (h : hasSz n = true) (hd : ¬ (d = 0 ∨ d = 1)) :
    Calls Try.prog 23 #[.int .i64 n, .int .i64 d, .int .i64 i] w fun e w' => e = .returned (.tuple #[.slice none 0 0, .int .i64 2]) ∧ w = w' := by
  have C1 : Hid (∀ w : World, Calls Try.prog 60 #[.int .i64 n, .int .i64 d] w fun e w' => e = .returned (.tuple #[.int .u64 0, .int .i64 2]) ∧ w = w') := fun w => chirp_way_arg n d w h hd
  clear h hd
  go_enter Try.func23, Try.ntmps23
  go_wp2_with fail
  refine (C1.out _).mono ?_; rintro e w' ⟨rfl, rfl⟩
  go_wp2_with fail
  go_ret2
  exact ⟨rfl, rfl⟩
theorem chirp_Row_range (n : Nat) (d i : Int) (w : World) (h : hasSz n = true) (hd : d = 0 ∨ d = 1) (hi : i < 0 ∨ 67108864 < i) :
    Calls Try.prog 23 #[.int .i64 n, .int .i64 d, .int .i64 i] w fun e w' => e = .returned (.tuple #[.slice none 0 0, .int .i64 3]) ∧ w = w' := by
  have C1 : Hid (∀ w : World, Calls Try.prog 60 #[.int .i64 n, .int .i64 d] w fun e w' => e = .returned (.tuple #[.int .u64 (dirRt n d), .int .i64 0]) ∧ w = w') := fun w => chirp_way n d w h hd
  clear h hd
  rcases (show i < 0 ∨ (0 ≤ i ∧ 67108864 < i) by omega) with h1 | ⟨h1, h2⟩
  all_goals
    clear hi
    go_enter Try.func23, Try.ntmps23
    go_wp2_with fail
    refine (C1.out _).mono ?_; rintro e w' ⟨rfl, rfl⟩
    go_wp2_with fail
    go_ret2
    exact ⟨rfl, rfl⟩

/-! ### Least -/
theorem chirp_Least_size (n : Int) (w : World) (h : hasSz n = false) (hn : -9223372036854775808 ≤ n ∧ n < 9223372036854775808) :
    Calls Try.prog 28 #[.int .i64 n] w fun e w' => e = .returned (.tuple #[.int .i64 0, .int .i64 4]) ∧ w = w' := by
  have H := Lib.hid h
  clear h
  go_enter Try.func28, Try.ntmps28
  go_wp2_with fail
  refine (rootHas_no _ _ H.out hn).mono ?_; rintro e w' ⟨rfl, rfl⟩
  go_wp2_with fail
  go_ret2
  exact ⟨rfl, rfl⟩
theorem chirp_Least_range (n : Nat) (w : World) (h : hasSz n = true) (hn : 8388608 < n) :
    Calls Try.prog 28 #[.int .i64 n] w fun e w' => e = .returned (.tuple #[.int .i64 0, .int .i64 3]) ∧ w = w' := by
  have H := Lib.hid h
  obtain ⟨h1, h2, _⟩ := hasSz_iff.1 h
  clear h
  obtain ⟨m, hm⟩ : ∃ m : Nat, 2 * (n : Int) - 1 = m := ⟨2 * n - 1, by omega⟩
  have hm2 : 16777216 < m := by omega
  have hm3 : m ≤ 33554432 := by omega
  go_enter Try.func28, Try.ntmps28
  go_wp2_with fail
  refine (rootHas_yes _ _ H.out).mono ?_; rintro e w' ⟨rfl, rfl⟩
  go_wp2_with fail
  refine (fact_Above_no m _ hm2 (by omega)).mono ?_; rintro e w' ⟨rfl, rfl⟩
  go_wp2_with fail
  go_ret2
  exact ⟨rfl, rfl⟩
theorem abv_le (n : Nat) (h2 : n ≤ 16777216) (h1 : 1 ≤ n) : abv n ≤ 16777216 := by
  have h3 : 2 ^ Lib.bitLen (n - 1) ≤ 2 ^ 24 := Nat.pow_le_pow_right (by omega) (bl_24 _ (by omega))
  have e : (2 : Nat) ^ 24 = 16777216 := by decide
  unfold abv; omega
theorem chirp_Least_ok (n m : Nat) (w : World) (h : hasSz n = true) (hn : n ≤ 8388608) (hm' : m = 2 * n - 1) :
    Calls Try.prog 28 #[.int .i64 n] w fun e w' => e = .returned (.tuple #[.int .i64 (abv m : Nat), .int .i64 0]) ∧ w = w' := by
  have H := Lib.hid h
  obtain ⟨h1, h2, _⟩ := hasSz_iff.1 h
  clear h
  have hm : 2 * (n : Int) - 1 = m := by omega
  have hm2 : 1 ≤ m := by omega
  have hm3 : m ≤ 16777216 := by omega
  have hA := abv_le m hm3 hm2
  obtain ⟨A, hAA⟩ : ∃ A, abv m = A := ⟨_, rfl⟩
  have HA := Lib.hid hAA
  rw [hAA] at hA ⊢
  clear hm' hAA
  go_enter Try.func28, Try.ntmps28
  go_wp2_with fail
  refine (rootHas_yes _ _ H.out).mono ?_; rintro e w' ⟨rfl, rfl⟩
  go_wp2_with fail
  refine (fact_Above m _ hm2 hm3).mono ?_; rintro e w' ⟨rfl, rfl⟩
  rw [HA.out]
  go_wp2_with fail
  go_ret2
  exact ⟨rfl, rfl⟩

/-! ### The page's example -/
theorem live12 (w : World) : Calls Try.prog 24 #[] w fun e w' => e = .returned (.bool true) ∧ w = w' := by
  have s96 : hasSz (96 : Int) = true := hasSz_iff.2 (by decide)
  have s3 : hasSz (3 : Int) = true := hasSz_iff.2 (by decide)
  have t : triN 96 4 = 6 := by decide
  have a : abv 5 = 8 := by decide
  have C1 : Hid (∀ w : World, Calls Try.prog 21 #[.int .i64 96, .int .i64 4] w fun e w' => e = .returned (.tuple #[.int .i64 6, .int .i64 0]) ∧ w = w') := fun w => by
    have := chirp_Tri_ok 96 4 w s96 (by omega); rw [t] at this; exact this
  have C2 : Hid (∀ w : World, Calls Try.prog 28 #[.int .i64 3] w fun e w' => e = .returned (.tuple #[.int .i64 8, .int .i64 0]) ∧ w = w') := fun w => by
    have := chirp_Least_ok 3 5 w s3 (by omega) rfl; rw [a] at this; exact this
  clear t a s96 s3
  go_enter Try.func24, Try.ntmps24
  go_wp2_with fail
  refine (C1.out _).mono ?_; rintro e w' ⟨rfl, rfl⟩
  go_wp2_with fail
  refine (C2.out _).mono ?_; rintro e w' ⟨rfl, rfl⟩
  go_wp2_with fail
  go_ret
  exact ⟨rfl, rfl⟩

/-! ### The reference's -/
theorem check_size (n d : Int) (w : World) (h : hasSz n = false) (hn : -9223372036854775808 ≤ n ∧ n < 9223372036854775808) :
    Calls Try.prog 25 #[.int .i64 n, .int .i64 d] w fun e w' => e = .returned (.int .i64 4) ∧ w = w' := by
  have H := Lib.hid h
  clear h
  go_enter Try.func25, Try.ntmps25
  go_wp2_with fail
  refine (refHas_no _ _ H.out hn).mono ?_; rintro e w' ⟨rfl, rfl⟩
  go_wp2_with fail
  go_ret
  exact ⟨rfl, rfl⟩
theorem check_arg (n d : Int) (w : World) (h : hasSz n = true) (hd : ¬ (d = 0 ∨ d = 1)) :
    Calls Try.prog 25 #[.int .i64 n, .int .i64 d] w fun e w' => e = .returned (.int .i64 2) ∧ w = w' := by
  have H := Lib.hid h
  have e1 : (d != 0) = true := bdiff' (by omega)
  have e2 : (d != 1) = true := bdiff' (by omega)
  clear h hd
  go_enter Try.func25, Try.ntmps25
  go_wp2_with fail
  refine (refHas_yes _ _ H.out).mono ?_; rintro e w' ⟨rfl, rfl⟩
  go_wp2_with fail
  go_ret
  exact ⟨rfl, rfl⟩
theorem check_ok (n d : Int) (w : World) (h : hasSz n = true) (hd : d = 0 ∨ d = 1) :
    Calls Try.prog 25 #[.int .i64 n, .int .i64 d] w fun e w' => e = .returned (.int .i64 0) ∧ w = w' := by
  have H := Lib.hid h
  clear h
  rcases hd with h1 | h1
  all_goals
    subst h1
    go_enter Try.func25, Try.ntmps25
    go_wp2_with fail
    refine (refHas_yes _ _ H.out).mono ?_; rintro e w' ⟨rfl, rfl⟩
    go_wp2_with fail
    go_ret
    exact ⟨rfl, rfl⟩

set_option maxHeartbeats 800000 in
theorem ref_Tri (n i : Nat) (w : World) (hn : 1 ≤ n) (hn2 : n ≤ 16777216) (hi : i ≤ 16777216) :
    Calls Try.prog 26 #[.int .i64 n, .int .i64 i] w fun e w' => e = .returned (.int .i64 (triN n i : Nat)) ∧ w = w' := by
  have h0 : ((n : Int) == 0) = false := bno (by omega)
  go_enter Try.func26, Try.ntmps26
  go_wp2_with fail
  go_loop [5, 6] (fun s v => ∃ (k p : Nat), k ≤ i ∧ v = .int .i64 k ∧ s = .int .i64 p ∧ p < n ∧ Hid (triN n k = p)) (fun _ v => i - (intOf v).toNat)
  case atStart => exact ⟨0, 0, Nat.zero_le _, rfl, rfl, by omega, triN_zero n⟩
  case round =>
    obtain ⟨k, p, hk, rfl, rfl, hp, HP⟩ := hrel
    by_cases hlt : k < i
    · have HS : Hid (((p : Int) + k) % n = (triN n (k + 1) : Nat)) := by
        unfold Hid; rw [triN_succ, HP.out, Int.natCast_emod, Int.natCast_add]
      have hlt2 := triN_lt n (k + 1) hn
      obtain ⟨q, hq⟩ : ∃ q, triN n (k + 1) = q := ⟨_, rfl⟩
      rw [hq] at HS hlt2
      have HQ := Lib.hid hq
      have hS : ((p : Int) + k) % n = (q : Int) := HS.out
      clear hq HS
      go_wp2_with fail
      go_round
      case rel => exact ⟨k + 1, q, by omega, by go_num, by go_num, hlt2, HQ.out⟩
      case measure => simp [intOf]; omega
    · have hki : k = i := by omega
      subst hki
      go_wp2_with fail
      go_ret
      exact ⟨by simp [HP.out], rfl⟩

theorem ref_turn (n i : Nat) (d : Int) (w : World) (h : hasSz n = true) (hd : d = 0 ∨ d = 1) (hi : i ≤ 16777216) :
    Calls Try.prog 66 #[.int .i64 n, .int .i64 d, .int .i64 i] w fun e w' => e = .returned (.int .u64 (pw (dirBk n d) (triN n i))) ∧ w = w' := by
  obtain ⟨h1, h2, _⟩ := hasSz_iff.1 h
  have hs := Lib.hid (dir_swap n d hd)
  have C1 : Hid (∀ w : World, Calls Try.prog 57 #[.int .i64 n, .int .i64 (1 - d)] w fun e w' => e = .returned (.int .u64 (dirBk n d)) ∧ w = w') := fun w => by
    rw [← hs.out]; exact refDir n (1 - d) w h (by omega)
  have hr : 0 ≤ dirBk n d ∧ dirBk n d < 18446744069414584321 := by rw [← hs.out]; exact dirRt_range n (1 - d)
  obtain ⟨u, hu⟩ : ∃ u, dirBk n d = u := ⟨_, rfl⟩
  rw [hu] at C1 hr ⊢
  have hlt := triN_lt n i (by omega)
  obtain ⟨t, ht⟩ : ∃ t, triN n i = t := ⟨_, rfl⟩
  have C2 : Hid (∀ w : World, Calls Try.prog 26 #[.int .i64 n, .int .i64 i] w fun e w' => e = .returned (.int .i64 t) ∧ w = w') := fun w => by
    rw [← ht]; exact ref_Tri n i w (by omega) (by omega) hi
  rw [ht] at hlt ⊢
  clear h ht hu hs
  go_enter Try.func66, Try.ntmps66
  go_wp2_with fail
  refine (C1.out _).mono ?_; rintro e w' ⟨rfl, rfl⟩
  go_wp2_with fail
  refine (C2.out _).mono ?_; rintro e w' ⟨rfl, rfl⟩
  go_wp2_with fail
  refine (ref_PowN u t _ hr.1 hr.2 (by omega)).mono ?_; rintro e w' ⟨rfl, rfl⟩
  go_wp2_with fail
  go_ret
  exact ⟨rfl, rfl⟩

set_option maxHeartbeats 800000 in
theorem ref_Row12 (n m : Nat) (d : Int) (w : World) (h : hasSz n = true) (hd : d = 0 ∨ d = 1) (hm : m ≤ 16777216) :
    Calls Try.prog 27 #[.int .i64 n, .int .i64 d, .int .i64 m] w (GivesOwn .u64 45 (rowT (dirRt n d) n m) w) := by
  obtain ⟨i0, hi, hz0, hz1, hz2⟩ := info_parts info_u64
  obtain ⟨h1, h2, _⟩ := hasSz_iff.1 h
  have C1 : Hid (∀ w : World, Calls Try.prog 57 #[.int .i64 n, .int .i64 d] w fun e w' => e = .returned (.int .u64 (dirRt n d)) ∧ w = w') := fun w => refDir n d w h (by omega)
  have hr := dirRt_range n d
  obtain ⟨z, hz⟩ : ∃ z, dirRt n d = z := ⟨_, rfl⟩
  rw [hz] at C1 hr ⊢
  clear h hz hd
  go_enter Try.func27, Try.ntmps27
  go_wp2_with fail
  go_loopw [7, 8] (fun v i wr => ∃ k : Nat, k ≤ m ∧ i = .int .i64 k ∧ Own .u64 45 w wr v k (fun j => pw z (triN n j))) (fun _ i _ => m - (intOf i).toNat)
  case atStart => exact ⟨0, Nat.zero_le _, rfl, Own.nil _ _ _ _⟩
  case round =>
    obtain ⟨k, hk, rfl, hown⟩ := hrel
    by_cases hlt : k < m
    · have hlt2 := triN_lt n k (by omega)
      obtain ⟨t, ht⟩ : ∃ t, triN n k = t := ⟨_, rfl⟩
      have C2 : Hid (∀ w : World, Calls Try.prog 26 #[.int .i64 n, .int .i64 k] w fun e w' => e = .returned (.int .i64 t) ∧ w = w') := fun w => by
        rw [← ht]; exact ref_Tri n k w (by omega) (by omega) (by omega)
      rw [ht] at hlt2
      have HT := Lib.hid ht
      clear ht
      go_wp2_with fail
      refine (C1.out _).mono ?_; rintro e w' ⟨rfl, rfl⟩
      go_wp2_with fail
      refine (C2.out _).mono ?_; rintro e w' ⟨rfl, rfl⟩
      go_wp2_with fail
      refine (ref_PowN z t _ hr.1 hr.2 (by omega)).mono ?_; rintro e w' ⟨rfl, rfl⟩
      go_wp2_with (at_builtin; refine wpList_append_own _ rfl _ _ 22 rfl w.heap.size 45 i0 (.int .u64 0) 1 8 Try.underlying22 hi hz0 hz1 hz2 rfl (by decide) _ _ _ rfl (hown.own.alloc _) ⟨wr.heap.size, 0, none⟩ 1 1 [.int .u64 (pw z t)] rfl rfl (cell_one_new _ _ _) (one_cell _ _) (by unfold maxLen; omega) (by omega) (size_alloc_le hown.below _) ?_)
      intro v' w1 hown' hgrow _
      have hnext := hown.push (pw z t) (by rw [HT.out]) hown' hgrow
      clear hown' hgrow
      go_wp2_with fail
      go_roundw
      case rel => exact ⟨k + 1, by omega, by go_num, hnext⟩
      case measure => simp [intOf]; omega
    · have hk' : k = m := by omega
      have hres := hown.givesO (xs := rowT z n m) (by rw [rowT_len]; omega) (rowT_fits z n m) (fun i hi => nth_rowT _ _ _ _ (by omega)) (by omega)
      clear hown
      go_wp2_with fail
      go_ret
      exact hres
end Go.Proofs.Ytlgklkhijmeldaa
