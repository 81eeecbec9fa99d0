/- The law of triangular numbers and rows of powers. -/
import Derived.Test.YtlgklkhijmeldaaChirpC
namespace Go.Proofs.Ytlgklkhijmeldaa
open Go.RowKit Sm
set_option linter.unusedVariables false
set_option linter.unusedSimpArgs false
set_option maxRecDepth 100000

theorem chirpRows_size (n d i : Int) (w : World) (h : hasSz n = false) (hn : -9223372036854775808 ≤ n ∧ n < 9223372036854775808) :
    Calls Try.prog 5 #[.int .i64 n, .int .i64 d, .int .i64 i] w fun e w' => e = .returned (.bool true) ∧ Below w.heap.size w w' := by
  have H := Lib.hid h
  clear h
  go_enter Try.func5, Try.ntmps5
  go_wp2_with fail
  refine (chirp_Tri_size _ _ _ H.out hn).mono ?_; rintro e w' ⟨rfl, rfl⟩
  go_wp2_with fail
  refine (refHas_no _ _ H.out hn).mono ?_; rintro e w' ⟨rfl, rfl⟩
  go_wp2_with fail
  refine (chirp_Row_size _ _ _ _ H.out hn).mono ?_; rintro e w' ⟨rfl, rfl⟩
  go_wp2_with fail
  refine (live12 _).mono ?_; rintro e w' ⟨rfl, rfl⟩
  go_wp2_with fail
  go_ret
  exact ⟨rfl, Below.refl _ _⟩

theorem chirpRows_range (n : Nat) (d i : Int) (w : World) (h : hasSz n = true) (hd : d = 0 ∨ d = 1) (hi : i < 0 ∨ 67108864 < i) :
    Calls Try.prog 5 #[.int .i64 n, .int .i64 d, .int .i64 i] w fun e w' => e = .returned (.bool true) ∧ Below w.heap.size w w' := by
  have C1 : Hid (∀ w : World, Calls Try.prog 21 #[.int .i64 n, .int .i64 i] w fun e w' => e = .returned (.tuple #[.int .i64 0, .int .i64 3]) ∧ w = w') := fun w => chirp_Tri_range n i w h hi
  have C2 : Hid (∀ w : World, Calls Try.prog 23 #[.int .i64 n, .int .i64 d, .int .i64 i] w fun e w' => e = .returned (.tuple #[.slice none 0 0, .int .i64 3]) ∧ w = w') := fun w => chirp_Row_range n d i w h hd hi
  have H := Lib.hid h
  clear h hd
  rcases (show i < 0 ∨ (0 ≤ i ∧ 67108864 < i) by omega) with h1 | ⟨h1, h2⟩
  all_goals
    clear hi
    go_enter Try.func5, Try.ntmps5
    go_wp2_with fail
    refine (C1.out _).mono ?_; rintro e w' ⟨rfl, rfl⟩
    go_wp2_with fail
    refine (refHas_yes _ _ H.out).mono ?_; rintro e w' ⟨rfl, rfl⟩
    go_wp2_with fail
    refine (C2.out _).mono ?_; rintro e w' ⟨rfl, rfl⟩
    go_wp2_with fail
    refine (live12 _).mono ?_; rintro e w' ⟨rfl, rfl⟩
    go_wp2_with fail
    go_ret
    exact ⟨rfl, Below.refl _ _⟩
theorem chirpRows_range_arg (n : Nat) (d i : Int) (w : World) (h : hasSz n = true) (hd : ¬ (d = 0 ∨ d = 1)) (hi : i < 0 ∨ 67108864 < i) :
    Calls Try.prog 5 #[.int .i64 n, .int .i64 d, .int .i64 i] w fun e w' => e = .returned (.bool true) ∧ Below w.heap.size w w' := by
  have C1 : Hid (∀ w : World, Calls Try.prog 21 #[.int .i64 n, .int .i64 i] w fun e w' => e = .returned (.tuple #[.int .i64 0, .int .i64 3]) ∧ w = w') := fun w => chirp_Tri_range n i w h hi
  have C2 : Hid (∀ w : World, Calls Try.prog 23 #[.int .i64 n, .int .i64 d, .int .i64 i] w fun e w' => e = .returned (.tuple #[.slice none 0 0, .int .i64 2]) ∧ w = w') := fun w => chirp_Row_arg n d i w h hd
  have C3 : Hid (∀ w : World, Calls Try.prog 25 #[.int .i64 n, .int .i64 d] w fun e w' => e = .returned (.int .i64 2) ∧ w = w') := fun w => check_arg n d w h hd
  have H := Lib.hid h
  clear h hd
  rcases (show i < 0 ∨ (0 ≤ i ∧ 67108864 < i) by omega) with h1 | ⟨h1, h2⟩
  all_goals
    clear hi
    go_enter Try.func5, Try.ntmps5
    go_wp2_with fail
    refine (C1.out _).mono ?_; rintro e w' ⟨rfl, rfl⟩
    go_wp2_with fail
    refine (refHas_yes _ _ H.out).mono ?_; rintro e w' ⟨rfl, rfl⟩
    go_wp2_with fail
    refine (C2.out _).mono ?_; rintro e w' ⟨rfl, rfl⟩
    go_wp2_with fail
    refine (C3.out _).mono ?_; rintro e w' ⟨rfl, rfl⟩
    go_wp2_with fail
    refine (live12 _).mono ?_; rintro e w' ⟨rfl, rfl⟩
    go_wp2_with fail
    go_ret
    exact ⟨rfl, Below.refl _ _⟩

theorem chirpRows_far (n i : Nat) (d : Int) (w : World) (h : hasSz n = true) (hi : i ≤ 67108864) (hf : 3000 < i ∨ 3000 < n) :
    Calls Try.prog 5 #[.int .i64 n, .int .i64 d, .int .i64 i] w fun e w' => e = .returned (.bool true) ∧ Below w.heap.size w w' := by
  obtain ⟨h1, h2, _⟩ := hasSz_iff.1 h
  have hlt := triN_lt n i (by omega)
  obtain ⟨t, ht⟩ : ∃ t, triN n i = t := ⟨_, rfl⟩
  have C1 : Hid (∀ w : World, Calls Try.prog 21 #[.int .i64 n, .int .i64 i] w fun e w' => e = .returned (.tuple #[.int .i64 t, .int .i64 0]) ∧ w = w') := fun w => by rw [← ht]; exact chirp_Tri_ok n i w h hi
  rw [ht] at hlt
  have H := Lib.hid h
  clear h ht
  rcases (show 3000 < i ∨ (i ≤ 3000 ∧ 3000 < n) by omega) with h3 | ⟨h3, h4⟩
  all_goals
    clear hf
    go_enter Try.func5, Try.ntmps5
    go_wp2_with fail
    refine (C1.out _).mono ?_; rintro e w' ⟨rfl, rfl⟩
    go_wp2_with fail
    refine (refHas_yes _ _ H.out).mono ?_; rintro e w' ⟨rfl, rfl⟩
    go_wp2_with fail
    refine (live12 _).mono ?_; rintro e w' ⟨rfl, rfl⟩
    go_wp2_with fail
    go_ret
    exact ⟨ret_bool (by simp; try omega), Below.refl _ _⟩

theorem chirpRows_arg (n i : Nat) (d : Int) (w : World) (h : hasSz n = true) (hi : i ≤ 3000) (hn : n ≤ 3000) (hd : ¬ (d = 0 ∨ d = 1)) :
    Calls Try.prog 5 #[.int .i64 n, .int .i64 d, .int .i64 i] w fun e w' => e = .returned (.bool true) ∧ Below w.heap.size w w' := by
  obtain ⟨h1, h2, _⟩ := hasSz_iff.1 h
  have hlt := triN_lt n i (by omega)
  obtain ⟨t, ht⟩ : ∃ t, triN n i = t := ⟨_, rfl⟩
  have C1 : Hid (∀ w : World, Calls Try.prog 21 #[.int .i64 n, .int .i64 i] w fun e w' => e = .returned (.tuple #[.int .i64 t, .int .i64 0]) ∧ w = w') := fun w => by rw [← ht]; exact chirp_Tri_ok n i w h (by omega)
  have C2 : Hid (∀ (w : World) (j : Int), Calls Try.prog 23 #[.int .i64 n, .int .i64 d, .int .i64 j] w fun e w' => e = .returned (.tuple #[.slice none 0 0, .int .i64 2]) ∧ w = w') := fun w j => chirp_Row_arg n d j w h hd
  have C3 : Hid (∀ w : World, Calls Try.prog 25 #[.int .i64 n, .int .i64 d] w fun e w' => e = .returned (.int .i64 2) ∧ w = w') := fun w => check_arg n d w h hd
  have C4 : Hid (∀ w : World, Calls Try.prog 26 #[.int .i64 n, .int .i64 i] w fun e w' => e = .returned (.int .i64 t) ∧ w = w') := fun w => by rw [← ht]; exact ref_Tri n i w (by omega) (by omega) (by omega)
  have ett : ((t : Int) != (t : Int)) = false := bfalse' rfl
  rw [ht] at hlt
  have H := Lib.hid h
  clear h ht hd
  go_enter Try.func5, Try.ntmps5
  go_wp2_with fail
  refine (C1.out _).mono ?_; rintro e w' ⟨rfl, rfl⟩
  go_wp2_with fail
  refine (refHas_yes _ _ H.out).mono ?_; rintro e w' ⟨rfl, rfl⟩
  go_wp2_with fail
  refine (C2.out _ _).mono ?_; rintro e w' ⟨rfl, rfl⟩
  go_wp2_with fail
  refine (C4.out _).mono ?_; rintro e w' ⟨rfl, rfl⟩
  go_wp2_with fail
  refine (C3.out _).mono ?_; rintro e w' ⟨rfl, rfl⟩
  go_wp2_with fail
  refine (live12 _).mono ?_; rintro e w' ⟨rfl, rfl⟩
  go_wp2_with fail
  go_ret
  exact ⟨rfl, Below.refl _ _⟩

set_option maxHeartbeats 800000 in
theorem chirpRows_ok (n i : Nat) (d : Int) (w : World) (h : hasSz n = true) (hi : i ≤ 3000) (hn : n ≤ 3000) (hd : d = 0 ∨ d = 1) :
    Calls Try.prog 5 #[.int .i64 n, .int .i64 d, .int .i64 i] w fun e w' => e = .returned (.bool true) ∧ Below w.heap.size w w' := by
  obtain ⟨h1, h2, _⟩ := hasSz_iff.1 h
  have hlt := triN_lt n i (by omega)
  obtain ⟨t, ht⟩ : ∃ t, triN n i = t := ⟨_, rfl⟩
  obtain ⟨r, hr⟩ : ∃ r : Nat, (i : Int) % 100 = r := ⟨i % 100, by omega⟩
  have hr2 : r < 100 := by omega
  obtain ⟨xs, hxs⟩ : ∃ xs, rowT (dirRt n d) n r = xs := ⟨_, rfl⟩
  have hxl : xs.length = r := by rw [← hxs]; exact rowT_len _ _ _
  have C1 : Hid (∀ w : World, Calls Try.prog 21 #[.int .i64 n, .int .i64 i] w fun e w' => e = .returned (.tuple #[.int .i64 t, .int .i64 0]) ∧ w = w') := fun w => by rw [← ht]; exact chirp_Tri_ok n i w h (by omega)
  have C2 : Hid (∀ (w : World), Calls Try.prog 23 #[.int .i64 n, .int .i64 d, .int .i64 r] w (GivesOwnE .u64 45 xs w)) := fun w => by rw [← hxs]; exact chirp_Row n r d w h hd (by omega)
  have C3 : Hid (∀ w : World, Calls Try.prog 25 #[.int .i64 n, .int .i64 d] w fun e w' => e = .returned (.int .i64 0) ∧ w = w') := fun w => check_ok n d w h hd
  have C4 : Hid (∀ w : World, Calls Try.prog 26 #[.int .i64 n, .int .i64 i] w fun e w' => e = .returned (.int .i64 t) ∧ w = w') := fun w => by rw [← ht]; exact ref_Tri n i w (by omega) (by omega) (by omega)
  have C5 : Hid (∀ (w : World), Calls Try.prog 27 #[.int .i64 n, .int .i64 d, .int .i64 r] w (GivesRow .u64 xs w)) := fun w => by rw [← hxs]; exact (ref_Row12 n r d w h hd (by omega)).mono fun e w' hg => hg.row
  have ett : ((t : Int) != (t : Int)) = false := bfalse' rfl
  rw [ht] at hlt
  have H := Lib.hid h
  have HXL := Lib.hid hxl
  clear h ht hd hxs hxl
  go_enter Try.func5, Try.ntmps5
  go_wp2_with fail
  refine (C1.out _).mono ?_; rintro e w' ⟨rfl, rfl⟩
  go_wp2_with fail
  refine (refHas_yes _ _ H.out).mono ?_; rintro e w' ⟨rfl, rfl⟩
  go_wp2_with fail
  refine (C2.out _).mono ?_; rintro e w1 ⟨a1, cap1, rfl, _, hr1, hcap1, hb1⟩
  rw [HXL.out]
  go_wp2_with fail
  refine (C4.out _).mono ?_; rintro e w' ⟨rfl, rfl⟩
  go_wp2_with fail
  refine (C3.out _).mono ?_; rintro e w' ⟨rfl, rfl⟩
  go_wp2_with fail
  refine (C5.out _).mono ?_; rintro e w2 ⟨a2, cap2, rfl, hr2', hcap2, hb2⟩
  rw [HXL.out]
  go_wp2_with fail
  refine (ref_SameT _ _ _ _ _ _ xs xs _ (hr1.below hb2) hr2' HXL.out HXL.out rfl).mono ?_
  rintro e w3 ⟨rfl, hb3⟩
  go_wp2_with fail
  refine (live12 _).mono ?_; rintro e w' ⟨rfl, rfl⟩
  go_wp2_with fail
  go_ret
  exact ⟨rfl, chain (chain hb1 hb2) hb3⟩

theorem chirpRowsW (n d i : Int) (w : World) (hn : fits .i64 n) (hd : fits .i64 d) (hi : fits .i64 i) :
    Calls Try.prog 5 #[.int .i64 n, .int .i64 d, .int .i64 i] w fun e w' => e = .returned (.bool true) ∧ Below w.heap.size w w' := by
  have h1 := fits_i64.1 hn
  cases hs : hasSz n with
  | false => exact chirpRows_size n d i w hs (by omega)
  | true =>
    obtain ⟨h2, h3, _⟩ := hasSz_iff.1 hs
    obtain ⟨N, rfl⟩ := Int.eq_ofNat_of_zero_le (show 0 ≤ n by omega)
    by_cases hr : i < 0 ∨ 67108864 < i
    · by_cases hd' : d = 0 ∨ d = 1
      · exact chirpRows_range N d i w hs hd' hr
      · exact chirpRows_range_arg N d i w hs hd' hr
    · obtain ⟨I, rfl⟩ := Int.eq_ofNat_of_zero_le (show 0 ≤ i by omega)
      by_cases hf : 3000 < I ∨ 3000 < N
      · exact chirpRows_far N I d w hs (by omega) hf
      · by_cases hd' : d = 0 ∨ d = 1
        · exact chirpRows_ok N I d w hs (by omega) (by omega) hd'
        · exact chirpRows_arg N I d w hs (by omega) (by omega) hd'
end Go.Proofs.Ytlgklkhijmeldaa
