/- What is multiplied by; the law of rooms. -/
import Derived.Test.YtlgklkhijmeldaaChirpC
namespace Go.Proofs.Ytlgklkhijmeldaa
open Go.RowKit Sm
set_option linter.unusedVariables false
set_option linter.unusedSimpArgs false
set_option maxRecDepth 100000

theorem kernel_size (n m d : Int) (w : World) (h : hasSz n = false) (hn : -9223372036854775808 ≤ n ∧ n < 9223372036854775808) :
    Calls Try.prog 29 #[.int .i64 n, .int .i64 m, .int .i64 d] w fun e w' => e = .returned (.tuple #[.slice none 0 0, .int .i64 4]) ∧ w = w' := by
  have H := Lib.hid h
  clear h
  go_enter Try.func29, Try.ntmps29
  go_wp2_with fail
  refine (chirp_way_size _ _ _ H.out hn).mono ?_; rintro e w' ⟨rfl, rfl⟩
  go_wp2_with fail
  go_ret2
  exact ⟨rfl, rfl⟩
theorem kernel_arg (n m d : Int) (w : World) (h : hasSz n = true) (hd : ¬ (d = 0 ∨ d = 1)) :
    Calls Try.prog 29 #[.int .i64 n, .int .i64 m, .int .i64 d] w fun e w' => e = .returned (.tuple #[.slice none 0 0, .int .i64 2]) ∧ w = w' := by
  have C1 : Hid (∀ w : World, Calls Try.prog 60 #[.int .i64 n, .int .i64 d] w fun e w' => e = .returned (.tuple #[.int .u64 0, .int .i64 2]) ∧ w = w') := fun w => chirp_way_arg n d w h hd
  clear h hd
  go_enter Try.func29, Try.ntmps29
  go_wp2_with fail
  refine (C1.out _).mono ?_; rintro e w' ⟨rfl, rfl⟩
  go_wp2_with fail
  go_ret2
  exact ⟨rfl, rfl⟩
theorem kernel_len (n : Nat) (m d : Int) (w : World) (h : hasSz n = true) (hd : d = 0 ∨ d = 1) (hm : -9223372036854775808 ≤ m ∧ m < 9223372036854775808) (hl : m < 2 * (n : Int) - 1 ∨ hasSz m = false) :
    Calls Try.prog 29 #[.int .i64 n, .int .i64 m, .int .i64 d] w fun e w' => e = .returned (.tuple #[.slice none 0 0, .int .i64 5]) ∧ w = w' := by
  have C1 : Hid (∀ w : World, Calls Try.prog 60 #[.int .i64 n, .int .i64 d] w fun e w' => e = .returned (.tuple #[.int .u64 (dirRt n d), .int .i64 0]) ∧ w = w') := fun w => chirp_way n d w h hd
  obtain ⟨h1, h2, _⟩ := hasSz_iff.1 h
  obtain ⟨q, hq⟩ : ∃ q : Nat, 2 * (n : Int) - 1 = q := ⟨2 * n - 1, by omega⟩
  rw [hq] at hl
  have hq2 : q ≤ 33554432 := by omega
  clear h hd
  by_cases hlt : m < (q : Int)
  · clear hl
    go_enter Try.func29, Try.ntmps29
    go_wp2_with fail
    refine (C1.out _).mono ?_; rintro e w' ⟨rfl, rfl⟩
    go_wp2_with fail
    go_ret2
    exact ⟨rfl, rfl⟩
  · have H := Lib.hid (hl.resolve_left hlt)
    clear hl
    go_enter Try.func29, Try.ntmps29
    go_wp2_with fail
    refine (C1.out _).mono ?_; rintro e w' ⟨rfl, rfl⟩
    go_wp2_with fail
    refine (rootHas_no _ _ H.out hm).mono ?_; rintro e w' ⟨rfl, rfl⟩
    go_wp2_with fail
    go_ret2
    exact ⟨rfl, rfl⟩

set_option maxHeartbeats 1000000 in
theorem kernel_ok (n m : Nat) (d : Int) (w : World) (h : hasSz n = true) (hd : d = 0 ∨ d = 1) (hm : hasSz m = true) (hl : 2 * n - 1 ≤ m) :
    Calls Try.prog 29 #[.int .i64 n, .int .i64 m, .int .i64 d] w (GivesRowE .u64 (zeroL (rowT (dirRt n d) n (2 * n - 1)) m) 0 w) := by
  obtain ⟨i0, hi, hz0, hz1, hz2⟩ := info_parts info_u64
  have C1 : Hid (∀ w : World, Calls Try.prog 60 #[.int .i64 n, .int .i64 d] w fun e w' => e = .returned (.tuple #[.int .u64 (dirRt n d), .int .i64 0]) ∧ w = w') := fun w => chirp_way n d w h hd
  obtain ⟨h1, h2, _⟩ := hasSz_iff.1 h
  obtain ⟨h3, h4, _⟩ := hasSz_iff.1 hm
  obtain ⟨q, hq⟩ : ∃ q : Nat, 2 * n - 1 = q := ⟨2 * n - 1, rfl⟩
  rw [hq] at hl ⊢
  have C2 : Hid (∀ (w : World), Calls Try.prog 23 #[.int .i64 n, .int .i64 d, .int .i64 q] w (GivesOwnE .u64 45 (rowT (dirRt n d) n q) w)) := fun w => chirp_Row n q d w h hd (by omega)
  have hq1 : 2 * (n : Int) - 1 = q := by omega
  have hql : ¬ (m : Int) < (q : Int) := by omega
  have hxl : (rowT (dirRt n d) n q).length = q := rowT_len _ _ _
  have hxf := rowT_fits (dirRt n d) n q
  obtain ⟨xs, hxs⟩ : ∃ xs, rowT (dirRt n d) n q = xs := ⟨_, rfl⟩
  rw [hxs] at C2 hxl hxf ⊢
  obtain ⟨dd, hdd⟩ : ∃ dd : Nat, m - q = dd := ⟨m - q, rfl⟩
  have hd1 : (m : Int) - (q : Int) = dd := by omega
  have H := Lib.hid h
  have HM := Lib.hid hm
  have HXL := Lib.hid hxl
  have HXF := Lib.hid hxf
  have HDD := Lib.hid hdd
  have HZL : Hid ((zeroL xs m).length = m) := zeroL_len xs m (by omega)
  have hqd : q + dd ≤ 100000000 := by omega
  have hm1 : m ≤ 16777216 := by omega
  clear h hd hm hxl hxf hxs hq hdd
  go_enter Try.func29, Try.ntmps29
  go_wp2_with fail
  refine (C1.out _).mono ?_; rintro e w' ⟨rfl, rfl⟩
  go_wp2_with fail
  refine (rootHas_yes _ _ HM.out).mono ?_; rintro e w' ⟨rfl, rfl⟩
  go_wp2_with fail
  refine (C2.out _).mono ?_; rintro e w1 ⟨a1, cap1, rfl, ho1, hr1, hcap1, hb1⟩
  rw [HXL.out] at ho1 ⊢
  have HO := Lib.hid ho1
  have hsz := hb1.size
  clear ho1 hr1 hcap1
  go_wp2_with (at_builtin; refine wpList_append_zeros _ rfl _ _ 22 3 rfl w.heap.size 45 i0 .u64 .i64 .i64 Try.underlying22 Try.underlying3 hi hz0 hz1 hz2 _ q _ rfl HO.out dd rfl (by omega) hsz ?_)
  intro v' w2 hown' hgrow
  have hb2 : Below w.heap.size w w2 := append_below hb1 hsz HO.out hgrow
  obtain ⟨a2, cap2, rfl, hcap2⟩ := own_slice hown'
  rw [show List.replicate dd (Value.int .u64 0) = List.replicate (m - xs.length) (Value.int .u64 0) by rw [HXL.out, HDD.out], zeroL_cells, show q + dd = m by have := HDD.out; omega] at hown'
  rw [show q + dd = m by have := HDD.out; omega] at hcap2 ⊢
  have hrow := Row.of_own (a := a2) (cap := cap2) HZL.out (by omega) (zeroL_fits xs m HXF.out) hown'
  have HR := Lib.hid hrow
  clear hown' hgrow hrow
  go_wp2_with fail
  go_ret2
  exact ⟨a2, cap2, by simp [HZL.out], HR.out, by rw [HZL.out]; exact hcap2, hb2⟩

/-! ### The law of rooms -/
theorem chirpRooms_size (n m d : Int) (w : World) (h : hasSz n = false) (hn : -9223372036854775808 ≤ n ∧ n < 9223372036854775808) :
    Calls Try.prog 6 #[.int .i64 n, .int .i64 m, .int .i64 d] w fun e w' => e = .returned (.bool true) ∧ Below w.heap.size w w' := by
  have H := Lib.hid h
  clear h
  go_enter Try.func6, Try.ntmps6
  go_wp2_with fail
  refine (chirp_Least_size _ _ H.out hn).mono ?_; rintro e w' ⟨rfl, rfl⟩
  go_wp2_with fail
  refine (refHas_no _ _ H.out hn).mono ?_; rintro e w' ⟨rfl, rfl⟩
  go_wp2_with fail
  refine (kernel_size _ _ _ _ H.out hn).mono ?_; rintro e w' ⟨rfl, rfl⟩
  go_wp2_with fail
  refine (live12 _).mono ?_; rintro e w' ⟨rfl, rfl⟩
  go_wp2_with fail
  go_ret
  exact ⟨rfl, Below.refl _ _⟩
theorem chirpRooms_big (n : Nat) (m d : Int) (w : World) (h : hasSz n = true) (hn : 8388608 < n) :
    Calls Try.prog 6 #[.int .i64 n, .int .i64 m, .int .i64 d] w fun e w' => e = .returned (.bool true) ∧ Below w.heap.size w w' := by
  have H := Lib.hid h
  obtain ⟨h1, h2, _⟩ := hasSz_iff.1 h
  clear h
  go_enter Try.func6, Try.ntmps6
  go_wp2_with fail
  refine (chirp_Least_range _ _ H.out hn).mono ?_; rintro e w' ⟨rfl, rfl⟩
  go_wp2_with fail
  refine (refHas_yes _ _ H.out).mono ?_; rintro e w' ⟨rfl, rfl⟩
  go_wp2_with fail
  refine (live12 _).mono ?_; rintro e w' ⟨rfl, rfl⟩
  go_wp2_with fail
  go_ret
  exact ⟨rfl, Below.refl _ _⟩

theorem least_facts (n : Nat) (h : hasSz n = true) (hn : n ≤ 8388608) : ∃ q A : Nat, 2 * (n : Int) - 1 = q ∧ 2 * n - 1 = q ∧ q ≤ 16777216 ∧ 1 ≤ q ∧ A ≤ 16777216 ∧
    (∀ w : World, Calls Try.prog 28 #[.int .i64 n] w fun e w' => e = .returned (.tuple #[.int .i64 A, .int .i64 0]) ∧ w = w') ∧
    (∀ w : World, Calls Try.prog 30 #[.int .i64 q] w fun e w' => e = .returned (.int .i64 A) ∧ w = w') := by
  obtain ⟨h1, h2, _⟩ := hasSz_iff.1 h
  exact ⟨2 * n - 1, abv (2 * n - 1), by omega, rfl, by omega, by omega, abv_le _ (by omega) (by omega), fun w => chirp_Least_ok n _ w h hn rfl, fun w => ref_Above _ w (by omega) (by omega)⟩

theorem chirpRooms_far (n : Nat) (m d : Int) (w : World) (h : hasSz n = true) (hn : n ≤ 8388608) (hf : 150 < n ∨ 2000 < m) :
    Calls Try.prog 6 #[.int .i64 n, .int .i64 m, .int .i64 d] w fun e w' => e = .returned (.bool true) ∧ Below w.heap.size w w' := by
  obtain ⟨q, A, hq, _, hq2, hq3, hA, C1, C2⟩ := least_facts n h hn
  have C1 := Lib.hid C1
  have C2 := Lib.hid C2
  have H := Lib.hid h
  have eAA : ((A : Int) != (A : Int)) = false := bfalse' rfl
  obtain ⟨h1, h2, _⟩ := hasSz_iff.1 h
  clear h
  rcases (show 150 < n ∨ (n ≤ 150 ∧ 2000 < m) by omega) with h3 | ⟨h3, h4⟩
  all_goals
    clear hf
    go_enter Try.func6, Try.ntmps6
    go_wp2_with fail
    refine (C1.out _).mono ?_; rintro e w' ⟨rfl, rfl⟩
    go_wp2_with fail
    refine (refHas_yes _ _ H.out).mono ?_; rintro e w' ⟨rfl, rfl⟩
    go_wp2_with fail
    refine (C2.out _).mono ?_; rintro e w' ⟨rfl, rfl⟩
    go_wp2_with fail
    refine (live12 _).mono ?_; rintro e w' ⟨rfl, rfl⟩
    go_wp2_with fail
    go_ret
    exact ⟨rfl, Below.refl _ _⟩

theorem chirpRooms_arg (n : Nat) (m d : Int) (w : World) (h : hasSz n = true) (hn : n ≤ 150) (hm : m ≤ 2000) (hd : ¬ (d = 0 ∨ d = 1)) :
    Calls Try.prog 6 #[.int .i64 n, .int .i64 m, .int .i64 d] w fun e w' => e = .returned (.bool true) ∧ Below w.heap.size w w' := by
  obtain ⟨q, A, hq, _, hq2, hq3, hA, C1, C2⟩ := least_facts n h (by omega)
  have C1 := Lib.hid C1
  have C2 := Lib.hid C2
  have C3 : Hid (∀ (w : World), Calls Try.prog 29 #[.int .i64 n, .int .i64 m, .int .i64 d] w fun e w' => e = .returned (.tuple #[.slice none 0 0, .int .i64 2]) ∧ w = w') := fun w => kernel_arg n m d w h hd
  have C4 : Hid (∀ w : World, Calls Try.prog 25 #[.int .i64 n, .int .i64 d] w fun e w' => e = .returned (.int .i64 2) ∧ w = w') := fun w => check_arg n d w h hd
  have H := Lib.hid h
  have eAA : ((A : Int) != (A : Int)) = false := bfalse' rfl
  obtain ⟨h1, h2, _⟩ := hasSz_iff.1 h
  clear h hd
  go_enter Try.func6, Try.ntmps6
  go_wp2_with fail
  refine (C1.out _).mono ?_; rintro e w' ⟨rfl, rfl⟩
  go_wp2_with fail
  refine (refHas_yes _ _ H.out).mono ?_; rintro e w' ⟨rfl, rfl⟩
  go_wp2_with fail
  refine (C2.out _).mono ?_; rintro e w' ⟨rfl, rfl⟩
  go_wp2_with fail
  refine (C3.out _).mono ?_; rintro e w' ⟨rfl, rfl⟩
  go_wp2_with fail
  refine (C4.out _).mono ?_; rintro e w' ⟨rfl, rfl⟩
  go_wp2_with fail
  refine (live12 _).mono ?_; rintro e w' ⟨rfl, rfl⟩
  go_wp2_with fail
  go_ret
  exact ⟨rfl, Below.refl _ _⟩

theorem chirpRooms_len (n : Nat) (m d : Int) (w : World) (h : hasSz n = true) (hn : n ≤ 150) (hm : m ≤ 2000) (hm0 : -9223372036854775808 ≤ m) (hd : d = 0 ∨ d = 1) (hl : m < 2 * (n : Int) - 1 ∨ hasSz m = false) :
    Calls Try.prog 6 #[.int .i64 n, .int .i64 m, .int .i64 d] w fun e w' => e = .returned (.bool true) ∧ Below w.heap.size w w' := by
  obtain ⟨q, A, hq, _, hq2, hq3, hA, C1, C2⟩ := least_facts n h (by omega)
  have C1 := Lib.hid C1
  have C2 := Lib.hid C2
  have C3 : Hid (∀ (w : World), Calls Try.prog 29 #[.int .i64 n, .int .i64 m, .int .i64 d] w fun e w' => e = .returned (.tuple #[.slice none 0 0, .int .i64 5]) ∧ w = w') := fun w => kernel_len n m d w h hd (by omega) hl
  have C4 : Hid (∀ w : World, Calls Try.prog 25 #[.int .i64 n, .int .i64 d] w fun e w' => e = .returned (.int .i64 0) ∧ w = w') := fun w => check_ok n d w h hd
  have H := Lib.hid h
  have eAA : ((A : Int) != (A : Int)) = false := bfalse' rfl
  obtain ⟨h1, h2, _⟩ := hasSz_iff.1 h
  rw [hq] at hl
  clear h hd
  by_cases hlt : m < (q : Int)
  · clear hl
    go_enter Try.func6, Try.ntmps6
    go_wp2_with fail
    refine (C1.out _).mono ?_; rintro e w' ⟨rfl, rfl⟩
    go_wp2_with fail
    refine (refHas_yes _ _ H.out).mono ?_; rintro e w' ⟨rfl, rfl⟩
    go_wp2_with fail
    refine (C2.out _).mono ?_; rintro e w' ⟨rfl, rfl⟩
    go_wp2_with fail
    refine (C3.out _).mono ?_; rintro e w' ⟨rfl, rfl⟩
    go_wp2_with fail
    refine (C4.out _).mono ?_; rintro e w' ⟨rfl, rfl⟩
    go_wp2_with fail
    refine (live12 _).mono ?_; rintro e w' ⟨rfl, rfl⟩
    go_wp2_with fail
    go_ret
    exact ⟨rfl, Below.refl _ _⟩
  · have HM := Lib.hid (hl.resolve_left hlt)
    clear hl
    go_enter Try.func6, Try.ntmps6
    go_wp2_with fail
    refine (C1.out _).mono ?_; rintro e w' ⟨rfl, rfl⟩
    go_wp2_with fail
    refine (refHas_yes _ _ H.out).mono ?_; rintro e w' ⟨rfl, rfl⟩
    go_wp2_with fail
    refine (C2.out _).mono ?_; rintro e w' ⟨rfl, rfl⟩
    go_wp2_with fail
    refine (C3.out _).mono ?_; rintro e w' ⟨rfl, rfl⟩
    go_wp2_with fail
    refine (C4.out _).mono ?_; rintro e w' ⟨rfl, rfl⟩
    go_wp2_with fail
    refine (refHas_no _ _ HM.out (by omega)).mono ?_; rintro e w' ⟨rfl, rfl⟩
    go_wp2_with fail
    refine (live12 _).mono ?_; rintro e w' ⟨rfl, rfl⟩
    go_wp2_with fail
    go_ret
    exact ⟨rfl, Below.refl _ _⟩

set_option maxHeartbeats 1000000 in
theorem chirpRooms_ok (n m : Nat) (d : Int) (w : World) (h : hasSz n = true) (hn : n ≤ 150) (hm : m ≤ 2000) (hd : d = 0 ∨ d = 1) (hl : 2 * n - 1 ≤ m) (hms : hasSz m = true) :
    Calls Try.prog 6 #[.int .i64 n, .int .i64 m, .int .i64 d] w fun e w' => e = .returned (.bool true) ∧ Below w.heap.size w w' := by
  obtain ⟨i0, hi, hz0, hz1, hz2⟩ := info_parts info_u64
  obtain ⟨q, A, hq, hq', hq2, hq3, hA, C1, C2⟩ := least_facts n h (by omega)
  have C1 := Lib.hid C1
  have C2 := Lib.hid C2
  have K := kernel_ok n m d
  rw [hq'] at K
  have C3 : Hid (∀ (w : World), Calls Try.prog 29 #[.int .i64 n, .int .i64 m, .int .i64 d] w (GivesRowE .u64 (zeroL (rowT (dirRt n d) n q) m) 0 w)) := fun w => K w h hd hms (by omega)
  have C4 : Hid (∀ w : World, Calls Try.prog 25 #[.int .i64 n, .int .i64 d] w fun e w' => e = .returned (.int .i64 0) ∧ w = w') := fun w => check_ok n d w h hd
  have C5 : Hid (∀ (w : World), Calls Try.prog 27 #[.int .i64 n, .int .i64 d, .int .i64 q] w (GivesOwn .u64 45 (rowT (dirRt n d) n q) w)) := fun w => ref_Row12 n q d w h hd (by omega)
  have hxl : (rowT (dirRt n d) n q).length = q := rowT_len _ _ _
  have hxf := rowT_fits (dirRt n d) n q
  obtain ⟨xs, hxs⟩ : ∃ xs, rowT (dirRt n d) n q = xs := ⟨_, rfl⟩
  rw [hxs] at C3 C5 hxl hxf
  obtain ⟨dd, hdd⟩ : ∃ dd : Nat, m - q = dd := ⟨m - q, rfl⟩
  have hd1 : (m : Int) - 2 * (n : Int) + 1 = dd := by omega
  have hql : ¬ (m : Int) < (q : Int) := by omega
  have H := Lib.hid h
  have HM := Lib.hid hms
  have HXL := Lib.hid hxl
  have HXF := Lib.hid hxf
  have HQD : Hid (q + dd = m) := by unfold Hid; omega
  have HDD := Lib.hid hdd
  have HZL : Hid ((zeroL xs m).length = m) := zeroL_len xs m (by omega)
  have hqd : q + dd ≤ 100000000 := by omega
  have eAA : ((A : Int) != (A : Int)) = false := bfalse' rfl
  obtain ⟨h1, h2, _⟩ := hasSz_iff.1 h
  clear h hd hms hxl hxf hxs hq' hdd K
  go_enter Try.func6, Try.ntmps6
  go_wp2_with fail
  refine (C1.out _).mono ?_; rintro e w' ⟨rfl, rfl⟩
  go_wp2_with fail
  refine (refHas_yes _ _ H.out).mono ?_; rintro e w' ⟨rfl, rfl⟩
  go_wp2_with fail
  refine (C2.out _).mono ?_; rintro e w' ⟨rfl, rfl⟩
  go_wp2_with fail
  refine (C3.out _).mono ?_; rintro e w1 ⟨a1, cap1, rfl, hr1, hcap1, hb1⟩
  rw [HZL.out]
  have HR1 := Lib.hid hr1
  clear hr1 hcap1
  go_wp2_with fail
  refine (C4.out _).mono ?_; rintro e w' ⟨rfl, rfl⟩
  go_wp2_with fail
  refine (refHas_yes _ _ HM.out).mono ?_; rintro e w' ⟨rfl, rfl⟩
  go_wp2_with fail
  refine (C5.out _).mono ?_; rintro e w2 ⟨a2, cap2, rfl, hown, hf, _, hb2⟩
  rw [HXL.out] at hown ⊢
  have HO := Lib.hid hown
  have hsz := hb2.size
  clear hown hf
  go_wp2_with (at_builtin; refine wpList_append_zerosG _ (by rfl) _ _ 22 3 rfl w.heap.size 45 i0 .u64 .i64 .i64 Try.underlying22 Try.underlying3 hi hz0 hz1 hz2 _ q _ rfl (own_base HO.out hb1.size) dd rfl (by omega) (Nat.le_trans hb1.size hsz) ?_)
  intro v' w6 hown' hgrow
  have hbl5 := chain hb1 hb2
  have hb6 : Below w.heap.size w w6 := append_below hbl5 hbl5.size (own_base HO.out hb1.size) hgrow
  obtain ⟨a6, cap6, rfl, hcap6⟩ := own_slice hown'
  rw [show List.replicate dd (Value.int .u64 0) = List.replicate (m - xs.length) (Value.int .u64 0) by rw [HXL.out, HDD.out], zeroL_cells, HQD.out] at hown'
  rw [HQD.out] at hcap6 ⊢
  have hrow := Row.of_own (a := a6) (cap := cap6) HZL.out (by omega) (zeroL_fits xs m HXF.out) hown'
  have HR := Lib.hid hrow
  have hR1' : Row .u64 w6 a1 (zeroL xs m) := HR1.out.below (append_below hb2 hb2.size HO.out hgrow)
  have HR1' := Lib.hid hR1'
  clear hown' hgrow hrow hR1'
  go_wp2_with fail
  refine (ref_SameT _ _ _ _ _ _ (zeroL xs m) (zeroL xs m) _ HR1'.out HR.out HZL.out HZL.out rfl).mono ?_
  rintro e w7 ⟨rfl, hb7⟩
  go_wp2_with fail
  refine (live12 _).mono ?_; rintro e w' ⟨rfl, rfl⟩
  go_wp2_with fail
  go_ret
  exact ⟨rfl, chain hb6 hb7⟩

theorem chirpRoomsW (n m d : Int) (w : World) (hn : fits .i64 n) (hm : fits .i64 m) (hd : fits .i64 d) :
    Calls Try.prog 6 #[.int .i64 n, .int .i64 m, .int .i64 d] w fun e w' => e = .returned (.bool true) ∧ Below w.heap.size w w' := by
  have h1 := fits_i64.1 hn
  have h1m := fits_i64.1 hm
  cases hs : hasSz n with
  | false => exact chirpRooms_size n m d w hs (by omega)
  | true =>
    obtain ⟨h2, h3, _⟩ := hasSz_iff.1 hs
    obtain ⟨N, rfl⟩ := Int.eq_ofNat_of_zero_le (show 0 ≤ n by omega)
    by_cases hb : 8388608 < N
    · exact chirpRooms_big N m d w hs hb
    · by_cases hf : 150 < N ∨ 2000 < m
      · exact chirpRooms_far N m d w hs (by omega) hf
      · by_cases hd' : d = 0 ∨ d = 1
        · by_cases hl : m < 2 * (N : Int) - 1 ∨ hasSz m = false
          · exact chirpRooms_len N m d w hs (by omega) (by omega) (by omega) hd' hl
          · have hl1 : ¬ m < 2 * (N : Int) - 1 := fun e => hl (Or.inl e)
            have hl2 : hasSz m = true := by
              cases h : hasSz m with
              | true => rfl
              | false => exact absurd (Or.inr h) hl
            obtain ⟨M, rfl⟩ := Int.eq_ofNat_of_zero_le (show 0 ≤ m by omega)
            exact chirpRooms_ok N M d w hs (by omega) (by omega) hd' (by omega) hl2
        · exact chirpRooms_arg N m d w hs (by omega) (by omega) hd'
end Go.Proofs.Ytlgklkhijmeldaa
