/- The law of tables, as a call that returns true. -/
import Derived.Test.YtpehbgcbifgokaaPermD
namespace Go.Proofs.Ytpehbgcbifgokaa
open Go.RowKit
set_option linter.unusedVariables false
set_option linter.unusedSimpArgs false

theorem str_23 : strL 2 3 = [0, 3, 1, 4, 2, 5] := by decide
theorem crt_23 : crtL 2 3 = [0, 4, 2, 3, 1, 5] := by
  have hg : Nat.gcd 2 3 = 1 := by decide
  have h : ∀ t, t < 6 → invOf 6 (crtF 2 3) (crtF 2 3 t) = t := fun t ht => invOf_of 6 (crtF 2 3) (crtF_inj 2 3 hg) t ht
  have h0 := h 0 (by omega)
  have h1 := h 1 (by omega)
  have h2 := h 2 (by omega)
  have h3 := h 3 (by omega)
  have h4 := h 4 (by omega)
  have h5 := h 5 (by omega)
  have e : (List.range (2 * 3)).map (fun k => ((invOf (2 * 3) (crtF 2 3) k : Nat) : Int)) = [0, 1, 2, 3, 4, 5].map (fun k => ((invOf 6 (crtF 2 3) k : Nat) : Int)) := rfl
  unfold crtL mapL
  rw [e]
  have c0 : crtF 2 3 0 = 0 := by decide
  have c1 : crtF 2 3 1 = 4 := by decide
  have c2 : crtF 2 3 2 = 2 := by decide
  have c3 : crtF 2 3 3 = 3 := by decide
  have c4 : crtF 2 3 4 = 1 := by decide
  have c5 : crtF 2 3 5 = 5 := by decide
  rw [c0] at h0; rw [c1] at h1; rw [c2] at h2; rw [c3] at h3; rw [c4] at h4; rw [c5] at h5
  simp only [List.map_cons, List.map_nil, h0, h1, h2, h3, h4, h5]
  rfl

theorem fitsL (xs : List Int) (h : ∀ x ∈ xs, 0 ≤ x ∧ x ≤ 1000000000) : ∀ x ∈ xs, fits .i64 x := fun x hx => fits_i64.2 (by have := h x hx; omega)

set_option maxHeartbeats 1600000 in
theorem live08 (w : World) : Calls Try.prog 26 #[] w fun e w' => e = .returned (.bool true) ∧ Below w.heap.size w w' := by
  have r1 : ∀ w : World, Row .i64 (w.alloc (.cells #[.int .i64 0, .int .i64 3, .int .i64 1, .int .i64 4, .int .i64 2, .int .i64 5] 3)) (some ⟨w.heap.size, 0, none⟩) [0, 3, 1, 4, 2, 5] := fun w => row_new .i64 w _ [0, 3, 1, 4, 2, 5] (fitsL _ (by decide)) (by simp)
  have r2 : ∀ w : World, Row .i64 (w.alloc (.cells #[.int .i64 0, .int .i64 4, .int .i64 2, .int .i64 3, .int .i64 1, .int .i64 5] 3)) (some ⟨w.heap.size, 0, none⟩) [0, 4, 2, 3, 1, 5] := fun w => row_new .i64 w _ [0, 4, 2, 3, 1, 5] (fitsL _ (by decide)) (by simp)
  have R1 := Lib.hid r1; have R2 := Lib.hid r2
  have s1 : ∀ w : World, Calls Try.prog 34 #[.int .i64 2, .int .i64 3] w (GivesRowE .i64 (tabL 3 2 (fun j i => ((i * 3 + j : Nat) : Int))) 0 w) := fun w => permStride_yes 2 3 w (by decide)
  have s2 : ∀ w : World, Calls Try.prog 28 #[.int .i64 2, .int .i64 3] w (GivesRowE .i64 (crtL 2 3) 0 w) := fun w => permCrt_ok 2 3 w (by decide) (by decide)
  rw [strL_tab 2 3, str_23] at s1
  rw [crt_23] at s2
  have hp : IsPerm [0, 3, 1, 4, 2, 5] := by rw [← str_23]; exact isPerm_str 2 3
  have HP := Lib.hid hp
  have S1 := Lib.hid s1; have S2 := Lib.hid s2
  clear r1 r2 s1 s2 hp
  go_enter Try.func26, Try.ntmps26
  go_wp2_with fail
  refine (S1.out _).mono ?_
  rintro e w1 ⟨a1, cap1, rfl, hr1, hcap1, hb1⟩
  go_wp2_with fail
  refine (S2.out _).mono ?_
  rintro e w2 ⟨a2, cap2, rfl, hr2, hcap2, hb2⟩
  have hr1 := hr1.below hb2
  have hbl := chain hb1 hb2
  go_wp2_with fail
  refine (ref3_SameT _ _ _ _ _ _ [0, 3, 1, 4, 2, 5] [0, 3, 1, 4, 2, 5] _ (hr1.below ((Below.refl _ _).alloc (Nat.le_refl _) _)) (R1.out _) rfl rfl rfl).mono ?_
  rintro e w3 ⟨rfl, hb3⟩
  have hr1 := (hr1.below ((Below.refl _ _).alloc (Nat.le_refl _) _)).below hb3
  have hr2 := (hr2.below ((Below.refl _ _).alloc (Nat.le_refl _) _)).below hb3
  have hbl := chainA hbl hb3
  go_wp2_with fail
  refine (ref3_SameT _ _ _ _ _ _ [0, 4, 2, 3, 1, 5] [0, 4, 2, 3, 1, 5] _ (hr2.below ((Below.refl _ _).alloc (Nat.le_refl _) _)) (R2.out _) rfl rfl rfl).mono ?_
  rintro e w4 ⟨rfl, hb4⟩
  have hr1 := (hr1.below ((Below.refl _ _).alloc (Nat.le_refl _) _)).below hb4
  have hbl := chainA hbl hb4
  go_wp2_with fail
  refine (permRight_yes _ _ _ [0, 3, 1, 4, 2, 5] _ hr1 rfl (by decide) HP.out).mono ?_
  rintro e w5 ⟨rfl, hb5⟩
  go_wp2_with fail
  go_ret
  exact ⟨rfl, chain hbl hb5⟩

theorem permTables_ok (a b : Nat) (w : World) (h : Sides a b) (hl : a * b ≤ 400) :
    Calls Try.prog 6 #[.int .i64 a, .int .i64 b] w fun e w' => e = .returned (.bool true) ∧ Below w.heap.size w w' := by
  have hs : Sides b a := by obtain ⟨h1, h2, h3, h4, h5⟩ := h; exact ⟨h3, h4, h1, h2, by rw [Int.mul_comm]; exact h5⟩
  have H := Lib.hid h
  have HS := Lib.hid hs
  have hw : IntKind.i64.wrap ((a : Int) * (b : Int)) = ((a * b : Nat) : Int) := by rw [← Int.natCast_mul]; exact IntWalk.i64_in _ (by omega)
  obtain ⟨N, hN⟩ : ∃ N, a * b = N := ⟨_, rfl⟩
  rw [hN] at hw hl
  have hle : ¬ (400 : Int) < (N : Int) := by omega
  have HN := Lib.hid hN
  have S1 : Hid (∀ w : World, Calls Try.prog 34 #[.int .i64 a, .int .i64 b] w (GivesRowE .i64 (strL a b) 0 w)) := fun w => by rw [← strL_tab]; exact permStride_yes a b w h
  have S2 : Hid (∀ w : World, Calls Try.prog 34 #[.int .i64 b, .int .i64 a] w (GivesRowE .i64 (strL b a) 0 w)) := fun w => by rw [← strL_tab]; exact permStride_yes b a w hs
  have L1 : Hid ((strL a b).length = N) := (strL_len a b).trans hN
  have L2 : Hid ((strL b a).length = N) := (strL_len b a).trans (by rw [Nat.mul_comm]; exact hN)
  have BK : Hid (∀ i, i < N → nth (strL b a) (nth (strL a b) i).toNat = i) := by rw [← hN]; exact str_back a b
  clear h hs hN
  go_enter Try.func6, Try.ntmps6
  go_wp2_with fail
  refine (refSides_yes _ _ _ H.out).mono ?_; rintro e w' ⟨rfl, rfl⟩
  go_wp2_with fail
  refine (S1.out _).mono ?_
  rintro e w1 ⟨a1, cap1, rfl, hr1, hcap1, hb1⟩
  rw [L1.out]
  go_wp2_with fail
  refine (refSides_yes _ _ _ H.out).mono ?_; rintro e w' ⟨rfl, rfl⟩
  go_wp2_with fail
  refine (S2.out _).mono ?_
  rintro e w2 ⟨a2, cap2, rfl, hr2, hcap2, hb2⟩
  rw [L2.out]
  have hr1 := hr1.below hb2
  have hbl := chain hb1 hb2
  go_wp2_with fail
  refine (permInverse_yes _ _ _ (strL a b) (strL b a) _ hr1 L1.out (by omega) (isPerm_str a b) L2.out BK.out).mono ?_
  rintro e w3 ⟨a3, cap3, rfl, hr3, hcap3, hb3⟩
  rw [L2.out]
  have hr1 := hr1.below hb3
  have hr2 := hr2.below hb3
  have hbl := chain hbl hb3
  go_wp2_with fail
  refine (refStride a b _ H.out).mono ?_
  rintro e w4 ⟨a4, cap4, rfl, hr4, hcap4, hb4⟩
  rw [L1.out]
  have hr1 := hr1.below hb4
  have hr2 := hr2.below hb4
  have hr3 := hr3.below hb4
  have hbl := chain hbl hb4
  go_wp2_with fail
  refine (ref3_SameT _ _ _ _ _ _ (strL a b) (strL a b) _ hr1 hr4 L1.out L1.out rfl).mono ?_
  rintro e w5 ⟨rfl, hb5⟩
  have hr2 := hr2.below hb5
  have hr3 := hr3.below hb5
  have hbl := chain hbl hb5
  go_wp2_with fail
  refine (ref3_SameT _ _ _ _ _ _ (strL b a) (strL b a) _ hr2 hr3 L2.out L2.out rfl).mono ?_
  rintro e w6 ⟨rfl, hb6⟩
  have hbl := chain hbl hb6
  go_wp2_with fail
  refine (live08 _).mono ?_
  rintro e w7 ⟨rfl, hb7⟩
  go_wp2_with fail
  go_ret
  exact ⟨rfl, chain hbl hb7⟩

theorem permTablesW (a b : Int) (w : World) (ha : fits .i64 a) (hb : fits .i64 b) :
    Calls Try.prog 6 #[.int .i64 a, .int .i64 b] w fun e w' => e = .returned (.bool true) ∧ Below w.heap.size w w' := by
  have ha' := fits_i64.1 ha
  have hb' := fits_i64.1 hb
  by_cases h : Sides a b
  · obtain ⟨h1, h2, h3, h4, h5⟩ := h
    obtain ⟨n, rfl⟩ := Int.eq_ofNat_of_zero_le (show 0 ≤ a by omega)
    obtain ⟨m, rfl⟩ := Int.eq_ofNat_of_zero_le (show 0 ≤ b by omega)
    have h : Sides n m := ⟨h1, h2, h3, h4, h5⟩
    by_cases hl : n * m ≤ 400
    · exact permTables_ok n m w h hl
    · have H := Lib.hid h
      rw [← Int.natCast_mul] at h5
      have hw : IntKind.i64.wrap ((n : Int) * (m : Int)) = ((n * m : Nat) : Int) := by rw [← Int.natCast_mul]; exact IntWalk.i64_in _ (by omega)
      obtain ⟨N, hN⟩ : ∃ N, n * m = N := ⟨_, rfl⟩
      rw [hN] at hw hl
      have hle : (400 : Int) < (N : Int) := by omega
      clear h hN h5 hl
      go_enter Try.func6, Try.ntmps6
      go_wp2_with fail
      refine (refSides_yes _ _ _ H.out).mono ?_; rintro e w' ⟨rfl, rfl⟩
      go_wp2_with fail
      refine (live08 _).mono ?_
      rintro e w7 ⟨rfl, hb7⟩
      go_wp2_with fail
      go_ret
      exact ⟨rfl, hb7⟩
  · have H := Lib.hid h
    have HA : Hid (-9223372036854775808 ≤ a ∧ a ≤ 9223372036854775807) := by unfold Hid; omega
    have HB : Hid (-9223372036854775808 ≤ b ∧ b ≤ 9223372036854775807) := by unfold Hid; omega
    clear h ha' hb'
    go_enter Try.func6, Try.ntmps6
    go_wp2_with fail
    refine (refSides_no _ _ _ H.out HA.out HB.out).mono ?_; rintro e w' ⟨rfl, rfl⟩
    go_wp2_with fail
    refine (permStride_no _ _ _ H.out HA.out HB.out).mono ?_
    rintro e w1 ⟨rfl, hb1⟩
    go_wp2_with fail
    refine (refSides_no _ _ _ H.out HA.out HB.out).mono ?_; rintro e w' ⟨rfl, rfl⟩
    go_wp2_with fail
    refine (live08 _).mono ?_
    rintro e w7 ⟨rfl, hb7⟩
    go_wp2_with fail
    go_ret
    exact ⟨rfl, chain hb1 hb7⟩
end Go.Proofs.Ytpehbgcbifgokaa
