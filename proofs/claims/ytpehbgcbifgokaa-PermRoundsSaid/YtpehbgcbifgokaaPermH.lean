/- The law of two sides without a common divisor, as a call that returns true. -/
import Derived.Test.YtpehbgcbifgokaaPermG
namespace Go.Proofs.Ytpehbgcbifgokaa
open Go.RowKit
set_option linter.unusedVariables false
set_option linter.unusedSimpArgs false

set_option maxHeartbeats 800000 in
theorem permCoprime_law (a b : Nat) (w : World) (h : Sides a b) (hl : a * b ≤ 400) (hg : Nat.gcd a b = 1) :
    Calls Try.prog 5 #[.int .i64 a, .int .i64 b] w fun e w' => e = .returned (.bool true) ∧ Below w.heap.size w w' := by
  have H := Lib.hid h
  have hw : IntKind.i64.wrap ((a : Int) * (b : Int)) = ((a * b : Nat) : Int) := by rw [← Int.natCast_mul]; exact IntWalk.i64_in _ (by omega)
  have HL' : Hid (a * b ≤ 400) := hl
  have HG := Lib.hid hg
  obtain ⟨N, hN⟩ : ∃ N, a * b = N := ⟨_, rfl⟩
  rw [hN] at hw hl
  have hle : ¬ (400 : Int) < (N : Int) := by omega
  have L1 : Hid ((gooL a b).length = N) := (gooL_len a b).trans hN
  have L2 : Hid ((crtL a b).length = N) := (crtL_len a b).trans hN
  clear h hN hg
  go_enter Try.func5, Try.ntmps5
  go_wp2_with fail
  refine (refSides_yes _ _ _ H.out).mono ?_; rintro e w' ⟨rfl, rfl⟩
  go_wp2_with fail
  refine (permGood_ok a b _ H.out HG.out).mono ?_
  rintro e w1 ⟨a1, cap1, rfl, hr1, hcap1, hb1⟩
  rw [L1.out]
  go_wp2_with fail
  refine (permCrt_ok a b _ H.out HG.out).mono ?_
  rintro e w2 ⟨a2, cap2, rfl, hr2, hcap2, hb2⟩
  rw [L2.out]
  have hr1 := hr1.below hb2
  have hbl := chain hb1 hb2
  go_wp2_with fail
  refine (refCheck_yes a b _ H.out 0 (fun _ => rfl) (fun h => absurd HG.out h)).mono ?_; rintro e w' ⟨rfl, rfl⟩
  go_wp2_with fail
  refine (refGood a b _ H.out HL'.out).mono ?_
  rintro e w3 ⟨a3, cap3, rfl, hr3, hcap3, hb3⟩
  rw [L1.out]
  have hr1 := hr1.below hb3
  have hr2 := hr2.below hb3
  have hbl := chain hbl hb3
  go_wp2_with fail
  refine (ref3_SameT _ _ _ _ _ _ (gooL a b) (gooL a b) _ hr1 hr3 L1.out L1.out rfl).mono ?_
  rintro e w4 ⟨rfl, hb4⟩
  have hr1 := hr1.below hb4
  have hr2 := hr2.below hb4
  have hbl := chain hbl hb4
  go_wp2_with fail
  refine (refCrt a b _ H.out HG.out HL'.out).mono ?_
  rintro e w5 ⟨a5, cap5, rfl, hr5, hcap5, hb5⟩
  rw [L2.out]
  have hr1 := hr1.below hb5
  have hr2 := hr2.below hb5
  have hbl := chain hbl hb5
  go_wp2_with fail
  refine (ref3_SameT _ _ _ _ _ _ (crtL a b) (crtL a b) _ hr2 hr5 L2.out L2.out rfl).mono ?_
  rintro e w6 ⟨rfl, hb6⟩
  have hr1 := hr1.below hb6
  have hr2 := hr2.below hb6
  have hbl := chain hbl hb6
  go_wp2_with fail
  refine (refRight_yes _ _ _ (gooL a b) _ hr1 L1.out (by omega) (isPerm_goo a b HG.out)).mono ?_; rintro e w' ⟨rfl, rfl⟩
  go_wp2_with fail
  refine (refRight_yes _ _ _ (crtL a b) _ hr2 L2.out (by omega) (isPerm_crt a b HG.out)).mono ?_; rintro e w' ⟨rfl, rfl⟩
  go_wp2_with fail
  refine (live08 _).mono ?_
  rintro e w7 ⟨rfl, hb7⟩
  go_wp2_with fail
  go_ret
  exact ⟨rfl, chain hbl hb7⟩

theorem permCoprime_bad (a b er : Int) (w : World) (hne : (er != 0) = true) (hrange : 0 ≤ er ∧ er ≤ 9)
    (hs : (∀ w : World, Calls Try.prog 25 #[.int .i64 a, .int .i64 b] w fun e w' => e = .returned (.bool false) ∧ w = w') ∨
      ((∀ w : World, Calls Try.prog 25 #[.int .i64 a, .int .i64 b] w fun e w' => e = .returned (.bool true) ∧ w = w') ∧ ∃ N : Int, IntKind.i64.wrap (a * b) = N ∧ ¬ 400 < N))
    (hg : ∀ w : World, Calls Try.prog 27 #[.int .i64 a, .int .i64 b] w fun e w' => e = .returned (.tuple #[.slice none 0 0, .int .i64 er]) ∧ Below w.heap.size w w')
    (hc : ∀ w : World, Calls Try.prog 28 #[.int .i64 a, .int .i64 b] w fun e w' => e = .returned (.tuple #[.slice none 0 0, .int .i64 er]) ∧ Below w.heap.size w w')
    (hk : ∀ w : World, Calls Try.prog 29 #[.int .i64 a, .int .i64 b] w fun e w' => e = .returned (.int .i64 er) ∧ w = w') :
    Calls Try.prog 5 #[.int .i64 a, .int .i64 b] w fun e w' => e = .returned (.bool true) ∧ Below w.heap.size w w' := by
  have HG := Lib.hid hg
  have HC := Lib.hid hc
  have HK := Lib.hid hk
  have hwe : IntKind.i64.wrap er = er := IntWalk.i64_in _ (by omega)
  rcases hs with hs | ⟨hs, N, hN, hle⟩
  all_goals
    have HS := Lib.hid hs
    clear hs hg hc hk
    go_enter Try.func5, Try.ntmps5
    go_wp2_with fail
    refine (HS.out _).mono ?_; rintro e w' ⟨rfl, rfl⟩
    go_wp2_with fail
    refine (HG.out _).mono ?_
    rintro e w1 ⟨rfl, hb1⟩
    go_wp2_with fail
    refine (HC.out _).mono ?_
    rintro e w2 ⟨rfl, hb2⟩
    have hbl := chain hb1 hb2
    go_wp2_with fail
    refine (HK.out _).mono ?_; rintro e w' ⟨rfl, rfl⟩
    go_wp2_with fail
    refine (live08 _).mono ?_
    rintro e w7 ⟨rfl, hb7⟩
    go_wp2_with fail
    go_ret
    exact ⟨rfl, chain hbl hb7⟩

theorem permCoprimeW (a b : Int) (w : World) (ha : fits .i64 a) (hb : fits .i64 b) :
    Calls Try.prog 5 #[.int .i64 a, .int .i64 b] w fun e w' => e = .returned (.bool true) ∧ Below w.heap.size w w' := by
  have ha' := fits_i64.1 ha
  have hb' := fits_i64.1 hb
  by_cases h : Sides a b
  · obtain ⟨h1, h2, h3, h4, h5⟩ := h
    obtain ⟨n, rfl⟩ := Int.eq_ofNat_of_zero_le (show 0 ≤ a by omega)
    obtain ⟨m, rfl⟩ := Int.eq_ofNat_of_zero_le (show 0 ≤ b by omega)
    have h : Sides n m := ⟨h1, h2, h3, h4, h5⟩
    have h5' : n * m ≤ 16777216 := by rw [← Int.natCast_mul] at h5; omega
    have hw : IntKind.i64.wrap ((n : Int) * (m : Int)) = ((n * m : Nat) : Int) := by rw [← Int.natCast_mul]; exact IntWalk.i64_in _ (by omega)
    by_cases hl : n * m ≤ 400
    · by_cases hg : Nat.gcd n m = 1
      · exact permCoprime_law n m w h hl hg
      · exact permCoprime_bad n m 2 w (by decide) (by omega) (.inr ⟨fun w => refSides_yes _ _ w h, _, hw, by omega⟩)
          (fun w => permGood_err _ _ 2 w (by decide) (fun w => permCoprime_div n m w h hg))
          (fun w => permCrt_err _ _ 2 w (by decide) (fun w => permCoprime_div n m w h hg))
          (fun w => refCheck_yes n m w h 2 (fun e => absurd e hg) (fun _ => rfl))
    · have H := Lib.hid h
      obtain ⟨N, hN⟩ : ∃ N, n * m = N := ⟨_, rfl⟩
      rw [hN] at hw hl
      have hle : (400 : Int) < (N : Int) := by omega
      clear h hN h5 hl h5'
      go_enter Try.func5, Try.ntmps5
      go_wp2_with fail
      refine (refSides_yes _ _ _ H.out).mono ?_; rintro e w' ⟨rfl, rfl⟩
      go_wp2_with fail
      refine (live08 _).mono ?_
      rintro e w7 ⟨rfl, hb7⟩
      go_wp2_with fail
      go_ret
      exact ⟨rfl, hb7⟩
  · have HA : -9223372036854775808 ≤ a ∧ a ≤ 9223372036854775807 := by omega
    have HB : -9223372036854775808 ≤ b ∧ b ≤ 9223372036854775807 := by omega
    exact permCoprime_bad a b 3 w (by decide) (by omega) (.inl fun w => refSides_no a b w h HA HB)
      (fun w => permGood_err _ _ 3 w (by decide) (fun w => permCoprime_no a b w h HA HB))
      (fun w => permCrt_err _ _ 3 w (by decide) (fun w => permCoprime_no a b w h HA HB))
      (fun w => refCheck_no a b w h HA HB)
end Go.Proofs.Ytpehbgcbifgokaa
