/- The contracts of the plain transform: the checks, the transform, what undoes it. -/
import Derived.Test.YtfoodnmcilogjaaDftA
namespace Go.Proofs.Ytfoodnmcilogjaa
open Go.RowKit Sm
set_option linter.unusedVariables false
set_option linter.unusedSimpArgs false

/-- What is wrong with a size and a direction. -/
def chk (n d : Int) : Int := if d < 0 ∨ 1 < d then 2 else if hasSz n = false then 4 else if 4096 < n then 12 else 0

theorem dftCheck_ok (n : Nat) (d : Int) (w : World) (h : hasSz n = true) (hn : n ≤ 4096) (hd : d = 0 ∨ d = 1) :
    Calls Try.prog 80 #[.int .i64 n, .int .i64 d] w fun e w' => e = .returned (.tuple #[.int .u64 (dirRt n d), .int .i64 0]) ∧ w = w' := by
  have H := Lib.hid h
  clear h
  rcases hd with rfl | rfl
  · go_enter Try.func80, Try.ntmps80
    go_wp2_with fail
    refine (rootHas_yes _ _ H.out).mono ?_; rintro e w' ⟨rfl, rfl⟩
    go_wp2_with fail
    refine (rootRoot_yes _ _ H.out).mono ?_; rintro e w' ⟨rfl, rfl⟩
    go_wp2_with fail
    go_ret2
    exact ⟨rfl, rfl⟩
  · go_enter Try.func80, Try.ntmps80
    go_wp2_with fail
    refine (rootHas_yes _ _ H.out).mono ?_; rintro e w' ⟨rfl, rfl⟩
    go_wp2_with fail
    refine (rootBack_yes _ _ H.out).mono ?_; rintro e w' ⟨rfl, rfl⟩
    go_wp2_with fail
    go_ret2
    exact ⟨rfl, rfl⟩

theorem dftCheck_no (n d : Int) (w : World) (h : chk n d ≠ 0) (hn : -9223372036854775808 ≤ n ∧ n < 9223372036854775808) (hd : -9223372036854775808 ≤ d ∧ d < 9223372036854775808) :
    Calls Try.prog 80 #[.int .i64 n, .int .i64 d] w fun e w' => e = .returned (.tuple #[.int .u64 0, .int .i64 (chk n d)]) ∧ w = w' := by
  by_cases h1 : d < 0 ∨ 1 < d
  · have e1 : chk n d = 2 := by unfold chk; rw [if_pos h1]
    rw [e1]
    clear h e1
    rcases (show d < 0 ∨ (0 ≤ d ∧ 1 < d) by omega) with h2 | ⟨h2, h3⟩
    all_goals
      clear h1
      go_enter Try.func80, Try.ntmps80
      go_wp2_with fail
      go_ret2
      exact ⟨rfl, rfl⟩
  · have hd0 : 0 ≤ d ∧ d ≤ 1 := by omega
    by_cases h2 : hasSz n = false
    · have e1 : chk n d = 4 := by unfold chk; rw [if_neg h1, if_pos h2]
      rw [e1]
      have H := Lib.hid h2
      clear h e1 h1 h2
      go_enter Try.func80, Try.ntmps80
      go_wp2_with fail
      refine (rootHas_no _ _ H.out hn).mono ?_; rintro e w' ⟨rfl, rfl⟩
      go_wp2_with fail
      go_ret2
      exact ⟨rfl, rfl⟩
    · have h3 : 4096 < n := by
        by_cases h4 : 4096 < n
        · exact h4
        · exact absurd (by unfold chk; rw [if_neg h1, if_neg h2, if_neg h4]) h
      have e1 : chk n d = 12 := by unfold chk; rw [if_neg h1, if_neg h2, if_pos h3]
      rw [e1]
      have H := Lib.hid (show hasSz n = true by cases hh : hasSz n; exact absurd hh h2; rfl)
      clear h e1 h1 h2
      go_enter Try.func80, Try.ntmps80
      go_wp2_with fail
      refine (rootHas_yes _ _ H.out).mono ?_; rintro e w' ⟨rfl, rfl⟩
      go_wp2_with fail
      go_ret2
      exact ⟨rfl, rfl⟩

theorem chk_ok {n d : Int} (h : chk n d = 0) : (d = 0 ∨ d = 1) ∧ hasSz n = true ∧ n ≤ 4096 := by
  unfold chk at h
  by_cases h1 : d < 0 ∨ 1 < d
  · rw [if_pos h1] at h; omega
  · rw [if_neg h1] at h
    by_cases h2 : hasSz n = false
    · rw [if_pos h2] at h; omega
    · rw [if_neg h2] at h
      by_cases h3 : 4096 < n
      · rw [if_pos h3] at h; omega
      · exact ⟨by omega, by cases hh : hasSz n; exact absurd hh h2; rfl, by omega⟩

theorem chk_mk {n d : Int} (hd : d = 0 ∨ d = 1) (hs : hasSz n = true) (hn : n ≤ 4096) : chk n d = 0 := by
  unfold chk; rw [if_neg (by omega), if_neg (by rw [hs]; simp), if_neg (by omega)]

set_option maxHeartbeats 400000 in
theorem refCheck (n d : Int) (w : World) (hn : -9223372036854775808 ≤ n ∧ n < 9223372036854775808) (hd : -9223372036854775808 ≤ d ∧ d < 9223372036854775808) :
    Calls Try.prog 51 #[.int .i64 n, .int .i64 d] w fun e w' => e = .returned (.int .i64 (chk n d)) ∧ w = w' := by
  by_cases h1 : d < 0 ∨ 1 < d
  · have e1 : chk n d = 2 := by unfold chk; rw [if_pos h1]
    rw [e1]
    have b1 : (d != 0) = true := by simp; omega
    have b2 : (d != 1) = true := by simp; omega
    clear e1 h1
    go_enter Try.func51, Try.ntmps51
    go_wp2_with fail
    go_ret
    exact ⟨rfl, rfl⟩
  · have hd0 : d = 0 ∨ d = 1 := by omega
    by_cases h2 : hasSz n = false
    · have e1 : chk n d = 4 := by unfold chk; rw [if_neg h1, if_pos h2]
      rw [e1]
      have H := Lib.hid h2
      clear e1 h1 h2
      rcases hd0 with rfl | rfl
      all_goals
        go_enter Try.func51, Try.ntmps51
        go_wp2_with fail
        refine (refHas_no _ _ H.out hn).mono ?_; rintro e w' ⟨rfl, rfl⟩
        go_wp2_with fail
        go_ret
        exact ⟨rfl, rfl⟩
    · have H := Lib.hid (show hasSz n = true by cases hh : hasSz n; exact absurd hh h2; rfl)
      have h3 : 4096 < n ∧ chk n d = 12 ∨ n ≤ 4096 ∧ chk n d = 0 := by
        unfold chk; rw [if_neg h1, if_neg h2]
        by_cases h4 : 4096 < n
        · left; exact ⟨h4, if_pos h4⟩
        · right; exact ⟨by omega, if_neg h4⟩
      clear h1 h2
      rcases h3 with ⟨h3, e1⟩ | ⟨h3, e1⟩
      all_goals
        rw [e1]
        clear e1
        rcases hd0 with rfl | rfl
        all_goals
          go_enter Try.func51, Try.ntmps51
          go_wp2_with fail
          refine (refHas_yes _ _ H.out).mono ?_; rintro e w' ⟨rfl, rfl⟩
          go_wp2_with fail
          go_ret
          exact ⟨rfl, rfl⟩

def dftL (xs : List Int) (z : Int) : List Int := (List.range xs.length).map fun k => pt xs (pw z k)
theorem dftL_len (xs : List Int) (z : Int) : (dftL xs z).length = xs.length := by simp [dftL]
theorem dftL_fits (xs : List Int) (z : Int) : ∀ x ∈ dftL xs z, fits .u64 x := by
  intro x hx; obtain ⟨i, _, rfl⟩ := List.mem_map.1 hx
  have := pt_range xs (pw z i)
  exact fits_u64.2 (by omega)

set_option maxHeartbeats 400000 in
theorem sumsAt (a : Option Addr) (cap : Nat) (xs : List Int) (z : Int) (k : Nat) (w : World) (hx : Row .u64 w a xs) (hl : xs.length ≤ 16777216) (hk : k ≤ 16777216) (hz0 : 0 ≤ z) (hz1 : z < 18446744073709551616) :
    Calls Try.prog 81 #[.agg #[.slice a xs.length cap, .int .u64 z], .int .i64 k] w fun e w' => e = .returned (.int .u64 (pt xs (pw z k))) ∧ Below w.heap.size w w' := by
  have HX := Lib.hid hx
  clear hx
  go_enter Try.func81, Try.ntmps81
  go_wp2_with fail
  refine (dftPoint a _ cap xs z k _ (HX.out.below ((Below.refl _ _).alloc (Nat.le_refl _) _)) rfl hl (by omega) hz0 hz1).mono ?_
  rintro e w' ⟨rfl, hb⟩
  go_wp2_with fail
  go_ret
  exact ⟨by simp, chainA (Below.refl _ _) hb⟩

set_option maxHeartbeats 800000 in
theorem dftDft_ok (a : Option Addr) (n cap : Nat) (xs : List Int) (d : Int) (w : World) (hx : Row .u64 w a xs) (hn : xs.length = n) (hs : hasSz n = true) (hl : n ≤ 4096) (hd : d = 0 ∨ d = 1) :
    Calls Try.prog 53 #[.slice a n cap, .int .i64 d] w (GivesRowE .u64 (dftL xs (dirRt n d)) 0 w) := by
  obtain ⟨i0, hi, hz0, hz1, hz2⟩ := info_parts info_u64
  have hz := dirRt_range n d
  have HX := Lib.hid hx
  have HN := Lib.hid hn
  have HS := Lib.hid hs
  have HD := Lib.hid hd
  have hnn : xs.length ≤ 4096 := by omega
  clear hx hn hs hd
  go_enter Try.func53, Try.ntmps53
  go_wp2_with fail
  refine (dftCheck_ok n d _ HS.out hl HD.out).mono ?_; rintro e w' ⟨rfl, rfl⟩
  obtain ⟨z, hzz⟩ : ∃ z, dirRt n d = z := ⟨_, rfl⟩
  rw [hzz] at hz ⊢
  have HZ := Lib.hid hzz
  clear hzz
  go_wp2_with (at_make; refine wpList_make_full _ rfl _ _ 22 rfl w.heap.size 28 i0 (.int .u64 0) 1 Try.underlying22 hi hz0 hz1 .i64 .i64 n n n rfl rfl rfl rfl (by rw [hz2]; omega) (by unfold maxLen; omega) (Nat.le_refl _) ?_)
  intro w1 hown0 hgrow0
  have hown := Own.made hown0 hgrow0
  clear hown0 hgrow0
  go_wp2_with fail
  go_loopw [30] (fun i wr => ∃ k : Nat, k ≤ n ∧ i = .int .i64 k ∧ OwnAt .u64 28 w wr w.heap.size n (fun j => if j < k then pt xs (pw z j) else 0)) (fun i _ => n - (intOf i).toNat)
  case atStart => exact ⟨0, Nat.zero_le _, rfl, by simpa using hown⟩
  case round =>
    obtain ⟨k, hk, rfl, hown⟩ := hrel
    by_cases hlt : k < n
    · have hcall : Calls Try.prog 81 #[.agg #[.slice a n cap, .int .u64 z], .int .i64 k] wr fun e w' => e = .returned (.int .u64 (pt xs (pw z k))) ∧ Below wr.heap.size wr w' := by
        have h := sumsAt a cap xs z k wr (HX.out.below hown.below) (by omega) (by omega) (by omega) (by omega)
        rw [HN.out] at h
        exact h
      have HC := Lib.hid hcall
      clear hcall
      go_wp2_with fail
      refine HC.out.mono ?_
      rintro e w' ⟨rfl, hb'⟩
      have hown2 := hown.later hb'
      have hc := hown2.cell k hlt
      rw [if_neg (Nat.lt_irrefl k)] at hc
      have hfz := hown2.free k
      have hnext := hown2.store k hlt (pt xs (pw z k)) (f' := fun j => if j < k + 1 then pt xs (pw z j) else 0) (by simp) (fun j _ hj => by
        by_cases h1 : j < k
        · simp [h1, show j < k + 1 by omega]
        · simp [h1, show ¬ j < k + 1 by omega])
      have HN2 := Lib.hid hnext
      clear hnext hown hown2 hb'
      go_wp2_with fail
      go_roundw
      case rel => exact ⟨k + 1, by omega, by go_num, HN2.out⟩
      case measure => simp [intOf]; omega
    · have hrow := OwnAt.row hown (xs := dftL xs z) (by rw [dftL_len]; exact HN.out) (dftL_fits xs z) (fun i hi => by unfold dftL; rw [nth_ofFn _ _ _ (by have := HN.out; omega), if_pos (by omega)]) (by omega)
      have hb := hown.below
      have HR := Lib.hid hrow
      clear hown hrow
      go_wp2_with fail
      go_ret2
      exact ⟨some ⟨w.heap.size, 0, none⟩, n, by simp [dftL_len, HN.out], by rw [HZ.out]; exact HR.out, ⟨by simp [dftL_len, HN.out], fun h => by cases h⟩, hb⟩

theorem dftDft_no (a : Option Addr) (n cap : Nat) (d : Int) (w : World) (h : chk n d ≠ 0) (hl : n < 9223372036854775808) (hd : -9223372036854775808 ≤ d ∧ d < 9223372036854775808) :
    Calls Try.prog 53 #[.slice a n cap, .int .i64 d] w fun e w' => e = .returned (.tuple #[.slice none 0 0, .int .i64 (chk n d)]) ∧ w = w' := by
  have H := Lib.hid h
  have hne : (chk n d != 0) = true := by simp [h]
  clear h
  go_enter Try.func53, Try.ntmps53
  go_wp2_with fail
  refine (dftCheck_no n d _ H.out (by omega) hd).mono ?_; rintro e w' ⟨rfl, rfl⟩
  go_wp2_with fail
  go_ret2
  exact ⟨rfl, rfl⟩
end Go.Proofs.Ytfoodnmcilogjaa
