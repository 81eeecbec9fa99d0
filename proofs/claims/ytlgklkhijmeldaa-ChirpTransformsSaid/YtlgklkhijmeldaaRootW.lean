/- The contracts of the roots (package root, dulcimerref04). -/
import Derived.Test.YtlgklkhijmeldaaRoots
import Derived.Test.YtlgklkhijmeldaaVecC
namespace Go.Proofs.Ytlgklkhijmeldaa
open Go.RowKit
set_option linter.unusedVariables false
set_option linter.unusedSimpArgs false
set_option maxRecDepth 100000

theorem quo_bd (n : Int) (h : 1 ≤ n) : 0 ≤ 18446744069414584320 / n ∧ 18446744069414584320 / n ≤ 18446744069414584320 :=
  ⟨Int.ediv_nonneg (by omega) (by omega), Int.ediv_le_self _ (by omega)⟩

theorem toNat_quo (n : Nat) : (18446744069414584320 / (n : Int)).toNat = rtExp n := by
  unfold rtExp
  have h : (18446744069414584320 / (n : Int)) = ((18446744069414584320 / n : Nat) : Int) := by rw [Int.natCast_ediv]; rfl
  rw [h, Int.toNat_natCast]

theorem rootHas_yes (n : Int) (w : World) (h : hasSz n = true) :
    Calls Try.prog 58 #[.int .i64 n] w fun e w' => e = .returned (.bool true) ∧ w = w' := by
  obtain ⟨h1, h2, h3⟩ := hasSz_iff.1 h
  have hz : (18446744069414584320 % n == 0) = true := btrue h3
  have h0 : (n == 0) = false := bno (by omega)
  clear h h3
  go_enter Try.func58, Try.ntmps58
  go_wp2_with fail
  go_ret
  exact ⟨rfl, rfl⟩

theorem rootHas_no (n : Int) (w : World) (h : hasSz n = false) (hn : -9223372036854775808 ≤ n ∧ n < 9223372036854775808) :
    Calls Try.prog 58 #[.int .i64 n] w fun e w' => e = .returned (.bool false) ∧ w = w' := by
  have hd : n < 1 ∨ (1 ≤ n ∧ 16777216 < n) ∨ (1 ≤ n ∧ n ≤ 16777216 ∧ 18446744069414584320 % n ≠ 0) := by
    have h' : ¬ (1 ≤ n ∧ n ≤ 16777216 ∧ 18446744069414584320 % n = 0) := by intro e; rw [hasSz_iff.2 e] at h; cases h
    by_cases a : 1 ≤ n
    · by_cases b : n ≤ 16777216
      · exact .inr (.inr ⟨a, b, fun e => h' ⟨a, b, e⟩⟩)
      · exact .inr (.inl ⟨a, by omega⟩)
    · exact .inl (by omega)
  clear h
  rcases hd with h1 | ⟨h1, h2⟩ | ⟨h1, h2, h3⟩
  · go_enter Try.func58, Try.ntmps58
    go_wp2_with fail
    go_ret
    exact ⟨rfl, rfl⟩
  · go_enter Try.func58, Try.ntmps58
    go_wp2_with fail
    go_ret
    exact ⟨rfl, rfl⟩
  · have hz : (18446744069414584320 % n == 0) = false := bno h3
    have h0 : (n == 0) = false := bno (by omega)
    clear h3
    go_enter Try.func58, Try.ntmps58
    go_wp2_with fail
    go_ret
    exact ⟨rfl, rfl⟩

theorem refHas_yes (n : Int) (w : World) (h : hasSz n = true) :
    Calls Try.prog 22 #[.int .i64 n] w fun e w' => e = .returned (.bool true) ∧ w = w' := by
  obtain ⟨h1, h2, h3⟩ := hasSz_iff.1 h
  have hz : (18446744069414584320 % n == 0) = true := btrue h3
  have h0 : (n == 0) = false := bno (by omega)
  clear h h3
  go_enter Try.func22, Try.ntmps22
  go_wp2_with fail
  go_ret
  exact ⟨rfl, rfl⟩

theorem refHas_no (n : Int) (w : World) (h : hasSz n = false) (hn : -9223372036854775808 ≤ n ∧ n < 9223372036854775808) :
    Calls Try.prog 22 #[.int .i64 n] w fun e w' => e = .returned (.bool false) ∧ w = w' := by
  have hd : n < 1 ∨ (1 ≤ n ∧ 16777216 < n) ∨ (1 ≤ n ∧ n ≤ 16777216 ∧ 18446744069414584320 % n ≠ 0) := by
    have h' : ¬ (1 ≤ n ∧ n ≤ 16777216 ∧ 18446744069414584320 % n = 0) := by intro e; rw [hasSz_iff.2 e] at h; cases h
    by_cases a : 1 ≤ n
    · by_cases b : n ≤ 16777216
      · exact .inr (.inr ⟨a, b, fun e => h' ⟨a, b, e⟩⟩)
      · exact .inr (.inl ⟨a, by omega⟩)
    · exact .inl (by omega)
  clear h
  rcases hd with h1 | ⟨h1, h2⟩ | ⟨h1, h2, h3⟩
  · go_enter Try.func22, Try.ntmps22
    go_wp2_with fail
    go_ret
    exact ⟨rfl, rfl⟩
  · go_enter Try.func22, Try.ntmps22
    go_wp2_with fail
    go_ret
    exact ⟨rfl, rfl⟩
  · have hz : (18446744069414584320 % n == 0) = false := bno h3
    have h0 : (n == 0) = false := bno (by omega)
    clear h3
    go_enter Try.func22, Try.ntmps22
    go_wp2_with fail
    go_ret
    exact ⟨rfl, rfl⟩

set_option maxHeartbeats 400000 in
theorem rootRoot_yes (n : Nat) (w : World) (h : hasSz n = true) :
    Calls Try.prog 53 #[.int .i64 n] w fun e w' => e = .returned (.tuple #[.int .u64 (rt n), .int .i64 0]) ∧ w = w' := by
  obtain ⟨h1, h2, h3⟩ := hasSz_iff.1 h
  have hq := quo_bd (n : Int) h1
  have h0 : ((n : Int) == 0) = false := bno (by omega)
  have ht := Lib.hid (toNat_quo n)
  have H := Lib.hid h
  clear h h3
  go_enter Try.func53, Try.ntmps53
  go_wp2_with fail
  refine (rootHas_yes _ _ H.out).mono ?_; rintro e w' ⟨rfl, rfl⟩
  go_wp2_with (go_at_call 78; refine (gold_Pow _ _ _ (by omega) (by omega) (by omega) (by omega)).mono ?_; rintro e w' ⟨rfl, rfl⟩)
  go_ret2
  exact ⟨by rw [ht.out]; rfl, rfl⟩

theorem rootRoot_no (n : Int) (w : World) (h : hasSz n = false) (hn : -9223372036854775808 ≤ n ∧ n < 9223372036854775808) :
    Calls Try.prog 53 #[.int .i64 n] w fun e w' => e = .returned (.tuple #[.int .u64 0, .int .i64 4]) ∧ w = w' := by
  have H := Lib.hid h
  clear h
  go_enter Try.func53, Try.ntmps53
  go_wp2_with fail
  refine (rootHas_no _ _ H.out hn).mono ?_; rintro e w' ⟨rfl, rfl⟩
  go_wp2_with fail
  go_ret2
  exact ⟨rfl, rfl⟩

theorem rootBack_yes (n : Nat) (w : World) (h : hasSz n = true) :
    Calls Try.prog 54 #[.int .i64 n] w fun e w' => e = .returned (.tuple #[.int .u64 (bk n), .int .i64 0]) ∧ w = w' := by
  have H := Lib.hid h
  have hr := rt_range n
  clear h
  go_enter Try.func54, Try.ntmps54
  go_wp2_with fail
  refine (rootRoot_yes _ _ H.out).mono ?_; rintro e w' ⟨rfl, rfl⟩
  go_wp2_with (go_at_call 64; refine (gold_Inv _ _ (by omega) (by omega)).mono ?_; rintro e w' ⟨rfl, rfl⟩)
  go_ret2
  exact ⟨rfl, rfl⟩

set_option maxHeartbeats 400000 in
theorem refRoot (n : Nat) (w : World) (h1 : 1 ≤ n) (h2 : n ≤ 16777216) :
    Calls Try.prog 80 #[.int .i64 n] w fun e w' => e = .returned (.int .u64 (rt n)) ∧ w = w' := by
  have hq := quo_bd (n : Int) (by omega)
  have h0 : ((n : Int) == 0) = false := bno (by omega)
  have ht := Lib.hid (toNat_quo n)
  go_enter Try.func80, Try.ntmps80
  go_wp2_with (go_at_call 62; refine (ref_Pow _ _ _ (by omega) (by omega) (by omega) (by omega)).mono ?_; rintro e w' ⟨rfl, rfl⟩)
  go_ret
  exact ⟨by rw [ht.out]; rfl, rfl⟩

set_option maxHeartbeats 400000 in
theorem refBack (n : Nat) (w : World) (h1 : 1 ≤ n) (h2 : n ≤ 16777216) :
    Calls Try.prog 79 #[.int .i64 n] w fun e w' => e = .returned (.int .u64 (pw (rt n) (n - 1))) ∧ w = w' := by
  have hr := rt_range n
  have ht : Hid (((n : Int) - 1).toNat = n - 1) := by unfold Hid; omega
  go_enter Try.func79, Try.ntmps79
  go_wp2_with fail
  refine (refRoot n _ h1 h2).mono ?_; rintro e w' ⟨rfl, rfl⟩
  go_wp2_with (go_at_call 62; refine (ref_Pow _ _ _ (by omega) (by omega) (by omega) (by omega)).mono ?_; rintro e w' ⟨rfl, rfl⟩)
  go_ret
  exact ⟨by first | rfl | rw [ht.out], rfl⟩

theorem refDir (n : Nat) (d : Int) (w : World) (h : hasSz n = true) (hd : -9223372036854775808 ≤ d ∧ d < 9223372036854775808) :
    Calls Try.prog 57 #[.int .i64 n, .int .i64 d] w fun e w' => e = .returned (.int .u64 (dirRt n d)) ∧ w = w' := by
  obtain ⟨h1, h2, h3⟩ := hasSz_iff.1 h
  have hb := Lib.hid (bk_last n h)
  clear h h3
  by_cases hd1 : d = 1
  · subst hd1
    go_enter Try.func57, Try.ntmps57
    go_wp2_with fail
    refine (refBack n _ (by omega) (by omega)).mono ?_; rintro e w' ⟨rfl, rfl⟩
    go_wp2_with fail
    go_ret
    exact ⟨by rw [← hb.out]; rfl, rfl⟩
  · have hdb : (d == 1) = false := bno hd1
    have H1 := Lib.hid hd1
    clear hd1
    go_enter Try.func57, Try.ntmps57
    go_wp2_with fail
    refine (refRoot n _ (by omega) (by omega)).mono ?_; rintro e w' ⟨rfl, rfl⟩
    go_wp2_with fail
    go_ret
    exact ⟨ret_int (by unfold dirRt; rw [if_neg H1.out]), rfl⟩

def powL (a : Int) (n : Nat) : List Int := (List.range n).map fun i => pw a i
theorem powL_len (a : Int) (n : Nat) : (powL a n).length = n := by simp [powL]
theorem powL_fits (a : Int) (n : Nat) : ∀ x ∈ powL a n, fits .u64 x := by
  intro x hx; obtain ⟨i, _, rfl⟩ := List.mem_map.1 hx
  have := pw_range a i
  exact fits_u64.2 (by omega)
theorem pw_succ (a : Int) (i : Nat) : pw a i * a % 18446744069414584321 = pw a (i + 1) := by
  unfold pw; rw [modmul_l, ← Int.pow_succ]
theorem pw_0 (a : Int) : pw a 0 = 1 := by unfold pw; simp

set_option maxHeartbeats 400000 in
theorem refPowers (a : Int) (n : Nat) (w : World) (h0 : 0 ≤ a) (h1 : a < 18446744069414584321) (hn : n ≤ 16777216) :
    Calls Try.prog 56 #[.int .u64 a, .int .i64 n] w (GivesRow .u64 (powL a n) w) := by
  obtain ⟨i0, hi, hz0, hz1, hz2⟩ := info_parts info_u64
  go_enter Try.func56, Try.ntmps56
  go_wp2_with fail
  go_loopw [5, 6, 7] (fun v p i wr => ∃ (k : Nat) (t : Int), k ≤ n ∧ i = .int .i64 k ∧ p = .int .u64 t ∧ 0 ≤ t ∧ t < 18446744069414584321 ∧ Hid (t = pw a k) ∧ Own .u64 45 w wr v k (fun j => pw a j)) (fun _ _ i _ => n - (intOf i).toNat)
  case atStart => exact ⟨0, 1, Nat.zero_le _, rfl, rfl, by omega, by omega, (pw_0 a).symm, Own.nil _ _ _ _⟩
  case round =>
    obtain ⟨k, t, hk, rfl, rfl, ht0, ht1, H, hown⟩ := hrel
    by_cases hlt : k < n
    · go_wp2_with (first | (go_at_call 41; refine (ref_Mul _ _ _ (by omega) (by omega) (by omega) (by omega)).mono ?_; rintro e w' ⟨rfl, rfl⟩) | (at_builtin; refine wpList_append_own _ rfl _ _ 22 rfl w.heap.size 45 i0 (.int .u64 0) 1 8 Try.underlying22 hi hz0 hz1 hz2 rfl (by decide) _ _ _ rfl (hown.own.alloc _) ⟨wr.heap.size, 0, none⟩ 1 1 [.int .u64 t] rfl rfl (cell_one_new _ _ _) (one_cell _ _) (by unfold maxLen; omega) (by omega) (size_alloc_le hown.below _) ?_))
      intro v' w1 hown' hgrow _
      have hnext := hown.push _ H.out hown' hgrow
      clear hown' hgrow
      go_wp2_with (go_at_call 41; refine (ref_Mul _ _ _ (by omega) (by omega) (by omega) (by omega)).mono ?_; rintro e w' ⟨rfl, rfl⟩)
      go_roundw
      case rel => exact ⟨k + 1, _, by omega, by go_num, rfl, by omega, by omega, by have := H.out; unfold Hid; rw [this, pw_succ], hnext⟩
      case measure => simp [intOf]; omega
    · have hres := hown.gives (xs := powL a n) (by rw [powL_len]; omega) (powL_fits a n) (fun i hi => nth_ofFn _ _ _ (by omega)) (by omega)
      clear hown
      go_wp2_with fail
      go_ret
      exact hres
end Go.Proofs.Ytlgklkhijmeldaa
