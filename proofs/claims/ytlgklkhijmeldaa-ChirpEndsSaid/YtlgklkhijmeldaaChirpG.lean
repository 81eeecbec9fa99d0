/- The reference's ends; the law of ends. -/
import Derived.Test.YtlgklkhijmeldaaChirpF
namespace Go.Proofs.Ytlgklkhijmeldaa
open Go.RowKit Sm
set_option linter.unusedVariables false
set_option linter.unusedSimpArgs false
set_option maxRecDepth 100000

set_option maxHeartbeats 1000000 in
theorem refFore (a : Option Addr) (n c : Nat) (d : Int) (xs : List Int) (w : World) (hx : Row .u64 w a xs) (hxl : xs.length = n) (h : hasSz n = true) (hd : d = 0 ∨ d = 1) :
    Calls Try.prog 33 #[.slice a n c, .int .i64 d] w (GivesRow .u64 (foreL xs (dirBk n d) n) w) := by
  obtain ⟨i0, hi, hz0, hz1, hz2⟩ := info_parts info_u64
  obtain ⟨h1, h2, _⟩ := hasSz_iff.1 h
  have hn2 : n ≤ 16777216 := by omega
  have C1 : Hid (∀ (k : Nat) (w : World), k ≤ 16777216 → Calls Try.prog 66 #[.int .i64 n, .int .i64 d, .int .i64 k] w fun e w' => e = .returned (.int .u64 (pw (dirBk n d) (triN n k))) ∧ w = w') := fun k w hk => ref_turn n k d w h hd hk
  obtain ⟨u, hu⟩ : ∃ u, dirBk n d = u := ⟨_, rfl⟩
  rw [hu] at C1 ⊢
  have HX := Lib.hid hx
  have HN := Lib.hid hxl
  clear hu h hd h1 h2 hx hxl
  go_enter Try.func33, Try.ntmps33
  go_wp2_with fail
  go_loopw [5, 7] (fun v i wr => ∃ k : Nat, k ≤ n ∧ i = .int .i64 k ∧ Own .u64 45 w wr v k (fun i => nth xs (n - 1 - i) * pw u (triN n (n - 1 - i)) % 18446744069414584321)) (fun _ i _ => n - (intOf i).toNat)
  case atStart => exact ⟨0, Nat.zero_le _, rfl, Own.nil _ _ _ _⟩
  case round =>
    obtain ⟨k, hk, rfl, hown⟩ := hrel
    by_cases hlt : k < n
    · obtain ⟨s, hs⟩ : ∃ s : Nat, n - 1 - k = s := ⟨_, rfl⟩
      have hs1 : (n : Int) - 1 - (k : Int) = (s : Int) := by omega
      have hsn : s < n := by omega
      obtain ⟨xb, xo, rfl, hcx⟩ := (HX.out.below hown.below).at (by rw [HN.out]; omega)
      have hxk := hcx s (by rw [HN.out]; exact hsn)
      have hxf := fits_u64.1 (HX.out.wf _ (nth_mem (show s < xs.length by rw [HN.out]; exact hsn)))
      have HPW : Hid (nth xs s % 18446744069414584321 * pw u (triN n s) % 18446744069414584321 = (fun i => nth xs (n - 1 - i) * pw u (triN n (n - 1 - i)) % 18446744069414584321) k) := by
        show _ = nth xs (n - 1 - k) * pw u (triN n (n - 1 - k)) % 18446744069414584321
        rw [hs]; exact modmul_l _ _ _
      have CT := Lib.hid (fun w => C1.out s w (by omega))
      have hpr := pw_range u (triN n s)
      obtain ⟨x, hxx⟩ : ∃ x, nth xs s = x := ⟨_, rfl⟩
      obtain ⟨y, hyy⟩ : ∃ y, pw u (triN n s) = y := ⟨_, rfl⟩
      rw [hxx] at hxk hxf HPW
      rw [hyy] at hpr HPW CT
      clear hcx hs hxx hyy
      go_wp2_with (go_at_call 42; refine (ref_Red _ _ (by omega) (by omega)).mono ?_; rintro e w' ⟨rfl, rfl⟩)
      refine (CT.out _).mono ?_; rintro e w' ⟨rfl, rfl⟩
      go_wp2_with (first | (go_at_call 41; refine (ref_Mul _ _ _ (by omega) (by omega) (by omega) (by omega)).mono ?_; rintro e w' ⟨rfl, rfl⟩) | (at_builtin; refine wpList_append_own _ rfl _ _ 22 rfl w.heap.size 45 i0 (.int .u64 0) 1 8 Try.underlying22 hi hz0 hz1 hz2 rfl (by decide) _ _ _ rfl (hown.own.alloc _) ⟨wr.heap.size, 0, none⟩ 1 1 [.int .u64 (x % 18446744069414584321 * y % 18446744069414584321)] rfl rfl (cell_one_new _ _ _) (one_cell _ _) (by unfold maxLen; omega) (by omega) (size_alloc_le hown.below _) ?_))
      intro v' w1 hown' hgrow _
      have hnext := hown.push (x % 18446744069414584321 * y % 18446744069414584321) HPW.out hown' hgrow
      clear hown' hgrow
      go_wp2_with fail
      go_roundw
      case rel => exact ⟨k + 1, by omega, by go_num, hnext⟩
      case measure => simp [intOf]; omega
    · have hk' : k = n := by omega
      have hres := hown.gives (xs := foreL xs u n) (by rw [foreL_len]; omega) (foreL_fits xs u n) (fun i hi => nth_foreL _ _ _ _ (by omega)) (by omega)
      clear hown
      go_wp2_with fail
      go_ret
      exact hres

set_option maxHeartbeats 1000000 in
theorem refAft (a : Option Addr) (n L c : Nat) (d : Int) (cs : List Int) (w : World) (hx : Row .u64 w a cs) (hxl : cs.length = L) (hl : 2 * n - 1 ≤ L) (hL : L ≤ 33554432) (h : hasSz n = true) (hd : d = 0 ∨ d = 1) :
    Calls Try.prog 34 #[.slice a L c, .int .i64 n, .int .i64 d] w (GivesRow .u64 (aftL cs (dirBk n d) n) w) := by
  obtain ⟨i0, hi, hz0, hz1, hz2⟩ := info_parts info_u64
  obtain ⟨h1, h2, _⟩ := hasSz_iff.1 h
  have hn2 : n ≤ 16777216 := by omega
  have C1 : Hid (∀ (k : Nat) (w : World), k ≤ 16777216 → Calls Try.prog 66 #[.int .i64 n, .int .i64 d, .int .i64 k] w fun e w' => e = .returned (.int .u64 (pw (dirBk n d) (triN n k))) ∧ w = w') := fun k w hk => ref_turn n k d w h hd hk
  obtain ⟨u, hu⟩ : ∃ u, dirBk n d = u := ⟨_, rfl⟩
  rw [hu] at C1 ⊢
  have HX := Lib.hid hx
  have HN := Lib.hid hxl
  have HL2 := Lib.hid hl
  clear hu h hd h1 h2 hx hxl hl
  go_enter Try.func34, Try.ntmps34
  go_wp2_with fail
  go_loopw [7, 8] (fun v i wr => ∃ k : Nat, k ≤ n ∧ i = .int .i64 k ∧ Own .u64 45 w wr v k (fun j => nth cs (n - 1 + j) * pw u (triN n j) % 18446744069414584321)) (fun _ i _ => n - (intOf i).toNat)
  case atStart => exact ⟨0, Nat.zero_le _, rfl, Own.nil _ _ _ _⟩
  case round =>
    obtain ⟨k, hk, rfl, hown⟩ := hrel
    by_cases hlt : k < n
    · obtain ⟨s, hs⟩ : ∃ s : Nat, n - 1 + k = s := ⟨_, rfl⟩
      have hs1 : (n : Int) - 1 + (k : Int) = (s : Int) := by omega
      have hsn : s < L := by have := HL2.out; omega
      obtain ⟨xb, xo, rfl, hcx⟩ := (HX.out.below hown.below).at (by rw [HN.out]; omega)
      have hxk := hcx s (by rw [HN.out]; exact hsn)
      have hxf := fits_u64.1 (HX.out.wf _ (nth_mem (show s < cs.length by rw [HN.out]; exact hsn)))
      have HPW : Hid (nth cs s % 18446744069414584321 * pw u (triN n k) % 18446744069414584321 = (fun j => nth cs (n - 1 + j) * pw u (triN n j) % 18446744069414584321) k) := by
        show _ = nth cs (n - 1 + k) * pw u (triN n k) % 18446744069414584321
        rw [hs]; exact modmul_l _ _ _
      have CT := Lib.hid (fun w => C1.out k w (by omega))
      have hpr := pw_range u (triN n k)
      obtain ⟨x, hxx⟩ : ∃ x, nth cs s = x := ⟨_, rfl⟩
      obtain ⟨y, hyy⟩ : ∃ y, pw u (triN n k) = y := ⟨_, rfl⟩
      rw [hxx] at hxk hxf HPW
      rw [hyy] at hpr HPW CT
      clear hcx hs hxx hyy
      go_wp2_with (go_at_call 42; refine (ref_Red _ _ (by omega) (by omega)).mono ?_; rintro e w' ⟨rfl, rfl⟩)
      refine (CT.out _).mono ?_; rintro e w' ⟨rfl, rfl⟩
      go_wp2_with (first | (go_at_call 41; refine (ref_Mul _ _ _ (by omega) (by omega) (by omega) (by omega)).mono ?_; rintro e w' ⟨rfl, rfl⟩) | (at_builtin; refine wpList_append_own _ rfl _ _ 22 rfl w.heap.size 45 i0 (.int .u64 0) 1 8 Try.underlying22 hi hz0 hz1 hz2 rfl (by decide) _ _ _ rfl (hown.own.alloc _) ⟨wr.heap.size, 0, none⟩ 1 1 [.int .u64 (x % 18446744069414584321 * y % 18446744069414584321)] rfl rfl (cell_one_new _ _ _) (one_cell _ _) (by unfold maxLen; omega) (by omega) (size_alloc_le hown.below _) ?_))
      intro v' w1 hown' hgrow _
      have hnext := hown.push (x % 18446744069414584321 * y % 18446744069414584321) HPW.out hown' hgrow
      clear hown' hgrow
      go_wp2_with fail
      go_roundw
      case rel => exact ⟨k + 1, by omega, by go_num, hnext⟩
      case measure => simp [intOf]; omega
    · have hk' : k = n := by omega
      have hres := hown.gives (xs := aftL cs u n) (by rw [aftL_len]; omega) (aftL_fits cs u n) (fun i hi => nth_aftL _ _ _ _ (by omega)) (by omega)
      clear hown
      go_wp2_with fail
      go_ret
      exact hres

/-! ### The law of ends -/
/-- What refuses: the program's error is the reference's. -/
def ForeNo (a : Option Addr) (N c : Nat) (d ef : Int) : Prop := 0 < ef ∧ ef < 10 ∧
  (∀ w : World, Calls Try.prog 31 #[.slice a N c, .int .i64 d] w fun e w' => e = .returned (.tuple #[.slice none 0 0, .int .i64 ef]) ∧ w = w') ∧
  (∀ w : World, Calls Try.prog 25 #[.int .i64 N, .int .i64 d] w fun e w' => e = .returned (.int .i64 ef) ∧ w = w')
def AftNo (a : Option Addr) (N c : Nat) (n d eg : Int) : Prop := 0 < eg ∧ eg < 10 ∧
  (∀ w : World, Calls Try.prog 32 #[.slice a N c, .int .i64 n, .int .i64 d] w fun e w' => e = .returned (.tuple #[.slice none 0 0, .int .i64 eg]) ∧ w = w') ∧
  (∀ w : World, Calls Try.prog 25 #[.int .i64 n, .int .i64 d] w fun e w' => e = .returned (.int .i64 eg) ∧ w = w')

theorem chirpEnds_big (a : Option Addr) (N c : Nat) (n d : Int) (w : World) (h : 120 < N ∨ 60 < n) (hN : N ≤ 9223372036854775807) :
    Calls Try.prog 7 #[.slice a N c, .int .i64 n, .int .i64 d] w fun e w' => e = .returned (.bool true) ∧ Below w.heap.size w w' := by
  rcases (show 120 < N ∨ (N ≤ 120 ∧ 60 < n) by omega) with h1 | ⟨h1, h2⟩
  all_goals
    clear h
    go_enter Try.func7, Try.ntmps7
    go_wp2_with fail
    refine (live12 _).mono ?_; rintro e w' ⟨rfl, rfl⟩
    go_wp2_with fail
    go_ret
    exact ⟨rfl, Below.refl _ _⟩

set_option maxHeartbeats 1000000 in
theorem chirpEnds_no_no (a : Option Addr) (N c : Nat) (d : Int) (w : World) (hN : N ≤ 120) (ef : Int) (hF : ForeNo a N c d ef) (n eg : Int) (hn0 : -9223372036854775808 ≤ n) (hn : n ≤ 60) (hA : AftNo a N c n d eg) :
    Calls Try.prog 7 #[.slice a N c, .int .i64 n, .int .i64 d] w fun e w' => e = .returned (.bool true) ∧ Below w.heap.size w w' := by
  obtain ⟨f1, f2, F1, F2⟩ := hF
  have F1 := Lib.hid F1
  have F2 := Lib.hid F2
  have b1 : (ef != ef) = false := bfalse' rfl
  have b2 : (ef != 0) = true := bdiff' (by omega)
  have b3 : (ef == 0) = false := bno (by omega)
  obtain ⟨a1, a2, A1, A2⟩ := hA
  have A1 := Lib.hid A1
  have A2 := Lib.hid A2
  have c1 : (eg == eg) = true := by simp
  have c2 : (eg != 0) = true := bdiff' (by omega)
  go_enter Try.func7, Try.ntmps7
  go_wp2_with fail
  refine (F1.out _).mono ?_; rintro e w' ⟨rfl, rfl⟩
  go_wp2_with fail
  refine (A1.out _).mono ?_; rintro e w' ⟨rfl, rfl⟩
  go_wp2_with fail
  refine (F2.out _).mono ?_; rintro e w' ⟨rfl, rfl⟩
  go_wp2_with fail
  refine (A2.out _).mono ?_; rintro e w' ⟨rfl, rfl⟩
  go_wp2_with fail
  refine (live12 _).mono ?_; rintro e w' ⟨rfl, rfl⟩
  go_wp2_with fail
  go_ret
  exact ⟨rfl, Below.refl _ _⟩

set_option maxHeartbeats 1000000 in
theorem chirpEnds_no_len (a : Option Addr) (N c : Nat) (d : Int) (w : World) (hN : N ≤ 120) (ef : Int) (hF : ForeNo a N c d ef) (n : Nat) (hn : n ≤ 60) (hsn : hasSz n = true) (hl : N < 2 * n - 1) (hd : d = 0 ∨ d = 1) :
    Calls Try.prog 7 #[.slice a N c, .int .i64 n, .int .i64 d] w fun e w' => e = .returned (.bool true) ∧ Below w.heap.size w w' := by
  obtain ⟨f1, f2, F1, F2⟩ := hF
  have F1 := Lib.hid F1
  have F2 := Lib.hid F2
  have b1 : (ef != ef) = false := bfalse' rfl
  have b2 : (ef != 0) = true := bdiff' (by omega)
  have b3 : (ef == 0) = false := bno (by omega)
  have A2 : Hid (∀ w : World, Calls Try.prog 25 #[.int .i64 n, .int .i64 d] w fun e w' => e = .returned (.int .i64 0) ∧ w = w') := fun w => check_ok n d w hsn hd
  obtain ⟨g1, g2, _⟩ := hasSz_iff.1 hsn
  obtain ⟨q, hq⟩ : ∃ q : Nat, 2 * (n : Int) - 1 = q := ⟨2 * n - 1, by omega⟩
  have hq2 : q ≤ 200 := by omega
  have A1 : Hid (∀ w : World, Calls Try.prog 32 #[.slice a N c, .int .i64 n, .int .i64 d] w fun e w' => e = .returned (.tuple #[.slice none 0 0, .int .i64 5]) ∧ w = w') := fun w => aft_len a N c n d w hsn hd hl
  have hlt : (N : Int) < (q : Int) := by omega
  clear hsn hl hd
  go_enter Try.func7, Try.ntmps7
  go_wp2_with fail
  refine (F1.out _).mono ?_; rintro e w' ⟨rfl, rfl⟩
  go_wp2_with fail
  refine (A1.out _).mono ?_; rintro e w' ⟨rfl, rfl⟩
  go_wp2_with fail
  refine (F2.out _).mono ?_; rintro e w' ⟨rfl, rfl⟩
  go_wp2_with fail
  refine (A2.out _).mono ?_; rintro e w' ⟨rfl, rfl⟩
  go_wp2_with fail
  refine (live12 _).mono ?_; rintro e w' ⟨rfl, rfl⟩
  go_wp2_with fail
  go_ret
  exact ⟨rfl, Below.refl _ _⟩

set_option maxHeartbeats 1000000 in
theorem chirpEnds_no_ok (a : Option Addr) (N c : Nat) (d : Int) (w : World) (hN : N ≤ 120) (xs : List Int) (hx : Row .u64 w a xs) (hxl : xs.length = N) (ef : Int) (hF : ForeNo a N c d ef) (n : Nat) (hn : n ≤ 60) (hsn : hasSz n = true) (hl : 2 * n - 1 ≤ N) (hd : d = 0 ∨ d = 1) :
    Calls Try.prog 7 #[.slice a N c, .int .i64 n, .int .i64 d] w fun e w' => e = .returned (.bool true) ∧ Below w.heap.size w w' := by
  obtain ⟨f1, f2, F1, F2⟩ := hF
  have F1 := Lib.hid F1
  have F2 := Lib.hid F2
  have b1 : (ef != ef) = false := bfalse' rfl
  have b2 : (ef != 0) = true := bdiff' (by omega)
  have b3 : (ef == 0) = false := bno (by omega)
  have A2 : Hid (∀ w : World, Calls Try.prog 25 #[.int .i64 n, .int .i64 d] w fun e w' => e = .returned (.int .i64 0) ∧ w = w') := fun w => check_ok n d w hsn hd
  obtain ⟨g1, g2, _⟩ := hasSz_iff.1 hsn
  obtain ⟨q, hq⟩ : ∃ q : Nat, 2 * (n : Int) - 1 = q := ⟨2 * n - 1, by omega⟩
  have hq2 : q ≤ 200 := by omega
  have A1 : Hid (∀ w : World, Row .u64 w a xs → Calls Try.prog 32 #[.slice a N c, .int .i64 n, .int .i64 d] w (GivesRowE .u64 (aftL xs (dirBk n d) n) 0 w)) := fun w h => aft_ok a n N c d xs w h hxl hl (by omega) hsn hd
  have A3 : Hid (∀ w : World, Row .u64 w a xs → Calls Try.prog 34 #[.slice a N c, .int .i64 n, .int .i64 d] w (GivesRow .u64 (aftL xs (dirBk n d) n) w)) := fun w h => refAft a n N c d xs w h hxl hl (by omega) hsn hd
  have hlt : ¬ (N : Int) < (q : Int) := by omega
  have hAL : (aftL xs (dirBk n d) n).length = n := aftL_len _ _ _
  obtain ⟨afs, has⟩ : ∃ afs, aftL xs (dirBk n d) n = afs := ⟨_, rfl⟩
  rw [has] at A1 A3 hAL
  have HAL := Lib.hid hAL
  have HX := Lib.hid hx
  clear has hAL hsn hl hd hx hxl
  go_enter Try.func7, Try.ntmps7
  go_wp2_with fail
  refine (F1.out _).mono ?_; rintro e w' ⟨rfl, rfl⟩
  go_wp2_with fail
  refine (A1.out _ HX.out).mono ?_; rintro e w2 ⟨a2', cap2, rfl, hr2, hcap2, hb2⟩
  rw [HAL.out]
  go_wp2_with fail
  refine (F2.out _).mono ?_; rintro e w' ⟨rfl, rfl⟩
  go_wp2_with fail
  refine (A2.out _).mono ?_; rintro e w' ⟨rfl, rfl⟩
  go_wp2_with fail
  refine (A3.out _ (HX.out.below hb2)).mono ?_; rintro e w5 ⟨a5', cap5, rfl, hr5, hcap5, hb5⟩
  rw [HAL.out]
  go_wp2_with fail
  refine (ref_SameT _ _ _ _ _ _ afs afs _ (hr2.below hb5) hr5 HAL.out HAL.out rfl).mono ?_; rintro e w6 ⟨rfl, hb6⟩
  go_wp2_with fail
  refine (live12 _).mono ?_; rintro e w' ⟨rfl, rfl⟩
  go_wp2_with fail
  go_ret
  exact ⟨rfl, (chain (chain hb2 hb5) hb6)⟩

set_option maxHeartbeats 1000000 in
theorem chirpEnds_ok_no (a : Option Addr) (N c : Nat) (d : Int) (w : World) (hN : N ≤ 120) (xs : List Int) (hx : Row .u64 w a xs) (hxl : xs.length = N) (hs : hasSz N = true) (n eg : Int) (hn0 : -9223372036854775808 ≤ n) (hn : n ≤ 60) (hA : AftNo a N c n d eg) (hd : d = 0 ∨ d = 1) :
    Calls Try.prog 7 #[.slice a N c, .int .i64 n, .int .i64 d] w fun e w' => e = .returned (.bool true) ∧ Below w.heap.size w w' := by
  have F1 : Hid (∀ w : World, Row .u64 w a xs → Calls Try.prog 31 #[.slice a N c, .int .i64 d] w (GivesRowE .u64 (foreL xs (dirBk N d) N) 0 w)) := fun w h => fore_ok a N c d xs w h hxl hs hd
  have F2 : Hid (∀ w : World, Calls Try.prog 25 #[.int .i64 N, .int .i64 d] w fun e w' => e = .returned (.int .i64 0) ∧ w = w') := fun w => check_ok N d w hs hd
  have F3 : Hid (∀ w : World, Row .u64 w a xs → Calls Try.prog 33 #[.slice a N c, .int .i64 d] w (GivesRow .u64 (foreL xs (dirBk N d) N) w)) := fun w h => refFore a N c d xs w h hxl hs hd
  have hFL : (foreL xs (dirBk N d) N).length = N := foreL_len _ _ _
  obtain ⟨fs, hfs⟩ : ∃ fs, foreL xs (dirBk N d) N = fs := ⟨_, rfl⟩
  rw [hfs] at F1 F3 hFL
  have HFL := Lib.hid hFL
  obtain ⟨a1, a2, A1, A2⟩ := hA
  have A1 := Lib.hid A1
  have A2 := Lib.hid A2
  have c1 : (eg == eg) = true := by simp
  have c2 : (eg != 0) = true := bdiff' (by omega)
  have HX := Lib.hid hx
  clear hfs hFL hs hd hx hxl
  go_enter Try.func7, Try.ntmps7
  go_wp2_with fail
  refine (F1.out _ HX.out).mono ?_; rintro e w1 ⟨a1', cap1, rfl, hr1, hcap1, hb1⟩
  rw [HFL.out]
  go_wp2_with fail
  refine (A1.out _).mono ?_; rintro e w' ⟨rfl, rfl⟩
  go_wp2_with fail
  refine (F2.out _).mono ?_; rintro e w' ⟨rfl, rfl⟩
  go_wp2_with fail
  refine (F3.out _ (HX.out.below hb1)).mono ?_; rintro e w3 ⟨a3', cap3, rfl, hr3, hcap3, hb3⟩
  rw [HFL.out]
  go_wp2_with fail
  refine (ref_SameT _ _ _ _ _ _ fs fs _ (hr1.below hb3) hr3 HFL.out HFL.out rfl).mono ?_; rintro e w4 ⟨rfl, hb4⟩
  go_wp2_with fail
  refine (A2.out _).mono ?_; rintro e w' ⟨rfl, rfl⟩
  go_wp2_with fail
  refine (live12 _).mono ?_; rintro e w' ⟨rfl, rfl⟩
  go_wp2_with fail
  go_ret
  exact ⟨rfl, (chain (chain hb1 hb3) hb4)⟩

set_option maxHeartbeats 1000000 in
theorem chirpEnds_ok_len (a : Option Addr) (N c : Nat) (d : Int) (w : World) (hN : N ≤ 120) (xs : List Int) (hx : Row .u64 w a xs) (hxl : xs.length = N) (hs : hasSz N = true) (n : Nat) (hn : n ≤ 60) (hsn : hasSz n = true) (hl : N < 2 * n - 1) (hd : d = 0 ∨ d = 1) :
    Calls Try.prog 7 #[.slice a N c, .int .i64 n, .int .i64 d] w fun e w' => e = .returned (.bool true) ∧ Below w.heap.size w w' := by
  have F1 : Hid (∀ w : World, Row .u64 w a xs → Calls Try.prog 31 #[.slice a N c, .int .i64 d] w (GivesRowE .u64 (foreL xs (dirBk N d) N) 0 w)) := fun w h => fore_ok a N c d xs w h hxl hs hd
  have F2 : Hid (∀ w : World, Calls Try.prog 25 #[.int .i64 N, .int .i64 d] w fun e w' => e = .returned (.int .i64 0) ∧ w = w') := fun w => check_ok N d w hs hd
  have F3 : Hid (∀ w : World, Row .u64 w a xs → Calls Try.prog 33 #[.slice a N c, .int .i64 d] w (GivesRow .u64 (foreL xs (dirBk N d) N) w)) := fun w h => refFore a N c d xs w h hxl hs hd
  have hFL : (foreL xs (dirBk N d) N).length = N := foreL_len _ _ _
  obtain ⟨fs, hfs⟩ : ∃ fs, foreL xs (dirBk N d) N = fs := ⟨_, rfl⟩
  rw [hfs] at F1 F3 hFL
  have HFL := Lib.hid hFL
  have A2 : Hid (∀ w : World, Calls Try.prog 25 #[.int .i64 n, .int .i64 d] w fun e w' => e = .returned (.int .i64 0) ∧ w = w') := fun w => check_ok n d w hsn hd
  obtain ⟨g1, g2, _⟩ := hasSz_iff.1 hsn
  obtain ⟨q, hq⟩ : ∃ q : Nat, 2 * (n : Int) - 1 = q := ⟨2 * n - 1, by omega⟩
  have hq2 : q ≤ 200 := by omega
  have A1 : Hid (∀ w : World, Calls Try.prog 32 #[.slice a N c, .int .i64 n, .int .i64 d] w fun e w' => e = .returned (.tuple #[.slice none 0 0, .int .i64 5]) ∧ w = w') := fun w => aft_len a N c n d w hsn hd hl
  have hlt : (N : Int) < (q : Int) := by omega
  have HX := Lib.hid hx
  clear hfs hFL hs hsn hl hd hx hxl
  go_enter Try.func7, Try.ntmps7
  go_wp2_with fail
  refine (F1.out _ HX.out).mono ?_; rintro e w1 ⟨a1', cap1, rfl, hr1, hcap1, hb1⟩
  rw [HFL.out]
  go_wp2_with fail
  refine (A1.out _).mono ?_; rintro e w' ⟨rfl, rfl⟩
  go_wp2_with fail
  refine (F2.out _).mono ?_; rintro e w' ⟨rfl, rfl⟩
  go_wp2_with fail
  refine (F3.out _ (HX.out.below hb1)).mono ?_; rintro e w3 ⟨a3', cap3, rfl, hr3, hcap3, hb3⟩
  rw [HFL.out]
  go_wp2_with fail
  refine (ref_SameT _ _ _ _ _ _ fs fs _ (hr1.below hb3) hr3 HFL.out HFL.out rfl).mono ?_; rintro e w4 ⟨rfl, hb4⟩
  go_wp2_with fail
  refine (A2.out _).mono ?_; rintro e w' ⟨rfl, rfl⟩
  go_wp2_with fail
  refine (live12 _).mono ?_; rintro e w' ⟨rfl, rfl⟩
  go_wp2_with fail
  go_ret
  exact ⟨rfl, (chain (chain hb1 hb3) hb4)⟩

set_option maxHeartbeats 1000000 in
theorem chirpEnds_ok_ok (a : Option Addr) (N c : Nat) (d : Int) (w : World) (hN : N ≤ 120) (xs : List Int) (hx : Row .u64 w a xs) (hxl : xs.length = N) (hs : hasSz N = true) (n : Nat) (hn : n ≤ 60) (hsn : hasSz n = true) (hl : 2 * n - 1 ≤ N) (hd : d = 0 ∨ d = 1) :
    Calls Try.prog 7 #[.slice a N c, .int .i64 n, .int .i64 d] w fun e w' => e = .returned (.bool true) ∧ Below w.heap.size w w' := by
  have F1 : Hid (∀ w : World, Row .u64 w a xs → Calls Try.prog 31 #[.slice a N c, .int .i64 d] w (GivesRowE .u64 (foreL xs (dirBk N d) N) 0 w)) := fun w h => fore_ok a N c d xs w h hxl hs hd
  have F2 : Hid (∀ w : World, Calls Try.prog 25 #[.int .i64 N, .int .i64 d] w fun e w' => e = .returned (.int .i64 0) ∧ w = w') := fun w => check_ok N d w hs hd
  have F3 : Hid (∀ w : World, Row .u64 w a xs → Calls Try.prog 33 #[.slice a N c, .int .i64 d] w (GivesRow .u64 (foreL xs (dirBk N d) N) w)) := fun w h => refFore a N c d xs w h hxl hs hd
  have hFL : (foreL xs (dirBk N d) N).length = N := foreL_len _ _ _
  obtain ⟨fs, hfs⟩ : ∃ fs, foreL xs (dirBk N d) N = fs := ⟨_, rfl⟩
  rw [hfs] at F1 F3 hFL
  have HFL := Lib.hid hFL
  have A2 : Hid (∀ w : World, Calls Try.prog 25 #[.int .i64 n, .int .i64 d] w fun e w' => e = .returned (.int .i64 0) ∧ w = w') := fun w => check_ok n d w hsn hd
  obtain ⟨g1, g2, _⟩ := hasSz_iff.1 hsn
  obtain ⟨q, hq⟩ : ∃ q : Nat, 2 * (n : Int) - 1 = q := ⟨2 * n - 1, by omega⟩
  have hq2 : q ≤ 200 := by omega
  have A1 : Hid (∀ w : World, Row .u64 w a xs → Calls Try.prog 32 #[.slice a N c, .int .i64 n, .int .i64 d] w (GivesRowE .u64 (aftL xs (dirBk n d) n) 0 w)) := fun w h => aft_ok a n N c d xs w h hxl hl (by omega) hsn hd
  have A3 : Hid (∀ w : World, Row .u64 w a xs → Calls Try.prog 34 #[.slice a N c, .int .i64 n, .int .i64 d] w (GivesRow .u64 (aftL xs (dirBk n d) n) w)) := fun w h => refAft a n N c d xs w h hxl hl (by omega) hsn hd
  have hlt : ¬ (N : Int) < (q : Int) := by omega
  have hAL : (aftL xs (dirBk n d) n).length = n := aftL_len _ _ _
  obtain ⟨afs, has⟩ : ∃ afs, aftL xs (dirBk n d) n = afs := ⟨_, rfl⟩
  rw [has] at A1 A3 hAL
  have HAL := Lib.hid hAL
  have HX := Lib.hid hx
  clear hfs hFL hs has hAL hsn hl hd hx hxl
  go_enter Try.func7, Try.ntmps7
  go_wp2_with fail
  refine (F1.out _ HX.out).mono ?_; rintro e w1 ⟨a1', cap1, rfl, hr1, hcap1, hb1⟩
  rw [HFL.out]
  go_wp2_with fail
  refine (A1.out _ (HX.out.below hb1)).mono ?_; rintro e w2 ⟨a2', cap2, rfl, hr2, hcap2, hb2⟩
  rw [HAL.out]
  go_wp2_with fail
  refine (F2.out _).mono ?_; rintro e w' ⟨rfl, rfl⟩
  go_wp2_with fail
  refine (F3.out _ ((HX.out.below hb1).below hb2)).mono ?_; rintro e w3 ⟨a3', cap3, rfl, hr3, hcap3, hb3⟩
  rw [HFL.out]
  go_wp2_with fail
  refine (ref_SameT _ _ _ _ _ _ fs fs _ ((hr1.below hb2).below hb3) hr3 HFL.out HFL.out rfl).mono ?_; rintro e w4 ⟨rfl, hb4⟩
  go_wp2_with fail
  refine (A2.out _).mono ?_; rintro e w' ⟨rfl, rfl⟩
  go_wp2_with fail
  refine (A3.out _ ((((HX.out.below hb1).below hb2).below hb3).below hb4)).mono ?_; rintro e w5 ⟨a5', cap5, rfl, hr5, hcap5, hb5⟩
  rw [HAL.out]
  go_wp2_with fail
  refine (ref_SameT _ _ _ _ _ _ afs afs _ (((hr2.below hb3).below hb4).below hb5) hr5 HAL.out HAL.out rfl).mono ?_; rintro e w6 ⟨rfl, hb6⟩
  go_wp2_with fail
  refine (live12 _).mono ?_; rintro e w' ⟨rfl, rfl⟩
  go_wp2_with fail
  go_ret
  exact ⟨rfl, (chain (chain (chain (chain (chain hb1 hb2) hb3) hb4) hb5) hb6)⟩

theorem foreNo_of (a : Option Addr) (N c : Nat) (d : Int) (hN : N ≤ 9223372036854775807) (h : hasSz N = false ∨ ¬ (d = 0 ∨ d = 1)) : ∃ ef, ForeNo a N c d ef := by
  cases hs : hasSz N with
  | false => exact ⟨4, by omega, by omega, fun w => fore_size a N c d w hs hN, fun w => check_size N d w hs (by omega)⟩
  | true =>
    have hd := h.resolve_left (by rw [hs]; simp)
    exact ⟨2, by omega, by omega, fun w => fore_arg a N c d w hs hd, fun w => check_arg N d w hs hd⟩
theorem aftNo_of (a : Option Addr) (N c : Nat) (n d : Int) (hn : -9223372036854775808 ≤ n ∧ n < 9223372036854775808) (h : hasSz n = false ∨ ¬ (d = 0 ∨ d = 1)) : ∃ eg, AftNo a N c n d eg := by
  cases hs : hasSz n with
  | false => exact ⟨4, by omega, by omega, fun w => aft_size a N c n d w hs hn, fun w => check_size n d w hs hn⟩
  | true =>
    have hd := h.resolve_left (by rw [hs]; simp)
    exact ⟨2, by omega, by omega, fun w => aft_arg a N c n d w hs hd, fun w => check_arg n d w hs hd⟩

theorem chirpEndsW (a0 : Option Addr) (c0 : Nat) (x0 : List Int) (n d : Int) (w : World) (h0 : Row .u64 w a0 x0) (k0 : OkCap a0 x0.length c0) (hn : fits .i64 n) (hd : fits .i64 d) :
    Calls Try.prog 7 #[.slice a0 x0.length c0, .int .i64 n, .int .i64 d] w fun e w' => e = .returned (.bool true) ∧ Below w.heap.size w w' := by
  have hn' := fits_i64.1 hn
  by_cases hb : 120 < x0.length ∨ 60 < n
  · exact chirpEnds_big a0 _ c0 n d w hb h0.len
  · by_cases hF : hasSz (x0.length : Int) = false ∨ ¬ (d = 0 ∨ d = 1)
    · obtain ⟨ef, hef⟩ := foreNo_of a0 x0.length c0 d h0.len hF
      by_cases hA : hasSz n = false ∨ ¬ (d = 0 ∨ d = 1)
      · obtain ⟨eg, heg⟩ := aftNo_of a0 x0.length c0 n d (by omega) hA
        exact chirpEnds_no_no a0 _ c0 d w (by omega) ef hef n eg (by omega) (by omega) heg
      · have hs : hasSz n = true := by cases h : hasSz n with
          | true => rfl
          | false => exact absurd (Or.inl h) hA
        have hd' : d = 0 ∨ d = 1 := Classical.byContradiction fun h => hA (Or.inr h)
        obtain ⟨g1, g2, _⟩ := hasSz_iff.1 hs
        obtain ⟨m, rfl⟩ := Int.eq_ofNat_of_zero_le (show 0 ≤ n by omega)
        by_cases hl : x0.length < 2 * m - 1
        · exact chirpEnds_no_len a0 _ c0 d w (by omega) ef hef m (by omega) hs hl hd'
        · exact chirpEnds_no_ok a0 _ c0 d w (by omega) x0 h0 rfl ef hef m (by omega) hs (by omega) hd'
    · have hsN : hasSz (x0.length : Int) = true := by cases h : hasSz (x0.length : Int) with
        | true => rfl
        | false => exact absurd (Or.inl h) hF
      have hd' : d = 0 ∨ d = 1 := Classical.byContradiction fun h => hF (Or.inr h)
      cases hs : hasSz n with
      | false =>
        obtain ⟨eg, heg⟩ := aftNo_of a0 x0.length c0 n d (by omega) (Or.inl hs)
        exact chirpEnds_ok_no a0 _ c0 d w (by omega) x0 h0 rfl hsN n eg (by omega) (by omega) heg hd'
      | true =>
        obtain ⟨g1, g2, _⟩ := hasSz_iff.1 hs
        obtain ⟨m, rfl⟩ := Int.eq_ofNat_of_zero_le (show 0 ≤ n by omega)
        by_cases hl : x0.length < 2 * m - 1
        · exact chirpEnds_ok_len a0 _ c0 d w (by omega) x0 h0 rfl hsN m (by omega) hs hl hd'
        · exact chirpEnds_ok_ok a0 _ c0 d w (by omega) x0 h0 rfl hsN m (by omega) hs (by omega) hd'
end Go.Proofs.Ytlgklkhijmeldaa
