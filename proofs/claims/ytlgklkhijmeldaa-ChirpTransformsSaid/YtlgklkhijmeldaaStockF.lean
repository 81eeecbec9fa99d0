/- The laws of all passes, and of the transform of a power of two, as calls that return true. -/
import Derived.Test.YtlgklkhijmeldaaStockE
import Derived.Test.YtlgklkhijmeldaaRootP
import Derived.Test.YtlgklkhijmeldaaDftC
import Derived.Test.YtlgklkhijmeldaaDftL
namespace Go.Proofs.Ytlgklkhijmeldaa
open Go.RowKit Sm
set_option linter.unusedVariables false
set_option linter.unusedSimpArgs false
set_option maxRecDepth 100000

theorem vref_RedN2 (a : Option Addr) (n cap : Nat) (xs : List Int) (w : World) (hx : Row .u64 w a xs) (hn : xs.length = n) (hl : n ≤ 16777216) :
    Calls Try.prog 15 #[.slice a n cap] w (GivesRow .u64 (xs.map (· % 18446744069414584321)) w) := by
  subst hn; exact vref_Red a cap xs w hx hl

theorem stockWith_big (a0 a1 : Option Addr) (n m c0 c1 : Nat) (w : World) (h : 130 < n ∨ (n ≤ 130 ∧ 130 < m)) (hn : n ≤ 9223372036854775807) (hm : m ≤ 9223372036854775807) :
    Calls Try.prog 3 #[.slice a0 n c0, .slice a1 m c1] w fun e w' => e = .returned (.bool true) ∧ Below w.heap.size w w' := by
  rcases h with h1 | ⟨h1, h2⟩
  all_goals
    go_enter Try.func3, Try.ntmps3
    go_wp2_with fail
    refine (live11 _).mono ?_
    rintro e w7 ⟨rfl, hb7⟩
    go_wp2_with fail
    go_ret
    exact ⟨rfl, hb7⟩

theorem stockWith_no (a0 a1 : Option Addr) (n m c0 c1 : Nat) (w : World) (h1 : n ≤ 130) (h2 : m ≤ 130) (hP : hasP2 (n : Int) = false) :
    Calls Try.prog 3 #[.slice a0 n c0, .slice a1 m c1] w fun e w' => e = .returned (.bool true) ∧ Below w.heap.size w w' := by
  have C0 : Hid (∀ w : World, Calls Try.prog 13 #[.slice a0 n c0, .slice a1 m c1] w fun e w' => e = .returned (.tuple #[.slice none 0 0, .int .i64 4]) ∧ w = w') := fun w => with_no a0 a1 n m c0 c1 w hP (by omega)
  have C1 : Hid (∀ w : World, Calls Try.prog 14 #[.int .i64 n] w fun e w' => e = .returned (.bool false) ∧ w = w') := fun w => by rw [← hP]; exact refSt_Has n w (by omega)
  clear hP
  go_enter Try.func3, Try.ntmps3
  go_wp2_with fail
  refine (C0.out _).mono ?_; rintro e w' ⟨rfl, rfl⟩
  go_wp2_with fail
  refine (C1.out _).mono ?_; rintro e w' ⟨rfl, rfl⟩
  go_wp2_with fail
  refine (live11 _).mono ?_
  rintro e w7 ⟨rfl, hb7⟩
  go_wp2_with fail
  go_ret
  exact ⟨rfl, hb7⟩

theorem stockWith_len (a0 a1 : Option Addr) (n m c0 c1 : Nat) (w : World) (h1 : n ≤ 130) (h2 : m ≤ 130) (hP : hasP2 (n : Int) = true) (hnm : m ≠ n) :
    Calls Try.prog 3 #[.slice a0 n c0, .slice a1 m c1] w fun e w' => e = .returned (.bool true) ∧ Below w.heap.size w w' := by
  have C0 : Hid (∀ w : World, Calls Try.prog 13 #[.slice a0 n c0, .slice a1 m c1] w fun e w' => e = .returned (.tuple #[.slice none 0 0, .int .i64 5]) ∧ w = w') := fun w => with_len a0 a1 n m c0 c1 w hP (by omega) hnm
  have C1 : Hid (∀ w : World, Calls Try.prog 14 #[.int .i64 n] w fun e w' => e = .returned (.bool true) ∧ w = w') := fun w => by rw [← hP]; exact refSt_Has n w (by omega)
  have h0 : ((m : Int) != (n : Int)) = true := bdiff' (by omega)
  clear hP hnm
  go_enter Try.func3, Try.ntmps3
  go_wp2_with fail
  refine (C0.out _).mono ?_; rintro e w' ⟨rfl, rfl⟩
  go_wp2_with fail
  refine (C1.out _).mono ?_; rintro e w' ⟨rfl, rfl⟩
  go_wp2_with fail
  refine (live11 _).mono ?_
  rintro e w7 ⟨rfl, hb7⟩
  go_wp2_with fail
  go_ret
  exact ⟨rfl, hb7⟩

set_option maxHeartbeats 1600000 in
theorem stockWith_ok (a0 a1 : Option Addr) (n m c0 c1 : Nat) (x ws : List Int) (w : World) (hx : Row .u64 w a0 x) (hw : Row .u64 w a1 ws) (hxl : x.length = n) (hwl : ws.length = n) (h1 : n ≤ 130) (hm : m ≤ 24) (hn : n = 2 ^ m) :
    Calls Try.prog 3 #[.slice a0 n c0, .slice a1 n c1] w fun e w' => e = .returned (.bool true) ∧ Below w.heap.size w w' := by
  have hP : hasP2 (n : Int) = true := (hasP2_iff _).2 ⟨m, hm, by rw [hn]⟩
  have hn1 : 1 ≤ n := by rw [hn]; exact Nat.pow_pos (by omega)
  have C1 : Hid (∀ w : World, Calls Try.prog 14 #[.int .i64 n] w fun e w' => e = .returned (.bool true) ∧ w = w') := fun w => by rw [← hP]; exact refSt_Has n w (by omega)
  have HX := Lib.hid hx
  have HW := Lib.hid hw
  have HXL := Lib.hid hxl
  have HWL := Lib.hid hwl
  have HN := Lib.hid hn
  have HL : Hid (∀ j, (withTo x ws j).length = n) := fun j => by rw [withTo_len]; exact hxl
  have h0 : ((n : Int) != (n : Int)) = false := bfalse' rfl
  clear hx hw hxl hwl hn hP
  go_enter Try.func3, Try.ntmps3
  go_wp2_with fail
  refine (with_ok a0 a1 n m c0 c1 x ws _ HX.out HW.out HXL.out HWL.out hm HN.out).mono ?_
  rintro e w1 ⟨a1', cap1, rfl, hr1, hcap1, hb1⟩
  rw [HL.out]
  have HR1 := Lib.hid hr1
  clear hr1 hcap1
  go_wp2_with fail
  refine (C1.out _).mono ?_; rintro e w' ⟨rfl, rfl⟩
  go_wp2_with fail
  refine (vref_RedN2 a0 n c0 x _ (HX.out.below hb1) HXL.out (by omega)).mono ?_
  rintro e w2 ⟨a2, cap2, rfl, hr2, hcap2, hb2⟩
  have hl0 := HL.out 0
  have hl0' : (x.map (· % 18446744069414584321)).length = n := hl0
  rw [hl0']
  clear hl0 hl0' hcap2
  have hbl2 := chain hb1 hb2
  go_wp2_with fail
  go_loopw [7, 8] (fun v i wr => ∃ (j s : Nat) (a : Option Addr) (cap : Nat), j ≤ m ∧ Hid (s = 2 ^ j) ∧ 1 ≤ s ∧ s ≤ n ∧ i = .int .i64 s ∧ v = .slice a n cap ∧ Row .u64 wr a (withTo x ws j) ∧ Below w1.heap.size w1 wr) (fun _ i _ => n - (intOf i).toNat)
  case atStart => exact ⟨0, 1, a2, cap2, Nat.zero_le _, rfl, by omega, hn1, rfl, rfl, hr2, hb2⟩
  case round =>
    obtain ⟨j, s, a, cap, hj, HS, hs1, hsn, rfl, rfl, hrow, hb⟩ := hrel
    have HR := Lib.hid hrow
    clear hrow
    by_cases hlt : j < m
    · obtain ⟨h, hh, hns⟩ := half_of_pow m j s HS.out hlt
      have h2s : s * 2 ≤ n := by rw [HN.out, hns]; exact Nat.mul_le_mul_left s (by omega)
      have hle : (s : Int) ≤ (n : Int) / 2 := by omega
      have HNS : Hid (n = s * (2 * h)) := HN.out.trans hns
      have HS2 : Hid (2 * s = 2 ^ (j + 1)) := by unfold Hid; rw [Nat.pow_succ, HS.out]; omega
      clear hns
      go_wp2_with fail
      refine (refPass n s h a a1 cap c1 (withTo x ws j) ws _ HR.out (HW.out.below (chain hb1 hb)) (HL.out j) HWL.out (by omega) HNS.out hs1 hh).mono ?_
      rintro e w3 ⟨a3, cap3, rfl, hr3, hcap3, hb3⟩
      have hlen : (passL (withTo x ws j) ws s).length = n := by rw [passL_len]; exact HL.out j
      rw [hlen]
      have HR3 : Hid (Row .u64 w3 a3 (withTo x ws (j + 1))) := by unfold Hid; simp only [withTo]; rw [← HS.out]; exact hr3
      clear hr3 hlen hcap3
      go_wp2_with fail
      go_roundw
      case rel => exact ⟨j + 1, 2 * s, a3, cap3, by omega, HS2.out, by omega, by omega, by go_num, rfl, HR3.out, chain hb hb3⟩
      case measure => simp [intOf]; omega
    · have hjm : j = m := by omega
      have hsn' : s = n := by rw [HS.out, HN.out, hjm]
      have hlt2 : (n : Int) / 2 < (s : Int) := by omega
      have HJ := Lib.hid hjm
      clear hjm hsn'
      go_wp2_with fail
      refine (ref_SameT _ _ _ _ _ _ (withTo x ws m) (withTo x ws j) _ (HR1.out.below hb) HR.out (HL.out m) (HL.out j) (by rw [HJ.out])).mono ?_
      rintro e w6 ⟨rfl, hb6⟩
      go_wp2_with fail
      refine (live11 _).mono ?_
      rintro e w7 ⟨rfl, hb7⟩
      go_wp2_with fail
      go_ret
      exact ⟨rfl, chain (chain (chain hb1 hb) hb6) hb7⟩

theorem stockWithW (a0 : Option Addr) (c0 : Nat) (x0 : List Int) (a1 : Option Addr) (c1 : Nat) (x1 : List Int) (w : World) (h0 : Row .u64 w a0 x0) (k0 : OkCap a0 x0.length c0) (h1 : Row .u64 w a1 x1) (k1 : OkCap a1 x1.length c1) :
    Calls Try.prog 3 #[.slice a0 x0.length c0, .slice a1 x1.length c1] w fun e w' => e = .returned (.bool true) ∧ Below w.heap.size w w' := by
  by_cases hb : x0.length ≤ 130 ∧ x1.length ≤ 130
  · cases hP : hasP2 (x0.length : Int) with
    | false => exact stockWith_no a0 a1 _ _ c0 c1 w hb.1 hb.2 hP
    | true =>
      by_cases hnm : x1.length = x0.length
      · obtain ⟨m, hm, he⟩ := (hasP2_iff _).1 hP
        rw [hnm]
        exact stockWith_ok a0 a1 _ m c0 c1 x0 x1 w h0 h1 rfl hnm hb.1 hm (by omega)
      · exact stockWith_len a0 a1 _ _ c0 c1 w hb.1 hb.2 hP hnm
  · exact stockWith_big a0 a1 _ _ c0 c1 w (by omega) h0.len h1.len

/-! ### The transform -/
theorem refDirTest (d : Int) (w : World) : Calls Try.prog 19 #[.int .i64 d] w fun e w' => e = .returned (.bool (decide (d = 0 ∨ d = 1))) ∧ w = w' := by
  rcases (show d = 0 ∨ d = 1 ∨ (d ≠ 0 ∧ d ≠ 1) by omega) with h | h | ⟨h1, h2⟩
  · subst h
    go_enter Try.func19, Try.ntmps19
    go_wp2_with fail
    go_ret
    exact ⟨ret_bool (by simp), rfl⟩
  · subst h
    go_enter Try.func19, Try.ntmps19
    go_wp2_with fail
    go_ret
    exact ⟨ret_bool (by simp), rfl⟩
  · have e1 : (d == 0) = false := bno h1
    have e2 : (d == 1) = false := bno h2
    have H := Lib.hid (And.intro h1 h2)
    clear h1 h2
    go_enter Try.func19, Try.ntmps19
    go_wp2_with fail
    go_ret
    exact ⟨ret_bool (by have := H.out; simp; omega), rfl⟩

theorem do_dir (a : Option Addr) (n c : Nat) (d : Int) (w : World) (h : d < 0 ∨ 1 < d) :
    Calls Try.prog 18 #[.slice a n c, .int .i64 d] w fun e w' => e = .returned (.tuple #[.slice none 0 0, .int .i64 2]) ∧ w = w' := by
  rcases (show d < 0 ∨ (0 ≤ d ∧ 1 < d) by omega) with h1 | ⟨h1, h2⟩
  all_goals
    clear h
    go_enter Try.func18, Try.ntmps18
    go_wp2_with fail
    go_ret2
    exact ⟨rfl, rfl⟩
theorem do_size (a : Option Addr) (n c : Nat) (d : Int) (w : World) (h : d = 0 ∨ d = 1) (hP : hasP2 (n : Int) = false) (hn : n ≤ 9223372036854775807) :
    Calls Try.prog 18 #[.slice a n c, .int .i64 d] w fun e w' => e = .returned (.tuple #[.slice none 0 0, .int .i64 4]) ∧ w = w' := by
  have C1 : Hid (∀ w : World, Calls Try.prog 47 #[.int .i64 n] w fun e w' => e = .returned (.bool false) ∧ w = w') := fun w => by rw [← hP]; exact stock_Has n w (by omega)
  clear hP
  rcases h with h1 | h1
  all_goals
    subst h1
    go_enter Try.func18, Try.ntmps18
    go_wp2_with fail
    refine (C1.out _).mono ?_; rintro e w' ⟨rfl, rfl⟩
    go_wp2_with fail
    go_ret2
    exact ⟨rfl, rfl⟩

set_option maxHeartbeats 800000 in
theorem do_ok (a : Option Addr) (n m c : Nat) (d : Int) (xs : List Int) (w : World) (hx : Row .u64 w a xs) (hxl : xs.length = n) (hd : d = 0 ∨ d = 1) (hm : m ≤ 24) (hn : n = 2 ^ m) :
    Calls Try.prog 18 #[.slice a n c, .int .i64 d] w (GivesRowE .u64 (dftL xs (dirRt n d)) 0 w) := by
  have hP : hasP2 (n : Int) = true := (hasP2_iff _).2 ⟨m, hm, by rw [hn]⟩
  have hs : hasSz (n : Int) = true := by rw [hn]; exact hasSz_pow m hm
  have hn2 : n ≤ 16777216 := by have := (hasSz_iff.1 hs).2.1; omega
  have C1 : Hid (∀ w : World, Calls Try.prog 47 #[.int .i64 n] w fun e w' => e = .returned (.bool true) ∧ w = w') := fun w => by rw [← hP]; exact stock_Has n w (by omega)
  have hroot := isRoot_dir n d hs
  have hfft : withTo xs (powL (dirRt n d) n) m = dftL xs (dirRt n d) := by
    have := fft_all xs (dirRt n d) (dirBk n d) m (by rw [← hn]; exact hroot) (by rw [hxl, hn])
    rw [← hn] at this; exact this
  have HF := Lib.hid hfft
  have HX := Lib.hid hx
  have HXL := Lib.hid hxl
  have HS := Lib.hid hs
  have HN := Lib.hid hn
  have HL : Hid ((withTo xs (powL (dirRt n d) n) m).length = n) := by unfold Hid; rw [withTo_len]; exact hxl
  have HPL : Hid (∀ z : Int, (powL z n).length = n) := fun z => powL_len z n
  have hz := dirRt_range n d
  have HZ := Lib.hid hz
  clear hx hxl hs hP hn hroot hfft hz
  rcases hd with h1 | h1
  · subst h1
    have ez : Hid (dirRt n 0 = rt n) := rfl
    go_enter Try.func18, Try.ntmps18
    go_wp2_with fail
    refine (C1.out _).mono ?_; rintro e w' ⟨rfl, rfl⟩
    go_wp2_with fail
    refine (rootRoot_yes n _ HS.out).mono ?_; rintro e w' ⟨rfl, rfl⟩
    rw [← ez.out]
    go_wp2_with fail
    refine (rootPowers (dirRt n 0) n _ HZ.out.1 (by have := HZ.out.2; omega) hn2).mono ?_
    rintro e w1 ⟨a1, cap1, rfl, hr1, hcap1, hb1⟩
    rw [HPL.out]
    go_wp2_with fail
    refine (with_ok a a1 n m c cap1 xs (powL (dirRt n 0) n) _ (HX.out.below hb1) hr1 HXL.out (HPL.out _) hm HN.out).mono ?_
    rintro e w2 ⟨a2, cap2, rfl, hr2, hcap2, hb2⟩
    rw [HL.out] at hcap2 ⊢
    rw [HF.out] at hr2
    have hlen := HL.out
    rw [HF.out] at hlen
    have HR := Lib.hid hr2
    have HLEN := Lib.hid hlen
    clear hr2 hlen
    go_wp2_with fail
    go_ret2
    exact ⟨a2, cap2, by simp [HLEN.out], HR.out, by rw [HLEN.out]; exact hcap2, chain hb1 hb2⟩
  · subst h1
    have ez : Hid (dirRt n 1 = bk n) := rfl
    go_enter Try.func18, Try.ntmps18
    go_wp2_with fail
    refine (C1.out _).mono ?_; rintro e w' ⟨rfl, rfl⟩
    go_wp2_with fail
    refine (rootRoot_yes n _ HS.out).mono ?_; rintro e w' ⟨rfl, rfl⟩
    go_wp2_with fail
    refine (rootBack_yes n _ HS.out).mono ?_; rintro e w' ⟨rfl, rfl⟩
    rw [← ez.out]
    go_wp2_with fail
    refine (rootPowers (dirRt n 1) n _ HZ.out.1 (by have := HZ.out.2; omega) hn2).mono ?_
    rintro e w1 ⟨a1, cap1, rfl, hr1, hcap1, hb1⟩
    rw [HPL.out]
    go_wp2_with fail
    refine (with_ok a a1 n m c cap1 xs (powL (dirRt n 1) n) _ (HX.out.below hb1) hr1 HXL.out (HPL.out _) hm HN.out).mono ?_
    rintro e w2 ⟨a2, cap2, rfl, hr2, hcap2, hb2⟩
    rw [HL.out] at hcap2 ⊢
    rw [HF.out] at hr2
    have hlen := HL.out
    rw [HF.out] at hlen
    have HR := Lib.hid hr2
    have HLEN := Lib.hid hlen
    clear hr2 hlen
    go_wp2_with fail
    go_ret2
    exact ⟨a2, cap2, by simp [HLEN.out], HR.out, by rw [HLEN.out]; exact hcap2, chain hb1 hb2⟩

theorem stockDoes_big (a0 : Option Addr) (n c0 : Nat) (d : Int) (w : World) (h : 130 < n) (hn : n ≤ 9223372036854775807) :
    Calls Try.prog 4 #[.slice a0 n c0, .int .i64 d] w fun e w' => e = .returned (.bool true) ∧ Below w.heap.size w w' := by
  go_enter Try.func4, Try.ntmps4
  go_wp2_with fail
  refine (live11 _).mono ?_
  rintro e w7 ⟨rfl, hb7⟩
  go_wp2_with fail
  go_ret
  exact ⟨rfl, hb7⟩

theorem stockDoes_dir (a0 : Option Addr) (n c0 : Nat) (d : Int) (w : World) (h : n ≤ 130) (hd : ¬ (d = 0 ∨ d = 1)) :
    Calls Try.prog 4 #[.slice a0 n c0, .int .i64 d] w fun e w' => e = .returned (.bool true) ∧ Below w.heap.size w w' := by
  have C0 : Hid (∀ w : World, Calls Try.prog 18 #[.slice a0 n c0, .int .i64 d] w fun e w' => e = .returned (.tuple #[.slice none 0 0, .int .i64 2]) ∧ w = w') := fun w => do_dir a0 n c0 d w (by omega)
  have C1 : Hid (∀ w : World, Calls Try.prog 19 #[.int .i64 d] w fun e w' => e = .returned (.bool false) ∧ w = w') := fun w => by
    have := refDirTest d w; rw [show decide (d = 0 ∨ d = 1) = false by simp; omega] at this; exact this
  clear hd
  go_enter Try.func4, Try.ntmps4
  go_wp2_with fail
  refine (C0.out _).mono ?_; rintro e w' ⟨rfl, rfl⟩
  go_wp2_with fail
  refine (C1.out _).mono ?_; rintro e w' ⟨rfl, rfl⟩
  go_wp2_with fail
  refine (live11 _).mono ?_
  rintro e w7 ⟨rfl, hb7⟩
  go_wp2_with fail
  go_ret
  exact ⟨rfl, hb7⟩

theorem stockDoes_size (a0 : Option Addr) (n c0 : Nat) (d : Int) (w : World) (h : n ≤ 130) (hd : d = 0 ∨ d = 1) (hP : hasP2 (n : Int) = false) :
    Calls Try.prog 4 #[.slice a0 n c0, .int .i64 d] w fun e w' => e = .returned (.bool true) ∧ Below w.heap.size w w' := by
  have C0 : Hid (∀ w : World, Calls Try.prog 18 #[.slice a0 n c0, .int .i64 d] w fun e w' => e = .returned (.tuple #[.slice none 0 0, .int .i64 4]) ∧ w = w') := fun w => do_size a0 n c0 d w hd hP (by omega)
  have C1 : Hid (∀ w : World, Calls Try.prog 19 #[.int .i64 d] w fun e w' => e = .returned (.bool true) ∧ w = w') := fun w => by
    have := refDirTest d w; rw [show decide (d = 0 ∨ d = 1) = true by simp; omega] at this; exact this
  have C2 : Hid (∀ w : World, Calls Try.prog 14 #[.int .i64 n] w fun e w' => e = .returned (.bool false) ∧ w = w') := fun w => by rw [← hP]; exact refSt_Has n w (by omega)
  clear hd hP
  go_enter Try.func4, Try.ntmps4
  go_wp2_with fail
  refine (C0.out _).mono ?_; rintro e w' ⟨rfl, rfl⟩
  go_wp2_with fail
  refine (C1.out _).mono ?_; rintro e w' ⟨rfl, rfl⟩
  go_wp2_with fail
  refine (C2.out _).mono ?_; rintro e w' ⟨rfl, rfl⟩
  go_wp2_with fail
  refine (live11 _).mono ?_
  rintro e w7 ⟨rfl, hb7⟩
  go_wp2_with fail
  go_ret
  exact ⟨rfl, hb7⟩

theorem stockDoes_ok (a0 : Option Addr) (n m c0 : Nat) (d : Int) (x : List Int) (w : World) (hx : Row .u64 w a0 x) (hxl : x.length = n) (h : n ≤ 130) (hd : d = 0 ∨ d = 1) (hm : m ≤ 24) (hn : n = 2 ^ m) :
    Calls Try.prog 4 #[.slice a0 n c0, .int .i64 d] w fun e w' => e = .returned (.bool true) ∧ Below w.heap.size w w' := by
  have hP : hasP2 (n : Int) = true := (hasP2_iff _).2 ⟨m, hm, by rw [hn]⟩
  have hs : hasSz (n : Int) = true := by rw [hn]; exact hasSz_pow m hm
  have C1 : Hid (∀ w : World, Calls Try.prog 19 #[.int .i64 d] w fun e w' => e = .returned (.bool true) ∧ w = w') := fun w => by
    have := refDirTest d w; rw [show decide (d = 0 ∨ d = 1) = true by simp; omega] at this; exact this
  have C2 : Hid (∀ w : World, Calls Try.prog 14 #[.int .i64 n] w fun e w' => e = .returned (.bool true) ∧ w = w') := fun w => by rw [← hP]; exact refSt_Has n w (by omega)
  have HX := Lib.hid hx
  have HXL := Lib.hid hxl
  have HS := Lib.hid hs
  have HN := Lib.hid hn
  have HD := Lib.hid hd
  have HL : Hid ((dftL x (dirRt n d)).length = n) := (dftL_len _ _).trans hxl
  clear hx hxl hs hn hd hP
  go_enter Try.func4, Try.ntmps4
  go_wp2_with fail
  refine (do_ok a0 n m c0 d x _ HX.out HXL.out HD.out hm HN.out).mono ?_
  rintro e w1 ⟨a1, cap1, rfl, hr1, hcap1, hb1⟩
  rw [HL.out]
  go_wp2_with fail
  refine (C1.out _).mono ?_; rintro e w' ⟨rfl, rfl⟩
  go_wp2_with fail
  refine (C2.out _).mono ?_; rintro e w' ⟨rfl, rfl⟩
  go_wp2_with fail
  refine (refDft a0 n c0 x d _ (HX.out.below hb1) HXL.out HS.out (by omega) HD.out).mono ?_
  rintro e w2 ⟨a2, cap2, rfl, hr2, hcap2, hb2⟩
  rw [HL.out]
  go_wp2_with fail
  refine (ref_SameT _ _ _ _ _ _ (dftL x (dirRt n d)) (dftL x (dirRt n d)) _ (hr1.below hb2) hr2 HL.out HL.out rfl).mono ?_
  rintro e w3 ⟨rfl, hb3⟩
  go_wp2_with fail
  refine (live11 _).mono ?_
  rintro e w7 ⟨rfl, hb7⟩
  go_wp2_with fail
  go_ret
  exact ⟨rfl, chain (chain (chain hb1 hb2) hb3) hb7⟩

theorem stockDoesW (a0 : Option Addr) (c0 : Nat) (x0 : List Int) (d : Int) (w : World) (h0 : Row .u64 w a0 x0) (k0 : OkCap a0 x0.length c0) (hd : fits .i64 d) :
    Calls Try.prog 4 #[.slice a0 x0.length c0, .int .i64 d] w fun e w' => e = .returned (.bool true) ∧ Below w.heap.size w w' := by
  by_cases hb : x0.length ≤ 130
  · by_cases hd' : d = 0 ∨ d = 1
    · cases hP : hasP2 (x0.length : Int) with
      | false => exact stockDoes_size a0 _ c0 d w hb hd' hP
      | true =>
        obtain ⟨m, hm, he⟩ := (hasP2_iff _).1 hP
        exact stockDoes_ok a0 _ m c0 d x0 w h0 rfl hb hd' hm (by omega)
    · exact stockDoes_dir a0 _ c0 d w hb hd'
  · exact stockDoes_big a0 _ c0 d w (by omega) h0.len
end Go.Proofs.Ytlgklkhijmeldaa
