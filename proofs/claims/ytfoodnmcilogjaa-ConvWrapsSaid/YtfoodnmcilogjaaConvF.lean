/- The laws of products: as calls that return true. -/
import Derived.Test.YtfoodnmcilogjaaConvE
namespace Go.Proofs.Ytfoodnmcilogjaa
open Go.RowKit Sm
set_option linter.unusedVariables false
set_option linter.unusedSimpArgs false

theorem convRef_LinearL (a b : Option Addr) (n m ca cb : Nat) (xs ys : List Int) (w : World) (hx : Row .u64 w a xs) (hy : Row .u64 w b ys) (hn : xs.length = n) (hm : ys.length = m) (hl : n ≤ 4096) (hl2 : m ≤ 4096) :
    Calls Try.prog 45 #[.slice a n ca, .slice b m cb] w (GivesRow .u64 (lnL xs ys) w) := by
  by_cases h : n = 0 ∨ m = 0
  · rw [lnL_nil xs ys (by omega)]
    refine (convRef_Linear_nil a b n m ca cb w h (by omega)).mono ?_
    rintro e w' ⟨rfl, rfl⟩
    exact ⟨none, 0, rfl, Row.nil _ _ _, ⟨Nat.le_refl _, fun _ => rfl⟩, Below.refl _ _⟩
  · rw [lnL_some xs ys (by omega), hn, hm]
    exact convRef_Linear a b n m ca cb xs ys w hx hy hn hm (by omega) (by omega) hl hl2

theorem vref_MulN (a b : Option Addr) (n m ca cb : Nat) (xs ys : List Int) (w : World) (hx : Row .u64 w a xs) (hy : Row .u64 w b ys) (hn : xs.length = n) (hm : ys.length = m) (hl : n = m) (hs : n ≤ 16777216) :
    Calls Try.prog 65 #[.slice a n ca, .slice b m cb] w (GivesRow .u64 (mulL xs ys) w) := by
  subst hn hm
  exact vref_Mul a b ca cb xs ys w hx hy hl hs

theorem convTells_big (a0 a1 : Option Addr) (n m c0 c1 : Nat) (w : World) (h : 60 < n ∨ (n ≤ 60 ∧ 60 < m)) (hn : n ≤ 9223372036854775807) (hm : m ≤ 9223372036854775807) :
    Calls Try.prog 8 #[.slice a0 n c0, .slice a1 m c1] w fun e w' => e = .returned (.bool true) ∧ Below w.heap.size w w' := by
  rcases h with h1 | ⟨h1, h2⟩
  all_goals
    go_enter Try.func8, Try.ntmps8
    go_wp2_with fail
    refine (live07 _).mono ?_
    rintro e w7 ⟨rfl, hb7⟩
    go_wp2_with fail
    go_ret
    exact ⟨rfl, hb7⟩

set_option maxHeartbeats 1000000 in
theorem convTells_len (a0 a1 : Option Addr) (n m c0 c1 : Nat) (x y : List Int) (w : World) (hx : Row .u64 w a0 x) (hy : Row .u64 w a1 y) (hn : x.length = n) (hm : y.length = m) (h1 : n ≤ 60) (h2 : m ≤ 60) (hnm : n ≠ m) :
    Calls Try.prog 8 #[.slice a0 n c0, .slice a1 m c1] w fun e w' => e = .returned (.bool true) ∧ Below w.heap.size w w' := by
  have HX := Lib.hid hx
  have HY := Lib.hid hy
  have HN := Lib.hid hn
  have HM := Lib.hid hm
  have h0 : ((n : Int) != (m : Int)) = true := by simp; omega
  have HNM := Lib.hid hnm
  obtain ⟨N, hN⟩ : ∃ N, (lnL x y).length = N := ⟨_, rfl⟩
  have HL := Lib.hid hN
  clear hx hy hn hm hnm hN
  go_enter Try.func8, Try.ntmps8
  go_wp2_with fail
  refine (conv_Linear _ _ n m _ _ x y _ HX.out HY.out HN.out HM.out (by omega) (by omega)).mono ?_
  rintro e w1 ⟨b1, cap1, rfl, hr1, hcap1, hb1⟩
  rw [HL.out]
  go_wp2_with fail
  refine (convRef_LinearL _ _ n m _ _ x y _ (HX.out.below hb1) (HY.out.below hb1) HN.out HM.out (by omega) (by omega)).mono ?_
  rintro e w2 ⟨b2, cap2, rfl, hr2, hcap2, hb2⟩
  rw [HL.out]
  have hbl := chain hb1 hb2
  go_wp2_with fail
  refine (ref_SameT _ _ _ _ _ _ (lnL x y) (lnL x y) _ (hr1.below hb2) hr2 HL.out HL.out rfl).mono ?_
  rintro e w3 ⟨rfl, hb3⟩
  have hbl := chain hbl hb3
  go_wp2_with fail
  refine (conv_Cyclic_len _ _ n m _ _ _ HNM.out).mono ?_; rintro e w' ⟨rfl, rfl⟩
  go_wp2_with fail
  refine (live07 _).mono ?_
  rintro e w7 ⟨rfl, hb7⟩
  go_wp2_with fail
  go_ret
  exact ⟨rfl, chain hbl hb7⟩

set_option maxHeartbeats 1600000 in
theorem convTells_same (a0 a1 : Option Addr) (n c0 c1 : Nat) (x y : List Int) (w : World) (hx : Row .u64 w a0 x) (hy : Row .u64 w a1 y) (hn : x.length = n) (hm : y.length = n) (h1 : n ≤ 60) :
    Calls Try.prog 8 #[.slice a0 n c0, .slice a1 n c1] w fun e w' => e = .returned (.bool true) ∧ Below w.heap.size w w' := by
  have HX := Lib.hid hx
  have HY := Lib.hid hy
  have HN := Lib.hid hn
  have HM := Lib.hid hm
  have h0 : ((n : Int) != (n : Int)) = false := bfalse rfl
  obtain ⟨N, hN⟩ : ∃ N, (lnL x y).length = N := ⟨_, rfl⟩
  have HL := Lib.hid hN
  have HC : Hid ((cvL x y n).length = n) := cvL_len _ _ _
  have HWL : Hid (0 < n → wrL (lnL x y) n = cvL x y n) := fun h => by rw [lnL_some x y (by omega), hn, hm]; exact wrap_lin x y n hn hm h
  have hN2 : N ≤ 200 := by
    rw [← hN]; unfold lnL; split
    · simp
    · rw [cvL_len]; omega
  clear hx hy hn hm hN
  by_cases hz : n = 0
  · subst hz
    go_enter Try.func8, Try.ntmps8
    go_wp2_with fail
    refine (conv_Linear _ _ 0 0 _ _ x y _ HX.out HY.out HN.out HM.out (by omega) (by omega)).mono ?_
    rintro e w1 ⟨b1, cap1, rfl, hr1, hcap1, hb1⟩
    rw [HL.out]
    go_wp2_with fail
    refine (convRef_LinearL _ _ 0 0 _ _ x y _ (HX.out.below hb1) (HY.out.below hb1) HN.out HM.out (by omega) (by omega)).mono ?_
    rintro e w2 ⟨b2, cap2, rfl, hr2, hcap2, hb2⟩
    rw [HL.out]
    have hbl := chain hb1 hb2
    go_wp2_with fail
    refine (ref_SameT _ _ _ _ _ _ (lnL x y) (lnL x y) _ (hr1.below hb2) hr2 HL.out HL.out rfl).mono ?_
    rintro e w3 ⟨rfl, hb3⟩
    have hbl := chain hbl hb3
    go_wp2_with fail
    refine (conv_Cyclic _ _ 0 _ _ x y _ (HX.out.below hbl) (HY.out.below hbl) HN.out HM.out (by omega)).mono ?_
    rintro e w4 ⟨b4, cap4, rfl, hr4, hcap4, hb4⟩
    rw [HC.out]
    have hbl := chain hbl hb4
    go_wp2_with fail
    refine (convRef_Cyclic _ _ 0 _ _ x y _ (HX.out.below hbl) (HY.out.below hbl) HN.out HM.out (by omega)).mono ?_
    rintro e w5 ⟨b5, cap5, rfl, hr5, hcap5, hb5⟩
    rw [HC.out]
    have hbl := chain hbl hb5
    go_wp2_with fail
    refine (ref_SameT _ _ _ _ _ _ (cvL x y 0) (cvL x y 0) _ (hr4.below hb5) hr5 HC.out HC.out rfl).mono ?_
    rintro e w6 ⟨rfl, hb6⟩
    have hbl := chain hbl hb6
    go_wp2_with fail
    refine (live07 _).mono ?_
    rintro e w7 ⟨rfl, hb7⟩
    go_wp2_with fail
    go_ret
    exact ⟨rfl, chain hbl hb7⟩
  · have z1 : ((n : Int) == 0) = false := bno (by omega)
    have hwl := HWL.out (by omega)
    have HW := Lib.hid hwl
    clear hwl hz
    go_enter Try.func8, Try.ntmps8
    go_wp2_with fail
    refine (conv_Linear _ _ n n _ _ x y _ HX.out HY.out HN.out HM.out (by omega) (by omega)).mono ?_
    rintro e w1 ⟨b1, cap1, rfl, hr1, hcap1, hb1⟩
    rw [HL.out]
    go_wp2_with fail
    refine (convRef_LinearL _ _ n n _ _ x y _ (HX.out.below hb1) (HY.out.below hb1) HN.out HM.out (by omega) (by omega)).mono ?_
    rintro e w2 ⟨b2, cap2, rfl, hr2, hcap2, hb2⟩
    rw [HL.out]
    have hbl := chain hb1 hb2
    go_wp2_with fail
    refine (ref_SameT _ _ _ _ _ _ (lnL x y) (lnL x y) _ (hr1.below hb2) hr2 HL.out HL.out rfl).mono ?_
    rintro e w3 ⟨rfl, hb3⟩
    have hbl := chain hbl hb3
    have HR1 := Lib.hid (hr1.below (chain hb2 hb3))
    go_wp2_with fail
    refine (conv_Cyclic _ _ n _ _ x y _ (HX.out.below hbl) (HY.out.below hbl) HN.out HM.out (by omega)).mono ?_
    rintro e w4 ⟨b4, cap4, rfl, hr4, hcap4, hb4⟩
    rw [HC.out]
    have hbl := chain hbl hb4
    go_wp2_with fail
    refine (convRef_Cyclic _ _ n _ _ x y _ (HX.out.below hbl) (HY.out.below hbl) HN.out HM.out (by omega)).mono ?_
    rintro e w5 ⟨b5, cap5, rfl, hr5, hcap5, hb5⟩
    rw [HC.out]
    have hbl := chain hbl hb5
    go_wp2_with fail
    refine (ref_SameT _ _ _ _ _ _ (cvL x y n) (cvL x y n) _ (hr4.below hb5) hr5 HC.out HC.out rfl).mono ?_
    rintro e w6 ⟨rfl, hb6⟩
    have hbl := chain hbl hb6
    go_wp2_with fail
    refine (convRef_Wrap _ N n _ (lnL x y) _ (HR1.out.below (chain (chain hb4 hb5) hb6)) HL.out (by omega) (by omega)).mono ?_
    rintro e w8 ⟨b8, cap8, rfl, hr8, hcap8, hb8⟩
    rw [HW.out] at hr8 hcap8 ⊢
    rw [HC.out]
    have hbl := chain hbl hb8
    go_wp2_with fail
    refine (ref_SameT _ _ _ _ _ _ (cvL x y n) (cvL x y n) _ hr8 (hr4.below (chain (chain hb5 hb6) hb8)) HC.out HC.out rfl).mono ?_
    rintro e w9 ⟨rfl, hb9⟩
    have hbl := chain hbl hb9
    go_wp2_with fail
    refine (live07 _).mono ?_
    rintro e w7 ⟨rfl, hb7⟩
    go_wp2_with fail
    go_ret
    exact ⟨rfl, chain hbl hb7⟩

theorem convTellsW (a0 : Option Addr) (c0 : Nat) (x0 : List Int) (a1 : Option Addr) (c1 : Nat) (x1 : List Int) (w : World) (h0 : Row .u64 w a0 x0) (k0 : OkCap a0 x0.length c0) (h1 : Row .u64 w a1 x1) (k1 : OkCap a1 x1.length c1) :
    Calls Try.prog 8 #[.slice a0 x0.length c0, .slice a1 x1.length c1] w fun e w' => e = .returned (.bool true) ∧ Below w.heap.size w w' := by
  by_cases hb : x0.length ≤ 60 ∧ x1.length ≤ 60
  · by_cases hnm : x0.length = x1.length
    · rw [← hnm]; exact convTells_same a0 a1 _ c0 c1 x0 x1 w h0 h1 rfl hnm.symm hb.1
    · exact convTells_len a0 a1 _ _ c0 c1 x0 x1 w h0 h1 rfl rfl hb.1 hb.2 hnm
  · exact convTells_big a0 a1 _ _ c0 c1 w (by omega) h0.len h1.len

/-! ### The transform of a product -/
set_option maxHeartbeats 1000000 in
theorem convTheorem_no (a0 a1 : Option Addr) (n m c0 c1 : Nat) (w : World) (hn : n ≤ 9223372036854775807) (hm : m ≤ 9223372036854775807) (h : n ≠ m ∨ (n = m ∧ 60 < n) ∨ (n = m ∧ n ≤ 60 ∧ hasSz n = false)) :
    Calls Try.prog 17 #[.slice a0 n c0, .slice a1 m c1] w fun e w' => e = .returned (.bool true) ∧ Below w.heap.size w w' := by
  rcases h with h1 | ⟨h1, h2⟩ | ⟨h1, h2, h3⟩
  · have h0 : ((n : Int) != (m : Int)) = true := by simp; omega
    clear h1
    go_enter Try.func17, Try.ntmps17
    go_wp2_with fail
    refine (live07 _).mono ?_
    rintro e w7 ⟨rfl, hb7⟩
    go_wp2_with fail
    go_ret
    exact ⟨rfl, hb7⟩
  · subst h1
    have h0 : ((n : Int) != (n : Int)) = false := bfalse rfl
    go_enter Try.func17, Try.ntmps17
    go_wp2_with fail
    refine (live07 _).mono ?_
    rintro e w7 ⟨rfl, hb7⟩
    go_wp2_with fail
    go_ret
    exact ⟨rfl, hb7⟩
  · subst h1
    have h0 : ((n : Int) != (n : Int)) = false := bfalse rfl
    have HS := Lib.hid h3
    clear h3
    go_enter Try.func17, Try.ntmps17
    go_wp2_with fail
    refine (refHas_no _ _ HS.out (by omega)).mono ?_; rintro e w' ⟨rfl, rfl⟩
    go_wp2_with fail
    refine (live07 _).mono ?_
    rintro e w7 ⟨rfl, hb7⟩
    go_wp2_with fail
    go_ret
    exact ⟨rfl, hb7⟩

set_option maxHeartbeats 1600000 in
theorem convTheorem_yes (a0 a1 : Option Addr) (n c0 c1 : Nat) (x y : List Int) (w : World) (hx : Row .u64 w a0 x) (hy : Row .u64 w a1 y) (hn : x.length = n) (hm : y.length = n) (h1 : n ≤ 60) (hs : hasSz n = true) :
    Calls Try.prog 17 #[.slice a0 n c0, .slice a1 n c1] w fun e w' => e = .returned (.bool true) ∧ Below w.heap.size w w' := by
  have hr := isRoot_dir n 0 hs
  have hl := dft_conv x y n _ _ hr hn hm
  have HLAW := Lib.hid hl
  have HX := Lib.hid hx
  have HY := Lib.hid hy
  have HN := Lib.hid hn
  have HM := Lib.hid hm
  have HS := Lib.hid hs
  have h0 : ((n : Int) != (n : Int)) = false := bfalse rfl
  have h00 : ((n : Int) == (n : Int)) = true := by simp
  have HC : Hid ((cvL x y n).length = n) := cvL_len _ _ _
  have HDX : Hid ((dftL x (dirRt n 0)).length = n) := (dftL_len _ _).trans hn
  have HDY : Hid ((dftL y (dirRt n 0)).length = n) := (dftL_len _ _).trans hm
  have HDC : Hid ((dftL (cvL x y n) (dirRt n 0)).length = n) := (dftL_len _ _).trans (cvL_len _ _ _)
  have HML : Hid ((mulL (dftL x (dirRt n 0)) (dftL y (dirRt n 0))).length = n) := (zipL_len _ _ _).trans ((dftL_len _ _).trans hn)
  clear hx hy hn hm hs hr hl
  go_enter Try.func17, Try.ntmps17
  go_wp2_with fail
  refine (refHas_yes _ _ HS.out).mono ?_; rintro e w' ⟨rfl, rfl⟩
  go_wp2_with fail
  refine (conv_Cyclic _ _ n _ _ x y _ HX.out HY.out HN.out HM.out (by omega)).mono ?_
  rintro e w1 ⟨b1, cap1, rfl, hr1, hcap1, hb1⟩
  rw [HC.out]
  go_wp2_with fail
  refine (dftDft_ok _ n _ x 0 _ (HX.out.below hb1) HN.out HS.out (by omega) (.inl rfl)).mono ?_
  rintro e w2 ⟨b2, cap2, rfl, hr2, hcap2, hb2⟩
  rw [HDX.out]
  have hbl := chain hb1 hb2
  go_wp2_with fail
  refine (dftDft_ok _ n _ y 0 _ (HY.out.below hbl) HM.out HS.out (by omega) (.inl rfl)).mono ?_
  rintro e w3 ⟨b3, cap3, rfl, hr3, hcap3, hb3⟩
  rw [HDY.out]
  have hbl := chain hbl hb3
  go_wp2_with fail
  refine (dftDft_ok _ n _ (cvL x y n) 0 _ (hr1.below (chain hb2 hb3)) HC.out HS.out (by omega) (.inl rfl)).mono ?_
  rintro e w4 ⟨b4, cap4, rfl, hr4, hcap4, hb4⟩
  rw [HDC.out]
  have hbl := chain hbl hb4
  go_wp2_with fail
  refine (vref_MulN _ _ n n _ _ _ _ _ (hr2.below (chain hb3 hb4)) (hr3.below hb4) HDX.out HDY.out rfl (by omega)).mono ?_
  rintro e w5 ⟨b5, cap5, rfl, hr5, hcap5, hb5⟩
  rw [HML.out]
  have hbl := chain hbl hb5
  go_wp2_with fail
  refine (ref_SameT _ _ _ _ _ _ (dftL (cvL x y n) (dirRt n 0)) (mulL (dftL x (dirRt n 0)) (dftL y (dirRt n 0))) _ (hr4.below hb5) hr5 HDC.out HML.out HLAW.out).mono ?_
  rintro e w6 ⟨rfl, hb6⟩
  have hbl := chain hbl hb6
  go_wp2_with fail
  refine (live07 _).mono ?_
  rintro e w7 ⟨rfl, hb7⟩
  go_wp2_with fail
  go_ret
  exact ⟨rfl, chain hbl hb7⟩

theorem convTheoremW (a0 : Option Addr) (c0 : Nat) (x0 : List Int) (a1 : Option Addr) (c1 : Nat) (x1 : List Int) (w : World) (h0 : Row .u64 w a0 x0) (k0 : OkCap a0 x0.length c0) (h1 : Row .u64 w a1 x1) (k1 : OkCap a1 x1.length c1) :
    Calls Try.prog 17 #[.slice a0 x0.length c0, .slice a1 x1.length c1] w fun e w' => e = .returned (.bool true) ∧ Below w.heap.size w w' := by
  by_cases hnm : x0.length = x1.length
  · by_cases hb : x0.length ≤ 60
    · cases hs : hasSz x0.length with
      | true => rw [← hnm]; exact convTheorem_yes a0 a1 _ c0 c1 x0 x1 w h0 h1 rfl hnm.symm hb hs
      | false => exact convTheorem_no a0 a1 _ _ c0 c1 w h0.len h1.len (.inr (.inr ⟨hnm, hb, hs⟩))
    · exact convTheorem_no a0 a1 _ _ c0 c1 w h0.len h1.len (.inr (.inl ⟨hnm, by omega⟩))
  · exact convTheorem_no a0 a1 _ _ c0 c1 w h0.len h1.len (.inl hnm)
end Go.Proofs.Ytfoodnmcilogjaa
