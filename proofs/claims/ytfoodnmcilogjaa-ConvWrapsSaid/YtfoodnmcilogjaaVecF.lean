/- Which rows are the same; the law VecTells. -/
import Derived.Test.YtfoodnmcilogjaaVecE
namespace Go.Proofs.Ytfoodnmcilogjaa
open Go.RowKit
set_option linter.unusedVariables false
set_option linter.unusedSimpArgs false

def redL (xs : List Int) : List Int := xs.map (· % 18446744069414584321)

set_option maxHeartbeats 800000 in
theorem vec_Equal (a b : Option Addr) (ca cb : Nat) (xs ys : List Int) (w : World) (hx : Row .u64 w a xs) (hy : Row .u64 w b ys) :
    Calls Try.prog 85 #[.slice a xs.length ca, .slice b ys.length cb, .func (.func 86) #[] #[]] w fun e w' => e = .returned (.bool (decide (redL xs = redL ys))) ∧ w = w' := by
  have hlx := hx.len
  have hly := hy.len
  by_cases hl : xs.length = ys.length
  · have HL := Lib.hid hl
    have HX := Lib.hid hx
    have HY := Lib.hid hy
    have hne : ((xs.length : Int) != (ys.length : Int)) = false := by simp [hl]
    clear hx hy hl
    go_enter Try.func85, Try.ntmps85
    go_wp2_with fail
    go_loop [17] (fun i => ∃ k : Nat, k ≤ xs.length ∧ i = .int .i64 k ∧ Hid (∀ j, j < k → nth xs j % 18446744069414584321 = nth ys j % 18446744069414584321)) (fun i => xs.length - (intOf i).toNat)
    case atStart => exact ⟨0, Nat.zero_le _, rfl, fun j hj => by omega⟩
    case round =>
      obtain ⟨k, hk, rfl, H⟩ := hrel
      by_cases hlt : k < xs.length
      · have hlt' : k < ys.length := by have := HL.out; omega
        obtain ⟨b1, o1, rfl, hc1⟩ := HX.out.at (by omega)
        obtain ⟨b2, o2, rfl, hc2⟩ := HY.out.at (by omega)
        have h1 := hc1 k hlt
        have h2 := hc2 k hlt'
        have f1 := fits_u64.1 (HX.out.wf _ (nth_mem hlt))
        have f2 := fits_u64.1 (HY.out.wf _ (nth_mem hlt'))
        have i3 : (k : Int) < (ys.length : Int) := by omega
        clear hc1 hc2
        by_cases he : nth xs k % 18446744069414584321 = nth ys k % 18446744069414584321
        · have hbe : (nth xs k % 18446744069414584321 == nth ys k % 18446744069414584321) = true := by simp [he]
          have HE := Lib.hid he
          clear he
          go_wp2_with fail
          refine (vec_Same1 _ _ _ f1.1 f1.2 f2.1 f2.2).mono ?_; rintro e w' ⟨rfl, rfl⟩
          go_wp2_with fail
          go_round
          case rel =>
            refine ⟨k + 1, by omega, by go_num, ?_⟩
            intro j hj
            by_cases hjk : j < k
            · exact H.out j hjk
            · obtain rfl : j = k := by omega
              exact HE.out
          case measure => simp [intOf]; omega
        · have hbe : (nth xs k % 18446744069414584321 == nth ys k % 18446744069414584321) = false := by simp [he]
          have HE : Hid (redL xs ≠ redL ys) := by
            intro h; apply he
            rw [← nth_map (· % 18446744069414584321) xs k hlt, ← nth_map (· % 18446744069414584321) ys k hlt']
            exact congrArg (fun l => nth l k) h
          clear he
          go_wp2_with fail
          refine (vec_Same1 _ _ _ f1.1 f1.2 f2.1 f2.2).mono ?_; rintro e w' ⟨rfl, rfl⟩
          go_wp2_with fail
          go_ret
          exact ⟨ret_bool (by have := HE.out; simp [this]), rfl⟩
      · go_wp2_with fail
        go_ret
        have : redL xs = redL ys := ext_nth (by simp [redL, HL.out]) (fun i hi => by
          have hi' : i < xs.length := by simpa [redL] using hi
          show nth (xs.map (· % 18446744069414584321)) i = nth (ys.map (· % 18446744069414584321)) i
          rw [nth_map _ _ _ hi', nth_map _ _ _ (by have := HL.out; omega)]
          exact H.out i (by omega))
        exact ⟨ret_bool (by simp [this]), rfl⟩
  · have hne : ((xs.length : Int) != (ys.length : Int)) = true := by simp; omega
    have : redL xs ≠ redL ys := fun h => hl (by have := congrArg List.length h; simpa [redL] using this)
    have HE := Lib.hid this
    clear this hl hx hy
    go_enter Try.func85, Try.ntmps85
    go_wp2_with fail
    go_ret
    exact ⟨ret_bool (by have := HE.out; simp [this]), rfl⟩

set_option maxHeartbeats 400000 in
theorem vec_Same (a b : Option Addr) (ca cb : Nat) (xs ys : List Int) (w : World) (hx : Row .u64 w a xs) (hy : Row .u64 w b ys) :
    Calls Try.prog 64 #[.slice a xs.length ca, .slice b ys.length cb] w fun e w' => e = .returned (.bool (decide (redL xs = redL ys))) ∧ w = w' := by
  have HX := Lib.hid hx
  have HY := Lib.hid hy
  clear hx hy
  go_enter Try.func64, Try.ntmps64
  go_wp2_with fail
  refine (vec_Equal a b ca cb xs ys _ HX.out HY.out).mono ?_; rintro e w' ⟨rfl, rfl⟩
  go_wp2_with fail
  go_ret
  exact ⟨rfl, rfl⟩

theorem redL_len (xs : List Int) : (redL xs).length = xs.length := by simp [redL]
theorem vref_RedR (a : Option Addr) (cap : Nat) (xs : List Int) (w : World) (hx : Row .u64 w a xs) (hl : xs.length ≤ 16777216) :
    Calls Try.prog 24 #[.slice a xs.length cap] w (GivesRow .u64 (redL xs) w) := vref_Red a cap xs w hx hl
theorem vec_RedR (a : Option Addr) (cap : Nat) (xs : List Int) (w : World) (hx : Row .u64 w a xs) (hl : xs.length ≤ 16777216) :
    Calls Try.prog 61 #[.slice a xs.length cap] w (GivesRow .u64 (redL xs) w) := vec_Red a cap xs w hx hl

theorem addL_len (xs ys : List Int) : (addL xs ys).length = xs.length := zipL_len _ _ _
theorem mulL_len (xs ys : List Int) : (mulL xs ys).length = xs.length := zipL_len _ _ _
theorem scaleL_len (xs : List Int) (c : Int) : (scaleL xs c).length = xs.length := by simp [scaleL]

set_option maxHeartbeats 2000000 in
theorem vecTells_eq (a b : Option Addr) (ca cb : Nat) (xs ys : List Int) (c : Int) (w : World) (hx : Row .u64 w a xs) (hy : Row .u64 w b ys) (h0 : 0 ≤ c) (h1 : c < 18446744073709551616) (hl : xs.length = ys.length) (hs : xs.length ≤ 200) :
    Calls Try.prog 13 #[.slice a xs.length ca, .slice b ys.length cb, .int .u64 c] w fun e w' => e = .returned (.bool true) ∧ Below w.heap.size w w' := by
  have HX := Lib.hid hx
  have HY := Lib.hid hy
  have HL := Lib.hid hl
  have hs2 : ys.length ≤ 200 := by omega
  have hne : ((xs.length : Int) != (ys.length : Int)) = false := by simp [hl]
  have hdec : (decide (redL xs = redL ys) != decide (redL xs = redL ys)) = false := by simp
  have hsum : (sumP (mulL xs ys) == sumP (mulL xs ys)) = true := by simp
  clear hx hy hl
  go_enter Try.func13, Try.ntmps13
  go_wp2_with fail
  refine (vec_Add a b _ _ ca cb xs ys _ HX.out HY.out rfl rfl HL.out (by omega)).mono ?_
  rintro e w1 ⟨a1, cap1, rfl, hr1, hcap1, hb1⟩
  go_wp2_with fail
  refine (vec_Mul a b _ _ ca cb xs ys _ (HX.out.below hb1) (HY.out.below hb1) rfl rfl HL.out (by omega)).mono ?_
  rintro e w2 ⟨a2, cap2, rfl, hr2, hcap2, hb2⟩
  have hB2 := chain hb1 hb2
  go_wp2_with fail
  refine (vec_Dot a b _ _ ca cb xs ys _ (HX.out.below hB2) (HY.out.below hB2) rfl rfl HL.out (by omega)).mono ?_
  rintro e w3 ⟨rfl, hb3⟩
  have hB3 := chain hB2 hb3
  go_wp2_with fail
  refine (vec_RedR a ca xs _ (HX.out.below hB3) (by omega)).mono ?_
  rintro e w4 ⟨a4, cap4, rfl, hr4, hcap4, hb4⟩
  have hB4 := chain hB3 hb4
  go_wp2_with fail
  refine (vref_RedR a ca xs _ (HX.out.below hB4) (by omega)).mono ?_
  rintro e w5 ⟨a5, cap5, rfl, hr5, hcap5, hb5⟩
  have hB5 := chain hB4 hb5
  go_wp2_with fail
  refine (ref_SameT _ _ _ _ _ _ (redL xs) (redL xs) _ (hr4.below hb5) hr5 (by simp [redL_len]) (by simp [redL_len]) rfl).mono ?_
  rintro e w6 ⟨rfl, hb6⟩
  have hB6 := chain hB5 hb6
  go_wp2_with fail
  refine (vec_Scale a ca xs c _ (HX.out.below hB6) (by omega) h0 h1).mono ?_
  rintro e w7 ⟨a7, cap7, rfl, hr7, hcap7, hb7⟩
  have hB7 := chain hB6 hb7
  go_wp2_with fail
  refine (vref_Scale a ca xs c _ (HX.out.below hB7) (by omega) h0 h1).mono ?_
  rintro e w8 ⟨a8, cap8, rfl, hr8, hcap8, hb8⟩
  have hB8 := chain hB7 hb8
  go_wp2_with fail
  refine (ref_SameT _ _ _ _ _ _ (scaleL xs c) (scaleL xs c) _ (hr7.below hb8) hr8 (by simp [scaleL_len]) (by simp [scaleL_len]) rfl).mono ?_
  rintro e w9 ⟨rfl, hb9⟩
  have hB9 := chain hB8 hb9
  go_wp2_with fail
  refine (vec_Same a b ca cb xs ys _ (HX.out.below hB9) (HY.out.below hB9)).mono ?_
  rintro e w9' ⟨rfl, rfl⟩
  go_wp2_with fail
  refine (vref_RedR a ca xs _ (HX.out.below hB9) (by omega)).mono ?_
  rintro e w10 ⟨a10, cap10, rfl, hr10, hcap10, hb10⟩
  have hB10 := chain hB9 hb10
  go_wp2_with fail
  refine (vref_RedR b cb ys _ (HY.out.below hB10) (by omega)).mono ?_
  rintro e w11 ⟨a11, cap11, rfl, hr11, hcap11, hb11⟩
  have hB11 := chain hB10 hb11
  go_wp2_with fail
  refine (ref_SameN _ _ _ _ _ _ (redL xs) (redL ys) _ (hr10.below hb11) hr11 (by simp [redL_len]) (by simp [redL_len])).mono ?_
  rintro e w12 ⟨rfl, hb12⟩
  have hB12 := chain hB11 hb12
  go_wp2_with fail
  refine (vref_Add a b ca cb xs ys _ (HX.out.below hB12) (HY.out.below hB12) HL.out (by omega)).mono ?_
  rintro e w13 ⟨a13, cap13, rfl, hr13, hcap13, hb13⟩
  have hB13 := chain hB12 hb13
  have hC13 : Below w1.heap.size w1 w13 := chain (chain (chain (chain (chain (chain (chain (chain (chain (chain (chain hb2 hb3) hb4) hb5) hb6) hb7) hb8) hb9) hb10) hb11) hb12) hb13
  go_wp2_with fail
  refine (ref_SameT _ _ _ _ _ _ (addL xs ys) (addL xs ys) _ (hr1.below hC13) hr13 (by simp [addL_len]) (by simp [addL_len]) rfl).mono ?_
  rintro e w14 ⟨rfl, hb14⟩
  have hB14 := chain hB13 hb14
  go_wp2_with fail
  refine (vref_Mul a b ca cb xs ys _ (HX.out.below hB14) (HY.out.below hB14) HL.out (by omega)).mono ?_
  rintro e w15 ⟨a15, cap15, rfl, hr15, hcap15, hb15⟩
  have hB15 := chain hB14 hb15
  have hC15 : Below w2.heap.size w2 w15 := chain (chain (chain (chain (chain (chain (chain (chain (chain (chain (chain (chain hb3 hb4) hb5) hb6) hb7) hb8) hb9) hb10) hb11) hb12) hb13) hb14) hb15
  go_wp2_with fail
  refine (ref_SameT _ _ _ _ _ _ (mulL xs ys) (mulL xs ys) _ (hr2.below hC15) hr15 (by simp [mulL_len]) (by simp [mulL_len]) rfl).mono ?_
  rintro e w16 ⟨rfl, hb16⟩
  have hB16 := chain hB15 hb16
  go_wp2_with fail
  refine (vref_Dot a b ca cb xs ys _ (HX.out.below hB16) (HY.out.below hB16) HL.out (by omega)).mono ?_
  rintro e w17 ⟨rfl, hb17⟩
  have hB17 := chain hB16 hb17
  go_wp2_with fail
  refine (live05 _).mono ?_
  rintro e w18 ⟨rfl, hb18⟩
  go_wp2_with fail
  go_ret
  exact ⟨rfl, chain hB17 hb18⟩

set_option maxHeartbeats 2000000 in
theorem vecTells_ne (a b : Option Addr) (ca cb : Nat) (xs ys : List Int) (c : Int) (w : World) (hx : Row .u64 w a xs) (hy : Row .u64 w b ys) (h0 : 0 ≤ c) (h1 : c < 18446744073709551616) (hl : xs.length ≠ ys.length) (hs : xs.length ≤ 200) (hs2 : ys.length ≤ 200) :
    Calls Try.prog 13 #[.slice a xs.length ca, .slice b ys.length cb, .int .u64 c] w fun e w' => e = .returned (.bool true) ∧ Below w.heap.size w w' := by
  have HX := Lib.hid hx
  have HY := Lib.hid hy
  have HL := Lib.hid hl
  have hne : ((xs.length : Int) != (ys.length : Int)) = true := by simp; omega
  have hdec : (decide (redL xs = redL ys) != decide (redL xs = redL ys)) = false := by simp
  clear hx hy hl
  go_enter Try.func13, Try.ntmps13
  go_wp2_with fail
  refine (vec_Add_no a b _ _ ca cb _ HL.out (by omega) (by omega)).mono ?_
  rintro e w1 ⟨a1, cap1, rfl, hr1, hcap1, hb1⟩
  go_wp2_with fail
  refine (vec_Mul_no a b _ _ ca cb _ HL.out (by omega) (by omega)).mono ?_
  rintro e w2 ⟨a2, cap2, rfl, hr2, hcap2, hb2⟩
  have hB2 := chain hb1 hb2
  go_wp2_with fail
  refine (vec_Dot_no a b _ _ ca cb _ HL.out (by omega) (by omega)).mono ?_
  rintro e w3 ⟨rfl, hb3⟩
  have hB3 := chain hB2 hb3
  go_wp2_with fail
  refine (vec_RedR a ca xs _ (HX.out.below hB3) (by omega)).mono ?_
  rintro e w4 ⟨a4, cap4, rfl, hr4, hcap4, hb4⟩
  have hB4 := chain hB3 hb4
  go_wp2_with fail
  refine (vref_RedR a ca xs _ (HX.out.below hB4) (by omega)).mono ?_
  rintro e w5 ⟨a5, cap5, rfl, hr5, hcap5, hb5⟩
  have hB5 := chain hB4 hb5
  go_wp2_with fail
  refine (ref_SameT _ _ _ _ _ _ (redL xs) (redL xs) _ (hr4.below hb5) hr5 (by simp [redL_len]) (by simp [redL_len]) rfl).mono ?_
  rintro e w6 ⟨rfl, hb6⟩
  have hB6 := chain hB5 hb6
  go_wp2_with fail
  refine (vec_Scale a ca xs c _ (HX.out.below hB6) (by omega) h0 h1).mono ?_
  rintro e w7 ⟨a7, cap7, rfl, hr7, hcap7, hb7⟩
  have hB7 := chain hB6 hb7
  go_wp2_with fail
  refine (vref_Scale a ca xs c _ (HX.out.below hB7) (by omega) h0 h1).mono ?_
  rintro e w8 ⟨a8, cap8, rfl, hr8, hcap8, hb8⟩
  have hB8 := chain hB7 hb8
  go_wp2_with fail
  refine (ref_SameT _ _ _ _ _ _ (scaleL xs c) (scaleL xs c) _ (hr7.below hb8) hr8 (by simp [scaleL_len]) (by simp [scaleL_len]) rfl).mono ?_
  rintro e w9 ⟨rfl, hb9⟩
  have hB9 := chain hB8 hb9
  go_wp2_with fail
  refine (vec_Same a b ca cb xs ys _ (HX.out.below hB9) (HY.out.below hB9)).mono ?_
  rintro e w9' ⟨rfl, rfl⟩
  go_wp2_with fail
  refine (vref_RedR a ca xs _ (HX.out.below hB9) (by omega)).mono ?_
  rintro e w10 ⟨a10, cap10, rfl, hr10, hcap10, hb10⟩
  have hB10 := chain hB9 hb10
  go_wp2_with fail
  refine (vref_RedR b cb ys _ (HY.out.below hB10) (by omega)).mono ?_
  rintro e w11 ⟨a11, cap11, rfl, hr11, hcap11, hb11⟩
  have hB11 := chain hB10 hb11
  go_wp2_with fail
  refine (ref_SameN _ _ _ _ _ _ (redL xs) (redL ys) _ (hr10.below hb11) hr11 (by simp [redL_len]) (by simp [redL_len])).mono ?_
  rintro e w12 ⟨rfl, hb12⟩
  have hB12 := chain hB11 hb12
  go_wp2_with fail
  refine (live05 _).mono ?_
  rintro e w18 ⟨rfl, hb18⟩
  go_wp2_with fail
  go_ret
  exact ⟨rfl, chain hB12 hb18⟩

theorem vecTellsW (a : Option Addr) (ca : Nat) (xs : List Int) (b : Option Addr) (cb : Nat) (ys : List Int) (c : Int) (w : World) (hx : Row .u64 w a xs) (hcap : OkCap a xs.length ca) (hy : Row .u64 w b ys) (hcap2 : OkCap b ys.length cb) (hc : fits .u64 c) :
    Calls Try.prog 13 #[.slice a xs.length ca, .slice b ys.length cb, .int .u64 c] w fun e w' => e = .returned (.bool true) ∧ Below w.heap.size w w' := by
  have hc' := fits_u64.1 hc
  have hlx := hx.len
  have hly := hy.len
  by_cases hg : xs.length ≤ 200 ∧ ys.length ≤ 200
  · by_cases hl : xs.length = ys.length
    · exact vecTells_eq a b ca cb xs ys c w hx hy hc'.1 hc'.2 hl hg.1
    · exact vecTells_ne a b ca cb xs ys c w hx hy hc'.1 hc'.2 hl hg.1 hg.2
  · have hd : (200 < xs.length) ∨ (xs.length ≤ 200 ∧ 200 < ys.length) := by omega
    clear hg hx hy hc
    rcases hd with h1 | ⟨h1, h2⟩
    all_goals
      go_enter Try.func13, Try.ntmps13
      go_wp2_with fail
      refine (live05 _).mono ?_
      rintro e w2 ⟨rfl, hb2⟩
      go_wp2_with fail
      go_ret
      exact ⟨rfl, hb2⟩
end Go.Proofs.Ytfoodnmcilogjaa
