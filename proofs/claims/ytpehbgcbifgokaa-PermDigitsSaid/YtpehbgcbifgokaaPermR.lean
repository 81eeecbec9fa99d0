/- The law of places by bits backwards, as a call that returns true. -/
import Derived.Test.YtpehbgcbifgokaaPermQ
import Derived.Test.YtpehbgcbifgokaaPermO
namespace Go.Proofs.Ytpehbgcbifgokaa
open Go.RowKit
set_option linter.unusedVariables false
set_option linter.unusedSimpArgs false

set_option maxHeartbeats 400000 in
/-- Two rows: are they the same? -/
theorem ref_Same2 (a b : Option Addr) (ca cb : Nat) (xs ys : List Int) (w : World) (hx : Row .u64 w a xs) (hy : Row .u64 w b ys) :
    Calls Try.prog 51 #[.slice a xs.length ca, .slice b ys.length cb] w fun e w' => e = .returned (.bool (decide (xs = ys))) ∧ Below w.heap.size w w' := by
  have hlx := hx.len
  have hly := hy.len
  by_cases hl : xs.length = ys.length
  · have HL := Lib.hid hl
    have HX := Lib.hid hx
    have HY := Lib.hid hy
    have hne : ((xs.length : Int) != (ys.length : Int)) = false := by simp [hl]
    clear hx hy hl
    go_enter Try.func51, Try.ntmps51
    go_wp2_with fail
    go_loopw [5] (fun i wr => ∃ k : Nat, k ≤ xs.length ∧ i = .int .i64 k ∧ Below w.heap.size w wr ∧ Hid (∀ j, j < k → nth xs j = nth ys j)) (fun i _ => xs.length - (intOf i).toNat)
    case atStart => exact ⟨0, Nat.zero_le _, rfl, Below.refl _ _, fun j hj => by omega⟩
    case round =>
      obtain ⟨k, hk, rfl, hb, H⟩ := hrel
      by_cases hlt : k < xs.length
      · have hlt' : k < ys.length := by have := HL.out; omega
        have i1 : (0 : Int) ≤ (k : Int) := by omega
        have i2 : (k : Int) < (xs.length : Int) := by omega
        have i3 : (k : Int) < (ys.length : Int) := by omega
        obtain ⟨b1, o1, rfl, hc1⟩ := (HX.out.below hb).at (by omega)
        obtain ⟨b2, o2, rfl, hc2⟩ := (HY.out.below hb).at (by omega)
        have h1 := hc1 k hlt
        have h2 := hc2 k hlt'
        clear hc1 hc2
        by_cases he : nth xs k = nth ys k
        · have hbe : (nth xs k != nth ys k) = false := by simp [he]
          have HE := Lib.hid he
          clear he
          go_wp2_with fail
          go_quiet (fail)
          go_wp2_with fail
          go_roundw
          case rel =>
            refine ⟨k + 1, by omega, by go_num, by first | exact below_drewN hb _ | exact hb.drew, ?_⟩
            intro j hj
            by_cases hjk : j < k
            · exact H.out j hjk
            · obtain rfl : j = k := by omega
              exact HE.out
          case measure => simp [intOf]; omega
        · have hbe : (nth xs k != nth ys k) = true := by simp [he]
          have HE : Hid (xs ≠ ys) := by
            intro h; apply he; rw [h]
          clear he
          go_wp2_with fail
          go_quiet (fail)
          go_wp2_with fail
          go_ret
          exact ⟨ret_bool (by have := HE.out; simp [this]), by first | exact below_drewN hb _ | exact hb.drew⟩
      · go_wp2_with fail
        go_ret
        have : xs = ys := ext_nth HL.out (fun i hi => H.out i (by omega))
        exact ⟨ret_bool (by simp [this]), hb⟩
  · have HL := Lib.hid hl
    have hne : ((xs.length : Int) != (ys.length : Int)) = true := by simp; omega
    have : xs ≠ ys := fun h => hl (by rw [h])
    have HE := Lib.hid this
    clear this hl hx hy
    go_enter Try.func51, Try.ntmps51
    go_wp2_with fail
    go_ret
    exact ⟨ret_bool (by have := HE.out; simp [this]), Below.refl _ _⟩



theorem isPerm_of_twice (p : List Int) (n : Nat) (hn : p.length = n) (hb : ∀ i, i < n → 0 ≤ nth p i ∧ nth p i < n) (h : ∀ i, i < n → nth p (nth p i).toNat = i) : IsPerm p := by
  refine ⟨fun i hi => by rw [hn] at hi ⊢; exact hb i hi, fun i j hij hj e => ?_⟩
  rw [hn] at hj
  have h1 := h i (by omega)
  have h2 := h j hj
  rw [e, h2] at h1
  omega
theorem dblN_facts (n L : Nat) (hL : L < 10) (hn : n = 2 ^ L) : (∀ i, i < n → 0 ≤ nth (dblN L) i ∧ nth (dblN L) i < n) ∧ ∀ i, i < n → nth (dblN L) (nth (dblN L) i).toNat = i := by
  have hl : (dblN L).length = n := (dblN_len L).trans hn.symm
  have h4 : (2 : Int) ^ L = (n : Int) := by rw [hn, Int.natCast_pow]; rfl
  constructor
  · intro i hi
    have h1 := dbl_all ⟨L, hL⟩ _ (nth_mem (show i < (dblN L).length by omega))
    simp only [] at h1
    rw [h4] at h1
    exact h1
  · intro i hi
    have h1 := dbl_twice ⟨L, hL⟩
    simp only [] at h1
    rw [← hn] at h1
    have h2 := nth_ofFn (fun i : Nat => nth (dblN L) (nth (dblN L) i).toNat) n i hi
    have h3 := nth_ofFn (fun i : Nat => (i : Int)) n i hi
    rw [h1, h3] at h2
    exact h2.symm

theorem permBits_far (n : Int) (a1 : Option Addr) (m c1 : Nat) (w : World) (h1 : 600 < n) (h2 : n ≤ 16777216) :
    Calls Try.prog 10 #[.int .i64 n, .slice a1 m c1] w fun e w' => e = .returned (.bool true) ∧ Below w.heap.size w w' := by
  go_enter Try.func10, Try.ntmps10
  go_wp2_with fail
  refine (live08 _).mono ?_
  rintro e w7 ⟨rfl, hb7⟩
  go_wp2_with fail
  go_ret
  exact ⟨rfl, hb7⟩
theorem permBits_out (n : Int) (a1 : Option Addr) (m c1 : Nat) (w : World) (h : n < 1 ∨ 16777216 < n) :
    Calls Try.prog 10 #[.int .i64 n, .slice a1 m c1] w fun e w' => e = .returned (.bool true) ∧ Below w.heap.size w w' := by
  have C := Lib.hid (fun w => permBits_range n w h)
  rcases (show n < 1 ∨ (1 ≤ n ∧ 16777216 < n) by omega) with h1 | ⟨h1, h2⟩
  all_goals
    clear h
    go_enter Try.func10, Try.ntmps10
    go_wp2_with fail
    refine (C.out _).mono ?_; rintro e w' ⟨rfl, rfl⟩
    go_wp2_with fail
    refine (live08 _).mono ?_
    rintro e w7 ⟨rfl, hb7⟩
    go_wp2_with fail
    go_ret
    exact ⟨rfl, hb7⟩
theorem permBits_noP (n : Nat) (a1 : Option Addr) (m c1 : Nat) (w : World) (h1 : 1 ≤ n) (h2 : n ≤ 600) (hP : isP2 n = false) :
    Calls Try.prog 10 #[.int .i64 n, .slice a1 m c1] w fun e w' => e = .returned (.bool true) ∧ Below w.heap.size w w' := by
  have C := Lib.hid (fun w => permBits_arg n w h1 (by omega) hP)
  have C2 : Hid (∀ w : World, Calls Try.prog 49 #[.int .i64 n] w fun e w' => e = .returned (.bool false) ∧ w = w') := fun w => by rw [← hP]; exact refPower n w (by omega)
  clear hP
  go_enter Try.func10, Try.ntmps10
  go_wp2_with fail
  refine (C.out _).mono ?_; rintro e w' ⟨rfl, rfl⟩
  go_wp2_with fail
  refine (C2.out _).mono ?_; rintro e w' ⟨rfl, rfl⟩
  go_wp2_with fail
  refine (live08 _).mono ?_
  rintro e w7 ⟨rfl, hb7⟩
  go_wp2_with fail
  go_ret
  exact ⟨rfl, hb7⟩

set_option maxHeartbeats 1000000 in
theorem permBits_len (n L : Nat) (a1 : Option Addr) (m c1 : Nat) (w : World) (hL : L < 10) (hn : n = 2 ^ L) (hm : m ≠ n) (hml : m ≤ 9223372036854775807) :
    Calls Try.prog 10 #[.int .i64 n, .slice a1 m c1] w fun e w' => e = .returned (.bool true) ∧ Below w.heap.size w w' := by
  have C := Lib.hid (fun w => permBits_ok n L w hL hn)
  have hn5 : n ≤ 512 := by rw [hn]; have : 2 ^ L ≤ 2 ^ 9 := Nat.pow_le_pow_right (by omega) (by omega); simpa using this
  have hn1 : 1 ≤ n := by rw [hn]; exact Nat.two_pow_pos L
  have hP : isP2 n = true := (isP2_iff n).2 ⟨L, hn⟩
  have C2 : Hid (∀ w : World, Calls Try.prog 49 #[.int .i64 n] w fun e w' => e = .returned (.bool true) ∧ w = w') := fun w => by rw [← hP]; exact refPower n w (by omega)
  have C3 := Lib.hid (fun w => refBits n L w hL hn)
  have HDL : Hid ((dblN L).length = n) := (dblN_len L).trans hn.symm
  have hmn : ((m : Int) != (n : Int)) = true := by simp; omega
  clear hP hn hm
  go_enter Try.func10, Try.ntmps10
  go_wp2_with fail
  refine (C.out _).mono ?_; rintro e w1 ⟨a2, cap2, rfl, hr2, hcap2, hb2⟩
  rw [HDL.out]
  go_wp2_with fail
  refine (C2.out _).mono ?_; rintro e w' ⟨rfl, rfl⟩
  go_wp2_with fail
  refine (C3.out _).mono ?_; rintro e w3 ⟨a3, cap3, rfl, hr3, hcap3, hb3⟩
  rw [HDL.out]
  go_wp2_with fail
  refine (ref3_SameT _ _ _ _ _ _ (dblN L) (dblN L) _ (hr2.below hb3) hr3 HDL.out HDL.out rfl).mono ?_
  rintro e w4 ⟨rfl, hb4⟩
  go_wp2_with fail
  refine (live08 _).mono ?_
  rintro e w7 ⟨rfl, hb7⟩
  go_wp2_with fail
  go_ret
  exact ⟨rfl, chain (chain (chain hb2 hb3) hb4) hb7⟩

set_option maxHeartbeats 1000000 in
theorem permBits_all (n L : Nat) (a1 : Option Addr) (c1 : Nat) (x : List Int) (w : World) (hx : Row .u64 w a1 x) (hxl : x.length = n) (hL : L < 10) (hn : n = 2 ^ L) (hc1 : a1 = none → c1 = 0) :
    Calls Try.prog 10 #[.int .i64 n, .slice a1 n c1] w fun e w' => e = .returned (.bool true) ∧ Below w.heap.size w w' := by
  have C := Lib.hid (fun w => permBits_ok n L w hL hn)
  have hn5 : n ≤ 512 := by rw [hn]; have : 2 ^ L ≤ 2 ^ 9 := Nat.pow_le_pow_right (by omega) (by omega); simpa using this
  have hn1 : 1 ≤ n := by rw [hn]; exact Nat.two_pow_pos L
  have hP : isP2 n = true := (isP2_iff n).2 ⟨L, hn⟩
  have C2 : Hid (∀ w : World, Calls Try.prog 49 #[.int .i64 n] w fun e w' => e = .returned (.bool true) ∧ w = w') := fun w => by rw [← hP]; exact refPower n w (by omega)
  have C3 := Lib.hid (fun w => refBits n L w hL hn)
  have HDL : Hid ((dblN L).length = n) := (dblN_len L).trans hn.symm
  obtain ⟨hf1, hf2⟩ := dblN_facts n L hL hn
  have HPM := Lib.hid (isPerm_of_twice (dblN L) n HDL.out hf1 hf2)
  have HTW : Hid (mvL (dblN L) (mvL (dblN L) x) = x) := by
    unfold Hid
    apply ext_nth (by rw [mvL_len, mvL_len])
    intro i hi
    rw [mvL_len, mvL_len, hxl] at hi
    have h3 := hf1 i hi
    rw [nth_mvL _ _ _ (by rw [mvL_len, hxl]; exact hi), nth_mvL _ _ _ (by rw [hxl]; omega), hf2 i hi, Int.toNat_natCast]
  have HML : Hid ((mvL (dblN L) x).length = n) := (mvL_len _ _).trans hxl
  have HML2 : Hid ((mvL (dblN L) (mvL (dblN L) x)).length = n) := (mvL_len _ _).trans HML.out
  have HX := Lib.hid hx
  have HXL := Lib.hid hxl
  have HC1 := Lib.hid hc1
  have hmn : ((n : Int) != (n : Int)) = false := by simp
  clear hP hn hx hxl hc1 hf1 hf2
  go_enter Try.func10, Try.ntmps10
  go_wp2_with fail
  refine (C.out _).mono ?_; rintro e w1 ⟨a2, cap2, rfl, hr2, hcap2, hb2⟩
  rw [HDL.out]
  go_wp2_with fail
  refine (C2.out _).mono ?_; rintro e w' ⟨rfl, rfl⟩
  go_wp2_with fail
  refine (C3.out _).mono ?_; rintro e w3 ⟨a3, cap3, rfl, hr3, hcap3, hb3⟩
  rw [HDL.out]
  go_wp2_with fail
  refine (ref3_SameT _ _ _ _ _ _ (dblN L) (dblN L) _ (hr2.below hb3) hr3 HDL.out HDL.out rfl).mono ?_
  rintro e w4 ⟨rfl, hb4⟩
  have hbl := chain (chain hb2 hb3) hb4
  have HR2 := Lib.hid ((hr2.below hb3).below hb4)
  clear hr2 hr3 hcap2 hcap3
  go_wp2_with fail
  refine (permApply_ok a2 a1 n n cap2 c1 (dblN L) x _ HR2.out (HX.out.below hbl) HDL.out HXL.out rfl (by omega) HPM.out HC1.out).mono ?_
  rintro e w5 ⟨a5, cap5, rfl, hr5, hcap5, hb5⟩
  rw [HML.out] at hcap5 ⊢
  go_wp2_with fail
  refine (permApply_ok a2 a5 n n cap2 cap5 (dblN L) (mvL (dblN L) x) _ (HR2.out.below hb5) hr5 HDL.out HML.out rfl (by omega) HPM.out hcap5.2).mono ?_
  rintro e w6 ⟨a6, cap6, rfl, hr6, hcap6, hb6⟩
  rw [HML2.out]
  rw [HTW.out] at hr6
  have hbl6 := chain (chain hbl hb5) hb6
  have S := ref_Same2 a6 a1 cap6 c1 x x w6 hr6 (HX.out.below hbl6)
  rw [HXL.out] at S
  have HS := Lib.hid S
  clear S
  go_wp2_with fail
  refine HS.out.mono ?_
  rintro e w8 ⟨he, hb8⟩
  rw [show decide True = true by simp] at he
  subst he
  go_wp2_with fail
  refine (live08 _).mono ?_
  rintro e w7 ⟨rfl, hb7⟩
  go_wp2_with fail
  go_ret
  exact ⟨rfl, chain (chain hbl6 hb8) hb7⟩

theorem permBitsW (n : Int) (a1 : Option Addr) (c1 : Nat) (x1 : List Int) (w : World) (hn : fits .i64 n) (h1 : Row .u64 w a1 x1) (k1 : OkCap a1 x1.length c1) :
    Calls Try.prog 10 #[.int .i64 n, .slice a1 x1.length c1] w fun e w' => e = .returned (.bool true) ∧ Below w.heap.size w w' := by
  by_cases hf : 600 < n ∧ n ≤ 16777216
  · exact permBits_far n a1 _ c1 w hf.1 hf.2
  · by_cases ho : n < 1 ∨ 16777216 < n
    · exact permBits_out n a1 _ c1 w ho
    · obtain ⟨N, rfl⟩ := Int.eq_ofNat_of_zero_le (show 0 ≤ n by omega)
      cases hP : isP2 (N : Int) with
      | false => exact permBits_noP N a1 _ c1 w (by omega) (by omega) hP
      | true =>
        obtain ⟨L, hL⟩ := (isP2_iff N).1 hP
        have hL10 : L < 10 := by
          rcases Nat.lt_or_ge L 10 with h | h
          · exact h
          · have h3 : 2 ^ 10 ≤ 2 ^ L := Nat.pow_le_pow_right (by omega) h
            have e : (2 : Nat) ^ 10 = 1024 := by decide
            omega
        by_cases hm : x1.length = N
        · rw [hm]
          exact permBits_all N L a1 c1 x1 w h1 hm hL10 hL k1.2
        · exact permBits_len N L a1 _ c1 w hL10 hL hm h1.len
end Go.Proofs.Ytpehbgcbifgokaa
