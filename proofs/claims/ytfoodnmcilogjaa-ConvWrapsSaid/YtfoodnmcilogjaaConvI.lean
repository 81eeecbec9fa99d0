/- The law of noughts behind and around, as a call that returns true. -/
import Derived.Test.YtfoodnmcilogjaaConvH
namespace Go.Proofs.Ytfoodnmcilogjaa
open Go.RowKit Sm
set_option linter.unusedVariables false
set_option linter.unusedSimpArgs false

theorem convWraps_big (a : Option Addr) (n c : Nat) (m : Int) (w : World) (h : 200 < n ∨ (n ≤ 200 ∧ 500 < m ∧ m ≤ 16777216)) (hn : n ≤ 9223372036854775807) (hm : -9223372036854775808 ≤ m ∧ m < 9223372036854775808) :
    Calls Try.prog 14 #[.slice a n c, .int .i64 m] w fun e w' => e = .returned (.bool true) ∧ Below w.heap.size w w' := by
  rcases h with h1 | ⟨h1, h2, h3⟩
  all_goals
    go_enter Try.func14, Try.ntmps14
    go_wp2_with fail
    refine (live07 _).mono ?_
    rintro e w7 ⟨rfl, hb7⟩
    go_wp2_with fail
    go_ret
    exact ⟨rfl, hb7⟩

set_option maxHeartbeats 800000 in
theorem convWraps_out (a : Option Addr) (n c : Nat) (m : Int) (w : World) (h : m < 0 ∨ 16777216 < m) (h1 : n ≤ 200) (hm : -9223372036854775808 ≤ m ∧ m < 9223372036854775808) :
    Calls Try.prog 14 #[.slice a n c, .int .i64 m] w fun e w' => e = .returned (.bool true) ∧ Below w.heap.size w w' := by
  have H := Lib.hid h
  have hm0 : (m == 0) = false := bno (by omega)
  have hm1 : (m != 0) = true := by simp; omega
  have P1 : Hid (∀ w : World, Calls Try.prog 67 #[.slice a n c, .int .i64 m] w fun e w' => e = .returned (.tuple #[.slice none 0 0, .int .i64 2]) ∧ w = w') := fun w => conv_Pad_no a n c m w h hm
  have P2 : Hid (∀ w : World, Calls Try.prog 68 #[.slice a n c, .int .i64 m] w fun e w' => e = .returned (.tuple #[.slice none 0 0, .int .i64 2]) ∧ w = w') := fun w => conv_Wrap_no a n c m w (by omega) hm
  rcases h with h | h
  all_goals
    go_enter Try.func14, Try.ntmps14
    go_wp2_with fail
    refine (P1.out _).mono ?_; rintro e w' ⟨rfl, rfl⟩
    go_wp2_with fail
    refine (P2.out _).mono ?_; rintro e w' ⟨rfl, rfl⟩
    go_wp2_with fail
    refine (live07 _).mono ?_
    rintro e w7 ⟨rfl, hb7⟩
    go_wp2_with fail
    go_ret
    exact ⟨rfl, hb7⟩

set_option maxHeartbeats 800000 in
theorem convWraps_zero (a : Option Addr) (n c : Nat) (xs : List Int) (w : World) (hx : Row .u64 w a xs) (hn : xs.length = n) (h1 : n ≤ 200) :
    Calls Try.prog 14 #[.slice a n c, .int .i64 0] w fun e w' => e = .returned (.bool true) ∧ Below w.heap.size w w' := by
  have HX := Lib.hid hx
  have HN := Lib.hid hn
  have P2 : Hid (∀ w : World, Calls Try.prog 68 #[.slice a n c, .int .i64 0] w fun e w' => e = .returned (.tuple #[.slice none 0 0, .int .i64 2]) ∧ w = w') := fun w => conv_Wrap_no a n c 0 w (by omega) (by omega)
  clear hx hn
  by_cases h0 : n = 0
  · subst h0
    have hpl : Hid ((padL xs 0).length = 0) := padL_len xs 0 (by rw [HN.out]; omega)
    go_enter Try.func14, Try.ntmps14
    go_wp2_with fail
    refine (conv_Pad_ok a 0 c 0 xs _ HX.out HN.out (by omega) (by omega)).mono ?_
    rintro e w1 ⟨a1, cap1, rfl, hr1, hcap1, hb1⟩
    rw [hpl.out]
    go_wp2_with fail
    refine (P2.out _).mono ?_; rintro e w' ⟨rfl, rfl⟩
    go_wp2_with fail
    refine (live07 _).mono ?_
    rintro e w7 ⟨rfl, hb7⟩
    go_wp2_with fail
    go_ret
    exact ⟨rfl, chain hb1 hb7⟩
  · have P1 : Hid (∀ w : World, Calls Try.prog 67 #[.slice a n c, .int .i64 0] w fun e w' => e = .returned (.tuple #[.slice none 0 0, .int .i64 5]) ∧ w = w') := fun w => conv_Pad_len a n c 0 w (by omega) (by omega) (by omega)
    have h2 : (0 : Int) < (n : Int) := by omega
    clear h0
    go_enter Try.func14, Try.ntmps14
    go_wp2_with fail
    refine (P1.out _).mono ?_; rintro e w' ⟨rfl, rfl⟩
    go_wp2_with fail
    refine (P2.out _).mono ?_; rintro e w' ⟨rfl, rfl⟩
    go_wp2_with fail
    refine (live07 _).mono ?_
    rintro e w7 ⟨rfl, hb7⟩
    go_wp2_with fail
    go_ret
    exact ⟨rfl, hb7⟩

set_option maxHeartbeats 800000 in
theorem convWraps_short (a : Option Addr) (n c m : Nat) (xs : List Int) (w : World) (hx : Row .u64 w a xs) (hn : xs.length = n) (h1 : n ≤ 200) (h2 : 1 ≤ m) (h3 : m ≤ 500) (h4 : m < n) :
    Calls Try.prog 14 #[.slice a n c, .int .i64 m] w fun e w' => e = .returned (.bool true) ∧ Below w.heap.size w w' := by
  have HX := Lib.hid hx
  have HN := Lib.hid hn
  have HW : Hid ((wrL xs m).length = m) := wrL_len _ _
  have h5 : (m : Int) < (n : Int) := by omega
  clear hx hn
  go_enter Try.func14, Try.ntmps14
  go_wp2_with fail
  refine (conv_Pad_len a n c m _ h4 (by omega) (by omega)).mono ?_; rintro e w' ⟨rfl, rfl⟩
  go_wp2_with fail
  refine (conv_Wrap_ok a n c m xs _ HX.out HN.out (by omega) h2 (by omega)).mono ?_
  rintro e w1 ⟨a1, cap1, rfl, hr1, hcap1, hb1⟩
  rw [HW.out]
  go_wp2_with fail
  refine (convRef_Wrap a n m c xs _ (HX.out.below hb1) HN.out (by omega) (by omega)).mono ?_
  rintro e w2 ⟨a2, cap2, rfl, hr2, hcap2, hb2⟩
  rw [HW.out]
  have hbl := chain hb1 hb2
  go_wp2_with fail
  refine (ref_SameT _ _ _ _ _ _ (wrL xs m) (wrL xs m) _ (hr1.below hb2) hr2 HW.out HW.out rfl).mono ?_
  rintro e w3 ⟨rfl, hb3⟩
  have hbl := chain hbl hb3
  go_wp2_with fail
  refine (live07 _).mono ?_
  rintro e w7 ⟨rfl, hb7⟩
  go_wp2_with fail
  go_ret
  exact ⟨rfl, chain hbl hb7⟩

/-- A row that was there ahead of what a call made, behind an append to what the call made. -/
theorem row_other {k : IntKind} {w w1 w2 : World} {a : Option Addr} {xs : List Int} {e : TypeId} {v : Value} {n : Nat} {L : List Value} (h : Row k w a xs) (hb : Below w.heap.size w w1) (ho : w1.ownsRow w.heap.size e 1 v n L) (hg : w1.grownBy w2 v.ownBlock) : Row k w2 a xs :=
  h.below (append_below hb hb.size ho hg)

set_option maxHeartbeats 1000000 in
theorem convWraps_long (a : Option Addr) (n c m : Nat) (xs : List Int) (w : World) (hx : Row .u64 w a xs) (hn : xs.length = n) (h1 : n ≤ 200) (h2 : 1 ≤ m) (h3 : m ≤ 500) (h4 : n ≤ m) :
    Calls Try.prog 14 #[.slice a n c, .int .i64 m] w fun e w' => e = .returned (.bool true) ∧ Below w.heap.size w w' := by
  obtain ⟨i0, hi, hz0, hz1, hz2⟩ := info_parts info_u64
  have HX := Lib.hid hx
  have HN := Lib.hid hn
  have HW : Hid ((wrL xs m).length = m) := wrL_len _ _
  have HP : Hid ((padL xs m).length = m) := padL_len _ _ (by omega)
  have h5 : ¬ (m : Int) < (n : Int) := by omega
  obtain ⟨d, hd⟩ : ∃ d, m - n = d := ⟨_, rfl⟩
  have e1 : (m : Int) - (n : Int) = (d : Int) := by omega
  have e2 : IntKind.i64.wrap (d : Int) = (d : Int) := IntWalk.i64_in _ (by omega)
  have HD := Lib.hid hd
  have HML : Hid ((xs.map (· % 18446744069414584321)).length = n) := by unfold Hid; simp [hn]
  have hnd : n + d ≤ 1000 := by omega
  clear hx hn hd
  go_enter Try.func14, Try.ntmps14
  go_wp2_with fail
  refine (conv_Pad_ok a n c m xs _ HX.out HN.out (by omega) (by omega)).mono ?_
  rintro e w1 ⟨a1, cap1, rfl, hr1, hcap1, hb1⟩
  rw [HP.out]
  go_wp2_with fail
  refine (conv_Wrap_ok a n c m xs _ (HX.out.below hb1) HN.out (by omega) h2 (by omega)).mono ?_
  rintro e w2 ⟨a2, cap2, rfl, hr2, hcap2, hb2⟩
  rw [HW.out]
  have hbl := chain hb1 hb2
  go_wp2_with fail
  refine (convRef_Wrap a n m c xs _ (HX.out.below hbl) HN.out (by omega) (by omega)).mono ?_
  rintro e w3 ⟨a3, cap3, rfl, hr3, hcap3, hb3⟩
  rw [HW.out]
  have hbl := chain hbl hb3
  go_wp2_with fail
  refine (ref_SameT _ _ _ _ _ _ (wrL xs m) (wrL xs m) _ (hr2.below hb3) hr3 HW.out HW.out rfl).mono ?_
  rintro e w4 ⟨rfl, hb4⟩
  have hbl4 := chain hbl hb4
  have HR1 := Lib.hid (hr1.below (chain (chain hb2 hb3) hb4))
  go_wp2_with fail
  refine (vref_RedON a n c xs _ (HX.out.below hbl4) HN.out (by omega)).mono ?_
  rintro e w5 ⟨a5, cap5, rfl, hown, hf, _, hb5⟩
  rw [HML.out] at hown ⊢
  have HO := Lib.hid hown
  have hsz := hb5.size
  clear hown hf
  go_wp2_with (at_builtin; refine wpList_append_zerosG _ (by rfl) _ _ 22 3 rfl w.heap.size 28 i0 .u64 .i64 .i64 Try.underlying22 Try.underlying3 hi hz0 hz1 hz2 _ n _ rfl (own_base HO.out hbl4.size) d rfl (by omega) (Nat.le_trans hbl4.size hsz) ?_)
  intro v' w6 hown' hgrow
  have hbl5 := chain hbl4 hb5
  have hb6 : Below w.heap.size w w6 := append_below hbl5 hbl5.size (own_base HO.out hbl4.size) hgrow
  obtain ⟨a6, cap6, rfl, hcap6⟩ := own_slice hown'
  rw [show List.replicate d (Value.int .u64 0) = List.replicate (m - xs.length) (Value.int .u64 0) by rw [HN.out, HD.out], ← List.map_map, padL_cells, show n + d = m by omega] at hown'
  rw [show n + d = m by omega] at hcap6 ⊢
  have hrow := Row.of_own (a := a6) (cap := cap6) HP.out (by omega) (padL_fits xs m) hown'
  have HR := Lib.hid hrow
  have hR1' : Row .u64 w6 a1 (padL xs m) := row_other HR1.out hb5 HO.out hgrow
  have HR1' := Lib.hid hR1'
  clear hown' hgrow hrow hR1'
  go_wp2_with fail
  refine (ref_SameT _ _ _ _ _ _ (padL xs m) (padL xs m) _ HR1'.out HR.out HP.out HP.out rfl).mono ?_
  rintro e w7 ⟨rfl, hb7⟩
  go_wp2_with fail
  refine (live07 _).mono ?_
  rintro e w8 ⟨rfl, hb8⟩
  go_wp2_with fail
  go_ret
  exact ⟨rfl, chain (chain hb6 hb7) hb8⟩

theorem convWrapsW (a0 : Option Addr) (c0 : Nat) (x0 : List Int) (m : Int) (w : World) (h0 : Row .u64 w a0 x0) (k0 : OkCap a0 x0.length c0) (hm : fits .i64 m) :
    Calls Try.prog 14 #[.slice a0 x0.length c0, .int .i64 m] w fun e w' => e = .returned (.bool true) ∧ Below w.heap.size w w' := by
  have hm' := fits_i64.1 hm
  by_cases hb : 200 < x0.length ∨ (x0.length ≤ 200 ∧ 500 < m ∧ m ≤ 16777216)
  · exact convWraps_big a0 _ c0 m w hb h0.len hm'
  · by_cases h1 : m < 0 ∨ 16777216 < m
    · exact convWraps_out a0 _ c0 m w h1 (by omega) hm'
    · obtain ⟨k, rfl⟩ := Int.eq_ofNat_of_zero_le (show 0 ≤ m by omega)
      by_cases h2 : k = 0
      · subst h2; exact convWraps_zero a0 _ c0 x0 w h0 rfl (by omega)
      · by_cases h3 : k < x0.length
        · exact convWraps_short a0 _ c0 k x0 w h0 rfl (by omega) (by omega) (by omega) h3
        · exact convWraps_long a0 _ c0 k x0 w h0 rfl (by omega) (by omega) (by omega) (by omega)
end Go.Proofs.Ytfoodnmcilogjaa
