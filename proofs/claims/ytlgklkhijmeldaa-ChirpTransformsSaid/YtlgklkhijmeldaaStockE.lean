/- All passes; the page's example; the law of all passes. -/
import Derived.Test.YtlgklkhijmeldaaStockD
namespace Go.Proofs.Ytlgklkhijmeldaa
open Go.RowKit Sm
set_option linter.unusedVariables false
set_option linter.unusedSimpArgs false
set_option maxRecDepth 100000

theorem bfalse' {a b : Int} (h : a = b) : (a != b) = false := by simp [h]
theorem bdiff' {a b : Int} (h : a ≠ b) : (a != b) = true := by simp [h]

theorem stock_Pass_ok (n s h : Nat) (ax aw : Option Addr) (cx cw : Nat) (xs ws : List Int) (w : World)
    (hx : Row .u64 w ax xs) (hw : Row .u64 w aw ws) (hxl : xs.length = n) (hwl : ws.length = n) (hn : n ≤ 16777216) (hns : n = s * (2 * h)) (hs : 0 < s) (hh : 0 < h) (hP : hasP2 (n : Int) = true) (hS : isP2 (s : Int) = true) :
    Calls Try.prog 46 #[.slice ax n cx, .int .i64 s, .slice aw n cw] w (GivesRowE .u64 (passL xs ws s) 0 w) := by
  have h2s : s * 2 ≤ n := by rw [hns]; exact Nat.mul_le_mul_left s (by omega)
  have C1 : Hid (∀ w : World, Calls Try.prog 47 #[.int .i64 n] w fun e w' => e = .returned (.bool true) ∧ w = w') := fun w => by rw [← hP]; exact stock_Has n w (by omega)
  have C2 : Hid (∀ w : World, Calls Try.prog 69 #[.int .i64 s] w fun e w' => e = .returned (.bool true) ∧ w = w') := fun w => by rw [← hS]; exact stock_power s w (by omega)
  have C3 : Hid (Calls Try.prog 49 #[.slice ax n cx, .int .i64 s, .slice aw n cw] w (GivesRow .u64 (passL xs ws s) w)) := stock_one n s h ax aw cx cw xs ws w hx hw hxl hwl hn hns hs hh
  have h0 : ((n : Int) != (n : Int)) = false := bfalse' rfl
  have h1 : ¬ (n : Int) < 2 * (s : Int) := by omega
  clear hx hw hxl hwl hns hP hS
  go_enter Try.func46, Try.ntmps46
  go_wp2_with fail
  refine (C1.out _).mono ?_; rintro e w' ⟨rfl, rfl⟩
  go_wp2_with fail
  refine (C2.out _).mono ?_; rintro e w' ⟨rfl, rfl⟩
  go_wp2_with fail
  refine C3.out.mono ?_
  rintro e w1 ⟨a1, cap1, rfl, hr1, hcap1, hb1⟩
  go_wp2_with fail
  go_ret2
  exact ⟨a1, cap1, rfl, hr1, hcap1, hb1⟩

theorem chainA2 {w w1 w2 : World} {o o' : Obj} (h : Below w.heap.size w w1) (h2 : Below ((w1.alloc o).alloc o').heap.size ((w1.alloc o).alloc o') w2) : Below w.heap.size w w2 :=
  chainA (o := o') (w1 := w1.alloc o) (h.alloc h.size o) h2
theorem litRow (w : World) (t : TypeId) (n : Nat) (xs : List Int) (hn : n = w.heap.size) (hw : ∀ x ∈ xs, 0 ≤ x ∧ x < 18446744073709551616) (hl : xs.length ≤ 100) : Row .u64 (w.alloc (.cells (xs.map (Value.int .u64)).toArray t)) (some ⟨n, 0, none⟩) xs := by
  subst hn; exact row_new .u64 w t xs (fun x hx => fits_u64.2 (hw x hx)) (by omega)

set_option maxHeartbeats 1000000 in
theorem live11 (w : World) : Calls Try.prog 12 #[] w fun e w' => e = .returned (.bool true) ∧ Below w.heap.size w w' := by
  have r1 : ∀ (w : World) (n : Nat), n = w.heap.size → Row .u64 (w.alloc (.cells #[.int .u64 1, .int .u64 2, .int .u64 3, .int .u64 4] 45)) (some ⟨n, 0, none⟩) [1, 2, 3, 4] := fun w n hn => litRow w _ n [1, 2, 3, 4] hn (by decide) (by simp)
  have r2 : ∀ (w : World) (n : Nat), n = w.heap.size → Row .u64 (w.alloc (.cells #[.int .u64 1, .int .u64 0, .int .u64 0, .int .u64 0] 45)) (some ⟨n, 0, none⟩) [1, 0, 0, 0] := fun w n hn => litRow w _ n [1, 0, 0, 0] hn (by decide) (by simp)
  have r3 : ∀ (w : World) (n : Nat), n = w.heap.size → Row .u64 (w.alloc (.cells #[.int .u64 4, .int .u64 18446744069414584319, .int .u64 6, .int .u64 0] 45)) (some ⟨n, 0, none⟩) [4, 18446744069414584319, 6, 0] := fun w n hn => litRow w _ n [4, 18446744069414584319, 6, 0] hn (by decide) (by simp)
  have e1 : passL [1, 2, 3, 4] [1, 0, 0, 0] 1 = [4, 18446744069414584319, 6, 0] := by decide
  have S1 : Hid (∀ (w : World) (a b : Option Addr), Row .u64 w a [1, 2, 3, 4] → Row .u64 w b [1, 0, 0, 0] → Calls Try.prog 46 #[.slice a 4 4, .int .i64 1, .slice b 4 4] w (GivesRowE .u64 [4, 18446744069414584319, 6, 0] 0 w)) :=
    fun w a b h1 h2 => by rw [← e1]; exact stock_Pass_ok 4 1 2 a b 4 4 [1, 2, 3, 4] [1, 0, 0, 0] w h1 h2 rfl rfl (by omega) (by omega) (by omega) (by omega) (by decide) (by decide)
  have S2 : Hid (∀ (w : World), Calls Try.prog 47 #[.int .i64 8] w fun e w' => e = .returned (.bool true) ∧ w = w') := fun w => stock_Has 8 w (by omega)
  have R1 := Lib.hid r1; have R2 := Lib.hid r2; have R3 := Lib.hid r3
  clear r1 r2 r3 e1
  go_enter Try.func12, Try.ntmps12
  go_wp2_with fail
  refine (S1.out _ _ _ ((R1.out _ _ rfl).below ((Below.refl _ _).alloc (Nat.le_refl _) _)) (R2.out _ _ (by simp))).mono ?_
  rintro e w1 ⟨a1, cap1, rfl, hr1, hcap1, hb1⟩
  have hbl1 := chainA2 (Below.refl w.heap.size w) hb1
  go_wp2_with fail
  refine (ref_SameT _ _ _ _ _ _ [4, 18446744069414584319, 6, 0] [4, 18446744069414584319, 6, 0] _ (hr1.below ((Below.refl _ _).alloc (Nat.le_refl _) _)) (R3.out _ _ rfl) rfl rfl rfl).mono ?_
  rintro e w3 ⟨rfl, hb3⟩
  have hbl3 := chainA hbl1 hb3
  go_wp2_with fail
  refine (S2.out _).mono ?_; rintro e w' ⟨rfl, rfl⟩
  go_wp2_with fail
  go_ret
  exact ⟨rfl, hbl3⟩

/-! ### All passes -/
theorem with_no (ax aw : Option Addr) (n m cx cw : Nat) (w : World) (hP : hasP2 (n : Int) = false) (hn : n ≤ 9223372036854775807) :
    Calls Try.prog 13 #[.slice ax n cx, .slice aw m cw] w fun e w' => e = .returned (.tuple #[.slice none 0 0, .int .i64 4]) ∧ w = w' := by
  have C1 : Hid (∀ w : World, Calls Try.prog 47 #[.int .i64 n] w fun e w' => e = .returned (.bool false) ∧ w = w') := fun w => by rw [← hP]; exact stock_Has n w (by omega)
  clear hP
  go_enter Try.func13, Try.ntmps13
  go_wp2_with fail
  refine (C1.out _).mono ?_; rintro e w' ⟨rfl, rfl⟩
  go_wp2_with fail
  go_ret2
  exact ⟨rfl, rfl⟩
theorem with_len (ax aw : Option Addr) (n m cx cw : Nat) (w : World) (hP : hasP2 (n : Int) = true) (hn : n ≤ 9223372036854775807) (hnm : m ≠ n) :
    Calls Try.prog 13 #[.slice ax n cx, .slice aw m cw] w fun e w' => e = .returned (.tuple #[.slice none 0 0, .int .i64 5]) ∧ w = w' := by
  have C1 : Hid (∀ w : World, Calls Try.prog 47 #[.int .i64 n] w fun e w' => e = .returned (.bool true) ∧ w = w') := fun w => by rw [← hP]; exact stock_Has n w (by omega)
  have h0 : ((m : Int) != (n : Int)) = true := bdiff' (by omega)
  clear hP hnm
  go_enter Try.func13, Try.ntmps13
  go_wp2_with fail
  refine (C1.out _).mono ?_; rintro e w' ⟨rfl, rfl⟩
  go_wp2_with fail
  go_ret2
  exact ⟨rfl, rfl⟩

theorem vec_RedN2 (a : Option Addr) (n cap : Nat) (xs : List Int) (w : World) (hx : Row .u64 w a xs) (hn : xs.length = n) (hl : n ≤ 16777216) :
    Calls Try.prog 48 #[.slice a n cap] w (GivesRow .u64 (xs.map (· % 18446744069414584321)) w) := by
  subst hn; exact vec_Red a cap xs w hx hl

theorem half_of_pow (m j s : Nat) (hs : s = 2 ^ j) (hj : j < m) : ∃ h, 0 < h ∧ 2 ^ m = s * (2 * h) := by
  refine ⟨2 ^ (m - j - 1), Nat.pow_pos (by omega), ?_⟩
  rw [hs, ← Nat.pow_succ', ← Nat.pow_add]
  congr 1; omega

set_option maxHeartbeats 1000000 in
theorem with_ok (ax aw : Option Addr) (n m cx cw : Nat) (xs ws : List Int) (w : World) (hx : Row .u64 w ax xs) (hw : Row .u64 w aw ws) (hxl : xs.length = n) (hwl : ws.length = n) (hm : m ≤ 24) (hn : n = 2 ^ m) :
    Calls Try.prog 13 #[.slice ax n cx, .slice aw n cw] w (GivesRowE .u64 (withTo xs ws m) 0 w) := by
  have hP : hasP2 (n : Int) = true := (hasP2_iff _).2 ⟨m, hm, by rw [hn]⟩
  have hn2 : n ≤ 16777216 := by
    have : 2 ^ m ≤ 2 ^ 24 := Nat.pow_le_pow_right (by omega) hm
    have e : (2 : Nat) ^ 24 = 16777216 := by decide
    omega
  have hn1 : 1 ≤ n := by rw [hn]; exact Nat.pow_pos (by omega)
  have C1 : Hid (∀ w : World, Calls Try.prog 47 #[.int .i64 n] w fun e w' => e = .returned (.bool true) ∧ w = w') := fun w => by rw [← hP]; exact stock_Has n w (by omega)
  have HX := Lib.hid hx
  have HW := Lib.hid hw
  have HXL := Lib.hid hxl
  have HWL := Lib.hid hwl
  have HN := Lib.hid hn
  have HL : Hid (∀ j, (withTo xs ws j).length = n) := fun j => by rw [withTo_len]; exact hxl
  have h0 : ((n : Int) != (n : Int)) = false := bfalse' rfl
  clear hx hw hxl hwl hn hP
  go_enter Try.func13, Try.ntmps13
  go_wp2_with fail
  refine (C1.out _).mono ?_; rintro e w' ⟨rfl, rfl⟩
  go_wp2_with fail
  refine (vec_RedN2 ax n cx xs _ HX.out HXL.out hn2).mono ?_
  rintro e w1 ⟨a1, cap1, rfl, hr1, hcap1, hb1⟩
  have hl0 := HL.out 0
  have hl0' : (xs.map (· % 18446744069414584321)).length = n := hl0
  rw [hl0']
  rw [hl0'] at hcap1
  clear hl0 hl0'
  go_wp2_with fail
  go_loopw [6, 7] (fun v i wr => ∃ (j s : Nat) (a : Option Addr) (cap : Nat), j ≤ m ∧ Hid (s = 2 ^ j) ∧ 1 ≤ s ∧ s ≤ n ∧ i = .int .i64 s ∧ v = .slice a n cap ∧ Row .u64 wr a (withTo xs ws j) ∧ OkCap a n cap ∧ Below w.heap.size w wr) (fun _ i _ => n - (intOf i).toNat)
  case atStart => exact ⟨0, 1, a1, cap1, Nat.zero_le _, rfl, by omega, hn1, rfl, rfl, hr1, hcap1, hb1⟩
  case round =>
    obtain ⟨j, s, a, cap, hj, HS, hs1, hsn, rfl, rfl, hrow, hcap, hb⟩ := hrel
    have HR := Lib.hid hrow
    have HC := Lib.hid hcap
    clear hrow hcap
    by_cases hlt : j < m
    · obtain ⟨h, hh, hns⟩ := half_of_pow m j s HS.out hlt
      have h2s : s * 2 ≤ n := by rw [HN.out, hns]; exact Nat.mul_le_mul_left s (by omega)
      have hle : (2 : Int) * (s : Int) ≤ (n : Int) := by omega
      have HNS : Hid (n = s * (2 * h)) := HN.out.trans hns
      have HS2 : Hid (2 * s = 2 ^ (j + 1)) := by unfold Hid; rw [Nat.pow_succ, HS.out]; omega
      clear hns
      go_wp2_with fail
      refine (stock_one n s h a aw cap cw (withTo xs ws j) ws _ HR.out (HW.out.below hb) (HL.out j) HWL.out hn2 HNS.out hs1 hh).mono ?_
      rintro e w2 ⟨a2, cap2, rfl, hr2, hcap2, hb2⟩
      have hlen : (passL (withTo xs ws j) ws s).length = n := by rw [passL_len]; exact HL.out j
      rw [hlen] at hcap2 ⊢
      have HR2 : Hid (Row .u64 w2 a2 (withTo xs ws (j + 1))) := by unfold Hid; simp only [withTo]; rw [← HS.out]; exact hr2
      clear hr2 hlen
      go_wp2_with fail
      go_roundw
      case rel => exact ⟨j + 1, 2 * s, a2, cap2, by omega, HS2.out, by omega, by omega, by go_num, rfl, HR2.out, hcap2, chain hb hb2⟩
      case measure => simp [intOf]; omega
    · have hjm : j = m := by omega
      have hsn' : s = n := by rw [HS.out, HN.out, hjm]
      have hlt2 : (n : Int) < 2 * (s : Int) := by omega
      have HJ := Lib.hid hjm
      have hres : Hid (GivesRowE .u64 (withTo xs ws m) 0 w (.returned (.tuple #[.slice a n cap, .int .i64 0])) wr) := ⟨a, cap, by rw [HL.out], by rw [← HJ.out]; exact HR.out, by rw [HL.out]; exact HC.out, hb⟩
      clear hjm hsn'
      go_wp2_with fail
      go_ret2
      exact hres.out
end Go.Proofs.Ytlgklkhijmeldaa
