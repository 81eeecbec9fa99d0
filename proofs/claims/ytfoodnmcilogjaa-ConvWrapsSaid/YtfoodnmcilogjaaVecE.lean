/- Rows times a number; which rows are the same; the law VecTells. -/
import Derived.Test.YtfoodnmcilogjaaVecD
namespace Go.Proofs.Ytfoodnmcilogjaa
open Go.RowKit
set_option linter.unusedVariables false
set_option linter.unusedSimpArgs false

def scaleL (xs : List Int) (c : Int) : List Int := (List.range xs.length).map fun i => nth xs i * c % 18446744069414584321

theorem mul_quiet (a b : Int) (w : World) (n : Nat) (h0 : 0 ≤ a) (h1 : a < 18446744073709551616) (h2 : 0 ≤ b) (h3 : b < 18446744073709551616) :
    Calls Try.prog 32 #[.int .u64 a, .int .u64 b] (w.drewN n) fun e w' => e = .returned (.int .u64 (a * b % 18446744069414584321)) ∧ ∃ m, w' = w.drewN m :=
  Calls.quiet_of_same ((gold_Mul a b _ h0 h1 h2 h3).mono fun e w' ⟨x, y⟩ => ⟨x, y.symm⟩)

set_option maxHeartbeats 400000 in
theorem vec_Scale1 (i : Nat) (a : Option Addr) (cap : Nat) (xs : List Int) (c : Int) (p q : Nat) (w : World) (hi : i < xs.length) (hc : w.cell? ⟨p, 0, none⟩ = some (.slice a xs.length cap)) (hc2 : w.cell? ⟨q, 0, none⟩ = some (.int .u64 c)) (h0 : 0 ≤ c) (h1 : c < 18446744073709551616) (hx : Row .u64 w a xs) :
    Calls Try.prog 84 #[.int .i64 i, .pointer (some ⟨p, 0, none⟩), .pointer (some ⟨q, 0, none⟩)] w fun e w' => e = .returned (.int .u64 (nth xs i * c % 18446744069414584321)) ∧ Below w.heap.size w w' := by
  have hl := hx.len
  obtain ⟨b, off, rfl, hcs⟩ := hx.at (by omega)
  have hck := hcs _ hi
  have hf := fits_u64.1 (hx.wf _ (nth_mem hi))
  have j0 : (0 : Int) ≤ (i : Int) := by omega
  have j1 : (i : Int) < (xs.length : Int) := by omega
  clear hcs hx
  go_enter Try.func84, Try.ntmps84
  go_wp2_with fail
  go_quiet ((go_at_call 32; exact mul_quiet _ _ _ _ hf.1 hf.2 h0 h1))
  go_wp2_with fail
  go_ret
  exact ⟨rfl, below_drewN (Below.refl _ _) _⟩

set_option maxHeartbeats 400000 in
theorem vec_Scale (a : Option Addr) (cap : Nat) (xs : List Int) (c : Int) (w : World) (hx : Row .u64 w a xs) (hl : xs.length ≤ 16777216) (h0 : 0 ≤ c) (h1 : c < 18446744073709551616) :
    Calls Try.prog 62 #[.slice a xs.length cap, .int .u64 c] w (GivesRow .u64 (scaleL xs c) w) := by
  have hent : ∀ args w, (callFunc 84 args).run Try.prog w = .ok (.enter 84 args) w := enters_of Try.func84 (by kernel_rfl) rfl
  obtain ⟨W, hW⟩ : ∃ W : World, W = (w.alloc (.cells #[.slice a xs.length cap] 22)).alloc (.cells #[.int .u64 c] 28) := ⟨_, rfl⟩
  have hWb : Below w.heap.size w W := hW ▸ ((Below.refl _ _).alloc (Nat.le_refl _) _).alloc (by simp) _
  have hc0 : W.cell? ⟨w.heap.size, 0, none⟩ = some (.slice a xs.length cap) := by subst hW; simp
  have hc1 : W.cell? ⟨w.heap.size + 1, 0, none⟩ = some (.int .u64 c) := by subst hW; simp
  have hsz : w.heap.size + 2 = W.heap.size := by subst hW; simp
  have hf : ∀ (i : Nat) (wr : World), i < xs.length → Below W.heap.size W wr →
      Calls Try.prog 84 (#[.int .i64 i] ++ #[.pointer (some ⟨w.heap.size, 0, none⟩), .pointer (some ⟨w.heap.size + 1, 0, none⟩)]) wr fun e w' => e = .returned (.int .u64 (nth xs i * c % 18446744069414584321)) ∧ Below wr.heap.size wr w' :=
    fun i wr hi hb => vec_Scale1 i a cap xs c w.heap.size (w.heap.size + 1) wr hi (by rw [hb.cell (by show w.heap.size < W.heap.size; omega)]; exact hc0) (by rw [hb.cell (by show w.heap.size + 1 < W.heap.size; omega)]; exact hc1) h0 h1 ((hx.below hWb).below hb)
  have HF := Lib.hid hf
  have HB := Lib.hid hWb
  clear hf hx hWb hc0 hc1 hsz
  subst hW
  go_enter Try.func62, Try.ntmps62
  go_wp2_with fail
  refine (vec_each xs.length (fun i => nth xs i * c % 18446744069414584321) _ _ _ hl (modfits _) hent HF.out).mono ?_
  rintro e w' ⟨a', cap', rfl, hr, hnil, hb⟩
  go_wp2_with fail
  go_ret
  exact ⟨a', cap', by simp [scaleL], hr, hnil, HB.out.trans (hb.mono HB.out.size)⟩

theorem scaleL_at (x c : Int) : (x % 18446744069414584321) * (c % 18446744069414584321) % 18446744069414584321 = x * c % 18446744069414584321 := by rw [modmul_l, modmul_r]

set_option maxHeartbeats 400000 in
theorem vref_Scale (a : Option Addr) (cap : Nat) (xs : List Int) (c : Int) (w : World) (hx : Row .u64 w a xs) (hl : xs.length ≤ 16777216) (h0 : 0 ≤ c) (h1 : c < 18446744073709551616) :
    Calls Try.prog 63 #[.slice a xs.length cap, .int .u64 c] w (GivesRow .u64 (scaleL xs c) w) := by
  obtain ⟨i0, hi, hz0, hz1, hz2⟩ := info_parts info_u64
  have HX : Hid (Row .u64 w a xs) := hx
  clear hx
  go_enter Try.func63, Try.ntmps63
  go_wp2_with fail
  go_loopw [5, 6] (fun v i wr => ∃ k : Nat, k ≤ xs.length ∧ i = .int .i64 k ∧ Own .u64 28 w wr v k (fun j => nth xs j * c % 18446744069414584321)) (fun _ i _ => xs.length - (intOf i).toNat)
  case atStart => exact ⟨0, Nat.zero_le _, rfl, Own.nil _ _ _ _⟩
  case round =>
    obtain ⟨k, hk, rfl, hown⟩ := hrel
    by_cases hlt : k < xs.length
    · obtain ⟨b, off, rfl, hc⟩ := (HX.out.below hown.below).at (by omega)
      have hck := hc k hlt
      have hf := fits_u64.1 (HX.out.wf _ (nth_mem hlt))
      clear hc
      go_wp2_with (first | (go_at_call 25; refine (ref_Red _ _ (by omega) (by omega)).mono ?_; rintro e w' ⟨rfl, rfl⟩) | (go_at_call 30; refine (ref_Mul _ _ _ (by omega) (by omega) (by omega) (by omega)).mono ?_; rintro e w' ⟨rfl, rfl⟩) | (at_builtin; refine wpList_append_own _ rfl _ _ 22 rfl w.heap.size 28 i0 (.int .u64 0) 1 8 Try.underlying22 hi hz0 hz1 hz2 rfl (by decide) _ _ _ rfl (hown.own.alloc _) ⟨wr.heap.size, 0, none⟩ 1 1 [.int .u64 ((nth xs k % 18446744069414584321) * (c % 18446744069414584321) % 18446744069414584321)] rfl rfl (cell_one_new _ _ _) (one_cell _ _) (by unfold maxLen; omega) (by omega) (size_alloc_le hown.below _) ?_))
      intro v' w1 hown' hgrow _
      have hnext := hown.push _ (scaleL_at (nth xs k) c) hown' hgrow
      clear hown' hgrow
      go_wp2_with fail
      go_roundw
      case rel => exact ⟨k + 1, by omega, by go_num, hnext⟩
      case measure => simp [intOf]; omega
    · have hres := hown.gives (xs := scaleL xs c) (by simp [scaleL]; omega) (modL_fits _) (fun i hi => nth_ofFn _ _ _ (by omega)) (by omega)
      clear hown
      go_wp2_with fail
      go_ret
      exact hres

set_option maxHeartbeats 800000 in
theorem vref_Dot (a b : Option Addr) (ca cb : Nat) (xs ys : List Int) (w : World) (hx : Row .u64 w a xs) (hy : Row .u64 w b ys) (hl : xs.length = ys.length) (hm : xs.length ≤ 16777216) :
    Calls Try.prog 66 #[.slice a xs.length ca, .slice b ys.length cb] w fun e w' => e = .returned (.int .u64 (sumP (mulL xs ys))) ∧ Below w.heap.size w w' := by
  have HX := Lib.hid hx
  have HY := Lib.hid hy
  have HL := Lib.hid hl
  clear hx hy hl
  go_enter Try.func66, Try.ntmps66
  go_wp2_with fail
  go_loopw [5, 6] (fun s i wr => ∃ (k : Nat) (t : Int), k ≤ xs.length ∧ i = .int .i64 k ∧ s = .int .u64 t ∧ 0 ≤ t ∧ t < 18446744069414584321 ∧ Hid (t = sumP ((mulL xs ys).take k)) ∧ Below w.heap.size w wr) (fun _ i _ => xs.length - (intOf i).toNat)
  case atStart => exact ⟨0, 0, Nat.zero_le _, rfl, rfl, by omega, by omega, rfl, Below.refl _ _⟩
  case round =>
    obtain ⟨k, t, hk, rfl, rfl, ht0, ht, H, hb⟩ := hrel
    by_cases hlt : k < xs.length
    · have hlt' : k < ys.length := by have := HL.out; omega
      obtain ⟨b1, o1, rfl, hc1⟩ := (HX.out.below hb).at (by omega)
      obtain ⟨b2, o2, rfl, hc2⟩ := (HY.out.below hb).at (by omega)
      have h1 := hc1 k hlt
      have h2 := hc2 k hlt'
      have f1 := fits_u64.1 (HX.out.wf _ (nth_mem hlt))
      have f2 := fits_u64.1 (HY.out.wf _ (nth_mem hlt'))
      have i1 : (0 : Int) ≤ (k : Int) := by omega
      have i2 : (k : Int) < (xs.length : Int) := by omega
      have i3 : (k : Int) < (ys.length : Int) := by omega
      clear hc1 hc2
      go_wp2_with fail
      go_quiet ((first | (go_at_call 25; exact Calls.quiet_of_same ((ref_Red _ _ (by omega) (by omega)).mono fun e w' ⟨x, y⟩ => ⟨x, y.symm⟩)) | (go_at_call 30; exact Calls.quiet_of_same ((ref_Mul _ _ _ (by omega) (by omega) (by omega) (by omega)).mono fun e w' ⟨x, y⟩ => ⟨x, y.symm⟩)) | (go_at_call 36; exact Calls.quiet_of_same ((ref_Add _ _ _ (by omega) (by omega) (by omega) (by omega)).mono fun e w' ⟨x, y⟩ => ⟨x, y.symm⟩))))
      go_wp2_with fail
      go_roundw
      case rel =>
        refine ⟨k + 1, _, by omega, by go_num, rfl, by omega, by omega, ?_, below_drewN hb _⟩
        have e := H.out
        unfold Hid
        have hlm : k < (mulL xs ys).length := by simp [mulL, zipL]; omega
        rw [take_succ_nth hlm, sumP_snoc, ← e]
        have e2 : nth (mulL xs ys) k = nth xs k * nth ys k % 18446744069414584321 := nth_ofFn _ _ _ hlt
        rw [e2, ← mulL_at (nth xs k) (nth ys k)]
        try omega
      case measure => simp [intOf]; omega
    · go_wp2_with fail
      go_ret
      exact ⟨ret_int (by rw [H.out, List.take_of_length_le (by simp [mulL, zipL]; omega)]), hb⟩

theorem vec_Same1 (a b : Int) (w : World) (a0 : 0 ≤ a) (a1 : a < 18446744073709551616) (b0 : 0 ≤ b) (b1 : b < 18446744073709551616) :
    Calls Try.prog 86 #[.int .u64 a, .int .u64 b] w fun e w' => e = .returned (.bool (a % 18446744069414584321 == b % 18446744069414584321)) ∧ w = w' := by
  go_enter Try.func86, Try.ntmps86
  go_wp2_with (go_at_call 35; refine (gold_Red _ _ (by omega) (by omega)).mono ?_; rintro e w' ⟨rfl, rfl⟩)
  go_ret
  exact ⟨rfl, rfl⟩
end Go.Proofs.Ytfoodnmcilogjaa
