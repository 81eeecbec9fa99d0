/- The law GoldWide. -/
import Derived.Test.YtfoodnmcilogjaaGoldLaws
import Derived.Deep.RegionHeld3
import Derived.Deep.DrawnRows
namespace Go.Proofs.Ytfoodnmcilogjaa
open Go.RowKit
set_option linter.unusedVariables false
set_option linter.unusedSimpArgs false

set_option maxHeartbeats 400000 in
theorem gold_WideX (hi lo : Int) (w : World) (ha0 : 0 ≤ hi) (ha : hi < 18446744073709551616) (hb0 : 0 ≤ lo) (hb : lo < 18446744073709551616) :
    Calls Try.prog 37 #[.agg #[.int .u64 hi, .int .u64 lo]] w fun e w' => e = .returned (.int .u64 ((hi * 18446744073709551616 + lo) % 18446744069414584321)) ∧ w' = w.alloc (.cells #[.int .u64 hi, .int .u64 lo] 36) := by
  go_enter Try.func37, Try.ntmps37
  go_wp2_with fail
  refine (gold_fold _ _ _ (by omega) (by omega) (by omega) (by omega)).mono ?_; rintro e w' ⟨rfl, rfl⟩
  go_wp2_with fail
  go_ret
  exact ⟨rfl, rfl⟩

attribute [local go_sem ↓] Go.wp_at_zero Go.wp_at_succ

set_option maxHeartbeats 2000000 in
theorem goldWideW (x y : Int) (a : Option Addr) (cap : Nat) (xs : List Int) (w : World) (hx0 : fits .u64 x) (hy0 : fits .u64 y) (hx : Row .u64 w a xs) (hcap : OkCap a xs.length cap) :
    Calls Try.prog 6 #[.agg #[.int .u64 x, .int .u64 y], .slice a xs.length cap] w fun e w' => e = .returned (.bool true) ∧ Below w.heap.size w w' := by
  obtain ⟨x0, x1⟩ := fits_u64.1 hx0
  obtain ⟨y0, y1⟩ := fits_u64.1 hy0
  have hlen := hx.len
  have HX := Lib.hid hx
  clear hx hx0 hy0 hcap
  by_cases hg : xs.length ≤ 100
  · go_enter Try.func6, Try.ntmps6
    go_wp2_with fail
    go_loop [5, 6] (fun s i => ∃ (k : Nat) (t : Int), k ≤ xs.length ∧ i = .int .i64 k ∧ s = .int .u64 t ∧ 0 ≤ t ∧ t < 18446744069414584321 ∧ Hid (t = sumP (xs.take k))) (fun _ i => xs.length - (intOf i).toNat)
    case atStart => exact ⟨0, 0, Nat.zero_le _, rfl, rfl, by omega, by omega, rfl⟩
    case round =>
      obtain ⟨k, t, hk, rfl, rfl, ht0, ht, H⟩ := hrel
      by_cases hlt : k < xs.length
      · obtain ⟨b, off, rfl, hc⟩ := (HX.out.below (w' := w.alloc (.cells #[.int .u64 x, .int .u64 y] 33)) (by go_grown)).at (by omega)
        have hck := hc k hlt
        have hf := fits_u64.1 (HX.out.wf _ (nth_mem hlt))
        clear hc
        go_wp2_with (first | (go_at_call 25; refine (ref_Red _ _ (by omega) (by omega)).mono ?_; rintro e w' ⟨rfl, rfl⟩) | (go_at_call 36; refine (ref_Add _ _ _ (by omega) (by omega) (by omega) (by omega)).mono ?_; rintro e w' ⟨rfl, rfl⟩))
        go_round
        case rel => exact ⟨k + 1, _, by omega, by go_num, rfl, by omega, by omega, by have := H.out; unfold Hid; rw [take_succ_nth hlt, sumP_snoc, ← this]; try omega⟩
        case measure => simp [intOf]; omega
      · have hs : (sumP xs == t) = true := by rw [H.out, List.take_of_length_le (by omega)]; simp
        have HR : ∀ w', Below w.heap.size w w' → Row .u64 w' a xs := fun w' hb => HX.out.below hb
        have HR' := Lib.hid HR
        clear HR H
        go_wp2_with fail
        go_region_held3 (fun w' => w'.cell? ⟨w.heap.size, 0, none⟩ = some (.int .u64 x) ∧ w'.cell? ⟨w.heap.size, 1, none⟩ = some (.int .u64 y)) (go_keep)
          (first | (go_at_call 37; refine (gold_WideX _ _ _ x0 x1 y0 y1).mono ?_; rintro e w' ⟨rfl, rfl⟩) | (go_at_call 38; refine (ref_Wide _ _ _ x0 x1 y0 y1).mono ?_; rintro e w' ⟨rfl, rfl⟩) | (go_at_call 39; refine (gold_Sum _ _ _ _ (HR'.out _ (by go_grown))).mono ?_; rintro e w' ⟨rfl, rfl⟩) | (go_at_call 29; refine (live02 _).mono ?_; rintro e w' ⟨rfl, rfl⟩))
        all_goals (go_wp2_with fail; go_ret; exact ⟨rfl, by go_grown⟩)
  · go_enter Try.func6, Try.ntmps6
    go_wp2_with (go_at_call 29; refine (live02 _).mono ?_; rintro e w' ⟨rfl, rfl⟩)
    go_ret
    exact ⟨rfl, by go_grown⟩
end Go.Proofs.Ytfoodnmcilogjaa
