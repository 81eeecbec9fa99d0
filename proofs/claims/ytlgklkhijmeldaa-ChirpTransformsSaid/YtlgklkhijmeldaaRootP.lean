/- The powers of a root, one by one. -/
import Derived.Test.YtlgklkhijmeldaaRootW
import Derived.Test.YtlgklkhijmeldaaVecC
import Derived.Test.YtlgklkhijmeldaaVecO
namespace Go.Proofs.Ytlgklkhijmeldaa
open Go.RowKit Sm
set_option linter.unusedVariables false
set_option linter.unusedSimpArgs false
set_option maxRecDepth 100000

theorem own_eqz {k : IntKind} {e : TypeId} {w wr : World} {g n : Nat} {f f' : Nat → Int} (h : OwnAt k e w wr g n f) (he : ∀ n, f' n = f n) : OwnAt k e w wr g n f' := by
  rw [show f' = f from funext he]; exact h

set_option maxHeartbeats 800000 in
theorem rootPowers (a : Int) (n : Nat) (w : World) (h0 : 0 ≤ a) (h1 : a < 18446744073709551616) (hn : n ≤ 16777216) :
    Calls Try.prog 55 #[.int .u64 a, .int .i64 n] w (GivesRowE .u64 (powL a n) 0 w) := by
  obtain ⟨i0, hi, hz0, hz1, hz2⟩ := info_parts info_u64
  go_enter Try.func55, Try.ntmps55
  go_wp2_with (at_make; refine wpList_make_full _ rfl _ _ 22 rfl w.heap.size 45 i0 (.int .u64 0) 1 Try.underlying22 hi hz0 hz1 .i64 .i64 n n n rfl rfl rfl rfl (by rw [hz2]; omega) (by unfold maxLen; omega) (Nat.le_refl _) ?_)
  intro w1 hown0 hgrow0
  have hown := Own.made hown0 hgrow0
  clear hown0 hgrow0
  go_wp2_with fail
  go_loopw [7, 19] (fun p i wr => ∃ (k : Nat) (v : Int), k ≤ n ∧ i = .int .i64 k ∧ p = .int .u64 v ∧ Hid (v = pw a k) ∧ 0 ≤ v ∧ v < 18446744069414584321 ∧ OwnAt .u64 45 w wr w.heap.size n (fun j => if j < k then pw a j else 0)) (fun _ i _ => n - (intOf i).toNat)
  case atStart => exact ⟨0, 1, Nat.zero_le _, rfl, rfl, (pw_0 a).symm, by omega, by omega, own_eqz hown (fun j => if_neg (by omega))⟩
  case round =>
    obtain ⟨k, v, hk, rfl, rfl, HV, hv0, hv1, hown⟩ := hrel
    by_cases hlt : k < n
    · have hcell := hown.cell k hlt
      rw [if_neg (Nat.lt_irrefl k)] at hcell
      have hfz := hown.free k
      have hnext := hown.store k hlt v (f' := fun j => if j < k + 1 then pw a j else 0) (by rw [if_pos (by omega)]; exact HV.out.symm) (fun j _ hj => by
        by_cases h : j < k
        · rw [if_pos h, if_pos (by omega)]
        · rw [if_neg h, if_neg (by omega)])
      have HN := Lib.hid hnext
      have HM : Hid (v * a % 18446744069414584321 = pw a (k + 1)) := by unfold Hid; rw [HV.out]; exact pw_succ a k
      clear hown hnext
      go_wp2_with (first | (go_at_call 65; refine (gold_Mul _ _ _ (by omega) (by omega) (by omega) (by omega)).mono ?_; rintro e w' ⟨rfl, rfl⟩))
      go_roundw
      case rel => exact ⟨k + 1, _, by omega, by go_num, rfl, HM.out, by omega, by omega, HN.out⟩
      case measure => simp [intOf]; omega
    · have hkn : k = n := by omega
      have hrow := hown.row (xs := powL a n) (powL_len a n) (powL_fits a n) (fun i hi => by rw [show nth (powL a n) i = pw a i from nth_ofFn _ _ _ hi, if_pos (by omega)]) hn
      have hb := hown.below
      have HR := Lib.hid hrow
      have HL := Lib.hid (powL_len a n)
      clear hown hrow
      go_wp2_with fail
      go_ret2
      exact ⟨some ⟨w.heap.size, 0, none⟩, n, by simp [HL.out], HR.out, by rw [HL.out]; exact ⟨Nat.le_refl _, fun h => by cases h⟩, hb⟩
end Go.Proofs.Ytlgklkhijmeldaa
