/- The reference's products, around and not, and around other places. -/
import Derived.Test.YtlgklkhijmeldaaConvC
import Derived.Test.YtlgklkhijmeldaaConvL
namespace Go.Proofs.Ytlgklkhijmeldaa
open Go.RowKit Sm
set_option linter.unusedVariables false
set_option linter.unusedSimpArgs false
set_option maxRecDepth 100000

set_option maxHeartbeats 1000000 in
theorem convRef_Cyclic (a b : Option Addr) (n ca cb : Nat) (xs ys : List Int) (w : World) (hx : Row .u64 w a xs) (hy : Row .u64 w b ys) (hn : xs.length = n) (hm : ys.length = n) (hl : n ≤ 4096) :
    Calls Try.prog 45 #[.slice a n ca, .slice b n cb] w (GivesRow .u64 (cvL xs ys n) w) := by
  obtain ⟨i0, hi, hz0, hz1, hz2⟩ := info_parts info_u64
  have HX := Lib.hid hx
  have HY := Lib.hid hy
  have HN := Lib.hid hn
  have HM := Lib.hid hm
  clear hx hy hn hm
  go_enter Try.func45, Try.ntmps45
  go_wp2_with fail
  go_loopw [5, 7] (fun v i wr => ∃ k : Nat, k ≤ n ∧ i = .int .i64 k ∧ Own .u64 45 w wr v k (fun k => S n (fun i => nth xs i * nth ys (othAt n k i)) % 18446744069414584321)) (fun _ i _ => n - (intOf i).toNat)
  case atStart => exact ⟨0, Nat.zero_le _, rfl, Own.nil _ _ _ _⟩
  case round =>
    obtain ⟨k, hk, rfl, hown⟩ := hrel
    by_cases hlt : k < n
    · obtain ⟨wo, hwo⟩ : ∃ wo : World, wo = wr := ⟨_, rfl⟩
      subst hwo
      have hn0 : ((n : Int) == 0) = false := bno (by omega)
      have hn0' : ¬ (n : Int) = 0 := by omega
      have hn0'' : ¬ n = 0 := by omega
      go_wp2_with fail
      go_loopw [8, 9] (fun s i wr => ∃ (j : Nat) (t : Int), j ≤ n ∧ i = .int .i64 j ∧ s = .int .u64 t ∧ 0 ≤ t ∧ t < 18446744069414584321 ∧ Hid (t = S j (fun i => nth xs i * nth ys (othAt n k i)) % 18446744069414584321) ∧ Below wo.heap.size wo wr) (fun _ i _ => n - (intOf i).toNat)
      case atStart => exact ⟨0, 0, Nat.zero_le _, rfl, rfl, by omega, by omega, rfl, Below.refl _ _⟩
      case round =>
        obtain ⟨j, t, hj, rfl, rfl, ht0, ht1, H, hb⟩ := hrel
        by_cases hjn : j < n
        · have hB := chain hown.below hb
          have hq := othAt_lt n k j (by omega)
          obtain ⟨hqi, hqi'⟩ := othAt_int n k j hjn hlt
          have HQ : Hid ((t + (nth xs j % 18446744069414584321) * (nth ys (othAt n k j) % 18446744069414584321) % 18446744069414584321) % 18446744069414584321 = S (j + 1) (fun i => nth xs i * nth ys (othAt n k i)) % 18446744069414584321) := mul_step t _ (nth xs j) (nth ys (othAt n k j)) H.out
          generalize othAt n k j = q at *
          obtain ⟨b1, o1, rfl, hc⟩ := (HX.out.below hB).at (by have := HN.out; omega)
          obtain ⟨b2, o2, rfl, hc2⟩ := (HY.out.below hB).at (by have := HM.out; omega)
          have hck := hc j (by have := HN.out; omega)
          have hck2 := hc2 q (by have := HM.out; omega)
          have hf := fits_u64.1 (HX.out.wf _ (nth_mem (show j < xs.length by have := HN.out; omega)))
          have hf2 := fits_u64.1 (HY.out.wf _ (nth_mem (show q < ys.length by have := HM.out; omega)))
          have e1 : IntKind.i64.wrap ((k : Int) - (j : Int)) = (k : Int) - (j : Int) := IntWalk.i64_in _ (by omega)
          have e2 : IntKind.i64.wrap ((k : Int) - (j : Int) + (n : Int)) = (k : Int) - (j : Int) + (n : Int) := IntWalk.i64_in _ (by omega)
          have e3 : 0 ≤ (k : Int) - (j : Int) + (n : Int) := by omega
          have q1 : (0 : Int) ≤ (q : Int) := by omega
          have q2 : (q : Int) < (n : Int) := by omega
          have q3 : (0 : Int) ≤ (j : Int) := by omega
          have q4 : (j : Int) < (n : Int) := by omega
          clear hc hc2
          go_wp2_with fail
          go_quiet ((first | (go_at_call 42; exact Calls.quiet_of_same ((ref_Red _ _ (by omega) (by omega)).mono fun e w' ⟨x, y⟩ => ⟨x, y.symm⟩)) | (go_at_call 41; exact Calls.quiet_of_same ((ref_Mul _ _ _ (by omega) (by omega) (by omega) (by omega)).mono fun e w' ⟨x, y⟩ => ⟨x, y.symm⟩)) | (go_at_call 51; exact Calls.quiet_of_same ((ref_Add _ _ _ (by omega) (by omega) (by omega) (by omega)).mono fun e w' ⟨x, y⟩ => ⟨x, y.symm⟩))))
          go_wp2_with fail
          go_roundw
          case rel => exact ⟨j + 1, _, by omega, by go_num, rfl, by omega, by omega, by unfold Hid; first | exact HQ.out | (have := HQ.out; rw [← this]; omega), below_drewN hb _⟩
          case measure => simp [intOf]; omega
        · obtain rfl : j = n := by omega
          have hown := hown.later hb
          go_wp2_with (at_builtin; refine wpList_append_own _ rfl _ _ 22 rfl w.heap.size 45 i0 (.int .u64 0) 1 8 Try.underlying22 hi hz0 hz1 hz2 rfl (by decide) _ _ _ rfl (hown.own.alloc _) ⟨wr.heap.size, 0, none⟩ 1 1 [.int .u64 t] rfl rfl (cell_one_new _ _ _) (one_cell _ _) (by unfold maxLen; omega) (by omega) (size_alloc_le hown.below _) ?_)
          intro v' w2 hown' hgrow _
          have hnext := hown.push _ H.out hown' hgrow
          clear hown' hgrow
          go_wp2_with fail
          go_roundw
          case rel => exact ⟨k + 1, by omega, by go_num, hnext⟩
          case measure => simp [intOf]; omega
    · have hk' : k = n := by omega
      have hres := hown.gives (xs := cvL xs ys n) (by rw [cvL_len]; omega) (cvL_fits xs ys n) (fun i hi => by
        rw [nth_cvL _ _ _ _ (by omega), cyc_at xs ys n i HN.out HM.out (by omega)]) (by omega)
      clear hown
      go_wp2_with fail
      go_ret
      exact hres

end Go.Proofs.Ytlgklkhijmeldaa
