/- The reference's products, around and not, and around other places. -/
import Derived.Test.YtfoodnmcilogjaaConvC
import Derived.Test.YtfoodnmcilogjaaConvL
namespace Go.Proofs.Ytfoodnmcilogjaa
open Go.RowKit Sm
set_option linter.unusedVariables false
set_option linter.unusedSimpArgs false

set_option maxHeartbeats 1000000 in
theorem convRef_Cyclic (a b : Option Addr) (n ca cb : Nat) (xs ys : List Int) (w : World) (hx : Row .u64 w a xs) (hy : Row .u64 w b ys) (hn : xs.length = n) (hm : ys.length = n) (hl : n ≤ 4096) :
    Calls Try.prog 47 #[.slice a n ca, .slice b n cb] w (GivesRow .u64 (cvL xs ys n) w) := by
  obtain ⟨i0, hi, hz0, hz1, hz2⟩ := info_parts info_u64
  have HX := Lib.hid hx
  have HY := Lib.hid hy
  have HN := Lib.hid hn
  have HM := Lib.hid hm
  clear hx hy hn hm
  go_enter Try.func47, Try.ntmps47
  go_wp2_with fail
  go_loopw [5, 7] (fun v i wr => ∃ k : Nat, k ≤ n ∧ i = .int .i64 k ∧ Own .u64 28 w wr v k (fun k => S n (fun i => nth xs i * nth ys (othAt n k i)) % 18446744069414584321)) (fun _ i _ => n - (intOf i).toNat)
  case atStart => exact ⟨0, Nat.zero_le _, rfl, Own.nil _ _ _ _⟩
  case round =>
    obtain ⟨k, hk, rfl, hown⟩ := hrel
    by_cases hlt : k < n
    · obtain ⟨wo, hwo⟩ : ∃ wo : World, wo = wr := ⟨_, rfl⟩
      subst hwo
      have hn0 : ((n : Int) == 0) = false := bno (by omega)
      have hn0' : ¬ (n : Int) = 0 := by omega
      have hn0'' : ¬ n = 0 := by omega
      go_wp2_with fail
      go_loopw [8, 9] (fun s i wr => ∃ (j : Nat) (t : Int), j ≤ n ∧ i = .int .i64 j ∧ s = .int .u64 t ∧ 0 ≤ t ∧ t < 18446744069414584321 ∧ Hid (t = S j (fun i => nth xs i * nth ys (othAt n k i)) % 18446744069414584321) ∧ Below wo.heap.size wo wr) (fun _ i _ => n - (intOf i).toNat)
      case atStart => exact ⟨0, 0, Nat.zero_le _, rfl, rfl, by omega, by omega, rfl, Below.refl _ _⟩
      case round =>
        obtain ⟨j, t, hj, rfl, rfl, ht0, ht1, H, hb⟩ := hrel
        by_cases hjn : j < n
        · have hB := chain hown.below hb
          have hq := othAt_lt n k j (by omega)
          obtain ⟨hqi, hqi'⟩ := othAt_int n k j hjn hlt
          have HQ : Hid ((t + (nth xs j % 18446744069414584321) * (nth ys (othAt n k j) % 18446744069414584321) % 18446744069414584321) % 18446744069414584321 = S (j + 1) (fun i => nth xs i * nth ys (othAt n k i)) % 18446744069414584321) := mul_step t _ (nth xs j) (nth ys (othAt n k j)) H.out
          generalize othAt n k j = q at *
          obtain ⟨b1, o1, rfl, hc⟩ := (HX.out.below hB).at (by have := HN.out; omega)
          obtain ⟨b2, o2, rfl, hc2⟩ := (HY.out.below hB).at (by have := HM.out; omega)
          have hck := hc j (by have := HN.out; omega)
          have hck2 := hc2 q (by have := HM.out; omega)
          have hf := fits_u64.1 (HX.out.wf _ (nth_mem (show j < xs.length by have := HN.out; omega)))
          have hf2 := fits_u64.1 (HY.out.wf _ (nth_mem (show q < ys.length by have := HM.out; omega)))
          have e1 : IntKind.i64.wrap ((k : Int) - (j : Int)) = (k : Int) - (j : Int) := IntWalk.i64_in _ (by omega)
          have e2 : IntKind.i64.wrap ((k : Int) - (j : Int) + (n : Int)) = (k : Int) - (j : Int) + (n : Int) := IntWalk.i64_in _ (by omega)
          have e3 : 0 ≤ (k : Int) - (j : Int) + (n : Int) := by omega
          have q1 : (0 : Int) ≤ (q : Int) := by omega
          have q2 : (q : Int) < (n : Int) := by omega
          have q3 : (0 : Int) ≤ (j : Int) := by omega
          have q4 : (j : Int) < (n : Int) := by omega
          clear hc hc2
          go_wp2_with fail
          go_quiet ((first | (go_at_call 25; exact Calls.quiet_of_same ((ref_Red _ _ (by omega) (by omega)).mono fun e w' ⟨x, y⟩ => ⟨x, y.symm⟩)) | (go_at_call 30; exact Calls.quiet_of_same ((ref_Mul _ _ _ (by omega) (by omega) (by omega) (by omega)).mono fun e w' ⟨x, y⟩ => ⟨x, y.symm⟩)) | (go_at_call 36; exact Calls.quiet_of_same ((ref_Add _ _ _ (by omega) (by omega) (by omega) (by omega)).mono fun e w' ⟨x, y⟩ => ⟨x, y.symm⟩))))
          go_wp2_with fail
          go_roundw
          case rel => exact ⟨j + 1, _, by omega, by go_num, rfl, by omega, by omega, by unfold Hid; first | exact HQ.out | (have := HQ.out; rw [← this]; omega), below_drewN hb _⟩
          case measure => simp [intOf]; omega
        · obtain rfl : j = n := by omega
          have hown := hown.later hb
          go_wp2_with (at_builtin; refine wpList_append_own _ rfl _ _ 22 rfl w.heap.size 28 i0 (.int .u64 0) 1 8 Try.underlying22 hi hz0 hz1 hz2 rfl (by decide) _ _ _ rfl (hown.own.alloc _) ⟨wr.heap.size, 0, none⟩ 1 1 [.int .u64 t] rfl rfl (cell_one_new _ _ _) (one_cell _ _) (by unfold maxLen; omega) (by omega) (size_alloc_le hown.below _) ?_)
          intro v' w2 hown' hgrow _
          have hnext := hown.push _ H.out hown' hgrow
          clear hown' hgrow
          go_wp2_with fail
          go_roundw
          case rel => exact ⟨k + 1, by omega, by go_num, hnext⟩
          case measure => simp [intOf]; omega
    · have hk' : k = n := by omega
      have hres := hown.gives (xs := cvL xs ys n) (by rw [cvL_len]; omega) (cvL_fits xs ys n) (fun i hi => by
        rw [nth_cvL _ _ _ _ (by omega), cyc_at xs ys n i HN.out HM.out (by omega)]) (by omega)
      clear hown
      go_wp2_with fail
      go_ret
      exact hres

set_option maxHeartbeats 1000000 in
theorem convRef_Linear (a b : Option Addr) (n m ca cb : Nat) (xs ys : List Int) (w : World) (hx : Row .u64 w a xs) (hy : Row .u64 w b ys) (hn : xs.length = n) (hm : ys.length = m) (hn0 : 0 < n) (hm0 : 0 < m) (hl : n ≤ 4096) (hl2 : m ≤ 4096) :
    Calls Try.prog 45 #[.slice a n ca, .slice b m cb] w (GivesRow .u64 (cvL xs ys (n + m - 1)) w) := by
  obtain ⟨i0, hi, hz0, hz1, hz2⟩ := info_parts info_u64
  have HX := Lib.hid hx
  have HY := Lib.hid hy
  have HN := Lib.hid hn
  have HM := Lib.hid hm
  have z1 : ((n : Int) == 0) = false := bno (by omega)
  have z2 : ((m : Int) == 0) = false := bno (by omega)
  obtain ⟨N, hN⟩ : ∃ N, n + m - 1 = N := ⟨_, rfl⟩
  rw [hN]
  have HNN := Lib.hid hN
  have e0 : IntKind.i64.wrap ((n : Int) + (m : Int) - 1) = (N : Int) := by rw [show (n : Int) + (m : Int) - 1 = (N : Int) by omega]; exact IntWalk.i64_in _ (by omega)
  have e0' : (n : Int) + (m : Int) - 1 = (N : Int) := by omega
  have hNle : N ≤ 8191 := by omega
  have HE := Lib.hid e0'
  clear hx hy hn hm hN
  go_enter Try.func45, Try.ntmps45
  go_wp2_with fail
  go_loopw [5, 6] (fun v i wr => ∃ k : Nat, k ≤ N ∧ i = .int .i64 k ∧ Own .u64 28 w wr v k (fun k => S n (lnT xs ys k) % 18446744069414584321)) (fun _ i _ => N - (intOf i).toNat)
  case atStart => exact ⟨0, Nat.zero_le _, rfl, Own.nil _ _ _ _⟩
  case round =>
    obtain ⟨k, hk, rfl, hown⟩ := hrel
    by_cases hlt : k < N
    · obtain ⟨wo, hwo⟩ : ∃ wo : World, wo = wr := ⟨_, rfl⟩
      subst hwo
      go_wp2_with fail
      go_loopw [7, 8] (fun s i wr => ∃ (j : Nat) (t : Int), j ≤ n ∧ i = .int .i64 j ∧ s = .int .u64 t ∧ 0 ≤ t ∧ t < 18446744069414584321 ∧ Hid (t = S j (lnT xs ys k) % 18446744069414584321) ∧ Below wo.heap.size wo wr) (fun _ i _ => n - (intOf i).toNat)
      case atStart => exact ⟨0, 0, Nat.zero_le _, rfl, rfl, by omega, by omega, rfl, Below.refl _ _⟩
      case round =>
        obtain ⟨j, t, hj, rfl, rfl, ht0, ht1, H, hb⟩ := hrel
        by_cases hjn : j < n
        · by_cases hin : j ≤ k ∧ k - j < m
          · obtain ⟨q, hq⟩ : ∃ q, k - j = q := ⟨_, rfl⟩
            have hB := chain hown.below hb
            have hterm : lnT xs ys k j = nth xs j * nth ys q := by unfold lnT; rw [if_pos ⟨hin.1, by rw [HM.out]; exact hin.2⟩, hq]
            have HQ : Hid ((t + (nth xs j % 18446744069414584321) * (nth ys q % 18446744069414584321) % 18446744069414584321) % 18446744069414584321 = S (j + 1) (lnT xs ys k) % 18446744069414584321) := by
              unfold Hid
              show _ = (S j (lnT xs ys k) + lnT xs ys k j) % 18446744069414584321
              rw [hterm]; exact mul_step t _ _ _ H.out
            obtain ⟨b1, o1, rfl, hc⟩ := (HX.out.below hB).at (by have := HN.out; omega)
            obtain ⟨b2, o2, rfl, hc2⟩ := (HY.out.below hB).at (by have := HM.out; omega)
            have hck := hc j (by have := HN.out; omega)
            have hck2 := hc2 q (by have := HM.out; omega)
            have hf := fits_u64.1 (HX.out.wf _ (nth_mem (show j < xs.length by have := HN.out; omega)))
            have hf2 := fits_u64.1 (HY.out.wf _ (nth_mem (show q < ys.length by have := HM.out; omega)))
            have e1 : IntKind.i64.wrap ((k : Int) - (j : Int)) = (q : Int) := by rw [show (k : Int) - (j : Int) = (q : Int) by omega]; exact IntWalk.i64_in _ (by omega)
            have e1' : (k : Int) - (j : Int) = (q : Int) := by omega
            have q1 : (0 : Int) ≤ (q : Int) := by omega
            have q2 : (q : Int) < (m : Int) := by omega
            have q3 : (0 : Int) ≤ (j : Int) := by omega
            have q4 : (j : Int) < (n : Int) := by omega
            clear hc hc2 hterm hin hq
            go_wp2_with fail
            go_quiet ((first | (go_at_call 25; exact Calls.quiet_of_same ((ref_Red _ _ (by omega) (by omega)).mono fun e w' ⟨x, y⟩ => ⟨x, y.symm⟩)) | (go_at_call 30; exact Calls.quiet_of_same ((ref_Mul _ _ _ (by omega) (by omega) (by omega) (by omega)).mono fun e w' ⟨x, y⟩ => ⟨x, y.symm⟩)) | (go_at_call 36; exact Calls.quiet_of_same ((ref_Add _ _ _ (by omega) (by omega) (by omega) (by omega)).mono fun e w' ⟨x, y⟩ => ⟨x, y.symm⟩))))
            go_wp2_with fail
            go_roundw
            case rel => exact ⟨j + 1, _, by omega, by go_num, rfl, by omega, by omega, by unfold Hid; first | exact HQ.out | (have := HQ.out; rw [← this]; omega), below_drewN hb _⟩
            case measure => simp [intOf]; omega
          · have hterm : lnT xs ys k j = 0 := by unfold lnT; rw [if_neg (fun h => hin ⟨h.1, by have := HM.out; omega⟩)]
            have HQ : Hid (t = S (j + 1) (lnT xs ys k) % 18446744069414584321) := by
              unfold Hid
              show _ = (S j (lnT xs ys k) + lnT xs ys k j) % 18446744069414584321
              rw [hterm, Int.add_zero]; exact H.out
            have hd : k < j ∨ (j ≤ k ∧ m ≤ k - j) := by omega
            clear hterm hin
            rcases hd with hd | ⟨hd, hd2⟩
            all_goals
              go_wp2_with fail
              go_roundw
              case rel => exact ⟨j + 1, t, by omega, by go_num, rfl, ht0, ht1, HQ.out, hb⟩
              case measure => simp [intOf]; omega
        · obtain rfl : j = n := by omega
          have hown := hown.later hb
          go_wp2_with (at_builtin; refine wpList_append_own _ rfl _ _ 22 rfl w.heap.size 28 i0 (.int .u64 0) 1 8 Try.underlying22 hi hz0 hz1 hz2 rfl (by decide) _ _ _ rfl (hown.own.alloc _) ⟨wr.heap.size, 0, none⟩ 1 1 [.int .u64 t] rfl rfl (cell_one_new _ _ _) (one_cell _ _) (by unfold maxLen; omega) (by omega) (size_alloc_le hown.below _) ?_)
          intro v' w2 hown' hgrow _
          have hnext := hown.push _ H.out hown' hgrow
          clear hown' hgrow
          go_wp2_with fail
          go_roundw
          case rel => exact ⟨k + 1, by omega, by go_num, hnext⟩
          case measure => simp [intOf]; omega
    · have hk' : k = N := by omega
      have hres := hown.gives (xs := cvL xs ys N) (by rw [cvL_len]; omega) (cvL_fits xs ys N) (fun i hi => by
        rw [nth_cvL _ _ _ _ (by omega), lin_at xs ys N i (by rw [HN.out, HM.out]; exact HNN.out.symm) (by have := HN.out; omega) (by have := HM.out; omega) (by omega), HN.out]) (by omega)
      clear hown
      go_wp2_with fail
      go_ret
      exact hres

theorem convRef_Linear_nil (a b : Option Addr) (n m ca cb : Nat) (w : World) (h : n = 0 ∨ m = 0) (hl : n ≤ 9223372036854775807) :
    Calls Try.prog 45 #[.slice a n ca, .slice b m cb] w fun e w' => e = .returned (.slice none 0 0) ∧ w = w' := by
  rcases (show n = 0 ∨ (0 < n ∧ m = 0) by omega) with h1 | ⟨h1, h2⟩
  · subst h1
    go_enter Try.func45, Try.ntmps45
    go_wp2_with fail
    go_ret
    exact ⟨rfl, rfl⟩
  · subst h2
    have z1 : ((n : Int) == 0) = false := bno (by omega)
    clear h
    go_enter Try.func45, Try.ntmps45
    go_wp2_with fail
    go_ret
    exact ⟨rfl, rfl⟩

set_option maxHeartbeats 1000000 in
theorem convRef_Wrap (a : Option Addr) (n m ca : Nat) (xs : List Int) (w : World) (hx : Row .u64 w a xs) (hn : xs.length = n) (hl : n ≤ 16777216) (hm : m ≤ 16777216) :
    Calls Try.prog 48 #[.slice a n ca, .int .i64 m] w (GivesRow .u64 (wrL xs m) w) := by
  obtain ⟨i0, hi, hz0, hz1, hz2⟩ := info_parts info_u64
  have HX := Lib.hid hx
  have HN := Lib.hid hn
  clear hx hn
  go_enter Try.func48, Try.ntmps48
  go_wp2_with fail
  go_loopw [5, 6] (fun v i wr => ∃ k : Nat, k ≤ m ∧ i = .int .i64 k ∧ Own .u64 28 w wr v k (fun k => S n (wrT xs m k) % 18446744069414584321)) (fun _ i _ => m - (intOf i).toNat)
  case atStart => exact ⟨0, Nat.zero_le _, rfl, Own.nil _ _ _ _⟩
  case round =>
    obtain ⟨k, hk, rfl, hown⟩ := hrel
    by_cases hlt : k < m
    · obtain ⟨wo, hwo⟩ : ∃ wo : World, wo = wr := ⟨_, rfl⟩
      subst hwo
      go_wp2_with fail
      go_loopw [7, 8] (fun s i wr => ∃ (j : Nat) (t : Int), j ≤ 33554432 ∧ i = .int .i64 j ∧ s = .int .u64 t ∧ 0 ≤ t ∧ t < 18446744069414584321 ∧ Hid (t = S (min j n) (wrT xs m k) % 18446744069414584321) ∧ Hid (j % m = k) ∧ wo = wr) (fun _ i _ => n - (intOf i).toNat)
      case atStart =>
        have h0 := wr_start xs m k hlt (min k n) (by omega)
        exact ⟨k, 0, by omega, rfl, rfl, by omega, by omega, by unfold Hid; rw [h0]; rfl, Nat.mod_eq_of_lt hlt, rfl⟩
      case round =>
        obtain ⟨j, t, hj, rfl, rfl, ht0, ht1, H, HJ, rfl⟩ := hrel
        by_cases hjn : j < n
        · have HQ : Hid ((t + nth xs j % 18446744069414584321) % 18446744069414584321 = S (min (j + m) n) (wrT xs m k) % 18446744069414584321) := by
            unfold Hid
            rw [wr_step xs m k j n (by omega) HJ.out hjn]
            exact add_step t _ _ (by have := H.out; rwa [Nat.min_eq_left (by omega)] at this)
          have HJ2 : Hid ((j + m) % m = k) := by unfold Hid; rw [Nat.add_mod_right]; exact HJ.out
          obtain ⟨b1, o1, rfl, hc⟩ := (HX.out.below hown.below).at (by have := HN.out; omega)
          have hck := hc j (by have := HN.out; omega)
          have hf := fits_u64.1 (HX.out.wf _ (nth_mem (show j < xs.length by have := HN.out; omega)))
          have q3 : (0 : Int) ≤ (j : Int) := by omega
          have q4 : (j : Int) < (n : Int) := by omega
          clear hc
          go_wp2_with (first | (go_at_call 25; refine (ref_Red _ _ (by omega) (by omega)).mono ?_; rintro e w' ⟨rfl, rfl⟩) | (go_at_call 36; refine (ref_Add _ _ _ (by omega) (by omega) (by omega) (by omega)).mono ?_; rintro e w' ⟨rfl, rfl⟩))
          go_roundw
          case rel => exact ⟨j + m, _, by omega, by first | rfl | go_num, rfl, by omega, by omega, by unfold Hid; have := HQ.out; rw [← this]; omega, HJ2, trivial⟩
          case measure => simp [intOf]; omega
        · have HE : Hid (t = S n (wrT xs m k) % 18446744069414584321) := by unfold Hid; have := H.out; rwa [Nat.min_eq_right (by omega)] at this
          go_wp2_with (at_builtin; refine wpList_append_own _ rfl _ _ 22 rfl w.heap.size 28 i0 (.int .u64 0) 1 8 Try.underlying22 hi hz0 hz1 hz2 rfl (by decide) _ _ _ rfl (hown.own.alloc _) ⟨wo.heap.size, 0, none⟩ 1 1 [.int .u64 t] rfl rfl (cell_one_new _ _ _) (one_cell _ _) (by unfold maxLen; omega) (by omega) (size_alloc_le hown.below _) ?_)
          intro v' w2 hown' hgrow _
          have hnext := hown.push _ HE.out hown' hgrow
          clear hown' hgrow
          go_wp2_with fail
          go_roundw
          case rel => exact ⟨k + 1, by omega, by go_num, hnext⟩
          case measure => simp [intOf]; omega
    · have hk' : k = m := by omega
      have hres := hown.gives (xs := wrL xs m) (by rw [wrL_len]; omega) (wrL_fits xs m) (fun i hi => by
        rw [nth_wrL _ _ _ (by omega), HN.out]) (by omega)
      clear hown
      go_wp2_with fail
      go_ret
      exact hres
end Go.Proofs.Ytfoodnmcilogjaa
