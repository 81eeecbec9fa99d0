/- Two sides without a common divisor: the orders of what is left. -/
import Derived.Test.YtpehbgcbifgokaaPermL
import Derived.StillTailTactics
namespace Go.Proofs.Ytpehbgcbifgokaa
open Go.RowKit
set_option linter.unusedVariables false
set_option linter.unusedSimpArgs false

theorem permCoprime_no (a b : Int) (w : World) (h : ¬ Sides a b) (ha : -9223372036854775808 ≤ a ∧ a ≤ 9223372036854775807) (hb : -9223372036854775808 ≤ b ∧ b ≤ 9223372036854775807) :
    Calls Try.prog 57 #[.int .i64 a, .int .i64 b] w fun e w' => e = .returned (.int .i64 3) ∧ Below w.heap.size w w' := by
  have H := Lib.hid h
  clear h
  go_enter Try.func57, Try.ntmps57
  go_wp2_with fail
  refine (permSides_no _ _ _ H.out ha hb).mono ?_; rintro e w' ⟨rfl, rfl⟩
  go_wp2_with fail
  go_ret
  exact ⟨rfl, by go_grown⟩

theorem permCoprime_ok (a b : Nat) (w : World) (h : Sides a b) (hg : Nat.gcd a b = 1) :
    Calls Try.prog 57 #[.int .i64 a, .int .i64 b] w fun e w' => e = .returned (.int .i64 0) ∧ Below w.heap.size w w' := by
  have H := Lib.hid h
  have HG := Lib.hid hg
  obtain ⟨h1, h2, h3, h4, h5⟩ := h
  clear h5 hg
  go_enter Try.func57, Try.ntmps57
  go_wp2_with fail
  refine (permSides_yes _ _ _ H.out).mono ?_; rintro e w' ⟨rfl, rfl⟩
  go_wp2_with fail
  refine (factGcd a b _ (by omega) (by omega)).mono ?_
  rintro e w' ⟨rfl, hb⟩
  rw [HG.out]
  go_wp2_with fail
  go_ret
  exact ⟨rfl, hb⟩

theorem permCoprime_div (a b : Nat) (w : World) (h : Sides a b) (hg : Nat.gcd a b ≠ 1) :
    Calls Try.prog 57 #[.int .i64 a, .int .i64 b] w fun e w' => e = .returned (.int .i64 2) ∧ Below w.heap.size w w' := by
  have H := Lib.hid h
  obtain ⟨G, hG⟩ : ∃ G, Nat.gcd a b = G := ⟨_, rfl⟩
  have hne : ((G : Int) != 1) = true := bdiff (by omega)
  have HG := Lib.hid hG
  obtain ⟨h1, h2, h3, h4, h5⟩ := h
  clear h5 hg hG
  go_enter Try.func57, Try.ntmps57
  go_wp2_with fail
  refine (permSides_yes _ _ _ H.out).mono ?_; rintro e w' ⟨rfl, rfl⟩
  go_wp2_with fail
  refine (factGcd a b _ (by omega) (by omega)).mono ?_
  rintro e w' ⟨rfl, hb⟩
  rw [HG.out]
  go_wp2_with fail
  go_ret
  exact ⟨rfl, hb⟩

theorem crt_bd (a b : Nat) : ∀ x ∈ crtL a b, ∃ t, t < a * b ∧ x = ((invOf (a * b) (crtF a b) t : Nat) : Int) := by
  intro x hx
  obtain ⟨i, hi, rfl⟩ := List.mem_map.1 hx
  exact ⟨i, by simpa using hi, rfl⟩
theorem crtL_len (a b : Nat) : (crtL a b).length = a * b := mapL_len _ _

set_option maxHeartbeats 1600000 in
theorem permCrt_ok (a b : Nat) (w : World) (h : Sides a b) (hg : Nat.gcd a b = 1) :
    Calls Try.prog 28 #[.int .i64 a, .int .i64 b] w (GivesRowE .i64 (crtL a b) 0 w) := by
  obtain ⟨i0, hi, hz0, hz1, hz2⟩ := info_parts info_int
  have H := Lib.hid h
  have HG := Lib.hid hg
  obtain ⟨h1, h2, h3, h4, h5⟩ := h
  have hab : a * b ≤ 16777216 := by rw [← Int.natCast_mul] at h5; omega
  have hw : IntKind.i64.wrap ((a : Int) * (b : Int)) = ((a * b : Nat) : Int) := by rw [← Int.natCast_mul]; exact IntWalk.i64_in _ (by omega)
  have HB : Hid (∀ k, k < a * b → crtF a b k < a * b) := fun k hk => crtF_lt a b k hk
  have HL := Lib.hid (crtL_len a b)
  have ha0 : ((a : Int) == 0) = false := bno (by omega)
  have hb0 : ((b : Int) == 0) = false := bno (by omega)
  have ha0' : ¬ (a : Int) = 0 := by omega
  have ha0'' : ¬ a = 0 := by omega
  have hb0' : ¬ (b : Int) = 0 := by omega
  have hb0'' : ¬ b = 0 := by omega
  obtain ⟨N, hN⟩ : ∃ N, a * b = N := ⟨_, rfl⟩
  rw [hN] at hw hab
  have HN := Lib.hid hN
  clear hN h5 hg
  go_enter Try.func28, Try.ntmps28
  go_wp2_with fail
  refine (permCoprime_ok a b _ H.out HG.out).mono ?_
  rintro e w0 ⟨rfl, hbl⟩
  have HB0 := Lib.hid hbl
  clear hbl
  go_wp2_with (at_make; refine wpList_make_full _ rfl _ _ 35 rfl w0.heap.size 3 i0 (.int .i64 0) 1 Try.underlying35 hi hz0 hz1 .i64 .i64 N N N rfl rfl rfl rfl (by rw [hz2]; omega) (by unfold maxLen; omega) (Nat.le_refl _) ?_)
  intro w1 hown0 hgrow0
  have hown := Own.made hown0 hgrow0
  clear hown0 hgrow0
  go_wp2_with fail
  go_loopw [22] (fun i wr => ∃ k : Nat, k ≤ N ∧ i = .int .i64 k ∧ OwnAt .i64 3 w0 wr w0.heap.size N (fun n => if among (mapL N (crtF a b)) k n = 1 then (invOf N (crtF a b) n : Int) else 0)) (fun i _ => N - (intOf i).toNat)
  case atStart => exact ⟨0, Nat.zero_le _, rfl, OwnAt.eq hown (fun n => by rw [among_zero]; rfl)⟩
  case round =>
    obtain ⟨k, hk, rfl, hown⟩ := hrel
    by_cases hlt : k < N
    · have hq := HB.out k (by rw [HN.out]; exact hlt)
      rw [HN.out] at hq
      obtain ⟨x1, x2, y, hx1, hx2, hy⟩ : ∃ x1 x2 y : Nat, k % a = x1 ∧ x1 * b = x2 ∧ k % b = y := ⟨_, _, _, rfl, rfl, rfl⟩
      have e1 : (k : Int).tmod (a : Int) = (x1 : Int) := by rw [Int.tmod_eq_emod_of_nonneg (by omega), ← Int.natCast_emod, hx1]
      have hval : crtF a b k = x2 + y := by unfold crtF; rw [hx1, hx2, hy]
      rw [hval] at hq
      have e2 : IntKind.i64.wrap ((x1 : Int) * (b : Int)) = (x2 : Int) := by rw [← Int.natCast_mul, hx2]; exact IntWalk.i64_in _ (by omega)
      have e3 : (k : Int).tmod (b : Int) = (y : Int) := by rw [Int.tmod_eq_emod_of_nonneg (by omega), ← Int.natCast_emod, hy]
      have e3' : (k : Int) % (b : Int) = (y : Int) := by rw [← Int.natCast_emod, hy]
      have e1' : (k : Int) % (a : Int) = (x1 : Int) := by rw [← Int.natCast_emod, hx1]
      have e4 : IntKind.i64.wrap ((x2 : Int) + (y : Int)) = ((x2 + y : Nat) : Int) := by rw [← Int.natCast_add]; exact IntWalk.i64_in _ (by omega)
      have hnk : nth (mapL N (crtF a b)) k = ((x2 + y : Nat) : Int) := by rw [nth_mapL _ _ _ hlt, hval]
      have hinv : invOf N (crtF a b) (x2 + y) = k := by rw [← hval, ← HN.out]; exact invOf_of _ _ (crtF_inj a b HG.out) k (by rw [HN.out]; exact hlt)
      obtain ⟨m, hm⟩ : ∃ m, x2 + y = m := ⟨_, rfl⟩
      rw [hm] at e4 hq hnk hinv
      have hfz := hown.free m
      have hcell := hown.cell m hq
      have hnext := hown.store m hq (k : Int) (f' := fun n => if among (mapL N (crtF a b)) (k + 1) n = 1 then (invOf N (crtF a b) n : Int) else 0) (by show (if among (mapL N (crtF a b)) (k + 1) m = 1 then (invOf N (crtF a b) m : Int) else 0) = _; rw [among_new _ k m hnk, if_pos rfl, hinv]) (fun j _ hj => by show (if among (mapL N (crtF a b)) (k + 1) j = 1 then (invOf N (crtF a b) j : Int) else 0) = _; rw [among_old _ k j (by rw [hnk]; omega)])
      have HNX := Lib.hid hnext
      have hk0 : (0 : Int) ≤ (k : Int) := by omega
      have ha1 : (1 : Int) ≤ (a : Int) := by omega
      have g1 : (0 : Int) ≤ (m : Int) := by omega
      have g2 : (m : Int) < (N : Int) := by omega
      obtain ⟨z, hz⟩ : ∃ z : Int, (if among (mapL N (crtF a b)) k m = 1 then (invOf N (crtF a b) m : Int) else 0) = z := ⟨_, rfl⟩
      rw [hz] at hcell
      clear hx1 hx2 hy hval hnext hnk hinv hz hown hm
      go_wp2_with fail
      go_still_tail 12, (by kernel_rfl)
      go_wp2_with fail
      go_roundw
      case rel => exact ⟨k + 1, by omega, by go_num, HNX.out.later (Below.refl _ _).drew⟩
      case measure => simp [intOf]; omega
    · have hkn : k = N := by omega
      have hall : ∀ m, m < N → among (mapL N (crtF a b)) k m = 1 := by
        intro m hm
        obtain ⟨i, hi, e⟩ := Fld.onto N (crtF a b) (fun i hi => by have := HB.out i (by rw [HN.out]; exact hi); rw [HN.out] at this; exact this) (fun i j hij hj => crtF_inj a b HG.out i j hij (by rw [HN.out]; exact hj)) m hm
        unfold among
        rw [if_pos ⟨i, by omega, by rw [nth_mapL _ _ _ hi, e]⟩]
      have hrow := OwnAt.row hown (xs := crtL a b) (by rw [HL.out, HN.out]) (fun x hx => by
        obtain ⟨t, ht, rfl⟩ := crt_bd a b x hx
        have := (invOf_lt _ _ (crtF_lt a b) (crtF_inj a b HG.out) t ht).1
        have := HN.out
        exact fits_nat (by omega)) (fun i hi => by
          unfold crtL; rw [nth_mapL _ _ _ (by rw [HN.out]; exact hi), if_pos (hall i hi), HN.out]) hab
      have hb := hown.below
      have HR := Lib.hid hrow
      clear hown hrow hall
      go_wp2_with fail
      go_ret2
      exact ⟨some ⟨w0.heap.size, 0, none⟩, N, by simp [HL.out, HN.out], HR.out, ⟨by simp [HL.out, HN.out], fun h => by cases h⟩, chain HB0.out hb⟩
end Go.Proofs.Ytpehbgcbifgokaa
