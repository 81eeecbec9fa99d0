/- The contracts of the plain transform (package dft, dulcimerref06): one sum. -/
import Derived.Test.YtfoodnmcilogjaaRootW
import Derived.Test.YtfoodnmcilogjaaVecE
namespace Go.Proofs.Ytfoodnmcilogjaa
open Go.RowKit Sm
set_option linter.unusedVariables false
set_option linter.unusedSimpArgs false

/-- The sum of a row times the powers of a number. -/
def pt (xs : List Int) (st : Int) : Int := S xs.length (fun i => nth xs i * st ^ i) % 18446744069414584321
def hor (xs : List Int) (st : Int) (j : Nat) : Int := S (xs.length - j) (fun i => nth xs (j + i) * st ^ i)
theorem pt_range (xs : List Int) (st : Int) : 0 ≤ pt xs st ∧ pt xs st < 18446744069414584321 := by unfold pt; omega

theorem hor_end (xs : List Int) (st : Int) : hor xs st xs.length = 0 := by unfold hor; rw [Nat.sub_self]; rfl
theorem hor_zero (xs : List Int) (st : Int) : hor xs st 0 % 18446744069414584321 = pt xs st := by
  unfold hor pt; rw [Nat.sub_zero]
  congr 1
  exact S_congr (fun i _ => by rw [Nat.zero_add])
theorem hor_step (xs : List Int) (st : Int) (j : Nat) (h : j < xs.length) : hor xs st j = hor xs st (j + 1) * st + nth xs j := by
  unfold hor
  obtain ⟨m, hm⟩ : ∃ m, xs.length - j = m + 1 := ⟨xs.length - j - 1, by omega⟩
  rw [hm, show xs.length - (j + 1) = m by omega, S_head, Nat.add_zero, Int.pow_zero, Int.mul_one, Int.add_comm, ← S_mul_r]
  congr 1
  exact S_congr (fun i _ => by rw [Int.pow_succ, ← Int.mul_assoc, show j + (i + 1) = j + 1 + i by omega])

theorem hor_t (xs : List Int) (st : Int) (j : Nat) (t : Int) (h : j < xs.length) (ht : t = hor xs st (j + 1) % 18446744069414584321) : (t * st % 18446744069414584321 + nth xs j) % 18446744069414584321 = hor xs st j % 18446744069414584321 := by
  rw [hor_step xs st j h, ht, modmul_l, Int.emod_add_emod]

theorem add_quiet (a b : Int) (w : World) (n : Nat) (h0 : 0 ≤ a) (h1 : a < 18446744073709551616) (h2 : 0 ≤ b) (h3 : b < 18446744073709551616) :
    Calls Try.prog 31 #[.int .u64 a, .int .u64 b] (w.drewN n) fun e w' => e = .returned (.int .u64 ((a + b) % 18446744069414584321)) ∧ ∃ m, w' = w.drewN m :=
  Calls.quiet_of_same ((gold_Add a b _ h0 h1 h2 h3).mono fun e w' ⟨x, y⟩ => ⟨x, y.symm⟩)

theorem pt_mod (xs : List Int) (st : Int) : pt xs (st % 18446744069414584321) = pt xs st :=
  S_eqm (fun i _ => (rfl' _).mul ((Eqm.mod st).pow i))

set_option maxHeartbeats 1600000 in
theorem dftPoint_pos (a : Option Addr) (n cap : Nat) (xs : List Int) (z k : Int) (w : World) (hx : Row .u64 w a xs) (hn : xs.length = n) (hl : n ≤ 16777216) (hk : 0 ≤ k ∧ k < 9223372036854775808) (hz0 : 0 ≤ z) (hz1 : z < 18446744073709551616) :
    Calls Try.prog 70 #[.slice a n cap, .int .u64 z, .int .i64 k] w fun e w' => e = .returned (.int .u64 (pt xs (pw z k.toNat))) ∧ Below w.heap.size w w' := by
  subst hn
  have HX := Lib.hid hx
  have hp := pw_range z k.toNat
  clear hx
  go_enter Try.func70, Try.ntmps70
  go_wp2_with fail
  refine (gold_Pow z _ _ hz0 hz1 (by omega) (by omega)).mono ?_; rintro e w' ⟨rfl, rfl⟩
  obtain ⟨st, hst⟩ : ∃ st, pw z k.toNat = st := ⟨_, rfl⟩
  rw [hst] at hp ⊢
  have HST := Lib.hid hst
  clear hst
  go_wp2_with fail
  go_loopw [8, 9] (fun s i wr => ∃ (j : Nat) (t : Int), j ≤ xs.length ∧ i = .int .i64 ((j : Int) - 1) ∧ s = .int .u64 t ∧ 0 ≤ t ∧ t < 18446744069414584321 ∧ Hid (t = hor xs st j % 18446744069414584321) ∧ Below w.heap.size w wr) (fun _ i _ => (intOf i + 1).toNat)
  case atStart => exact ⟨xs.length, 0, Nat.le_refl _, rfl, rfl, by omega, by omega, by unfold Hid; rw [hor_end]; rfl, Below.refl _ _⟩
  case round =>
    obtain ⟨j', t, hj, rfl, rfl, ht0, ht1, H, hb⟩ := hrel
    by_cases hj0 : 1 ≤ j'
    · obtain ⟨j, rfl⟩ : ∃ j, j' = j + 1 := ⟨j' - 1, by omega⟩
      obtain ⟨b, off, rfl, hc⟩ := (HX.out.below hb).at (by omega)
      have hck := hc j (by omega)
      have hf := fits_u64.1 (HX.out.wf _ (nth_mem (show j < xs.length by omega)))
      have j1 : (0 : Int) ≤ (j : Int) := by omega
      have j2 : (j : Int) < (xs.length : Int) := by omega
      clear hc
      go_wp2_with fail
      go_quiet ((first | (go_at_call 32; exact mul_quiet _ _ _ _ (by omega) (by omega) (by omega) (by omega)) | (go_at_call 31; exact add_quiet _ _ _ _ (by omega) (by omega) (by omega) (by omega))))
      go_wp2_with fail
      go_roundw
      case rel => exact ⟨j, _, by omega, by go_num, rfl, by omega, by omega, by unfold Hid; first | exact hor_t xs st j t (by omega) H.out | (rw [← hor_t xs st j t (by omega) H.out, Int.emod_add_emod]), below_drewN hb _⟩
      case measure => simp [intOf]
    · obtain rfl : j' = 0 := by omega
      go_wp2_with fail
      go_ret
      exact ⟨ret_int (by rw [H.out, hor_zero, HST.out]), hb⟩

set_option maxHeartbeats 1600000 in
theorem dftPoint_neg (a : Option Addr) (n cap : Nat) (xs : List Int) (z k : Int) (w : World) (hx : Row .u64 w a xs) (hn : xs.length = n) (hl : n ≤ 16777216) (hk : k < 0) (hz0 : 0 ≤ z) (hz1 : z < 18446744073709551616) :
    Calls Try.prog 70 #[.slice a n cap, .int .u64 z, .int .i64 k] w fun e w' => e = .returned (.int .u64 (pt xs (pw z 0))) ∧ Below w.heap.size w w' := by
  subst hn
  have HX := Lib.hid hx
  have hp := pw_range z 0
  clear hx
  go_enter Try.func70, Try.ntmps70
  go_wp2_with fail
  refine (gold_Pow z _ _ hz0 hz1 (by omega) (by omega)).mono ?_; rintro e w' ⟨rfl, rfl⟩
  rw [show Int.toNat 0 = 0 from rfl]
  obtain ⟨st, hst⟩ : ∃ st, pw z 0 = st := ⟨_, rfl⟩
  rw [hst] at hp ⊢
  have HST := Lib.hid hst
  clear hst
  go_wp2_with fail
  go_loopw [8, 9] (fun s i wr => ∃ (j : Nat) (t : Int), j ≤ xs.length ∧ i = .int .i64 ((j : Int) - 1) ∧ s = .int .u64 t ∧ 0 ≤ t ∧ t < 18446744069414584321 ∧ Hid (t = hor xs st j % 18446744069414584321) ∧ Below w.heap.size w wr) (fun _ i _ => (intOf i + 1).toNat)
  case atStart => exact ⟨xs.length, 0, Nat.le_refl _, rfl, rfl, by omega, by omega, by unfold Hid; rw [hor_end]; rfl, Below.refl _ _⟩
  case round =>
    obtain ⟨j', t, hj, rfl, rfl, ht0, ht1, H, hb⟩ := hrel
    by_cases hj0 : 1 ≤ j'
    · obtain ⟨j, rfl⟩ : ∃ j, j' = j + 1 := ⟨j' - 1, by omega⟩
      obtain ⟨b, off, rfl, hc⟩ := (HX.out.below hb).at (by omega)
      have hck := hc j (by omega)
      have hf := fits_u64.1 (HX.out.wf _ (nth_mem (show j < xs.length by omega)))
      have j1 : (0 : Int) ≤ (j : Int) := by omega
      have j2 : (j : Int) < (xs.length : Int) := by omega
      clear hc
      go_wp2_with fail
      go_quiet ((first | (go_at_call 32; exact mul_quiet _ _ _ _ (by omega) (by omega) (by omega) (by omega)) | (go_at_call 31; exact add_quiet _ _ _ _ (by omega) (by omega) (by omega) (by omega))))
      go_wp2_with fail
      go_roundw
      case rel => exact ⟨j, _, by omega, by go_num, rfl, by omega, by omega, by unfold Hid; first | exact hor_t xs st j t (by omega) H.out | (rw [← hor_t xs st j t (by omega) H.out, Int.emod_add_emod]), below_drewN hb _⟩
      case measure => simp [intOf]
    · obtain rfl : j' = 0 := by omega
      go_wp2_with fail
      go_ret
      exact ⟨ret_int (by rw [H.out, hor_zero, HST.out]), hb⟩

theorem dftPoint (a : Option Addr) (n cap : Nat) (xs : List Int) (z k : Int) (w : World) (hx : Row .u64 w a xs) (hn : xs.length = n) (hl : n ≤ 16777216) (hk : -9223372036854775808 ≤ k ∧ k < 9223372036854775808) (hz0 : 0 ≤ z) (hz1 : z < 18446744073709551616) :
    Calls Try.prog 70 #[.slice a n cap, .int .u64 z, .int .i64 k] w fun e w' => e = .returned (.int .u64 (pt xs (pw z k.toNat))) ∧ Below w.heap.size w w' := by
  by_cases h : 0 ≤ k
  · exact dftPoint_pos a n cap xs z k w hx hn hl ⟨h, hk.2⟩ hz0 hz1
  · have h0 : k.toNat = 0 := by omega
    rw [h0]
    exact dftPoint_neg a n cap xs z k w hx hn hl (by omega) hz0 hz1

theorem pt_snoc (xs : List Int) (st : Int) (k : Nat) : (S k (fun i => nth xs i * st ^ i) + nth xs k * st ^ k) = S (k + 1) (fun i => nth xs i * st ^ i) := rfl

theorem S_step (xs : List Int) (st : Int) (k : Nat) (t : Int) (ht : t = S k (fun i => nth xs i * st ^ i) % 18446744069414584321) : (t + (nth xs k % 18446744069414584321) * pw st k % 18446744069414584321) % 18446744069414584321 = S (k + 1) (fun i => nth xs i * st ^ i) % 18446744069414584321 := by
  rw [ht, modmul_l, ← pt_snoc]
  have h1 : Eqm (nth xs k * pw st k) (nth xs k * st ^ k) := (rfl' _).mul (Eqm.mod _ |> fun h => by unfold pw; exact h)
  unfold Eqm at h1
  rw [Int.add_emod, Int.emod_emod, h1]
  omega

set_option maxHeartbeats 1600000 in
theorem refPoint_pos (a : Option Addr) (n cap : Nat) (xs : List Int) (z k : Int) (w : World) (hx : Row .u64 w a xs) (hn : xs.length = n) (hl : n ≤ 16777216) (hk : 0 ≤ k ∧ k < 9223372036854775808) (hz0 : 0 ≤ z) (hz1 : z < 18446744073709551616) :
    Calls Try.prog 71 #[.slice a n cap, .int .u64 z, .int .i64 k] w fun e w' => e = .returned (.int .u64 (pt xs (pw z k.toNat))) ∧ w = w' := by
  subst hn
  have HX := Lib.hid hx
  have hp := pw_range z k.toNat
  have HPM := Lib.hid (pw_mod z k.toNat)
  clear hx
  go_enter Try.func71, Try.ntmps71
  go_wp2_with fail
  refine (ref_Red z _ hz0 hz1).mono ?_; rintro e w' ⟨rfl, rfl⟩
  go_wp2_with fail
  refine (ref_Pow (z % 18446744069414584321) _ _ (by omega) (by omega) (by omega) (by omega)).mono ?_; rintro e w' ⟨rfl, rfl⟩
  rw [HPM.out]
  obtain ⟨st, hst⟩ : ∃ st, pw z k.toNat = st := ⟨_, rfl⟩
  rw [hst] at hp ⊢
  have HST := Lib.hid hst
  clear hst
  go_wp2_with fail
  go_loop [8, 9, 10] (fun s p i => ∃ (j : Nat) (t q : Int), j ≤ xs.length ∧ i = .int .i64 j ∧ s = .int .u64 t ∧ p = .int .u64 q ∧ 0 ≤ t ∧ t < 18446744069414584321 ∧ 0 ≤ q ∧ q < 18446744069414584321 ∧ Hid (t = S j (fun i => nth xs i * st ^ i) % 18446744069414584321) ∧ Hid (q = pw st j)) (fun _ _ i => xs.length - (intOf i).toNat)
  case atStart => exact ⟨0, 0, 1, Nat.zero_le _, rfl, rfl, rfl, by omega, by omega, by omega, by omega, rfl, (pw_0 st).symm⟩
  case round =>
    obtain ⟨j, t, q, hj, rfl, rfl, rfl, ht0, ht1, hq0, hq1, H, HQ⟩ := hrel
    by_cases hlt : j < xs.length
    · obtain ⟨b, off, rfl, hc⟩ := HX.out.at (by omega)
      have hck := hc j (by omega)
      have hf := fits_u64.1 (HX.out.wf _ (nth_mem hlt))
      clear hc
      go_wp2_with (first | (go_at_call 25; refine (ref_Red _ _ (by omega) (by omega)).mono ?_; rintro e w' ⟨rfl, rfl⟩) | (go_at_call 30; refine (ref_Mul _ _ _ (by omega) (by omega) (by omega) (by omega)).mono ?_; rintro e w' ⟨rfl, rfl⟩) | (go_at_call 36; refine (ref_Add _ _ _ (by omega) (by omega) (by omega) (by omega)).mono ?_; rintro e w' ⟨rfl, rfl⟩))
      go_round
      case rel =>
        refine ⟨j + 1, _, _, by omega, by go_num, rfl, rfl, by omega, by omega, by omega, by omega, ?_, ?_⟩
        · have h := S_step xs st j t H.out
          rw [← HQ.out] at h
          unfold Hid
          rw [← h]
          try omega
        · have := HQ.out; unfold Hid; rw [this, pw_succ]
      case measure => simp [intOf]; omega
    · obtain rfl : j = xs.length := by omega
      go_wp2_with fail
      go_ret
      exact ⟨ret_int (by rw [H.out, HST.out]; rfl), rfl⟩
set_option maxHeartbeats 1600000 in
theorem refPoint_neg (a : Option Addr) (n cap : Nat) (xs : List Int) (z k : Int) (w : World) (hx : Row .u64 w a xs) (hn : xs.length = n) (hl : n ≤ 16777216) (hk : k < 0) (hz0 : 0 ≤ z) (hz1 : z < 18446744073709551616) :
    Calls Try.prog 71 #[.slice a n cap, .int .u64 z, .int .i64 k] w fun e w' => e = .returned (.int .u64 (pt xs (pw z 0))) ∧ w = w' := by
  subst hn
  have HX := Lib.hid hx
  have hp := pw_range z 0
  have HPM := Lib.hid (pw_mod z 0)
  clear hx
  go_enter Try.func71, Try.ntmps71
  go_wp2_with fail
  refine (ref_Red z _ hz0 hz1).mono ?_; rintro e w' ⟨rfl, rfl⟩
  go_wp2_with fail
  refine (ref_Pow (z % 18446744069414584321) _ _ (by omega) (by omega) (by omega) (by omega)).mono ?_; rintro e w' ⟨rfl, rfl⟩
  rw [show Int.toNat 0 = 0 from rfl, HPM.out]
  obtain ⟨st, hst⟩ : ∃ st, pw z 0 = st := ⟨_, rfl⟩
  rw [hst] at hp ⊢
  have HST := Lib.hid hst
  clear hst
  go_wp2_with fail
  go_loop [8, 9, 10] (fun s p i => ∃ (j : Nat) (t q : Int), j ≤ xs.length ∧ i = .int .i64 j ∧ s = .int .u64 t ∧ p = .int .u64 q ∧ 0 ≤ t ∧ t < 18446744069414584321 ∧ 0 ≤ q ∧ q < 18446744069414584321 ∧ Hid (t = S j (fun i => nth xs i * st ^ i) % 18446744069414584321) ∧ Hid (q = pw st j)) (fun _ _ i => xs.length - (intOf i).toNat)
  case atStart => exact ⟨0, 0, 1, Nat.zero_le _, rfl, rfl, rfl, by omega, by omega, by omega, by omega, rfl, (pw_0 st).symm⟩
  case round =>
    obtain ⟨j, t, q, hj, rfl, rfl, rfl, ht0, ht1, hq0, hq1, H, HQ⟩ := hrel
    by_cases hlt : j < xs.length
    · obtain ⟨b, off, rfl, hc⟩ := HX.out.at (by omega)
      have hck := hc j (by omega)
      have hf := fits_u64.1 (HX.out.wf _ (nth_mem hlt))
      clear hc
      go_wp2_with (first | (go_at_call 25; refine (ref_Red _ _ (by omega) (by omega)).mono ?_; rintro e w' ⟨rfl, rfl⟩) | (go_at_call 30; refine (ref_Mul _ _ _ (by omega) (by omega) (by omega) (by omega)).mono ?_; rintro e w' ⟨rfl, rfl⟩) | (go_at_call 36; refine (ref_Add _ _ _ (by omega) (by omega) (by omega) (by omega)).mono ?_; rintro e w' ⟨rfl, rfl⟩))
      go_round
      case rel =>
        refine ⟨j + 1, _, _, by omega, by go_num, rfl, rfl, by omega, by omega, by omega, by omega, ?_, ?_⟩
        · have h := S_step xs st j t H.out
          rw [← HQ.out] at h
          unfold Hid
          rw [← h]
          try omega
        · have := HQ.out; unfold Hid; rw [this, pw_succ]
      case measure => simp [intOf]; omega
    · obtain rfl : j = xs.length := by omega
      go_wp2_with fail
      go_ret
      exact ⟨ret_int (by rw [H.out, HST.out]; rfl), rfl⟩
theorem refPoint (a : Option Addr) (n cap : Nat) (xs : List Int) (z k : Int) (w : World) (hx : Row .u64 w a xs) (hn : xs.length = n) (hl : n ≤ 16777216) (hk : -9223372036854775808 ≤ k ∧ k < 9223372036854775808) (hz0 : 0 ≤ z) (hz1 : z < 18446744073709551616) :
    Calls Try.prog 71 #[.slice a n cap, .int .u64 z, .int .i64 k] w fun e w' => e = .returned (.int .u64 (pt xs (pw z k.toNat))) ∧ w = w' := by
  by_cases h : 0 ≤ k
  · exact refPoint_pos a n cap xs z k w hx hn hl ⟨h, hk.2⟩ hz0 hz1
  · have h0 : k.toNat = 0 := by omega
    rw [h0]
    exact refPoint_neg a n cap xs z k w hx hn hl (by omega) hz0 hz1

end Go.Proofs.Ytfoodnmcilogjaa
