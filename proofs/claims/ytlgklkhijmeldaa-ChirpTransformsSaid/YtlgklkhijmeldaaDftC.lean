/- The contracts of the plain transform: what undoes it; the reference's transform. -/
import Derived.Test.YtlgklkhijmeldaaDftB
import Derived.Test.YtlgklkhijmeldaaVecF
namespace Go.Proofs.Ytlgklkhijmeldaa
open Go.RowKit Sm
set_option linter.unusedVariables false
set_option linter.unusedSimpArgs false
set_option maxRecDepth 100000

theorem GivesRow.step {k : IntKind} {xs : List Int} {w w1 w2 : World} {e : Ending} (h : GivesRow k xs w1 e w2) (hb : Below w.heap.size w w1) : GivesRow k xs w e w2 := by
  obtain ⟨a, cap, he, hr, hc, hb2⟩ := h
  exact ⟨a, cap, he, hr, hc, chain hb hb2⟩

def invN (n : Nat) : Int := pw (n : Int) 18446744069414584319
theorem invN_range (n : Nat) : 0 ≤ invN n ∧ invN n < 18446744069414584321 := pw_range _ _
def undoL (xs : List Int) (d : Int) : List Int := scaleL (dftL xs (dirRt xs.length (1 - d))) (invN xs.length)
theorem undoL_len (xs : List Int) (d : Int) : (undoL xs d).length = xs.length := by simp [undoL, scaleL_len, dftL_len]

/-- A place of the row of powers. -/
def jk (j k n : Nat) : Nat := j * k % n
theorem jk_int (j k n : Nat) : ((j : Int) * (k : Int)).tmod (n : Int) = (jk j k n : Nat) := by
  unfold jk
  rw [Int.tmod_eq_emod_of_nonneg (by rw [← Int.natCast_mul]; omega), ← Int.natCast_mul, ← Int.natCast_emod]
theorem jk_lt (j k n : Nat) (h : 0 < n) : jk j k n < n := Nat.mod_lt _ h
theorem jk_bd (j k n : Nat) (hj : j < n) (hk : k < n) (hn : n ≤ 4096) : 0 ≤ (j : Int) * (k : Int) ∧ (j : Int) * (k : Int) ≤ 16777216 := by
  have : j * k ≤ 4096 * 4096 := Nat.mul_le_mul (by omega) (by omega)
  rw [← Int.natCast_mul]; omega

theorem inner_step (xs : List Int) (z : Int) (n : Nat) (k j : Nat) (t : Int) (hr : Eqm (pw z (jk j k n)) (z ^ (j * k))) (ht : t = S j (fun i => nth xs i * (pw z k) ^ i) % 18446744069414584321) :
    (t + (nth xs j % 18446744069414584321) * pw z (jk j k n) % 18446744069414584321) % 18446744069414584321 = S (j + 1) (fun i => nth xs i * (pw z k) ^ i) % 18446744069414584321 := by
  have e1 : S (j + 1) (fun i => nth xs i * (pw z k) ^ i) = S j (fun i => nth xs i * (pw z k) ^ i) + nth xs j * (pw z k) ^ j := rfl
  rw [e1, ht, modmul_l]
  have h1 : Eqm (nth xs j * pw z (jk j k n)) (nth xs j * (pw z k) ^ j) := by
    refine (rfl' _).mul (hr.trans ?_)
    rw [Nat.mul_comm, Int.pow_mul]
    exact ((pw_eqm z k).pow j).symm
  unfold Eqm at h1
  rw [Int.add_emod, Int.emod_emod, h1]
  omega

set_option maxHeartbeats 1600000 in
theorem refDft (a : Option Addr) (n cap : Nat) (xs : List Int) (d : Int) (w : World) (hx : Row .u64 w a xs) (hn : xs.length = n) (hs : hasSz n = true) (hl : n ≤ 4096) (hd : d = 0 ∨ d = 1) :
    Calls Try.prog 20 #[.slice a n cap, .int .i64 d] w (GivesRow .u64 (dftL xs (dirRt n d)) w) := by
  obtain ⟨i0, hi, hz0, hz1, hz2⟩ := info_parts info_u64
  have hn1 : 1 ≤ (n : Int) := (hasSz_iff.1 hs).1
  have hz := dirRt_range n d
  have hroot := isRoot_dir n d hs
  have hdb : 0 ≤ d ∧ d ≤ 1 := by omega
  have HX := Lib.hid hx
  have HN := Lib.hid hn
  have HS := Lib.hid hs
  have hnn : xs.length ≤ 4096 := by omega
  have hn0 : ((n : Int) == 0) = false := bno (by omega)
  clear hx hn hs hd
  go_enter Try.func20, Try.ntmps20
  go_wp2_with fail
  refine (refDir n d _ HS.out (by omega)).mono ?_; rintro e w' ⟨rfl, rfl⟩
  obtain ⟨z, hzz⟩ : ∃ z, dirRt n d = z := ⟨_, rfl⟩
  rw [hzz] at hz hroot ⊢
  have HZ := Lib.hid hzz
  have HR := Lib.hid hroot
  clear hzz hroot
  go_wp2_with fail
  refine (refPowers z n _ hz.1 hz.2 (by omega)).mono ?_
  rintro e w1 ⟨a1, cap1, rfl, hr1, hcap1, hb1⟩
  have hlp := powL_len z n
  have HB1 := Lib.hid hb1
  go_wp2_with fail
  go_loopw [7, 8] (fun v i wr => ∃ k : Nat, k ≤ n ∧ i = .int .i64 k ∧ Own .u64 45 w1 wr v k (fun j => pt xs (pw z j))) (fun _ i _ => n - (intOf i).toNat)
  case atStart => exact ⟨0, Nat.zero_le _, rfl, Own.nil _ _ _ _⟩
  case round =>
    obtain ⟨k, hk, rfl, hown⟩ := hrel
    by_cases hlt : k < n
    · obtain ⟨wo, hwo⟩ : ∃ wo : World, wo = wr := ⟨_, rfl⟩
      subst hwo
      go_wp2_with fail
      go_loopw [9, 10] (fun s i wr => ∃ (j : Nat) (t : Int), j ≤ n ∧ i = .int .i64 j ∧ s = .int .u64 t ∧ 0 ≤ t ∧ t < 18446744069414584321 ∧ Hid (t = S j (fun i => nth xs i * (pw z k) ^ i) % 18446744069414584321) ∧ Below wo.heap.size wo wr) (fun _ i _ => n - (intOf i).toNat)
      case atStart => exact ⟨0, 0, Nat.zero_le _, rfl, rfl, by omega, by omega, rfl, Below.refl _ _⟩
      case round =>
        obtain ⟨j, t, hj, rfl, rfl, ht0, ht1, H, hb⟩ := hrel
        by_cases hjn : j < n
        · have hB := chain hown.below hb
          have hjx : j < xs.length := by have := HN.out; omega
          have hq := jk_lt j k n (by omega)
          have hqi := jk_int j k n
          have hqb := jk_bd j k n hjn hlt hl
          have hqe : Eqm (pw z (jk j k n)) (z ^ (j * k)) := (pw_eqm z _).trans (HR.out.pow_mod (j * k))
          have HQ := Lib.hid (inner_step xs z n k j t hqe H.out)
          clear hqe
          generalize jk j k n = q at *
          obtain ⟨b, off, rfl, hc⟩ := (HX.out.below (chain HB1.out hB)).at (by omega)
          obtain ⟨b2, off2, rfl, hc2⟩ := (hr1.below hB).at (by omega)
          have hck := hc j hjx
          have hck2 := hc2 q (by omega)
          have hpq : nth (powL z n) q = pw z q := nth_ofFn _ _ _ hq
          rw [hpq] at hck2
          have hpr := pw_range z q
          have hf := fits_u64.1 (HX.out.wf _ (nth_mem hjx))
          have e1 : IntKind.i64.wrap ((j : Int) * (k : Int)) = (j : Int) * (k : Int) := IntWalk.i64_in _ (by omega)
          have q1 : (0 : Int) ≤ (q : Int) := by omega
          have q2 : (q : Int) < (n : Int) := by omega
          have q3 : (0 : Int) ≤ (j : Int) := by omega
          have q4 : (j : Int) < (n : Int) := by omega
          clear hc hc2 hpq hqb
          go_wp2_with fail
          go_quiet ((first | (go_at_call 42; exact Calls.quiet_of_same ((ref_Red _ _ (by omega) (by omega)).mono fun e w' ⟨x, y⟩ => ⟨x, y.symm⟩)) | (go_at_call 41; exact Calls.quiet_of_same ((ref_Mul _ _ _ (by omega) (by omega) (by omega) (by omega)).mono fun e w' ⟨x, y⟩ => ⟨x, y.symm⟩)) | (go_at_call 51; exact Calls.quiet_of_same ((ref_Add _ _ _ (by omega) (by omega) (by omega) (by omega)).mono fun e w' ⟨x, y⟩ => ⟨x, y.symm⟩))))
          go_wp2_with fail
          go_roundw
          case rel => exact ⟨j + 1, _, by omega, by go_num, rfl, by omega, by omega, by unfold Hid; first | exact HQ.out | (have := HQ.out; rw [← this]; omega), below_drewN hb _⟩
          case measure => simp [intOf]; omega
        · obtain rfl : j = n := by omega
          have hown := hown.later hb
          have ht : Hid (t = pt xs (pw z k)) := by unfold Hid; rw [H.out]; unfold pt; rw [HN.out]
          go_wp2_with (at_builtin; refine wpList_append_own _ rfl _ _ 22 rfl w1.heap.size 45 i0 (.int .u64 0) 1 8 Try.underlying22 hi hz0 hz1 hz2 rfl (by decide) _ _ _ rfl (hown.own.alloc _) ⟨wr.heap.size, 0, none⟩ 1 1 [.int .u64 t] rfl rfl (cell_one_new _ _ _) (one_cell _ _) (by unfold maxLen; omega) (by omega) (size_alloc_le hown.below _) ?_)
          intro v' w2 hown' hgrow _
          have hnext := hown.push _ ht.out hown' hgrow
          clear hown' hgrow
          go_wp2_with fail
          go_roundw
          case rel => exact ⟨k + 1, by omega, by go_num, hnext⟩
          case measure => simp [intOf]; omega
    · have hk' : k = n := by omega
      have hlen := dftL_len xs z
      have hres := hown.gives (xs := dftL xs z) (by have := HN.out; omega) (dftL_fits xs z) (fun i hi => by unfold dftL; rw [nth_ofFn _ _ _ (by have := HN.out; omega)]) (by omega)
      have hfin := hres.step HB1.out
      clear hown hres
      go_wp2_with fail
      go_ret
      rw [HZ.out]
      exact hfin
end Go.Proofs.Ytlgklkhijmeldaa
