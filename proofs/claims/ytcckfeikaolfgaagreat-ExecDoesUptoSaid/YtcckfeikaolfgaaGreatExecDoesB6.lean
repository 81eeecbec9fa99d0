/- The contracts and plain laws that the statement ExecDoes needs, part 6 of 8: TabA DftD TabB RowAdd NeedC NeedD NeedE NeedF NeedG ConvH. -/
import Derived.Test.YtcckfeikaolfgaaGreatExecDoesB5
namespace Go.Proofs.YtcckfeikaolfgaaGreat
open Go.RowKit
set_option linter.unusedVariables false
set_option linter.unusedSimpArgs false
set_option maxRecDepth 100000
theorem dirRt_zero (n : Nat) : dirRt n 0 = rt n := by unfold dirRt; rw [if_neg (by omega)]
theorem dirRt_one (n : Nat) : dirRt n 1 = bk n := by unfold dirRt; rw [if_pos rfl]
set_option maxHeartbeats 1000000 in
theorem tab_way (k : Int) (n : Nat) (m d : Int) (w : World) (h : hasSz n = true) (hd : d = 0 ∨ d = 1) :
    Calls Tryz.prog 46 #[.agg #[.int .i64 k, .int .i64 n, .int .i64 m, .int .i64 d]] w fun e w' => e = .returned (.int .u64 (dirRt n d)) ∧ Below w.heap.size w w' := by
  have HS := Lib.hid h
  clear h
  obtain ⟨W0, hW0, hb0, x0⟩ := box_any w #[.int .i64 k, .int .i64 n, .int .i64 m, .int .i64 d] 57
  have HW0 := Lib.hid hW0
  have HB := Lib.hid hb0
  have D1 : W0.cell? ⟨w.heap.size, 1, none⟩ = some (.int .i64 n) := block_cell x0 1
  have D3 : W0.cell? ⟨w.heap.size, 3, none⟩ = some (.int .i64 d) := block_cell x0 3
  clear hW0 hb0 x0
  rcases hd with rfl | rfl
  · go_enter Tryz.func46, Tryz.ntmps46
    go_wp2_with fail
    rw [HW0.out]
    refine (rootRoot_yes n _ HS.out).mono ?_; rintro e w' ⟨rfl, rfl⟩
    go_wp2_with fail
    go_ret
    exact ⟨by simp [dirRt_zero], HB.out⟩
  · go_enter Tryz.func46, Tryz.ntmps46
    go_wp2_with fail
    rw [HW0.out]
    refine (rootRoot_yes n _ HS.out).mono ?_; rintro e w' ⟨rfl, rfl⟩
    go_wp2_with fail
    refine (rootBack_yes n _ HS.out).mono ?_; rintro e w' ⟨rfl, rfl⟩
    go_wp2_with fail
    go_ret
    exact ⟨by simp [dirRt_one], HB.out⟩
set_option maxHeartbeats 1000000 in
theorem tab_powers (k : Int) (n : Nat) (m d : Int) (w : World) (h : hasSz n = true) (hd : d = 0 ∨ d = 1) :
    Calls Tryz.prog 27 #[.agg #[.int .i64 k, .int .i64 n, .int .i64 m, .int .i64 d]] w (GivesRow .u64 (powL (dirRt n d) n) w) := by
  have hn2 : n ≤ 16777216 := by have := (hasSz_iff.1 h).2.1; omega
  have hz := dirRt_range n d
  have C0 : Hid (∀ W, Calls Tryz.prog 46 #[.agg #[.int .i64 k, .int .i64 n, .int .i64 m, .int .i64 d]] W fun e w' => e = .returned (.int .u64 (dirRt n d)) ∧ Below W.heap.size W w') := fun W => tab_way k n m d W h hd
  obtain ⟨z, hz'⟩ : ∃ z, dirRt n d = z := ⟨_, rfl⟩
  rw [hz'] at C0 hz ⊢
  have C1 : Hid (∀ W, Calls Tryz.prog 45 #[.int .u64 z, .int .i64 n] W (GivesRowE .u64 (powL z n) 0 W)) := fun W => rootPowers z n W hz.1 (by omega) hn2
  have HL : Hid ((powL z n).length = n) := powL_len z n
  clear h hd hz hz'
  obtain ⟨W0, hW0, hb0, x0⟩ := box_any w #[.int .i64 k, .int .i64 n, .int .i64 m, .int .i64 d] 57
  have HW0 := Lib.hid hW0
  have HB := Lib.hid hb0
  have D0 : W0.cell? ⟨w.heap.size, 0, none⟩ = some (.int .i64 k) := block_cell x0 0
  have D1 : W0.cell? ⟨w.heap.size, 1, none⟩ = some (.int .i64 n) := block_cell x0 1
  have D2 : W0.cell? ⟨w.heap.size, 2, none⟩ = some (.int .i64 m) := block_cell x0 2
  have D3 : W0.cell? ⟨w.heap.size, 3, none⟩ = some (.int .i64 d) := block_cell x0 3
  have lD := block_lt x0
  clear hW0 hb0 x0
  go_enter Tryz.func27, Tryz.ntmps27
  go_wp2_with fail
  rw [HW0.out]
  have hb : Below W0.heap.size W0 W0.drew := (Below.refl _ _).drew
  go_region_held3 (fun w' => w'.cell? ⟨w.heap.size, 0, none⟩ = some (.int .i64 k) ∧ w'.cell? ⟨w.heap.size, 1, none⟩ = some (.int .i64 n) ∧ w'.cell? ⟨w.heap.size, 2, none⟩ = some (.int .i64 m) ∧ w'.cell? ⟨w.heap.size, 3, none⟩ = some (.int .i64 d))
    (first | exact ⟨D0, D1, D2, D3⟩ | exact ⟨(hb.cell (p := ⟨w.heap.size, 0, none⟩) lD).trans D0, (hb.cell (p := ⟨w.heap.size, 1, none⟩) lD).trans D1, (hb.cell (p := ⟨w.heap.size, 2, none⟩) lD).trans D2, (hb.cell (p := ⟨w.heap.size, 3, none⟩) lD).trans D3⟩)
    ((first
      | (go_at_call 46; ((with_reducible refine (C0.out _).mono ?_); rintro e z1 ⟨rfl, hc⟩; have hb := chain hb hc))
      | (go_at_call 45; ((with_reducible refine (C1.out _).mono ?_); rintro e z1 ⟨a1, cap1, rfl, hr1, hcap1, hc⟩; have hb := chain hb hc))))
  simp only [HL.out] at hcap1 ⊢
  have HBF := Lib.hid (chain HB.out hb)
  clear hb
  go_wp2_with fail
  go_ret
  exact ⟨a1, cap1, by simp [HL.out], hr1, by rw [HL.out]; exact hcap1, HBF.out⟩
set_option maxHeartbeats 1000000 in
theorem tab_chirps (k : Int) (n : Nat) (m d d' : Int) (w : World) (h : hasSz n = true) (hd : d = 0 ∨ d = 1) (hd' : d' = 1 - d) :
    Calls Tryz.prog 28 #[.agg #[.int .i64 k, .int .i64 n, .int .i64 m, .int .i64 d]] w (GivesRow .u64 (rowT (dirRt n d') n n) w) := by
  have hn2 : n ≤ 16777216 := by have := (hasSz_iff.1 h).2.1; omega
  have C1 : Hid (∀ W, Calls Tryz.prog 47 #[.int .i64 n, .int .i64 d', .int .i64 n] W (GivesOwnE .u64 38 (rowT (dirRt n d') n n) W)) := fun W => chirp_Row n n d' W h (by omega) hn2
  obtain ⟨z, hz⟩ : ∃ z, rowT (dirRt n d') n n = z := ⟨_, rfl⟩
  have HL : Hid (z.length = n) := by unfold Hid; rw [← hz]; exact rowT_len _ _ _
  have HF : Hid (∀ x ∈ z, fits .u64 x) := by unfold Hid; rw [← hz]; exact rowT_fits _ _ _
  rw [hz] at C1 ⊢
  have hdd : 1 - d = d' := hd'.symm
  clear h hz hd'
  obtain ⟨W0, hW0, hb0, x0⟩ := box_any w #[.int .i64 k, .int .i64 n, .int .i64 m, .int .i64 d] 57
  have HW0 := Lib.hid hW0
  have HB := Lib.hid hb0
  have D1 : W0.cell? ⟨w.heap.size, 1, none⟩ = some (.int .i64 n) := block_cell x0 1
  have D3 : W0.cell? ⟨w.heap.size, 3, none⟩ = some (.int .i64 d) := block_cell x0 3
  clear hW0 hb0 x0
  go_enter Tryz.func28, Tryz.ntmps28
  go_wp2_with fail
  rw [HW0.out]
  refine (C1.out _).mono ?_; rintro e w1 ⟨a1, cap1, rfl, _, hr1, hcap1, hb1⟩
  simp only [HL.out] at hcap1 ⊢
  have HBF := Lib.hid (chain HB.out hb1)
  clear D1 D3 hb1
  go_wp2_with fail
  go_ret
  exact ⟨a1, cap1, by simp [HL.out], hr1, by rw [HL.out]; exact hcap1, HBF.out⟩
def tabRaderL (n : Nat) (d : Int) : List Int := dftL (radL (dirRt n d) n) (dirRt (n - 1) 0)
set_option maxHeartbeats 2000000 in
theorem tab_raders (k : Int) (n : Nat) (m d : Int) (w : World) (h : hasSz n = true) (hd : d = 0 ∨ d = 1) (hq : IsFq n) :
    Calls Tryz.prog 29 #[.agg #[.int .i64 k, .int .i64 n, .int .i64 m, .int .i64 d]] w (GivesRow .u64 (tabRaderL n d) w) := by
  have hbq := fq_bd hq
  obtain ⟨lg, hlg1, hlg2, hlg⟩ := fq_log hq
  have C0 : Hid (∀ W, Calls Tryz.prog 27 #[.agg #[.int .i64 k, .int .i64 n, .int .i64 m, .int .i64 d]] W (GivesRow .u64 (powL (dirRt n d) n) W)) := fun W => tab_powers k n m d W h hd
  have C1 : Hid (∀ W, Calls Tryz.prog 48 #[.int .i64 n] W (GivesRowE .i64 (genL n) 0 W)) := fun W => gen_Powers W hq
  have C2 : Hid (∀ (a : Option Addr) (c : Nat) (xs : List Int) (W : World), Row .u64 W a xs → xs.length = n - 1 → Calls Tryz.prog 49 #[.slice a (n - 1 : Nat) c, .int .i64 0] W (GivesRowE .u64 (dftL xs (dirRt (n - 1) 0)) 0 W)) := fun a c xs W hx hl => do_ok a (n - 1) lg c 0 xs W hx hl (Or.inl rfl) (by omega) hlg
  have HG : Hid (∀ i, gp n i < n) := fun i => gp_lt n i (by omega)
  have HRL : Hid ((tabRaderL n d).length = n - 1) := by unfold Hid tabRaderL; rw [dftL_len, radL_len]
  have HPL : Hid ((powL (dirRt n d) n).length = n) := powL_len _ _
  have HGL : Hid ((genL n).length = n - 1) := genL_len _
  have HRD : Hid (dftL (radL (dirRt n d) n) (dirRt (n - 1) 0) = tabRaderL n d) := rfl
  obtain ⟨z, hz⟩ : ∃ z, dirRt n d = z := ⟨_, rfl⟩
  obtain ⟨q1, hq1⟩ : ∃ q1, n - 1 = q1 := ⟨_, rfl⟩
  obtain ⟨RL, hRL⟩ : ∃ L, tabRaderL n d = L := ⟨_, rfl⟩
  rw [hz, hq1] at HRD
  rw [hz] at C0 HPL
  rw [hq1] at C2 HGL HRL
  rw [hRL] at HRD HRL ⊢
  have HQ1 := Lib.hid hq1
  have hq2 : 2 ≤ q1 ∧ q1 ≤ 65536 := by omega
  clear h hd hq hlg hz hq1 hRL
  obtain ⟨i0, hi, hz0, hz1, hz2⟩ := info_parts info_u64
  obtain ⟨W0, hW0, hb0, x0⟩ := box_any w #[.int .i64 k, .int .i64 n, .int .i64 m, .int .i64 d] 57
  have HW0 := Lib.hid hW0
  have HB := Lib.hid hb0
  have X0 := Lib.hid x0
  have D0 : W0.cell? ⟨w.heap.size, 0, none⟩ = some (.int .i64 k) := block_cell x0 0
  have D1 : W0.cell? ⟨w.heap.size, 1, none⟩ = some (.int .i64 n) := block_cell x0 1
  have D2 : W0.cell? ⟨w.heap.size, 2, none⟩ = some (.int .i64 m) := block_cell x0 2
  have D3 : W0.cell? ⟨w.heap.size, 3, none⟩ = some (.int .i64 d) := block_cell x0 3
  clear hW0 hb0 x0
  go_enter Tryz.func29, Tryz.ntmps29
  go_wp2_with fail
  rw [HW0.out]
  go_wp2_with fail
  refine (C0.out _).mono ?_; rintro e w1 ⟨a1, cap1, rfl, hr1, hcap1, hb1⟩
  clear D0 D1 D2 D3
  have D1 : w1.cell? ⟨w.heap.size, 1, none⟩ = some (.int .i64 n) := (hb1.cell (p := ⟨w.heap.size, 1, none⟩) (block_lt X0.out)).trans (block_cell X0.out 1)
  simp only [HPL.out] at hcap1 ⊢
  go_wp2_with fail
  refine (C1.out _).mono ?_; rintro e w2 ⟨a2, cap2, rfl, hr2, hcap2, hb2⟩
  simp only [HGL.out] at hcap2 ⊢
  have hb12 := chain hb1 hb2
  have HR1 := Lib.hid (hr1.below hb2)
  have HR2 := Lib.hid hr2
  have HB2 := Lib.hid (chain HB.out hb12)
  clear hr1 hr2 hb1 hb2 hb12 D1 hcap1 hcap2
  go_wp2_with (at_make; refine wpList_make_full _ rfl _ _ 25 rfl w2.heap.size 38 i0 (.int .u64 0) 1 Tryz.underlying25 hi hz0 hz1 .i64 .i64 q1 q1 q1 rfl rfl rfl rfl (by rw [hz2]; omega) (by unfold maxLen; omega) (Nat.le_refl _) ?_)
  intro w3 hown0 hgrow0
  have hown := Own.made hown0 hgrow0
  clear hown0 hgrow0
  go_wp2_with fail
  have HRV : Hid (∀ i, i < q1 → revAt q1 (revAt q1 i) = i) := fun i hi => by
    unfold revAt
    by_cases h0 : i = 0
    · subst h0; simp
    · rw [Nat.mod_eq_of_lt (show q1 - i < q1 by omega), show q1 - (q1 - i) = i by omega, Nat.mod_eq_of_lt hi]
  go_loopw [23] (fun i wr => ∃ k : Nat, k ≤ q1 ∧ i = .int .i64 k ∧ OwnAt .u64 38 w2 wr w2.heap.size q1 (fun j => if revAt q1 j < k then pw z (gp n (revAt q1 j)) else 0)) (fun i _ => q1 - (intOf i).toNat)
  case atStart => exact ⟨0, Nat.zero_le _, rfl, own_eqz hown (fun j => if_neg (by omega))⟩
  case round =>
    obtain ⟨k, hk, rfl, hown⟩ := hrel
    by_cases hlt : k < q1
    · obtain ⟨b1, o1, rfl, hc1⟩ := (HR2.out.below hown.below).at (by rw [HGL.out]; omega)
      obtain ⟨b2, o2, rfl, hc2⟩ := (HR1.out.below hown.below).at (by rw [HPL.out]; omega)
      have h1 := hc1 k (by rw [HGL.out]; exact hlt)
      rw [nth_genL n k (by rw [HQ1.out]; exact hlt)] at h1
      have hgl := HG.out k
      obtain ⟨x, hx⟩ : ∃ x, gp n k = x := ⟨_, rfl⟩
      rw [hx] at h1 hgl
      have h2 := hc2 x (by rw [HPL.out]; exact hgl)
      rw [show nth (powL z n) x = pw z x from nth_ofFn _ _ _ hgl] at h2
      have hrl := revAt_lt hlt
      have e1 := revAt_int hlt
      obtain ⟨r, hr⟩ : ∃ r, revAt q1 k = r := ⟨_, rfl⟩
      have hrr : revAt q1 r = k := by rw [← hr]; exact HRV.out k hlt
      rw [hr] at hrl e1
      have e2 : ((q1 : Int) - (k : Int)) % (q1 : Int) = (r : Int) := by rw [← e1, Int.tmod_eq_emod_of_nonneg (by omega)]
      have z1 : ((q1 : Int) == 0) = false := bno (by omega)
      have z2 : ¬ (q1 : Int) = 0 := by omega
      have z3 : ¬ q1 = 0 := by omega
      have e0 : IntKind.i64.wrap ((q1 : Int) - (k : Int)) = (q1 : Int) - (k : Int) := IntWalk.i64_in _ (by omega)
      have hcell := hown.cell r hrl
      have hfz := hown.free r
      have hpr := pw_range z x
      have hnext := hown.store r hrl (pw z x) (f' := fun j => if revAt q1 j < k + 1 then pw z (gp n (revAt q1 j)) else 0) (by show (if revAt q1 r < k + 1 then _ else _) = _; rw [hrr, if_pos (by omega), hx]) (fun j hj hjr => by
        show (if revAt q1 j < k + 1 then _ else _) = (if revAt q1 j < k then _ else _)
        have hne : revAt q1 j ≠ k := fun e => hjr (by rw [← HRV.out j hj, e, hr])
        by_cases h : revAt q1 j < k
        · rw [if_pos h, if_pos (by omega)]
        · rw [if_neg h, if_neg (by omega)])
      have HNX := Lib.hid hnext
      obtain ⟨v, hv⟩ : ∃ v : Int, (if revAt q1 r < k then pw z (gp n (revAt q1 r)) else 0) = v := ⟨_, rfl⟩
      rw [hv] at hcell
      have g1 : (0 : Int) ≤ (r : Int) := by omega
      have g2 : (r : Int) < (q1 : Int) := by omega
      have g3 : (0 : Int) ≤ (x : Int) := by omega
      have g4 : (x : Int) < (n : Int) := by omega
      obtain ⟨y, hy⟩ : ∃ y, pw z x = y := ⟨_, rfl⟩
      rw [hy] at h2 hpr HNX
      clear hc1 hc2 hx hr hrr hnext hv hown hy
      go_wp2_with fail
      go_still_tail 13, (by kernel_rfl)
      go_wp2_with fail
      go_roundw
      case rel => exact ⟨k + 1, by omega, by go_num, HNX.out.later (Below.refl _ _).drew⟩
      case measure => simp [intOf]; omega
    · have hkn : k = q1 := by omega
      have hrow := hown.row (xs := radL z n) (by rw [radL_len]; exact HQ1.out) (radL_fits z n) (fun i hi => by
        rw [nth_radL z n i (by rw [HQ1.out]; exact hi), if_pos (by have := revAt_lt hi; omega)]
        unfold radAt revAt; rw [HQ1.out]) (by omega)
      have HB3 := Lib.hid (chain HB2.out hown.below)
      have HR := Lib.hid hrow
      have HLR : Hid ((radL z n).length = q1) := (radL_len z n).trans HQ1.out
      clear hown hrow
      go_wp2_with fail
      refine (C2.out _ _ _ _ HR.out HLR.out).mono ?_; rintro e w4 ⟨a4, cap4, rfl, hr4, hcap4, hb4⟩
      rw [HRD.out] at hr4 hcap4 ⊢
      have HB4 := Lib.hid (chain HB3.out hb4)
      have HR4 := Lib.hid hr4
      have HC4 := Lib.hid hcap4
      clear hr4 hcap4 hb4
      go_wp2_with fail
      go_ret
      exact ⟨a4, cap4, rfl, HR4.out, HC4.out, HB4.out⟩
def tabBlueL (n m : Nat) (d : Int) : List Int := dftL (zeroL (rowT (dirRt n d) n (2 * n - 1)) m) (dirRt m 0)
set_option maxHeartbeats 1000000 in
theorem tab_blues (k : Int) (n m lg : Nat) (d : Int) (w : World) (h : hasSz n = true) (hd : d = 0 ∨ d = 1) (hlg : lg ≤ 24) (hm : m = 2 ^ lg) (hl : 2 * n - 1 ≤ m) :
    Calls Tryz.prog 30 #[.agg #[.int .i64 k, .int .i64 n, .int .i64 m, .int .i64 d]] w (GivesRow .u64 (tabBlueL n m d) w) := by
  have hms : hasSz m = true := by rw [hm]; exact hasSz_pow lg hlg
  have C0 : Hid (∀ W, Calls Tryz.prog 50 #[.int .i64 n, .int .i64 m, .int .i64 d] W (GivesRowE .u64 (zeroL (rowT (dirRt n d) n (2 * n - 1)) m) 0 W)) := fun W => kernel_ok n m d W h hd hms hl
  have C1 : Hid (∀ (a : Option Addr) (c : Nat) (xs : List Int) (W : World), Row .u64 W a xs → xs.length = m → Calls Tryz.prog 49 #[.slice a m c, .int .i64 0] W (GivesRowE .u64 (dftL xs (dirRt m 0)) 0 W)) := fun a c xs W hx hl => do_ok a m lg c 0 xs W hx hl (Or.inl rfl) (by omega) hm
  have HD : Hid (dftL (zeroL (rowT (dirRt n d) n (2 * n - 1)) m) (dirRt m 0) = tabBlueL n m d) := rfl
  have HZ : Hid ((zeroL (rowT (dirRt n d) n (2 * n - 1)) m).length = m) := zeroL_len _ _ (by rw [rowT_len]; exact hl)
  have HL : Hid ((tabBlueL n m d).length = m) := by unfold Hid; rw [← HD.out, dftL_len]; exact HZ.out
  obtain ⟨K, hK⟩ : ∃ K, zeroL (rowT (dirRt n d) n (2 * n - 1)) m = K := ⟨_, rfl⟩
  rw [hK] at C0 HD HZ
  clear h hd hm hms hK
  obtain ⟨W0, hW0, hb0, x0⟩ := box_any w #[.int .i64 k, .int .i64 n, .int .i64 m, .int .i64 d] 57
  have HW0 := Lib.hid hW0
  have HB := Lib.hid hb0
  have D1 : W0.cell? ⟨w.heap.size, 1, none⟩ = some (.int .i64 n) := block_cell x0 1
  have D2 : W0.cell? ⟨w.heap.size, 2, none⟩ = some (.int .i64 m) := block_cell x0 2
  have D3 : W0.cell? ⟨w.heap.size, 3, none⟩ = some (.int .i64 d) := block_cell x0 3
  clear hW0 hb0 x0
  go_enter Tryz.func30, Tryz.ntmps30
  go_wp2_with fail
  rw [HW0.out]
  refine (C0.out _).mono ?_; rintro e w1 ⟨a1, cap1, rfl, hr1, hcap1, hb1⟩
  rw [HZ.out]
  clear D1 D2 D3
  go_wp2_with fail
  refine (C1.out _ _ _ _ hr1 HZ.out).mono ?_; rintro e w4 ⟨a4, cap4, rfl, hr4, hcap4, hb4⟩
  rw [HD.out] at hr4 hcap4 ⊢
  have HB4 := Lib.hid (chain (chain HB.out hb1) hb4)
  have HR4 := Lib.hid hr4
  have HC4 := Lib.hid hcap4
  clear hr4 hcap4 hb4
  go_wp2_with fail
  go_ret
  exact ⟨a4, cap4, rfl, HR4.out, HC4.out, HB4.out⟩
end Go.Proofs.YtcckfeikaolfgaaGreat

namespace Go.Proofs.YtcckfeikaolfgaaGreat
open Go.RowKit Sm
set_option linter.unusedVariables false
set_option linter.unusedSimpArgs false
set_option maxRecDepth 100000
theorem rt_two : rt 2 = 18446744069414584320 := by
  have hs : hasSz ((2 : Nat) : Int) = true := by decide
  have hr := isRoot_rt 2 hs
  have h1 : Eqm ((rt 2 - 1) * (rt 2 + 1)) 0 := by
    have h2 := hr.one.sub (rfl' 1)
    have e : rt 2 ^ 2 - 1 = (rt 2 - 1) * (rt 2 + 1) := by
      rw [Int.sub_mul, Int.mul_add, Int.one_mul, Int.mul_one, Int.pow_succ, Int.pow_succ, Int.pow_zero, Int.one_mul]; omega
    rw [e, Int.sub_self] at h2
    exact h2
  have h3 : ¬ Eqm (rt 2 - 1) 0 := by
    intro h
    have h4 := h.add (rfl' 1)
    rw [Int.sub_add_cancel, Int.zero_add] at h4
    exact hr.least 1 (by omega) (by omega) (by rw [Int.pow_succ, Int.pow_zero, Int.one_mul]; exact h4)
  have h5 := strike' _ _ h3 h1
  have b := rt_range 2
  generalize rt 2 = r at *
  unfold Eqm at h5
  omega
theorem dft_12 : dftL [1, 2] 18446744069414584320 = [3, 18446744069414584320] := by
  unfold dftL pt pw
  rfl
end Go.Proofs.YtcckfeikaolfgaaGreat

namespace Go.Proofs.YtcckfeikaolfgaaGreat
open Go.RowKit
set_option linter.unusedVariables false
set_option linter.unusedSimpArgs false
set_option maxRecDepth 100000
def tblL (k : Int) (n m : Nat) (d : Int) : List Int :=
  if k = 1 then powL (dirRt n d) n else if k = 2 then rowT (dirRt n (1 - d)) n n else if k = 3 then tabRaderL n d else tabBlueL n m d
theorem tab1 (n m : Nat) (d : Int) : tblL 1 n m d = powL (dirRt n d) n := rfl
theorem tab2 (n m : Nat) (d : Int) : tblL 2 n m d = rowT (dirRt n (1 - d)) n n := rfl
theorem tab3 (n m : Nat) (d : Int) : tblL 3 n m d = tabRaderL n d := rfl
theorem tab4 (n m : Nat) (d : Int) : tblL 4 n m d = tabBlueL n m d := rfl
/-- Reduced. -/
def RedL (xs : List Int) : Prop := ∀ x ∈ xs, 0 ≤ x ∧ x < 18446744069414584321
theorem red_id {xs : List Int} (h : RedL xs) : xs.map (· % 18446744069414584321) = xs := by
  have : ∀ x ∈ xs, (x % 18446744069414584321) = id x := fun x hx => by have := h x hx; exact Int.emod_eq_of_lt this.1 this.2
  rw [List.map_congr_left this, List.map_id]
theorem red_pow (z : Int) (n : Nat) : RedL (powL z n) := by
  intro x hx; obtain ⟨i, _, rfl⟩ := List.mem_map.1 hx; exact pw_range z i
theorem red_rowT (z : Int) (n m : Nat) : RedL (rowT z n m) := by
  intro x hx; obtain ⟨i, _, rfl⟩ := List.mem_map.1 hx; exact pw_range z _
theorem red_dft (xs : List Int) (z : Int) : RedL (dftL xs z) := by
  intro x hx; obtain ⟨i, _, rfl⟩ := List.mem_map.1 hx; exact pt_range xs _
theorem red_tab (k : Int) (n m : Nat) (d : Int) : RedL (tblL k n m d) := by
  unfold tblL
  split
  · exact red_pow _ _
  · split
    · exact red_rowT _ _ _
    · split
      · exact red_dft _ _
      · exact red_dft _ _
/-- What a right name is. -/
theorem right_cases {k n m d : Int} (h : rightB (k, n, m, d) = true) : ∃ N : Nat, n = N ∧ hasSz (N : Int) = true ∧ (d = 0 ∨ d = 1) ∧
    ((k = 1 ∧ m = 0) ∨ (k = 2 ∧ m = 0) ∨ (k = 3 ∧ m = 0 ∧ IsFq N) ∨ (k = 4 ∧ ∃ M lg : Nat, m = M ∧ 2 ≤ N ∧ lg ≤ 24 ∧ M = 2 ^ lg ∧ 2 * N - 1 ≤ M)) := by
  simp only [rightB, Bool.and_eq_true, decide_eq_true_eq] at h
  obtain ⟨⟨h1, h2⟩, h3⟩ := h
  have hb := hasSz_iff.1 h1
  obtain ⟨N, rfl⟩ := Int.eq_ofNat_of_zero_le (show 0 ≤ n by omega)
  refine ⟨N, rfl, h1, h2, ?_⟩
  by_cases k1 : k = 1 ∨ k = 2
  · rw [if_pos k1] at h3
    have := of_decide_eq_true h3
    rcases k1 with k1 | k1
    · exact Or.inl ⟨k1, this⟩
    · exact Or.inr (Or.inl ⟨k1, this⟩)
  · rw [if_neg k1] at h3
    by_cases k3 : k = 3
    · rw [if_pos k3] at h3
      simp only [Bool.and_eq_true, decide_eq_true_eq] at h3
      exact Or.inr (Or.inr (Or.inl ⟨k3, h3.1.1, fq_of h1 h3.2 (by omega)⟩))
    · rw [if_neg k3] at h3
      by_cases k4 : k = 4
      · rw [if_pos k4] at h3
        simp only [Bool.and_eq_true, decide_eq_true_eq] at h3
        obtain ⟨lg, hlg, he⟩ := (hasP2_iff _).1 h3.2
        exact Or.inr (Or.inr (Or.inr ⟨k4, 2 ^ lg, lg, he, by omega, hlg, rfl, by omega⟩))
      · rw [if_neg k4] at h3; cases h3
theorem room_right {k n m d : Int} (h : rightB (k, n, m, d) = true) (N M : Nat) (hn : n = N) (hm : m = M) : roomN (k, n, m, d) = ((tblL k N M d).length : Nat) ∧ (tblL k N M d).length ≤ 16777216 := by
  obtain ⟨N', hN, hs, hd, hc⟩ := right_cases h
  have hb := hasSz_iff.1 hs
  have : N' = N := by omega
  subst this
  unfold roomN
  rw [if_neg (by rw [h]; simp)]
  simp only
  rcases hc with ⟨rfl, _⟩ | ⟨rfl, _⟩ | ⟨rfl, _, hq⟩ | ⟨rfl, M', lg, hM, h2, hlg, he, hle⟩
  · rw [if_neg (by omega), if_neg (by omega), tab1, powL_len]; exact ⟨hN, by omega⟩
  · rw [if_neg (by omega), if_neg (by omega), tab2, rowT_len]; exact ⟨hN, by omega⟩
  · have := fq_bd hq
    rw [if_pos rfl, tab3, tabRaderL, dftL_len, radL_len]; omega
  · have hMM : M' = M := by omega
    subst hMM
    have := (hasSz_iff.1 (hasSz_pow lg hlg)).2.1
    rw [← he] at this
    rw [if_neg (by omega), if_pos rfl, tab4, tabBlueL, dftL_len, zeroL_len _ _ (by rw [rowT_len]; exact hle)]
    omega
set_option maxHeartbeats 1000000 in
theorem table_made (k n m d : Int) (xs : List Int) (L : Nat) (w : World) (hx : NmOk (k, n, m, d)) (h : rightB (k, n, m, d) = true) (hl : xs.length = L) (hl2 : L ≤ 16777216) (hr : RedL xs)
    (hc : ∀ W, Calls Tryz.prog (if k = 2 then 28 else if k = 3 then 29 else if k = 4 then 30 else 27) #[.agg #[.int .i64 k, .int .i64 n, .int .i64 m, .int .i64 d]] W (GivesRow .u64 xs W)) (hk : k = 1 ∨ k = 2 ∨ k = 3 ∨ k = 4) :
    Calls Tryz.prog 17 #[.agg #[.int .i64 k, .int .i64 n, .int .i64 m, .int .i64 d]] w (GivesRowE .u64 xs 0 w) := by
  have C0 : Hid (∀ W, Calls Tryz.prog 26 #[.agg #[.int .i64 k, .int .i64 n, .int .i64 m, .int .i64 d]] W fun e w' => e = .returned (.bool true) ∧ Below W.heap.size W w') := fun W => by rw [← h]; exact need_Right k n m d W hx
  have C2 : Hid (∀ (a : Option Addr) (c : Nat) (W : World), Row .u64 W a xs → Calls Tryz.prog 31 #[.slice a L c] W (GivesRow .u64 xs W)) := fun a c W hr' => by
    have := vec_RedN2 a L c xs W hr' hl hl2
    rwa [red_id hr] at this
  have HL := Lib.hid hl
  clear h hx hr hl
  obtain ⟨W0, hW0, hb0, x0⟩ := box_any w #[.int .i64 k, .int .i64 n, .int .i64 m, .int .i64 d] 44
  have HW0 := Lib.hid hW0
  have HB := Lib.hid hb0
  have X0 := Lib.hid x0
  have D0 : W0.cell? ⟨w.heap.size, 0, none⟩ = some (.int .i64 k) := block_cell x0 0
  have D1 : W0.cell? ⟨w.heap.size, 1, none⟩ = some (.int .i64 n) := block_cell x0 1
  have D2 : W0.cell? ⟨w.heap.size, 2, none⟩ = some (.int .i64 m) := block_cell x0 2
  have D3 : W0.cell? ⟨w.heap.size, 3, none⟩ = some (.int .i64 d) := block_cell x0 3
  clear hW0 hb0 x0
  rcases hk with rfl | rfl | rfl | rfl
  · have C1 : Hid (∀ W, Calls Tryz.prog 27 #[.agg #[.int .i64 1, .int .i64 n, .int .i64 m, .int .i64 d]] W (GivesRow .u64 xs W)) := hc
    clear hc
    go_enter Tryz.func17, Tryz.ntmps17
    go_wp2_with fail
    rw [HW0.out]
    refine (C0.out _).mono ?_; rintro e w1 ⟨rfl, hb1⟩
    have HB1 := Lib.hid (chain HB.out hb1)
    clear D0 D1 D2 D3
    have X1 := Lib.hid ((hb1.block _ (block_lt X0.out)).trans X0.out)
    have D0 : w1.cell? ⟨w.heap.size, 0, none⟩ = some (.int .i64 1) := block_cell X1.out 0
    have D1 : w1.cell? ⟨w.heap.size, 1, none⟩ = some (.int .i64 n) := block_cell X1.out 1
    have D2 : w1.cell? ⟨w.heap.size, 2, none⟩ = some (.int .i64 m) := block_cell X1.out 2
    have D3 : w1.cell? ⟨w.heap.size, 3, none⟩ = some (.int .i64 d) := block_cell X1.out 3
    obtain ⟨W2, hW2, hb2, x2⟩ := box_any w1 #[.int .i64 1, .int .i64 n, .int .i64 m, .int .i64 d] 57
    have E0 : (w1.alloc (.cells #[.int .i64 1, .int .i64 n, .int .i64 m, .int .i64 d] 57)).cell? ⟨w.heap.size, 0, none⟩ = some (.int .i64 1) := (cell_past _ _ _ (block_lt X1.out)).trans D0
    have HW2 := Lib.hid hW2
    have HB2 := Lib.hid (chain HB1.out hb2)
    clear hb1 hW2 hb2 x2
    go_wp2_with fail
    rw [HW2.out]
    refine (C1.out _).mono ?_; rintro e w3 ⟨a3, cap3, rfl, hr3, hcap3, hb3⟩
    simp only [HL.out] at hcap3 ⊢
    have HB3 := Lib.hid (chain HB2.out hb3)
    have HR3 := Lib.hid hr3
    clear D0 D1 D2 D3 E0 hr3 hcap3 hb3
    go_wp2_with fail
    refine (C2.out _ _ _ HR3.out).mono ?_; rintro e w4 ⟨a4, cap4, rfl, hr4, hcap4, hb4⟩
    simp only [HL.out] at hcap4 ⊢
    have HB4 := Lib.hid (chain HB3.out hb4)
    have HR4 := Lib.hid hr4
    clear hr4 hb4
    go_wp2_with fail
    go_ret2
    exact ⟨a4, cap4, by simp [HL.out], HR4.out, by rw [HL.out]; exact hcap4, HB4.out⟩
  · have C1 : Hid (∀ W, Calls Tryz.prog 28 #[.agg #[.int .i64 2, .int .i64 n, .int .i64 m, .int .i64 d]] W (GivesRow .u64 xs W)) := hc
    clear hc
    go_enter Tryz.func17, Tryz.ntmps17
    go_wp2_with fail
    rw [HW0.out]
    refine (C0.out _).mono ?_; rintro e w1 ⟨rfl, hb1⟩
    have HB1 := Lib.hid (chain HB.out hb1)
    clear D0 D1 D2 D3
    have X1 := Lib.hid ((hb1.block _ (block_lt X0.out)).trans X0.out)
    have D0 : w1.cell? ⟨w.heap.size, 0, none⟩ = some (.int .i64 2) := block_cell X1.out 0
    have D1 : w1.cell? ⟨w.heap.size, 1, none⟩ = some (.int .i64 n) := block_cell X1.out 1
    have D2 : w1.cell? ⟨w.heap.size, 2, none⟩ = some (.int .i64 m) := block_cell X1.out 2
    have D3 : w1.cell? ⟨w.heap.size, 3, none⟩ = some (.int .i64 d) := block_cell X1.out 3
    obtain ⟨W2, hW2, hb2, x2⟩ := box_any w1 #[.int .i64 2, .int .i64 n, .int .i64 m, .int .i64 d] 57
    have E0 : (w1.alloc (.cells #[.int .i64 2, .int .i64 n, .int .i64 m, .int .i64 d] 57)).cell? ⟨w.heap.size, 0, none⟩ = some (.int .i64 2) := (cell_past _ _ _ (block_lt X1.out)).trans D0
    have HW2 := Lib.hid hW2
    have HB2 := Lib.hid (chain HB1.out hb2)
    clear hb1 hW2 hb2 x2
    go_wp2_with fail
    rw [HW2.out]
    refine (C1.out _).mono ?_; rintro e w3 ⟨a3, cap3, rfl, hr3, hcap3, hb3⟩
    simp only [HL.out] at hcap3 ⊢
    have HB3 := Lib.hid (chain HB2.out hb3)
    have HR3 := Lib.hid hr3
    clear D0 D1 D2 D3 E0 hr3 hcap3 hb3
    go_wp2_with fail
    refine (C2.out _ _ _ HR3.out).mono ?_; rintro e w4 ⟨a4, cap4, rfl, hr4, hcap4, hb4⟩
    simp only [HL.out] at hcap4 ⊢
    have HB4 := Lib.hid (chain HB3.out hb4)
    have HR4 := Lib.hid hr4
    clear hr4 hb4
    go_wp2_with fail
    go_ret2
    exact ⟨a4, cap4, by simp [HL.out], HR4.out, by rw [HL.out]; exact hcap4, HB4.out⟩
  · have C1 : Hid (∀ W, Calls Tryz.prog 29 #[.agg #[.int .i64 3, .int .i64 n, .int .i64 m, .int .i64 d]] W (GivesRow .u64 xs W)) := hc
    clear hc
    go_enter Tryz.func17, Tryz.ntmps17
    go_wp2_with fail
    rw [HW0.out]
    refine (C0.out _).mono ?_; rintro e w1 ⟨rfl, hb1⟩
    have HB1 := Lib.hid (chain HB.out hb1)
    clear D0 D1 D2 D3
    have X1 := Lib.hid ((hb1.block _ (block_lt X0.out)).trans X0.out)
    have D0 : w1.cell? ⟨w.heap.size, 0, none⟩ = some (.int .i64 3) := block_cell X1.out 0
    have D1 : w1.cell? ⟨w.heap.size, 1, none⟩ = some (.int .i64 n) := block_cell X1.out 1
    have D2 : w1.cell? ⟨w.heap.size, 2, none⟩ = some (.int .i64 m) := block_cell X1.out 2
    have D3 : w1.cell? ⟨w.heap.size, 3, none⟩ = some (.int .i64 d) := block_cell X1.out 3
    obtain ⟨W2, hW2, hb2, x2⟩ := box_any w1 #[.int .i64 3, .int .i64 n, .int .i64 m, .int .i64 d] 57
    have E0 : (w1.alloc (.cells #[.int .i64 3, .int .i64 n, .int .i64 m, .int .i64 d] 57)).cell? ⟨w.heap.size, 0, none⟩ = some (.int .i64 3) := (cell_past _ _ _ (block_lt X1.out)).trans D0
    have HW2 := Lib.hid hW2
    have HB2 := Lib.hid (chain HB1.out hb2)
    clear hb1 hW2 hb2 x2
    go_wp2_with fail
    rw [HW2.out]
    refine (C1.out _).mono ?_; rintro e w3 ⟨a3, cap3, rfl, hr3, hcap3, hb3⟩
    simp only [HL.out] at hcap3 ⊢
    have HB3 := Lib.hid (chain HB2.out hb3)
    have HR3 := Lib.hid hr3
    clear D0 D1 D2 D3 E0 hr3 hcap3 hb3
    go_wp2_with fail
    refine (C2.out _ _ _ HR3.out).mono ?_; rintro e w4 ⟨a4, cap4, rfl, hr4, hcap4, hb4⟩
    simp only [HL.out] at hcap4 ⊢
    have HB4 := Lib.hid (chain HB3.out hb4)
    have HR4 := Lib.hid hr4
    clear hr4 hb4
    go_wp2_with fail
    go_ret2
    exact ⟨a4, cap4, by simp [HL.out], HR4.out, by rw [HL.out]; exact hcap4, HB4.out⟩
  · have C1 : Hid (∀ W, Calls Tryz.prog 30 #[.agg #[.int .i64 4, .int .i64 n, .int .i64 m, .int .i64 d]] W (GivesRow .u64 xs W)) := hc
    clear hc
    go_enter Tryz.func17, Tryz.ntmps17
    go_wp2_with fail
    rw [HW0.out]
    refine (C0.out _).mono ?_; rintro e w1 ⟨rfl, hb1⟩
    have HB1 := Lib.hid (chain HB.out hb1)
    clear D0 D1 D2 D3
    have X1 := Lib.hid ((hb1.block _ (block_lt X0.out)).trans X0.out)
    have D0 : w1.cell? ⟨w.heap.size, 0, none⟩ = some (.int .i64 4) := block_cell X1.out 0
    have D1 : w1.cell? ⟨w.heap.size, 1, none⟩ = some (.int .i64 n) := block_cell X1.out 1
    have D2 : w1.cell? ⟨w.heap.size, 2, none⟩ = some (.int .i64 m) := block_cell X1.out 2
    have D3 : w1.cell? ⟨w.heap.size, 3, none⟩ = some (.int .i64 d) := block_cell X1.out 3
    obtain ⟨W2, hW2, hb2, x2⟩ := box_any w1 #[.int .i64 4, .int .i64 n, .int .i64 m, .int .i64 d] 57
    have E0 : (w1.alloc (.cells #[.int .i64 4, .int .i64 n, .int .i64 m, .int .i64 d] 57)).cell? ⟨w.heap.size, 0, none⟩ = some (.int .i64 4) := (cell_past _ _ _ (block_lt X1.out)).trans D0
    have HW2 := Lib.hid hW2
    have HB2 := Lib.hid (chain HB1.out hb2)
    clear hb1 hW2 hb2 x2
    go_wp2_with fail
    rw [HW2.out]
    refine (C1.out _).mono ?_; rintro e w3 ⟨a3, cap3, rfl, hr3, hcap3, hb3⟩
    simp only [HL.out] at hcap3 ⊢
    have HB3 := Lib.hid (chain HB2.out hb3)
    have HR3 := Lib.hid hr3
    clear D0 D1 D2 D3 E0 hr3 hcap3 hb3
    go_wp2_with fail
    refine (C2.out _ _ _ HR3.out).mono ?_; rintro e w4 ⟨a4, cap4, rfl, hr4, hcap4, hb4⟩
    simp only [HL.out] at hcap4 ⊢
    have HB4 := Lib.hid (chain HB3.out hb4)
    have HR4 := Lib.hid hr4
    clear hr4 hb4
    go_wp2_with fail
    go_ret2
    exact ⟨a4, cap4, by simp [HL.out], HR4.out, by rw [HL.out]; exact hcap4, HB4.out⟩
theorem table_Make (k n m d : Int) (N M : Nat) (w : World) (hx : NmOk (k, n, m, d)) (h : rightB (k, n, m, d) = true) (hn : n = N) (hm : m = M) :
    Calls Tryz.prog 17 #[.agg #[.int .i64 k, .int .i64 n, .int .i64 m, .int .i64 d]] w (GivesRowE .u64 (tblL k N M d) 0 w) := by
  have hl := (room_right h N M hn hm).2
  obtain ⟨N', hN, hs, hd, hc⟩ := right_cases h
  have : N' = N := by omega
  subst this
  subst hn
  refine table_made k N' m d _ _ w hx h rfl hl (red_tab _ _ _ _) ?_ (by rcases hc with ⟨h, _⟩ | ⟨h, _⟩ | ⟨h, _⟩ | ⟨h, _⟩ <;> omega)
  intro W
  rcases hc with ⟨rfl, _⟩ | ⟨rfl, _⟩ | ⟨rfl, _, hq⟩ | ⟨rfl, M', lg, hM, h2, hlg, he, hle⟩
  · exact tab_powers 1 N' m d W hs hd
  · exact tab_chirps 2 N' m d _ W hs hd rfl
  · exact tab_raders 3 N' m d W hs hd hq
  · have hMM : M' = M := by omega
    subst hMM
    rw [hm]
    exact tab_blues 4 N' M' lg d W hs hd hlg he hle
end Go.Proofs.YtcckfeikaolfgaaGreat

namespace Go.Proofs.YtcckfeikaolfgaaGreat
open Go.RowKit
set_option linter.unusedVariables false
set_option linter.unusedSimpArgs false
set_option maxRecDepth 100000
set_option maxRecDepth 20000
/-- append of a row that is owned (or of nothing) to a row that is owned. -/
theorem wpList_append_two {P : Program} (w : World) {ops : Array Oper} {rest : List Oper} {o : Oper} {a : Act} {Q : Exit → Act → World → Prop} (hgd : o.guard = none) (s x : Operand) (t : TypeId)
    (ho : o.op = .call { callee := .builtin .append, args := #[s, x], argTypes := #[t, t] })
    (base : Nat) (e : TypeId) (i : TypeInfo) (z : Value) (size bytes : Nat) (ht : P.underlying t = some (.slice e)) (hi : P.info? e = some i) (hz : i.zero = some z)
    (hsize : i.size = size) (hby : i.bytes = bytes) (hzs : z.cells.size = size) (hsz : 0 < size)
    (v : Value) (n : Nat) (xs : List Value) (hs : a.eval s = v) (hown : w.ownsRow base e size v n xs)
    (b2 : Nat) (v2 : Value) (m : Nat) (news : List Value) (hx : a.eval x = v2) (hsrc : w.ownsRow b2 e size v2 m news) (h1 : ∀ u ∈ news, u.oneCell' = true)
    (h63 : n + m ≤ maxLen) (hbytes : (n + m) * bytes ≤ 140737488355328) (hbase : base ≤ w.heap.size)
    (h : ∀ v' w', w'.ownsRow base e size v' (n + m) (xs ++ news) → w.grownBy w' v.ownBlock → (v'.ownBlock = v.ownBlock ∨ v'.ownBlock = some w.heap.size) → wpList P ops Q rest (a.put o.dst v') w') :
    wpList P ops Q (o :: rest) a w := by
  have hl := hsrc.1
  have hcells := fun g hg => hsrc.cells (g := g) hg
  rcases hsrc.2 with ⟨rfl, rfl⟩ | ⟨g, cap, cur, rfl, _, _, _, _, _, _⟩
  · have hn : news = [] := List.eq_nil_of_length_eq_zero (by simpa using hl)
    subst hn
    exact wpList_append_own_none hgd s x t ho base e i size ht hi v n xs hs hown hx (h v w (by simpa using hown) (World.grownBy.refl w _) (.inl rfl))
  · exact wpList_append_own_at w hgd s x t ho base e i z size bytes ht hi hz hsize hby hzs hsz v n xs hs hown ⟨g, 0, none⟩ m cap news hx hl (hcells g rfl) h1 h63 hbytes hbase fun v' w' h2 h3 _ h5 => h v' w' h2 h3 h5
end Go.Proofs.YtcckfeikaolfgaaGreat

namespace Go.Proofs.YtcckfeikaolfgaaGreat
open Go.RowKit
set_option linter.unusedVariables false
set_option linter.unusedSimpArgs false
set_option maxRecDepth 100000
set_option maxRecDepth 20000
/-- Nodes in memory stay. -/
def KeepsD (W W' : World) : Prop := ∀ (b : Nat) (cs : Array Value), W.heap[b]? = some (.cells cs 24 (0, 0)) → W'.heap[b]? = some (.cells cs 24 (0, 0))
theorem KeepsD.refl (W : World) : KeepsD W W := fun _ _ h => h
theorem KeepsD.trans {A B C : World} (h : KeepsD A B) (k : KeepsD B C) : KeepsD A C := fun b cs x => k b cs (h b cs x)
theorem KeepsD.of_below {W W' : World} (h : Below W.heap.size W W') : KeepsD W W' := fun b cs x => (h.block b (block_lt x)).trans x
theorem nmOk_mk {x y z u : Int} (h1 : -9223372036854775808 ≤ x ∧ x < 9223372036854775808) (h2 : -9223372036854775808 ≤ y ∧ y < 9223372036854775808) (h3 : -9223372036854775808 ≤ z ∧ z < 9223372036854775808) (h4 : -9223372036854775808 ≤ u ∧ u < 9223372036854775808) : NmOk (x, y, z, u) := ⟨h1, h2, h3, h4⟩
/-- A function that is told names, one by one; J: what holds when some have been told. -/
structure TellsN (g : FuncId) (p q : Addr) (w0 : World) (B C : Nat) (J : List Nm → World → Prop) : Prop where
  below : ∀ pre W, J pre W → Below B w0 W
  later : ∀ pre W W', J pre W → Below W.heap.size W W' → J pre W'
  call : ∀ (pre : List Nm) (k n m d : Int) W, J pre W → pre.length < C → NmOk (k, n, m, d) → Calls Tryz.prog g #[.agg #[.int .i64 k, .int .i64 n, .int .i64 m, .int .i64 d], .pointer (some p), .pointer (some q)] W fun e W' => e = .returned (.tuple #[]) ∧ J (pre ++ [(k, n, m, d)]) W' ∧ KeepsD W W'
  enter : ∀ args w, (callFunc g args).run Tryz.prog w = .ok (.enter g args) w
/-- The round over the children, and what stands behind it: a part of each's walk, for one kind of node. -/
def EachEnds (J : List Nm → World → Prop) (l : List Nm) (W : World) (e : Ending) (W' : World) : Prop := e = .returned (.tuple #[]) ∧ J l W' ∧ KeepsD W W'
set_option maxHeartbeats 16000000 in
theorem need_each (g : FuncId) (p q : Addr) (w0 : World) (B C : Nat) (J : List Nm → World → Prop) (HJ : TellsN g p q w0 B C J) (hB : B ≤ w0.heap.size) (N : Nat) (hN : N ≤ 4194304) :
    ∀ (t : Tr) (k n : Int) (a : Option Addr) (m cap : Nat) (dir : Int) (pre : List Nm) (W : World), t.size ≤ N → IsT w0 (Lt B) k n a m cap t → t.allOk → dir = 0 ∨ dir = 1 → J pre W → pre.length + 2 * t.size ≤ C →
    Calls Tryz.prog 77 #[.agg #[.int .i64 k, .int .i64 n, .slice a m cap], .int .i64 dir, .func (.func g) #[] #[.pointer (some p), .pointer (some q)]] W (EachEnds J (pre ++ t.names dir) W) := by
  have eg := HJ.enter
  induction N with
  | zero => intro t k n a m cap dir pre W h; have := Tr.size_pos t; omega
  | succ N ih =>
    intro t k n a m cap dir pre W hs hT hok hd hJ hC
    have IH := Lib.hid (ih (by omega))
    clear ih
    have hn := (Tr.allOk_iff t).1 hok
    have HOK := Lib.hid hn.2
    have HT : Hid (∀ pre V, J pre V → IsT V (Lt B) k n a m cap t) := fun pre V h => hT.stay fun b hb _ => (HJ.below pre V h).block b hb
    have HS := Lib.hid hs
    have HC := Lib.hid hC
    have hm4 : m ≤ 4194304 := by
      have := Tr.len_le_sizeL t.kids
      rw [Tr.size_kids] at hs
      rw [hT.em]; omega
    have hlen := hT.em
    have fn := hT.fn
    have fd : -9223372036854775808 ≤ dir ∧ dir < 9223372036854775808 := by omega
    have HNM : Hid (t.names dir = nmOwn k n (Tr.kid t.kids 0).num dir ++ Tr.namesL t.kids (nmBelow k dir)) := by unfold Hid; rw [Tr.names_kids, hT.ek, hT.en]
    obtain ⟨own, hown⟩ : ∃ l, nmOwn k n (Tr.kid t.kids 0).num dir = l := ⟨_, rfl⟩
    have hol : own.length ≤ 2 := by rw [← hown]; exact Tr.own_len _ _ _ _
    obtain ⟨D, hD⟩ : ∃ x, nmBelow k dir = x := ⟨_, rfl⟩
    have hd2 : D = 0 ∨ D = 1 := by rw [← hD]; exact below_dir k dir hd
    rw [hown, hD] at HNM
    rw [HNM.out]
    -- the round, for any world behind the node's own names
    have HR : Hid (∀ (V : World) (j : Nat), j < m → J (pre ++ own ++ Tr.namesL (t.kids.take j) D) V → ∀ k' n' a' m' c', IsT V (Lt B) k' n' a' m' c' (Tr.kid t.kids j) → True) := fun _ _ _ _ _ _ _ _ _ _ => trivial
    have IHK : Hid (∀ (j : Nat) (hj : j < m) (V : World), J (pre ++ own ++ Tr.namesL (t.kids.take j) D) V → ∃ b off k' n' a' m' c', a = some ⟨b, off, none⟩ ∧ b < V.heap.size ∧ V.cell? ⟨b, off + j * 3, none⟩ = some (.int .i64 k') ∧ V.cell? ⟨b, off + j * 3 + 1, none⟩ = some (.int .i64 n') ∧ V.cell? ⟨b, off + j * 3 + 2, none⟩ = some (.slice a' m' c') ∧
        ∀ V', Below V.heap.size V V' → Calls Tryz.prog 77 #[.agg #[.int .i64 k', .int .i64 n', .slice a' m' c'], .int .i64 D, .func (.func g) #[] #[.pointer (some p), .pointer (some q)]] V' (EachEnds J (pre ++ own ++ Tr.namesL (t.kids.take (j + 1)) D) V')) := fun j hj V hV => by
      have hj2 : j < t.kids.length := by rw [← hlen]; exact hj
      obtain ⟨b, off, k', n', a', m', c', e1, hF, hbl, h0, h1, h2, hT'⟩ := hT.kid j hj
      have hbel := HJ.below _ _ hV
      have ec : ∀ o, V.cell? ⟨b, o, none⟩ = w0.cell? ⟨b, o, none⟩ := fun o => hbel.cell (p := ⟨b, o, none⟩) hF
      have hbs : b < V.heap.size := Nat.lt_of_lt_of_le hbl hbel.size
      refine ⟨b, off, k', n', a', m', c', e1, hbs, (ec _).trans h0, (ec _).trans h1, (ec _).trans h2, fun V' hb => ?_⟩
      have hsz := Tr.size_kid t j hj2
      have htk := Tr.take_kid hj2
      have hnl := Tr.namesL_len (t.kids.take j) D
      have hsl := Tr.sizeL_append (t.kids.take (j + 1)) (t.kids.drop (j + 1))
      rw [List.take_append_drop, htk, Tr.sizeL_append] at hsl
      simp only [Tr.sizeL] at hsl
      have hts := Tr.size_kids t
      have h := IH.out (Tr.kid t.kids j) k' n' a' m' c' D (pre ++ own ++ Tr.namesL (t.kids.take j) D) V' (by omega) hT' (HOK.out j hj2) hd2 (HJ.later _ _ _ hV hb) (by
        simp only [List.length_append]
        omega)
      rw [List.append_assoc (pre ++ own), ← Tr.namesL_snoc, ← htk] at h
      exact h
    have HEND : Hid (Tr.namesL (t.kids.take m) D = Tr.namesL t.kids D) := by unfold Hid; rw [List.take_of_length_le (by omega)]
    clear HR
    have CT : Hid (∀ (l : List Nm) (x y z u : Int) V, J l V → l.length < C → NmOk (x, y, z, u) → Calls Tryz.prog g #[.agg #[.int .i64 x, .int .i64 y, .int .i64 z, .int .i64 u], .pointer (some p), .pointer (some q)] V fun e W' => e = .returned (.tuple #[]) ∧ J (l ++ [(x, y, z, u)]) W' ∧ KeepsD V W') := fun l x y z u V h1 h2 h3 => HJ.call l x y z u V h1 h2 h3
    have hpl : pre.length + 2 ≤ C := by have := Tr.size_pos t; omega
    obtain ⟨W0, hW0, hb0, x0⟩ := box_any W #[.int .i64 k, .int .i64 n, .slice a m cap] 24
    have HW0 := Lib.hid hW0
    have hJ0 := Lib.hid (HJ.later _ _ _ hJ hb0)
    have HK := Lib.hid (KeepsD.of_below hb0)
    have XD := Lib.hid x0
    have HL : Hid (∀ l V V', J l V → Below V.heap.size V V' → J l V') := HJ.later
    have hcs := node_cases hn.1
    rw [← hT.ek, ← hT.en, ← hT.em] at hcs
    have hk0 : k = 7 → ∃ b off, a = some ⟨b, off, none⟩ ∧ ∀ l V, J l V → V.cell? ⟨b, off + 1, none⟩ = some (.int .i64 (Tr.kid t.kids 0).num) := fun hk7 => by
      have h1 : 0 < m := by rcases hcs with h | h | h | h | h | h <;> omega
      obtain ⟨b, off, e1, _, h2, _⟩ := hT.knum 0 h1
      refine ⟨b, off, e1, fun l V h => ?_⟩
      obtain ⟨b', off', k', n', a', m', c', e1', _, _, _, h3, _, hT'⟩ := (HT.out l V h).kid 0 h1
      rw [e1] at e1'
      simp only [Option.some.injEq, Addr.mk.injEq, and_true] at e1'
      obtain ⟨rfl, rfl⟩ := e1'
      rw [hT'.en] at h3
      simpa using h3
    have fk0 : -9223372036854775808 ≤ (Tr.kid t.kids 0).num ∧ (Tr.kid t.kids 0).num < 9223372036854775808 ∨ k ≠ 7 := by
      by_cases hk7 : k = 7
      · left
        rcases hcs with h | h | h | h | h | h <;> omega
      · exact .inr hk7
    obtain ⟨K0, hK0⟩ : ∃ x, (Tr.kid t.kids 0).num = x := ⟨_, rfl⟩
    rw [hK0] at hown hk0 fk0
    have hkk : k = 1 ∨ k = 2 ∨ k = 3 ∨ k = 4 ∨ k = 5 ∨ k = 6 ∨ k = 7 := by rcases hcs with h | h | h | h | h | h <;> omega
    have HM7 : Hid (k = 7 → 0 < m) := fun h7 => by rcases hcs with h | h | h | h | h | h <;> omega
    clear hW0 hb0 x0 hJ hT hs hok hn hcs HJ hK0 hC hol hlen

    rcases hkk with rfl | rfl | rfl | rfl | rfl | rfl | rfl
    · skip
      have hown : [(1, n, 0, dir)] = own := by rw [← hown]; simp [nmOwn]
      obtain rfl : dir = D := by rw [← hD]; simp [nmBelow]
      clear hk0 fk0
      have hown := Lib.hid hown
      have D0 : W0.cell? ⟨W.heap.size, 0, none⟩ = some (.int .i64 1) := block_cell XD.out 0
      have D1 : W0.cell? ⟨W.heap.size, 1, none⟩ = some (.int .i64 n) := block_cell XD.out 1
      have D2 : W0.cell? ⟨W.heap.size, 2, none⟩ = some (.slice a m cap) := block_cell XD.out 2
      go_enter Tryz.func77, Tryz.ntmps77
      go_wp2_with fail
      rw [HW0.out]
      refine (CT.out pre _ _ _ _ _ hJ0.out (by first | omega | (simp; omega)) (nmOk_mk ⟨by omega, by omega⟩ ⟨by omega, by omega⟩ ⟨by omega, by omega⟩ ⟨by omega, by omega⟩)).mono ?_; rintro e w1 ⟨rfl, hj, hk⟩
      clear D0 D1 D2
      have XD := Lib.hid (hk _ _ XD.out)
      have HK := Lib.hid (HK.out.trans hk)
      have hJ0 := Lib.hid hj
      clear hk hj
      have D0 : w1.cell? ⟨W.heap.size, 0, none⟩ = some (.int .i64 1) := block_cell XD.out 0
      have D1 : w1.cell? ⟨W.heap.size, 1, none⟩ = some (.int .i64 n) := block_cell XD.out 1
      have D2 : w1.cell? ⟨W.heap.size, 2, none⟩ = some (.slice a m cap) := block_cell XD.out 2
      go_wp2_with fail
      go_loopw [52] (fun i wr => ∃ j : Nat, j ≤ m ∧ i = .int .i64 j ∧ Hid (J (pre ++ own ++ Tr.namesL (t.kids.take j) dir) wr) ∧ Hid (KeepsD W wr)) (fun i _ => m - (intOf i).toNat)
      case atStart => exact ⟨0, Nat.zero_le _, rfl, by unfold Hid; rw [← hown.out]; simpa [Tr.namesL] using hJ0.out, HK.out⟩
      case round =>
        obtain ⟨j, hj, rfl, HJ0, HK0⟩ := hrel
        by_cases hlt : j < m
        · obtain ⟨b, off, k', n', a', m', c', rfl, hbl, h0, h1, h2, hcall⟩ := IHK.out j hlt wr HJ0.out
          have HCALL := Lib.hid hcall
          have i0 : (0 : Int) ≤ (j : Int) := by omega
          have i1 : (j : Int) < (m : Int) := by omega
          clear hcall
          go_wp2_with fail
          refine (HCALL.out _ ((Below.refl _ _).alloc (Nat.le_refl _) _)).mono ?_; rintro e w2 ⟨rfl, hj2, hk2⟩
          have HJ2 := Lib.hid hj2
          have HK2 := Lib.hid (HK0.out.trans ((KeepsD.of_below ((Below.refl _ _).alloc (Nat.le_refl _) _)).trans hk2))
          clear hj2 hk2 h0 h1 h2
          go_wp2_with fail
          go_roundw
          case rel => exact ⟨j + 1, by omega, by go_num, HJ2.out, HK2.out⟩
          case measure => simp [intOf]; omega
        · obtain rfl : j = m := by omega
          have HF : Hid (J (pre ++ (own ++ Tr.namesL t.kids dir)) wr) := by unfold Hid; rw [← HEND.out, ← List.append_assoc]; exact HJ0.out
          clear HJ0
          go_wp2_with fail
          go_end0
          exact ⟨rfl, HF.out, HK0.out⟩
    · skip
      have hown : [] = own := by rw [← hown]; simp [nmOwn]
      obtain rfl : dir = D := by rw [← hD]; simp [nmBelow]
      clear hk0 fk0
      have hown := Lib.hid hown
      have D0 : W0.cell? ⟨W.heap.size, 0, none⟩ = some (.int .i64 2) := block_cell XD.out 0
      have D1 : W0.cell? ⟨W.heap.size, 1, none⟩ = some (.int .i64 n) := block_cell XD.out 1
      have D2 : W0.cell? ⟨W.heap.size, 2, none⟩ = some (.slice a m cap) := block_cell XD.out 2
      go_enter Tryz.func77, Tryz.ntmps77
      go_wp2_with fail
      rw [HW0.out]
      go_loopw [52] (fun i wr => ∃ j : Nat, j ≤ m ∧ i = .int .i64 j ∧ Hid (J (pre ++ own ++ Tr.namesL (t.kids.take j) dir) wr) ∧ Hid (KeepsD W wr)) (fun i _ => m - (intOf i).toNat)
      case atStart => exact ⟨0, Nat.zero_le _, rfl, by unfold Hid; rw [← hown.out]; simpa [Tr.namesL] using hJ0.out, HK.out⟩
      case round =>
        obtain ⟨j, hj, rfl, HJ0, HK0⟩ := hrel
        by_cases hlt : j < m
        · obtain ⟨b, off, k', n', a', m', c', rfl, hbl, h0, h1, h2, hcall⟩ := IHK.out j hlt wr HJ0.out
          have HCALL := Lib.hid hcall
          have i0 : (0 : Int) ≤ (j : Int) := by omega
          have i1 : (j : Int) < (m : Int) := by omega
          clear hcall
          go_wp2_with fail
          refine (HCALL.out _ ((Below.refl _ _).alloc (Nat.le_refl _) _)).mono ?_; rintro e w2 ⟨rfl, hj2, hk2⟩
          have HJ2 := Lib.hid hj2
          have HK2 := Lib.hid (HK0.out.trans ((KeepsD.of_below ((Below.refl _ _).alloc (Nat.le_refl _) _)).trans hk2))
          clear hj2 hk2 h0 h1 h2
          go_wp2_with fail
          go_roundw
          case rel => exact ⟨j + 1, by omega, by go_num, HJ2.out, HK2.out⟩
          case measure => simp [intOf]; omega
        · obtain rfl : j = m := by omega
          have HF : Hid (J (pre ++ (own ++ Tr.namesL t.kids dir)) wr) := by unfold Hid; rw [← HEND.out, ← List.append_assoc]; exact HJ0.out
          clear HJ0
          go_wp2_with fail
          go_end0
          exact ⟨rfl, HF.out, HK0.out⟩
    · skip
      have hown : [(1, n, 0, dir)] = own := by rw [← hown]; simp [nmOwn]
      obtain rfl : dir = D := by rw [← hD]; simp [nmBelow]
      clear hk0 fk0
      have hown := Lib.hid hown
      have D0 : W0.cell? ⟨W.heap.size, 0, none⟩ = some (.int .i64 3) := block_cell XD.out 0
      have D1 : W0.cell? ⟨W.heap.size, 1, none⟩ = some (.int .i64 n) := block_cell XD.out 1
      have D2 : W0.cell? ⟨W.heap.size, 2, none⟩ = some (.slice a m cap) := block_cell XD.out 2
      go_enter Tryz.func77, Tryz.ntmps77
      go_wp2_with fail
      rw [HW0.out]
      refine (CT.out pre _ _ _ _ _ hJ0.out (by first | omega | (simp; omega)) (nmOk_mk ⟨by omega, by omega⟩ ⟨by omega, by omega⟩ ⟨by omega, by omega⟩ ⟨by omega, by omega⟩)).mono ?_; rintro e w1 ⟨rfl, hj, hk⟩
      clear D0 D1 D2
      have XD := Lib.hid (hk _ _ XD.out)
      have HK := Lib.hid (HK.out.trans hk)
      have hJ0 := Lib.hid hj
      clear hk hj
      have D0 : w1.cell? ⟨W.heap.size, 0, none⟩ = some (.int .i64 3) := block_cell XD.out 0
      have D1 : w1.cell? ⟨W.heap.size, 1, none⟩ = some (.int .i64 n) := block_cell XD.out 1
      have D2 : w1.cell? ⟨W.heap.size, 2, none⟩ = some (.slice a m cap) := block_cell XD.out 2
      go_wp2_with fail
      go_loopw [52] (fun i wr => ∃ j : Nat, j ≤ m ∧ i = .int .i64 j ∧ Hid (J (pre ++ own ++ Tr.namesL (t.kids.take j) dir) wr) ∧ Hid (KeepsD W wr)) (fun i _ => m - (intOf i).toNat)
      case atStart => exact ⟨0, Nat.zero_le _, rfl, by unfold Hid; rw [← hown.out]; simpa [Tr.namesL] using hJ0.out, HK.out⟩
      case round =>
        obtain ⟨j, hj, rfl, HJ0, HK0⟩ := hrel
        by_cases hlt : j < m
        · obtain ⟨b, off, k', n', a', m', c', rfl, hbl, h0, h1, h2, hcall⟩ := IHK.out j hlt wr HJ0.out
          have HCALL := Lib.hid hcall
          have i0 : (0 : Int) ≤ (j : Int) := by omega
          have i1 : (j : Int) < (m : Int) := by omega
          clear hcall
          go_wp2_with fail
          refine (HCALL.out _ ((Below.refl _ _).alloc (Nat.le_refl _) _)).mono ?_; rintro e w2 ⟨rfl, hj2, hk2⟩
          have HJ2 := Lib.hid hj2
          have HK2 := Lib.hid (HK0.out.trans ((KeepsD.of_below ((Below.refl _ _).alloc (Nat.le_refl _) _)).trans hk2))
          clear hj2 hk2 h0 h1 h2
          go_wp2_with fail
          go_roundw
          case rel => exact ⟨j + 1, by omega, by go_num, HJ2.out, HK2.out⟩
          case measure => simp [intOf]; omega
        · obtain rfl : j = m := by omega
          have HF : Hid (J (pre ++ (own ++ Tr.namesL t.kids dir)) wr) := by unfold Hid; rw [← HEND.out, ← List.append_assoc]; exact HJ0.out
          clear HJ0
          go_wp2_with fail
          go_end0
          exact ⟨rfl, HF.out, HK0.out⟩
    · skip
      have hown : [(1, n, 0, dir)] = own := by rw [← hown]; simp [nmOwn]
      obtain rfl : dir = D := by rw [← hD]; simp [nmBelow]
      clear hk0 fk0
      have hown := Lib.hid hown
      have D0 : W0.cell? ⟨W.heap.size, 0, none⟩ = some (.int .i64 4) := block_cell XD.out 0
      have D1 : W0.cell? ⟨W.heap.size, 1, none⟩ = some (.int .i64 n) := block_cell XD.out 1
      have D2 : W0.cell? ⟨W.heap.size, 2, none⟩ = some (.slice a m cap) := block_cell XD.out 2
      go_enter Tryz.func77, Tryz.ntmps77
      go_wp2_with fail
      rw [HW0.out]
      refine (CT.out pre _ _ _ _ _ hJ0.out (by first | omega | (simp; omega)) (nmOk_mk ⟨by omega, by omega⟩ ⟨by omega, by omega⟩ ⟨by omega, by omega⟩ ⟨by omega, by omega⟩)).mono ?_; rintro e w1 ⟨rfl, hj, hk⟩
      clear D0 D1 D2
      have XD := Lib.hid (hk _ _ XD.out)
      have HK := Lib.hid (HK.out.trans hk)
      have hJ0 := Lib.hid hj
      clear hk hj
      have D0 : w1.cell? ⟨W.heap.size, 0, none⟩ = some (.int .i64 4) := block_cell XD.out 0
      have D1 : w1.cell? ⟨W.heap.size, 1, none⟩ = some (.int .i64 n) := block_cell XD.out 1
      have D2 : w1.cell? ⟨W.heap.size, 2, none⟩ = some (.slice a m cap) := block_cell XD.out 2
      go_wp2_with fail
      go_loopw [52] (fun i wr => ∃ j : Nat, j ≤ m ∧ i = .int .i64 j ∧ Hid (J (pre ++ own ++ Tr.namesL (t.kids.take j) dir) wr) ∧ Hid (KeepsD W wr)) (fun i _ => m - (intOf i).toNat)
      case atStart => exact ⟨0, Nat.zero_le _, rfl, by unfold Hid; rw [← hown.out]; simpa [Tr.namesL] using hJ0.out, HK.out⟩
      case round =>
        obtain ⟨j, hj, rfl, HJ0, HK0⟩ := hrel
        by_cases hlt : j < m
        · obtain ⟨b, off, k', n', a', m', c', rfl, hbl, h0, h1, h2, hcall⟩ := IHK.out j hlt wr HJ0.out
          have HCALL := Lib.hid hcall
          have i0 : (0 : Int) ≤ (j : Int) := by omega
          have i1 : (j : Int) < (m : Int) := by omega
          clear hcall
          go_wp2_with fail
          refine (HCALL.out _ ((Below.refl _ _).alloc (Nat.le_refl _) _)).mono ?_; rintro e w2 ⟨rfl, hj2, hk2⟩
          have HJ2 := Lib.hid hj2
          have HK2 := Lib.hid (HK0.out.trans ((KeepsD.of_below ((Below.refl _ _).alloc (Nat.le_refl _) _)).trans hk2))
          clear hj2 hk2 h0 h1 h2
          go_wp2_with fail
          go_roundw
          case rel => exact ⟨j + 1, by omega, by go_num, HJ2.out, HK2.out⟩
          case measure => simp [intOf]; omega
        · obtain rfl : j = m := by omega
          have HF : Hid (J (pre ++ (own ++ Tr.namesL t.kids dir)) wr) := by unfold Hid; rw [← HEND.out, ← List.append_assoc]; exact HJ0.out
          clear HJ0
          go_wp2_with fail
          go_end0
          exact ⟨rfl, HF.out, HK0.out⟩
    · skip
      have hown : [] = own := by rw [← hown]; simp [nmOwn]
      obtain rfl : dir = D := by rw [← hD]; simp [nmBelow]
      clear hk0 fk0
      have hown := Lib.hid hown
      have D0 : W0.cell? ⟨W.heap.size, 0, none⟩ = some (.int .i64 5) := block_cell XD.out 0
      have D1 : W0.cell? ⟨W.heap.size, 1, none⟩ = some (.int .i64 n) := block_cell XD.out 1
      have D2 : W0.cell? ⟨W.heap.size, 2, none⟩ = some (.slice a m cap) := block_cell XD.out 2
      go_enter Tryz.func77, Tryz.ntmps77
      go_wp2_with fail
      rw [HW0.out]
      go_loopw [52] (fun i wr => ∃ j : Nat, j ≤ m ∧ i = .int .i64 j ∧ Hid (J (pre ++ own ++ Tr.namesL (t.kids.take j) dir) wr) ∧ Hid (KeepsD W wr)) (fun i _ => m - (intOf i).toNat)
      case atStart => exact ⟨0, Nat.zero_le _, rfl, by unfold Hid; rw [← hown.out]; simpa [Tr.namesL] using hJ0.out, HK.out⟩
      case round =>
        obtain ⟨j, hj, rfl, HJ0, HK0⟩ := hrel
        by_cases hlt : j < m
        · obtain ⟨b, off, k', n', a', m', c', rfl, hbl, h0, h1, h2, hcall⟩ := IHK.out j hlt wr HJ0.out
          have HCALL := Lib.hid hcall
          have i0 : (0 : Int) ≤ (j : Int) := by omega
          have i1 : (j : Int) < (m : Int) := by omega
          clear hcall
          go_wp2_with fail
          refine (HCALL.out _ ((Below.refl _ _).alloc (Nat.le_refl _) _)).mono ?_; rintro e w2 ⟨rfl, hj2, hk2⟩
          have HJ2 := Lib.hid hj2
          have HK2 := Lib.hid (HK0.out.trans ((KeepsD.of_below ((Below.refl _ _).alloc (Nat.le_refl _) _)).trans hk2))
          clear hj2 hk2 h0 h1 h2
          go_wp2_with fail
          go_roundw
          case rel => exact ⟨j + 1, by omega, by go_num, HJ2.out, HK2.out⟩
          case measure => simp [intOf]; omega
        · obtain rfl : j = m := by omega
          have HF : Hid (J (pre ++ (own ++ Tr.namesL t.kids dir)) wr) := by unfold Hid; rw [← HEND.out, ← List.append_assoc]; exact HJ0.out
          clear HJ0
          go_wp2_with fail
          go_end0
          exact ⟨rfl, HF.out, HK0.out⟩
    · skip
      have hown : [(3, n, 0, dir)] = own := by rw [← hown]; simp [nmOwn]
      obtain rfl : D = 0 := by rw [← hD]; simp [nmBelow]
      clear hk0 fk0
      have hown := Lib.hid hown
      have D0 : W0.cell? ⟨W.heap.size, 0, none⟩ = some (.int .i64 6) := block_cell XD.out 0
      have D1 : W0.cell? ⟨W.heap.size, 1, none⟩ = some (.int .i64 n) := block_cell XD.out 1
      have D2 : W0.cell? ⟨W.heap.size, 2, none⟩ = some (.slice a m cap) := block_cell XD.out 2
      go_enter Tryz.func77, Tryz.ntmps77
      go_wp2_with fail
      rw [HW0.out]
      refine (CT.out pre _ _ _ _ _ hJ0.out (by first | omega | (simp; omega)) (nmOk_mk ⟨by omega, by omega⟩ ⟨by omega, by omega⟩ ⟨by omega, by omega⟩ ⟨by omega, by omega⟩)).mono ?_; rintro e w1 ⟨rfl, hj, hk⟩
      clear D0 D1 D2
      have XD := Lib.hid (hk _ _ XD.out)
      have HK := Lib.hid (HK.out.trans hk)
      have hJ0 := Lib.hid hj
      clear hk hj
      have D0 : w1.cell? ⟨W.heap.size, 0, none⟩ = some (.int .i64 6) := block_cell XD.out 0
      have D1 : w1.cell? ⟨W.heap.size, 1, none⟩ = some (.int .i64 n) := block_cell XD.out 1
      have D2 : w1.cell? ⟨W.heap.size, 2, none⟩ = some (.slice a m cap) := block_cell XD.out 2
      go_wp2_with fail
      go_loopw [52] (fun i wr => ∃ j : Nat, j ≤ m ∧ i = .int .i64 j ∧ Hid (J (pre ++ own ++ Tr.namesL (t.kids.take j) 0) wr) ∧ Hid (KeepsD W wr)) (fun i _ => m - (intOf i).toNat)
      case atStart => exact ⟨0, Nat.zero_le _, rfl, by unfold Hid; rw [← hown.out]; simpa [Tr.namesL] using hJ0.out, HK.out⟩
      case round =>
        obtain ⟨j, hj, rfl, HJ0, HK0⟩ := hrel
        by_cases hlt : j < m
        · obtain ⟨b, off, k', n', a', m', c', rfl, hbl, h0, h1, h2, hcall⟩ := IHK.out j hlt wr HJ0.out
          have HCALL := Lib.hid hcall
          have i0 : (0 : Int) ≤ (j : Int) := by omega
          have i1 : (j : Int) < (m : Int) := by omega
          clear hcall
          go_wp2_with fail
          refine (HCALL.out _ ((Below.refl _ _).alloc (Nat.le_refl _) _)).mono ?_; rintro e w2 ⟨rfl, hj2, hk2⟩
          have HJ2 := Lib.hid hj2
          have HK2 := Lib.hid (HK0.out.trans ((KeepsD.of_below ((Below.refl _ _).alloc (Nat.le_refl _) _)).trans hk2))
          clear hj2 hk2 h0 h1 h2
          go_wp2_with fail
          go_roundw
          case rel => exact ⟨j + 1, by omega, by go_num, HJ2.out, HK2.out⟩
          case measure => simp [intOf]; omega
        · obtain rfl : j = m := by omega
          have HF : Hid (J (pre ++ (own ++ Tr.namesL t.kids 0)) wr) := by unfold Hid; rw [← HEND.out, ← List.append_assoc]; exact HJ0.out
          clear HJ0
          go_wp2_with fail
          go_end0
          exact ⟨rfl, HF.out, HK0.out⟩
    · skip
      have hown : [(2, n, 0, dir), (4, n, K0, dir)] = own := by rw [← hown]; simp [nmOwn]
      obtain rfl : D = 0 := by rw [← hD]; simp [nmBelow]
      obtain ⟨b0, o0, rfl, hkz⟩ := hk0 rfl
      have HK0N := Lib.hid hkz
      have fk := fk0.resolve_right (by simp)
      clear hk0 hkz fk0
      have hm0 : 0 < m := HM7.out rfl
      have hown := Lib.hid hown
      have D0 : W0.cell? ⟨W.heap.size, 0, none⟩ = some (.int .i64 7) := block_cell XD.out 0
      have D1 : W0.cell? ⟨W.heap.size, 1, none⟩ = some (.int .i64 n) := block_cell XD.out 1
      have D2 : W0.cell? ⟨W.heap.size, 2, none⟩ = some (.slice (some ⟨b0, o0, none⟩) m cap) := block_cell XD.out 2
      go_enter Tryz.func77, Tryz.ntmps77
      go_wp2_with fail
      rw [HW0.out]
      refine (CT.out pre _ _ _ _ _ hJ0.out (by first | omega | (simp; omega)) (nmOk_mk ⟨by omega, by omega⟩ ⟨by omega, by omega⟩ ⟨by omega, by omega⟩ ⟨by omega, by omega⟩)).mono ?_; rintro e w1 ⟨rfl, hj, hk⟩
      clear D0 D1 D2
      have XD := Lib.hid (hk _ _ XD.out)
      have HK := Lib.hid (HK.out.trans hk)
      have hJ0 := Lib.hid hj
      clear hk hj
      have D0 : w1.cell? ⟨W.heap.size, 0, none⟩ = some (.int .i64 7) := block_cell XD.out 0
      have D1 : w1.cell? ⟨W.heap.size, 1, none⟩ = some (.int .i64 n) := block_cell XD.out 1
      have D2 : w1.cell? ⟨W.heap.size, 2, none⟩ = some (.slice (some ⟨b0, o0, none⟩) m cap) := block_cell XD.out 2
      go_wp2_with fail
      have hbd := (Below.refl w1.heap.size w1).drew
      have n0 := HK0N.out _ _ hJ0.out
      go_still_tail 10, (by kernel_rfl)
      change wpList _ _ _ _ _ w1.drew
      have hJ0 := Lib.hid (HL.out _ _ _ hJ0.out hbd)
      have HK := Lib.hid (HK.out.trans (KeepsD.of_below hbd))
      have XD := Lib.hid ((KeepsD.of_below hbd) _ _ XD.out)
      clear n0 D0 D1 D2
      obtain ⟨w2, hw2⟩ : ∃ w2, w1.drew = w2 := ⟨_, rfl⟩
      rw [hw2] at hJ0 HK XD ⊢
      clear hw2 hbd
      have D0 : w2.cell? ⟨W.heap.size, 0, none⟩ = some (.int .i64 7) := block_cell XD.out 0
      have D1 : w2.cell? ⟨W.heap.size, 1, none⟩ = some (.int .i64 n) := block_cell XD.out 1
      have D2 : w2.cell? ⟨W.heap.size, 2, none⟩ = some (.slice (some ⟨b0, o0, none⟩) m cap) := block_cell XD.out 2
      go_wp2_with fail
      refine (CT.out (pre ++ [(2, n, 0, _)]) _ _ _ _ _ hJ0.out (by first | omega | (simp; omega)) (nmOk_mk ⟨by omega, by omega⟩ ⟨by omega, by omega⟩ ⟨by omega, by omega⟩ ⟨by omega, by omega⟩)).mono ?_; rintro e w3 ⟨rfl, hj, hk⟩
      clear D0 D1 D2
      have XD := Lib.hid (hk _ _ XD.out)
      have HK := Lib.hid (HK.out.trans hk)
      have hJ0 := Lib.hid hj
      clear hk hj
      have D0 : w3.cell? ⟨W.heap.size, 0, none⟩ = some (.int .i64 7) := block_cell XD.out 0
      have D1 : w3.cell? ⟨W.heap.size, 1, none⟩ = some (.int .i64 n) := block_cell XD.out 1
      have D2 : w3.cell? ⟨W.heap.size, 2, none⟩ = some (.slice (some ⟨b0, o0, none⟩) m cap) := block_cell XD.out 2
      go_wp2_with fail
      go_loopw [52] (fun i wr => ∃ j : Nat, j ≤ m ∧ i = .int .i64 j ∧ Hid (J (pre ++ own ++ Tr.namesL (t.kids.take j) 0) wr) ∧ Hid (KeepsD W wr)) (fun i _ => m - (intOf i).toNat)
      case atStart => exact ⟨0, Nat.zero_le _, rfl, by unfold Hid; rw [← hown.out]; simpa [Tr.namesL] using hJ0.out, HK.out⟩
      case round =>
        obtain ⟨j, hj, rfl, HJ0, HK0⟩ := hrel
        by_cases hlt : j < m
        · obtain ⟨b, off, k', n', a', m', c', hab, hbl, h0, h1, h2, hcall⟩ := IHK.out j hlt wr HJ0.out
          simp only [Option.some.injEq, Addr.mk.injEq, and_true] at hab
          obtain ⟨rfl, rfl⟩ := hab
          have HCALL := Lib.hid hcall
          have i0 : (0 : Int) ≤ (j : Int) := by omega
          have i1 : (j : Int) < (m : Int) := by omega
          clear hcall
          go_wp2_with fail
          refine (HCALL.out _ ((Below.refl _ _).alloc (Nat.le_refl _) _)).mono ?_; rintro e w2 ⟨rfl, hj2, hk2⟩
          have HJ2 := Lib.hid hj2
          have HK2 := Lib.hid (HK0.out.trans ((KeepsD.of_below ((Below.refl _ _).alloc (Nat.le_refl _) _)).trans hk2))
          clear hj2 hk2 h0 h1 h2
          go_wp2_with fail
          go_roundw
          case rel => exact ⟨j + 1, by omega, by go_num, HJ2.out, HK2.out⟩
          case measure => simp [intOf]; omega
        · obtain rfl : j = m := by omega
          have HF : Hid (J (pre ++ (own ++ Tr.namesL t.kids 0)) wr) := by unfold Hid; rw [← HEND.out, ← List.append_assoc]; exact HJ0.out
          clear HJ0
          go_wp2_with fail
          go_end0
          exact ⟨rfl, HF.out, HK0.out⟩
end Go.Proofs.YtcckfeikaolfgaaGreat

namespace Go.Proofs.YtcckfeikaolfgaaGreat
open Go.RowKit
set_option linter.unusedVariables false
set_option linter.unusedSimpArgs false
set_option maxRecDepth 100000
set_option maxRecDepth 20000
/-- What holds when some names have been told to the one who counts. -/
def CountJ (w0 : World) (bt bn : Nat) (t : Nm) (pre : List Nm) (W : World) : Prop :=
  Below w0.heap.size w0 W ∧ W.heap[bt]? = some (.cells #[.int .i64 t.1, .int .i64 t.2.1, .int .i64 t.2.2.1, .int .i64 t.2.2.2] 44 (0, 0)) ∧ W.heap[bn]? = some (.cells #[.int .i64 (pre.count t : Nat)] 3 (0, 0))
theorem CountJ.later {w0 : World} {bt bn : Nat} {t : Nm} {pre : List Nm} {W W' : World} (h : CountJ w0 bt bn t pre W) (hb : Below W.heap.size W W') : CountJ w0 bt bn t pre W' :=
  ⟨h.1.trans (hb.mono h.1.size), (hb.block _ (block_lt h.2.1)).trans h.2.1, (hb.block _ (block_lt h.2.2)).trans h.2.2⟩
theorem need_check (t : Tr) (k n : Int) (a : Option Addr) (m cap : Nat) (dir : Int) (w : World) (F : Nat → Prop) (hs : t.size ≤ 4194304) (hT : IsT w F k n a m cap t) :
    Calls Tryz.prog 76 #[.agg #[.int .i64 k, .int .i64 n, .slice a m cap], .int .i64 dir] w fun e w' => e = .returned (.int .i64 (if dir ≠ 0 ∧ dir ≠ 1 then 2 else chk t)) ∧ Below w.heap.size w w' := by
  by_cases hd : dir ≠ 0 ∧ dir ≠ 1
  · rw [if_pos hd]
    have t0 : (dir != 0) = true := bdiff hd.1
    have t1 : (dir != 1) = true := bdiff hd.2
    clear hd hT
    go_enter Tryz.func76, Tryz.ntmps76
    go_wp2_with fail
    go_ret
    exact ⟨rfl, (Below.refl _ _).alloc (Nat.le_refl _) _⟩
  · rw [if_neg hd]
    have CC : Hid (∀ W, Below w.heap.size w W → Calls Tryz.prog 98 #[.agg #[.int .i64 k, .int .i64 n, .slice a m cap]] W fun e w' => e = .returned (.int .i64 (chk t)) ∧ Below W.heap.size W w') := fun W hb => valid_Check t k n a m cap W F hs (hT.below hb)
    rcases (show dir = 0 ∨ dir = 1 by omega) with rfl | rfl
    all_goals
      clear hd hT
      go_enter Tryz.func76, Tryz.ntmps76
      go_wp2_with fail
      refine (CC.out _ ((Below.refl _ _).alloc (Nat.le_refl _) _)).mono ?_; rintro e w1 ⟨rfl, hb⟩
      have hb1 := chainA (Below.refl w.heap.size w) hb
      clear hb
      go_wp2_with fail
      go_ret
      exact ⟨rfl, hb1⟩
/-- The names of a tree in a direction, if it may be asked. -/
def namesB (t : Tr) (dir : Int) : List Nm := if (dir ≠ 0 ∧ dir ≠ 1) ∨ chk t ≠ 0 then [] else t.names dir
end Go.Proofs.YtcckfeikaolfgaaGreat

namespace Go.Proofs.YtcckfeikaolfgaaGreat
open Go.RowKit
set_option linter.unusedVariables false
set_option linter.unusedSimpArgs false
set_option maxRecDepth 100000
set_option maxRecDepth 20000
theorem info_name : (Tryz.prog.info? 44).map (fun i => (i.zero, i.size, i.bytes)) = some (some (.agg #[.int .i64 0, .int .i64 0, .int .i64 0, .int .i64 0]), 4, 32) := by kernel_rfl
theorem cell_four_new (w : World) (x y z u : Value) (t : TypeId) : ∀ j v, [x, y, z, u][j]? = some v → (w.alloc (.cells #[x, y, z, u] t)).cell? ((⟨w.heap.size, 0, none⟩ : Addr).add j) = some v := by
  intro j v hj
  match j, hj with
  | 0, hj => simp at hj; subst hj; simp [Addr.add]
  | 1, hj => simp at hj; subst hj; simp [Addr.add]
  | 2, hj => simp at hj; subst hj; simp [Addr.add]
  | 3, hj => simp at hj; subst hj; simp [Addr.add]
theorem one_four (x y z u : Int) : ∀ v ∈ [Value.int .i64 x, Value.int .i64 y, Value.int .i64 z, Value.int .i64 u], v.oneCell' = true := by
  intro v hv
  simp at hv
  rcases hv with rfl | rfl | rfl | rfl <;> rfl
/-- The cells of some names. -/
def cellsN (xs : List Nm) : List Value := xs.flatMap fun x => [.int .i64 x.1, .int .i64 x.2.1, .int .i64 x.2.2.1, .int .i64 x.2.2.2]
theorem cellsN_append (xs ys : List Nm) : cellsN (xs ++ ys) = cellsN xs ++ cellsN ys := by simp [cellsN]
/-- What holds when some names have been told to the one who collects. -/
structure TabJ (w0 : World) (bs bm bl B1 : Nat) (pre : List Nm) (W : World) : Prop where
  below : Below w0.heap.size w0 W
  cellS : W.heap[bs]? = some (.cells #[.map (some bm)] 92 (0, 0))
  map : W.heap[bm]? = some (mapObj (cntL pre))
  row : ∃ v, W.heap[bl]? = some (.cells #[v] 40 (0, 0)) ∧ W.ownsRow B1 44 4 v (once pre).length (cellsN (once pre))
  size : B1 ≤ W.heap.size
theorem TabJ.later {w0 : World} {bs bm bl B1 : Nat} {pre : List Nm} {W W' : World} (h : TabJ w0 bs bm bl B1 pre W) (hb : Below W.heap.size W W') : TabJ w0 bs bm bl B1 pre W' := by
  obtain ⟨h1, h2, h3, ⟨v, h4, h5⟩, h6⟩ := h
  exact ⟨h1.trans (hb.mono h1.size), (hb.block _ (block_lt h2)).trans h2, (hb.block _ (block_lt h3)).trans h3, ⟨v, (hb.block _ (block_lt h4)).trans h4, own_later3 h5 hb⟩, Nat.le_trans h6 hb.size⟩
theorem zero_int (W : World) : (zeroValue 3).run Tryz.prog W = .ok (.int .i64 0) W := by kernel_rfl
set_option maxHeartbeats 2000000 in
/-- One more name in the map: what the operations do. -/
theorem map_more {bm : Nat} {pre : List Nm} {V : World} (x : Nm) (hm : V.heap[bm]? = some (mapObj (cntL pre))) :
    ∃ (st : Nat) (V2 : World), (Instr.lookup 92 (.map (some bm)) (nv x) false).run Tryz.prog V = .ok (.int .i64 (pre.count x : Nat)) V ∧
      (Instr.mapEntry 92 (.map (some bm)) (nv x)).run Tryz.prog V = .ok (.tuple #[.int .i64 (pre.count x : Nat), goInt st]) V2 ∧
      (Instr.lookup 92 (.map (some bm)) (nv x) false).run Tryz.prog V2 = .ok (.int .i64 (pre.count x : Nat)) V2 ∧
      (Instr.entryStore 92 (.map (some bm)) (goInt st) (.int .i64 ((pre.count x : Nat) + 1))).run Tryz.prog V2 = .ok () (V2.putObj bm (mapObj (cntL (pre ++ [x])))) ∧
      (Instr.lookup 92 (.map (some bm)) (nv x) false).run Tryz.prog (V2.putObj bm (mapObj (cntL (pre ++ [x])))) = .ok (.int .i64 ((pre.count x : Nat) + 1)) (V2.putObj bm (mapObj (cntL (pre ++ [x])))) ∧
      (∀ b, b ≠ bm → V2.heap[b]? = V.heap[b]?) ∧ V2.heap.size = V.heap.size ∧ Below bm V V2 ∧ V2.putObj bm (mapObj (cntL (pre ++ [x]))) = V.putObj bm (mapObj (cntL (pre ++ [x]))) := by
  have hM := Tryz.underlying92
  have hlt := block_lt hm
  have hkx : isNv (nv x) := ⟨x, rfl⟩
  have hput : ∀ (V2 : World) (o : Obj), (V2.putObj bm o).heap[bm]? = if bm < V2.heap.size then some o else none := fun V2 o => by
    split
    · rename_i h; exact World.putObj_heap_same h
    · rename_i h; rw [Array.getElem?_eq_none]; simp; omega
  by_cases hx : x ∈ pre
  · obtain ⟨j, hj1, hj2, hj3⟩ := cntL_yes hx
    have hjl : j < (cntL pre).length := by rw [cntL_len]; exact hj1
    refine ⟨j, V, ?_, ?_, ?_, ?_, ?_, fun b hb => rfl, rfl, Below.refl _ _, rfl⟩
    · simpa using name_keys.lookup_yes hM hm (cntL_keys pre) hkx (cntL_nodup pre) hj3 false
    · have := name_keys.entry_yes hM hm (cntL_keys pre) hkx (cntL_nodup pre) hj3
      rwa [put_same V bm _ hm] at this
    · simpa using name_keys.lookup_yes hM hm (cntL_keys pre) hkx (cntL_nodup pre) hj3 false
    · have := run_entryStore (P := Tryz.prog) (M := 92) hm j hjl (.int .i64 ((pre.count x : Nat) + 1))
      rwa [← cntL_more hx hj2] at this
    · have hx2 : x ∈ pre ++ [x] := by simp
      obtain ⟨i, hi1, hi2, hi3⟩ := cntL_yes hx2
      have := name_keys.lookup_yes (b := bm) hM (show (V.putObj bm (mapObj (cntL (pre ++ [x])))).heap[bm]? = _ by rw [hput, if_pos hlt]) (cntL_keys _) hkx (cntL_nodup _) hi3 false
      simpa [List.count_append] using this
  · have hc : pre.count x = 0 := List.count_eq_zero.2 hx
    rw [hc]
    have hl2 : (V.putObj bm (mapObj (cntL pre ++ [(nv x, .int .i64 0)]))).heap[bm]? = some (mapObj (cntL pre ++ [(nv x, .int .i64 0)])) := by rw [hput, if_pos hlt]
    have hk2 : ∀ p ∈ cntL pre ++ [(nv x, Value.int .i64 0)], isNv p.1 := fun p hp => by
      rcases List.mem_append.1 hp with h | h
      · exact cntL_keys pre p h
      · simp only [List.mem_singleton] at h; subst h; exact hkx
    have hn2 : ((cntL pre ++ [(nv x, Value.int .i64 0)]).map (·.1)).Nodup := by
      have := cntL_nodup (pre ++ [x])
      rw [cntL_new hx] at this
      simpa using this
    have hpp : (V.putObj bm (mapObj (cntL pre ++ [(nv x, .int .i64 0)]))).putObj bm (mapObj (cntL (pre ++ [x]))) = V.putObj bm (mapObj (cntL (pre ++ [x]))) := by
      simp [World.putObj]
    have hoth : ∀ b, b ≠ bm → (V.putObj bm (mapObj (cntL pre ++ [(nv x, .int .i64 0)]))).heap[b]? = V.heap[b]? := fun b hb => World.putObj_heap_other hb
    have hsz : (V.putObj bm (mapObj (cntL pre ++ [(nv x, .int .i64 0)]))).heap.size = V.heap.size := World.putObj_size
    have hbl : Below bm V (V.putObj bm (mapObj (cntL pre ++ [(nv x, .int .i64 0)]))) := put_below (Below.refl bm V) bm (Nat.le_refl _) _
    have hzz : (((0 : Nat) : Int) + 1) = 1 := by omega
    refine ⟨(cntL pre).length, V.putObj bm (mapObj (cntL pre ++ [(nv x, .int .i64 0)])), ?_, ?_, ?_, ?_, ?_, hoth, hsz, hbl, hpp⟩
    · simpa using name_keys.lookup_no hM hm (cntL_keys pre) hkx zero_int (cntL_no hx) false
    · exact name_keys.entry_no hM hm (cntL_keys pre) hkx zero_int (cntL_no hx)
    · simpa using name_keys.lookup_yes (j := (cntL pre).length) hM hl2 hk2 hkx hn2 (by simp) false
    · have := run_entryStore (P := Tryz.prog) (M := 92) hl2 (cntL pre).length (by simp) (.int .i64 1)
      rw [show (cntL pre ++ [(nv x, Value.int .i64 0)]).modify (cntL pre).length (fun p => (p.1, Value.int .i64 1)) = cntL (pre ++ [x]) by
        rw [cntL_new hx]
        refine List.ext_getElem? fun i => ?_
        rw [List.getElem?_modify]
        by_cases hi : (cntL pre).length = i
        · subst hi; simp
        · simp only [hi, if_false, Option.map_id']
          rcases Nat.lt_or_ge i (cntL pre).length with h | h
          · rw [List.getElem?_append_left h, List.getElem?_append_left h]; simp
          · rw [List.getElem?_eq_none (by simp; omega), List.getElem?_eq_none (by simp; omega)]; rfl] at this
      simpa using this
    · have hx2 : x ∈ pre ++ [x] := by simp
      obtain ⟨i, hi1, hi2, hi3⟩ := cntL_yes hx2
      have := name_keys.lookup_yes (b := bm) hM (show ((V.putObj bm (mapObj (cntL pre ++ [(nv x, .int .i64 0)]))).putObj bm (mapObj (cntL (pre ++ [x])))).heap[bm]? = _ by rw [hput, if_pos (by simpa using hlt)]) (cntL_keys _) hkx (cntL_nodup _) hi3 false
      simpa [List.count_append, hc] using this
theorem own_type {w : World} {B : Nat} {e T : TypeId} {s : Nat} {v : Value} {n b : Nat} {xs : List Value} {cs : Array Value} (h : w.ownsRow B e s v n xs) (hb : w.heap[b]? = some (.cells cs T (0, 0))) (hne : e ≠ T) : v.ownBlock ≠ some b := by
  rcases h.2 with ⟨rfl, _⟩ | ⟨g, cap, cur, rfl, _, hg, _⟩
  · intro e1; cases e1
  · intro e1
    simp only [Value.ownBlock, Option.some.injEq] at e1
    subst e1
    rw [hg] at hb
    simp only [Option.some.injEq, Obj.cells.injEq] at hb
    exact hne hb.2.1
/-- Behind a name that was there already. -/
theorem tab_old {w0 : World} {bs bm bl B1 : Nat} {pre : List Nm} {x : Nm} {W W3 : World} (hJ : TabJ w0 bs bm bl B1 pre W) (hx : x ∈ pre) (hbm : w0.heap.size ≤ bm) (hm1 : bm < B1) (hs : W.heap.size ≤ W3.heap.size) (hos : W3.os = W.os) (htp : W3.tape = W.tape) (hop : W3.output = W.output)
    (h3 : ∀ b, b < W.heap.size → b ≠ bm → W3.heap[b]? = W.heap[b]?) (hm : W3.heap[bm]? = some (mapObj (cntL (pre ++ [x])))) : TabJ w0 bs bm bl B1 (pre ++ [x]) W3 := by
  obtain ⟨h1, h2, h4, ⟨v, h5, h6⟩, h7⟩ := hJ
  have hbs := block_lt h2
  have hbl := block_lt h5
  have n1 : bs ≠ bm := fun e => by rw [e, h4] at h2; cases h2
  have n2 : bl ≠ bm := fun e => by rw [e, h4] at h5; cases h5
  have ho : once (pre ++ [x]) = once pre := by rw [once_snoc, if_pos ((mem_once _ _).2 hx)]
  have hg : W.grownBy W3 (some bm) := ⟨hos, htp, hop, hs, fun b hb hne => h3 b hb (fun e => hne (by rw [e]))⟩
  refine ⟨h1.grown hg h1.size (fun k hk => by cases hk; exact hbm), (h3 _ hbs n1).trans h2, hm, ⟨v, (h3 _ hbl n2).trans h5, ?_⟩, Nat.le_trans h7 hs⟩
  rw [ho]
  exact h6.kept hg (.inr fun e => by have := (h6.lt bm e).1; omega)
set_option maxHeartbeats 4000000 in
theorem tab_call (w0 : World) (bs bm bl B1 : Nat) (h0m : w0.heap.size ≤ bm) (h0l : w0.heap.size ≤ bl) (hmB : bm < B1) (hlB : bl < B1) (hsB : bs < B1) (hB0 : w0.heap.size ≤ B1) (pre : List Nm) (k n m d : Int) (W : World) (hJ : TabJ w0 bs bm bl B1 pre W) (hl : pre.length < 1048576) :
    Calls Tryz.prog 78 #[.agg #[.int .i64 k, .int .i64 n, .int .i64 m, .int .i64 d], .pointer (some ⟨bs, 0, none⟩), .pointer (some ⟨bl, 0, none⟩)] W fun e W' => e = .returned (.tuple #[]) ∧ TabJ w0 bs bm bl B1 (pre ++ [(k, n, m, d)]) W' ∧ KeepsD W W' := by
  obtain ⟨i0, hi, hz0, hz1, hz2⟩ := info_parts info_name
  have hbs := block_lt hJ.cellS
  have hbm := block_lt hJ.map
  obtain ⟨v, hv, hown⟩ := hJ.row
  have hbl := block_lt hv
  have n1 : bs ≠ bm := fun e => by have := hJ.cellS; rw [e, hJ.map] at this; cases this
  have n2 : bl ≠ bm := fun e => by rw [e, hJ.map] at hv; cases hv
  have n3 : bs ≠ bl := fun e => by have := hJ.cellS; rw [e, hv] at this; simp at this
  obtain ⟨W0, hW0, hb0, x0⟩ := box_any W #[.int .i64 k, .int .i64 n, .int .i64 m, .int .i64 d] 44
  have hJ0 := hJ.later hb0
  have hmap : W0.drew.heap[bm]? = some (mapObj (cntL pre)) := hJ0.map
  obtain ⟨st, V2, r1, r2, r3, r4, r5, q1, q2, q3, q4⟩ := map_more (k, n, m, d) hmap
  simp only [nv, goInt] at r1 r2 r3 r4 r5
  obtain ⟨V3, hV3⟩ : ∃ V3, V2.putObj bm (mapObj (cntL (pre ++ [(k, n, m, d)]))) = V3 := ⟨_, rfl⟩
  rw [hV3] at r4 r5 q4
  have hc1 : pre.count (k, n, m, d) ≤ pre.length := List.count_le_length
  have hcn : Hid (pre.count (k, n, m, d) = 0 ↔ (k, n, m, d) ∉ pre) := List.count_eq_zero
  obtain ⟨c, hc⟩ : ∃ c : Int, ((pre.count (k, n, m, d) : Nat) : Int) = c := ⟨_, rfl⟩
  have hc2 : 0 ≤ c := by omega
  have hc3 : c ≤ 1048576 := by omega
  have HCN : Hid (c = 0 ↔ (k, n, m, d) ∉ pre) := by
    unfold Hid
    rw [← hcn.out]; omega
  rw [hc] at r1 r2 r3 r4 r5
  have wc : IntKind.i64.wrap (c + 1) = c + 1 := IntWalk.i64_in _ (by omega)
  have hW3m : V3.heap[bm]? = some (mapObj (cntL (pre ++ [(k, n, m, d)]))) := by rw [q4]; exact World.putObj_heap_same (by show bm < W0.drew.heap.size; exact Nat.lt_of_lt_of_le hbm hb0.size)
  have hW3o : ∀ b, b ≠ bm → V3.heap[b]? = W0.heap[b]? := fun b hb => by rw [q4]; exact World.putObj_heap_other hb
  have hW3s : V3.heap.size = W0.heap.size := by rw [q4]; exact World.putObj_size
  have hW3e : V3.os = W0.os ∧ V3.tape = W0.tape ∧ V3.output = W0.output := by rw [q4]; exact ⟨rfl, rfl, rfl⟩
  have hxl := block_lt x0
  have nx : W.heap.size ≠ bm := by omega
  have s0 := (hb0.block bs hbs).trans hJ.cellS
  have S0 : W0.cell? ⟨bs, 0, none⟩ = some (.map (some bm)) := block_cell s0 0
  have X0 : W0.cell? ⟨W.heap.size, 0, none⟩ = some (.int .i64 k) := block_cell x0 0
  have X1 : W0.cell? ⟨W.heap.size, 1, none⟩ = some (.int .i64 n) := block_cell x0 1
  have X2 : W0.cell? ⟨W.heap.size, 2, none⟩ = some (.int .i64 m) := block_cell x0 2
  have X3 : W0.cell? ⟨W.heap.size, 3, none⟩ = some (.int .i64 d) := block_cell x0 3
  have f2 : ∀ b o, b ≠ bm → V2.cell? ⟨b, o, none⟩ = W0.cell? ⟨b, o, none⟩ := fun b o hb => World.cell?_of_block (q1 b hb)
  have f3 : ∀ b o, b ≠ bm → V3.cell? ⟨b, o, none⟩ = W0.cell? ⟨b, o, none⟩ := fun b o hb => World.cell?_of_block (hW3o b hb)
  have S2 := (f2 bs 0 n1).trans S0
  have Y0 := (f2 W.heap.size 0 nx).trans X0
  have Y1 := (f2 W.heap.size 1 nx).trans X1
  have Y2 := (f2 W.heap.size 2 nx).trans X2
  have Y3 := (f2 W.heap.size 3 nx).trans X3
  have S3 := (f3 bs 0 n1).trans S0
  have Z0 := (f3 W.heap.size 0 nx).trans X0
  have Z1 := (f3 W.heap.size 1 nx).trans X1
  have Z2 := (f3 W.heap.size 2 nx).trans X2
  have Z3 := (f3 W.heap.size 3 nx).trans X3
  have hvb := (hb0.block bl hbl).trans hv
  have L3 : V3.cell? ⟨bl, 0, none⟩ = some v := (f3 bl 0 n2).trans (block_cell hvb 0)
  have HVB : Hid (V3.heap[bl]? = some (.cells #[v] 40 (0, 0))) := (hW3o bl n2).trans hvb
  have HSB : Hid (V3.heap[bs]? = some (.cells #[.map (some bm)] 92 (0, 0))) := (hW3o bs n1).trans s0
  have HJ := Lib.hid hJ
  have HW0 := Lib.hid hW0
  have hlz : bl ≠ W.heap.size := by omega
  have HK3 : Hid (KeepsD W V3) := fun b cs hx => by
    have hbb := block_lt hx
    have hne : b ≠ bm := fun e => by rw [e, hJ.map] at hx; cases hx
    exact (hW3o b hne).trans ((hb0.block b hbb).trans hx)
  have HM3 := Lib.hid hW3m
  have HO3 : Hid (∀ b, b < W.heap.size → b ≠ bm → V3.heap[b]? = W.heap[b]?) := fun b hb hne => (hW3o b hne).trans (hb0.block b hb)
  have HZ3 : Hid (W.heap.size ≤ V3.heap.size ∧ V3.os = W.os ∧ V3.tape = W.tape ∧ V3.output = W.output) := ⟨by rw [hW3s]; exact hb0.size, hW3e.1.trans hb0.os, hW3e.2.1.trans hb0.tape, hW3e.2.2.trans hb0.output⟩
  have hg3 : W.grownBy V3 (some bm) := ⟨HZ3.out.2.1, HZ3.out.2.2.1, HZ3.out.2.2.2, HZ3.out.1, fun b hb hne => HO3.out b hb (fun e => hne (by rw [e]))⟩
  have HOW3 : Hid (V3.ownsRow B1 44 4 v (once pre).length (cellsN (once pre))) := hown.kept hg3 (.inr fun e => by have := (hown.lt bm e).1; omega)
  have HB3 : Hid (Below w0.heap.size w0 V3) := hJ.below.grown hg3 hJ.below.size (fun k hk => by cases hk; exact h0m)
  have HSZ : Hid (B1 ≤ V3.heap.size) := Nat.le_trans hJ.size HZ3.out.1
  have LF : V3.frozen? ⟨bl, 0, none⟩ = false := block_free HVB.out 0
  have hol : (once pre).length ≤ 1048576 := by have := once_len pre; omega
  have hVl : W.heap.size < V3.heap.size := by rw [hW3s]; exact hxl
  have HONE : Hid ((k, n, m, d) ∉ pre → once (pre ++ [(k, n, m, d)]) = once pre ++ [(k, n, m, d)]) := fun h => by rw [once_snoc, if_neg (fun e => h ((mem_once _ _).1 e))]
  obtain ⟨D, hD⟩ : ∃ D, W0.drew = D := ⟨_, rfl⟩
  have HD := Lib.hid hD
  have SD : D.cell? ⟨bs, 0, none⟩ = some (.map (some bm)) := by rw [← hD]; exact S0
  have XD0 : D.cell? ⟨W.heap.size, 0, none⟩ = some (.int .i64 k) := by rw [← hD]; exact X0
  have XD1 : D.cell? ⟨W.heap.size, 1, none⟩ = some (.int .i64 n) := by rw [← hD]; exact X1
  have XD2 : D.cell? ⟨W.heap.size, 2, none⟩ = some (.int .i64 m) := by rw [← hD]; exact X2
  have XD3 : D.cell? ⟨W.heap.size, 3, none⟩ = some (.int .i64 d) := by rw [← hD]; exact X3
  clear hD hV3 q4 q1 q2 q3 hW3m hW3o hW3s hW3e s0 hvb hv hJ hJ0 hmap hown hg3 hc hc1 hcn f2 f3 hW0 hb0 x0
  by_cases hx : (k, n, m, d) ∈ pre
  · have hcne : c ≠ 0 := fun e => HCN.out.1 e hx
    have t1 : (c + 1 == 1) = false := bno (by omega)
    have HX := Lib.hid hx
    clear hx hcne
    go_enter Tryz.func78, Tryz.ntmps78
    go_wp2_with fail
    rw [HW0.out]
    go_region_held3 (fun w' => w'.cell? ⟨bs, 0, none⟩ = some (.map (some bm)) ∧ w'.cell? ⟨W.heap.size, 0, none⟩ = some (.int .i64 k) ∧ w'.cell? ⟨W.heap.size, 1, none⟩ = some (.int .i64 n) ∧ w'.cell? ⟨W.heap.size, 2, none⟩ = some (.int .i64 m) ∧ w'.cell? ⟨W.heap.size, 3, none⟩ = some (.int .i64 d)) (first | exact ⟨S0, X0, X1, X2, X3⟩ | exact ⟨S2, Y0, Y1, Y2, Y3⟩ | exact ⟨S3, Z0, Z1, Z2, Z3⟩) (fail)
    all_goals
      clear r1 r2 r3 r4 S0 X0 X1 X2 X3 S2 Y0 Y1 Y2 Y3
      go_wp2_with fail
      go_end0
      exact ⟨rfl, tab_old HJ.out HX.out h0m hmB HZ3.out.1 HZ3.out.2.1 HZ3.out.2.2.1 HZ3.out.2.2.2 HO3.out HM3.out, HK3.out⟩
  · have hc0 : c = 0 := HCN.out.2 hx
    have t1 : (c + 1 == 1) = true := btrue (by omega)
    have HX := Lib.hid hx
    have hone := HONE.out hx
    have HON := Lib.hid hone
    clear hx hc0 hone
    have LA : (V3.alloc (.cells #[.int .i64 k, .int .i64 n, .int .i64 m, .int .i64 d] 44)).frozen? ⟨bl, 0, none⟩ = false := (frozen_past V3 _ ⟨bl, 0, none⟩ (block_lt HVB.out)).trans LF
    go_enter Tryz.func78, Tryz.ntmps78
    go_wp2_with fail
    rw [HW0.out]
    go_region_held3 (fun w' => w'.cell? ⟨bs, 0, none⟩ = some (.map (some bm)) ∧ w'.cell? ⟨W.heap.size, 0, none⟩ = some (.int .i64 k) ∧ w'.cell? ⟨W.heap.size, 1, none⟩ = some (.int .i64 n) ∧ w'.cell? ⟨W.heap.size, 2, none⟩ = some (.int .i64 m) ∧ w'.cell? ⟨W.heap.size, 3, none⟩ = some (.int .i64 d)) (first | exact ⟨S0, X0, X1, X2, X3⟩ | exact ⟨S2, Y0, Y1, Y2, Y3⟩ | exact ⟨S3, Z0, Z1, Z2, Z3⟩) (fail)
    all_goals
      clear r1 r2 r3 r4 S0 X0 X1 X2 X3 S2 Y0 Y1 Y2 Y3
      go_wp2_with (at_builtin; refine wpList_append_own _ rfl _ _ 40 rfl B1 44 i0 (.agg #[.int .i64 0, .int .i64 0, .int .i64 0, .int .i64 0]) 4 32 Tryz.underlying40 hi hz0 hz1 hz2 rfl (by decide) _ (once pre).length (cellsN (once pre)) rfl (HOW3.out.alloc _) ⟨V3.heap.size, 0, none⟩ 1 1 [.int .i64 k, .int .i64 n, .int .i64 m, .int .i64 d] rfl rfl (cell_four_new _ _ _ _ _ _) (one_four _ _ _ _) (by unfold maxLen; omega) (by omega) (by have := HSZ.out; simp; omega) ?_)
      intro v' w2 hown2 hgrow _
      obtain ⟨a', cap', rfl, hcap', _⟩ := own_slice2 hown2
      have hall : V3.grownBy w2 v.ownBlock := (World.grownBy_alloc V3 _ _).trans hgrow
      have hob : ∀ b, b < B1 → v.ownBlock ≠ some b := fun b hb e => by have := (HOW3.out.lt b e).1; omega
      have hl2 : w2.heap[bl]? = some (.cells #[v] 40 (0, 0)) := (hall.block bl (block_lt HVB.out) (Ne.symm (hob bl hlB))).trans HVB.out
      have hs2 : w2.heap[bs]? = some (.cells #[.map (some bm)] 92 (0, 0)) := (hall.block bs (block_lt HSB.out) (Ne.symm (hob bs hsB))).trans HSB.out
      have hm2 : w2.heap[bm]? = some (mapObj (cntL (pre ++ [(k, n, m, d)]))) := (hall.block bm (block_lt HM3.out) (Ne.symm (hob bm hmB))).trans HM3.out
      have hb2 : Below w0.heap.size w0 w2 := HB3.out.grown hall HB3.out.size (fun k hk => by have := (HOW3.out.lt k hk).1; omega)
      have hlc : w2.cell? ⟨bl, 0, none⟩ = some v := block_cell hl2 0
      have hlf : w2.frozen? ⟨bl, 0, none⟩ = false := block_free hl2 0
      have hsz2 : B1 ≤ w2.heap.size := Nat.le_trans HSZ.out hall.size
      have HFIN : Hid (TabJ w0 bs bm bl B1 (pre ++ [(k, n, m, d)]) (w2.setCell ⟨bl, 0, none⟩ (.slice a' ((once pre).length + 1) cap'))) := by
        refine ⟨hb2.setCell (p := ⟨bl, 0, none⟩) h0l _, ?_, ?_, ⟨.slice a' ((once pre).length + 1) cap', ?_, ?_⟩, by rw [set_size]; exact hsz2⟩
        · rw [set_far _ _ _ _ n3]; exact hs2
        · rw [set_far _ _ _ _ (Ne.symm n2)]; exact hm2
        · exact block_set hl2 0 _
        · rw [HON.out, cellsN_append, List.length_append]
          exact ownsRow_setCell_other (a := ⟨bl, 0, none⟩) hown2 (fun e => by
            have := (hown2.lt bl e).1
            omega) _
      have HKF : Hid (KeepsD W (w2.setCell ⟨bl, 0, none⟩ (.slice a' ((once pre).length + 1) cap'))) := fun b cs hx => by
        have h3 := HK3.out b cs hx
        have hne : b ≠ bl := fun e => by rw [e, HVB.out] at h3; simp at h3
        have hno : v.ownBlock ≠ some b := own_type HOW3.out h3 (by decide)
        rw [set_far _ _ _ _ hne]
        exact (hall.block b (block_lt h3) (Ne.symm hno)).trans h3
      clear hown2 hgrow hall hl2 hs2 hm2 hb2 hob
      go_wp2_with fail
      go_end0
      exact ⟨rfl, HFIN.out, HKF.out⟩
/-- Why tables may not be asked for; 0: they may. -/
def errN (t : Tr) (dir : Int) : Int := if dir ≠ 0 ∧ dir ≠ 1 then 2 else chk t
theorem errN_zero {t : Tr} {dir : Int} (h : errN t dir = 0) : (dir = 0 ∨ dir = 1) ∧ chk t = 0 ∧ namesB t dir = t.names dir := by
  unfold errN at h
  by_cases hd : dir ≠ 0 ∧ dir ≠ 1
  · rw [if_pos hd] at h; omega
  · rw [if_neg hd] at h
    exact ⟨by omega, h, if_neg (fun h2 => h2.elim hd (fun h3 => h3 h))⟩
theorem errN_no {t : Tr} {dir : Int} (h : errN t dir ≠ 0) : namesB t dir = [] := by
  unfold errN at h
  by_cases hd : dir ≠ 0 ∧ dir ≠ 1
  · exact if_pos (.inl hd)
  · rw [if_neg hd] at h
    exact if_pos (.inr h)
/-- A result: names in a new row, and an error's number. -/
def GivesTab (C : Int) (xs : List Nm) (w : World) (e : Ending) (w' : World) : Prop :=
  ∃ a cap, e = .returned (.tuple #[.slice a xs.length cap, .int .i64 C]) ∧ w'.ownsRow w.heap.size 44 4 (.slice a xs.length cap) xs.length (cellsN xs) ∧ Below w.heap.size w w'
theorem own_low {w : World} {B B' : Nat} {e : TypeId} {s : Nat} {v : Value} {n : Nat} {xs : List Value} (h : w.ownsRow B e s v n xs) (hB : B' ≤ B) : w.ownsRow B' e s v n xs := by
  refine ⟨h.1, ?_⟩
  rcases h.2 with ⟨h1, h2⟩ | ⟨g, cap, cur, h1, h2, h3⟩
  · exact .inl ⟨h1, h2⟩
  · exact .inr ⟨g, cap, cur, h1, Nat.le_trans hB h2, h3⟩
theorem tab_boxes (w : World) (T M : TypeId) : ∃ W0, ((w.alloc (.cells #[.slice none 0 0] T)).alloc (.map #[] 0)).alloc (.cells #[.map (some (w.heap.size + 1))] M) = W0 ∧ Below w.heap.size w W0 ∧ W0.heap.size = w.heap.size + 3 ∧
      W0.heap[w.heap.size]? = some (.cells #[.slice none 0 0] T (0, 0)) ∧ W0.heap[w.heap.size + 1]? = some (.map #[] 0) ∧ W0.heap[w.heap.size + 1 + 1]? = some (.cells #[.map (some (w.heap.size + 1))] M (0, 0)) :=
  ⟨_, rfl, (((Below.refl _ _).alloc (Nat.le_refl _) _).alloc (by simp) _).alloc (by simp <;> omega) _, by simp, block_old (by simp <;> omega) (block_old (by simp) (block_new rfl)), block_old (by simp) (block_new (by simp)), block_new (by simp)⟩
set_option maxHeartbeats 4000000 in
theorem need_Tables (t : Tr) (k n : Int) (a : Option Addr) (m cap : Nat) (dir : Int) (w : World) (F : Nat → Prop) (hs : t.size ≤ 4194304) (hT : IsT w F k n a m cap t) :
    Calls Tryz.prog 54 #[.agg #[.int .i64 k, .int .i64 n, .slice a m cap], .int .i64 dir] w (GivesTab (errN t dir) (once (namesB t dir)) w) := by
  have CK : Hid (∀ W, Below w.heap.size w W → Calls Tryz.prog 76 #[.agg #[.int .i64 k, .int .i64 n, .slice a m cap], .int .i64 dir] W fun e w' => e = .returned (.int .i64 (errN t dir)) ∧ Below W.heap.size W w') := fun W hb => need_check t k n a m cap dir W F hs (hT.below hb)
  have HT := Lib.hid hT.lt
  have HS := Lib.hid hs
  have hmm := @run_makeMap Tryz.prog
  have hyes : errN t dir = 0 → (dir = 0 ∨ dir = 1) ∧ chk t = 0 ∧ namesB t dir = t.names dir := errN_zero
  have hno : errN t dir ≠ 0 → namesB t dir = [] := errN_no
  obtain ⟨C, hC⟩ : ∃ C, errN t dir = C := ⟨_, rfl⟩
  rw [hC] at CK hyes hno ⊢
  obtain ⟨W0, hW0, hb0, x0⟩ := box_any w #[.int .i64 k, .int .i64 n, .slice a m cap] 24
  have HW0 := Lib.hid hW0
  have HB := Lib.hid hb0
  have XD := Lib.hid x0
  have D0 : W0.cell? ⟨w.heap.size, 0, none⟩ = some (.int .i64 k) := block_cell x0 0
  have D1 : W0.cell? ⟨w.heap.size, 1, none⟩ = some (.int .i64 n) := block_cell x0 1
  have D2 : W0.cell? ⟨w.heap.size, 2, none⟩ = some (.slice a m cap) := block_cell x0 2
  clear hT hs hC hW0 hb0 x0
  by_cases hc : C = 0
  · subst hc
    obtain ⟨hd, hck, hnm⟩ := hyes rfl
    rw [hnm]
    have hsz : t.size ≤ 60 := (chk_zero.1 hck).1.1
    have CE : Hid (∀ w1 : World, Below w.heap.size w w1 → ∀ W, TabJ w (w1.heap.size + 1 + 1) (w1.heap.size + 1) w1.heap.size (w1.heap.size + 3) [] W → Calls Tryz.prog 77 #[.agg #[.int .i64 k, .int .i64 n, .slice a m cap], .int .i64 dir, .func (.func 78) #[] #[.pointer (some ⟨w1.heap.size + 1 + 1, 0, none⟩), .pointer (some ⟨w1.heap.size, 0, none⟩)]] W (EachEnds (TabJ w (w1.heap.size + 1 + 1) (w1.heap.size + 1) w1.heap.size (w1.heap.size + 3)) ([] ++ t.names dir) W)) :=
      fun w1 hb1 W hJ => need_each _ _ _ w w.heap.size 1048576 _ ⟨fun pre W h => h.below, fun pre W W' h hb => h.later hb, fun pre k n m d W h hl _ => tab_call w _ _ _ _ (by have := hb1.size; omega) hb1.size (by omega) (by omega) (by omega) (by have := hb1.size; omega) pre k n m d W h hl, enters_of Tryz.func78 (by kernel_rfl) rfl⟩ (Nat.le_refl _) 4194304 (by omega) t k n a m cap dir [] W HS.out HT.out (chk_zero.1 hck).2 hd hJ (by simp only [List.length_nil]; omega)
    clear hyes hno hck hnm hd hsz
    go_enter Tryz.func54, Tryz.ntmps54
    go_wp2_with fail
    rw [HW0.out]
    refine (CK.out _ HB.out).mono ?_; rintro e w1 ⟨rfl, hb⟩
    have HB1 := Lib.hid (chain HB.out hb)
    have XD1 := Lib.hid ((hb.block _ (block_lt XD.out)).trans XD.out)
    clear hb D0 D1 D2
    obtain ⟨V, hV, hbV, hsV, v0, v1, v2⟩ := tab_boxes w1 40 92
    have HV := Lib.hid hV
    have HJ : Hid (TabJ w (w1.heap.size + 1 + 1) (w1.heap.size + 1) w1.heap.size (w1.heap.size + 3) [] V) :=
      ⟨chain HB1.out hbV, v2, v1, ⟨_, v0, World.ownsRow_nil _ _ _ _⟩, by rw [hsV]; omega⟩
    have xdl := block_lt XD1.out
    have xdv := (hbV.block _ xdl).trans XD1.out
    have e0 : V.cell? ⟨w.heap.size, 0, none⟩ = some (.int .i64 k) := block_cell xdv 0
    have e1 : V.cell? ⟨w.heap.size, 1, none⟩ = some (.int .i64 n) := block_cell xdv 1
    have e2 : V.cell? ⟨w.heap.size, 2, none⟩ = some (.slice a m cap) := block_cell xdv 2
    rw [← hV] at e0 e1 e2
    have HB1s := HB1.out.size
    clear hV hbV hsV v0 v1 v2 xdv
    go_wp2_with fail
    rw [HV.out]
    refine (CE.out w1 HB1.out _ HJ.out).mono ?_; rintro e w2 ⟨rfl, hj, hk⟩
    rw [List.nil_append] at hj
    obtain ⟨v, hv, hown⟩ := hj.row
    obtain ⟨av, cv, rfl, hcv, _⟩ := own_slice2 hown
    have l0 : w2.cell? ⟨w1.heap.size, 0, none⟩ = some (.slice av (once (t.names dir)).length cv) := block_cell hv 0
    have HOW := Lib.hid (own_low (B' := w.heap.size) hown (by omega))
    have HBE := Lib.hid hj.below
    clear hj hk hv hown e0 e1 e2
    go_wp2_with fail
    go_ret2
    exact ⟨av, cv, rfl, HOW.out, HBE.out⟩
  · have t1 : (C != 0) = true := bdiff hc
    rw [hno hc]
    clear hyes hno
    go_enter Tryz.func54, Tryz.ntmps54
    go_wp2_with fail
    rw [HW0.out]
    refine (CK.out _ HB.out).mono ?_; rintro e w1 ⟨rfl, hb⟩
    have HB1 := Lib.hid (chain HB.out hb)
    clear hb D0 D1 D2
    go_wp2_with fail
    go_ret2
    exact ⟨none, 0, rfl, World.ownsRow_nil _ _ _ _, HB1.out⟩
end Go.Proofs.YtcckfeikaolfgaaGreat

namespace Go.Proofs.YtcckfeikaolfgaaGreat
open Go.RowKit
set_option linter.unusedVariables false
set_option linter.unusedSimpArgs false
set_option maxRecDepth 100000
set_option maxRecDepth 20000
theorem cellsN_one (xs : List Nm) : ∀ u ∈ cellsN xs, u.oneCell' = true := by
  intro u hu
  obtain ⟨x, _, hx⟩ := List.mem_flatMap.1 hu
  exact one_four _ _ _ _ u hx
/-- A result: names in a new row. -/
def GivesN (xs : List Nm) (w : World) (e : Ending) (w' : World) : Prop :=
  ∃ a cap, e = .returned (.slice a xs.length cap) ∧ w'.ownsRow w.heap.size 44 4 (.slice a xs.length cap) xs.length (cellsN xs) ∧ Below w.heap.size w w'
theorem cell_eight_new (w : World) (x y z u x' y' z' u' : Value) (t : TypeId) : ∀ j v, [x, y, z, u, x', y', z', u'][j]? = some v → (w.alloc (.cells #[x, y, z, u, x', y', z', u'] t)).cell? ((⟨w.heap.size, 0, none⟩ : Addr).add j) = some v := by
  intro j v hj
  match j, hj with
  | 0, hj => simp at hj; subst hj; simp [Addr.add]
  | 1, hj => simp at hj; subst hj; simp [Addr.add]
  | 2, hj => simp at hj; subst hj; simp [Addr.add]
  | 3, hj => simp at hj; subst hj; simp [Addr.add]
  | 4, hj => simp at hj; subst hj; simp [Addr.add]
  | 5, hj => simp at hj; subst hj; simp [Addr.add]
  | 6, hj => simp at hj; subst hj; simp [Addr.add]
  | 7, hj => simp at hj; subst hj; simp [Addr.add]
theorem one_eight (x y z u x' y' z' u' : Int) : ∀ v ∈ [Value.int .i64 x, Value.int .i64 y, Value.int .i64 z, Value.int .i64 u, Value.int .i64 x', Value.int .i64 y', Value.int .i64 z', Value.int .i64 u'], v.oneCell' = true := by
  intro v hv
  simp at hv
  rcases hv with rfl | rfl | rfl | rfl | rfl | rfl | rfl | rfl <;> rfl
set_option maxHeartbeats 16000000 in
theorem ref15_All (N : Nat) (hN : N ≤ 1048576) : ∀ (t : Tr) (k n : Int) (a : Option Addr) (m cap : Nat) (dir : Int) (w : World) (F : Nat → Prop), t.size ≤ N → IsT w F k n a m cap t → t.allOk → dir = 0 ∨ dir = 1 →
    Calls Tryz.prog 14 #[.agg #[.int .i64 k, .int .i64 n, .slice a m cap], .int .i64 dir] w (GivesN (t.names dir) w) := by
  obtain ⟨i0, hi, hz0, hz1, hz2⟩ := info_parts info_name
  induction N with
  | zero => intro t k n a m cap dir w F h; have := Tr.size_pos t; omega
  | succ N ih =>
    intro t k n a m cap dir w F hs hT hok hd
    have IH := Lib.hid (ih (by omega))
    clear ih
    have hn := (Tr.allOk_iff t).1 hok
    have HOK := Lib.hid hn.2
    have HT := Lib.hid hT
    have HS := Lib.hid hs
    have hm4 : m ≤ 1048576 := by
      have := Tr.len_le_sizeL t.kids
      rw [Tr.size_kids] at hs
      rw [hT.em]; omega
    have HLEN := Lib.hid hT.em
    have HNM : Hid (t.names dir = nmOwn k n (Tr.kid t.kids 0).num dir ++ Tr.namesL t.kids (nmBelow k dir)) := by unfold Hid; rw [Tr.names_kids, hT.ek, hT.en]
    have hd2 : nmBelow k dir = 0 ∨ nmBelow k dir = 1 := below_dir k dir hd
    obtain ⟨D, hD⟩ : ∃ x, nmBelow k dir = x := ⟨_, rfl⟩
    rw [hD] at hd2
    have hcs := node_cases hn.1
    rw [← hT.ek, ← hT.en, ← hT.em] at hcs
    have hkk : k = 1 ∨ k = 2 ∨ k = 3 ∨ k = 4 ∨ k = 5 ∨ k = 6 ∨ k = 7 := by rcases hcs with h | h | h | h | h | h <;> omega
    have hk0 : k = 7 → 0 < m ∧ ∃ b off, a = some ⟨b, off, none⟩ ∧ b < w.heap.size ∧ w.cell? ⟨b, off + 1, none⟩ = some (.int .i64 (Tr.kid t.kids 0).num) := fun hk7 => by
      have h1 : 0 < m := by rcases hcs with h | h | h | h | h | h <;> omega
      obtain ⟨b, off, e1, h2, h3, _⟩ := hT.knum 0 h1
      exact ⟨h1, b, off, e1, h2, by simpa using h3⟩
    obtain ⟨K0, hK0⟩ : ∃ x, (Tr.kid t.kids 0).num = x := ⟨_, rfl⟩
    rw [hK0, hD] at HNM
    rw [hK0] at hk0
    obtain ⟨own, hown⟩ : ∃ l, nmOwn k n K0 dir = l := ⟨_, rfl⟩
    rw [hown] at HNM
    rw [HNM.out]
    have hol : own.length ≤ 2 := by rw [← hown]; exact Tr.own_len _ _ _ _
    have IHK : Hid (∀ (j : Nat) (hj : j < m) (V : World), Below w.heap.size w V → ∃ b off k' n' a' m' c', a = some ⟨b, off, none⟩ ∧ b < V.heap.size ∧ V.cell? ⟨b, off + j * 3, none⟩ = some (.int .i64 k') ∧ V.cell? ⟨b, off + j * 3 + 1, none⟩ = some (.int .i64 n') ∧ V.cell? ⟨b, off + j * 3 + 2, none⟩ = some (.slice a' m' c') ∧
        ∀ V', Below V.heap.size V V' → Calls Tryz.prog 14 #[.agg #[.int .i64 k', .int .i64 n', .slice a' m' c'], .int .i64 D] V' (GivesN ((Tr.kid t.kids j).names D) V')) := fun j hj V hV => by
      have hj2 : j < t.kids.length := by rw [← HLEN.out]; exact hj
      obtain ⟨b, off, k', n', a', m', c', e1, hF, hbl, h0, h1, h2, hT'⟩ := (HT.out.below hV).kid j hj
      have hsz := Tr.size_kid t j hj2
      exact ⟨b, off, k', n', a', m', c', e1, hbl, h0, h1, h2, fun V' hb => IH.out (Tr.kid t.kids j) k' n' a' m' c' D V' F (by omega) (hT'.below hb) (HOK.out j hj2) hd2⟩
    have HTK : Hid (∀ j, j < m → own ++ Tr.namesL (t.kids.take (j + 1)) D = (own ++ Tr.namesL (t.kids.take j) D) ++ (Tr.kid t.kids j).names D) := fun j hj => by
      rw [Tr.take_kid (by rw [← HLEN.out]; exact hj), Tr.namesL_snoc, List.append_assoc]
    have HBD : Hid (∀ j, j ≤ m → (own ++ Tr.namesL (t.kids.take j) D).length ≤ 2097154) := fun j hj => by
      have h1 := Tr.namesL_len (t.kids.take j) D
      have h2 := Tr.sizeL_take t.kids j
      have h3 := Tr.size_kids t
      rw [List.length_append]; omega
    have HEND : Hid (Tr.namesL (t.kids.take m) D = Tr.namesL t.kids D) := by unfold Hid; rw [List.take_of_length_le (by have := HLEN.out; omega)]
    obtain ⟨W0, hW0, hb0, x0⟩ := box_any w #[.int .i64 k, .int .i64 n, .slice a m cap] 24
    have HW0 := Lib.hid hW0
    have HB := Lib.hid hb0
    have XD := Lib.hid x0
    have hsw := block_lt x0
    have fn := hT.fn
    clear hW0 hb0 x0 hT hs hok hn hcs hK0

    rcases hkk with rfl | rfl | rfl | rfl | rfl | rfl | rfl
    · skip
      have hown : [(1, n, 0, dir)] = own := by rw [← hown]; simp [nmOwn]
      obtain rfl : dir = D := by rw [← hD]; simp [nmBelow]
      clear hk0
      have hown := Lib.hid hown
      have hol2 := hol
      go_enter Tryz.func14, Tryz.ntmps14
      go_wp2_with (at_builtin; refine wpList_append_own _ rfl _ _ 40 rfl w.heap.size 44 i0 (.agg #[.int .i64 0, .int .i64 0, .int .i64 0, .int .i64 0]) 4 32 Tryz.underlying40 hi hz0 hz1 hz2 rfl (by decide) _ 0 [] rfl (World.ownsRow_nil _ _ _ _) ⟨w.heap.size + 1, 0, none⟩ 1 1 [.int .i64 1, .int .i64 n, .int .i64 0, .int .i64 dir] rfl rfl (by have := cell_four_new (w.alloc (.cells #[.int .i64 1, .int .i64 n, .slice a m cap] 24)) (.int .i64 1) (.int .i64 n) (.int .i64 0) (.int .i64 dir) 44; simpa using this) (one_four _ _ _ _) (by unfold maxLen; omega) (by omega) (by simp; omega) ?_)
      intro v' w3 ho3 hg3 _
      obtain ⟨a3, c3, rfl, _, _⟩ := own_slice2 ho3
      have HO1 : Hid (w3.ownsRow w.heap.size 44 4 (.slice a3 1 c3) 1 (cellsN [(1, n, 0, dir)])) := by unfold Hid; simpa [cellsN] using ho3
      have hg4 : (w.alloc (.cells #[.int .i64 1, .int .i64 n, .slice a m cap] 24)).grownBy w3 none := (World.grownBy_alloc _ _ _).trans hg3
      rw [HW0.out] at hg4
      have HB := Lib.hid (HB.out.grown hg4 (by have := HB.out.size; omega) (fun k hk => by cases hk))
      have XD := Lib.hid ((hg4.block _ (block_lt XD.out) (by simp)).trans XD.out)
      clear ho3 hg3 hg4
      have D0 : w3.cell? ⟨w.heap.size, 0, none⟩ = some (.int .i64 1) := block_cell XD.out 0
      have D1 : w3.cell? ⟨w.heap.size, 1, none⟩ = some (.int .i64 n) := block_cell XD.out 1
      have D2 : w3.cell? ⟨w.heap.size, 2, none⟩ = some (.slice a m cap) := block_cell XD.out 2
      go_wp2_with fail
      clear D0 D1 D2
      go_loopw [5, 7] (fun v i wr => ∃ (j L : Nat) (A : Option Addr) (c : Nat), j ≤ m ∧ i = .int .i64 j ∧ v = .slice A L c ∧ Hid (L = (own ++ Tr.namesL (t.kids.take j) dir).length) ∧ L ≤ 2097154 ∧ Hid (wr.ownsRow w.heap.size 44 4 (.slice A L c) L (cellsN (own ++ Tr.namesL (t.kids.take j) dir))) ∧ Hid (Below w.heap.size w wr) ∧ Hid (wr.heap[w.heap.size]? = some (.cells #[.int .i64 1, .int .i64 n, .slice a m cap] 24 (0, 0)))) (fun _ i _ => m - (intOf i).toNat)
      case atStart => exact ⟨0, 1, a3, c3, Nat.zero_le _, rfl, rfl, by unfold Hid; rw [← hown.out]; rfl, by omega, by unfold Hid; rw [← hown.out]; simpa [Tr.namesL] using HO1.out, HB.out, XD.out⟩
      case round =>
        obtain ⟨j, L, A, c, hj, rfl, rfl, HL, hL, HO, HB, XD⟩ := hrel
        have d2 : wr.cell? ⟨w.heap.size, 2, none⟩ = some (.slice a m cap) := block_cell XD.out 2
        by_cases hlt : j < m
        · obtain ⟨b, off, k', n', a', m', c', hab, hbl, h0, h1, h2, hcall⟩ := IHK.out j hlt wr HB.out
          subst hab
          have HCALL := Lib.hid (hcall wr (Below.refl _ _))
          have i0' : (0 : Int) ≤ (j : Int) := by omega
          have i1' : (j : Int) < (m : Int) := by omega
          have HTJ := Lib.hid (HTK.out j hlt)
          have hbd := HBD.out (j + 1) (by omega)
          rw [HTJ.out, List.length_append, ← HL.out] at hbd
          have HBJ := Lib.hid hbd
          have hbs := HB.out.size
          clear hcall hbd
          go_wp2_with fail
          refine HCALL.out.mono ?_; rintro e w2 ⟨a2, c2, rfl, ho2, hb2⟩
          obtain ⟨M, hM⟩ : ∃ M, ((Tr.kid t.kids j).names dir).length = M := ⟨_, rfl⟩
          rw [hM] at ho2 HBJ ⊢
          have HM := Lib.hid hM
          have hLM : L + M ≤ 2097154 := HBJ.out
          have HO2 := Lib.hid ho2
          have HO1 := Lib.hid (own_later3 HO.out hb2)
          have hs2 := hb2.size
          have HBB := Lib.hid (chain HB.out hb2)
          have XX := Lib.hid ((hb2.block _ (block_lt XD.out)).trans XD.out)
          clear hM ho2 hb2 h0 h1 h2 d2
          go_wp2_with (at_builtin; refine wpList_append_two _ rfl _ _ 40 rfl w.heap.size 44 i0 (.agg #[.int .i64 0, .int .i64 0, .int .i64 0, .int .i64 0]) 4 32 Tryz.underlying40 hi hz0 hz1 hz2 rfl (by decide) _ L _ rfl HO1.out _ _ M _ rfl HO2.out (cellsN_one _) (by unfold maxLen; omega) (by omega) (by omega) ?_)
          intro v' w3 ho3 hg3 _
          obtain ⟨a3, c3, rfl, _, _⟩ := own_slice2 ho3
          have HO3 : Hid (w3.ownsRow w.heap.size 44 4 (.slice a3 (L + M) c3) (L + M) (cellsN (own ++ Tr.namesL (t.kids.take (j + 1)) dir))) := by
            unfold Hid
            rw [HTJ.out, cellsN_append (own ++ _)]
            exact ho3
          have HL3 : Hid (L + M = (own ++ Tr.namesL (t.kids.take (j + 1)) dir).length) := by unfold Hid; rw [HTJ.out, List.length_append, ← HL.out, HM.out]
          have HB3 := Lib.hid (HBB.out.grown hg3 (by omega) (own_lt3 HO1.out))
          have XX3 := Lib.hid ((hg3.block _ (block_lt XX.out) (Ne.symm (own_type HO1.out XX.out (by decide)))).trans XX.out)
          clear ho3 hg3
          go_wp2_with fail
          go_roundw
          case rel => exact ⟨j + 1, L + M, a3, c3, by omega, by go_num, rfl, HL3.out, hLM, HO3.out, HB3.out, XX3.out⟩
          case measure => simp [intOf]; omega
        · obtain rfl : j = m := by omega
          have hE : (own ++ Tr.namesL (t.kids.take j) dir) = own ++ Tr.namesL t.kids dir := by rw [HEND.out]
          have HE := Lib.hid hE
          clear hE
          go_wp2_with fail
          go_ret
          refine ⟨A, c, ?_, ?_, HB.out⟩
          · rw [← HE.out, ← HL.out]; rfl
          · rw [← HE.out, ← HL.out]; exact HO.out
    · skip
      have hown : [] = own := by rw [← hown]; simp [nmOwn]
      obtain rfl : dir = D := by rw [← hD]; simp [nmBelow]
      clear hk0
      have hown := Lib.hid hown
      have hol2 := hol
      go_enter Tryz.func14, Tryz.ntmps14
      go_wp2_with fail
      try rw [HW0.out]
      have HO1 : Hid (W0.ownsRow w.heap.size 44 4 (.slice none 0 0) 0 (cellsN [])) := World.ownsRow_nil _ _ _ _
      go_loopw [5, 7] (fun v i wr => ∃ (j L : Nat) (A : Option Addr) (c : Nat), j ≤ m ∧ i = .int .i64 j ∧ v = .slice A L c ∧ Hid (L = (own ++ Tr.namesL (t.kids.take j) dir).length) ∧ L ≤ 2097154 ∧ Hid (wr.ownsRow w.heap.size 44 4 (.slice A L c) L (cellsN (own ++ Tr.namesL (t.kids.take j) dir))) ∧ Hid (Below w.heap.size w wr) ∧ Hid (wr.heap[w.heap.size]? = some (.cells #[.int .i64 2, .int .i64 n, .slice a m cap] 24 (0, 0)))) (fun _ i _ => m - (intOf i).toNat)
      case atStart => exact ⟨0, 0, none, 0, Nat.zero_le _, rfl, rfl, by unfold Hid; rw [← hown.out]; rfl, by omega, by unfold Hid; rw [← hown.out]; simpa [Tr.namesL] using HO1.out, HB.out, XD.out⟩
      case round =>
        obtain ⟨j, L, A, c, hj, rfl, rfl, HL, hL, HO, HB, XD⟩ := hrel
        have d2 : wr.cell? ⟨w.heap.size, 2, none⟩ = some (.slice a m cap) := block_cell XD.out 2
        by_cases hlt : j < m
        · obtain ⟨b, off, k', n', a', m', c', hab, hbl, h0, h1, h2, hcall⟩ := IHK.out j hlt wr HB.out
          subst hab
          have HCALL := Lib.hid (hcall wr (Below.refl _ _))
          have i0' : (0 : Int) ≤ (j : Int) := by omega
          have i1' : (j : Int) < (m : Int) := by omega
          have HTJ := Lib.hid (HTK.out j hlt)
          have hbd := HBD.out (j + 1) (by omega)
          rw [HTJ.out, List.length_append, ← HL.out] at hbd
          have HBJ := Lib.hid hbd
          have hbs := HB.out.size
          clear hcall hbd
          go_wp2_with fail
          refine HCALL.out.mono ?_; rintro e w2 ⟨a2, c2, rfl, ho2, hb2⟩
          obtain ⟨M, hM⟩ : ∃ M, ((Tr.kid t.kids j).names dir).length = M := ⟨_, rfl⟩
          rw [hM] at ho2 HBJ ⊢
          have HM := Lib.hid hM
          have hLM : L + M ≤ 2097154 := HBJ.out
          have HO2 := Lib.hid ho2
          have HO1 := Lib.hid (own_later3 HO.out hb2)
          have hs2 := hb2.size
          have HBB := Lib.hid (chain HB.out hb2)
          have XX := Lib.hid ((hb2.block _ (block_lt XD.out)).trans XD.out)
          clear hM ho2 hb2 h0 h1 h2 d2
          go_wp2_with (at_builtin; refine wpList_append_two _ rfl _ _ 40 rfl w.heap.size 44 i0 (.agg #[.int .i64 0, .int .i64 0, .int .i64 0, .int .i64 0]) 4 32 Tryz.underlying40 hi hz0 hz1 hz2 rfl (by decide) _ L _ rfl HO1.out _ _ M _ rfl HO2.out (cellsN_one _) (by unfold maxLen; omega) (by omega) (by omega) ?_)
          intro v' w3 ho3 hg3 _
          obtain ⟨a3, c3, rfl, _, _⟩ := own_slice2 ho3
          have HO3 : Hid (w3.ownsRow w.heap.size 44 4 (.slice a3 (L + M) c3) (L + M) (cellsN (own ++ Tr.namesL (t.kids.take (j + 1)) dir))) := by
            unfold Hid
            rw [HTJ.out, cellsN_append (own ++ _)]
            exact ho3
          have HL3 : Hid (L + M = (own ++ Tr.namesL (t.kids.take (j + 1)) dir).length) := by unfold Hid; rw [HTJ.out, List.length_append, ← HL.out, HM.out]
          have HB3 := Lib.hid (HBB.out.grown hg3 (by omega) (own_lt3 HO1.out))
          have XX3 := Lib.hid ((hg3.block _ (block_lt XX.out) (Ne.symm (own_type HO1.out XX.out (by decide)))).trans XX.out)
          clear ho3 hg3
          go_wp2_with fail
          go_roundw
          case rel => exact ⟨j + 1, L + M, a3, c3, by omega, by go_num, rfl, HL3.out, hLM, HO3.out, HB3.out, XX3.out⟩
          case measure => simp [intOf]; omega
        · obtain rfl : j = m := by omega
          have hE : (own ++ Tr.namesL (t.kids.take j) dir) = own ++ Tr.namesL t.kids dir := by rw [HEND.out]
          have HE := Lib.hid hE
          clear hE
          go_wp2_with fail
          go_ret
          refine ⟨A, c, ?_, ?_, HB.out⟩
          · rw [← HE.out, ← HL.out]; rfl
          · rw [← HE.out, ← HL.out]; exact HO.out
    · skip
      have hown : [(1, n, 0, dir)] = own := by rw [← hown]; simp [nmOwn]
      obtain rfl : dir = D := by rw [← hD]; simp [nmBelow]
      clear hk0
      have hown := Lib.hid hown
      have hol2 := hol
      go_enter Tryz.func14, Tryz.ntmps14
      go_wp2_with (at_builtin; refine wpList_append_own _ rfl _ _ 40 rfl w.heap.size 44 i0 (.agg #[.int .i64 0, .int .i64 0, .int .i64 0, .int .i64 0]) 4 32 Tryz.underlying40 hi hz0 hz1 hz2 rfl (by decide) _ 0 [] rfl (World.ownsRow_nil _ _ _ _) ⟨w.heap.size + 1, 0, none⟩ 1 1 [.int .i64 1, .int .i64 n, .int .i64 0, .int .i64 dir] rfl rfl (by have := cell_four_new (w.alloc (.cells #[.int .i64 3, .int .i64 n, .slice a m cap] 24)) (.int .i64 1) (.int .i64 n) (.int .i64 0) (.int .i64 dir) 44; simpa using this) (one_four _ _ _ _) (by unfold maxLen; omega) (by omega) (by simp; omega) ?_)
      intro v' w3 ho3 hg3 _
      obtain ⟨a3, c3, rfl, _, _⟩ := own_slice2 ho3
      have HO1 : Hid (w3.ownsRow w.heap.size 44 4 (.slice a3 1 c3) 1 (cellsN [(1, n, 0, dir)])) := by unfold Hid; simpa [cellsN] using ho3
      have hg4 : (w.alloc (.cells #[.int .i64 3, .int .i64 n, .slice a m cap] 24)).grownBy w3 none := (World.grownBy_alloc _ _ _).trans hg3
      rw [HW0.out] at hg4
      have HB := Lib.hid (HB.out.grown hg4 (by have := HB.out.size; omega) (fun k hk => by cases hk))
      have XD := Lib.hid ((hg4.block _ (block_lt XD.out) (by simp)).trans XD.out)
      clear ho3 hg3 hg4
      have D0 : w3.cell? ⟨w.heap.size, 0, none⟩ = some (.int .i64 3) := block_cell XD.out 0
      have D1 : w3.cell? ⟨w.heap.size, 1, none⟩ = some (.int .i64 n) := block_cell XD.out 1
      have D2 : w3.cell? ⟨w.heap.size, 2, none⟩ = some (.slice a m cap) := block_cell XD.out 2
      go_wp2_with fail
      clear D0 D1 D2
      go_loopw [5, 7] (fun v i wr => ∃ (j L : Nat) (A : Option Addr) (c : Nat), j ≤ m ∧ i = .int .i64 j ∧ v = .slice A L c ∧ Hid (L = (own ++ Tr.namesL (t.kids.take j) dir).length) ∧ L ≤ 2097154 ∧ Hid (wr.ownsRow w.heap.size 44 4 (.slice A L c) L (cellsN (own ++ Tr.namesL (t.kids.take j) dir))) ∧ Hid (Below w.heap.size w wr) ∧ Hid (wr.heap[w.heap.size]? = some (.cells #[.int .i64 3, .int .i64 n, .slice a m cap] 24 (0, 0)))) (fun _ i _ => m - (intOf i).toNat)
      case atStart => exact ⟨0, 1, a3, c3, Nat.zero_le _, rfl, rfl, by unfold Hid; rw [← hown.out]; rfl, by omega, by unfold Hid; rw [← hown.out]; simpa [Tr.namesL] using HO1.out, HB.out, XD.out⟩
      case round =>
        obtain ⟨j, L, A, c, hj, rfl, rfl, HL, hL, HO, HB, XD⟩ := hrel
        have d2 : wr.cell? ⟨w.heap.size, 2, none⟩ = some (.slice a m cap) := block_cell XD.out 2
        by_cases hlt : j < m
        · obtain ⟨b, off, k', n', a', m', c', hab, hbl, h0, h1, h2, hcall⟩ := IHK.out j hlt wr HB.out
          subst hab
          have HCALL := Lib.hid (hcall wr (Below.refl _ _))
          have i0' : (0 : Int) ≤ (j : Int) := by omega
          have i1' : (j : Int) < (m : Int) := by omega
          have HTJ := Lib.hid (HTK.out j hlt)
          have hbd := HBD.out (j + 1) (by omega)
          rw [HTJ.out, List.length_append, ← HL.out] at hbd
          have HBJ := Lib.hid hbd
          have hbs := HB.out.size
          clear hcall hbd
          go_wp2_with fail
          refine HCALL.out.mono ?_; rintro e w2 ⟨a2, c2, rfl, ho2, hb2⟩
          obtain ⟨M, hM⟩ : ∃ M, ((Tr.kid t.kids j).names dir).length = M := ⟨_, rfl⟩
          rw [hM] at ho2 HBJ ⊢
          have HM := Lib.hid hM
          have hLM : L + M ≤ 2097154 := HBJ.out
          have HO2 := Lib.hid ho2
          have HO1 := Lib.hid (own_later3 HO.out hb2)
          have hs2 := hb2.size
          have HBB := Lib.hid (chain HB.out hb2)
          have XX := Lib.hid ((hb2.block _ (block_lt XD.out)).trans XD.out)
          clear hM ho2 hb2 h0 h1 h2 d2
          go_wp2_with (at_builtin; refine wpList_append_two _ rfl _ _ 40 rfl w.heap.size 44 i0 (.agg #[.int .i64 0, .int .i64 0, .int .i64 0, .int .i64 0]) 4 32 Tryz.underlying40 hi hz0 hz1 hz2 rfl (by decide) _ L _ rfl HO1.out _ _ M _ rfl HO2.out (cellsN_one _) (by unfold maxLen; omega) (by omega) (by omega) ?_)
          intro v' w3 ho3 hg3 _
          obtain ⟨a3, c3, rfl, _, _⟩ := own_slice2 ho3
          have HO3 : Hid (w3.ownsRow w.heap.size 44 4 (.slice a3 (L + M) c3) (L + M) (cellsN (own ++ Tr.namesL (t.kids.take (j + 1)) dir))) := by
            unfold Hid
            rw [HTJ.out, cellsN_append (own ++ _)]
            exact ho3
          have HL3 : Hid (L + M = (own ++ Tr.namesL (t.kids.take (j + 1)) dir).length) := by unfold Hid; rw [HTJ.out, List.length_append, ← HL.out, HM.out]
          have HB3 := Lib.hid (HBB.out.grown hg3 (by omega) (own_lt3 HO1.out))
          have XX3 := Lib.hid ((hg3.block _ (block_lt XX.out) (Ne.symm (own_type HO1.out XX.out (by decide)))).trans XX.out)
          clear ho3 hg3
          go_wp2_with fail
          go_roundw
          case rel => exact ⟨j + 1, L + M, a3, c3, by omega, by go_num, rfl, HL3.out, hLM, HO3.out, HB3.out, XX3.out⟩
          case measure => simp [intOf]; omega
        · obtain rfl : j = m := by omega
          have hE : (own ++ Tr.namesL (t.kids.take j) dir) = own ++ Tr.namesL t.kids dir := by rw [HEND.out]
          have HE := Lib.hid hE
          clear hE
          go_wp2_with fail
          go_ret
          refine ⟨A, c, ?_, ?_, HB.out⟩
          · rw [← HE.out, ← HL.out]; rfl
          · rw [← HE.out, ← HL.out]; exact HO.out
    · skip
      have hown : [(1, n, 0, dir)] = own := by rw [← hown]; simp [nmOwn]
      obtain rfl : dir = D := by rw [← hD]; simp [nmBelow]
      clear hk0
      have hown := Lib.hid hown
      have hol2 := hol
      go_enter Tryz.func14, Tryz.ntmps14
      go_wp2_with (at_builtin; refine wpList_append_own _ rfl _ _ 40 rfl w.heap.size 44 i0 (.agg #[.int .i64 0, .int .i64 0, .int .i64 0, .int .i64 0]) 4 32 Tryz.underlying40 hi hz0 hz1 hz2 rfl (by decide) _ 0 [] rfl (World.ownsRow_nil _ _ _ _) ⟨w.heap.size + 1, 0, none⟩ 1 1 [.int .i64 1, .int .i64 n, .int .i64 0, .int .i64 dir] rfl rfl (by have := cell_four_new (w.alloc (.cells #[.int .i64 4, .int .i64 n, .slice a m cap] 24)) (.int .i64 1) (.int .i64 n) (.int .i64 0) (.int .i64 dir) 44; simpa using this) (one_four _ _ _ _) (by unfold maxLen; omega) (by omega) (by simp; omega) ?_)
      intro v' w3 ho3 hg3 _
      obtain ⟨a3, c3, rfl, _, _⟩ := own_slice2 ho3
      have HO1 : Hid (w3.ownsRow w.heap.size 44 4 (.slice a3 1 c3) 1 (cellsN [(1, n, 0, dir)])) := by unfold Hid; simpa [cellsN] using ho3
      have hg4 : (w.alloc (.cells #[.int .i64 4, .int .i64 n, .slice a m cap] 24)).grownBy w3 none := (World.grownBy_alloc _ _ _).trans hg3
      rw [HW0.out] at hg4
      have HB := Lib.hid (HB.out.grown hg4 (by have := HB.out.size; omega) (fun k hk => by cases hk))
      have XD := Lib.hid ((hg4.block _ (block_lt XD.out) (by simp)).trans XD.out)
      clear ho3 hg3 hg4
      have D0 : w3.cell? ⟨w.heap.size, 0, none⟩ = some (.int .i64 4) := block_cell XD.out 0
      have D1 : w3.cell? ⟨w.heap.size, 1, none⟩ = some (.int .i64 n) := block_cell XD.out 1
      have D2 : w3.cell? ⟨w.heap.size, 2, none⟩ = some (.slice a m cap) := block_cell XD.out 2
      go_wp2_with fail
      clear D0 D1 D2
      go_loopw [5, 7] (fun v i wr => ∃ (j L : Nat) (A : Option Addr) (c : Nat), j ≤ m ∧ i = .int .i64 j ∧ v = .slice A L c ∧ Hid (L = (own ++ Tr.namesL (t.kids.take j) dir).length) ∧ L ≤ 2097154 ∧ Hid (wr.ownsRow w.heap.size 44 4 (.slice A L c) L (cellsN (own ++ Tr.namesL (t.kids.take j) dir))) ∧ Hid (Below w.heap.size w wr) ∧ Hid (wr.heap[w.heap.size]? = some (.cells #[.int .i64 4, .int .i64 n, .slice a m cap] 24 (0, 0)))) (fun _ i _ => m - (intOf i).toNat)
      case atStart => exact ⟨0, 1, a3, c3, Nat.zero_le _, rfl, rfl, by unfold Hid; rw [← hown.out]; rfl, by omega, by unfold Hid; rw [← hown.out]; simpa [Tr.namesL] using HO1.out, HB.out, XD.out⟩
      case round =>
        obtain ⟨j, L, A, c, hj, rfl, rfl, HL, hL, HO, HB, XD⟩ := hrel
        have d2 : wr.cell? ⟨w.heap.size, 2, none⟩ = some (.slice a m cap) := block_cell XD.out 2
        by_cases hlt : j < m
        · obtain ⟨b, off, k', n', a', m', c', hab, hbl, h0, h1, h2, hcall⟩ := IHK.out j hlt wr HB.out
          subst hab
          have HCALL := Lib.hid (hcall wr (Below.refl _ _))
          have i0' : (0 : Int) ≤ (j : Int) := by omega
          have i1' : (j : Int) < (m : Int) := by omega
          have HTJ := Lib.hid (HTK.out j hlt)
          have hbd := HBD.out (j + 1) (by omega)
          rw [HTJ.out, List.length_append, ← HL.out] at hbd
          have HBJ := Lib.hid hbd
          have hbs := HB.out.size
          clear hcall hbd
          go_wp2_with fail
          refine HCALL.out.mono ?_; rintro e w2 ⟨a2, c2, rfl, ho2, hb2⟩
          obtain ⟨M, hM⟩ : ∃ M, ((Tr.kid t.kids j).names dir).length = M := ⟨_, rfl⟩
          rw [hM] at ho2 HBJ ⊢
          have HM := Lib.hid hM
          have hLM : L + M ≤ 2097154 := HBJ.out
          have HO2 := Lib.hid ho2
          have HO1 := Lib.hid (own_later3 HO.out hb2)
          have hs2 := hb2.size
          have HBB := Lib.hid (chain HB.out hb2)
          have XX := Lib.hid ((hb2.block _ (block_lt XD.out)).trans XD.out)
          clear hM ho2 hb2 h0 h1 h2 d2
          go_wp2_with (at_builtin; refine wpList_append_two _ rfl _ _ 40 rfl w.heap.size 44 i0 (.agg #[.int .i64 0, .int .i64 0, .int .i64 0, .int .i64 0]) 4 32 Tryz.underlying40 hi hz0 hz1 hz2 rfl (by decide) _ L _ rfl HO1.out _ _ M _ rfl HO2.out (cellsN_one _) (by unfold maxLen; omega) (by omega) (by omega) ?_)
          intro v' w3 ho3 hg3 _
          obtain ⟨a3, c3, rfl, _, _⟩ := own_slice2 ho3
          have HO3 : Hid (w3.ownsRow w.heap.size 44 4 (.slice a3 (L + M) c3) (L + M) (cellsN (own ++ Tr.namesL (t.kids.take (j + 1)) dir))) := by
            unfold Hid
            rw [HTJ.out, cellsN_append (own ++ _)]
            exact ho3
          have HL3 : Hid (L + M = (own ++ Tr.namesL (t.kids.take (j + 1)) dir).length) := by unfold Hid; rw [HTJ.out, List.length_append, ← HL.out, HM.out]
          have HB3 := Lib.hid (HBB.out.grown hg3 (by omega) (own_lt3 HO1.out))
          have XX3 := Lib.hid ((hg3.block _ (block_lt XX.out) (Ne.symm (own_type HO1.out XX.out (by decide)))).trans XX.out)
          clear ho3 hg3
          go_wp2_with fail
          go_roundw
          case rel => exact ⟨j + 1, L + M, a3, c3, by omega, by go_num, rfl, HL3.out, hLM, HO3.out, HB3.out, XX3.out⟩
          case measure => simp [intOf]; omega
        · obtain rfl : j = m := by omega
          have hE : (own ++ Tr.namesL (t.kids.take j) dir) = own ++ Tr.namesL t.kids dir := by rw [HEND.out]
          have HE := Lib.hid hE
          clear hE
          go_wp2_with fail
          go_ret
          refine ⟨A, c, ?_, ?_, HB.out⟩
          · rw [← HE.out, ← HL.out]; rfl
          · rw [← HE.out, ← HL.out]; exact HO.out
    · skip
      have hown : [] = own := by rw [← hown]; simp [nmOwn]
      obtain rfl : dir = D := by rw [← hD]; simp [nmBelow]
      clear hk0
      have hown := Lib.hid hown
      have hol2 := hol
      go_enter Tryz.func14, Tryz.ntmps14
      go_wp2_with fail
      try rw [HW0.out]
      have HO1 : Hid (W0.ownsRow w.heap.size 44 4 (.slice none 0 0) 0 (cellsN [])) := World.ownsRow_nil _ _ _ _
      go_loopw [5, 7] (fun v i wr => ∃ (j L : Nat) (A : Option Addr) (c : Nat), j ≤ m ∧ i = .int .i64 j ∧ v = .slice A L c ∧ Hid (L = (own ++ Tr.namesL (t.kids.take j) dir).length) ∧ L ≤ 2097154 ∧ Hid (wr.ownsRow w.heap.size 44 4 (.slice A L c) L (cellsN (own ++ Tr.namesL (t.kids.take j) dir))) ∧ Hid (Below w.heap.size w wr) ∧ Hid (wr.heap[w.heap.size]? = some (.cells #[.int .i64 5, .int .i64 n, .slice a m cap] 24 (0, 0)))) (fun _ i _ => m - (intOf i).toNat)
      case atStart => exact ⟨0, 0, none, 0, Nat.zero_le _, rfl, rfl, by unfold Hid; rw [← hown.out]; rfl, by omega, by unfold Hid; rw [← hown.out]; simpa [Tr.namesL] using HO1.out, HB.out, XD.out⟩
      case round =>
        obtain ⟨j, L, A, c, hj, rfl, rfl, HL, hL, HO, HB, XD⟩ := hrel
        have d2 : wr.cell? ⟨w.heap.size, 2, none⟩ = some (.slice a m cap) := block_cell XD.out 2
        by_cases hlt : j < m
        · obtain ⟨b, off, k', n', a', m', c', hab, hbl, h0, h1, h2, hcall⟩ := IHK.out j hlt wr HB.out
          subst hab
          have HCALL := Lib.hid (hcall wr (Below.refl _ _))
          have i0' : (0 : Int) ≤ (j : Int) := by omega
          have i1' : (j : Int) < (m : Int) := by omega
          have HTJ := Lib.hid (HTK.out j hlt)
          have hbd := HBD.out (j + 1) (by omega)
          rw [HTJ.out, List.length_append, ← HL.out] at hbd
          have HBJ := Lib.hid hbd
          have hbs := HB.out.size
          clear hcall hbd
          go_wp2_with fail
          refine HCALL.out.mono ?_; rintro e w2 ⟨a2, c2, rfl, ho2, hb2⟩
          obtain ⟨M, hM⟩ : ∃ M, ((Tr.kid t.kids j).names dir).length = M := ⟨_, rfl⟩
          rw [hM] at ho2 HBJ ⊢
          have HM := Lib.hid hM
          have hLM : L + M ≤ 2097154 := HBJ.out
          have HO2 := Lib.hid ho2
          have HO1 := Lib.hid (own_later3 HO.out hb2)
          have hs2 := hb2.size
          have HBB := Lib.hid (chain HB.out hb2)
          have XX := Lib.hid ((hb2.block _ (block_lt XD.out)).trans XD.out)
          clear hM ho2 hb2 h0 h1 h2 d2
          go_wp2_with (at_builtin; refine wpList_append_two _ rfl _ _ 40 rfl w.heap.size 44 i0 (.agg #[.int .i64 0, .int .i64 0, .int .i64 0, .int .i64 0]) 4 32 Tryz.underlying40 hi hz0 hz1 hz2 rfl (by decide) _ L _ rfl HO1.out _ _ M _ rfl HO2.out (cellsN_one _) (by unfold maxLen; omega) (by omega) (by omega) ?_)
          intro v' w3 ho3 hg3 _
          obtain ⟨a3, c3, rfl, _, _⟩ := own_slice2 ho3
          have HO3 : Hid (w3.ownsRow w.heap.size 44 4 (.slice a3 (L + M) c3) (L + M) (cellsN (own ++ Tr.namesL (t.kids.take (j + 1)) dir))) := by
            unfold Hid
            rw [HTJ.out, cellsN_append (own ++ _)]
            exact ho3
          have HL3 : Hid (L + M = (own ++ Tr.namesL (t.kids.take (j + 1)) dir).length) := by unfold Hid; rw [HTJ.out, List.length_append, ← HL.out, HM.out]
          have HB3 := Lib.hid (HBB.out.grown hg3 (by omega) (own_lt3 HO1.out))
          have XX3 := Lib.hid ((hg3.block _ (block_lt XX.out) (Ne.symm (own_type HO1.out XX.out (by decide)))).trans XX.out)
          clear ho3 hg3
          go_wp2_with fail
          go_roundw
          case rel => exact ⟨j + 1, L + M, a3, c3, by omega, by go_num, rfl, HL3.out, hLM, HO3.out, HB3.out, XX3.out⟩
          case measure => simp [intOf]; omega
        · obtain rfl : j = m := by omega
          have hE : (own ++ Tr.namesL (t.kids.take j) dir) = own ++ Tr.namesL t.kids dir := by rw [HEND.out]
          have HE := Lib.hid hE
          clear hE
          go_wp2_with fail
          go_ret
          refine ⟨A, c, ?_, ?_, HB.out⟩
          · rw [← HE.out, ← HL.out]; rfl
          · rw [← HE.out, ← HL.out]; exact HO.out
    · skip
      have hown : [(3, n, 0, dir)] = own := by rw [← hown]; simp [nmOwn]
      obtain rfl : D = 0 := by rw [← hD]; simp [nmBelow]
      clear hk0
      have hown := Lib.hid hown
      have hol2 := hol
      go_enter Tryz.func14, Tryz.ntmps14
      go_wp2_with (at_builtin; refine wpList_append_own _ rfl _ _ 40 rfl w.heap.size 44 i0 (.agg #[.int .i64 0, .int .i64 0, .int .i64 0, .int .i64 0]) 4 32 Tryz.underlying40 hi hz0 hz1 hz2 rfl (by decide) _ 0 [] rfl (World.ownsRow_nil _ _ _ _) ⟨w.heap.size + 1, 0, none⟩ 1 1 [.int .i64 3, .int .i64 n, .int .i64 0, .int .i64 dir] rfl rfl (by have := cell_four_new (w.alloc (.cells #[.int .i64 6, .int .i64 n, .slice a m cap] 24)) (.int .i64 3) (.int .i64 n) (.int .i64 0) (.int .i64 dir) 44; simpa using this) (one_four _ _ _ _) (by unfold maxLen; omega) (by omega) (by simp; omega) ?_)
      intro v' w3 ho3 hg3 _
      obtain ⟨a3, c3, rfl, _, _⟩ := own_slice2 ho3
      have HO1 : Hid (w3.ownsRow w.heap.size 44 4 (.slice a3 1 c3) 1 (cellsN [(3, n, 0, dir)])) := by unfold Hid; simpa [cellsN] using ho3
      have hg4 : (w.alloc (.cells #[.int .i64 6, .int .i64 n, .slice a m cap] 24)).grownBy w3 none := (World.grownBy_alloc _ _ _).trans hg3
      rw [HW0.out] at hg4
      have HB := Lib.hid (HB.out.grown hg4 (by have := HB.out.size; omega) (fun k hk => by cases hk))
      have XD := Lib.hid ((hg4.block _ (block_lt XD.out) (by simp)).trans XD.out)
      clear ho3 hg3 hg4
      have D0 : w3.cell? ⟨w.heap.size, 0, none⟩ = some (.int .i64 6) := block_cell XD.out 0
      have D1 : w3.cell? ⟨w.heap.size, 1, none⟩ = some (.int .i64 n) := block_cell XD.out 1
      have D2 : w3.cell? ⟨w.heap.size, 2, none⟩ = some (.slice a m cap) := block_cell XD.out 2
      go_wp2_with fail
      clear D0 D1 D2
      go_loopw [5, 7] (fun v i wr => ∃ (j L : Nat) (A : Option Addr) (c : Nat), j ≤ m ∧ i = .int .i64 j ∧ v = .slice A L c ∧ Hid (L = (own ++ Tr.namesL (t.kids.take j) 0).length) ∧ L ≤ 2097154 ∧ Hid (wr.ownsRow w.heap.size 44 4 (.slice A L c) L (cellsN (own ++ Tr.namesL (t.kids.take j) 0))) ∧ Hid (Below w.heap.size w wr) ∧ Hid (wr.heap[w.heap.size]? = some (.cells #[.int .i64 6, .int .i64 n, .slice a m cap] 24 (0, 0)))) (fun _ i _ => m - (intOf i).toNat)
      case atStart => exact ⟨0, 1, a3, c3, Nat.zero_le _, rfl, rfl, by unfold Hid; rw [← hown.out]; rfl, by omega, by unfold Hid; rw [← hown.out]; simpa [Tr.namesL] using HO1.out, HB.out, XD.out⟩
      case round =>
        obtain ⟨j, L, A, c, hj, rfl, rfl, HL, hL, HO, HB, XD⟩ := hrel
        have d2 : wr.cell? ⟨w.heap.size, 2, none⟩ = some (.slice a m cap) := block_cell XD.out 2
        by_cases hlt : j < m
        · obtain ⟨b, off, k', n', a', m', c', hab, hbl, h0, h1, h2, hcall⟩ := IHK.out j hlt wr HB.out
          subst hab
          have HCALL := Lib.hid (hcall wr (Below.refl _ _))
          have i0' : (0 : Int) ≤ (j : Int) := by omega
          have i1' : (j : Int) < (m : Int) := by omega
          have HTJ := Lib.hid (HTK.out j hlt)
          have hbd := HBD.out (j + 1) (by omega)
          rw [HTJ.out, List.length_append, ← HL.out] at hbd
          have HBJ := Lib.hid hbd
          have hbs := HB.out.size
          clear hcall hbd
          go_wp2_with fail
          refine HCALL.out.mono ?_; rintro e w2 ⟨a2, c2, rfl, ho2, hb2⟩
          obtain ⟨M, hM⟩ : ∃ M, ((Tr.kid t.kids j).names 0).length = M := ⟨_, rfl⟩
          rw [hM] at ho2 HBJ ⊢
          have HM := Lib.hid hM
          have hLM : L + M ≤ 2097154 := HBJ.out
          have HO2 := Lib.hid ho2
          have HO1 := Lib.hid (own_later3 HO.out hb2)
          have hs2 := hb2.size
          have HBB := Lib.hid (chain HB.out hb2)
          have XX := Lib.hid ((hb2.block _ (block_lt XD.out)).trans XD.out)
          clear hM ho2 hb2 h0 h1 h2 d2
          go_wp2_with (at_builtin; refine wpList_append_two _ rfl _ _ 40 rfl w.heap.size 44 i0 (.agg #[.int .i64 0, .int .i64 0, .int .i64 0, .int .i64 0]) 4 32 Tryz.underlying40 hi hz0 hz1 hz2 rfl (by decide) _ L _ rfl HO1.out _ _ M _ rfl HO2.out (cellsN_one _) (by unfold maxLen; omega) (by omega) (by omega) ?_)
          intro v' w3 ho3 hg3 _
          obtain ⟨a3, c3, rfl, _, _⟩ := own_slice2 ho3
          have HO3 : Hid (w3.ownsRow w.heap.size 44 4 (.slice a3 (L + M) c3) (L + M) (cellsN (own ++ Tr.namesL (t.kids.take (j + 1)) 0))) := by
            unfold Hid
            rw [HTJ.out, cellsN_append (own ++ _)]
            exact ho3
          have HL3 : Hid (L + M = (own ++ Tr.namesL (t.kids.take (j + 1)) 0).length) := by unfold Hid; rw [HTJ.out, List.length_append, ← HL.out, HM.out]
          have HB3 := Lib.hid (HBB.out.grown hg3 (by omega) (own_lt3 HO1.out))
          have XX3 := Lib.hid ((hg3.block _ (block_lt XX.out) (Ne.symm (own_type HO1.out XX.out (by decide)))).trans XX.out)
          clear ho3 hg3
          go_wp2_with fail
          go_roundw
          case rel => exact ⟨j + 1, L + M, a3, c3, by omega, by go_num, rfl, HL3.out, hLM, HO3.out, HB3.out, XX3.out⟩
          case measure => simp [intOf]; omega
        · obtain rfl : j = m := by omega
          have hE : (own ++ Tr.namesL (t.kids.take j) 0) = own ++ Tr.namesL t.kids 0 := by rw [HEND.out]
          have HE := Lib.hid hE
          clear hE
          go_wp2_with fail
          go_ret
          refine ⟨A, c, ?_, ?_, HB.out⟩
          · rw [← HE.out, ← HL.out]; rfl
          · rw [← HE.out, ← HL.out]; exact HO.out
    · skip
      have hown : [(2, n, 0, dir), (4, n, K0, dir)] = own := by rw [← hown]; simp [nmOwn]
      obtain rfl : D = 0 := by rw [← hD]; simp [nmBelow]
      obtain ⟨hm0, b0, o0, rfl, hbl0, hkz⟩ := hk0 rfl
      have n0 := (HB.out.cell (p := ⟨b0, o0 + 1, none⟩) hbl0).trans hkz
      clear hk0 hkz
      have hown := Lib.hid hown
      have hol2 := hol
      have D0 : W0.cell? ⟨w.heap.size, 0, none⟩ = some (.int .i64 7) := block_cell XD.out 0
      have D1 : W0.cell? ⟨w.heap.size, 1, none⟩ = some (.int .i64 n) := block_cell XD.out 1
      have D2 : W0.cell? ⟨w.heap.size, 2, none⟩ = some (.slice (some ⟨b0, o0, none⟩) m cap) := block_cell XD.out 2
      go_enter Tryz.func14, Tryz.ntmps14
      go_wp2_with fail
      rw [HW0.out]
      have hb0l : b0 < W0.heap.size := Nat.lt_of_lt_of_le hbl0 HB.out.size
      go_region_held3 (fun w' => w'.cell? ⟨w.heap.size, 0, none⟩ = some (.int .i64 7) ∧ w'.cell? ⟨w.heap.size, 1, none⟩ = some (.int .i64 n) ∧ w'.cell? ⟨w.heap.size, 2, none⟩ = some (.slice (some ⟨b0, o0, none⟩) m cap) ∧ w'.cell? ⟨b0, o0 + 1, none⟩ = some (.int .i64 K0)) (first | exact ⟨D0, D1, D2, n0⟩ | exact ⟨(cell_past W0 _ ⟨w.heap.size, 0, none⟩ hsw).trans D0, (cell_past W0 _ ⟨w.heap.size, 1, none⟩ hsw).trans D1, (cell_past W0 _ ⟨w.heap.size, 2, none⟩ hsw).trans D2, (cell_past W0 _ ⟨b0, o0 + 1, none⟩ hb0l).trans n0⟩ | exact ⟨E0, E1, E2, E3⟩) ((refine step_append_lies _ (by rfl) _ _ 40 (by rfl) w.heap.size 44 i0 _ 4 32 Tryz.underlying40 hi hz0 hz1 hz2 rfl (by omega) _ 0 [] (by rfl) (World.ownsRow_nil _ _ _ _) ⟨W0.heap.size, 0, none⟩ 2 2 [.int .i64 2, .int .i64 n, .int .i64 0, .int .i64 dir, .int .i64 4, .int .i64 n, .int .i64 K0, .int .i64 dir] (by rfl) (by rfl) (fun j u h => cell_eight_new W0 _ _ _ _ _ _ _ _ _ j u h) (one_eight _ _ _ _ _ _ _ _) (by omega) (by unfold maxLen; omega) (by omega) (by have := HB.out.size; simp; omega) (W0.heap.size + 1) (by simp) ?_; intro g3 c3 w3 ho3 hg3 hat hlt3; have hg4 : W0.grownBy w3 none := (World.grownBy_alloc W0 _ none).trans ⟨hg3.os, hg3.tape, hg3.output, hg3.size, hg3.block⟩; have E0 := hg4.cell (a := ⟨w.heap.size, 0, none⟩) D0 (by simp); have E1 := hg4.cell (a := ⟨w.heap.size, 1, none⟩) D1 (by simp); have E2 := hg4.cell (a := ⟨w.heap.size, 2, none⟩) D2 (by simp); have E3 := hg4.cell (a := ⟨b0, o0 + 1, none⟩) n0 (by simp)))
      have HO1 : Hid (w3.ownsRow w.heap.size 44 4 (.slice (some ⟨g3, 0, none⟩) 2 c3) 2 (cellsN [(2, n, 0, dir), (4, n, K0, dir)])) := by unfold Hid; simpa [cellsN] using ho3
      have HB := Lib.hid (HB.out.grown hg4 HB.out.size (fun k hk => by cases hk))
      have XD := Lib.hid ((hg4.block _ (block_lt XD.out) (by simp)).trans XD.out)
      clear ho3 hg3 hg4 hat hlt3 E0 E1 E2 E3 D0 D1 D2 n0
      simp only [Nat.zero_add]
      have D0 : w3.cell? ⟨w.heap.size, 0, none⟩ = some (.int .i64 7) := block_cell XD.out 0
      have D1 : w3.cell? ⟨w.heap.size, 1, none⟩ = some (.int .i64 n) := block_cell XD.out 1
      have D2 : w3.cell? ⟨w.heap.size, 2, none⟩ = some (.slice (some ⟨b0, o0, none⟩) m cap) := block_cell XD.out 2
      go_wp2_with fail
      clear D0 D1 D2
      go_loopw [5, 7] (fun v i wr => ∃ (j L : Nat) (A : Option Addr) (c : Nat), j ≤ m ∧ i = .int .i64 j ∧ v = .slice A L c ∧ Hid (L = (own ++ Tr.namesL (t.kids.take j) 0).length) ∧ L ≤ 2097154 ∧ Hid (wr.ownsRow w.heap.size 44 4 (.slice A L c) L (cellsN (own ++ Tr.namesL (t.kids.take j) 0))) ∧ Hid (Below w.heap.size w wr) ∧ Hid (wr.heap[w.heap.size]? = some (.cells #[.int .i64 7, .int .i64 n, .slice (some ⟨b0, o0, none⟩) m cap] 24 (0, 0)))) (fun _ i _ => m - (intOf i).toNat)
      case atStart => exact ⟨0, 2, (some ⟨g3, 0, none⟩), c3, Nat.zero_le _, rfl, rfl, by unfold Hid; rw [← hown.out]; rfl, by omega, by unfold Hid; rw [← hown.out]; simpa [Tr.namesL] using HO1.out, HB.out, XD.out⟩
      case round =>
        obtain ⟨j, L, A, c, hj, rfl, rfl, HL, hL, HO, HB, XD⟩ := hrel
        have d2 : wr.cell? ⟨w.heap.size, 2, none⟩ = some (.slice (some ⟨b0, o0, none⟩) m cap) := block_cell XD.out 2
        by_cases hlt : j < m
        · obtain ⟨b, off, k', n', a', m', c', hab, hbl, h0, h1, h2, hcall⟩ := IHK.out j hlt wr HB.out
          simp only [Option.some.injEq, Addr.mk.injEq, and_true] at hab
          obtain ⟨rfl, rfl⟩ := hab
          have HCALL := Lib.hid (hcall wr (Below.refl _ _))
          have i0' : (0 : Int) ≤ (j : Int) := by omega
          have i1' : (j : Int) < (m : Int) := by omega
          have HTJ := Lib.hid (HTK.out j hlt)
          have hbd := HBD.out (j + 1) (by omega)
          rw [HTJ.out, List.length_append, ← HL.out] at hbd
          have HBJ := Lib.hid hbd
          have hbs := HB.out.size
          clear hcall hbd
          go_wp2_with fail
          refine HCALL.out.mono ?_; rintro e w2 ⟨a2, c2, rfl, ho2, hb2⟩
          obtain ⟨M, hM⟩ : ∃ M, ((Tr.kid t.kids j).names 0).length = M := ⟨_, rfl⟩
          rw [hM] at ho2 HBJ ⊢
          have HM := Lib.hid hM
          have hLM : L + M ≤ 2097154 := HBJ.out
          have HO2 := Lib.hid ho2
          have HO1 := Lib.hid (own_later3 HO.out hb2)
          have hs2 := hb2.size
          have HBB := Lib.hid (chain HB.out hb2)
          have XX := Lib.hid ((hb2.block _ (block_lt XD.out)).trans XD.out)
          clear hM ho2 hb2 h0 h1 h2 d2
          go_wp2_with (at_builtin; refine wpList_append_two _ rfl _ _ 40 rfl w.heap.size 44 i0 (.agg #[.int .i64 0, .int .i64 0, .int .i64 0, .int .i64 0]) 4 32 Tryz.underlying40 hi hz0 hz1 hz2 rfl (by decide) _ L _ rfl HO1.out _ _ M _ rfl HO2.out (cellsN_one _) (by unfold maxLen; omega) (by omega) (by omega) ?_)
          intro v' w3 ho3 hg3 _
          obtain ⟨a3, c3, rfl, _, _⟩ := own_slice2 ho3
          have HO3 : Hid (w3.ownsRow w.heap.size 44 4 (.slice a3 (L + M) c3) (L + M) (cellsN (own ++ Tr.namesL (t.kids.take (j + 1)) 0))) := by
            unfold Hid
            rw [HTJ.out, cellsN_append (own ++ _)]
            exact ho3
          have HL3 : Hid (L + M = (own ++ Tr.namesL (t.kids.take (j + 1)) 0).length) := by unfold Hid; rw [HTJ.out, List.length_append, ← HL.out, HM.out]
          have HB3 := Lib.hid (HBB.out.grown hg3 (by omega) (own_lt3 HO1.out))
          have XX3 := Lib.hid ((hg3.block _ (block_lt XX.out) (Ne.symm (own_type HO1.out XX.out (by decide)))).trans XX.out)
          clear ho3 hg3
          go_wp2_with fail
          go_roundw
          case rel => exact ⟨j + 1, L + M, a3, c3, by omega, by go_num, rfl, HL3.out, hLM, HO3.out, HB3.out, XX3.out⟩
          case measure => simp [intOf]; omega
        · obtain rfl : j = m := by omega
          have hE : (own ++ Tr.namesL (t.kids.take j) 0) = own ++ Tr.namesL t.kids 0 := by rw [HEND.out]
          have HE := Lib.hid hE
          clear hE
          go_wp2_with fail
          go_ret
          refine ⟨A, c, ?_, ?_, HB.out⟩
          · rw [← HE.out, ← HL.out]; rfl
          · rw [← HE.out, ← HL.out]; exact HO.out
end Go.Proofs.YtcckfeikaolfgaaGreat

namespace Go.Proofs.YtcckfeikaolfgaaGreat
open Go.RowKit
set_option linter.unusedVariables false
set_option linter.unusedSimpArgs false
set_option maxRecDepth 100000
set_option maxRecDepth 20000
def nmAt (xs : List Nm) (i : Nat) : Nm := xs.getD i (0, 0, 0, 0)
theorem nmAt_get {xs : List Nm} {i : Nat} (h : i < xs.length) : nmAt xs i = xs[i] := by simp [nmAt, h]
theorem nmAt_mem {xs : List Nm} {i : Nat} (h : i < xs.length) : nmAt xs i ∈ xs := by rw [nmAt_get h]; exact List.getElem_mem h
theorem cellsN_at (xs : List Nm) : ∀ i, i < xs.length → (cellsN xs)[i * 4]? = some (.int .i64 (nmAt xs i).1) ∧ (cellsN xs)[i * 4 + 1]? = some (.int .i64 (nmAt xs i).2.1) ∧ (cellsN xs)[i * 4 + 2]? = some (.int .i64 (nmAt xs i).2.2.1) ∧ (cellsN xs)[i * 4 + 3]? = some (.int .i64 (nmAt xs i).2.2.2) := by
  induction xs with
  | nil => intro i h; simp at h
  | cons x xs ih =>
    intro i h
    cases i with
    | zero => simp [cellsN, nmAt]
    | succ i =>
      obtain ⟨h0, h1, h2, h3⟩ := ih i (by simpa using h)
      refine ⟨?_, ?_, ?_, ?_⟩
      · rw [show (i + 1) * 4 = i * 4 + 4 by omega]; exact h0
      · rw [show (i + 1) * 4 + 1 = i * 4 + 1 + 4 by omega]; exact h1
      · rw [show (i + 1) * 4 + 2 = i * 4 + 2 + 4 by omega]; exact h2
      · rw [show (i + 1) * 4 + 3 = i * 4 + 3 + 4 by omega]; exact h3
/-- The slice at address a reads as the names. -/
def RowN (w : World) (a : Option Addr) (xs : List Nm) : Prop :=
  xs = [] ∨ ∃ b off, a = some ⟨b, off, none⟩ ∧ b < w.heap.size ∧ ∀ i, i < xs.length → w.cell? ⟨b, off + i * 4, none⟩ = some (.int .i64 (nmAt xs i).1) ∧ w.cell? ⟨b, off + i * 4 + 1, none⟩ = some (.int .i64 (nmAt xs i).2.1) ∧ w.cell? ⟨b, off + i * 4 + 2, none⟩ = some (.int .i64 (nmAt xs i).2.2.1) ∧ w.cell? ⟨b, off + i * 4 + 3, none⟩ = some (.int .i64 (nmAt xs i).2.2.2)
theorem RowN.at {w : World} {a : Option Addr} {xs : List Nm} (h : RowN w a xs) (i : Nat) (hi : i < xs.length) : ∃ b off, a = some ⟨b, off, none⟩ ∧ b < w.heap.size ∧ w.cell? ⟨b, off + i * 4, none⟩ = some (.int .i64 (nmAt xs i).1) ∧ w.cell? ⟨b, off + i * 4 + 1, none⟩ = some (.int .i64 (nmAt xs i).2.1) ∧ w.cell? ⟨b, off + i * 4 + 2, none⟩ = some (.int .i64 (nmAt xs i).2.2.1) ∧ w.cell? ⟨b, off + i * 4 + 3, none⟩ = some (.int .i64 (nmAt xs i).2.2.2) := by
  rcases h with rfl | ⟨b, off, h1, h2, h3⟩
  · simp at hi
  · exact ⟨b, off, h1, h2, h3 i hi⟩
theorem RowN.below {w w' : World} {a : Option Addr} {xs : List Nm} (h : RowN w a xs) (hb : Below w.heap.size w w') : RowN w' a xs := by
  rcases h with h | ⟨b, off, h1, h2, h3⟩
  · exact .inl h
  · refine .inr ⟨b, off, h1, Nat.lt_of_lt_of_le h2 hb.size, fun i hi => ?_⟩
    obtain ⟨e0, e1, e2, e3⟩ := h3 i hi
    have e := fun o => hb.cell (p := ⟨b, o, none⟩) h2
    exact ⟨(e _).trans e0, (e _).trans e1, (e _).trans e2, (e _).trans e3⟩
theorem RowN.of_own {w : World} {base : Nat} {e : TypeId} {a : Option Addr} {n cap : Nat} {xs : List Nm} (h : w.ownsRow base e 4 (.slice a n cap) n (cellsN xs)) (hn : xs.length = n) : RowN w a xs := by
  rcases h.2 with ⟨hv, h0⟩ | ⟨g, cap', cur, hv, _, hg, _⟩
  · exact .inl (List.eq_nil_of_length_eq_zero (by omega))
  · simp only [Value.slice.injEq, true_and] at hv
    obtain ⟨rfl, rfl⟩ := hv
    refine .inr ⟨g, 0, rfl, block_lt hg, fun i hi => ?_⟩
    obtain ⟨e0, e1, e2, e3⟩ := cellsN_at xs i hi
    refine ⟨?_, ?_, ?_, ?_⟩
    · rw [Nat.zero_add, h.cellAt _ (by omega), e0]
    · rw [Nat.zero_add, h.cellAt _ (by omega), e1]
    · rw [Nat.zero_add, h.cellAt _ (by omega), e2]
    · rw [Nat.zero_add, h.cellAt _ (by omega), e3]
end Go.Proofs.YtcckfeikaolfgaaGreat
namespace Go.Proofs.YtcckfeikaolfgaaGreat
open Go.RowKit
set_option linter.unusedVariables false
set_option linter.unusedSimpArgs false
set_option maxRecDepth 20000
theorem ref15_Check (t : Tr) (k n : Int) (a : Option Addr) (m cap : Nat) (dir : Int) (w : World) (B : Nat) (hB : B ≤ w.heap.size) (hs : t.size ≤ 4194304) (hT : IsT w (Lt B) k n a m cap t) :
    Calls Tryz.prog 13 #[.agg #[.int .i64 k, .int .i64 n, .slice a m cap], .int .i64 dir] w fun e w' => e = .returned (.int .i64 (errN t dir)) ∧ Below w.heap.size w w' := by
  show Calls Tryz.prog _ _ w fun e w' => e = .returned (.int .i64 (if dir ≠ 0 ∧ dir ≠ 1 then 2 else chk t)) ∧ Below w.heap.size w w'
  by_cases hd : dir ≠ 0 ∧ dir ≠ 1
  · rw [if_pos hd]
    have t0 : (dir != 0) = true := bdiff hd.1
    have t1 : (dir != 1) = true := bdiff hd.2
    clear hd hT
    go_enter Tryz.func13, Tryz.ntmps13
    go_wp2_with fail
    go_ret
    exact ⟨rfl, (Below.refl _ _).alloc (Nat.le_refl _) _⟩
  · rw [if_neg hd]
    have CC : Hid (∀ W, Below w.heap.size w W → Calls Tryz.prog 24 #[.agg #[.int .i64 k, .int .i64 n, .slice a m cap]] W fun e w' => e = .returned (.int .i64 (chk t)) ∧ Below W.heap.size W w') := fun W hb => ref14_Check t k n a m cap W B (Nat.le_trans hB hb.size) hs (hT.below hb)
    rcases (show dir = 0 ∨ dir = 1 by omega) with rfl | rfl
    all_goals
      clear hd hT
      go_enter Tryz.func13, Tryz.ntmps13
      go_wp2_with fail
      refine (CC.out _ ((Below.refl _ _).alloc (Nat.le_refl _) _)).mono ?_; rintro e w1 ⟨rfl, hb⟩
      have hb1 := chainA (Below.refl w.heap.size w) hb
      clear hb
      go_wp2_with fail
      go_ret
      exact ⟨rfl, hb1⟩
end Go.Proofs.YtcckfeikaolfgaaGreat

namespace Go.Proofs.YtcckfeikaolfgaaGreat
open Go.RowKit Sm
set_option linter.unusedVariables false
set_option linter.unusedSimpArgs false
set_option maxRecDepth 100000
theorem vec_RedON (a : Option Addr) (n cap : Nat) (xs : List Int) (w : World) (hx : Row .u64 w a xs) (hn : xs.length = n) (hl : n ≤ 16777216) :
    Calls Tryz.prog 31 #[.slice a n cap] w (GivesOwn .u64 38 (xs.map (· % 18446744069414584321)) w) := by
  subst hn; exact vec_RedO a cap xs w hx hl
end Go.Proofs.YtcckfeikaolfgaaGreat

