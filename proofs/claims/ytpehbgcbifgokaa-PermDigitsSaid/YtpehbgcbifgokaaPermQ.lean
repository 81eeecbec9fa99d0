/- Places by bits backwards: the program's and the reference's. -/
import Derived.Test.YtpehbgcbifgokaaPermP
import Derived.Test.YtpehbgcbifgokaaRowZeros
namespace Go.Proofs.Ytpehbgcbifgokaa
open Go.RowKit
set_option linter.unusedVariables false
set_option linter.unusedSimpArgs false

theorem permBits_range (n : Int) (w : World) (h : n < 1 ∨ 16777216 < n) :
    Calls Try.prog 48 #[.int .i64 n] w fun e w' => e = .returned (.tuple #[.slice none 0 0, .int .i64 3]) ∧ w = w' := by
  rcases (show n < 1 ∨ (1 ≤ n ∧ 16777216 < n) by omega) with h1 | ⟨h1, h2⟩
  all_goals
    clear h
    go_enter Try.func48, Try.ntmps48
    go_wp2_with fail
    go_ret2
    exact ⟨rfl, rfl⟩
theorem permBits_arg (n : Nat) (w : World) (h1 : 1 ≤ n) (h2 : n ≤ 16777216) (hP : isP2 n = false) :
    Calls Try.prog 48 #[.int .i64 n] w fun e w' => e = .returned (.tuple #[.slice none 0 0, .int .i64 2]) ∧ w = w' := by
  obtain ⟨m, hm⟩ : ∃ m : Nat, n - 1 = m := ⟨_, rfl⟩
  have e1 : (n : Int) - 1 = (m : Int) := by omega
  have hb := bits_and_nat n m (by omega) (by omega)
  obtain ⟨q, hq⟩ : ∃ q, n &&& m = q := ⟨_, rfl⟩
  have hq0 : q ≠ 0 := by
    rw [isP2_nat, hm, hq] at hP
    intro e
    rw [e] at hP
    simp at hP; omega
  rw [hq] at hb
  have hq1 : ((q : Int) != 0) = true := by simp; omega
  clear hq hP hq0 hm
  go_enter Try.func48, Try.ntmps48
  go_wp2_with fail
  go_ret2
  exact ⟨rfl, rfl⟩

theorem bl_pow : ∀ L : Fin 10, Lib.bitLen (2 ^ L.val - 1) = L.val := by decide +kernel
theorem and_pow : ∀ L : Fin 10, 2 ^ L.val &&& (2 ^ L.val - 1) = 0 := by decide +kernel

set_option maxHeartbeats 1000000 in
theorem permBits_ok (n L : Nat) (w : World) (hL : L < 10) (hn : n = 2 ^ L) :
    Calls Try.prog 48 #[.int .i64 n] w (GivesRowE .i64 (dblN L) 0 w) := by
  obtain ⟨i0, hi, hz0, hz1, hz2⟩ := info_parts info_int
  have hn5 : n ≤ 512 := by rw [hn]; have : 2 ^ L ≤ 2 ^ 9 := Nat.pow_le_pow_right (by omega) (by omega); simpa using this
  have hn1 : 1 ≤ n := by rw [hn]; exact Nat.two_pow_pos L
  obtain ⟨m, hm⟩ : ∃ m : Nat, n - 1 = m := ⟨_, rfl⟩
  have e1 : (n : Int) - 1 = (m : Int) := by omega
  have hb := bits_and_nat n m (by omega) (by omega)
  have ha := and_pow ⟨L, hL⟩
  have hbl := bl_pow ⟨L, hL⟩
  simp only [] at ha hbl
  rw [← hn, hm] at ha hbl
  rw [ha] at hb
  have hb' : bits .and .i64 (n : Int) (m : Int) = 0 := hb
  have C1 : Hid (∀ w : World, Calls Try.prog 70 #[.int .u64 m] w fun e w' => e = .returned (.int .i64 L) ∧ w = w') := fun w => by
    have := bits_Len m w (by omega) (by omega)
    rw [Int.toNat_natCast, hbl] at this
    exact this
  obtain ⟨s, hs⟩ : ∃ s : Nat, 64 - L = s := ⟨_, rfl⟩
  have hs1 : (64 : Int) - (L : Int) = (s : Int) := by omega
  have hs2 : s ≤ 64 := by omega
  have HV : Hid (∀ k, k < n → IntKind.i64.wrap (revZ (k : Int) / 2 ^ s) = nth (dblN L) k) := fun k hk => by
    have h1 := rev_dbl ⟨L, hL⟩
    simp only [] at h1
    rw [hs, ← hn] at h1
    rw [← h1]
    exact (nth_ofFn (fun i : Nat => IntKind.i64.wrap (revZ (i : Int) / 2 ^ s)) n k hk).symm
  have HDL : Hid ((dblN L).length = n) := (dblN_len L).trans hn.symm
  have HDF : Hid (∀ x ∈ dblN L, fits .i64 x) := fun x hx => by
    have h1 := dbl_all ⟨L, hL⟩ x hx
    have h4 : (2 : Int) ^ L = (n : Int) := by rw [hn, Int.natCast_pow]; rfl
    simp only [] at h1
    rw [h4] at h1
    exact fits_i64.2 (by omega)
  clear hn hm hb ha hbl hs
  go_enter Try.func48, Try.ntmps48
  go_wp2_with fail
  refine (C1.out _).mono ?_; rintro e w' ⟨rfl, rfl⟩
  go_wp2_with (at_make; refine wpList_make_full _ rfl _ _ 35 rfl w.heap.size 3 i0 (.int .i64 0) 1 Try.underlying35 hi hz0 hz1 .i64 .i64 n n n rfl rfl rfl rfl (by rw [hz2]; omega) (by unfold maxLen; omega) (Nat.le_refl _) ?_)
  intro w2 hown0 hgrow0
  have hown := Own.made hown0 hgrow0
  clear hown0 hgrow0
  go_wp2_with fail
  go_loopw [27] (fun i wr => ∃ k : Nat, k ≤ n ∧ i = .int .i64 k ∧ OwnAt .i64 3 w wr w.heap.size n (fun j => if j < k then nth (dblN L) j else 0)) (fun i _ => n - (intOf i).toNat)
  case atStart => exact ⟨0, Nat.zero_le _, rfl, by simpa using hown⟩
  case round =>
    obtain ⟨k, hk, rfl, hown⟩ := hrel
    by_cases hlt : k < n
    · have hv := HV.out k hlt
      have hcell := hown.cell k hlt
      rw [if_neg (Nat.lt_irrefl k)] at hcell
      have hfz := hown.free k
      have hnext := hown.store k hlt (nth (dblN L) k) (f' := fun j => if j < k + 1 then nth (dblN L) j else 0) (by rw [if_pos (by omega)]) (fun j _ hj => by
        by_cases h : j < k
        · rw [if_pos h, if_pos (by omega)]
        · rw [if_neg h, if_neg (by omega)])
      have HNX := Lib.hid hnext
      clear hown hnext
      go_wp2_with fail
      refine (bits_Rev64 _ _).mono ?_; rintro e w' ⟨rfl, rfl⟩
      go_wp2_with fail
      go_roundw
      case rel => exact ⟨k + 1, by omega, by go_num, HNX.out⟩
      case measure => simp [intOf]; omega
    · have hkn : k = n := by omega
      obtain ⟨a2, cap2, he, hr2, hcap2, hb2⟩ := hown.gives (xs := dblN L) HDL.out HDF.out (fun i hi => by rw [if_pos (by omega)]) (by omega)
      simp only [Ending.returned.injEq, Value.slice.injEq] at he
      obtain ⟨rfl, hx1, rfl⟩ := he
      rw [HDL.out] at hcap2
      have HR := Lib.hid hr2
      clear hown hr2 hx1
      go_wp2_with fail
      go_ret2
      exact ⟨some ⟨w.heap.size, 0, none⟩, n, by simp [HDL.out], HR.out, by rw [HDL.out]; exact hcap2, hb2⟩

/-! ### The reference's -/
def lenV : Value → Nat
  | .slice _ n _ => n
  | _ => 0
theorem nth_dbl1 (l : List Int) (k : Nat) (h : k < l.length) : nth (dbl l) k = 2 * nth l k := by
  unfold dbl; rw [nth_append_left (by simpa using h), nth_map _ _ _ h]
theorem nth_dbl2 (l : List Int) (k : Nat) (h : k < l.length) : nth (dbl l) (l.length + k) = 2 * nth l k + 1 := by
  unfold dbl; rw [nth_append_right (by simp), List.length_map, nth_map _ _ _ (by omega), Nat.add_sub_cancel_left]

set_option maxHeartbeats 2000000 in
theorem refBits (n L : Nat) (w : World) (hL : L < 10) (hn : n = 2 ^ L) :
    Calls Try.prog 50 #[.int .i64 n] w (GivesRow .i64 (dblN L) w) := by
  obtain ⟨i0, hi, hz0, hz1, hz2⟩ := info_parts info_int
  have hn5 : n ≤ 512 := by rw [hn]; have : 2 ^ L ≤ 2 ^ 9 := Nat.pow_le_pow_right (by omega) (by omega); simpa using this
  have HN := Lib.hid hn
  have HJ : Hid (∀ j q, j < 10 → 2 ^ j = q → ∀ k, k < q → 0 ≤ nth (dblN j) k ∧ nth (dblN j) k < 512) := fun j q hj hq k hk => by
    have h1 := dbl_all ⟨j, hj⟩ _ (nth_mem (show k < (dblN j).length by rw [dblN_len, hq]; exact hk))
    have h2 : (2 : Int) ^ j ≤ 512 := by
      have h3 : 2 ^ j ≤ 2 ^ 9 := Nat.pow_le_pow_right (by omega) (by omega)
      have h4 : (2 : Int) ^ j = ((2 ^ j : Nat) : Int) := by rw [Int.natCast_pow]; rfl
      rw [h4]; omega
    simp only [] at h1
    omega
  have r0 : Row .i64 (w.alloc (.cells #[.int .i64 0] 3)) (some ⟨w.heap.size, 0, none⟩) [0] := row_new .i64 w 3 [0] (by intro x hx; simp at hx; subst hx; exact fits_i64.2 (by omega)) (by simp)
  have R0 := Lib.hid r0
  clear hn r0
  go_enter Try.func50, Try.ntmps50
  go_wp2_with fail
  go_loopw [3] (fun v wr => ∃ (j q : Nat) (a : Option Addr) (c : Nat), j ≤ L ∧ Hid (2 ^ j = q) ∧ 1 ≤ q ∧ q ≤ n ∧ v = .slice a q c ∧ Row .i64 wr a (dblN j) ∧ OkCap a q c ∧ Below w.heap.size w wr) (fun v _ => n - lenV v)
  case atStart => exact ⟨0, 1, some ⟨w.heap.size, 0, none⟩, 1, Nat.zero_le _, rfl, Nat.le_refl _, by rw [HN.out]; exact Nat.two_pow_pos L, rfl, R0.out, ⟨Nat.le_refl _, fun h => by cases h⟩, (Below.refl _ _).alloc (Nat.le_refl _) _⟩
  case round =>
    obtain ⟨j, q, a, c, hj, hq, hq1, hqn, rfl, hrow, hcap, hbel⟩ := hrel
    by_cases hlt : q < n
    · have hjL : j < L := by
        rcases Nat.lt_or_ge j L with h | h
        · exact h
        · have : j = L := by omega
          subst this
          have := HN.out; rw [hq.out] at this; omega
      have hq2 : 2 * q ≤ n := by
        have h1 : 2 ^ (j + 1) ≤ 2 ^ L := Nat.pow_le_pow_right (by omega) hjL
        rw [Nat.pow_succ, hq.out, ← HN.out] at h1; omega
      obtain ⟨l, hl⟩ : ∃ l, dblN j = l := ⟨_, rfl⟩
      have hll : l.length = q := by rw [← hl, dblN_len]; exact hq.out
      have HV := Lib.hid (HJ.out j q (by omega) hq.out)
      rw [hl] at hrow HV
      have HROW := Lib.hid hrow
      have HBEL := Lib.hid hbel
      have HLL := Lib.hid hll
      have HL := Lib.hid hl
      obtain ⟨bk, off, rfl, _⟩ := hrow.at (by omega)
      clear hrow hbel hll hl hcap
      have HDF : Hid (∀ x ∈ dbl l, fits .i64 x) := fun x hx => by
        rcases List.mem_append.1 hx with h | h
        · obtain ⟨y, hy, rfl⟩ := List.mem_map.1 h
          obtain ⟨i, hi, rfl⟩ := List.mem_iff_getElem.1 hy
          have := HV.out i (by rw [← HLL.out]; exact hi)
          have e : nth l i = l[i] := by simp [nth, hi]
          rw [e] at this
          exact fits_i64.2 (by omega)
        · obtain ⟨y, hy, rfl⟩ := List.mem_map.1 h
          obtain ⟨i, hi, rfl⟩ := List.mem_iff_getElem.1 hy
          have := HV.out i (by rw [← HLL.out]; exact hi)
          have e : nth l i = l[i] := by simp [nth, hi]
          rw [e] at this
          exact fits_i64.2 (by omega)
      have HD2 : Hid ((dbl l).length = q + q) := by unfold Hid dbl; rw [List.length_append, List.length_map, List.length_map, HLL.out]
      obtain ⟨wo, hwo⟩ : ∃ wo : World, wo = wr := ⟨_, rfl⟩
      subst hwo
      go_wp2_with fail
      go_loopw [4, 5] (fun v i wr => ∃ k : Nat, k ≤ q ∧ i = .int .i64 k ∧ Own .i64 3 wo wr v k (fun j => nth (dbl l) j)) (fun _ i _ => q - (intOf i).toNat)
      case atStart => exact ⟨0, Nat.zero_le _, rfl, Own.nil _ _ _ _⟩
      case round =>
        obtain ⟨k, hk, rfl, hown⟩ := hrel
        by_cases hkq : k < q
        · obtain ⟨bk', off', hbo, hc⟩ := (HROW.out.below hown.below).at (by rw [HLL.out]; omega)
          simp only [Option.some.injEq, Addr.mk.injEq, and_true] at hbo
          obtain ⟨rfl, rfl⟩ := hbo
          have hck := hc k (by rw [HLL.out]; exact hkq)
          have hv := HV.out k hkq
          have HX : Hid (2 * nth l k = (fun j => nth (dbl l) j) k) := (nth_dbl1 l k (by rw [HLL.out]; exact hkq)).symm
          obtain ⟨x, hx⟩ : ∃ x, nth l k = x := ⟨_, rfl⟩
          rw [hx] at hck hv HX
          clear hc hx
          go_wp2_with (at_builtin; refine wpList_append_own _ rfl _ _ 35 rfl wo.heap.size 3 i0 (.int .i64 0) 1 8 Try.underlying35 hi hz0 hz1 hz2 rfl (by decide) _ _ _ rfl (hown.own.alloc _) ⟨wr.heap.size, 0, none⟩ 1 1 [.int .i64 (2 * x)] rfl rfl (cell_one_new _ _ _) (one_cell _ _) (by unfold maxLen; omega) (by omega) (size_alloc_le hown.below _) ?_)
          intro v' w1 hown' hgrow _
          have hnext := hown.push (2 * x) HX.out hown' hgrow
          clear hown' hgrow
          go_wp2_with fail
          go_roundw
          case rel => exact ⟨k + 1, by omega, by go_num, hnext⟩
          case measure => simp [intOf]; omega
        · have hkq' : k = q := by omega
          subst hkq'
          have HOWN := Lib.hid hown
          clear hown
          obtain ⟨wp, hwp⟩ : ∃ wp : World, wp = wr := ⟨_, rfl⟩
          subst hwp
          go_wp2_with fail
          go_loopw [4, 6] (fun v i wr => ∃ t : Nat, t ≤ k ∧ i = .int .i64 t ∧ Own .i64 3 wo wr v (k + t) (fun j => nth (dbl l) j)) (fun _ i _ => k - (intOf i).toNat)
          case atStart => exact ⟨0, Nat.zero_le _, rfl, HOWN.out⟩
          case round =>
            obtain ⟨t, ht, rfl, hown⟩ := hrel
            by_cases htq : t < k
            · obtain ⟨bk', off', hbo, hc⟩ := (HROW.out.below hown.below).at (by rw [HLL.out]; omega)
              simp only [Option.some.injEq, Addr.mk.injEq, and_true] at hbo
              obtain ⟨rfl, rfl⟩ := hbo
              have hck := hc t (by rw [HLL.out]; exact htq)
              have hv := HV.out t htq
              have HX : Hid (2 * nth l t + 1 = (fun j => nth (dbl l) j) (k + t)) := by
                have := nth_dbl2 l t (by rw [HLL.out]; exact htq)
                rw [HLL.out] at this
                exact this.symm
              obtain ⟨x, hx⟩ : ∃ x, nth l t = x := ⟨_, rfl⟩
              rw [hx] at hck hv HX
              clear hc hx
              go_wp2_with (at_builtin; refine wpList_append_own _ rfl _ _ 35 rfl wo.heap.size 3 i0 (.int .i64 0) 1 8 Try.underlying35 hi hz0 hz1 hz2 rfl (by decide) _ _ _ rfl (hown.own.alloc _) ⟨wr.heap.size, 0, none⟩ 1 1 [.int .i64 (2 * x + 1)] rfl rfl (cell_one_new _ _ _) (one_cell _ _) (by unfold maxLen; omega) (by omega) (size_alloc_le hown.below _) ?_)
              intro v' w1 hown' hgrow _
              have hnext := hown.push (2 * x + 1) HX.out hown' hgrow
              clear hown' hgrow
              go_wp2_with fail
              go_roundw
              case rel => exact ⟨t + 1, by omega, by go_num, hnext⟩
              case measure => simp [intOf]; omega
            · have htq' : t = k := by omega
              subst htq'
              obtain ⟨a2, cap2, he, hr2, hcap2, hb2⟩ := hown.gives (xs := dbl l) HD2.out HDF.out (fun i hi => rfl) (by omega)
              simp only [Ending.returned.injEq] at he
              rw [HD2.out] at he hcap2
              subst he
              have HR := Lib.hid hr2
              have HB := Lib.hid (chain HBEL.out hb2)
              have HC := Lib.hid hcap2
              clear hown hr2 hcap2 hb2
              go_wp2_with fail
              go_roundw
              case rel => exact ⟨j + 1, t + t, a2, cap2, hjL, by unfold Hid; rw [Nat.pow_succ, hq.out]; omega, by omega, by omega, rfl, by show Row _ _ _ (dbl (dblN j)); rw [HL.out]; exact HR.out, HC.out, HB.out⟩
              case measure => simp [lenV]; omega
    · have hqn' : q = n := by omega
      have hjL : j = L := by
        rcases Nat.lt_or_ge j L with h | h
        · have h1 : 2 ^ j < 2 ^ L := Nat.pow_lt_pow_right (by omega) h
          rw [hq.out, ← HN.out] at h1; omega
        · omega
      subst hqn' hjL
      have HLQ : Hid ((dblN j).length = q) := (dblN_len j).trans hq.out
      have HG : GivesRow .i64 (dblN j) w (.returned (.slice a q c)) wr := ⟨a, c, by rw [HLQ.out], hrow, by rw [HLQ.out]; exact hcap, hbel⟩
      have HGG := Lib.hid HG
      clear hrow hcap hbel HG
      go_wp2_with fail
      go_ret
      exact HGG.out
end Go.Proofs.Ytpehbgcbifgokaa
