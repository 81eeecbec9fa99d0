/- Digits: the reference's order, by recursion. -/
import Derived.Test.YtpehbgcbifgokaaDigB
namespace Go.Proofs.Ytpehbgcbifgokaa
open Go.RowKit
set_option linter.unusedVariables false
set_option linter.unusedSimpArgs false

theorem digL_fits (rs : List Nat) (h2 : ∀ r ∈ rs, 2 ≤ r) (hp : pdN rs ≤ 16777216) : ∀ x ∈ digL rs, fits .i64 x := fun x hx => by
  obtain ⟨i, _, rfl⟩ := List.mem_map.1 hx
  have := tn_lt rs h2 i
  exact fits_i64.2 (by omega)
theorem digL_range (rs : List Nat) (h2 : ∀ r ∈ rs, 2 ≤ r) (i : Nat) (hi : i < pdN rs) : 0 ≤ nth (digL rs) i ∧ nth (digL rs) i < pdN rs := by
  rw [nth_digL _ _ hi]; have := tn_lt rs h2 i; omega
theorem nth_digC (r : Nat) (t : List Nat) (hr : 0 < r) (i d : Nat) (hi : i < pdN t) (hd : d < r) : nth (digL (r :: t)) (i * r + d) = (d : Int) * (pdN t : Int) + nth (digL t) i := by
  have hlt : i * r + d < pdN (r :: t) := by
    show _ < r * pdN t
    have h3 : (i + 1) * r ≤ pdN t * r := Nat.mul_le_mul_right _ hi
    rw [Nat.succ_mul, Nat.mul_comm (pdN t)] at h3
    omega
  rw [nth_digL _ _ hlt, tn_cons, nth_digL _ _ hi]
  have e1 : (i * r + d) % r = d := by rw [Nat.add_comm, Nat.add_mul_mod_self_right, Nat.mod_eq_of_lt hd]
  have e2 : (i * r + d) / r = i := by rw [Nat.add_comm, Nat.add_mul_div_right _ _ hr, Nat.div_eq_of_lt hd, Nat.zero_add]
  rw [e1, e2, Int.natCast_add, Int.natCast_mul]

set_option maxHeartbeats 2000000 in
theorem ref_Digits (rs : List Nat) : ∀ (a : Option Addr) (n c : Nat) (w : World), Row .i64 w a (natL rs) → rs.length = n → n ≤ c → (∀ r ∈ rs, 2 ≤ r) → pdN rs ≤ 100000 →
    Calls Try.prog 54 #[.slice a n c] w (GivesRow .i64 (digL rs) w) := by
  induction rs with
  | nil =>
    intro a n c w hx hn hc h2 hp
    subst hn
    have e0 : digL [] = [0] := by decide
    have HG : Hid (GivesRow .i64 (digL []) w (.returned (.slice (some ⟨w.heap.size, 0, none⟩) 1 1)) (w.alloc (.cells #[.int .i64 0] 3))) := by
      unfold Hid; rw [e0]
      exact ⟨_, 1, rfl, row_new .i64 w 3 [0] (by intro x hx; simp at hx; subst hx; exact fits_i64.2 (by omega)) (by simp), ⟨Nat.le_refl _, fun h => by cases h⟩, (Below.refl _ _).alloc (Nat.le_refl _) _⟩
    clear hx h2 hp hc
    go_enter Try.func54, Try.ntmps54
    go_wp2_with fail
    go_ret
    exact HG.out
  | cons r t ih =>
    intro a n c w hx hn hc h2 hp
    obtain ⟨i0, hi, hz0, hz1, hz2⟩ := info_parts info_int
    have hr2 : 2 ≤ r := h2 r (by simp)
    have ht2 : ∀ x ∈ t, 2 ≤ x := fun x hx => h2 x (by simp [hx])
    have hpt : r * pdN t ≤ 100000 := hp
    have hpt1 : 1 ≤ pdN t := pdN_pos t ht2
    have hpt2 : pdN t ≤ 100000 := Nat.le_trans (Nat.le_mul_of_pos_left (pdN t) (by omega)) hpt
    have hr3 : r ≤ 100000 := Nat.le_trans (Nat.le_mul_of_pos_right r hpt1) hpt
    have hn1 : t.length + 1 = n := by rw [← hn]; rfl
    obtain ⟨m, hm⟩ : ∃ m, t.length = m := ⟨_, rfl⟩
    have hnl := hx.len
    rw [natL_len, hn] at hnl
    obtain ⟨b, off, rfl, hcell⟩ := hx.at (by rw [natL_len, hn]; omega)
    have hc0 := hcell 0 (by rw [natL_len, hn]; omega)
    rw [Nat.add_zero] at hc0
    have e0 : nth (natL (r :: t)) 0 = (r : Int) := rfl
    rw [e0] at hc0
    have hcut : Row .i64 w (some ⟨b, off + 1, none⟩) (natL t) := by
      have := hx.cut 1 n
      rwa [List.take_of_length_le (by rw [natL_len, hn]; exact Nat.le_refl _)] at this
    have hnm : n = m + 1 := by omega
    have CR : Hid (∀ (w : World) (a' : Option Addr) (c : Nat), Row .i64 w a' (natL t) → m ≤ c → Calls Try.prog 54 #[.slice a' m c] w (GivesRow .i64 (digL t) w)) := fun w a' c hw hmc => ih a' m c w hw hm hmc ht2 hpt2
    have HDT : Hid ((digL t).length = pdN t) := digL_len t
    obtain ⟨q, hq⟩ : ∃ q, pdN t = q := ⟨_, rfl⟩
    have HRG : Hid (∀ i, i < q → 0 ≤ nth (digL t) i ∧ nth (digL t) i < q) := fun i hi => by rw [← hq]; exact digL_range t ht2 i (by omega)
    have HNC : Hid (∀ i d, i < q → d < r → (d : Int) * (q : Int) + nth (digL t) i = (fun j => nth (digL (r :: t)) j) (i * r + d)) := fun i d hi hd => by rw [← hq]; exact (nth_digC r t (by omega) i d (by omega) hd).symm
    have HDL : Hid ((digL (r :: t)).length = q * r) := by unfold Hid; rw [digL_len, Nat.mul_comm, ← hq]; rfl
    have HDF := Lib.hid (digL_fits (r :: t) h2 (by omega))
    have HCUT := Lib.hid hcut
    rw [hq] at HDT hpt hpt1 hpt2
    have HQR : Hid (∀ k, k ≤ q → k * r ≤ 100000) := fun k hk => Nat.le_trans (Nat.mul_le_mul_right r hk) (by rw [Nat.mul_comm]; exact hpt)
    have HQD : Hid (∀ d, d ≤ r → d * q ≤ 100000) := fun d hd => Nat.le_trans (Nat.mul_le_mul_right q hd) hpt
    have HS : Hid (∀ k, (k + 1) * r = k * r + r) := fun k => Nat.succ_mul k r
    have hmn : (n : Int) - 1 = (m : Int) := by omega
    have hn0 : ((n : Int) == 0) = false := by simp; omega
    have HC0 := Lib.hid hc0
    have hbl := World.block_lt_of_cell? _ _ hc0
    have HM0 : Hid (1 = c → m = 0 ∧ ∀ a', Row .i64 w a' (natL t)) := fun e => by
      have hm0 : m = 0 := by omega
      refine ⟨hm0, fun a' => ?_⟩
      have ht0 : t = [] := List.length_eq_zero_iff.1 (by omega)
      rw [ht0]; exact Row.nil _ _ _
    have hmc : m ≤ c - 1 := by omega
    clear hx hn h2 hp ih hn1 hm hcell hc0 hcut hq hpt ht2 e0 hmn
    subst hnm
    by_cases hc1 : 1 = c
    · obtain ⟨hm0, HM1⟩ := HM0.out hc1
      subst hc1
      have HM1 := Lib.hid HM1
      subst hm0
      go_enter Try.func54, Try.ntmps54
      go_wp2_with fail
      refine (CR.out _ (some ⟨b, off, none⟩) 0 (HM1.out _) (Nat.le_refl _)).mono ?_
      rintro e w1 ⟨a1, cap1, rfl, hr1, hcap1, hb1⟩
      rw [HDT.out]
      have HR1 := Lib.hid hr1
      have HB1 := Lib.hid hb1
      clear hr1 hcap1 hb1
      go_wp2_with fail
      go_loopw [4, 5] (fun v i wr => ∃ k A : Nat, k ≤ q ∧ Hid (A = k * r) ∧ i = .int .i64 k ∧ Own .i64 3 w1 wr v A (fun j => nth (digL (r :: t)) j)) (fun _ i _ => q - (intOf i).toNat)
      case atStart => exact ⟨0, 0, Nat.zero_le _, (Nat.zero_mul r).symm, rfl, Own.nil _ _ _ _⟩
      case round =>
        obtain ⟨k, A, hk, hA, rfl, hown⟩ := hrel
        by_cases hkq : k < q
        · have HOWN := Lib.hid hown
          clear hown
          have hAr : A + r ≤ 100000 := by
            have h1 := HQR.out (k + 1) (by omega)
            rw [HS.out, ← hA.out] at h1; exact h1
          obtain ⟨wo, hwo⟩ : ∃ wo : World, wo = wr := ⟨_, rfl⟩
          subst hwo
          go_wp2_with fail
          go_loopw [4, 6] (fun v i wr => ∃ d : Nat, d ≤ r ∧ i = .int .i64 d ∧ Own .i64 3 w1 wr v (A + d) (fun j => nth (digL (r :: t)) j)) (fun _ i _ => r - (intOf i).toNat)
          case atStart => exact ⟨0, Nat.zero_le _, rfl, HOWN.out⟩
          case round =>
            obtain ⟨d, hd, rfl, hown⟩ := hrel
            have hcl := ((chain HB1.out hown.below).cell hbl).trans HC0.out
            by_cases hdr : d < r
            · obtain ⟨rb, ro, rfl, hc⟩ := (HR1.out.below hown.below).at (by rw [HDT.out]; omega)
              have hck := hc k (by rw [HDT.out]; exact hkq)
              have hv := HRG.out k hkq
              have hx := HNC.out k d hkq hdr
              rw [← hA.out] at hx
              obtain ⟨X, hX⟩ : ∃ X, d * q = X := ⟨_, rfl⟩
              have hX1 : (d : Int) * (q : Int) = (X : Int) := by rw [← hX, Int.natCast_mul]
              have hX2 : X ≤ 100000 := by rw [← hX]; exact HQD.out d hd
              rw [hX1] at hx
              obtain ⟨y, hy⟩ : ∃ y, nth (digL t) k = y := ⟨_, rfl⟩
              rw [hy] at hck hv hx
              have HX := Lib.hid hx
              clear hX hy hc hx
              go_wp2_with (at_builtin; refine wpList_append_own _ rfl _ _ 35 rfl w1.heap.size 3 i0 (.int .i64 0) 1 8 Try.underlying35 hi hz0 hz1 hz2 rfl (by decide) _ _ _ rfl (hown.own.alloc _) ⟨wr.heap.size, 0, none⟩ 1 1 [.int .i64 ((X : Int) + y)] rfl rfl (cell_one_new _ _ _) (one_cell _ _) (by unfold maxLen; omega) (by omega) (size_alloc_le hown.below _) ?_)
              intro v' w2 hown' hgrow _
              have hnext := hown.push ((X : Int) + y) HX.out hown' hgrow
              clear hown' hgrow
              go_wp2_with fail
              go_roundw
              case rel => exact ⟨d + 1, by omega, by go_num, hnext⟩
              case measure => simp [intOf]; omega
            · have hdr' : d = r := by omega
              subst hdr'
              have HO2 := Lib.hid hown
              clear hown
              go_wp2_with fail
              go_roundw
              case rel => exact ⟨k + 1, A + d, by omega, by unfold Hid; rw [HS.out, ← hA.out], by go_num, HO2.out⟩
              case measure => simp [intOf]; omega
        · have hkq' : k = q := by omega
          subst hkq'
          obtain ⟨a2, cap2, he, hr2', hcap2, hb2⟩ := hown.gives (xs := digL (r :: t)) (by rw [HDL.out, ← hA.out]) HDF.out (fun i hi => rfl) (by have := HQR.out k (Nat.le_refl _); rw [← hA.out] at this; omega)
          simp only [Ending.returned.injEq] at he
          subst he
          have HG : GivesRow .i64 (digL (r :: t)) w (.returned (.slice a2 (digL (r :: t)).length cap2)) wr := ⟨a2, cap2, rfl, hr2', hcap2, chain HB1.out hb2⟩
          have HGG := Lib.hid HG
          clear hown hr2' hcap2 hb2 HG
          go_wp2_with fail
          go_ret
          exact HGG.out
    · go_enter Try.func54, Try.ntmps54
      go_wp2_with fail
      refine (CR.out _ _ _ HCUT.out hmc).mono ?_
      rintro e w1 ⟨a1, cap1, rfl, hr1, hcap1, hb1⟩
      rw [HDT.out]
      have HR1 := Lib.hid hr1
      have HB1 := Lib.hid hb1
      clear hr1 hcap1 hb1
      go_wp2_with fail
      go_loopw [4, 5] (fun v i wr => ∃ k A : Nat, k ≤ q ∧ Hid (A = k * r) ∧ i = .int .i64 k ∧ Own .i64 3 w1 wr v A (fun j => nth (digL (r :: t)) j)) (fun _ i _ => q - (intOf i).toNat)
      case atStart => exact ⟨0, 0, Nat.zero_le _, (Nat.zero_mul r).symm, rfl, Own.nil _ _ _ _⟩
      case round =>
        obtain ⟨k, A, hk, hA, rfl, hown⟩ := hrel
        by_cases hkq : k < q
        · have HOWN := Lib.hid hown
          clear hown
          have hAr : A + r ≤ 100000 := by
            have h1 := HQR.out (k + 1) (by omega)
            rw [HS.out, ← hA.out] at h1; exact h1
          obtain ⟨wo, hwo⟩ : ∃ wo : World, wo = wr := ⟨_, rfl⟩
          subst hwo
          go_wp2_with fail
          go_loopw [4, 6] (fun v i wr => ∃ d : Nat, d ≤ r ∧ i = .int .i64 d ∧ Own .i64 3 w1 wr v (A + d) (fun j => nth (digL (r :: t)) j)) (fun _ i _ => r - (intOf i).toNat)
          case atStart => exact ⟨0, Nat.zero_le _, rfl, HOWN.out⟩
          case round =>
            obtain ⟨d, hd, rfl, hown⟩ := hrel
            have hcl := ((chain HB1.out hown.below).cell hbl).trans HC0.out
            by_cases hdr : d < r
            · obtain ⟨rb, ro, rfl, hc⟩ := (HR1.out.below hown.below).at (by rw [HDT.out]; omega)
              have hck := hc k (by rw [HDT.out]; exact hkq)
              have hv := HRG.out k hkq
              have hx := HNC.out k d hkq hdr
              rw [← hA.out] at hx
              obtain ⟨X, hX⟩ : ∃ X, d * q = X := ⟨_, rfl⟩
              have hX1 : (d : Int) * (q : Int) = (X : Int) := by rw [← hX, Int.natCast_mul]
              have hX2 : X ≤ 100000 := by rw [← hX]; exact HQD.out d hd
              rw [hX1] at hx
              obtain ⟨y, hy⟩ : ∃ y, nth (digL t) k = y := ⟨_, rfl⟩
              rw [hy] at hck hv hx
              have HX := Lib.hid hx
              clear hX hy hc hx
              go_wp2_with (at_builtin; refine wpList_append_own _ rfl _ _ 35 rfl w1.heap.size 3 i0 (.int .i64 0) 1 8 Try.underlying35 hi hz0 hz1 hz2 rfl (by decide) _ _ _ rfl (hown.own.alloc _) ⟨wr.heap.size, 0, none⟩ 1 1 [.int .i64 ((X : Int) + y)] rfl rfl (cell_one_new _ _ _) (one_cell _ _) (by unfold maxLen; omega) (by omega) (size_alloc_le hown.below _) ?_)
              intro v' w2 hown' hgrow _
              have hnext := hown.push ((X : Int) + y) HX.out hown' hgrow
              clear hown' hgrow
              go_wp2_with fail
              go_roundw
              case rel => exact ⟨d + 1, by omega, by go_num, hnext⟩
              case measure => simp [intOf]; omega
            · have hdr' : d = r := by omega
              subst hdr'
              have HO2 := Lib.hid hown
              clear hown
              go_wp2_with fail
              go_roundw
              case rel => exact ⟨k + 1, A + d, by omega, by unfold Hid; rw [HS.out, ← hA.out], by go_num, HO2.out⟩
              case measure => simp [intOf]; omega
        · have hkq' : k = q := by omega
          subst hkq'
          obtain ⟨a2, cap2, he, hr2', hcap2, hb2⟩ := hown.gives (xs := digL (r :: t)) (by rw [HDL.out, ← hA.out]) HDF.out (fun i hi => rfl) (by have := HQR.out k (Nat.le_refl _); rw [← hA.out] at this; omega)
          simp only [Ending.returned.injEq] at he
          subst he
          have HG : GivesRow .i64 (digL (r :: t)) w (.returned (.slice a2 (digL (r :: t)).length cap2)) wr := ⟨a2, cap2, rfl, hr2', hcap2, chain HB1.out hb2⟩
          have HGG := Lib.hid HG
          clear hown hr2' hcap2 hb2 HG
          go_wp2_with fail
          go_ret
          exact HGG.out
end Go.Proofs.Ytpehbgcbifgokaa
