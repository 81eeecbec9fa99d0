/- chirp: triangular numbers, roots, powers, rows; the reference's. -/
import Derived.Test.YtlgklkhijmeldaaChirpL
import Derived.Test.YtlgklkhijmeldaaRootP
import Derived.Test.YtlgklkhijmeldaaRowZeros
import Derived.Test.YtlgklkhijmeldaaStockF
namespace Go.Proofs.Ytlgklkhijmeldaa
open Go.RowKit Sm
set_option linter.unusedVariables false
set_option linter.unusedSimpArgs false
set_option maxRecDepth 100000

theorem tri_prod (i : Nat) : (i : Int) * ((i : Int) - 1) = ((i * (i - 1) : Nat) : Int) := by
  cases i with
  | zero => simp
  | succ j => rw [show ((j + 1 : Nat) : Int) - 1 = ((j : Nat) : Int) by omega, show j + 1 - 1 = j by omega, ← Int.natCast_mul]
theorem tri_small (i : Nat) (h : i ≤ 67108864) : i * (i - 1) ≤ 4503599627370496 := by
  have := Nat.mul_le_mul h (show i - 1 ≤ 67108864 by omega)
  omega

theorem chirp_tri (n i : Nat) (w : World) (hn : 1 ≤ n) (hn2 : n ≤ 16777216) (hi : i ≤ 67108864) :
    Calls Try.prog 59 #[.int .i64 n, .int .i64 i] w fun e w' => e = .returned (.int .i64 (triN n i : Nat)) ∧ w = w' := by
  obtain ⟨q, hq⟩ : ∃ q, i * (i - 1) = q := ⟨_, rfl⟩
  have h1 := tri_prod i
  have h2 := tri_small i hi
  rw [hq] at h1 h2
  have h0 : ((n : Int) == 0) = false := bno (by omega)
  have HT : Hid ((q : Int) / 2 % n = (triN n i : Nat)) := by
    unfold Hid triN triT; rw [hq, Int.natCast_emod, Int.natCast_ediv]; rfl
  clear hq
  go_enter Try.func59, Try.ntmps59
  go_wp2_with fail
  go_ret
  exact ⟨ret_int HT.out, rfl⟩

theorem chirp_way_size (n d : Int) (w : World) (h : hasSz n = false) (hn : -9223372036854775808 ≤ n ∧ n < 9223372036854775808) :
    Calls Try.prog 60 #[.int .i64 n, .int .i64 d] w fun e w' => e = .returned (.tuple #[.int .u64 0, .int .i64 4]) ∧ w = w' := by
  have H := Lib.hid h
  clear h
  go_enter Try.func60, Try.ntmps60
  go_wp2_with fail
  refine (rootHas_no _ _ H.out hn).mono ?_; rintro e w' ⟨rfl, rfl⟩
  go_wp2_with fail
  go_ret2
  exact ⟨rfl, rfl⟩
theorem chirp_way_arg (n d : Int) (w : World) (h : hasSz n = true) (hd : ¬ (d = 0 ∨ d = 1)) :
    Calls Try.prog 60 #[.int .i64 n, .int .i64 d] w fun e w' => e = .returned (.tuple #[.int .u64 0, .int .i64 2]) ∧ w = w' := by
  have H := Lib.hid h
  clear h
  rcases (show d < 0 ∨ (0 ≤ d ∧ 1 < d) by omega) with h1 | ⟨h1, h2⟩
  all_goals
    clear hd
    go_enter Try.func60, Try.ntmps60
    go_wp2_with fail
    refine (rootHas_yes _ _ H.out).mono ?_; rintro e w' ⟨rfl, rfl⟩
    go_wp2_with fail
    go_ret2
    exact ⟨rfl, rfl⟩
theorem chirp_way (n : Nat) (d : Int) (w : World) (h : hasSz n = true) (hd : d = 0 ∨ d = 1) :
    Calls Try.prog 60 #[.int .i64 n, .int .i64 d] w fun e w' => e = .returned (.tuple #[.int .u64 (dirRt n d), .int .i64 0]) ∧ w = w' := by
  have H := Lib.hid h
  clear h
  rcases hd with h1 | h1
  · subst h1
    go_enter Try.func60, Try.ntmps60
    go_wp2_with fail
    refine (rootHas_yes _ _ H.out).mono ?_; rintro e w' ⟨rfl, rfl⟩
    go_wp2_with fail
    refine (rootRoot_yes n _ H.out).mono ?_; rintro e w' ⟨rfl, rfl⟩
    go_wp2_with fail
    go_ret2
    exact ⟨rfl, rfl⟩
  · subst h1
    go_enter Try.func60, Try.ntmps60
    go_wp2_with fail
    refine (rootHas_yes _ _ H.out).mono ?_; rintro e w' ⟨rfl, rfl⟩
    go_wp2_with fail
    refine (rootBack_yes n _ H.out).mono ?_; rintro e w' ⟨rfl, rfl⟩
    go_wp2_with fail
    go_ret2
    exact ⟨rfl, rfl⟩

theorem chirp_powers (z : Int) (n : Nat) (w : World) (h0 : 0 ≤ z) (h1 : z < 18446744073709551616) (hn1 : 1 ≤ n) (hn : n ≤ 16777216) :
    Calls Try.prog 61 #[.int .u64 z, .int .i64 n] w fun e w' => ∃ b off, e = .returned (.slice (some ⟨b, off, none⟩) n n) ∧ Row .u64 w' (some ⟨b, off, none⟩) (powL z n) ∧ Below w.heap.size w w' := by
  have HL : Hid ((powL z n).length = n) := powL_len z n
  go_enter Try.func61, Try.ntmps61
  go_wp2_with fail
  refine (rootPowers z n _ h0 h1 hn).mono ?_
  rintro e w1 ⟨a1, cap1, rfl, hr1, hcap1, hb1⟩
  rw [HL.out] at hcap1 ⊢
  obtain ⟨b, off, rfl, _⟩ := hr1.at (by rw [HL.out]; omega)
  have HR := Lib.hid hr1
  have hc := hcap1.1
  clear hr1
  go_wp2_with fail
  go_ret
  exact ⟨b, off, rfl, HR.out, hb1⟩

/-- The inverse of a root is the root back. -/
theorem inv_dir (n : Nat) (d : Int) (h : hasSz n = true) : pw (dirRt n d) 18446744069414584319 = dirBk n d := by
  unfold dirRt dirBk
  split
  · have hr := (isRoot_rt n h).inv_pow 1
    rw [ipow1, ipow1] at hr
    have hz : bk n % 18446744069414584321 ≠ 0 := by
      intro e
      have e0 : Eqm (bk n) 0 := by unfold Eqm; rw [e]; rfl
      have h2 := (rfl' (rt n)).mul e0
      rw [Int.mul_zero] at h2
      exact absurd (hr.symm.trans h2) (by unfold Eqm; decide)
    have h1 := pw_inv (bk n) (bk_range n).1 hz
    have h2 : Eqm (bk n * pw (bk n) 18446744069414584319) 1 := by unfold Eqm; rw [h1]; rfl
    have h3 := ((rfl' (rt n)).mul h2).symm
    rw [Int.mul_one, ← Int.mul_assoc] at h3
    have h4 := h3.trans (hr.mul (rfl' _))
    rw [Int.one_mul] at h4
    have r1 := rt_range n
    have r2 := pw_range (bk n) 18446744069414584319
    exact eq_of_eqm h4.symm r2.1 r2.2 r1.1 r1.2
  · rfl

def GivesOwnE (k : IntKind) (t : TypeId) (xs : List Int) (w : World) (e : Ending) (w' : World) : Prop :=
  ∃ a cap, e = .returned (.tuple #[.slice a xs.length cap, .int .i64 0]) ∧ w'.ownsRow w.heap.size t 1 (.slice a xs.length cap) xs.length (xs.map (Value.int k)) ∧ Row k w' a xs ∧ OkCap a xs.length cap ∧ Below w.heap.size w w'

theorem nth_powL (z : Int) (n i : Nat) (h : i < n) : nth (powL z n) i = pw z i := nth_ofFn _ _ _ h

set_option maxHeartbeats 1000000 in
theorem chirp_Row (n many : Nat) (d : Int) (w : World) (h : hasSz n = true) (hd : d = 0 ∨ d = 1) (hm : many ≤ 16777216) :
    Calls Try.prog 23 #[.int .i64 n, .int .i64 d, .int .i64 many] w (GivesOwnE .u64 45 (rowT (dirRt n d) n many) w) := by
  obtain ⟨i0, hi, hz0, hz1, hz2⟩ := info_parts info_u64
  have C1 : Hid (∀ w : World, Calls Try.prog 60 #[.int .i64 n, .int .i64 d] w fun e w' => e = .returned (.tuple #[.int .u64 (dirRt n d), .int .i64 0]) ∧ w = w') := fun w => chirp_way n d w h hd
  have hzr := dirRt_range n d
  obtain ⟨h1, h2, _⟩ := hasSz_iff.1 h
  have hn1 : 1 ≤ n := by omega
  have hn2 : n ≤ 16777216 := by omega
  obtain ⟨z, hz⟩ : ∃ z, dirRt n d = z := ⟨_, rfl⟩
  rw [hz] at C1 hzr ⊢
  have C2 : Hid (∀ w : World, Calls Try.prog 61 #[.int .u64 z, .int .i64 n] w fun e w' => ∃ b off, e = .returned (.slice (some ⟨b, off, none⟩) n n) ∧ Row .u64 w' (some ⟨b, off, none⟩) (powL z n) ∧ Below w.heap.size w w') := fun w => chirp_powers z n w hzr.1 (by omega) hn1 hn2
  have HPL : Hid ((powL z n).length = n) := powL_len z n
  have HRL : Hid ((rowT z n many).length = many) := rowT_len z n many
  have HTL : Hid (∀ k, triN n k < n) := fun k => triN_lt n k hn1
  clear hz h hd h1 h2
  go_enter Try.func23, Try.ntmps23
  go_wp2_with fail
  refine (C1.out _).mono ?_; rintro e w' ⟨rfl, rfl⟩
  go_wp2_with fail
  refine (C2.out _).mono ?_
  rintro e w1 ⟨b, off, rfl, hr1, hb1⟩
  have HR1 := Lib.hid hr1
  have HB1 := Lib.hid hb1
  clear hr1 hb1
  go_wp2_with (at_make; refine wpList_make_full _ rfl _ _ 22 rfl w1.heap.size 45 i0 (.int .u64 0) 1 Try.underlying22 hi hz0 hz1 .i64 .i64 many many many rfl rfl rfl rfl (by rw [hz2]; omega) (by unfold maxLen; omega) (Nat.le_refl _) ?_)
  intro w2 hown0 hgrow0
  have hown := Own.made hown0 hgrow0
  clear hown0 hgrow0
  go_wp2_with fail
  go_loopw [37] (fun i wr => ∃ k : Nat, k ≤ many ∧ i = .int .i64 k ∧ OwnAt .u64 45 w1 wr w1.heap.size many (fun j => if j < k then pw z (triN n j) else 0)) (fun i _ => many - (intOf i).toNat)
  case atStart => exact ⟨0, Nat.zero_le _, rfl, own_eqz hown (fun j => if_neg (by omega))⟩
  case round =>
    obtain ⟨k, hk, rfl, hown⟩ := hrel
    by_cases hlt : k < many
    · obtain ⟨t, ht⟩ : ∃ t, triN n k = t := ⟨_, rfl⟩
      have htl := HTL.out k
      rw [ht] at htl
      obtain ⟨b', off', hbo, hc⟩ := (HR1.out.below hown.below).at (by rw [HPL.out]; omega)
      simp only [Option.some.injEq, Addr.mk.injEq, and_true] at hbo
      obtain ⟨rfl, rfl⟩ := hbo
      have hck := hc t (by rw [HPL.out]; exact htl)
      rw [nth_powL _ _ _ htl] at hck
      clear hc
      have hcell := hown.cell k hlt
      rw [if_neg (Nat.lt_irrefl k)] at hcell
      have hfz := hown.free k
      have hnext := hown.store k hlt (pw z t) (f' := fun j => if j < k + 1 then pw z (triN n j) else 0) (by rw [if_pos (by omega), ht]) (fun j _ hj => by
        by_cases h : j < k
        · rw [if_pos h, if_pos (by omega)]
        · rw [if_neg h, if_neg (by omega)])
      have HNX := Lib.hid hnext
      have HT := Lib.hid ht
      clear hown hnext ht
      go_wp2_with fail
      refine (chirp_tri n k _ hn1 hn2 (by omega)).mono ?_; rintro e w' ⟨rfl, rfl⟩
      rw [HT.out]
      go_wp2_with fail
      go_roundw
      case rel => exact ⟨k + 1, by omega, by go_num, HNX.out⟩
      case measure => simp [intOf]; omega
    · have hkn : k = many := by omega
      obtain ⟨a2, cap2, he, ho2, hf2, _, hb2⟩ := hown.givesO (xs := rowT z n many) (rowT_len z n many) (rowT_fits z n many) (fun i hi => by rw [nth_rowT _ _ _ _ hi, if_pos (by omega)]) (by omega)
      simp only [Ending.returned.injEq, Value.slice.injEq] at he
      obtain ⟨rfl, hx1, rfl⟩ := he
      clear hx1
      have ho3 := own_base ho2 HB1.out.size
      have hrow := gives_of_own ho2 hb2 rfl rfl hf2 (by rw [HRL.out]; omega)
      obtain ⟨a3, cap3, he3, hr3, hcap3, hb3⟩ := hrow
      simp only [Ending.returned.injEq, Value.slice.injEq] at he3
      obtain ⟨rfl, hx2, rfl⟩ := he3
      clear hx2
      have HO := Lib.hid ho3
      have HR := Lib.hid hr3
      clear hown ho2 ho3 hr3 hf2
      go_wp2_with fail
      go_ret2
      exact ⟨some ⟨w1.heap.size, 0, none⟩, many, by simp [HRL.out], HO.out, HR.out, hcap3, chain HB1.out hb2⟩
end Go.Proofs.Ytlgklkhijmeldaa
