/- The law of the transform by a product around. -/
import Derived.Test.YtlgklkhijmeldaaChirpE
import Derived.Test.YtlgklkhijmeldaaChirpF
import Derived.Test.YtlgklkhijmeldaaConvD
namespace Go.Proofs.Ytlgklkhijmeldaa
open Go.RowKit Sm
set_option linter.unusedVariables false
set_option linter.unusedSimpArgs false
set_option maxRecDepth 100000

theorem chirpTransforms_big (a : Option Addr) (n c : Nat) (b : Bool) (mo : Int) (w : World) (h : 40 < n) (hN : n ≤ 9223372036854775807) :
    Calls Try.prog 11 #[.slice a n c, .bool b, .int .u8 mo] w fun e w' => e = .returned (.bool true) ∧ Below w.heap.size w w' := by
  cases b
  all_goals
    go_enter Try.func11, Try.ntmps11
    go_wp2_with fail
    refine (live12 _).mono ?_; rintro e w' ⟨rfl, rfl⟩
    go_wp2_with fail
    go_ret
    exact ⟨rfl, Below.refl _ _⟩
theorem chirpTransforms_size (a : Option Addr) (n c : Nat) (b : Bool) (mo : Int) (w : World) (h : n ≤ 40) (hs : hasSz n = false) :
    Calls Try.prog 11 #[.slice a n c, .bool b, .int .u8 mo] w fun e w' => e = .returned (.bool true) ∧ Below w.heap.size w w' := by
  have H := Lib.hid hs
  clear hs
  cases b
  all_goals
    go_enter Try.func11, Try.ntmps11
    go_wp2_with fail
    refine (refHas_no _ _ H.out (by omega)).mono ?_; rintro e w' ⟨rfl, rfl⟩
    go_wp2_with fail
    refine (live12 _).mono ?_; rintro e w' ⟨rfl, rfl⟩
    go_wp2_with fail
    go_ret
    exact ⟨rfl, Below.refl _ _⟩

theorem has128 : hasSz (128 : Int) = true := hasSz_iff.2 (by decide)

set_option maxHeartbeats 2000000 in
theorem chirpTransforms_ok (a : Option Addr) (n c : Nat) (b : Bool) (d : Int) (mo : Int) (xs : List Int) (w : World) (hx : Row .u64 w a xs) (hxl : xs.length = n) (h : n ≤ 40) (hs : hasSz n = true) (hm0 : 0 ≤ mo) (hm1 : mo < 256) (hb : b = false ∧ d = 0 ∨ b = true ∧ d = 1) :
    Calls Try.prog 11 #[.slice a n c, .bool b, .int .u8 mo] w fun e w' => e = .returned (.bool true) ∧ Below w.heap.size w w' := by
  obtain ⟨i0, hi, hz0, hz1, hz2⟩ := info_parts info_u64
  have hd : d = 0 ∨ d = 1 := by rcases hb with ⟨_, h⟩ | ⟨_, h⟩ <;> omega
  obtain ⟨h1, h2, _⟩ := hasSz_iff.1 hs
  have hroot := isRoot_dir n d hs
  obtain ⟨q, hq'⟩ : ∃ q : Nat, 2 * n - 1 = q := ⟨_, rfl⟩
  have hq : 2 * (n : Int) - 1 = q := by omega
  have hq2 : q ≤ 79 := by omega
  have hnq : n ≤ q := by omega
  obtain ⟨r, hr⟩ : ∃ r : Nat, mo % 40 = r := ⟨(mo % 40).toNat, by omega⟩
  have hr2 : r < 40 := by omega
  have HRR := Lib.hid hr
  clear hr
  have HB := blue xs (dirRt n d) (dirBk n d) n
  rw [hq'] at HB
  have HBL : Hid (∀ M, q ≤ M → aftL (cvL (zeroL (foreL xs (dirBk n d) n) M) (zeroL (rowT (dirRt n d) n q) M) M) (dirBk n d) n = dftL xs (dirRt n d)) := fun M hM => HB M hroot hxl (by omega) hM
  have F1 : Hid (∀ w : World, Row .u64 w a xs → Calls Try.prog 31 #[.slice a n c, .int .i64 d] w (GivesRowE .u64 (foreL xs (dirBk n d) n) 0 w)) := fun w hw => fore_ok a n c d xs w hw hxl hs hd
  have K := kernel_ok n
  rw [hq'] at K
  have K1 : Hid (∀ (M : Nat) (w : World), q ≤ M → hasSz M = true → Calls Try.prog 29 #[.int .i64 n, .int .i64 M, .int .i64 d] w (GivesRowE .u64 (zeroL (rowT (dirRt n d) n q) M) 0 w)) := fun M w hM hMs => K M d w hs hd hMs hM
  have A1 : Hid (∀ (M : Nat) (cs : List Int) (a : Option Addr) (c : Nat) (w : World), Row .u64 w a cs → cs.length = M → q ≤ M → M ≤ 200 → Calls Try.prog 32 #[.slice a M c, .int .i64 n, .int .i64 d] w (GivesRowE .u64 (aftL cs (dirBk n d) n) 0 w)) := fun M cs a c w hw hl hq hM => aft_ok a n M c d cs w hw hl (by omega) (by omega) hs hd
  have D1 : Hid (∀ w : World, Row .u64 w a xs → Calls Try.prog 20 #[.slice a n c, .int .i64 d] w (GivesRow .u64 (dftL xs (dirRt n d)) w)) := fun w hw => refDft a n c xs d w hw hxl hs (by omega) hd
  have hFL : (foreL xs (dirBk n d) n).length = n := foreL_len _ _ _
  have hFF := foreL_fits xs (dirBk n d) n
  have HAL : Hid (∀ cs, (aftL cs (dirBk n d) n).length = n) := fun cs => aftL_len _ _ _
  have HDL : Hid ((dftL xs (dirRt n d)).length = n) := (dftL_len _ _).trans hxl
  have hKL : (rowT (dirRt n d) n q).length = q := rowT_len _ _ _
  have HKZ : Hid (∀ M, q ≤ M → (zeroL (rowT (dirRt n d) n q) M).length = M) := fun M hM => zeroL_len _ _ (by rw [hKL]; exact hM)
  obtain ⟨ks, hks⟩ : ∃ ks, rowT (dirRt n d) n q = ks := ⟨_, rfl⟩
  obtain ⟨fs, hfs⟩ : ∃ fs, foreL xs (dirBk n d) n = fs := ⟨_, rfl⟩
  obtain ⟨z, hz⟩ : ∃ z, dirRt n d = z := ⟨_, rfl⟩
  obtain ⟨u, hu⟩ : ∃ u, dirBk n d = u := ⟨_, rfl⟩
  rw [hks, hfs, hz, hu] at HBL
  rw [hfs] at F1 hFL hFF
  rw [hks] at K1 HKZ
  rw [hu] at A1 HAL
  rw [hz] at D1 HDL
  have HFL := Lib.hid hFL
  have HFF := Lib.hid hFF
  have H := Lib.hid hs
  have HX := Lib.hid hx
  have HN := Lib.hid hxl
  clear hs hx hxl hd hroot hKL hks hfs hz hu hFL hFF HB K hq'
  rcases hb with ⟨rfl, rfl⟩ | ⟨rfl, rfl⟩
  all_goals
    go_enter Try.func11, Try.ntmps11
    go_wp2_with fail
    refine (refHas_yes _ _ H.out).mono ?_; rintro e w' ⟨rfl, rfl⟩
    go_wp2_with fail
    go_loop [9] (fun v => ∃ M : Nat, q ≤ M ∧ M ≤ 128 ∧ v = .int .i64 M) (fun v => 128 - (intOf v).toNat)
    case atStart => exact ⟨q + r, by omega, by omega, by rw [HRR.out]; go_num⟩
    case round =>
      obtain ⟨M, hM, hM2, rfl⟩ := hrel
      cases hMs : hasSz (M : Int) with
      | false =>
        have HM := Lib.hid hMs
        have hM3 : M < 128 := by
          rcases Nat.lt_or_ge M 128 with h | h
          · exact h
          · have e : M = 128 := by omega
            rw [e] at hMs
            exact absurd (hMs.symm.trans has128) (by simp)
        clear hMs
        go_wp2_with fail
        refine (refHas_no _ _ HM.out (by omega)).mono ?_; rintro e w' ⟨rfl, rfl⟩
        go_wp2_with fail
        go_round
        case rel => exact ⟨M + 1, by omega, by omega, by go_num⟩
        case measure => simp [intOf]; omega
      | true =>
        have HM := Lib.hid hMs
        have HKM := Lib.hid (HKZ.out M hM)
        have enn : ((n : Int) != (n : Int)) = false := bfalse' rfl
        have emm : ((M : Int) != (M : Int)) = false := bfalse' rfl
        obtain ⟨dd, hdd⟩ : ∃ dd : Nat, M - n = dd := ⟨_, rfl⟩
        have hd1 : (M : Int) - (n : Int) = dd := by omega
        have HDD := Lib.hid hdd
        have HND : Hid (n + dd = M) := by unfold Hid; omega
        have hnd : n + dd ≤ 100000000 := by omega
        have HZL : Hid ((zeroL fs M).length = M) := zeroL_len fs M (by rw [HFL.out]; omega)
        have HBM := Lib.hid (HBL.out M hM)
        clear hMs hdd
        go_wp2_with fail
        refine (refHas_yes _ _ HM.out).mono ?_; rintro e w' ⟨rfl, rfl⟩
        go_wp2_with fail
        refine (F1.out _ HX.out).mono ?_
        rintro e w1 ⟨a1, cap1, rfl, hr1, hcap1, hb1⟩
        rw [HFL.out]
        go_wp2_with fail
        refine (K1.out M _ hM HM.out).mono ?_
        rintro e w2 ⟨a2, cap2, rfl, hr2, hcap2, hb2⟩
        rw [HKM.out]
        have hE := World.ownsRow_lit (base := w2.heap.size) (e := 45) (size := 1) w2 #[] 0 (Nat.le_refl _) (by unfold maxLen; omega) (by simp)
        have hbE : Below w2.heap.size w2 (w2.alloc (.cells #[] 45)) := (Below.refl _ _).alloc (Nat.le_refl _) _
        have HE := Lib.hid hE
        have HBE := Lib.hid hbE
        have HR1 := Lib.hid ((hr1.below hb2).below hbE)
        have HR2 := Lib.hid hr2
        have HB12 := Lib.hid (chain hb1 hb2)
        rw [HFL.out] at hcap1
        have HCN := Lib.hid hcap1.2
        clear hE hbE hr1 hr2 hcap1 hcap2 hb1 hb2
        go_wp2_with (at_builtin; refine wpList_append_row rfl _ _ 22 rfl .u64 w2.heap.size 45 i0 (.int .u64 0) Try.underlying22 hi hz0 hz1 hz2 rfl _ 0 _ rfl HE.out _ _ _ fs rfl HFL.out HR1.out HCN.out (by omega) HBE.out.size ?_)
        intro v3 w3 hown3 hg3
        have hb3 : Below w2.heap.size w2 w3 := append_below HBE.out HBE.out.size HE.out hg3
        have hown3' : w3.ownsRow w2.heap.size 45 1 v3 n (fs.map (Value.int .u64)) := by simpa using hown3
        have HO3 := Lib.hid hown3'
        have hsz3 := hb3.size
        clear hown3 hown3' hg3
        go_wp2_with (at_builtin; refine wpList_append_zeros _ rfl _ _ 22 3 rfl w2.heap.size 45 i0 .u64 .i64 .i64 Try.underlying22 Try.underlying3 hi hz0 hz1 hz2 _ n _ rfl HO3.out dd rfl (by omega) hsz3 ?_)
        intro v4 w4 hown4 hg4
        have hb4 : Below w2.heap.size w2 w4 := append_below hb3 hsz3 HO3.out hg4
        obtain ⟨a4, cap4, rfl, hcap4⟩ := own_slice hown4
        rw [show List.replicate dd (Value.int .u64 0) = List.replicate (M - fs.length) (Value.int .u64 0) by rw [HFL.out, HDD.out], zeroL_cells, HND.out] at hown4
        rw [HND.out] at hcap4 ⊢
        have hrow := Row.of_own (a := a4) (cap := cap4) HZL.out (by omega) (zeroL_fits fs M HFF.out) hown4
        have HR4 := Lib.hid hrow
        have HR2' := Lib.hid (HR2.out.below hb4)
        have HCL : Hid ((cvL (zeroL fs M) (zeroL ks M) M).length = M) := cvL_len _ _ _
        have HB4 := Lib.hid (chain HB12.out hb4)
        clear hown4 hg4 hrow hb4 hb3
        go_wp2_with fail
        refine (convRef_Cyclic a4 a2 M cap4 cap2 (zeroL fs M) (zeroL ks M) _ HR4.out HR2'.out HZL.out HKM.out (by omega)).mono ?_
        rintro e w5 ⟨a5, cap5, rfl, hr5, hcap5, hb5⟩
        rw [HCL.out]
        go_wp2_with fail
        refine (A1.out M _ _ _ _ hr5 HCL.out hM (by omega)).mono ?_
        rw [HBM.out]
        rintro e w6 ⟨a6, cap6, rfl, hr6, hcap6, hb6⟩
        rw [HDL.out]
        have hB6 := chain (chain HB4.out hb5) hb6
        go_wp2_with fail
        refine (D1.out _ (HX.out.below hB6)).mono ?_
        rintro e w7 ⟨a7, cap7, rfl, hr7, hcap7, hb7⟩
        rw [HDL.out]
        go_wp2_with fail
        refine (ref_SameT _ _ _ _ _ _ (dftL xs z) (dftL xs z) _ (hr6.below hb7) hr7 HDL.out HDL.out rfl).mono ?_
        rintro e w8 ⟨rfl, hb8⟩
        go_wp2_with fail
        refine (live12 _).mono ?_; rintro e w' ⟨rfl, rfl⟩
        go_wp2_with fail
        go_ret
        exact ⟨rfl, chain (chain hB6 hb7) hb8⟩

theorem fits_u8 {x : Int} : fits .u8 x ↔ 0 ≤ x ∧ x < 256 := by
  unfold fits
  simp only [Lit.wf, Bool.and_eq_true, decide_eq_true_eq, show IntKind.u8.min = 0 from rfl, show IntKind.u8.max = 255 from rfl]
  omega

theorem chirpTransformsW (a0 : Option Addr) (c0 : Nat) (x0 : List Int) (b : Bool) (mo : Int) (w : World) (h0 : Row .u64 w a0 x0) (k0 : OkCap a0 x0.length c0) (hm : fits .u8 mo) :
    Calls Try.prog 11 #[.slice a0 x0.length c0, .bool b, .int .u8 mo] w fun e w' => e = .returned (.bool true) ∧ Below w.heap.size w w' := by
  have hm' := fits_u8.1 hm
  by_cases hb : 40 < x0.length
  · exact chirpTransforms_big a0 _ c0 b mo w hb h0.len
  · cases hs : hasSz (x0.length : Int) with
    | false => exact chirpTransforms_size a0 _ c0 b mo w (by omega) hs
    | true =>
      cases b with
      | false => exact chirpTransforms_ok a0 _ c0 false 0 mo x0 w h0 rfl (by omega) hs (by omega) (by omega) (Or.inl ⟨rfl, rfl⟩)
      | true => exact chirpTransforms_ok a0 _ c0 true 1 mo x0 w h0 rfl (by omega) hs (by omega) (by omega) (Or.inr ⟨rfl, rfl⟩)
end Go.Proofs.Ytlgklkhijmeldaa
