/- The law of digits, as a call that returns true. -/
import Derived.Test.YtpehbgcbifgokaaDigC
namespace Go.Proofs.Ytpehbgcbifgokaa
open Go.RowKit
set_option linter.unusedVariables false
set_option linter.unusedSimpArgs false

theorem prN_facts (xs : List Int) : ∀ n, prN xs n ≠ 0 → (∀ x ∈ xs, 2 ≤ x) ∧ prN xs n = n * pdN (xs.map Int.toNat) := by
  induction xs with
  | nil => intro n h; exact ⟨by simp, by simp [prN, pdN]⟩
  | cons r t ih =>
    intro n h
    by_cases hc : r < 2 ∨ 16777216 < r * n
    · exact absurd (by show (if _ then _ else _) = 0; rw [if_pos hc]) h
    · have e : prN (r :: t) n = prN t (n * r.toNat) := by show (if _ then _ else _) = _; rw [if_neg hc]
      rw [e] at h ⊢
      obtain ⟨h1, h2⟩ := ih _ h
      refine ⟨fun x hx => ?_, by rw [h2, List.map_cons]; show _ = n * (r.toNat * pdN _); rw [Nat.mul_assoc]⟩
      rcases List.mem_cons.1 hx with rfl | hx
      · have : ¬ x < 2 := fun e => hc (Or.inl e)
        omega
      · exact h1 x hx
theorem natL_toNat (xs : List Int) (h : ∀ x ∈ xs, 2 ≤ x) : natL (xs.map Int.toNat) = xs := by
  unfold natL
  rw [List.map_map]
  refine (List.map_congr_left (g := id) fun x hx => ?_).trans (List.map_id xs)
  have := h x hx
  show ((x.toNat : Nat) : Int) = x
  omega
theorem prN_of (rs : List Nat) (h : ∀ r ∈ rs, 2 ≤ r) : ∀ n, 1 ≤ n → n * pdN rs ≤ 16777216 → prN (natL rs) n = n * pdN rs := by
  induction rs with
  | nil => intro n _ _; simp [natL, prN, pdN]
  | cons r t ih =>
    intro n hn hb
    have ht : ∀ x ∈ t, 2 ≤ x := fun x hx => h x (by simp [hx])
    have hp := pdN_pos t ht
    have hr := h r (by simp)
    have e : n * (r * pdN t) = n * r * pdN t := (Nat.mul_assoc n r _).symm
    have hb' : n * r * pdN t ≤ 16777216 := by rw [← e]; exact hb
    have h2 : n * r ≤ 16777216 := Nat.le_trans (Nat.le_mul_of_pos_right _ hp) hb'
    show prN ((r : Int) :: natL t) n = n * (r * pdN t)
    rw [prN_step r _ n hr (by rw [Nat.mul_comm]; exact h2), e]
    exact ih ht (n * r) (Nat.mul_pos hn (by omega)) hb'
theorem natL_rev (rs : List Nat) (j : Nat) (hj : j < rs.length) : nth (natL rs.reverse) j = nth (natL rs) (rs.length - 1 - j) := by
  rw [nth_natL _ _ (by simpa using hj), nth_natL _ _ (by omega), List.getElem_reverse]
theorem twos_rep (rs : List Nat) (h : ∀ j, j < rs.length → nth (natL rs) (rs.length - 1 - j) = 2) : rs = List.replicate rs.length 2 := by
  apply List.ext_getElem (by simp)
  intro i h1 h2
  have := h (rs.length - 1 - i) (by omega)
  rw [show rs.length - 1 - (rs.length - 1 - i) = i by omega, nth_natL _ _ h1] at this
  rw [List.getElem_replicate]; omega
theorem pdN_rep (L : Nat) : pdN (List.replicate L 2) = 2 ^ L := by
  induction L with
  | zero => rfl
  | succ L ih => show 2 * pdN (List.replicate L 2) = _; rw [ih, Nat.pow_succ]; omega

theorem permDigits_big (a : Option Addr) (n c : Nat) (xs : List Int) (w : World) (hx : Row .i64 w a xs) (hxl : xs.length = n) (h : 30 < n ∨ 400 < prN xs 1) :
    Calls Try.prog 11 #[.slice a n c] w fun e w' => e = .returned (.bool true) ∧ Below w.heap.size w w' := by
  have C1 := Lib.hid (ref_product a n c xs w hx hxl)
  have hb := prN_le xs 1 (by omega)
  have hl := hx.len
  rw [hxl] at hl
  obtain ⟨N, hN⟩ : ∃ N, prN xs 1 = N := ⟨_, rfl⟩
  rw [hN] at C1 h hb
  clear hx hxl hN
  rcases (show 30 < n ∨ (n ≤ 30 ∧ 400 < N) by omega) with h1 | ⟨h1, h2⟩
  all_goals
    clear h
    go_enter Try.func11, Try.ntmps11
    go_wp2_with fail
    refine C1.out.mono ?_; rintro e w1 ⟨rfl, hb1⟩
    go_wp2_with fail
    refine (live08 _).mono ?_
    rintro e w7 ⟨rfl, hb7⟩
    go_wp2_with fail
    go_ret
    exact ⟨rfl, chain hb1 hb7⟩
theorem permDigits_no (a : Option Addr) (n c : Nat) (xs : List Int) (w : World) (hx : Row .i64 w a xs) (hxl : xs.length = n) (h : n ≤ 30) (h0 : prN xs 1 = 0) :
    Calls Try.prog 11 #[.slice a n c] w fun e w' => e = .returned (.bool true) ∧ Below w.heap.size w w' := by
  have C1 := Lib.hid (ref_product a n c xs w hx hxl)
  rw [h0] at C1
  have C2 : Hid (∀ w', Below w.heap.size w w' → Calls Try.prog 53 #[.slice a n c] w' fun e w2 => e = .returned (.tuple #[.slice none 0 0, .int .i64 3]) ∧ w' = w2) := fun w' hb => perm_Digits_no a n c xs w' (hx.below hb) hxl h0
  clear hx hxl h0
  go_enter Try.func11, Try.ntmps11
  go_wp2_with fail
  refine C1.out.mono ?_; rintro e w1 ⟨rfl, hb1⟩
  go_wp2_with fail
  refine (C2.out _ hb1).mono ?_; rintro e w' ⟨rfl, rfl⟩
  go_wp2_with fail
  refine (live08 _).mono ?_
  rintro e w7 ⟨rfl, hb7⟩
  go_wp2_with fail
  go_ret
  exact ⟨rfl, chain hb1 hb7⟩

set_option maxHeartbeats 2000000 in
theorem permDigits_ok (a : Option Addr) (n c N : Nat) (rs : List Nat) (w : World) (hx : Row .i64 w a (natL rs)) (hxl : rs.length = n) (hnc : n ≤ c) (h : n ≤ 30) (h2 : ∀ r ∈ rs, 2 ≤ r) (hN : pdN rs = N) (hN4 : N ≤ 400) :
    Calls Try.prog 11 #[.slice a n c] w fun e w' => e = .returned (.bool true) ∧ Below w.heap.size w w' := by
  obtain ⟨i0, hi, hz0, hz1, hz2⟩ := info_parts info_int
  have hN1 : 1 ≤ N := by rw [← hN]; exact pdN_pos rs h2
  have hpr : prN (natL rs) 1 = N := by rw [prN_of rs h2 1 (by omega) (by omega), hN, Nat.one_mul]
  have h2r : ∀ r ∈ rs.reverse, 2 ≤ r := fun r hr => h2 r (List.mem_reverse.1 hr)
  have hNr : pdN rs.reverse = N := (pdN_rev rs).trans hN
  have hprr : prN (natL rs.reverse) 1 = N := by rw [prN_of rs.reverse h2r 1 (by omega) (by omega), hNr, Nat.one_mul]
  have C1 : Hid (Calls Try.prog 52 #[.slice a n c] w fun e w' => e = .returned (.int .i64 N) ∧ Below w.heap.size w w') := by
    have := ref_product a n c (natL rs) w hx (by rw [natL_len]; exact hxl)
    rw [hpr] at this
    exact this
  have C2 : Hid (∀ w', Below w.heap.size w w' → Calls Try.prog 53 #[.slice a n c] w' (GivesRowE .i64 (digL rs) 0 w')) := fun w' hb => perm_Digits a n c N rs w' (hx.below hb) hxl h2 hpr hN (by omega) hN1
  have C3 : Hid (∀ (w' : World) (a' : Option Addr) (c' : Nat), Row .i64 w' a' (natL rs.reverse) → Calls Try.prog 53 #[.slice a' n c'] w' (GivesRowE .i64 (digL rs.reverse) 0 w')) := fun w' a' c' hr => perm_Digits a' n c' N rs.reverse w' hr (by rw [List.length_reverse]; exact hxl) h2r hprr hNr (by omega) hN1
  have C4 : Hid (∀ (w' : World), Below w.heap.size w w' → Calls Try.prog 54 #[.slice a n c] w' (GivesRow .i64 (digL rs) w')) := fun w' hb => ref_Digits rs a n c w' (hx.below hb) hxl hnc h2 (by omega)
  have HDL : Hid ((digL rs).length = N) := (digL_len rs).trans hN
  have HDR : Hid ((digL rs.reverse).length = N) := (digL_len _).trans hNr
  have HPM := Lib.hid (dig_perm rs h2)
  have HBK : Hid (∀ i, i < N → nth (digL rs.reverse) (nth (digL rs) i).toNat = i) := fun i hi => dig_back rs h2 i (by omega)
  have HT : Hid ((∀ j, j < n → nth (natL rs) (n - 1 - j) = 2) → ∃ L, L < 10 ∧ N = 2 ^ L ∧ digL rs = dblN L) := fun ht => by
    rw [← hxl] at ht
    have e := twos_rep rs ht
    have e2 : N = 2 ^ rs.length := by rw [← hN, e, pdN_rep, List.length_replicate]
    have hL : rs.length < 10 := by
      rcases Nat.lt_or_ge rs.length 10 with h | h
      · exact h
      · have h3 : 2 ^ 10 ≤ 2 ^ rs.length := Nat.pow_le_pow_right (by omega) h
        have e : (2 : Nat) ^ 10 = 1024 := by decide
        omega
    refine ⟨rs.length, hL, e2, ?_⟩
    have := dig_twos ⟨rs.length, hL⟩
    simp only [] at this
    rw [← e] at this
    exact this
  have CB : Hid (∀ w : World, Calls Try.prog 48 #[.int .i64 N] w fun e w' => ∃ a m c er, e = .returned (.tuple #[.slice a m c, .int .i64 er]) ∧ Below w.heap.size w w') := fun w => by
    cases hP : isP2 (N : Int) with
    | false => exact (permBits_arg N w hN1 (by omega) hP).mono fun e w' ⟨he, hw⟩ => ⟨none, 0, 0, 2, he, hw ▸ Below.refl _ _⟩
    | true =>
      obtain ⟨L, hL⟩ := (isP2_iff N).1 hP
      have hL10 : L < 10 := by
        rcases Nat.lt_or_ge L 10 with h | h
        · exact h
        · have h3 : 2 ^ 10 ≤ 2 ^ L := Nat.pow_le_pow_right (by omega) h
          have e : (2 : Nat) ^ 10 = 1024 := by decide
          omega
      exact (permBits_ok N L w hL10 hL).mono fun e w' ⟨a, c, he, _, _, hb⟩ => ⟨a, _, c, 0, he, hb⟩
  have HREV : Hid (∀ j, j < n → nth (natL rs.reverse) j = nth (natL rs) (n - 1 - j)) := fun j hj => by rw [← hxl] at hj ⊢; exact natL_rev rs j hj
  have HRL : Hid ((natL rs.reverse).length = n) := by unfold Hid; rw [natL_len, List.length_reverse]; exact hxl
  have HXL : Hid ((natL rs).length = n) := (natL_len rs).trans hxl
  have HX := Lib.hid hx
  have HF : Hid (∀ x ∈ natL rs.reverse, fits .i64 x) := fun x hx' => HX.out.wf x (by
    unfold natL at hx' ⊢
    obtain ⟨r, hr, rfl⟩ := List.mem_map.1 hx'
    exact List.mem_map.2 ⟨r, List.mem_reverse.1 hr, rfl⟩)
  have q3 : ((N : Int) == 0) = false := by simp; omega
  clear hx hxl h2 hN hpr h2r hNr hprr
  go_enter Try.func11, Try.ntmps11
  go_wp2_with fail
  refine C1.out.mono ?_; rintro e w1 ⟨rfl, hb1⟩
  go_wp2_with fail
  refine (C2.out _ hb1).mono ?_; rintro e w2 ⟨a2, cap2, rfl, hr2, hcap2, hb2⟩
  rw [HDL.out]
  have HR2 := Lib.hid hr2
  have HB2 := Lib.hid (chain hb1 hb2)
  clear hr2 hcap2 hb1 hb2
  go_wp2_with fail
  go_loopw [6, 7, 8] (fun v b i wr => ∃ (k : Nat) (B : Bool), k ≤ n ∧ i = .int .i64 ((n : Int) - 1 - k) ∧ b = .bool B ∧ Hid (B = true → ∀ j, j < k → nth (natL rs) (n - 1 - j) = 2) ∧ Own .i64 3 w2 wr v k (fun j => nth (natL rs) (n - 1 - j))) (fun _ _ i _ => (intOf i + 1).toNat)
  case atStart => exact ⟨0, true, Nat.zero_le _, by go_num, rfl, fun _ j hj => absurd hj (by omega), Own.nil _ _ _ _⟩
  case round =>
    obtain ⟨k, B, hk, rfl, rfl, HB, hown⟩ := hrel
    by_cases hlt : k < n
    · obtain ⟨s, hs⟩ : ∃ s : Nat, n - 1 - k = s := ⟨_, rfl⟩
      have hs1 : (n : Int) - 1 - (k : Int) = (s : Int) := by omega
      have hsn : s < n := by omega
      obtain ⟨xb, xo, rfl, hc⟩ := ((HX.out.below HB2.out).below hown.below).at (by rw [HXL.out]; omega)
      have hck := hc s (by rw [HXL.out]; exact hsn)
      have HXV : Hid (nth (natL rs) s = (fun j => nth (natL rs) (n - 1 - j)) k) := by show _ = nth (natL rs) (n - 1 - k); rw [hs]
      obtain ⟨x, hx⟩ : ∃ x, nth (natL rs) s = x := ⟨_, rfl⟩
      rw [hx] at hck HXV
      have HXS := Lib.hid hx
      have HSS := Lib.hid hs
      rw [hs1]
      have HS1 := Lib.hid hs1
      have hxlt := World.block_lt_of_cell? _ _ hck
      clear hc hx hs hs1
      cases B
      all_goals
        go_wp2_with (at_builtin; refine wpList_append_own _ rfl _ _ 35 rfl w2.heap.size 3 i0 (.int .i64 0) 1 8 Try.underlying35 hi hz0 hz1 hz2 rfl (by decide) _ _ _ rfl (hown.own.alloc _) ⟨wr.heap.size, 0, none⟩ 1 1 [.int .i64 x] rfl rfl (cell_one_new _ _ _) (one_cell _ _) (by unfold maxLen; omega) (by omega) (size_alloc_le hown.below _) ?_)
        intro v' w4 hown' hgrow _
        have hnext := hown.push x HXV.out hown' hgrow
        obtain ⟨yb, yo, hyo, hc4⟩ := ((HX.out.below HB2.out).below hnext.below).at (by rw [HXL.out]; omega)
        simp only [Option.some.injEq, Addr.mk.injEq, and_true] at hyo
        obtain ⟨rfl, rfl⟩ := hyo
        have hck4 := hc4 s (by rw [HXL.out]; exact hsn)
        rw [HXS.out] at hck4
        clear hown' hgrow hc4
        go_wp2_with fail
        go_roundw
        case rel => first
          | exact ⟨k + 1, false, by omega, by have := HS1.out; go_num, rfl, fun h => absurd h (by simp), hnext⟩
          | exact ⟨k + 1, _, by omega, by have := HS1.out; go_num, rfl, fun h j hj => by
              by_cases hjk : j < k
              · exact HB.out (by simp) j hjk
              · rw [show j = k by omega, HSS.out, HXS.out]; simpa using h, hnext⟩
        case measure => have := HS1.out; simp [intOf] <;> omega
    · have hkn : k = n := by omega
      subst hkn
      obtain ⟨a5, cap5, he, hr5, hcap5, hb5⟩ := hown.gives (xs := natL rs.reverse) HRL.out HF.out (fun i hi => HREV.out i hi) (by omega)
      simp only [Ending.returned.injEq] at he
      rw [HRL.out] at he
      subst he
      have HR5 := Lib.hid hr5
      have HB5 := Lib.hid hb5
      have HR2' := Lib.hid (HR2.out.below hb5)
      have HW5 := Lib.hid (chain HB2.out hb5)
      clear hown hr5 hcap5 hb5
      have hneg : (k : Int) - 1 - (k : Int) = -1 := by omega
      rw [hneg]
      cases B with
      | false =>
        go_wp2_with fail
        refine (C3.out _ _ _ HR5.out).mono ?_; rintro e w6 ⟨a6, cap6, rfl, hr6, hcap6, hb6⟩
        rw [HDR.out]
        go_wp2_with fail
        refine (permInverse_yes a2 N cap2 (digL rs) (digL rs.reverse) _ (HR2'.out.below hb6) HDL.out (by omega) HPM.out HDR.out HBK.out).mono ?_
        rintro e w7 ⟨a7, cap7, rfl, hr7, hcap7, hb7⟩
        rw [HDR.out]
        have hbl := chain (chain HW5.out hb6) hb7
        go_wp2_with fail
        refine (C4.out _ hbl).mono ?_; rintro e w8 ⟨a8, cap8, rfl, hr8, hcap8, hb8⟩
        rw [HDL.out]
        go_wp2_with fail
        refine (ref3_SameT _ _ _ _ _ _ (digL rs) (digL rs) _ (((HR2'.out.below hb6).below hb7).below hb8) hr8 HDL.out HDL.out rfl).mono ?_
        rintro e w9 ⟨rfl, hb9⟩
        go_wp2_with fail
        refine (ref3_SameT _ _ _ _ _ _ (digL rs.reverse) (digL rs.reverse) _ (((hr6.below hb7).below hb8).below hb9) ((hr7.below hb8).below hb9) HDR.out HDR.out rfl).mono ?_
        rintro e w10 ⟨rfl, hb10⟩
        have hbl2 := chain (chain (chain hbl hb8) hb9) hb10
        go_wp2_with fail
        refine (CB.out _).mono ?_; rintro e w11 ⟨a11, m11, c11, er, rfl, hb11⟩
        go_wp2_with fail
        refine (live08 _).mono ?_
        rintro e w12 ⟨rfl, hb12⟩
        go_wp2_with fail
        go_ret
        exact ⟨rfl, chain (chain hbl2 hb11) hb12⟩
      | true =>
        obtain ⟨L, hL, hNL, hdL⟩ := HT.out (HB.out rfl)
        have CBB := Lib.hid (fun w => permBits_ok N L w hL hNL)
        rw [← hdL] at CBB
        clear hdL hNL
        go_wp2_with fail
        refine (C3.out _ _ _ HR5.out).mono ?_; rintro e w6 ⟨a6, cap6, rfl, hr6, hcap6, hb6⟩
        rw [HDR.out]
        go_wp2_with fail
        refine (permInverse_yes a2 N cap2 (digL rs) (digL rs.reverse) _ (HR2'.out.below hb6) HDL.out (by omega) HPM.out HDR.out HBK.out).mono ?_
        rintro e w7 ⟨a7, cap7, rfl, hr7, hcap7, hb7⟩
        rw [HDR.out]
        have hbl := chain (chain HW5.out hb6) hb7
        go_wp2_with fail
        refine (C4.out _ hbl).mono ?_; rintro e w8 ⟨a8, cap8, rfl, hr8, hcap8, hb8⟩
        rw [HDL.out]
        go_wp2_with fail
        refine (ref3_SameT _ _ _ _ _ _ (digL rs) (digL rs) _ (((HR2'.out.below hb6).below hb7).below hb8) hr8 HDL.out HDL.out rfl).mono ?_
        rintro e w9 ⟨rfl, hb9⟩
        go_wp2_with fail
        refine (ref3_SameT _ _ _ _ _ _ (digL rs.reverse) (digL rs.reverse) _ (((hr6.below hb7).below hb8).below hb9) ((hr7.below hb8).below hb9) HDR.out HDR.out rfl).mono ?_
        rintro e w10 ⟨rfl, hb10⟩
        have hbl2 := chain (chain (chain hbl hb8) hb9) hb10
        go_wp2_with fail
        refine (CBB.out _).mono ?_; rintro e w11 ⟨a11, cap11, rfl, hr11, hcap11, hb11⟩
        rw [HDL.out]
        go_wp2_with fail
        refine (ref3_SameT _ _ _ _ _ _ (digL rs) (digL rs) _ ((((((HR2'.out.below hb6).below hb7).below hb8).below hb9).below hb10).below hb11) hr11 HDL.out HDL.out rfl).mono ?_
        rintro e w13 ⟨rfl, hb13⟩
        go_wp2_with fail
        refine (live08 _).mono ?_
        rintro e w12 ⟨rfl, hb12⟩
        go_wp2_with fail
        go_ret
        exact ⟨rfl, chain (chain (chain hbl2 hb11) hb13) hb12⟩

theorem permDigitsW (a0 : Option Addr) (c0 : Nat) (x0 : List Int) (w : World) (h0 : Row .i64 w a0 x0) (k0 : OkCap a0 x0.length c0) :
    Calls Try.prog 11 #[.slice a0 x0.length c0] w fun e w' => e = .returned (.bool true) ∧ Below w.heap.size w w' := by
  by_cases hb : 30 < x0.length ∨ 400 < prN x0 1
  · exact permDigits_big a0 _ c0 x0 w h0 rfl hb
  · by_cases hz : prN x0 1 = 0
    · exact permDigits_no a0 _ c0 x0 w h0 rfl (by omega) hz
    · obtain ⟨h1, h2⟩ := prN_facts x0 1 hz
      have e := natL_toNat x0 h1
      refine permDigits_ok a0 _ c0 (pdN (x0.map Int.toNat)) (x0.map Int.toNat) w (by rw [e]; exact h0) (by simp) k0.1 (by omega) (fun r hr => ?_) rfl (by rw [h2, Nat.one_mul] at hb; omega)
      obtain ⟨x, hx, rfl⟩ := List.mem_map.1 hr
      have := h1 x hx
      omega
end Go.Proofs.Ytpehbgcbifgokaa
