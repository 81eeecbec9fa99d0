/- What is made ahead of a product around, and behind it. -/
import Derived.Test.YtlgklkhijmeldaaChirpC
import Derived.Test.YtlgklkhijmeldaaRoundR
namespace Go.Proofs.Ytlgklkhijmeldaa
open Go.RowKit Sm
set_option linter.unusedVariables false
set_option linter.unusedSimpArgs false
set_option maxRecDepth 100000

theorem fore_size (a : Option Addr) (n c : Nat) (d : Int) (w : World) (h : hasSz n = false) (hn : n ≤ 9223372036854775807) :
    Calls Try.prog 31 #[.slice a n c, .int .i64 d] w fun e w' => e = .returned (.tuple #[.slice none 0 0, .int .i64 4]) ∧ w = w' := by
  have C1 : Hid (∀ w : World, Calls Try.prog 60 #[.int .i64 n, .int .i64 d] w fun e w' => e = .returned (.tuple #[.int .u64 0, .int .i64 4]) ∧ w = w') := fun w => chirp_way_size n d w h (by omega)
  clear h
  go_enter Try.func31, Try.ntmps31
  go_wp2_with fail
  refine (C1.out _).mono ?_; rintro e w' ⟨rfl, rfl⟩
  go_wp2_with fail
  go_ret2
  exact ⟨rfl, rfl⟩
theorem fore_arg (a : Option Addr) (n c : Nat) (d : Int) (w : World) (h : hasSz n = true) (hd : ¬ (d = 0 ∨ d = 1)) :
    Calls Try.prog 31 #[.slice a n c, .int .i64 d] w fun e w' => e = .returned (.tuple #[.slice none 0 0, .int .i64 2]) ∧ w = w' := by
  have C1 : Hid (∀ w : World, Calls Try.prog 60 #[.int .i64 n, .int .i64 d] w fun e w' => e = .returned (.tuple #[.int .u64 0, .int .i64 2]) ∧ w = w') := fun w => chirp_way_arg n d w h hd
  obtain ⟨h1, h2, _⟩ := hasSz_iff.1 h
  clear h hd
  go_enter Try.func31, Try.ntmps31
  go_wp2_with fail
  refine (C1.out _).mono ?_; rintro e w' ⟨rfl, rfl⟩
  go_wp2_with fail
  go_ret2
  exact ⟨rfl, rfl⟩
theorem aft_size (a : Option Addr) (L c : Nat) (n d : Int) (w : World) (h : hasSz n = false) (hn : -9223372036854775808 ≤ n ∧ n < 9223372036854775808) :
    Calls Try.prog 32 #[.slice a L c, .int .i64 n, .int .i64 d] w fun e w' => e = .returned (.tuple #[.slice none 0 0, .int .i64 4]) ∧ w = w' := by
  have C1 : Hid (∀ w : World, Calls Try.prog 60 #[.int .i64 n, .int .i64 d] w fun e w' => e = .returned (.tuple #[.int .u64 0, .int .i64 4]) ∧ w = w') := fun w => chirp_way_size n d w h (by omega)
  clear h
  go_enter Try.func32, Try.ntmps32
  go_wp2_with fail
  refine (C1.out _).mono ?_; rintro e w' ⟨rfl, rfl⟩
  go_wp2_with fail
  go_ret2
  exact ⟨rfl, rfl⟩
theorem aft_arg (a : Option Addr) (L c : Nat) (n d : Int) (w : World) (h : hasSz n = true) (hd : ¬ (d = 0 ∨ d = 1)) :
    Calls Try.prog 32 #[.slice a L c, .int .i64 n, .int .i64 d] w fun e w' => e = .returned (.tuple #[.slice none 0 0, .int .i64 2]) ∧ w = w' := by
  have C1 : Hid (∀ w : World, Calls Try.prog 60 #[.int .i64 n, .int .i64 d] w fun e w' => e = .returned (.tuple #[.int .u64 0, .int .i64 2]) ∧ w = w') := fun w => chirp_way_arg n d w h hd
  clear h hd
  go_enter Try.func32, Try.ntmps32
  go_wp2_with fail
  refine (C1.out _).mono ?_; rintro e w' ⟨rfl, rfl⟩
  go_wp2_with fail
  go_ret2
  exact ⟨rfl, rfl⟩
theorem aft_len (a : Option Addr) (L c n : Nat) (d : Int) (w : World) (h : hasSz n = true) (hd : d = 0 ∨ d = 1) (hl : L < 2 * n - 1) :
    Calls Try.prog 32 #[.slice a L c, .int .i64 n, .int .i64 d] w fun e w' => e = .returned (.tuple #[.slice none 0 0, .int .i64 5]) ∧ w = w' := by
  have C1 : Hid (∀ w : World, Calls Try.prog 60 #[.int .i64 n, .int .i64 d] w fun e w' => e = .returned (.tuple #[.int .u64 (dirRt n d), .int .i64 0]) ∧ w = w') := fun w => chirp_way n d w h hd
  obtain ⟨h1, h2, _⟩ := hasSz_iff.1 h
  obtain ⟨q, hq⟩ : ∃ q : Nat, 2 * (n : Int) - 1 = q := ⟨2 * n - 1, by omega⟩
  have hlt : (L : Int) < (q : Int) := by omega
  have hq2 : q ≤ 33554432 := by omega
  clear h hd
  go_enter Try.func32, Try.ntmps32
  go_wp2_with fail
  refine (C1.out _).mono ?_; rintro e w' ⟨rfl, rfl⟩
  go_wp2_with fail
  go_ret2
  exact ⟨rfl, rfl⟩

set_option maxHeartbeats 1000000 in
theorem fore_ok (a : Option Addr) (n c : Nat) (d : Int) (xs : List Int) (w : World) (hx : Row .u64 w a xs) (hxl : xs.length = n) (h : hasSz n = true) (hd : d = 0 ∨ d = 1) :
    Calls Try.prog 31 #[.slice a n c, .int .i64 d] w (GivesRowE .u64 (foreL xs (dirBk n d) n) 0 w) := by
  obtain ⟨i0, hi, hz0, hz1, hz2⟩ := info_parts info_u64
  have C1 : Hid (∀ w : World, Calls Try.prog 60 #[.int .i64 n, .int .i64 d] w fun e w' => e = .returned (.tuple #[.int .u64 (dirRt n d), .int .i64 0]) ∧ w = w') := fun w => chirp_way n d w h hd
  have hzr := dirRt_range n d
  obtain ⟨h1, h2, _⟩ := hasSz_iff.1 h
  have hn1 : 1 ≤ n := by omega
  have hn2 : n ≤ 16777216 := by omega
  have hinv := inv_dir n d h
  have hur := pw_range (dirRt n d) 18446744069414584319
  rw [hinv] at hur
  have C2 : Hid (∀ w : World, Calls Try.prog 64 #[.int .u64 (dirRt n d)] w fun e w' => e = .returned (.int .u64 (dirBk n d)) ∧ w = w') := fun w => by
    rw [← hinv]; exact gold_Inv _ w hzr.1 (by omega)
  obtain ⟨z, hz⟩ : ∃ z, dirRt n d = z := ⟨_, rfl⟩
  obtain ⟨u, hu⟩ : ∃ u, dirBk n d = u := ⟨_, rfl⟩
  rw [hz] at C1 C2 hzr
  rw [hu] at C2 hur ⊢
  have C3 : Hid (∀ w : World, Calls Try.prog 61 #[.int .u64 u, .int .i64 n] w fun e w' => ∃ b off, e = .returned (.slice (some ⟨b, off, none⟩) n n) ∧ Row .u64 w' (some ⟨b, off, none⟩) (powL u n) ∧ Below w.heap.size w w') := fun w => chirp_powers u n w hur.1 (by omega) hn1 hn2
  have HPL : Hid ((powL u n).length = n) := powL_len u n
  have HTL : Hid (∀ k, triN n k < n) := fun k => triN_lt n k hn1
  have HX := Lib.hid hx
  have HN := Lib.hid hxl
  clear hz hu h hd h1 h2 hinv hx hxl
  go_enter Try.func31, Try.ntmps31
  go_wp2_with fail
  refine (C1.out _).mono ?_; rintro e w' ⟨rfl, rfl⟩
  go_wp2_with fail
  refine (C2.out _).mono ?_; rintro e w' ⟨rfl, rfl⟩
  go_wp2_with fail
  refine (C3.out _).mono ?_
  rintro e w1 ⟨b, off, rfl, hr1, hb1⟩
  have HR1 := Lib.hid hr1
  have HB1 := Lib.hid hb1
  clear hr1 hb1
  go_wp2_with (at_make; refine wpList_make_full _ rfl _ _ 22 rfl w1.heap.size 45 i0 (.int .u64 0) 1 Try.underlying22 hi hz0 hz1 .i64 .i64 n n n rfl rfl rfl rfl (by rw [hz2]; omega) (by unfold maxLen; omega) (Nat.le_refl _) ?_)
  intro w2 hown0 hgrow0
  have hown := Own.made hown0 hgrow0
  clear hown0 hgrow0
  go_wp2_with fail
  go_loopw [32] (fun i wr => ∃ k : Nat, k ≤ n ∧ i = .int .i64 k ∧ OwnAt .u64 45 w1 wr w1.heap.size n (fun j => if n ≤ j + k then nth xs (n - 1 - j) * pw u (triN n (n - 1 - j)) % 18446744069414584321 else 0)) (fun i _ => n - (intOf i).toNat)
  case atStart => exact ⟨0, Nat.zero_le _, rfl, by
    have := hown.own
    refine ⟨?_, hown.below⟩
    rw [show (List.range n).map (fun j => Value.int .u64 (if n ≤ j + 0 then nth xs (n - 1 - j) * pw u (triN n (n - 1 - j)) % 18446744069414584321 else 0)) = (List.range n).map (fun j => Value.int .u64 0) from List.map_congr_left (fun j hj => by rw [if_neg (by have := List.mem_range.1 hj; omega)])]
    exact this⟩
  case round =>
    obtain ⟨k, hk, rfl, hown⟩ := hrel
    by_cases hlt : k < n
    · obtain ⟨t, ht⟩ : ∃ t, triN n k = t := ⟨_, rfl⟩
      have htl := HTL.out k
      have CT : Hid (∀ w : World, Calls Try.prog 59 #[.int .i64 n, .int .i64 k] w fun e w' => e = .returned (.int .i64 t) ∧ w = w') := fun w => by rw [← ht]; exact chirp_tri n k w hn1 hn2 (by omega)
      rw [ht] at htl
      obtain ⟨xb, xo, rfl, hcx⟩ := ((HX.out.below HB1.out).below hown.below).at (by rw [HN.out]; omega)
      have hxk := hcx k (by rw [HN.out]; omega)
      have hxf := fits_u64.1 (HX.out.wf _ (nth_mem (show k < xs.length by rw [HN.out]; omega)))
      obtain ⟨b', off', hbo, hc⟩ := (HR1.out.below hown.below).at (by rw [HPL.out]; omega)
      simp only [Option.some.injEq, Addr.mk.injEq, and_true] at hbo
      obtain ⟨rfl, rfl⟩ := hbo
      have hck := hc t (by rw [HPL.out]; exact htl)
      rw [nth_powL _ _ _ htl] at hck
      have hpr := pw_range u t
      clear hc hcx
      obtain ⟨s, hs⟩ : ∃ s : Nat, n - 1 - k = s := ⟨_, rfl⟩
      have hs1 : (n : Int) - 1 - (k : Int) = (s : Int) := by omega
      have hsn : s < n := by omega
      have hcell := hown.cell s hsn
      rw [if_neg (by omega)] at hcell
      have hfz := hown.free s
      have hnext := hown.store s hsn (nth xs k * pw u t % 18446744069414584321) (f' := fun j => if n ≤ j + (k + 1) then nth xs (n - 1 - j) * pw u (triN n (n - 1 - j)) % 18446744069414584321 else 0) (by rw [if_pos (by omega), show n - 1 - s = k by omega, ht]) (fun j _ hj => by
        by_cases h : n ≤ j + k
        · rw [if_pos h, if_pos (by omega)]
        · rw [if_neg h, if_neg (by omega)])
      have HNX := Lib.hid hnext
      obtain ⟨x, hxx⟩ : ∃ x, nth xs k = x := ⟨_, rfl⟩
      rw [hxx] at hxk hxf HNX
      obtain ⟨y, hyy⟩ : ∃ y, pw u t = y := ⟨_, rfl⟩
      rw [hyy] at hck hpr HNX
      clear hown hnext ht hxx hyy hs
      go_wp2_with fail
      refine (CT.out _).mono ?_; rintro e w' ⟨rfl, rfl⟩
      go_wp2_with (go_at_call 65; refine (gold_Mul _ _ _ (by omega) (by omega) (by omega) (by omega)).mono ?_; rintro e w' ⟨rfl, rfl⟩)
      go_roundw
      case rel => exact ⟨k + 1, by omega, by go_num, HNX.out⟩
      case measure => simp [intOf]; omega
    · have hkn : k = n := by omega
      obtain ⟨a2, cap2, he, hr2, hcap2, hb2⟩ := hown.gives (xs := foreL xs u n) (foreL_len xs u n) (foreL_fits xs u n) (fun i hi => by rw [nth_foreL _ _ _ _ hi, if_pos (by omega)]) hn2
      simp only [Ending.returned.injEq, Value.slice.injEq] at he
      obtain ⟨rfl, hx1, rfl⟩ := he
      have hl1 := foreL_len xs u n
      rw [hl1] at hcap2
      have HL := Lib.hid hl1
      have HR := Lib.hid hr2
      clear hown hr2 hx1 hl1
      go_wp2_with fail
      go_ret2
      exact ⟨some ⟨w1.heap.size, 0, none⟩, n, by simp [HL.out], HR.out, by rw [HL.out]; exact hcap2, chain HB1.out hb2⟩

set_option maxHeartbeats 1000000 in
theorem aft_ok (a : Option Addr) (n L c : Nat) (d : Int) (cs : List Int) (w : World) (hx : Row .u64 w a cs) (hxl : cs.length = L) (hl : 2 * n - 1 ≤ L) (hL : L ≤ 33554432) (h : hasSz n = true) (hd : d = 0 ∨ d = 1) :
    Calls Try.prog 32 #[.slice a L c, .int .i64 n, .int .i64 d] w (GivesRowE .u64 (aftL cs (dirBk n d) n) 0 w) := by
  obtain ⟨i0, hi, hz0, hz1, hz2⟩ := info_parts info_u64
  have C1 : Hid (∀ w : World, Calls Try.prog 60 #[.int .i64 n, .int .i64 d] w fun e w' => e = .returned (.tuple #[.int .u64 (dirRt n d), .int .i64 0]) ∧ w = w') := fun w => chirp_way n d w h hd
  have hzr := dirRt_range n d
  obtain ⟨h1, h2, _⟩ := hasSz_iff.1 h
  have hn1 : 1 ≤ n := by omega
  have hn2 : n ≤ 16777216 := by omega
  obtain ⟨q, hq⟩ : ∃ q : Nat, 2 * (n : Int) - 1 = q := ⟨2 * n - 1, by omega⟩
  have hnlt : ¬ (L : Int) < (q : Int) := by omega
  have hq2 : q ≤ 33554432 := by omega
  have hqn : q = 2 * n - 1 := by omega
  have hinv := inv_dir n d h
  have hur := pw_range (dirRt n d) 18446744069414584319
  rw [hinv] at hur
  have C2 : Hid (∀ w : World, Calls Try.prog 64 #[.int .u64 (dirRt n d)] w fun e w' => e = .returned (.int .u64 (dirBk n d)) ∧ w = w') := fun w => by
    rw [← hinv]; exact gold_Inv _ w hzr.1 (by omega)
  obtain ⟨z, hz⟩ : ∃ z, dirRt n d = z := ⟨_, rfl⟩
  obtain ⟨u, hu⟩ : ∃ u, dirBk n d = u := ⟨_, rfl⟩
  rw [hz] at C1 C2 hzr
  rw [hu] at C2 hur ⊢
  have C3 : Hid (∀ w : World, Calls Try.prog 61 #[.int .u64 u, .int .i64 n] w fun e w' => ∃ b off, e = .returned (.slice (some ⟨b, off, none⟩) n n) ∧ Row .u64 w' (some ⟨b, off, none⟩) (powL u n) ∧ Below w.heap.size w w') := fun w => chirp_powers u n w hur.1 (by omega) hn1 hn2
  have HPL : Hid ((powL u n).length = n) := powL_len u n
  have HTL : Hid (∀ k, triN n k < n) := fun k => triN_lt n k hn1
  have HX := Lib.hid hx
  have HN := Lib.hid hxl
  have HQN := Lib.hid hqn
  have HL2 := Lib.hid hl
  clear hz hu h hd h1 h2 hinv hx hxl hqn hl
  go_enter Try.func32, Try.ntmps32
  go_wp2_with fail
  refine (C1.out _).mono ?_; rintro e w' ⟨rfl, rfl⟩
  go_wp2_with fail
  refine (C2.out _).mono ?_; rintro e w' ⟨rfl, rfl⟩
  go_wp2_with fail
  refine (C3.out _).mono ?_
  rintro e w1 ⟨b, off, rfl, hr1, hb1⟩
  have HR1 := Lib.hid hr1
  have HB1 := Lib.hid hb1
  clear hr1 hb1
  go_wp2_with (at_make; refine wpList_make_full _ rfl _ _ 22 rfl w1.heap.size 45 i0 (.int .u64 0) 1 Try.underlying22 hi hz0 hz1 .i64 .i64 n n n rfl rfl rfl rfl (by rw [hz2]; omega) (by unfold maxLen; omega) (Nat.le_refl _) ?_)
  intro w2 hown0 hgrow0
  have hown := Own.made hown0 hgrow0
  clear hown0 hgrow0
  go_wp2_with fail
  go_loopw [38] (fun i wr => ∃ k : Nat, k ≤ n ∧ i = .int .i64 k ∧ OwnAt .u64 45 w1 wr w1.heap.size n (fun j => if j < k then nth cs (n - 1 + j) * pw u (triN n j) % 18446744069414584321 else 0)) (fun i _ => n - (intOf i).toNat)
  case atStart => exact ⟨0, Nat.zero_le _, rfl, own_eqz hown (fun j => if_neg (by omega))⟩
  case round =>
    obtain ⟨k, hk, rfl, hown⟩ := hrel
    by_cases hlt : k < n
    · obtain ⟨t, ht⟩ : ∃ t, triN n k = t := ⟨_, rfl⟩
      have htl := HTL.out k
      have CT : Hid (∀ w : World, Calls Try.prog 59 #[.int .i64 n, .int .i64 k] w fun e w' => e = .returned (.int .i64 t) ∧ w = w') := fun w => by rw [← ht]; exact chirp_tri n k w hn1 hn2 (by omega)
      rw [ht] at htl
      obtain ⟨s, hs⟩ : ∃ s : Nat, n - 1 + k = s := ⟨_, rfl⟩
      have hs1 : (n : Int) - 1 + (k : Int) = (s : Int) := by omega
      have hsn : s < L := by have := HL2.out; omega
      obtain ⟨xb, xo, rfl, hcx⟩ := ((HX.out.below HB1.out).below hown.below).at (by rw [HN.out]; omega)
      have hxk := hcx s (by rw [HN.out]; exact hsn)
      have hxf := fits_u64.1 (HX.out.wf _ (nth_mem (show s < cs.length by rw [HN.out]; exact hsn)))
      obtain ⟨b', off', hbo, hc⟩ := (HR1.out.below hown.below).at (by rw [HPL.out]; omega)
      simp only [Option.some.injEq, Addr.mk.injEq, and_true] at hbo
      obtain ⟨rfl, rfl⟩ := hbo
      have hck := hc t (by rw [HPL.out]; exact htl)
      rw [nth_powL _ _ _ htl] at hck
      have hpr := pw_range u t
      clear hc hcx
      have hcell := hown.cell k hlt
      rw [if_neg (Nat.lt_irrefl k)] at hcell
      have hfz := hown.free k
      have hnext := (hown.store k hlt (nth cs s * pw u t % 18446744069414584321) (f' := fun j => if j < k + 1 then nth cs (n - 1 + j) * pw u (triN n j) % 18446744069414584321 else 0) (by rw [if_pos (by omega), hs, ht]) (fun j _ hj => by
        by_cases h : j < k
        · rw [if_pos h, if_pos (by omega)]
        · rw [if_neg h, if_neg (by omega)])).later (Below.refl _ _).drew
      have HNX := Lib.hid hnext
      obtain ⟨x, hxx⟩ : ∃ x, nth cs s = x := ⟨_, rfl⟩
      rw [hxx] at hxk hxf HNX
      obtain ⟨y, hyy⟩ : ∃ y, pw u t = y := ⟨_, rfl⟩
      rw [hyy] at hck hpr HNX
      have g1 : (0 : Int) ≤ (s : Int) := by omega
      have g2 : (s : Int) < (L : Int) := by omega
      have g3 : (0 : Int) ≤ (t : Int) := by omega
      have g4 : (t : Int) < (n : Int) := by omega
      have g5 : (0 : Int) ≤ (k : Int) := by omega
      have g6 : (k : Int) < (n : Int) := by omega
      have e4 : IntKind.i64.wrap ((n : Int) - 1) = (n : Int) - 1 := IntWalk.i64_in _ (by omega)
      have e6 : IntKind.i64.wrap (s : Int) = (s : Int) := IntWalk.i64_in _ (by omega)
      clear hown hnext ht hxx hyy hs
      go_wp2_with fail
      refine wp_region_still_tail 16 (by kernel_rfl) (by kernel_rfl) ?_; simp only [List.take_succ_cons, List.take_zero, List.drop_succ_cons, List.drop_zero]
      repeat still_step
      still_call (flipW (CT.out _))
      repeat still_step
      still_call (flipW (gold_Mul x y _ (by omega) (by omega) (by omega) (by omega)))
      try refine wpStill_nil ?_
      go_wp2_with fail
      go_roundw
      case rel => exact ⟨k + 1, by omega, by go_num, HNX.out⟩
      case measure => simp [intOf]; omega
    · have hkn : k = n := by omega
      obtain ⟨a2, cap2, he, hr2, hcap2, hb2⟩ := hown.gives (xs := aftL cs u n) (aftL_len cs u n) (aftL_fits cs u n) (fun i hi => by rw [nth_aftL _ _ _ _ hi, if_pos (by omega)]) hn2
      simp only [Ending.returned.injEq, Value.slice.injEq] at he
      obtain ⟨rfl, hx1, rfl⟩ := he
      have hl1 := aftL_len cs u n
      rw [hl1] at hcap2
      have HL := Lib.hid hl1
      have HR := Lib.hid hr2
      clear hown hr2 hx1 hl1
      go_wp2_with fail
      go_ret2
      exact ⟨some ⟨w1.heap.size, 0, none⟩, n, by simp [HL.out], HR.out, by rw [HL.out]; exact hcap2, chain HB1.out hb2⟩
end Go.Proofs.Ytlgklkhijmeldaa
