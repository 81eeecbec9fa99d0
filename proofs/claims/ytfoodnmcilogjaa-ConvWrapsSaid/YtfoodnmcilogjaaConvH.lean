/- Noughts behind a row; a row around other places. -/
import Derived.Test.YtfoodnmcilogjaaConvE
import Derived.Test.YtfoodnmcilogjaaConvF
import Derived.Test.YtfoodnmcilogjaaVecO
namespace Go.Proofs.Ytfoodnmcilogjaa
open Go.RowKit Sm
set_option linter.unusedVariables false
set_option linter.unusedSimpArgs false

/-- A row, reduced, with noughts behind. -/
def padL (xs : List Int) (m : Nat) : List Int := xs.map (· % 18446744069414584321) ++ List.replicate (m - xs.length) 0
theorem padL_len (xs : List Int) (m : Nat) (h : xs.length ≤ m) : (padL xs m).length = m := by simp [padL]; omega
theorem padL_fits (xs : List Int) (m : Nat) : ∀ x ∈ padL xs m, fits .u64 x := by
  intro x hx
  rcases List.mem_append.1 hx with h | h
  · obtain ⟨y, _, rfl⟩ := List.mem_map.1 h; exact fits_u64.2 (by omega)
  · rw [List.eq_of_mem_replicate h]; exact fits_u64.2 (by omega)
theorem padL_cells (xs : List Int) (m : Nat) : (xs.map (· % 18446744069414584321)).map (Value.int .u64) ++ List.replicate (m - xs.length) (Value.int .u64 0) = (padL xs m).map (Value.int .u64) := by
  simp [padL]

theorem conv_Pad_no (a : Option Addr) (n ca : Nat) (m : Int) (w : World) (h : m < 0 ∨ 16777216 < m) (hm : -9223372036854775808 ≤ m ∧ m < 9223372036854775808) :
    Calls Try.prog 67 #[.slice a n ca, .int .i64 m] w fun e w' => e = .returned (.tuple #[.slice none 0 0, .int .i64 2]) ∧ w = w' := by
  rcases (show m < 0 ∨ (0 ≤ m ∧ 16777216 < m) by omega) with h1 | ⟨h1, h2⟩
  all_goals
    clear h
    go_enter Try.func67, Try.ntmps67
    go_wp2_with fail
    go_ret2
    exact ⟨rfl, rfl⟩
theorem conv_Pad_len (a : Option Addr) (n ca m : Nat) (w : World) (h : m < n) (hm : m ≤ 16777216) (hn : n ≤ 9223372036854775807) :
    Calls Try.prog 67 #[.slice a n ca, .int .i64 m] w fun e w' => e = .returned (.tuple #[.slice none 0 0, .int .i64 5]) ∧ w = w' := by
  have h1 : (m : Int) < (n : Int) := by omega
  go_enter Try.func67, Try.ntmps67
  go_wp2_with fail
  go_ret2
  exact ⟨rfl, rfl⟩

theorem vec_RedON (a : Option Addr) (n cap : Nat) (xs : List Int) (w : World) (hx : Row .u64 w a xs) (hn : xs.length = n) (hl : n ≤ 16777216) :
    Calls Try.prog 61 #[.slice a n cap] w (GivesOwn .u64 28 (xs.map (· % 18446744069414584321)) w) := by
  subst hn; exact vec_RedO a cap xs w hx hl
theorem vref_RedON (a : Option Addr) (n cap : Nat) (xs : List Int) (w : World) (hx : Row .u64 w a xs) (hn : xs.length = n) (hl : n ≤ 16777216) :
    Calls Try.prog 24 #[.slice a n cap] w (GivesOwn .u64 28 (xs.map (· % 18446744069414584321)) w) := by
  subst hn; exact vref_RedO a cap xs w hx hl

set_option maxHeartbeats 400000 in
theorem conv_Pad_ok (a : Option Addr) (n ca m : Nat) (xs : List Int) (w : World) (hx : Row .u64 w a xs) (hn : xs.length = n) (h : n ≤ m) (hm : m ≤ 16777216) :
    Calls Try.prog 67 #[.slice a n ca, .int .i64 m] w (GivesRowE .u64 (padL xs m) 0 w) := by
  obtain ⟨i0, hi, hz0, hz1, hz2⟩ := info_parts info_u64
  have HX := Lib.hid hx
  have HN := Lib.hid hn
  have hlt : ¬ (m : Int) < (n : Int) := by omega
  obtain ⟨d, hd⟩ : ∃ d, m - n = d := ⟨_, rfl⟩
  have e1 : (m : Int) - (n : Int) = (d : Int) := by omega
  have e2 : IntKind.i64.wrap (d : Int) = (d : Int) := IntWalk.i64_in _ (by omega)
  have HD := Lib.hid hd
  have HML : Hid ((xs.map (· % 18446744069414584321)).length = n) := by unfold Hid; simp [hn]
  have hnd : n + d ≤ 16777216 := by omega
  clear hx hn hd
  go_enter Try.func67, Try.ntmps67
  go_wp2_with fail
  refine (vec_RedON a n ca xs _ HX.out HN.out (by omega)).mono ?_
  rintro e w1 ⟨a1, cap1, rfl, hown, hf, _, hb1⟩
  rw [HML.out] at hown ⊢
  have HO := Lib.hid hown
  clear hown hf
  have hsz := hb1.size
  go_wp2_with (at_builtin; refine wpList_append_zeros _ rfl _ _ 22 3 rfl w.heap.size 28 i0 .u64 .i64 .i64 Try.underlying22 Try.underlying3 hi hz0 hz1 hz2 _ n _ rfl HO.out d rfl (by omega) hsz ?_)
  intro v' w2 hown' hgrow
  have hb2 : Below w.heap.size w w2 := append_below hb1 hsz HO.out hgrow
  obtain ⟨a2, cap2, rfl, hcap2⟩ := own_slice hown'
  have hpl := padL_len xs m (by rw [HN.out]; omega)
  rw [show List.replicate d (Value.int .u64 0) = List.replicate (m - xs.length) (Value.int .u64 0) by rw [HN.out, HD.out], ← List.map_map, padL_cells, show n + d = m by omega] at hown'
  rw [show n + d = m by omega] at hcap2 ⊢
  have hrow := Row.of_own (a := a2) (cap := cap2) hpl (by omega) (padL_fits xs m) hown'
  have HR := Lib.hid hrow
  clear hown' hgrow hrow
  go_wp2_with fail
  go_ret2
  exact ⟨a2, cap2, by simp [hpl], HR.out, by rw [hpl]; exact hcap2, hb2⟩

theorem conv_Wrap_no (a : Option Addr) (n ca : Nat) (m : Int) (w : World) (h : m < 1 ∨ 16777216 < m) (hm : -9223372036854775808 ≤ m ∧ m < 9223372036854775808) :
    Calls Try.prog 68 #[.slice a n ca, .int .i64 m] w fun e w' => e = .returned (.tuple #[.slice none 0 0, .int .i64 2]) ∧ w = w' := by
  rcases (show m < 1 ∨ (1 ≤ m ∧ 16777216 < m) by omega) with h1 | ⟨h1, h2⟩
  all_goals
    clear h
    go_enter Try.func68, Try.ntmps68
    go_wp2_with fail
    go_ret2
    exact ⟨rfl, rfl⟩

theorem own_eqf {k : IntKind} {e : TypeId} {w wr : World} {g n : Nat} {f f' : Nat → Int} (h : OwnAt k e w wr g n f) (he : ∀ n, f' n = f n) : OwnAt k e w wr g n f' := by
  rw [show f' = f from funext he]; exact h

set_option maxHeartbeats 1000000 in
theorem conv_Wrap_ok (a : Option Addr) (n ca m : Nat) (xs : List Int) (w : World) (hx : Row .u64 w a xs) (hn : xs.length = n) (hl : n ≤ 16777216) (h1 : 1 ≤ m) (hm : m ≤ 16777216) :
    Calls Try.prog 68 #[.slice a n ca, .int .i64 m] w (GivesRowE .u64 (wrL xs m) 0 w) := by
  obtain ⟨i0, hi, hz0, hz1, hz2⟩ := info_parts info_u64
  have HX := Lib.hid hx
  have HN := Lib.hid hn
  have e0 : ((m : Int) == 0) = false := bno (by omega)
  have e0' : ¬ (m : Int) = 0 := by omega
  have e0'' : ¬ m = 0 := by omega
  clear hx hn
  go_enter Try.func68, Try.ntmps68
  go_wp2_with (at_make; refine wpList_make_full _ rfl _ _ 22 rfl w.heap.size 28 i0 (.int .u64 0) 1 Try.underlying22 hi hz0 hz1 .i64 .i64 m m m rfl rfl rfl rfl (by rw [hz2]; omega) (by unfold maxLen; omega) (Nat.le_refl _) ?_)
  intro w1 hown0 hgrow0
  have hown := OwnAt.made (Below.refl _ _) hown0 hgrow0
  clear hown0 hgrow0
  go_wp2_with fail
  go_loopw [19] (fun i wr => ∃ k : Nat, k ≤ n ∧ i = .int .i64 k ∧ OwnAt .u64 28 w wr w.heap.size m (fun t => S k (wrT xs m t) % 18446744069414584321)) (fun i _ => n - (intOf i).toNat)
  case atStart => exact ⟨0, Nat.zero_le _, rfl, own_eqf hown (fun t => rfl)⟩
  case round =>
    obtain ⟨k, hk, rfl, hown⟩ := hrel
    by_cases hlt : k < n
    · obtain ⟨r, hr⟩ : ∃ r, k % m = r := ⟨_, rfl⟩
      have hrm : r < m := by rw [← hr]; exact Nat.mod_lt _ (by omega)
      have e1 : (k : Int).tmod (m : Int) = (r : Int) := by rw [Int.tmod_eq_emod_of_nonneg (by omega), ← Int.natCast_emod, hr]
      have e1' : (k : Int) % (m : Int) = (r : Int) := by rw [← Int.natCast_emod, hr]
      obtain ⟨b1, o1, rfl, hc⟩ := (HX.out.below hown.below).at (by have := HN.out; omega)
      have hck := hc k (by have := HN.out; omega)
      have hf := fits_u64.1 (HX.out.wf _ (nth_mem (show k < xs.length by have := HN.out; omega)))
      have hcell := hown.cell r hrm
      have hfz := hown.free r
      have hnext := hown.store r hrm ((S k (wrT xs m r) % 18446744069414584321 + nth xs k) % 18446744069414584321) (f' := fun t => S (k + 1) (wrT xs m t) % 18446744069414584321) (by
        show (S k (wrT xs m r) + wrT xs m r k) % 18446744069414584321 = _
        have : wrT xs m r k = nth xs k := by unfold wrT; rw [if_pos hr]
        rw [this]; omega) (fun j _ hj => by
        show (S k (wrT xs m j) + wrT xs m j k) % 18446744069414584321 = _
        have : wrT xs m j k = 0 := by unfold wrT; rw [if_neg (by omega)]
        rw [this, Int.add_zero])
      obtain ⟨s, hs⟩ : ∃ s, S k (wrT xs m r) % 18446744069414584321 = s := ⟨_, rfl⟩
      have hs0 : 0 ≤ s ∧ s < 18446744069414584321 := by omega
      rw [hs] at hcell hnext
      obtain ⟨x, hx⟩ : ∃ x, nth xs k = x := ⟨_, rfl⟩
      rw [hx] at hck hf hnext
      have HNX := Lib.hid hnext
      have g1 : (0 : Int) ≤ (r : Int) := by omega
      have g2 : (r : Int) < (m : Int) := by omega
      have g3 : (0 : Int) ≤ (k : Int) := by omega
      have g4 : (k : Int) < (n : Int) := by omega
      clear hc hr hnext hs hx hown
      go_wp2_with fail
      refine wp_region_still_tail 12 (by kernel_rfl) (by kernel_rfl) ?_; simp only [List.take_succ_cons, List.take_zero, List.drop_succ_cons, List.drop_zero]
      repeat still_step
      still_call (flipW (gold_Add s x _ (by omega) (by omega) (by omega) (by omega)))
      try refine wpStill_nil ?_
      go_wp2_with fail
      go_roundw
      case rel => exact ⟨k + 1, by omega, by go_num, HNX.out.later (Below.refl _ _).drew⟩
      case measure => simp [intOf]; omega
    · have hk' : k = n := by omega
      have hrow := hown.row (xs := wrL xs m) (wrL_len xs m) (wrL_fits xs m) (fun i hi => by rw [nth_wrL _ _ _ hi, HN.out, hk']) hm
      have hb := hown.below
      have HR := Lib.hid hrow
      have HWL := Lib.hid (wrL_len xs m)
      clear hown hrow
      go_wp2_with fail
      go_ret2
      exact ⟨some ⟨w.heap.size, 0, none⟩, m, by simp [HWL.out], HR.out, by rw [HWL.out]; exact ⟨Nat.le_refl _, fun h => by cases h⟩, hb⟩
end Go.Proofs.Ytfoodnmcilogjaa
