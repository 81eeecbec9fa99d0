/- Rows backwards and turned: the contracts, and the law VecTurns. -/
import Derived.Test.YtfoodnmcilogjaaVec
namespace Go.Proofs.Ytfoodnmcilogjaa
open Go.RowKit
set_option linter.unusedVariables false
set_option linter.unusedSimpArgs false

def revL (xs : List Int) : List Int := (List.range xs.length).map fun i => nth xs (revAt xs.length i) % 18446744069414584321

/-- Place i of a row of n, turned by k. -/
def turnAt (n : Nat) (k : Int) (i : Nat) : Nat := (((i : Int) + k) % n).toNat
def turnL (xs : List Int) (k : Int) : List Int := (List.range xs.length).map fun i => nth xs (turnAt xs.length k i) % 18446744069414584321

theorem revL_len (xs : List Int) : (revL xs).length = xs.length := by simp [revL]
theorem turnL_len (xs : List Int) (k : Int) : (turnL xs k).length = xs.length := by simp [turnL]
theorem revL_fits (xs : List Int) : ∀ x ∈ revL xs, fits .u64 x := by
  intro x hx; obtain ⟨i, _, rfl⟩ := List.mem_map.1 hx; exact fits_u64.2 (by omega)
theorem turnL_fits (xs : List Int) (k : Int) : ∀ x ∈ turnL xs k, fits .u64 x := by
  intro x hx; obtain ⟨i, _, rfl⟩ := List.mem_map.1 hx; exact fits_u64.2 (by omega)
theorem mapmod_fits (xs : List Int) : ∀ x ∈ xs.map (· % 18446744069414584321), fits .u64 x := by
  intro x hx; obtain ⟨i, _, rfl⟩ := List.mem_map.1 hx; exact fits_u64.2 (by omega)

theorem turnAt_lt {n : Nat} (k : Int) (i : Nat) (h : 0 < n) : turnAt n k i < n := by
  unfold turnAt
  have h1 := Int.emod_nonneg ((i : Int) + k) (show (n : Int) ≠ 0 by omega)
  have h2 := Int.emod_lt_of_pos ((i : Int) + k) (show (0 : Int) < n by omega)
  omega

theorem revL_revL (xs : List Int) : revL (revL xs) = xs.map (· % 18446744069414584321) := by
  apply ext_nth (by simp [revL])
  intro i hi
  have hi' : i < xs.length := by simpa [revL] using hi
  have h1 : i < (revL xs).length := by rw [revL_len]; exact hi'
  rw [nth_map (· % 18446744069414584321) xs i hi']
  show nth ((List.range (revL xs).length).map _) i = _
  rw [nth_ofFn _ _ _ h1, revL_len]
  show nth ((List.range xs.length).map _) _ % _ = _
  rw [nth_ofFn _ _ _ (revAt_lt hi'), Int.emod_emod]
  congr 2
  unfold revAt
  by_cases h0 : i = 0
  · subst h0; simp
  · rw [Nat.mod_eq_of_lt (show xs.length - i < xs.length by omega), show xs.length - (xs.length - i) = i by omega, Nat.mod_eq_of_lt hi']

theorem turnL_turnL (xs : List Int) (k m : Int) : turnL (turnL xs k) m = turnL xs (k + m) := by
  apply ext_nth (by simp [turnL])
  intro i hi
  have hi' : i < xs.length := by simpa [turnL] using hi
  have h1 : i < (turnL xs k).length := by rw [turnL_len]; exact hi'
  show nth ((List.range (turnL xs k).length).map _) i = nth ((List.range xs.length).map _) i
  rw [nth_ofFn _ _ _ h1, nth_ofFn _ _ _ hi', turnL_len]
  show nth ((List.range xs.length).map _) _ % _ = _
  rw [nth_ofFn _ _ _ (turnAt_lt m i (by omega)), Int.emod_emod]
  congr 2
  unfold turnAt
  have h2 := Int.emod_nonneg ((i : Int) + m) (show (xs.length : Int) ≠ 0 by omega)
  rw [Int.toNat_of_nonneg h2, Int.emod_add_emod, show (i : Int) + m + k = i + (k + m) by omega]

theorem revL_head (xs : List Int) (h : 0 < xs.length) : nth xs (revAt xs.length 0) = nth xs 0 := by
  congr 1; unfold revAt; simp

set_option maxHeartbeats 400000 in
theorem vec_Rev (a : Option Addr) (cap : Nat) (xs : List Int) (w : World) (hx : Row .u64 w a xs) (hl : xs.length ≤ 16777216) :
    Calls Try.prog 21 #[.slice a xs.length cap] w (GivesRow .u64 (revL xs) w) := by
  have hent : ∀ args w, (callFunc 75 args).run Try.prog w = .ok (.enter 75 args) w := enters_of Try.func75 (by kernel_rfl) rfl
  obtain ⟨W, hW⟩ : ∃ W : World, W = (w.alloc (.cells #[.slice a xs.length cap] 22)).alloc (.cells #[.int .i64 xs.length] 3) := ⟨_, rfl⟩
  have hWb : Below w.heap.size w W := hW ▸ ((Below.refl _ _).alloc (Nat.le_refl _) _).alloc (by simp) _
  have hc0 : W.cell? ⟨w.heap.size, 0, none⟩ = some (.slice a xs.length cap) := by subst hW; simp
  have hc1 : W.cell? ⟨w.heap.size + 1, 0, none⟩ = some (.int .i64 xs.length) := by subst hW; simp
  have hsz : w.heap.size + 2 = W.heap.size := by subst hW; simp
  have hf : ∀ (i : Nat) (wr : World), i < xs.length → Below W.heap.size W wr →
      Calls Try.prog 75 (#[.int .i64 i] ++ #[.pointer (some ⟨w.heap.size, 0, none⟩), .pointer (some ⟨w.heap.size + 1, 0, none⟩)]) wr fun e w' => e = .returned (.int .u64 (nth xs (revAt xs.length i) % 18446744069414584321)) ∧ Below wr.heap.size wr w' :=
    fun i wr hi hb => vec_Rev1 i a cap xs w.heap.size (w.heap.size + 1) wr hi (by rw [hb.cell (by show w.heap.size < W.heap.size; omega)]; exact hc0) (by rw [hb.cell (by show w.heap.size + 1 < W.heap.size; omega)]; exact hc1) ((hx.below hWb).below hb)
  have HF := Lib.hid hf
  have HW := Lib.hid hW
  have HB := Lib.hid hWb
  clear hf hx hWb hc0 hc1 hsz
  subst hW
  go_enter Try.func21, Try.ntmps21
  go_wp2_with fail
  refine (vec_each xs.length (fun i => nth xs (revAt xs.length i) % 18446744069414584321) _ _ _ hl (modfits _) hent HF.out).mono ?_
  rintro e w' ⟨a', cap', rfl, hr, hnil, hb⟩
  go_wp2_with fail
  go_ret
  exact ⟨a', cap', by simp [revL], hr, hnil, HB.out.trans (hb.mono HB.out.size)⟩

set_option maxHeartbeats 400000 in
theorem vref_Rev (a : Option Addr) (cap : Nat) (xs : List Int) (w : World) (hx : Row .u64 w a xs) (hl : xs.length ≤ 16777216) :
    Calls Try.prog 22 #[.slice a xs.length cap] w (GivesRow .u64 (revL xs) w) := by
  obtain ⟨i0, hi, hz0, hz1, hz2⟩ := info_parts info_u64
  have HX : Hid (Row .u64 w a xs) := hx
  clear hx
  by_cases hn : 0 < xs.length
  · obtain ⟨b, off, rfl, hc⟩ := HX.out.at (by omega)
    have hck := hc 0 hn
    rw [Nat.add_zero] at hck
    have hf := fits_u64.1 (HX.out.wf _ (nth_mem hn))
    have hcell : w.cell? ⟨b, off, none⟩ = some (.int .u64 (nth xs 0)) := hck
    clear hc hck
    have hown0 := Own.nil .u64 28 w (fun j => nth xs (revAt xs.length j) % 18446744069414584321)
    go_enter Try.func22, Try.ntmps22
    go_wp2_with (first | (go_at_call 25; refine (ref_Red _ _ (by omega) (by omega)).mono ?_; rintro e w' ⟨rfl, rfl⟩) | (at_builtin; refine wpList_append_own _ rfl _ _ 22 rfl w.heap.size 28 i0 (.int .u64 0) 1 8 Try.underlying22 hi hz0 hz1 hz2 rfl (by decide) _ _ _ rfl (hown0.own.alloc _) ⟨w.heap.size, 0, none⟩ 1 1 [.int .u64 (nth xs 0 % 18446744069414584321)] rfl rfl (cell_one_new _ _ _) (one_cell _ _) (by unfold maxLen; omega) (by omega) (size_alloc_le hown0.below _) ?_))
    intro v' w1 hown' hgrow _
    have hnext := hown0.push (nth xs 0 % 18446744069414584321) (by rw [revL_head xs hn]) hown' hgrow
    clear hown' hgrow hown0
    go_wp2_with fail
    go_loopw [3, 4] (fun v i wr => ∃ k : Nat, 1 ≤ k ∧ k ≤ xs.length ∧ i = .int .i64 ((xs.length : Int) - k) ∧ Own .u64 28 w wr v k (fun j => nth xs (revAt xs.length j) % 18446744069414584321)) (fun _ i _ => (intOf i).toNat)
    case atStart => exact ⟨1, by omega, by omega, by go_num, hnext⟩
    case round =>
      obtain ⟨k, hk1, hk, rfl, hown⟩ := hrel
      by_cases hlt : k < xs.length
      · obtain ⟨m, hm⟩ : ∃ m : Nat, (xs.length : Int) - k = m ∧ revAt xs.length k = m := ⟨xs.length - k, by omega, by unfold revAt; exact Nat.mod_eq_of_lt (by omega)⟩
        have hmlt : m < xs.length := by omega
        obtain ⟨b', off', hbo, hc⟩ := (HX.out.below hown.below).at (by omega)
        have hck := hc m hmlt
        simp only [Option.some.injEq, Addr.mk.injEq, and_true] at hbo
        obtain ⟨rfl, rfl⟩ := hbo
        have hf := fits_u64.1 (HX.out.wf _ (nth_mem hmlt))
        have HM := Lib.hid hm.2
        have hm0 : 0 < m := by omega
        rw [hm.1]
        have HM1 := Lib.hid hm.1
        clear hc hm
        go_wp2_with (first | (go_at_call 25; refine (ref_Red _ _ (by omega) (by omega)).mono ?_; rintro e w' ⟨rfl, rfl⟩) | (at_builtin; refine wpList_append_own _ rfl _ _ 22 rfl w.heap.size 28 i0 (.int .u64 0) 1 8 Try.underlying22 hi hz0 hz1 hz2 rfl (by decide) _ _ _ rfl (hown.own.alloc _) ⟨wr.heap.size, 0, none⟩ 1 1 [.int .u64 (nth xs m % 18446744069414584321)] rfl rfl (cell_one_new _ _ _) (one_cell _ _) (by unfold maxLen; omega) (by omega) (size_alloc_le hown.below _) ?_))
        intro v'' w2 hown' hgrow _
        have hnext := hown.push (nth xs m % 18446744069414584321) (by rw [HM.out]) hown' hgrow
        clear hown' hgrow
        go_wp2_with fail
        go_roundw
        case rel => exact ⟨k + 1, by omega, by omega, by have := HM1.out; go_num, hnext⟩
        case measure => have := HM1.out; simp [intOf]; omega
      · have hk' : k = xs.length := by omega
        have hres := hown.gives (xs := revL xs) (by rw [revL_len]; omega) (revL_fits xs) (fun i hi => nth_ofFn _ _ _ (by omega)) (by omega)
        clear hown
        go_wp2_with fail
        go_ret
        exact hres
  · have h0 : xs = [] := List.length_eq_zero_iff.1 (by omega)
    subst h0
    go_enter Try.func22, Try.ntmps22
    go_wp2_with fail
    go_loop [3, 4] (fun v i => v = .slice none 0 0 ∧ i = .int .i64 (-1)) (fun _ _ => 0)
    case atStart => exact ⟨rfl, rfl⟩
    case round =>
      obtain ⟨rfl, rfl⟩ := hrel
      go_wp2_with fail
      go_ret
      exact ⟨none, 0, rfl, Row.nil _ _ _, ⟨Nat.le_refl _, fun _ => rfl⟩, Below.refl _ _⟩

theorem turn_int {n : Nat} (k : Int) (i : Nat) (h : 0 < n) (hk : -(n : Int) < k.tmod n ∧ k.tmod n < n) : ((i : Int) + k.tmod n + n).tmod n = (turnAt n k i : Nat) := by
  have h1 := Int.emod_nonneg ((i : Int) + k) (show (n : Int) ≠ 0 by omega)
  unfold turnAt
  rw [Int.toNat_of_nonneg h1, Int.tmod_eq_emod_of_nonneg (by omega), Int.add_emod_right]
  rw [Int.add_emod, Int.add_emod (i : Int) k]
  congr 2
  rw [Int.tmod_def, Int.sub_eq_add_neg, ← Int.mul_neg, Int.add_mul_emod_self_left]

theorem tmod_range {n : Nat} (k : Int) (h : 0 < n) : -(n : Int) < k.tmod n ∧ k.tmod n < n := by
  have h1 := Int.tmod_lt_of_pos k (show (0 : Int) < n by omega)
  have h2 := Int.tmod_lt_of_pos (-k) (show (0 : Int) < n by omega)
  rw [Int.neg_tmod] at h2
  omega

set_option maxHeartbeats 400000 in
theorem vec_Turn1 (i : Nat) (a : Option Addr) (cap : Nat) (xs : List Int) (k : Int) (p q r : Nat) (w : World) (hi : i < xs.length) (hl : xs.length ≤ 16777216) (hc : w.cell? ⟨p, 0, none⟩ = some (.slice a xs.length cap)) (hc1 : w.cell? ⟨q, 0, none⟩ = some (.int .i64 (k.tmod xs.length))) (hc2 : w.cell? ⟨r, 0, none⟩ = some (.int .i64 xs.length)) (hx : Row .u64 w a xs) :
    Calls Try.prog 74 #[.int .i64 i, .pointer (some ⟨p, 0, none⟩), .pointer (some ⟨q, 0, none⟩), .pointer (some ⟨r, 0, none⟩)] w fun e w' => e = .returned (.int .u64 (nth xs (turnAt xs.length k i) % 18446744069414584321)) ∧ Below w.heap.size w w' := by
  obtain ⟨b, off, rfl, hcs⟩ := hx.at (by omega)
  have hj := turnAt_lt k i (show 0 < xs.length by omega)
  have hck := hcs _ hj
  have hf := fits_u64.1 (hx.wf _ (nth_mem hj))
  have hr := tmod_range k (show 0 < xs.length by omega)
  have e2 := turn_int k i (show 0 < xs.length by omega) hr
  generalize turnAt xs.length k i = j at *
  generalize k.tmod xs.length = k' at *
  have e0 : IntKind.i64.wrap ((i : Int) + k') = (i : Int) + k' := IntWalk.i64_in _ (by omega)
  have e1 : IntKind.i64.wrap ((i : Int) + k' + (xs.length : Int)) = (i : Int) + k' + (xs.length : Int) := IntWalk.i64_in _ (by omega)
  have j0 : (0 : Int) ≤ (j : Int) := by omega
  have j1 : (j : Int) < (xs.length : Int) := by omega
  have hn0 : ((xs.length : Int) == 0) = false := by simp; intro h; subst h; simp at hi
  clear hcs hx
  go_enter Try.func74, Try.ntmps74
  go_wp2_with fail
  go_quiet ((go_at_call 35; exact red_quiet _ _ _ (by omega) (by omega)))
  go_wp2_with fail
  go_ret
  exact ⟨rfl, below_drewN (Below.refl _ _) _⟩

set_option maxHeartbeats 400000 in
theorem vec_Turn (a : Option Addr) (cap : Nat) (xs : List Int) (k : Int) (w : World) (hx : Row .u64 w a xs) (hl : xs.length ≤ 16777216) (hk : -9223372036854775808 ≤ k ∧ k ≤ 9223372036854775807) :
    Calls Try.prog 19 #[.slice a xs.length cap, .int .i64 k] w (GivesRow .u64 (turnL xs k) w) := by
  by_cases hn : 0 < xs.length
  · have hent : ∀ args w, (callFunc 74 args).run Try.prog w = .ok (.enter 74 args) w := enters_of Try.func74 (by kernel_rfl) rfl
    obtain ⟨W, hW⟩ : ∃ W : World, W = ((w.alloc (.cells #[.slice a xs.length cap] 22)).alloc (.cells #[.int .i64 (k.tmod xs.length)] 3)).alloc (.cells #[.int .i64 xs.length] 3) := ⟨_, rfl⟩
    have hWb : Below w.heap.size w W := hW ▸ (((Below.refl _ _).alloc (Nat.le_refl _) _).alloc (by simp) _).alloc (by simp; omega) _
    have hc0 : W.cell? ⟨w.heap.size, 0, none⟩ = some (.slice a xs.length cap) := by subst hW; rw [cell_past _ _ _ (by simp; omega), cell_past _ _ _ (by simp), one_new]
    have hc1 : W.cell? ⟨w.heap.size + 1, 0, none⟩ = some (.int .i64 (k.tmod xs.length)) := by subst hW; rw [cell_past _ _ _ (by simp)]; exact cell_new (by simp)
    have hc2 : W.cell? ⟨w.heap.size + 2, 0, none⟩ = some (.int .i64 xs.length) := by subst hW; exact cell_new (by simp)
    have hsz : w.heap.size + 3 = W.heap.size := by subst hW; simp
    have hf : ∀ (i : Nat) (wr : World), i < xs.length → Below W.heap.size W wr →
        Calls Try.prog 74 (#[.int .i64 i] ++ #[.pointer (some ⟨w.heap.size, 0, none⟩), .pointer (some ⟨w.heap.size + 1, 0, none⟩), .pointer (some ⟨w.heap.size + 2, 0, none⟩)]) wr fun e w' => e = .returned (.int .u64 (nth xs (turnAt xs.length k i) % 18446744069414584321)) ∧ Below wr.heap.size wr w' :=
      fun i wr hi hb => vec_Turn1 i a cap xs k w.heap.size (w.heap.size + 1) (w.heap.size + 2) wr hi hl (by rw [hb.cell (by show w.heap.size < W.heap.size; omega)]; exact hc0) (by rw [hb.cell (by show w.heap.size + 1 < W.heap.size; omega)]; exact hc1) (by rw [hb.cell (by show w.heap.size + 2 < W.heap.size; omega)]; exact hc2) ((hx.below hWb).below hb)
    have HF := Lib.hid hf
    have HB := Lib.hid hWb
    have hr := tmod_range k hn
    have hn0 : ((xs.length : Int) == 0) = false := by simp; intro h; subst h; simp at hn
    clear hf hx hWb hc0 hc1 hc2 hsz
    subst hW
    go_enter Try.func19, Try.ntmps19
    go_wp2_with fail
    refine (vec_each xs.length (fun i => nth xs (turnAt xs.length k i) % 18446744069414584321) _ _ _ hl (modfits _) hent HF.out).mono ?_
    rintro e w' ⟨a', cap', rfl, hr, hnil, hb⟩
    go_wp2_with fail
    go_ret
    exact ⟨a', cap', by simp [turnL], hr, hnil, HB.out.trans (hb.mono HB.out.size)⟩
  · have h0 : xs = [] := List.length_eq_zero_iff.1 (by omega)
    subst h0
    go_enter Try.func19, Try.ntmps19
    go_wp2_with fail
    go_ret
    exact ⟨none, 0, rfl, Row.nil _ _ _, ⟨Nat.le_refl _, fun _ => rfl⟩, by go_grown⟩

theorem turnL_split (xs : List Int) (k : Int) (m : Nat) (hn : 0 < xs.length) (hm : m < xs.length) (hk : k % xs.length = m) :
    turnL xs k = (xs.drop m).map (· % 18446744069414584321) ++ (xs.take m).map (· % 18446744069414584321) := by
  have hl : ((xs.drop m).map (· % 18446744069414584321)).length = xs.length - m := by simp
  apply ext_nth (by simp [turnL]; omega)
  intro i hi
  have hi' : i < xs.length := by simpa [turnL] using hi
  show nth ((List.range xs.length).map _) i = _
  rw [nth_ofFn _ _ _ hi']
  have e1 : turnAt xs.length k i = (i + m) % xs.length := by
    unfold turnAt
    rw [← Int.add_emod_emod, hk, ← Int.natCast_add, ← Int.natCast_emod, Int.toNat_natCast]
  rw [e1]
  by_cases h1 : i < xs.length - m
  · rw [nth_append_left (by rw [hl]; exact h1), nth_map _ _ _ (by simp; omega), nth_drop, Nat.mod_eq_of_lt (by omega), Nat.add_comm]
  · rw [nth_append_right (by rw [hl]; omega), hl, nth_map _ _ _ (by simp; omega), nth_take (by omega)]
    congr 2
    have : i + m = xs.length + (i - (xs.length - m)) := by omega
    rw [this, Nat.add_mod_left, Nat.mod_eq_of_lt (by omega)]

theorem vref_RedN (a : Option Addr) (n cap : Nat) (xs : List Int) (w : World) (hx : Row .u64 w a xs) (hn : xs.length = n) (hl : xs.length ≤ 16777216) :
    Calls Try.prog 24 #[.slice a n cap] w (GivesRow .u64 (xs.map (· % 18446744069414584321)) w) := by
  subst hn; exact vref_Red a cap xs w hx hl

set_option maxHeartbeats 800000 in
theorem vref_Turn (a : Option Addr) (cap : Nat) (xs : List Int) (k : Int) (w : World) (hx : Row .u64 w a xs) (hcap : xs.length ≤ cap) (hl : xs.length ≤ 16777216) (hk : -9223372036854775808 ≤ k ∧ k ≤ 9223372036854775807) :
    Calls Try.prog 23 #[.slice a xs.length cap, .int .i64 k] w (GivesRow .u64 (turnL xs k) w) := by
  by_cases hn : 0 < xs.length
  · obtain ⟨i0, hi, hz0, hz1, hz2⟩ := info_parts info_u64
    obtain ⟨b, off, rfl, _⟩ := hx.at hn
    have HX := Lib.hid hx
    have hn0 : ((xs.length : Int) == 0) = false := by simp; intro h; subst h; simp at hn
    have hr := tmod_range k hn
    obtain ⟨m, hm, hkm⟩ : ∃ m : Nat, m < xs.length ∧ k % xs.length = m := ⟨(k % xs.length).toNat, by
      have h1 := Int.emod_nonneg k (show (xs.length : Int) ≠ 0 by omega)
      have h2 := Int.emod_lt_of_pos k (show (0 : Int) < xs.length by omega)
      omega, by have h1 := Int.emod_nonneg k (show (xs.length : Int) ≠ 0 by omega); omega⟩
    have HK := Lib.hid hkm
    have hmc : ¬ m = cap := by omega
    have hmr : m ≤ xs.length := by omega
    have hsp := Lib.hid (turnL_split xs k m hn hm hkm)
    have hcut1 : Row .u64 w (some ⟨b, off + m, none⟩) (xs.drop m) := by
      have := hx.cut m xs.length
      rwa [List.take_length] at this
    have hcut2 : Row .u64 w (some ⟨b, off, none⟩) (xs.take m) := by
      have := hx.cut 0 m
      simpa using this
    have HC1 := Lib.hid hcut1
    have HC2 := Lib.hid hcut2
    have hown0 := World.ownsRow_nil w w.heap.size 28 1
    have key : k.tmod xs.length < 0 ∧ IntKind.i64.wrap (k.tmod xs.length + xs.length) = m ∨ ¬ k.tmod xs.length < 0 ∧ k.tmod xs.length = m := by
      have h3 : k.tmod xs.length % (xs.length : Int) = k % xs.length := by
        rw [Int.tmod_def, Int.sub_eq_add_neg, ← Int.mul_neg, Int.add_mul_emod_self_left]
      by_cases hneg : k.tmod xs.length < 0
      · left
        refine ⟨hneg, ?_⟩
        have h4 : (k.tmod xs.length + xs.length) % (xs.length : Int) = k.tmod xs.length + xs.length := Int.emod_eq_of_lt (by omega) (by omega)
        rw [Int.add_emod_right, h3, hkm] at h4
        rw [← h4]; exact IntWalk.i64_in _ (by omega)
      · right
        refine ⟨hneg, ?_⟩
        have h4 : k.tmod xs.length % (xs.length : Int) = k.tmod xs.length := Int.emod_eq_of_lt (by omega) (by omega)
        rw [h3, hkm] at h4
        exact h4.symm
    clear hx hkm hcut1 hcut2
    rcases key with ⟨hneg, e2⟩ | ⟨hneg, e2⟩
    all_goals
      go_enter Try.func23, Try.ntmps23
      go_wp2_with fail
      refine (vref_RedN _ _ _ (xs.drop m) _ HC1.out (by simp) (by simp; omega)).mono ?_
      rintro e w1 ⟨a1, cap1, rfl, hr1, hcap1, hb1⟩
      have hown1 := hown0.kept (row := none) ⟨hb1.os, hb1.tape, hb1.output, hb1.size, fun j hj _ => hb1.block j hj⟩ (.inl rfl)
      have hlen1 : ((xs.drop m).map (· % 18446744069414584321)).length = xs.length - m := by simp
      have hlen3 : ((xs.take m).map (· % 18446744069414584321)).length = m := by simp; omega
      go_wp2_with (at_builtin; refine wpList_append_row rfl _ _ 22 rfl .u64 w.heap.size 28 i0 (.int .u64 0) Try.underlying22 hi hz0 hz1 hz2 rfl _ _ _ rfl hown1 _ _ _ ((xs.drop m).map (· % 18446744069414584321)) rfl hlen1 hr1 hcap1.2 (by omega) hb1.size ?_)
      intro v2 w2 hown2 hg2
      have hb2 : Below w.heap.size w w2 := hb1.grown hg2 hb1.size (by intro k hk; cases hk)
      go_wp2_with fail
      refine (vref_RedN _ _ _ (xs.take m) _ (HC2.out.below hb2) (by simp; omega) (by simp; omega)).mono ?_
      rintro e w3 ⟨a3, cap3, rfl, hr3, hcap3, hb3⟩
      have hown3 := own_later hown2 hb3
      go_wp2_with (at_builtin; refine wpList_append_row rfl _ _ 22 rfl .u64 w.heap.size 28 i0 (.int .u64 0) Try.underlying22 hi hz0 hz1 hz2 rfl _ _ _ rfl hown3 _ _ _ ((xs.take m).map (· % 18446744069414584321)) rfl hlen3 hr3 hcap3.2 (by omega) (Nat.le_trans hb2.size hb3.size) ?_)
      intro v4 w4 hown4 hg4
      have hres : GivesRow .u64 (turnL xs k) w (.returned v4) w4 :=
        gives_of_own hown4 (append_below (hb2.trans (hb3.mono hb2.size)) (Nat.le_trans hb2.size hb3.size) hown3 hg4) (by rw [hsp.out]; simp) (by rw [turnL_len]; try omega) (turnL_fits xs k) (by omega)
      clear hown4 hg4
      go_wp2_with fail
      go_ret
      exact hres
  · have h0 : xs = [] := List.length_eq_zero_iff.1 (by omega)
    subst h0
    go_enter Try.func23, Try.ntmps23
    go_wp2_with fail
    go_ret
    exact ⟨none, 0, rfl, Row.nil _ _ _, ⟨Nat.le_refl _, fun _ => rfl⟩, by go_grown⟩

theorem ref_SameN (a b : Option Addr) (n m ca cb : Nat) (xs ys : List Int) (w : World) (hx : Row .u64 w a xs) (hy : Row .u64 w b ys) (hn : xs.length = n) (hm : ys.length = m) :
    Calls Try.prog 20 #[.slice a n ca, .slice b m cb] w fun e w' => e = .returned (.bool (decide (xs = ys))) ∧ Below w.heap.size w w' := by
  subst hn hm; exact ref_Same a b ca cb xs ys w hx hy

/-- Two rows that are the same. -/
theorem ref_SameT (a b : Option Addr) (n m ca cb : Nat) (xs ys : List Int) (w : World) (hx : Row .u64 w a xs) (hy : Row .u64 w b ys) (hn : xs.length = n) (hm : ys.length = m) (h : xs = ys) :
    Calls Try.prog 20 #[.slice a n ca, .slice b m cb] w fun e w' => e = .returned (.bool true) ∧ Below w.heap.size w w' :=
  (ref_SameN a b n m ca cb xs ys w hx hy hn hm).mono fun e w' ⟨he, hb⟩ => ⟨by rw [he]; simp [h], hb⟩

theorem vec_RevN (a : Option Addr) (n cap : Nat) (xs : List Int) (w : World) (hx : Row .u64 w a xs) (hn : xs.length = n) (hl : xs.length ≤ 16777216) :
    Calls Try.prog 21 #[.slice a n cap] w (GivesRow .u64 (revL xs) w) := by
  subst hn; exact vec_Rev a cap xs w hx hl
theorem vec_TurnN (a : Option Addr) (n cap : Nat) (xs : List Int) (k : Int) (w : World) (hx : Row .u64 w a xs) (hn : xs.length = n) (hl : xs.length ≤ 16777216) (hk : -9223372036854775808 ≤ k ∧ k ≤ 9223372036854775807) :
    Calls Try.prog 19 #[.slice a n cap, .int .i64 k] w (GivesRow .u64 (turnL xs k) w) := by
  subst hn; exact vec_Turn a cap xs k w hx hl hk

theorem fits3 (a b c : Int) (ha : 0 ≤ a ∧ a < 100) (hb : 0 ≤ b ∧ b < 100) (hc : 0 ≤ c ∧ c < 100) : ∀ x ∈ [a, b, c], fits .u64 x := by
  intro x hx; simp at hx; rcases hx with rfl | rfl | rfl <;> exact fits_u64.2 (by omega)

set_option maxHeartbeats 800000 in
theorem live05 (w : World) : Calls Try.prog 18 #[] w fun e w' => e = .returned (.bool true) ∧ Below w.heap.size w w' := by
  have r1 : ∀ w : World, Row .u64 (w.alloc (.cells #[.int .u64 1, .int .u64 2, .int .u64 3] 28)) (some ⟨w.heap.size, 0, none⟩) [1, 2, 3] := fun w => row_new .u64 w _ [1, 2, 3] (fits3 _ _ _ (by omega) (by omega) (by omega)) (by simp)
  have r2 : ∀ w : World, Row .u64 (w.alloc (.cells #[.int .u64 1, .int .u64 3, .int .u64 2] 28)) (some ⟨w.heap.size, 0, none⟩) [1, 3, 2] := fun w => row_new .u64 w _ [1, 3, 2] (fits3 _ _ _ (by omega) (by omega) (by omega)) (by simp)
  have r3 : ∀ w : World, Row .u64 (w.alloc (.cells #[.int .u64 2, .int .u64 3, .int .u64 1] 28)) (some ⟨w.heap.size, 0, none⟩) [2, 3, 1] := fun w => row_new .u64 w _ [2, 3, 1] (fits3 _ _ _ (by omega) (by omega) (by omega)) (by simp)
  have R1 := Lib.hid r1; have R2 := Lib.hid r2; have R3 := Lib.hid r3
  clear r1 r2 r3
  go_enter Try.func18, Try.ntmps18
  go_wp2_with fail
  refine (vec_RevN _ _ _ [1, 2, 3] _ (R1.out _) (by simp) (by simp)).mono ?_
  rintro e w1 ⟨a1, cap1, rfl, hr1, hcap1, hb1⟩
  go_wp2_with fail
  refine (ref_SameT _ _ _ _ _ _ (revL [1, 2, 3]) [1, 3, 2] _ (hr1.below ((Below.refl _ _).alloc (Nat.le_refl _) _)) (R2.out _) (by rfl) (by rfl) (by rfl)).mono ?_
  rintro e w2 ⟨rfl, hb2⟩
  go_wp2_with fail
  refine (vec_TurnN _ _ _ [1, 2, 3] _ _ (R1.out _) (by simp) (by simp) (by omega)).mono ?_
  rintro e w3 ⟨a3, cap3, rfl, hr3, hcap3, hb3⟩
  go_wp2_with fail
  refine (ref_SameT _ _ _ _ _ _ (turnL [1, 2, 3] 1) [2, 3, 1] _ (hr3.below ((Below.refl _ _).alloc (Nat.le_refl _) _)) (R3.out _) (by rfl) (by rfl) (by rfl)).mono ?_
  rintro e w4 ⟨rfl, hb4⟩
  go_wp2_with fail
  go_ret
  exact ⟨rfl, chain (chainA (chainA (chainA (chainA (Below.refl _ _) hb1) hb2) hb3) hb4) (Below.refl _ _)⟩

set_option maxHeartbeats 2000000 in
theorem vecTurnsW (a : Option Addr) (cap : Nat) (xs : List Int) (k m : Int) (w : World) (hx : Row .u64 w a xs) (hcap : OkCap a xs.length cap) (hk : fits .i64 k) (hm : fits .i64 m) :
    Calls Try.prog 3 #[.slice a xs.length cap, .int .i64 k, .int .i64 m] w fun e w' => e = .returned (.bool true) ∧ Below w.heap.size w w' := by
  have hk' := fits_i64.1 hk
  have hm' := fits_i64.1 hm
  have hlen := hx.len
  have HX := Lib.hid hx
  clear hx hk hm
  by_cases hg : xs.length ≤ 200 ∧ -1099511627776 ≤ k ∧ k ≤ 1099511627776 ∧ -1099511627776 ≤ m ∧ m ≤ 1099511627776
  · obtain ⟨g1, g2, g3, g4, g5⟩ := hg
    go_enter Try.func3, Try.ntmps3
    go_wp2_with fail
    refine (vec_TurnN _ _ _ xs k _ HX.out rfl (by omega) (by omega)).mono ?_
    rintro e w1 ⟨a1, cap1, rfl, hr1, hcap1, hb1⟩
    go_wp2_with fail
    refine (vec_RevN _ _ _ xs _ (HX.out.below hb1) rfl (by omega)).mono ?_
    rintro e w2 ⟨a2, cap2, rfl, hr2, hcap2, hb2⟩
    have hB2 := chain hb1 hb2
    go_wp2_with fail
    refine (vref_Rev _ _ xs _ (HX.out.below hB2) (by omega)).mono ?_
    rintro e w3 ⟨a3, cap3, rfl, hr3, hcap3, hb3⟩
    have hB3 := chain hB2 hb3
    go_wp2_with fail
    refine (ref_SameT _ _ _ _ _ _ (revL xs) (revL xs) _ (hr2.below hb3) hr3 (by simp [revL_len]) (by simp [revL_len]) rfl).mono ?_
    rintro e w4 ⟨rfl, hb4⟩
    have hB4 := chain hB3 hb4
    go_wp2_with fail
    refine (vref_Turn _ _ xs k _ (HX.out.below hB4) hcap.1 (by omega) (by omega)).mono ?_
    rintro e w5 ⟨a5, cap5, rfl, hr5, hcap5, hb5⟩
    have hB5 := chain hB4 hb5
    have hC5 : Below w1.heap.size w1 w5 := chain (chain (chain hb2 hb3) hb4) hb5
    go_wp2_with fail
    refine (ref_SameT _ _ _ _ _ _ (turnL xs k) (turnL xs k) _ (hr1.below hC5) hr5 (by simp [turnL_len]) (by simp [turnL_len]) rfl).mono ?_
    rintro e w6 ⟨rfl, hb6⟩
    have hB6 := chain hB5 hb6
    go_wp2_with fail
    refine (vec_RevN _ _ _ xs _ (HX.out.below hB6) rfl (by omega)).mono ?_
    rintro e w7 ⟨a7, cap7, rfl, hr7, hcap7, hb7⟩
    have hB7 := chain hB6 hb7
    go_wp2_with fail
    refine (vec_RevN _ _ _ (revL xs) _ hr7 (by simp [revL_len]) (by rw [revL_len]; omega)).mono ?_
    rintro e w8 ⟨a8, cap8, rfl, hr8, hcap8, hb8⟩
    have hB8 := chain hB7 hb8
    go_wp2_with fail
    refine (vref_Red _ _ xs _ (HX.out.below hB8) (by omega)).mono ?_
    rintro e w9 ⟨a9, cap9, rfl, hr9, hcap9, hb9⟩
    have hB9 := chain hB8 hb9
    go_wp2_with fail
    refine (ref_SameT _ _ _ _ _ _ (revL (revL xs)) (xs.map (· % 18446744069414584321)) _ (hr8.below hb9) hr9 (by simp [revL_len]) (by simp) (revL_revL xs)).mono ?_
    rintro e w10 ⟨rfl, hb10⟩
    have hB10 := chain hB9 hb10
    have hC10 : Below w1.heap.size w1 w10 := chain (chain (chain (chain (chain hC5 hb6) hb7) hb8) hb9) hb10
    go_wp2_with fail
    refine (vec_TurnN _ _ _ (turnL xs k) m _ (hr1.below hC10) (by simp [turnL_len]) (by rw [turnL_len]; omega) (by omega)).mono ?_
    rintro e w11 ⟨a11, cap11, rfl, hr11, hcap11, hb11⟩
    have hB11 := chain hB10 hb11
    go_wp2_with fail
    refine (vec_TurnN _ _ _ xs (k + m) _ (HX.out.below hB11) rfl (by omega) (by omega)).mono ?_
    rintro e w12 ⟨a12, cap12, rfl, hr12, hcap12, hb12⟩
    have hB12 := chain hB11 hb12
    go_wp2_with fail
    refine (ref_SameT _ _ _ _ _ _ (turnL (turnL xs k) m) (turnL xs (k + m)) _ (hr11.below hb12) hr12 (by simp [turnL_len]) (by simp [turnL_len]) (turnL_turnL xs k m)).mono ?_
    rintro e w13 ⟨rfl, hb13⟩
    have hB13 := chain hB12 hb13
    go_wp2_with fail
    refine (live05 _).mono ?_
    rintro e w14 ⟨rfl, hb14⟩
    go_wp2_with fail
    go_ret
    exact ⟨rfl, chain hB13 hb14⟩
  · have hd : 200 < xs.length ∨ (xs.length ≤ 200 ∧ k < -1099511627776) ∨ (xs.length ≤ 200 ∧ -1099511627776 ≤ k ∧ 1099511627776 < k) ∨ (xs.length ≤ 200 ∧ -1099511627776 ≤ k ∧ k ≤ 1099511627776 ∧ m < -1099511627776) ∨ (xs.length ≤ 200 ∧ -1099511627776 ≤ k ∧ k ≤ 1099511627776 ∧ -1099511627776 ≤ m ∧ 1099511627776 < m) := by omega
    clear hg
    rcases hd with h1 | ⟨h1, h2⟩ | ⟨h1, h2, h3⟩ | ⟨h1, h2, h3, h4⟩ | ⟨h1, h2, h3, h4, h5⟩
    all_goals
      go_enter Try.func3, Try.ntmps3
      go_wp2_with fail
      refine (live05 _).mono ?_
      rintro e w14 ⟨rfl, hb14⟩
      go_wp2_with fail
      go_ret
      exact ⟨rfl, hb14⟩
end Go.Proofs.Ytfoodnmcilogjaa
