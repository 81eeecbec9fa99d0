/- The contracts of rows of numbers (package vec) and of their reference. -/
import Derived.Test.YtlgklkhijmeldaaGoldLaws
import Derived.Test.YtlgklkhijmeldaaRowing
import Derived.Deep.QuietTactic
import Derived.BigQuiet
namespace Go.Proofs.Ytlgklkhijmeldaa
open Go.RowKit
set_option linter.unusedVariables false
set_option linter.unusedSimpArgs false
set_option maxRecDepth 100000

set_option maxHeartbeats 400000 in
theorem vref_Red (a : Option Addr) (cap : Nat) (xs : List Int) (w : World) (hx : Row .u64 w a xs) (hl : xs.length ≤ 16777216) :
    Calls Try.prog 15 #[.slice a xs.length cap] w (GivesRow .u64 (xs.map (· % 18446744069414584321)) w) := by
  obtain ⟨i0, hi, hz0, hz1, hz2⟩ := info_parts info_u64
  have HX : Hid (Row .u64 w a xs) := hx
  clear hx
  go_enter Try.func15, Try.ntmps15
  go_wp2_with fail
  go_loopw [3, 4] (fun v i wr => ∃ k : Nat, k ≤ xs.length ∧ i = .int .i64 k ∧ Own .u64 45 w wr v k (fun j => nth xs j % 18446744069414584321)) (fun _ i _ => xs.length - (intOf i).toNat)
  case atStart => exact ⟨0, Nat.zero_le _, rfl, Own.nil _ _ _ _⟩
  case round =>
    obtain ⟨k, hk, rfl, hown⟩ := hrel
    by_cases hlt : k < xs.length
    · obtain ⟨b, off, rfl, hc⟩ := (HX.out.below hown.below).at (by omega)
      have hck := hc k hlt
      have hf := fits_u64.1 (HX.out.wf _ (nth_mem hlt))
      clear hc
      go_wp2_with (first | (go_at_call 42; refine (ref_Red _ _ (by omega) (by omega)).mono ?_; rintro e w' ⟨rfl, rfl⟩) | (at_builtin; refine wpList_append_own _ rfl _ _ 22 rfl w.heap.size 45 i0 (.int .u64 0) 1 8 Try.underlying22 hi hz0 hz1 hz2 rfl (by decide) _ _ _ rfl (hown.own.alloc _) ⟨wr.heap.size, 0, none⟩ 1 1 [.int .u64 (nth xs k % 18446744069414584321)] rfl rfl (cell_one_new _ _ _) (one_cell _ _) (by unfold maxLen; omega) (by omega) (size_alloc_le hown.below _) ?_))
      intro v' w1 hown' hgrow _
      have hnext := hown.push (nth xs k % 18446744069414584321) rfl hown' hgrow
      clear hown' hgrow
      go_wp2_with fail
      go_roundw
      case rel => exact ⟨k + 1, by omega, by go_num, hnext⟩
      case measure => simp [intOf]; omega
    · have hk' : k = xs.length := by omega
      have hres := hown.gives (xs := xs.map (· % 18446744069414584321)) (by simp; omega) (fun x hx => by obtain ⟨y, _, rfl⟩ := List.mem_map.1 hx; exact fits_u64.2 (by omega)) (fun i hi => nth_map _ _ _ (by omega)) (by omega)
      clear hown
      go_wp2_with fail
      go_ret
      exact hres

set_option maxHeartbeats 400000 in
theorem vec_each (n : Nat) (g : Nat → Int) (fid : Nat) (caps : Array Value) (w : World) (hn : n ≤ 16777216) (hg : ∀ i, i < n → fits .u64 (g i)) 
    (hent : ∀ args w, (callFunc fid args).run Try.prog w = .ok (.enter fid args) w)
    (hf : ∀ (i : Nat) (wr : World), i < n → Below w.heap.size w wr → Calls Try.prog fid (#[.int .i64 i] ++ caps) wr fun e w' => e = .returned (.int .u64 (g i)) ∧ Below wr.heap.size wr w') :
    Calls Try.prog 70 #[.int .i64 n, .func (.func fid) #[] caps] w (GivesRow .u64 ((List.range n).map g) w) := by
  obtain ⟨i0, hi, hz0, hz1, hz2⟩ := info_parts info_u64
  have HF := Lib.hid hf
  have HG := Lib.hid hg
  clear hf hg
  go_enter Try.func70, Try.ntmps70
  go_wp2_with (at_make; refine wpList_make_full _ rfl _ _ 22 rfl w.heap.size 45 i0 (.int .u64 0) 1 Try.underlying22 hi hz0 hz1 .i64 .i64 n n n rfl rfl rfl rfl (by rw [hz2]; omega) (by unfold maxLen; omega) (Nat.le_refl _) ?_)
  intro w1 hown0 hgrow0
  have hown := Own.made hown0 hgrow0
  clear hown0 hgrow0
  go_wp2_with fail
  go_loopw [11] (fun i wr => ∃ k : Nat, k ≤ n ∧ i = .int .i64 k ∧ OwnAt .u64 45 w wr w.heap.size n (fun j => if j < k then g j else 0)) (fun i _ => n - (intOf i).toNat)
  case atStart => exact ⟨0, Nat.zero_le _, rfl, by simpa using hown⟩
  case round =>
    obtain ⟨k, hk, rfl, hown⟩ := hrel
    by_cases hlt : k < n
    · have hcall := HF.out k wr hlt hown.below
      go_wp2_with fail
      refine hcall.mono ?_
      rintro e w' ⟨rfl, hb'⟩
      have hown2 := hown.later hb'
      have hc := hown2.cell k hlt
      rw [if_neg (Nat.lt_irrefl k)] at hc
      have hfz := hown2.free k
      have hnext := hown2.store k hlt (g k) (f' := fun j => if j < k + 1 then g j else 0) (by simp) (fun j _ hj => by
        by_cases h1 : j < k
        · simp [h1, show j < k + 1 by omega]
        · simp [h1, show ¬ j < k + 1 by omega])
      have HN := Lib.hid hnext
      clear hnext hcall hown hown2 hb'
      go_wp2_with fail
      go_roundw
      case rel => exact ⟨k + 1, by omega, by go_num, HN.out⟩
      case measure => simp [intOf]; omega
    · have hres := hown.gives (xs := (List.range n).map g) (by simp) (fun x hx => by obtain ⟨i, hi, rfl⟩ := List.mem_map.1 hx; exact HG.out i (by simpa using hi)) (fun i hi => by rw [nth_ofFn _ _ _ hi, if_pos (by omega)]) hn
      clear hown
      go_wp2_with fail
      go_ret
      exact hres

theorem modfits (f : Nat → Int) {n : Nat} : ∀ i, i < n → fits .u64 (f i % 18446744069414584321) := fun i _ => fits_u64.2 (by omega)

set_option maxHeartbeats 400000 in
theorem vec_Red1 (i : Nat) (a : Option Addr) (cap : Nat) (xs : List Int) (p : Nat) (w : World) (hi : i < xs.length) (hc : w.cell? ⟨p, 0, none⟩ = some (.slice a xs.length cap)) (hx : Row .u64 w a xs) :
    Calls Try.prog 71 #[.int .i64 i, .pointer (some ⟨p, 0, none⟩)] w fun e w' => e = .returned (.int .u64 (nth xs i % 18446744069414584321)) ∧ w = w' := by
  have hl := hx.len
  obtain ⟨b, off, rfl, hcs⟩ := hx.at (by omega)
  have hck := hcs i hi
  have hf := fits_u64.1 (hx.wf _ (nth_mem hi))
  clear hcs hx
  go_enter Try.func71, Try.ntmps71
  go_wp2_with (first | (go_at_call 72; refine (gold_Red _ _ (by omega) (by omega)).mono ?_; rintro e w' ⟨rfl, rfl⟩))
  go_ret
  exact ⟨rfl, rfl⟩

set_option maxHeartbeats 400000 in
theorem vec_Red (a : Option Addr) (cap : Nat) (xs : List Int) (w : World) (hx : Row .u64 w a xs) (hl : xs.length ≤ 16777216) :
    Calls Try.prog 48 #[.slice a xs.length cap] w (GivesRow .u64 (xs.map (· % 18446744069414584321)) w) := by
  have hent : ∀ args w, (callFunc 71 args).run Try.prog w = .ok (.enter 71 args) w := enters_of Try.func71 (by kernel_rfl) rfl
  have HX : Hid (Row .u64 w a xs) := hx
  clear hx
  have hc0 := one_new w (.slice a xs.length cap) 22
  have hf : ∀ (i : Nat) (wr : World), i < xs.length → Below (w.alloc (.cells #[.slice a xs.length cap] 22)).heap.size (w.alloc (.cells #[.slice a xs.length cap] 22)) wr →
      Calls Try.prog 71 (#[.int .i64 i] ++ #[.pointer (some ⟨w.heap.size, 0, none⟩)]) wr fun e w' => e = .returned (.int .u64 (nth xs i % 18446744069414584321)) ∧ Below wr.heap.size wr w' :=
    fun i wr hi hb => (vec_Red1 i a cap xs w.heap.size wr hi (by rw [hb.cell (by simp)]; exact hc0) ((HX.out.below ((Below.refl _ _).alloc (Nat.le_refl _) _)).below hb)).mono fun e w' ⟨he, hw⟩ => ⟨he, hw ▸ Below.refl _ _⟩
  have HF := Lib.hid hf
  clear hf
  go_enter Try.func48, Try.ntmps48
  go_wp2_with fail
  refine (vec_each xs.length (fun i => nth xs i % 18446744069414584321) _ _ _ hl (modfits _) hent (HF.out)).mono ?_
  rintro e w' ⟨a', cap', rfl, hr, hnil, hb⟩
  go_wp2_with fail
  go_ret
  exact ⟨a', cap', by simp, by rw [map_nth]; exact hr, by simpa using hnil, ((Below.refl _ _).alloc (Nat.le_refl _) _).trans (hb.mono (by simp))⟩

/-- gold.Red inside a region that draws. -/
theorem red_quiet (a : Int) (w : World) (n : Nat) (h0 : 0 ≤ a) (h1 : a < 18446744073709551616) :
    Calls Try.prog 72 #[.int .u64 a] (w.drewN n) fun e w' => e = .returned (.int .u64 (a % 18446744069414584321)) ∧ ∃ m, w' = w.drewN m :=
  Calls.quiet_of_same ((gold_Red a _ h0 h1).mono fun e w' ⟨x, y⟩ => ⟨x, y.symm⟩)

/-- Place i of a row of n, backwards. -/
def revAt (n i : Nat) : Nat := (n - i) % n
theorem revAt_lt {n i : Nat} (h : i < n) : revAt n i < n := Nat.mod_lt _ (by omega)
theorem revAt_int {n i : Nat} (h : i < n) : ((n : Int) - (i : Int)).tmod (n : Int) = (revAt n i : Nat) := by
  unfold revAt
  rw [Int.tmod_eq_emod_of_nonneg (by omega), Int.natCast_emod]
  congr 1
  omega

end Go.Proofs.Ytlgklkhijmeldaa
