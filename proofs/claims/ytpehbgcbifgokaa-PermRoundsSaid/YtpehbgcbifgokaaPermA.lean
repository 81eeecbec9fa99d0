/- The contracts of orders of places (package perm): tables by rows and columns. -/
import Derived.Test.YtpehbgcbifgokaaRowing
namespace Go.Proofs.Ytpehbgcbifgokaa
open Go.RowKit
set_option linter.unusedVariables false
set_option linter.unusedSimpArgs false

theorem btrue {a b : Int} (h : a = b) : (a == b) = true := by simp [h]
theorem bno {a b : Int} (h : a ≠ b) : (a == b) = false := by simp [h]
theorem bfalse {a b : Int} (h : a = b) : (a != b) = false := by simp [h]
theorem bdiff {a b : Int} (h : a ≠ b) : (a != b) = true := by simp [h]

theorem sides1_yes (n : Int) (w : World) (h1 : 1 ≤ n) (h2 : n ≤ 16777216) :
    Calls Try.prog 75 #[.int .i64 n] w fun e w' => e = .returned (.bool true) ∧ w = w' := by
  go_enter Try.func75, Try.ntmps75
  go_wp2_with fail
  go_ret
  exact ⟨rfl, rfl⟩
theorem sides1_no (n : Int) (w : World) (h : n < 1 ∨ 16777216 < n) (hn : -9223372036854775808 ≤ n ∧ n ≤ 9223372036854775807) :
    Calls Try.prog 75 #[.int .i64 n] w fun e w' => e = .returned (.bool false) ∧ w = w' := by
  rcases (show n < 1 ∨ (1 ≤ n ∧ 16777216 < n) by omega) with h1 | ⟨h1, h2⟩
  all_goals
    clear h
    go_enter Try.func75, Try.ntmps75
    go_wp2_with fail
    go_ret
    exact ⟨ret_bool (by first | rfl | (simp; omega)), rfl⟩

/-- May there be a table of such sides? -/
def Sides (a b : Int) : Prop := 1 ≤ a ∧ a ≤ 16777216 ∧ 1 ≤ b ∧ b ≤ 16777216 ∧ a * b ≤ 16777216
instance (a b : Int) : Decidable (Sides a b) := by unfold Sides; infer_instance

theorem mul_bd (a b : Int) (h1 : 1 ≤ a) (h2 : a ≤ 16777216) (h3 : 1 ≤ b) (h4 : b ≤ 16777216) : 1 ≤ a * b ∧ a * b ≤ 281474976710656 := by
  constructor
  · have := Int.mul_le_mul h1 h3 (by omega) (by omega : (0 : Int) ≤ a); omega
  · have := Int.mul_le_mul h2 h4 (by omega) (by omega : (0 : Int) ≤ 16777216); omega

theorem permSides_yes (a b : Int) (w : World) (h : Sides a b) :
    Calls Try.prog 62 #[.int .i64 a, .int .i64 b] w fun e w' => e = .returned (.bool true) ∧ w = w' := by
  obtain ⟨h1, h2, h3, h4, h5⟩ := h
  have hm := mul_bd a b h1 h2 h3 h4
  go_enter Try.func62, Try.ntmps62
  go_wp2_with (go_at_call 75; refine (sides1_yes _ _ (by omega) (by omega)).mono ?_; rintro e w' ⟨rfl, rfl⟩)
  go_ret
  exact ⟨rfl, rfl⟩

theorem permSides_no (a b : Int) (w : World) (h : ¬ Sides a b) (ha : -9223372036854775808 ≤ a ∧ a ≤ 9223372036854775807) (hb : -9223372036854775808 ≤ b ∧ b ≤ 9223372036854775807) :
    Calls Try.prog 62 #[.int .i64 a, .int .i64 b] w fun e w' => e = .returned (.bool false) ∧ w = w' := by
  by_cases h1 : 1 ≤ a ∧ a ≤ 16777216
  · by_cases h2 : 1 ≤ b ∧ b ≤ 16777216
    · have hm := mul_bd a b h1.1 h1.2 h2.1 h2.2
      have h3 : 16777216 < a * b := by
        by_cases h4 : a * b ≤ 16777216
        · exact absurd ⟨h1.1, h1.2, h2.1, h2.2, h4⟩ h
        · omega
      clear h
      go_enter Try.func62, Try.ntmps62
      go_wp2_with fail
      refine (sides1_yes _ _ (by omega) (by omega)).mono ?_; rintro e w' ⟨rfl, rfl⟩
      go_wp2_with fail
      refine (sides1_yes _ _ (by omega) (by omega)).mono ?_; rintro e w' ⟨rfl, rfl⟩
      go_wp2_with fail
      refine (sides1_no _ _ (by omega) (by omega)).mono ?_; rintro e w' ⟨rfl, rfl⟩
      go_wp2_with fail
      go_ret
      exact ⟨rfl, rfl⟩
    · have h3 : b < 1 ∨ 16777216 < b := by omega
      have H := Lib.hid h3
      clear h h2 h3
      go_enter Try.func62, Try.ntmps62
      go_wp2_with fail
      refine (sides1_yes _ _ (by omega) (by omega)).mono ?_; rintro e w' ⟨rfl, rfl⟩
      go_wp2_with fail
      refine (sides1_no _ _ H.out hb).mono ?_; rintro e w' ⟨rfl, rfl⟩
      go_wp2_with fail
      go_ret
      exact ⟨rfl, rfl⟩
  · have h3 : a < 1 ∨ 16777216 < a := by omega
    have H := Lib.hid h3
    clear h h1 h3
    go_enter Try.func62, Try.ntmps62
    go_wp2_with fail
    refine (sides1_no _ _ H.out ha).mono ?_; rintro e w' ⟨rfl, rfl⟩
    go_wp2_with fail
    go_ret
    exact ⟨rfl, rfl⟩

theorem quoM (b : Int) (h1 : 1 ≤ b) (h2 : b ≤ 16777216) : 0 ≤ 16777216 / b ∧ 16777216 / b ≤ 16777216 := ⟨Int.ediv_nonneg (by omega) (by omega), Int.ediv_le_self _ (by omega)⟩
theorem le_quoM (a b : Int) (h1 : 1 ≤ b) : a ≤ 16777216 / b ↔ a * b ≤ 16777216 := Int.le_ediv_iff_mul_le (by omega)

theorem refSides_yes (a b : Int) (w : World) (h : Sides a b) :
    Calls Try.prog 25 #[.int .i64 a, .int .i64 b] w fun e w' => e = .returned (.bool true) ∧ w = w' := by
  obtain ⟨h1, h2, h3, h4, h5⟩ := h
  have hq := quoM b h3 h4
  have hl := (le_quoM a b h3).2 h5
  have h0 : (b == 0) = false := bno (by omega)
  clear h5
  go_enter Try.func25, Try.ntmps25
  go_wp2_with fail
  go_ret
  exact ⟨rfl, rfl⟩

theorem refSides_no (a b : Int) (w : World) (h : ¬ Sides a b) (ha : -9223372036854775808 ≤ a ∧ a ≤ 9223372036854775807) (hb : -9223372036854775808 ≤ b ∧ b ≤ 9223372036854775807) :
    Calls Try.prog 25 #[.int .i64 a, .int .i64 b] w fun e w' => e = .returned (.bool false) ∧ w = w' := by
  have hd : a < 1 ∨ (1 ≤ a ∧ 16777216 < a) ∨ (1 ≤ a ∧ a ≤ 16777216 ∧ b < 1) ∨ (1 ≤ a ∧ a ≤ 16777216 ∧ 1 ≤ b ∧ 16777216 < b) ∨ (1 ≤ a ∧ a ≤ 16777216 ∧ 1 ≤ b ∧ b ≤ 16777216 ∧ ¬ a ≤ 16777216 / b) := by
    by_cases h1 : 1 ≤ a ∧ a ≤ 16777216
    · by_cases h2 : 1 ≤ b ∧ b ≤ 16777216
      · exact .inr (.inr (.inr (.inr ⟨h1.1, h1.2, h2.1, h2.2, fun e => h ⟨h1.1, h1.2, h2.1, h2.2, (le_quoM a b h2.1).1 e⟩⟩)))
      · omega
    · omega
  clear h
  rcases hd with h1 | ⟨h1, h2⟩ | ⟨h1, h2, h3⟩ | ⟨h1, h2, h3, h4⟩ | ⟨h1, h2, h3, h4, h5⟩
  · go_enter Try.func25, Try.ntmps25
    go_wp2_with fail
    go_ret
    exact ⟨rfl, rfl⟩
  · go_enter Try.func25, Try.ntmps25
    go_wp2_with fail
    go_ret
    exact ⟨rfl, rfl⟩
  · go_enter Try.func25, Try.ntmps25
    go_wp2_with fail
    go_ret
    exact ⟨rfl, rfl⟩
  · go_enter Try.func25, Try.ntmps25
    go_wp2_with fail
    go_ret
    exact ⟨rfl, rfl⟩
  · have hq := quoM b h3 h4
    have h0 : (b == 0) = false := bno (by omega)
    have h6 : 16777216 / b < a := by omega
    clear h5
    go_enter Try.func25, Try.ntmps25
    go_wp2_with fail
    go_ret
    exact ⟨ret_bool (by first | rfl | (simp; omega)), rfl⟩

/-- A table, row by row. -/
def tabL (a b : Nat) (g : Nat → Nat → Int) : List Int := (List.range (a * b)).map fun k => g (k / b) (k % b)
theorem tabL_len (a b : Nat) (g : Nat → Nat → Int) : (tabL a b g).length = a * b := by simp [tabL]

theorem row_at (b i j : Nat) (hj : j < b) : (i * b + j) / b = i ∧ (i * b + j) % b = j := by
  have h0 : 0 < b := by omega
  constructor
  · rw [Nat.add_comm, Nat.add_mul_div_right _ _ h0, Nat.div_eq_of_lt hj, Nat.zero_add]
  · rw [Nat.add_comm, Nat.add_mul_mod_self_right, Nat.mod_eq_of_lt hj]
theorem row_bd (a b i j : Nat) (hi : i < a) (hj : j < b) : i * b + j < a * b := by
  have h1 : (i + 1) * b ≤ a * b := Nat.mul_le_mul_right b hi
  rw [Nat.add_mul, Nat.one_mul] at h1
  omega

set_option maxHeartbeats 1600000 in
theorem permTable (a b : Nat) (g : Nat → Nat → Int) (fid : Nat) (caps : Array Value) (w : World) (hab : a * b ≤ 16777216) (ha : a ≤ 16777216) (hb : b ≤ 16777216) (hg : ∀ i j, i < a → j < b → fits .i64 (g i j))
    (hent : ∀ args w, (callFunc fid args).run Try.prog w = .ok (.enter fid args) w)
    (hf : ∀ (i j : Nat) (wr : World), i < a → j < b → Below w.heap.size w wr → Calls Try.prog fid (#[.int .i64 i, .int .i64 j] ++ caps) wr fun e w' => e = .returned (.int .i64 (g i j)) ∧ Below wr.heap.size wr w') :
    Calls Try.prog 58 #[.int .i64 a, .int .i64 b, .func (.func fid) #[] caps] w (GivesRow .i64 (tabL a b g) w) := by
  obtain ⟨i0, hi, hz0, hz1, hz2⟩ := info_parts info_int
  have HF := Lib.hid hf
  have HG := Lib.hid hg
  have hmul : (a : Int) * (b : Int) = ((a * b : Nat) : Int) := (Int.natCast_mul a b).symm
  have hw : IntKind.i64.wrap ((a : Int) * (b : Int)) = ((a * b : Nat) : Int) := by rw [hmul]; exact IntWalk.i64_in _ (by omega)
  obtain ⟨N, hN⟩ : ∃ N, a * b = N := ⟨_, rfl⟩
  rw [hN] at hw
  have HN := Lib.hid hN
  have HM := Lib.hid hmul
  have hNM : N ≤ 16777216 := by omega
  clear hf hg hN hmul hab
  go_enter Try.func58, Try.ntmps58
  go_wp2_with (at_make; refine wpList_make_own _ rfl _ _ 35 rfl w.heap.size 3 i0 (.int .i64 0) 1 Try.underlying35 hi hz0 hz1 .i64 .i64 N N rfl rfl rfl (by rw [hz2]; omega) (by unfold maxLen; omega) (Nat.le_refl _) ?_)
  intro w1 hown0 hgrow0
  have hown : Own .i64 3 w w1 (.slice (some ⟨w.heap.size, 0, none⟩) 0 N) 0 (fun k => g (k / b) (k % b)) := ⟨hown0, (Below.refl _ _).grown hgrow0 (Nat.le_refl _) (by simp)⟩
  clear hown0 hgrow0
  go_wp2_with fail
  go_loopw [7, 15] (fun v i wr => ∃ (k n : Nat), k ≤ a ∧ n = k * b ∧ i = .int .i64 k ∧ Own .i64 3 w wr v n (fun k => g (k / b) (k % b))) (fun _ i _ => a - (intOf i).toNat)
  case atStart => exact ⟨0, 0, Nat.zero_le _, by simp, rfl, hown⟩
  case round =>
    obtain ⟨k, n, hk, hn, rfl, hown⟩ := hrel
    have HK := Lib.hid hn
    clear hn
    by_cases hlt : k < a
    · obtain ⟨wo, hwo⟩ : ∃ wo : World, wo = wr := ⟨_, rfl⟩
      subst hwo
      go_wp2_with fail
      go_loopw [7, 19] (fun v i wr => ∃ (j n : Nat), j ≤ b ∧ Hid (n = k * b + j) ∧ i = .int .i64 j ∧ Own .i64 3 w wr v n (fun k => g (k / b) (k % b))) (fun _ i _ => b - (intOf i).toNat)
      case atStart => exact ⟨0, n, Nat.zero_le _, by have := HK.out; unfold Hid; omega, rfl, hown⟩
      case round =>
        obtain ⟨j, n', hj, HJ, rfl, hown⟩ := hrel
        by_cases hjb : j < b
        · have hcall := HF.out k j wr hlt hjb hown.below
          have HC := Lib.hid hcall
          have hnb : n' < N := by have := row_bd a b k j hlt hjb; have := HJ.out; have := HN.out; omega
          have hfit : fits .i64 (g k j) := HG.out k j hlt hjb
          have HFT := Lib.hid hfit
          clear hcall hfit
          go_wp2_with fail
          refine HC.out.mono ?_
          rintro e w' ⟨rfl, hb'⟩
          have hown := hown.later hb'
          go_wp2_with (at_builtin; refine wpList_append_own _ rfl _ _ 35 rfl w.heap.size 3 i0 (.int .i64 0) 1 8 Try.underlying35 hi hz0 hz1 hz2 rfl (by decide) _ _ _ rfl (hown.own.alloc _) ⟨w'.heap.size, 0, none⟩ 1 1 [.int .i64 (g k j)] rfl rfl (cell_one_new _ _ _) (one_cell _ _) (by unfold maxLen; omega) (by omega) (size_alloc_le hown.below _) ?_)
          intro v' w2 hown' hgrow _
          have hnext := hown.push (g k j) (by have := row_at b k j hjb; rw [HJ.out, this.1, this.2]) hown' hgrow
          clear hown' hgrow
          go_wp2_with fail
          go_roundw
          case rel => exact ⟨j + 1, n' + 1, by omega, by have := HJ.out; unfold Hid; omega, by go_num, hnext⟩
          case measure => simp [intOf]; omega
        · have hjj : j = b := by omega
          have HJJ := Lib.hid hjj
          clear hjj
          go_wp2_with fail
          go_roundw
          case rel => exact ⟨k + 1, n', by omega, by have h1 := HJ.out; have h2 := HJJ.out; rw [Nat.add_mul, Nat.one_mul]; omega, by go_num, hown⟩
          case measure => simp [intOf]; omega
    · have hka : k = a := by omega
      have hres := hown.gives (xs := tabL a b g) (by rw [tabL_len]; have := HK.out; rw [hka] at this; omega) (fun x hx => by
        obtain ⟨i, hi, rfl⟩ := List.mem_map.1 hx
        have hi' : i < a * b := by simpa using hi
        have hb0 : 0 < b := Nat.pos_of_ne_zero (fun e => by subst e; omega)
        exact HG.out _ _ (Nat.div_lt_of_lt_mul (by rw [Nat.mul_comm]; exact hi')) (Nat.mod_lt _ hb0)) (fun i hi => nth_ofFn _ _ _ (by have := HK.out; rw [hka] at this; omega)) (by have := HK.out; have := HN.out; rw [hka] at *; omega)
      clear hown
      go_wp2_with fail
      go_ret
      exact hres
end Go.Proofs.Ytpehbgcbifgokaa
