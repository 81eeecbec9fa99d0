/- Transforms of a few numbers: piece by piece. -/
import Derived.Test.YtlgklkhijmeldaaSmallD
namespace Go.Proofs.Ytlgklkhijmeldaa
open Go.RowKit Sm
set_option linter.unusedVariables false
set_option linter.unusedSimpArgs false
set_option maxRecDepth 100000

def rowsL (xs : List Int) (b : Nat) (z : Int) (k : Nat) : List Int := (List.range k).flatMap fun j => dftL ((xs.take (j * b + b)).drop (j * b)) z
theorem rowsL_succ (xs : List Int) (b : Nat) (z : Int) (k : Nat) : rowsL xs b z (k + 1) = rowsL xs b z k ++ dftL ((xs.take (k * b + b)).drop (k * b)) z := by
  simp [rowsL, List.range_succ]
theorem piece_len (xs : List Int) (A b : Nat) (h : A + b ≤ xs.length) : ((xs.take (A + b)).drop A).length = b := by
  simp; omega
theorem rowsL_len (xs : List Int) (b : Nat) (z : Int) (k : Nat) (h : k * b ≤ xs.length) : (rowsL xs b z k).length = k * b := by
  induction k with
  | zero => simp [rowsL]
  | succ k ih =>
    rw [Nat.succ_mul] at h
    rw [rowsL_succ, List.length_append, ih (by omega), dftL_len, piece_len xs _ _ h, Nat.succ_mul]
theorem rowsL_fits (xs : List Int) (b : Nat) (z : Int) (k : Nat) : ∀ x ∈ rowsL xs b z k, fits .u64 x := by
  intro x hx
  obtain ⟨j, _, h⟩ := List.mem_flatMap.1 hx
  exact dftL_fits _ _ x h

set_option maxHeartbeats 1600000 in
theorem small_Rows_ok (a : Option Addr) (n m b cap : Nat) (d : Int) (xs : List Int) (w : World) (hx : Row .u64 w a xs) (hxl : xs.length = n) (hcap : n ≤ cap) (hd : d = 0 ∨ d = 1) (h1 : 1 ≤ b) (h5 : b ≤ 5) (hn : n ≤ 16777216) (hm : n = m * b) (hm1 : 1 ≤ m) :
    Calls Try.prog 43 #[.slice a n cap, .int .i64 b, .int .i64 d] w (GivesRowE .u64 (rowsL xs b (dirRt b d) m) 0 w) := by
  obtain ⟨i0, hi, hz0, hz1, hz2⟩ := info_parts info_u64
  have C1 : Hid (∀ w : World, Calls Try.prog 37 #[.int .i64 b] w fun e w' => e = .returned (.bool true) ∧ w = w') := fun w => by
    have := small_Has b w; rw [show decide ((1 : Int) ≤ b ∧ (b : Int) ≤ 5) = true by simp; omega] at this; exact this
  have hs := few_size b h1 h5
  have hz := dirRt_range b d
  have hroot := isRoot_dir b d hs
  have C2 : Hid (∀ w : World, Calls Try.prog 68 #[.int .i64 b, .int .i64 d] w fun e w' => e = .returned (.int .u64 (dirRt b d)) ∧ w = w') := fun w => small_way b d w hs hd
  have C3 : Hid (∀ (a : Option Addr) (c : Nat) (ys : List Int) (w : World), Row .u64 w a ys → ys.length = b → Calls Try.prog 67 #[.slice a b c, .int .u64 (dirRt b d)] w (GivesRow .u64 (dftL ys (dirRt b d)) w)) := fun a c ys w hy hyl => small_done a c b ys _ (dirBk b d) w hy hyl.symm h1 h5 hroot hz.1 hz.2
  have hn1 : 1 ≤ n := by rw [hm]; exact Nat.le_trans h1 (Nat.le_mul_of_pos_left b (by omega))
  obtain ⟨bk, off, rfl, _⟩ := hx.at (by omega)
  have HX := Lib.hid hx
  have HXL := Lib.hid hxl
  have HMB := Lib.hid hm
  have hb0 : ((b : Int) == 0) = false := bno (by omega)
  have hn0 : ((n : Int) == 0) = false := bno (by omega)
  have hrem : (n : Int).tmod b = 0 := by rw [hm]; simp
  have hrem2 : (((n : Int).tmod b) != 0) = false := by rw [hrem]; rfl
  clear hx hxl hm hs hz hroot
  obtain ⟨z, hz⟩ : ∃ z, dirRt b d = z := ⟨_, rfl⟩
  rw [hz] at C2 C3 ⊢
  have HO0 := Lib.hid (World.ownsRow_nil w w.heap.size 45 1)
  rcases hd with h1' | h1'
  all_goals
    subst h1'
    clear hz
    go_enter Try.func43, Try.ntmps43
    go_wp2_with fail
    refine (C1.out _).mono ?_; rintro e w' ⟨rfl, rfl⟩
    go_wp2_with fail
    refine (C2.out _).mono ?_; rintro e w' ⟨rfl, rfl⟩
    go_wp2_with fail
    go_loopw [9, 10] (fun v i wr => ∃ k : Nat, k ≤ m ∧ i = .int .i64 (k * b : Nat) ∧ wr.ownsRow w.heap.size 45 1 v (k * b) ((rowsL xs b z k).map (Value.int .u64)) ∧ Below w.heap.size w wr) (fun _ i _ => n - (intOf i).toNat)
    case atStart => exact ⟨0, Nat.zero_le _, by simp, by simpa [rowsL] using HO0.out, Below.refl _ _⟩
    case round =>
      obtain ⟨k, hk, rfl, hown, hbel⟩ := hrel
      obtain ⟨A, hA⟩ : ∃ A, k * b = A := ⟨_, rfl⟩
      by_cases hlt : k < m
      · have hle : A + b ≤ n := by
          have : (k + 1) * b ≤ m * b := Nat.mul_le_mul_right b (by omega)
          rw [Nat.succ_mul] at this
          rw [HMB.out, ← hA]; exact this
        have HAS : Hid ((k + 1) * b = A + b) := by unfold Hid; rw [Nat.succ_mul, hA]
        have hcut := ((HX.out.below hbel).cut A (A + b))
        have hcl := piece_len xs A b (by rw [HXL.out]; exact hle)
        have hsucc : rowsL xs b z (k + 1) = rowsL xs b z k ++ dftL ((xs.take (A + b)).drop A) z := by rw [rowsL_succ, hA]
        rw [hA] at hown ⊢
        obtain ⟨ys, hys⟩ : ∃ ys, (xs.take (A + b)).drop A = ys := ⟨_, rfl⟩
        rw [hys] at hcut hcl hsucc
        have HC := Lib.hid hcut
        have HCL := Lib.hid hcl
        have HS := Lib.hid hsucc
        have HOW := Lib.hid hown
        have HB := Lib.hid hbel
        have hmc : ¬ A = cap := by omega
        have hsz := hbel.size
        clear hcut hcl hsucc hown hys hbel hA
        go_wp2_with fail
        have HDL : Hid ((dftL ys z).length = b) := (dftL_len ys z).trans HCL.out
        refine (C3.out _ _ ys _ HC.out HCL.out).mono ?_
        rintro e w1 ⟨a1, cap1, rfl, hr1, hcap1, hb1⟩
        rw [HDL.out] at hcap1 ⊢
        have hown1 := own_later HOW.out hb1
        go_wp2_with (at_builtin; refine wpList_append_row rfl _ _ 22 rfl .u64 w.heap.size 45 i0 (.int .u64 0) Try.underlying22 hi hz0 hz1 hz2 rfl _ _ _ rfl hown1 _ _ _ (dftL ys z) rfl HDL.out hr1 hcap1.2 (by omega) (Nat.le_trans hsz hb1.size) ?_)
        intro v2 w2 hown2 hg2
        have hb2 := append_below (HB.out.trans (hb1.mono hsz)) (Nat.le_trans hsz hb1.size) hown1 hg2
        rw [← List.map_append, ← HS.out] at hown2
        have HOW2 := Lib.hid hown2
        clear hown2 hown1 hg2 hr1
        go_wp2_with fail
        go_roundw
        case rel => exact ⟨k + 1, by omega, by rw [HAS.out]; go_num, by rw [HAS.out]; exact HOW2.out, hb2⟩
        case measure => simp [intOf]; omega
      · have hkm : k = m := by omega
        subst hkm
        have hAn : A = n := by rw [← hA, HMB.out]
        subst hAn
        have hres := gives_of_own hown hbel (xs := rowsL xs b z k) rfl (rowsL_len _ _ _ _ (by rw [HXL.out, HMB.out]; exact Nat.le_refl _)) (rowsL_fits xs b z k) (by rw [hA]; exact hn)
        obtain ⟨a2, cap2, he, hr2, hcap2, hb2⟩ := hres
        simp only [Ending.returned.injEq] at he
        subst he
        have HR := Lib.hid hr2
        rw [hA]
        clear hown hbel hr2 hA
        go_wp2_with fail
        go_ret2
        exact ⟨a2, cap2, rfl, HR.out, hcap2, hb2⟩
end Go.Proofs.Ytlgklkhijmeldaa
