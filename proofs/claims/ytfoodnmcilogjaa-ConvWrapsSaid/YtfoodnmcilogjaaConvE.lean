/- The program's products; the page's example; three laws, as calls that return true. -/
import Derived.Test.YtfoodnmcilogjaaConvD
import Derived.Test.YtfoodnmcilogjaaDftC
namespace Go.Proofs.Ytfoodnmcilogjaa
open Go.RowKit Sm
set_option linter.unusedVariables false
set_option linter.unusedSimpArgs false

theorem chainAA {w w1 w2 : World} {o o' : Obj} (h : Below w.heap.size w w1) (h2 : Below ((w1.alloc o).alloc o').heap.size ((w1.alloc o).alloc o') w2) : Below w.heap.size w w2 :=
  chainA (o := o') (w1 := w1.alloc o) (h.alloc h.size o) h2

/-- Products that are not around. -/
def lnL (xs ys : List Int) : List Int := if xs.length = 0 ∨ ys.length = 0 then [] else cvL xs ys (xs.length + ys.length - 1)
theorem lnL_nil (xs ys : List Int) (h : xs.length = 0 ∨ ys.length = 0) : lnL xs ys = [] := if_pos h
theorem lnL_some (xs ys : List Int) (h : ¬ (xs.length = 0 ∨ ys.length = 0)) : lnL xs ys = cvL xs ys (xs.length + ys.length - 1) := if_neg h

theorem conv_Linear (a b : Option Addr) (n m ca cb : Nat) (xs ys : List Int) (w : World) (hx : Row .u64 w a xs) (hy : Row .u64 w b ys) (hn : xs.length = n) (hm : ys.length = m) (hl : n ≤ 4096) (hl2 : m ≤ 4096) :
    Calls Try.prog 44 #[.slice a n ca, .slice b m cb] w (GivesRowE .u64 (lnL xs ys) 0 w) := by
  by_cases h : n = 0 ∨ m = 0
  · rw [lnL_nil xs ys (by omega)]
    have hg : GivesRowE .u64 [] 0 w (.returned (.tuple #[.slice none 0 0, .int .i64 0])) w := ⟨none, 0, rfl, Row.nil _ _ _, ⟨Nat.le_refl _, fun _ => rfl⟩, Below.refl _ _⟩
    have HG := Lib.hid hg
    clear hx hy hn hm hg
    rcases (show n = 0 ∨ (0 < n ∧ m = 0) by omega) with h1 | ⟨h1, h2⟩
    · subst h1
      clear h
      go_enter Try.func44, Try.ntmps44
      go_wp2_with fail
      go_ret2
      exact HG.out
    · subst h2
      have z1 : ((n : Int) == 0) = false := bno (by omega)
      clear h
      go_enter Try.func44, Try.ntmps44
      go_wp2_with fail
      go_ret2
      exact HG.out
  · rw [lnL_some xs ys (by omega)]
    rw [hn, hm]
    obtain ⟨N, hN⟩ : ∃ N, n + m - 1 = N := ⟨_, rfl⟩
    rw [hN]
    have z1 : ((n : Int) == 0) = false := bno (by omega)
    have z2 : ((m : Int) == 0) = false := bno (by omega)
    have e0 : IntKind.i64.wrap ((n : Int) + (m : Int) - 1) = (N : Int) := by rw [show (n : Int) + (m : Int) - 1 = (N : Int) by omega]; exact IntWalk.i64_in _ (by omega)
    have e0' : (n : Int) + (m : Int) - 1 = (N : Int) := by omega
    have HS : Hid (Calls Try.prog 79 #[.slice a n ca, .slice b m cb, .int .i64 N] w (GivesRow .u64 (cvL xs ys N) w)) := conv_sum a b n m ca cb xs ys N w hx hy hn hm hl hl2 (by omega) (fun _ => by omega)
    clear hx hy hn hm hN h
    go_enter Try.func44, Try.ntmps44
    go_wp2_with fail
    refine HS.out.mono ?_
    rintro e w1 ⟨a1, cap1, rfl, hr1, hcap1, hb1⟩
    go_wp2_with fail
    go_ret2
    exact ⟨a1, cap1, rfl, hr1, hcap1, hb1⟩

theorem conv_Linear_big (a b : Option Addr) (n m ca cb : Nat) (w : World) (h : 4096 < n ∨ (n ≤ 4096 ∧ 4096 < m)) (hn : n ≤ 9223372036854775807) (hm : m ≤ 9223372036854775807) :
    Calls Try.prog 44 #[.slice a n ca, .slice b m cb] w fun e w' => e = .returned (.tuple #[.slice none 0 0, .int .i64 12]) ∧ w = w' := by
  rcases h with h1 | ⟨h1, h2⟩
  all_goals
    go_enter Try.func44, Try.ntmps44
    go_wp2_with fail
    go_ret2
    exact ⟨rfl, rfl⟩

theorem conv_Cyclic (a b : Option Addr) (n ca cb : Nat) (xs ys : List Int) (w : World) (hx : Row .u64 w a xs) (hy : Row .u64 w b ys) (hn : xs.length = n) (hm : ys.length = n) (hl : n ≤ 4096) :
    Calls Try.prog 46 #[.slice a n ca, .slice b n cb] w (GivesRowE .u64 (cvL xs ys n) 0 w) := by
  have HS : Hid (Calls Try.prog 79 #[.slice a n ca, .slice b n cb, .int .i64 n] w (GivesRow .u64 (cvL xs ys n) w)) := conv_sum a b n n ca cb xs ys n w hx hy hn hm hl hl (by omega) (fun h => Nat.pos_of_ne_zero (fun e => by subst e; simp at h))
  have h0 : ((n : Int) != (n : Int)) = false := bfalse rfl
  clear hx hy hn hm
  go_enter Try.func46, Try.ntmps46
  go_wp2_with fail
  refine HS.out.mono ?_
  rintro e w1 ⟨a1, cap1, rfl, hr1, hcap1, hb1⟩
  go_wp2_with fail
  go_ret2
  exact ⟨a1, cap1, rfl, hr1, hcap1, hb1⟩

theorem conv_Cyclic_len (a b : Option Addr) (n m ca cb : Nat) (w : World) (h : n ≠ m) :
    Calls Try.prog 46 #[.slice a n ca, .slice b m cb] w fun e w' => e = .returned (.tuple #[.slice none 0 0, .int .i64 5]) ∧ w = w' := by
  have h0 : ((n : Int) != (m : Int)) = true := by simp; omega
  clear h
  go_enter Try.func46, Try.ntmps46
  go_wp2_with fail
  go_ret2
  exact ⟨rfl, rfl⟩

theorem lit_row (w : World) (t : TypeId) (n : Nat) (xs : List Int) (hn : n = w.heap.size) (hw : ∀ x ∈ xs, fits .u64 x) (hl : xs.length ≤ 100) : Row .u64 (w.alloc (.cells (xs.map (Value.int .u64)).toArray t)) (some ⟨n, 0, none⟩) xs := by
  subst hn; exact row_new .u64 w t xs hw (by omega)
theorem smallL (xs : List Int) (h : ∀ x ∈ xs, 0 ≤ x ∧ x ≤ 1000000000) : ∀ x ∈ xs, fits .u64 x := fun x hx => fits_u64.2 (by have := h x hx; omega)

set_option maxHeartbeats 1000000 in
theorem live07 (w : World) : Calls Try.prog 43 #[] w fun e w' => e = .returned (.bool true) ∧ Below w.heap.size w w' := by
  have r12 : ∀ (w : World) (n : Nat), n = w.heap.size → Row .u64 (w.alloc (.cells #[.int .u64 1, .int .u64 2] 28)) (some ⟨n, 0, none⟩) [1, 2] := fun w n hn => lit_row w _ n [1, 2] hn (smallL _ (by decide)) (by simp)
  have r34 : ∀ (w : World) (n : Nat), n = w.heap.size → Row .u64 (w.alloc (.cells #[.int .u64 3, .int .u64 4] 28)) (some ⟨n, 0, none⟩) [3, 4] := fun w n hn => lit_row w _ n [3, 4] hn (smallL _ (by decide)) (by simp)
  have r1110 : ∀ (w : World) (n : Nat), n = w.heap.size → Row .u64 (w.alloc (.cells #[.int .u64 11, .int .u64 10] 28)) (some ⟨n, 0, none⟩) [11, 10] := fun w n hn => lit_row w _ n [11, 10] hn (smallL _ (by decide)) (by simp)
  have r3108 : ∀ (w : World) (n : Nat), n = w.heap.size → Row .u64 (w.alloc (.cells #[.int .u64 3, .int .u64 10, .int .u64 8] 28)) (some ⟨n, 0, none⟩) [3, 10, 8] := fun w n hn => lit_row w _ n [3, 10, 8] hn (smallL _ (by decide)) (by simp)
  have e1 : cvL [1, 2] [3, 4] 2 = [11, 10] := by decide
  have e2 : lnL [1, 2] [3, 4] = [3, 10, 8] := by decide
  have S1 : Hid (∀ (w : World) (a b : Option Addr), Row .u64 w a [1, 2] → Row .u64 w b [3, 4] → Calls Try.prog 46 #[.slice a 2 2, .slice b 2 2] w (GivesRowE .u64 [11, 10] 0 w)) := fun w a b h1 h2 => by rw [← e1]; exact conv_Cyclic a b 2 2 2 [1, 2] [3, 4] w h1 h2 rfl rfl (by omega)
  have S2 : Hid (∀ (w : World) (a b : Option Addr), Row .u64 w a [1, 2] → Row .u64 w b [3, 4] → Calls Try.prog 44 #[.slice a 2 2, .slice b 2 2] w (GivesRowE .u64 [3, 10, 8] 0 w)) := fun w a b h1 h2 => by rw [← e2]; exact conv_Linear a b 2 2 2 2 [1, 2] [3, 4] w h1 h2 rfl rfl (by omega) (by omega)
  have R12 := Lib.hid r12; have R34 := Lib.hid r34; have R1110 := Lib.hid r1110; have R3108 := Lib.hid r3108
  clear r12 r34 r1110 r3108 e1 e2
  go_enter Try.func43, Try.ntmps43
  go_wp2_with fail
  refine (S1.out _ _ _ ((R12.out _ _ rfl).below ((Below.refl _ _).alloc (Nat.le_refl _) _)) (R34.out _ _ (by simp))).mono ?_
  rintro e w1 ⟨a1, cap1, rfl, hr1, hcap1, hb1⟩
  have hbl1 := chainAA (Below.refl w.heap.size w) hb1
  go_wp2_with fail
  refine (S2.out _ _ _ ((R12.out _ _ rfl).below ((Below.refl _ _).alloc (Nat.le_refl _) _)) (R34.out _ _ (by simp))).mono ?_
  rintro e w2 ⟨a2, cap2, rfl, hr2, hcap2, hb2⟩
  have hbl2 := chainAA hbl1 hb2
  have hr1 := hr1.below (chainAA (Below.refl w1.heap.size w1) hb2)
  go_wp2_with fail
  refine (ref_SameT _ _ _ _ _ _ [11, 10] [11, 10] _ (hr1.below ((Below.refl _ _).alloc (Nat.le_refl _) _)) (R1110.out _ _ rfl) rfl rfl rfl).mono ?_
  rintro e w3 ⟨rfl, hb3⟩
  have hbl3 := chainA hbl2 hb3
  have hr2 := hr2.below (chainA (Below.refl w2.heap.size w2) hb3)
  go_wp2_with fail
  refine (ref_SameT _ _ _ _ _ _ [3, 10, 8] [3, 10, 8] _ (hr2.below ((Below.refl _ _).alloc (Nat.le_refl _) _)) (R3108.out _ _ rfl) rfl rfl rfl).mono ?_
  rintro e w4 ⟨rfl, hb4⟩
  go_wp2_with fail
  go_ret
  exact ⟨rfl, chainA hbl3 hb4⟩
end Go.Proofs.Ytfoodnmcilogjaa
