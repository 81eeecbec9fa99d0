/- Contracts: is a node of a tree right by itself? The program. -/
import Derived.Test.YtncikklhchimdaaValL
import Derived.Test.YtncikklhchimdaaFactA
import Derived.Test.YtncikklhchimdaaTreeI
import Derived.Deep.RegionHeld3
import Derived.Deep.QuietTactic
import Derived.BigQuiet
namespace Go.Proofs.Ytncikklhchimdaa
open Go.RowKit
set_option linter.unusedVariables false
set_option linter.unusedSimpArgs false
set_option maxRecDepth 100000

theorem IsT.knum {w : World} {F : Nat → Prop} {k n : Int} {a : Option Addr} {m cap : Nat} {t : Tr} (h : IsT w F k n a m cap t) (i : Nat) (hi : i < m) :
    ∃ b off, a = some ⟨b, off, none⟩ ∧ b < w.heap.size ∧ w.cell? ⟨b, off + i * 3 + 1, none⟩ = some (.int .i64 (Tr.kid t.kids i).num) ∧ -9223372036854775808 ≤ (Tr.kid t.kids i).num ∧ (Tr.kid t.kids i).num < 9223372036854775808 := by
  obtain ⟨b, off, k', n', a', m', c', ha, hF, hlt, h0, h1, h2, hT⟩ := h.kid i hi
  have e := hT.en
  subst e
  exact ⟨b, off, ha, hlt, h1, hT.fn⟩

theorem ref14_power (n : Int) (w : World) (hn : -9223372036854775808 ≤ n ∧ n < 9223372036854775808) :
    Calls Try.prog 68 #[.int .i64 n] w fun e w' => e = .returned (.bool (hasP2 n)) ∧ w = w' := by
  have C1 : Hid (∀ w : World, Calls Try.prog 79 #[.int .i64 n] w fun e w' => e = .returned (.bool (isP2 n)) ∧ w = w') := fun w => refPower n w ⟨hn.1, by omega⟩
  by_cases h0 : n < 1
  · have HF : Hid (hasP2 n = false) := by unfold Hid hasP2; rw [isP2_neg n (by omega)]; rfl
    go_enter Try.func68, Try.ntmps68
    go_wp2_with fail
    go_ret
    exact ⟨ret_bool HF.out.symm, rfl⟩
  · by_cases h1 : 16777216 < n
    · have HF : Hid (hasP2 n = false) := by unfold Hid hasP2; rw [show decide (n ≤ 16777216) = false by simp; omega, Bool.and_false]
      go_enter Try.func68, Try.ntmps68
      go_wp2_with fail
      go_ret
      exact ⟨ret_bool HF.out.symm, rfl⟩
    · have HF : Hid (hasP2 n = isP2 n) := by unfold Hid hasP2; rw [show decide (n ≤ 16777216) = true by simp; omega, Bool.and_true]
      rw [HF.out]
      obtain ⟨B, hB⟩ : ∃ B, isP2 n = B := ⟨_, rfl⟩
      rw [hB] at C1 ⊢
      clear hB HF
      go_enter Try.func68, Try.ntmps68
      go_wp2_with fail
      refine (C1.out _).mono ?_; rintro e w' ⟨rfl, rfl⟩
      go_wp2_with fail
      go_ret
      exact ⟨rfl, rfl⟩

set_option maxHeartbeats 4000000 in
theorem valid_sides (t : Tr) (k n : Int) (a : Option Addr) (m cap : Nat) (w : World) (F : Nat → Prop) (hT : IsT w F k n a m cap t) :
    Calls Try.prog 63 #[.agg #[.int .i64 k, .int .i64 n, .slice a m cap]] w fun e w' => e = .returned (.bool (sidesB t.num t.kids.length (Tr.kid t.kids 0).num (Tr.kid t.kids 1).num)) ∧ Below w.heap.size w w' := by
  have hn := hT.fn
  have en := hT.en
  have em := hT.em
  by_cases hm : m = 2
  · by_cases hs : hasSz n = true
    · obtain ⟨b, off, rfl, hbl, c0, d0⟩ := hT.knum 0 (by omega)
      obtain ⟨b', off', ha, _, c1, d1⟩ := hT.knum 1 (by omega)
      simp only [Option.some.injEq, Addr.mk.injEq, and_true] at ha
      obtain ⟨rfl, rfl⟩ := ha
      have hb := hasSz_bd hs
      have HS : Hid (∀ W, Calls Try.prog 59 #[.int .i64 n] W fun e w' => e = .returned (.bool true) ∧ W = w') := fun W => rootHas_yes n W hs
      have HB : Hid (sidesB t.num t.kids.length (Tr.kid t.kids 0).num (Tr.kid t.kids 1).num = decide (2 ≤ (Tr.kid t.kids 0).num ∧ 2 ≤ (Tr.kid t.kids 1).num ∧ (Tr.kid t.kids 0).num ≤ n ∧ (Tr.kid t.kids 1).num ≤ n ∧ (Tr.kid t.kids 0).num * (Tr.kid t.kids 1).num = n)) := by
        unfold Hid sidesB
        rw [← en, ← em, hs, Bool.and_true, hm]
        simp
      rw [HB.out]
      clear HB
      obtain ⟨k0, hk0⟩ : ∃ x, (Tr.kid t.kids 0).num = x := ⟨_, rfl⟩
      obtain ⟨k1, hk1⟩ : ∃ x, (Tr.kid t.kids 1).num = x := ⟨_, rfl⟩
      rw [hk0] at c0 d0 ⊢
      rw [hk1] at c1 d1 ⊢
      clear hk0 hk1 en em hT hs
      subst hm
      rw [Nat.zero_mul, Nat.add_zero] at c0
      rw [Nat.one_mul] at c1
      have c0' := (cell_past w (.cells #[.int .i64 k, .int .i64 n, .slice (some ⟨b, off, none⟩) 2 cap] 24) ⟨b, off + 1, none⟩ hbl).trans c0
      have c1' := (cell_past w (.cells #[.int .i64 k, .int .i64 n, .slice (some ⟨b, off, none⟩) 2 cap] 24) ⟨b, off + 3 + 1, none⟩ hbl).trans c1
      rcases (show ¬ 2 ≤ k0 ∨ (2 ≤ k0 ∧ ¬ 2 ≤ k1) ∨ (2 ≤ k0 ∧ 2 ≤ k1 ∧ ¬ k0 ≤ n) ∨ (2 ≤ k0 ∧ 2 ≤ k1 ∧ k0 ≤ n ∧ ¬ k1 ≤ n) ∨ (2 ≤ k0 ∧ 2 ≤ k1 ∧ k0 ≤ n ∧ k1 ≤ n) by omega) with h | ⟨h, h2⟩ | ⟨h, h2, h3⟩ | ⟨h, h2, h3, h4⟩ | ⟨h, h2, h3, h4⟩
      case' inr.inr.inr.inr =>
        obtain ⟨P, hP⟩ : ∃ P, k0 * k1 = P := ⟨_, rfl⟩
        have p1 : 0 ≤ P := by rw [← hP]; exact Int.mul_nonneg (by omega) (by omega)
        have p2 : P ≤ 16777216 * 16777216 := by rw [← hP]; exact Int.mul_le_mul (by omega) (by omega) (by omega) (by omega)
        rw [hP]
      all_goals
        go_enter Try.func63, Try.ntmps63
        go_wp2_with fail
        refine (HS.out _).mono ?_; rintro e w1 ⟨rfl, rfl⟩
        go_wp2_with fail
        go_quiet (fail)
        go_wp2_with fail
        go_ret
        exact ⟨ret_bool (by first | (simp; omega) | (simp; done) | (rw [Bool.eq_iff_iff]; simp [h, h2, h3, h4])), below_drewN ((Below.refl _ _).alloc (Nat.le_refl _) _) _⟩
    · have HS : Hid (∀ W, Calls Try.prog 59 #[.int .i64 n] W fun e w' => e = .returned (.bool false) ∧ W = w') := fun W => rootHas_no n W (by simpa using hs) hn
      have HB : Hid (sidesB t.num t.kids.length (Tr.kid t.kids 0).num (Tr.kid t.kids 1).num = false) := by
        unfold Hid sidesB
        rw [← en, show hasSz n = false by simpa using hs, Bool.and_false]
      rw [HB.out]
      subst hm
      clear HB hT en em hs
      go_enter Try.func63, Try.ntmps63
      go_wp2_with fail
      refine (HS.out _).mono ?_; rintro e w1 ⟨rfl, rfl⟩
      go_wp2_with fail
      go_ret
      exact ⟨rfl, (Below.refl _ _).alloc (Nat.le_refl _) _⟩
  · have HB : Hid (sidesB t.num t.kids.length (Tr.kid t.kids 0).num (Tr.kid t.kids 1).num = false) := by
      unfold Hid sidesB
      rw [← em, decide_eq_false (by intro h; exact hm h.1), Bool.false_and]
    rw [HB.out]
    have h2 : ((m : Int) != 2) = true := bdiff (by omega)
    clear HB hT en em hm
    go_enter Try.func63, Try.ntmps63
    go_wp2_with fail
    go_ret
    exact ⟨rfl, (Below.refl _ _).alloc (Nat.le_refl _) _⟩

/-- The two tests that a single child is put to. -/
theorem valid_Node1 (bd : Nat) (k n x : Int) (a : Option Addr) (m cap : Nat) (w : World) (hb : w.heap[bd]? = some (.cells #[.int .i64 k, .int .i64 n, .slice a m cap] 24 (0, 0))) (hn : 1 ≤ n ∧ n ≤ 16777216) :
    Calls Try.prog 66 #[.int .i64 x, .pointer (some ⟨bd, 0, none⟩)] w fun e w' => e = .returned (.bool (decide (x = n - 1))) ∧ w = w' := by
  have c1 := block_cell hb 1
  simp at c1
  clear hb
  by_cases h : x = n - 1
  · have h' : (x == n - 1) = true := btrue h
    go_enter Try.func66, Try.ntmps66
    go_wp2_with fail
    go_ret
    exact ⟨ret_bool (by simp; try omega), rfl⟩
  · have h' : (x == n - 1) = false := bno h
    go_enter Try.func66, Try.ntmps66
    go_wp2_with fail
    go_ret
    exact ⟨ret_bool (by simp; try omega), rfl⟩
theorem valid_Node2 (bd : Nat) (k n x : Int) (a : Option Addr) (m cap : Nat) (w : World) (hb : w.heap[bd]? = some (.cells #[.int .i64 k, .int .i64 n, .slice a m cap] 24 (0, 0))) (hn : 1 ≤ n ∧ n ≤ 16777216) (hx : -9223372036854775808 ≤ x ∧ x < 9223372036854775808) :
    Calls Try.prog 67 #[.int .i64 x, .pointer (some ⟨bd, 0, none⟩)] w fun e w' => e = .returned (.bool (decide (2 * n - 1 ≤ x) && hasP2 x)) ∧ w = w' := by
  have c1 := block_cell hb 1
  simp at c1
  have HS : Hid (∀ W, Calls Try.prog 61 #[.int .i64 x] W fun e w' => e = .returned (.bool (hasP2 x)) ∧ W = w') := fun W => stock_Has x W ⟨hx.1, by omega⟩
  obtain ⟨B, hB⟩ : ∃ B, hasP2 x = B := ⟨_, rfl⟩
  rw [hB] at HS ⊢
  clear hb hB
  by_cases h : 2 * n - 1 ≤ x
  · have h' : decide (x ≥ 2 * n - 1) = true := by simp; omega
    have h'' : decide (2 * n - 1 ≤ x) = true := by simp; omega
    go_enter Try.func67, Try.ntmps67
    go_wp2_with fail
    refine (HS.out _).mono ?_; rintro e w1 ⟨rfl, rfl⟩
    go_wp2_with fail
    go_ret
    exact ⟨ret_bool (by first | rfl | (rw [h'']; simp)), rfl⟩
  · have h' : decide (x ≥ 2 * n - 1) = false := by simp; omega
    have h'' : decide (2 * n - 1 ≤ x) = false := by simp; omega
    go_enter Try.func67, Try.ntmps67
    go_wp2_with fail
    go_ret
    exact ⟨ret_bool (by first | rfl | (rw [h'']; simp)), rfl⟩

/-- What the one child is asked. -/
def oneB (n : Int) (m : Nat) (P : Bool) : Bool := decide (m = 1) && hasSz n && P
set_option maxHeartbeats 2000000 in
theorem valid_single (f : Nat) (bd : Nat) (t : Tr) (k n : Int) (a : Option Addr) (m cap : Nat) (w : World) (F : Nat → Prop) (P : Bool) (hT : IsT w F k n a m cap t)
    (hf : m = 1 → hasSz n = true → ∀ W, Below w.heap.size w W → Calls Try.prog f #[.int .i64 (Tr.kid t.kids 0).num, .pointer (some ⟨bd, 0, none⟩)] W fun e w' => e = .returned (.bool P) ∧ W = w')
    (eg : ∀ args w, (callFunc f args).run Try.prog w = .ok (.enter f args) w) :
    Calls Try.prog 65 #[.agg #[.int .i64 k, .int .i64 n, .slice a m cap], .func (.func f) #[] #[.pointer (some ⟨bd, 0, none⟩)]] w fun e w' => e = .returned (.bool (oneB n m P)) ∧ Below w.heap.size w w' := by
  have hn := hT.fn
  by_cases hm : m = 1
  · by_cases hs : hasSz n = true
    · obtain ⟨b, off, rfl, hbl, c0, d0⟩ := hT.knum 0 (by omega)
      have HS : Hid (∀ W, Calls Try.prog 59 #[.int .i64 n] W fun e w' => e = .returned (.bool true) ∧ W = w') := fun W => rootHas_yes n W hs
      have HF := Lib.hid (hf hm hs)
      have HB : Hid (oneB n m P = P) := by unfold Hid oneB; rw [hs, hm]; simp
      rw [HB.out]
      obtain ⟨k0, hk0⟩ : ∃ x, (Tr.kid t.kids 0).num = x := ⟨_, rfl⟩
      rw [hk0] at c0 d0 HF
      subst hm
      rw [Nat.zero_mul, Nat.add_zero] at c0
      have c0' := (cell_past w (.cells #[.int .i64 k, .int .i64 n, .slice (some ⟨b, off, none⟩) 1 cap] 24) ⟨b, off + 1, none⟩ hbl).trans c0
      clear hf hT hs HB hk0 c0
      go_enter Try.func65, Try.ntmps65
      go_wp2_with fail
      refine (HS.out _).mono ?_; rintro e w1 ⟨rfl, rfl⟩
      go_wp2_with fail
      refine (HF.out _ ((Below.refl _ _).alloc (Nat.le_refl _) _)).mono ?_; rintro e w1 ⟨rfl, rfl⟩
      go_wp2_with fail
      go_ret
      exact ⟨rfl, (Below.refl _ _).alloc (Nat.le_refl _) _⟩
    · have HS : Hid (∀ W, Calls Try.prog 59 #[.int .i64 n] W fun e w' => e = .returned (.bool false) ∧ W = w') := fun W => rootHas_no n W (by simpa using hs) hn
      have HB : Hid (oneB n m P = false) := by unfold Hid oneB; rw [show hasSz n = false by simpa using hs]; simp
      rw [HB.out]
      subst hm
      clear HB hT hs hf
      go_enter Try.func65, Try.ntmps65
      go_wp2_with fail
      refine (HS.out _).mono ?_; rintro e w1 ⟨rfl, rfl⟩
      go_wp2_with fail
      go_ret
      exact ⟨rfl, (Below.refl _ _).alloc (Nat.le_refl _) _⟩
  · have HB : Hid (oneB n m P = false) := by unfold Hid oneB; rw [decide_eq_false hm]; rfl
    rw [HB.out]
    have h2 : ((m : Int) == 1) = false := bno (by omega)
    clear HB hT hm hf
    go_enter Try.func65, Try.ntmps65
    go_wp2_with fail
    go_ret
    exact ⟨rfl, (Below.refl _ _).alloc (Nat.le_refl _) _⟩
end Go.Proofs.Ytncikklhchimdaa
