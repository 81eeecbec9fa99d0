/- The law of orders, back, and one behind the other, as a call that returns true. -/
import Derived.Test.YtpehbgcbifgokaaPermN
namespace Go.Proofs.Ytpehbgcbifgokaa
open Go.RowKit
set_option linter.unusedVariables false
set_option linter.unusedSimpArgs false

theorem permTells_big (a0 a1 a2 : Option Addr) (n m l c0 c1 c2 : Nat) (w : World) (h : 60 < n ∨ (n ≤ 60 ∧ 60 < m) ∨ (n ≤ 60 ∧ m ≤ 60 ∧ 60 < l)) (hn : n ≤ 9223372036854775807) (hm : m ≤ 9223372036854775807) (hl : l ≤ 9223372036854775807) :
    Calls Try.prog 7 #[.slice a0 n c0, .slice a1 m c1, .slice a2 l c2] w fun e w' => e = .returned (.bool true) ∧ Below w.heap.size w w' := by
  rcases h with h1 | ⟨h1, h2⟩ | ⟨h1, h2, h3⟩
  all_goals
    go_enter Try.func7, Try.ntmps7
    go_wp2_with fail
    refine (live08 _).mono ?_
    rintro e w7 ⟨rfl, hb7⟩
    go_wp2_with fail
    go_ret
    exact ⟨rfl, hb7⟩

set_option maxHeartbeats 800000 in
theorem permTells_no (a0 a1 a2 : Option Addr) (n m l c0 c1 c2 : Nat) (p : List Int) (w : World) (hp : Row .i64 w a0 p) (hn : p.length = n) (h1 : n ≤ 60) (h2 : m ≤ 60) (h3 : l ≤ 60) (hpm : ¬ IsPerm p) :
    Calls Try.prog 7 #[.slice a0 n c0, .slice a1 m c1, .slice a2 l c2] w fun e w' => e = .returned (.bool true) ∧ Below w.heap.size w w' := by
  have HP := Lib.hid hp
  have HM := Lib.hid hpm
  have HN := Lib.hid hn
  clear hp hpm hn
  go_enter Try.func7, Try.ntmps7
  go_wp2_with fail
  refine (permInverse_no a0 n c0 p _ HP.out HN.out (by omega) HM.out).mono ?_
  rintro e w1 ⟨rfl, hb1⟩
  go_wp2_with fail
  refine (permAfter_no1 a0 a1 n m c0 c1 p _ (HP.out.below hb1) HN.out (by omega) HM.out).mono ?_
  rintro e w2 ⟨rfl, hb2⟩
  have hbl := chain hb1 hb2
  go_wp2_with fail
  refine (permApply_no a0 a2 n l c0 c2 p _ (HP.out.below hbl) HN.out (by omega) HM.out).mono ?_
  rintro e w3 ⟨rfl, hb3⟩
  have hbl := chain hbl hb3
  go_wp2_with fail
  refine (permRight_no a0 n c0 p _ (HP.out.below hbl) HN.out (by omega) HM.out).mono ?_
  rintro e w4 ⟨rfl, hb4⟩
  have hbl := chain hbl hb4
  go_wp2_with fail
  refine (refRight_no a0 n c0 p _ (HP.out.below hbl) HN.out (by omega) HM.out).mono ?_; rintro e w' ⟨rfl, rfl⟩
  go_wp2_with fail
  refine (refRight_no a0 n c0 p _ (HP.out.below hbl) HN.out (by omega) HM.out).mono ?_; rintro e w' ⟨rfl, rfl⟩
  go_wp2_with fail
  refine (live08 _).mono ?_
  rintro e w7 ⟨rfl, hb7⟩
  go_wp2_with fail
  go_ret
  exact ⟨rfl, chain hbl hb7⟩

set_option maxHeartbeats 1600000 in
theorem permTells_yes (a0 a1 a2 : Option Addr) (n m l c0 c1 c2 : Nat) (p q x : List Int) (w : World) (hp : Row .i64 w a0 p) (hq : Row .i64 w a1 q) (hx : Row .u64 w a2 x) (hn : p.length = n) (hm : q.length = m) (hlx : x.length = l) (h1 : n ≤ 60) (h2 : m ≤ 60) (h3 : l ≤ 60) (hpm : IsPerm p)
    (hc0 : a0 = none → c0 = 0) (hc2 : a2 = none → c2 = 0) :
    Calls Try.prog 7 #[.slice a0 n c0, .slice a1 m c1, .slice a2 l c2] w fun e w' => e = .returned (.bool true) ∧ Below w.heap.size w w' := by
  have HP := Lib.hid hp
  have HM := Lib.hid hpm
  have HN := Lib.hid hn
  have HIL : Hid ((invP p).length = n) := (invP_len p).trans hn
  have HIP := Lib.hid (isPerm_invP p hpm)
  have HIA : Hid (∀ i, i < n → nth (invP p) (nth p i).toNat = i) := fun i hi => invP_at p hpm i (by omega)
  have HA : Hid (∀ w', Below w.heap.size w w' → Calls Try.prog 37 #[.slice a0 n c0, .slice a1 m c1] w' (AfterRes Try.prog 40 (.slice a0 n c0) (.slice a1 m c1) w')) :=
    fun w' h => after_res a0 a1 n m c0 c1 p q w' (hp.below h) (hq.below h) hn hm (by omega) (by omega) hpm hc0
  have HY : Hid (∀ w', Below w.heap.size w w' → Calls Try.prog 38 #[.slice a0 n c0, .slice a2 l c2] w' (AfterRes Try.prog 41 (.slice a0 n c0) (.slice a2 l c2) w')) :=
    fun w' h => apply_res a0 a2 n l c0 c2 p x w' (hp.below h) (hx.below h) hn hlx (by omega) hpm hc2
  have hnn : ((n : Int) != (n : Int)) = false := bfalse rfl
  clear hp hq hx hpm hn hm hlx hc0 hc2
  go_enter Try.func7, Try.ntmps7
  go_wp2_with fail
  refine (permInverse_yes a0 n c0 p (invP p) _ HP.out HN.out (by omega) HM.out HIL.out HIA.out).mono ?_
  rintro e w1 ⟨b, capb, rfl, hrb, hcb, hb1⟩
  rw [HIL.out]
  have HB := Lib.hid hrb
  clear hrb hcb
  go_wp2_with fail
  refine (HA.out _ hb1).mono ?_
  rintro e w2 ⟨aa, na, capa, ea, rfl, hb2, hfa⟩
  have HFA := Lib.hid hfa
  clear hfa
  have hbl := chain hb1 hb2
  go_wp2_with fail
  refine (HY.out _ hbl).mono ?_
  rintro e w3 ⟨ay, ny, capy, ey, rfl, hb3, hfy⟩
  have HFY := Lib.hid hfy
  clear hfy
  have hbl3 := chain hbl hb3
  go_wp2_with fail
  refine (permRight_yes a0 n c0 p _ (HP.out.below hbl3) HN.out (by omega) HM.out).mono ?_
  rintro e w4 ⟨rfl, hb4⟩
  have hbl4 := chain hbl3 hb4
  have HP4 := Lib.hid (HP.out.below hbl4)
  have HB4 := Lib.hid (HB.out.below (chain (chain hb2 hb3) hb4))
  go_wp2_with fail
  refine (refRight_yes a0 n c0 p _ HP4.out HN.out (by omega) HM.out).mono ?_; rintro e w' ⟨rfl, rfl⟩
  go_wp2_with fail
  refine (refRight_yes a0 n c0 p _ HP4.out HN.out (by omega) HM.out).mono ?_; rintro e w' ⟨rfl, rfl⟩
  go_wp2_with fail
  refine (refRight_yes b n capb (invP p) _ HB4.out HIL.out (by omega) HIP.out).mono ?_; rintro e w' ⟨rfl, rfl⟩
  go_wp2_with fail
  go_loopw [13] (fun i wr => ∃ k : Nat, k ≤ n ∧ i = .int .i64 k ∧ w4 = wr) (fun i _ => n - (intOf i).toNat)
  case atStart => exact ⟨0, Nat.zero_le _, rfl, rfl⟩
  case round =>
    obtain ⟨k, hk, rfl, rfl⟩ := hrel
    by_cases hlt : k < n
    · obtain ⟨b1, o1, rfl, hc1⟩ := HP4.out.at (by have := HN.out; omega)
      obtain ⟨b2, o2, rfl, hc2⟩ := HB4.out.at (by have := HIL.out; omega)
      have g1 := hc1 k (by have := HN.out; omega)
      have hpq := HM.out.1 k (by have := HN.out; omega)
      obtain ⟨t, ht⟩ := Int.eq_ofNat_of_zero_le hpq.1
      have htlt : t < n := by have := hpq.2; have := HN.out; omega
      have hat := HIA.out k hlt
      rw [ht] at g1
      rw [ht, Int.toNat_natCast] at hat
      have g2 := hc2 t (by have := HIL.out; omega)
      rw [hat] at g2
      have hbe : ((k : Int) != (k : Int)) = false := bfalse rfl
      have g3 : (0 : Int) ≤ (k : Int) := by omega
      have g4 : (k : Int) < (n : Int) := by omega
      have g5 : (0 : Int) ≤ (t : Int) := by omega
      have g6 : (t : Int) < (n : Int) := by omega
      clear hc1 hc2 hpq ht hat
      go_wp2_with fail
      go_roundw
      case rel => exact ⟨k + 1, by omega, by go_num, trivial⟩
      case measure => simp [intOf]; omega
    · go_wp2_with fail
      refine (HFA.out _ (chain hb3 hb4)).mono ?_
      rintro e w5 ⟨rfl, hb5⟩
      go_wp2_with fail
      refine (HFY.out _ (chain hb4 hb5)).mono ?_
      rintro e w6 ⟨rfl, hb6⟩
      go_wp2_with fail
      refine (live08 _).mono ?_
      rintro e w7 ⟨rfl, hb7⟩
      go_wp2_with fail
      go_ret
      exact ⟨rfl, chain (chain (chain hbl4 hb5) hb6) hb7⟩

theorem permTellsW (a0 : Option Addr) (c0 : Nat) (x0 : List Int) (a1 : Option Addr) (c1 : Nat) (x1 : List Int) (a2 : Option Addr) (c2 : Nat) (x2 : List Int) (w : World) (h0 : Row .i64 w a0 x0) (k0 : OkCap a0 x0.length c0) (h1 : Row .i64 w a1 x1) (k1 : OkCap a1 x1.length c1) (h2 : Row .u64 w a2 x2) (k2 : OkCap a2 x2.length c2) :
    Calls Try.prog 7 #[.slice a0 x0.length c0, .slice a1 x1.length c1, .slice a2 x2.length c2] w fun e w' => e = .returned (.bool true) ∧ Below w.heap.size w w' := by
  by_cases hb : x0.length ≤ 60 ∧ x1.length ≤ 60 ∧ x2.length ≤ 60
  · by_cases hp : IsPerm x0
    · exact permTells_yes a0 a1 a2 _ _ _ c0 c1 c2 x0 x1 x2 w h0 h1 h2 rfl rfl rfl hb.1 hb.2.1 hb.2.2 hp k0.2 k2.2
    · exact permTells_no a0 a1 a2 _ _ _ c0 c1 c2 x0 w h0 rfl hb.1 hb.2.1 hb.2.2 hp
  · exact permTells_big a0 a1 a2 _ _ _ c0 c1 c2 w (by omega) h0.len h1.len h2.len
end Go.Proofs.Ytpehbgcbifgokaa
