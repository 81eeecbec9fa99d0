/- The law's own helpers: what follows, what is moved. -/
import Derived.Test.YtpehbgcbifgokaaPermM
namespace Go.Proofs.Ytpehbgcbifgokaa
open Go.RowKit
set_option linter.unusedVariables false
set_option linter.unusedSimpArgs false

theorem follows_no (a aq : Option Addr) (n m cap capq : Nat) (q : List Int) (w : World) (hq : Row .i64 w aq q) (hm : q.length = m) (hl2 : m ≤ 16777216) (hqm : ¬ IsPerm q) :
    Calls Try.prog 40 #[.slice a n cap, .slice aq m capq, .slice none 0 0, .int .i64 2] w fun e w' => e = .returned (.bool true) ∧ w = w' := by
  have HQ := Lib.hid hq
  have HN := Lib.hid hqm
  clear hq hqm
  go_enter Try.func40, Try.ntmps40
  go_wp2_with fail
  refine (refRight_no aq m capq q _ HQ.out hm hl2 HN.out).mono ?_; rintro e w' ⟨rfl, rfl⟩
  go_wp2_with fail
  go_ret
  exact ⟨rfl, rfl⟩

theorem follows_len (a aq : Option Addr) (n m cap capq : Nat) (q : List Int) (w : World) (hq : Row .i64 w aq q) (hm : q.length = m) (hl2 : m ≤ 16777216) (hqm : IsPerm q) (hnm : n ≠ m) :
    Calls Try.prog 40 #[.slice a n cap, .slice aq m capq, .slice none 0 0, .int .i64 5] w fun e w' => e = .returned (.bool true) ∧ w = w' := by
  have HQ := Lib.hid hq
  have HN := Lib.hid hqm
  have h0 : ((n : Int) != (m : Int)) = true := bdiff (by omega)
  clear hq hqm
  go_enter Try.func40, Try.ntmps40
  go_wp2_with fail
  refine (refRight_yes aq m capq q _ HQ.out hm hl2 HN.out).mono ?_; rintro e w' ⟨rfl, rfl⟩
  go_wp2_with fail
  go_ret
  exact ⟨rfl, rfl⟩

theorem applies_len (a ax : Option Addr) (n m cap capx : Nat) (w : World) (hnm : n ≠ m) :
    Calls Try.prog 41 #[.slice a n cap, .slice ax m capx, .slice none 0 0, .int .i64 5] w fun e w' => e = .returned (.bool true) ∧ w = w' := by
  have h0 : ((m : Int) != (n : Int)) = true := bdiff (by omega)
  go_enter Try.func41, Try.ntmps41
  go_wp2_with fail
  go_ret
  exact ⟨rfl, rfl⟩

/-! ### Back -/
theorem permF_lt (p : List Int) (hp : IsPerm p) : ∀ k, k < p.length → (nth p k).toNat < p.length := fun k hk => by have := hp.1 k hk; omega
theorem permF_inj (p : List Int) (hp : IsPerm p) : ∀ i j, i < j → j < p.length → (nth p i).toNat ≠ (nth p j).toNat := fun i j hij hj e => by
  have h1 := hp.1 i (by omega); have h2 := hp.1 j hj
  exact hp.2 i j hij hj (by omega)
noncomputable def invP (p : List Int) : List Int := mapL p.length (invOf p.length (fun i => (nth p i).toNat))
theorem invP_len (p : List Int) : (invP p).length = p.length := mapL_len _ _
theorem isPerm_invP (p : List Int) (hp : IsPerm p) : IsPerm (invP p) :=
  isPerm_mapL _ _ (fun k hk => (invOf_lt _ _ (permF_lt p hp) (permF_inj p hp) k hk).1) (invOf_inj _ _ (permF_lt p hp) (permF_inj p hp))
theorem invP_at (p : List Int) (hp : IsPerm p) (i : Nat) (hi : i < p.length) : nth (invP p) (nth p i).toNat = i := by
  unfold invP
  rw [nth_mapL _ _ _ (permF_lt p hp i hi), invOf_of _ _ (permF_inj p hp) i hi]

set_option maxHeartbeats 800000 in
theorem follows_ok (a aq ar : Option Addr) (n cap capq capr : Nat) (p q : List Int) (w : World) (hp : Row .i64 w a p) (hq : Row .i64 w aq q) (hr : Row .i64 w ar (mvL q p)) (hn : p.length = n) (hm : q.length = n) (hl : n ≤ 16777216) (hqm : IsPerm q) :
    Calls Try.prog 40 #[.slice a n cap, .slice aq n capq, .slice ar n capr, .int .i64 0] w fun e w' => e = .returned (.bool true) ∧ Below w.heap.size w w' := by
  have HPR := Lib.hid hp
  have HQ := Lib.hid hq
  have HR := Lib.hid hr
  have HM := Lib.hid hqm
  have HN := Lib.hid hn
  have HQL := Lib.hid hm
  have HRL : Hid ((mvL q p).length = n) := (mvL_len q p).trans hn
  have h0 : ((n : Int) != (n : Int)) = false := bfalse rfl
  clear hp hq hr hqm hn hm
  go_enter Try.func40, Try.ntmps40
  go_wp2_with fail
  refine (refRight_yes aq n capq q _ HQ.out HQL.out hl HM.out).mono ?_; rintro e w' ⟨rfl, rfl⟩
  go_wp2_with fail
  go_loopw [9] (fun i wr => ∃ k : Nat, k ≤ n ∧ i = .int .i64 k ∧ Below w.heap.size w wr) (fun i _ => n - (intOf i).toNat)
  case atStart => exact ⟨0, Nat.zero_le _, rfl, Below.refl _ _⟩
  case round =>
    obtain ⟨k, hk, rfl, hb⟩ := hrel
    by_cases hlt : k < n
    · obtain ⟨b1, o1, rfl, hc1⟩ := (HPR.out.below hb).at (by have := HN.out; omega)
      obtain ⟨b2, o2, rfl, hc2⟩ := (HQ.out.below hb).at (by have := HQL.out; omega)
      obtain ⟨b3, o3, rfl, hc3⟩ := (HR.out.below hb).at (by have := HRL.out; omega)
      have h2 := hc2 k (by have := HQL.out; omega)
      have hpq := HM.out.1 k (by have := HQL.out; omega)
      obtain ⟨m, hm⟩ := Int.eq_ofNat_of_zero_le hpq.1
      have hmlt : m < n := by have := hpq.2; have := HQL.out; omega
      rw [hm] at h2
      have h1 := hc1 m (by have := HN.out; omega)
      have h3 := hc3 k (by have := HRL.out; omega)
      rw [nth_mvL _ _ _ (by have := HN.out; omega), hm, Int.toNat_natCast] at h3
      obtain ⟨z, hz⟩ : ∃ z, nth p m = z := ⟨_, rfl⟩
      rw [hz] at h1 h3
      have hbe : (z != z) = false := bfalse rfl
      have g1 : (0 : Int) ≤ (k : Int) := by omega
      have g2 : (k : Int) < (n : Int) := by omega
      have g3 : (0 : Int) ≤ (m : Int) := by omega
      have g4 : (m : Int) < (n : Int) := by omega
      clear hc1 hc2 hc3 hpq hm hz
      go_wp2_with fail
      go_quiet (fail)
      go_wp2_with fail
      go_roundw
      case rel => exact ⟨k + 1, by omega, by go_num, by first | exact below_drewN hb _ | exact hb.drew⟩
      case measure => simp [intOf]; omega
    · go_wp2_with fail
      go_ret
      exact ⟨rfl, hb⟩

set_option maxHeartbeats 800000 in
theorem applies_ok (a ax ar : Option Addr) (n cap capx capr : Nat) (p x : List Int) (w : World) (hp : Row .i64 w a p) (hx : Row .u64 w ax x) (hr : Row .u64 w ar (mvL p x)) (hn : p.length = n) (hm : x.length = n) (hl : n ≤ 16777216) (hpm : IsPerm p) :
    Calls Try.prog 41 #[.slice a n cap, .slice ax n capx, .slice ar n capr, .int .i64 0] w fun e w' => e = .returned (.bool true) ∧ Below w.heap.size w w' := by
  have HPR := Lib.hid hp
  have HX := Lib.hid hx
  have HR := Lib.hid hr
  have HM := Lib.hid hpm
  have HN := Lib.hid hn
  have HXL := Lib.hid hm
  have HRL : Hid ((mvL p x).length = n) := (mvL_len p x).trans hm
  have h0 : ((n : Int) != (n : Int)) = false := bfalse rfl
  clear hp hx hr hpm hn hm
  go_enter Try.func41, Try.ntmps41
  go_wp2_with fail
  go_loopw [9] (fun i wr => ∃ k : Nat, k ≤ n ∧ i = .int .i64 k ∧ Below w.heap.size w wr) (fun i _ => n - (intOf i).toNat)
  case atStart => exact ⟨0, Nat.zero_le _, rfl, Below.refl _ _⟩
  case round =>
    obtain ⟨k, hk, rfl, hb⟩ := hrel
    by_cases hlt : k < n
    · obtain ⟨b1, o1, rfl, hc1⟩ := (HPR.out.below hb).at (by have := HN.out; omega)
      obtain ⟨b2, o2, rfl, hc2⟩ := (HX.out.below hb).at (by have := HXL.out; omega)
      obtain ⟨b3, o3, rfl, hc3⟩ := (HR.out.below hb).at (by have := HRL.out; omega)
      have h1 := hc1 k (by have := HN.out; omega)
      have hpq := HM.out.1 k (by have := HN.out; omega)
      obtain ⟨m, hm⟩ := Int.eq_ofNat_of_zero_le hpq.1
      have hmlt : m < n := by have := hpq.2; have := HN.out; omega
      rw [hm] at h1
      have h2 := hc2 m (by have := HXL.out; omega)
      have h3 := hc3 k (by have := HRL.out; omega)
      rw [nth_mvL _ _ _ (by have := HXL.out; omega), hm, Int.toNat_natCast] at h3
      obtain ⟨z, hz⟩ : ∃ z, nth x m = z := ⟨_, rfl⟩
      rw [hz] at h2 h3
      have hbe : (z != z) = false := bfalse rfl
      have g1 : (0 : Int) ≤ (k : Int) := by omega
      have g2 : (k : Int) < (n : Int) := by omega
      have g3 : (0 : Int) ≤ (m : Int) := by omega
      have g4 : (m : Int) < (n : Int) := by omega
      clear hc1 hc2 hc3 hpq hm hz
      go_wp2_with fail
      go_quiet (fail)
      go_wp2_with fail
      go_roundw
      case rel => exact ⟨k + 1, by omega, by go_num, by first | exact below_drewN hb _ | exact hb.drew⟩
      case measure => simp [intOf]; omega
    · go_wp2_with fail
      go_ret
      exact ⟨rfl, hb⟩

/-- What After gives: a row and an error that its law's helper calls right, in each later world. -/
def AfterRes (P : Program) (fid : Nat) (u v : Value) (w : World) (e : Ending) (w' : World) : Prop :=
  ∃ a n cap er, e = .returned (.tuple #[.slice a n cap, .int .i64 er]) ∧ Below w.heap.size w w' ∧
    ∀ w2, Below w'.heap.size w' w2 → Calls P fid #[u, v, .slice a n cap, .int .i64 er] w2 fun e w3 => e = .returned (.bool true) ∧ Below w2.heap.size w2 w3

theorem after_res (a aq : Option Addr) (n m cap capq : Nat) (p q : List Int) (w : World) (hp : Row .i64 w a p) (hq : Row .i64 w aq q) (hn : p.length = n) (hm : q.length = m) (hl : n ≤ 16777216) (hl2 : m ≤ 16777216) (hpm : IsPerm p) (hcp : a = none → cap = 0) :
    Calls Try.prog 37 #[.slice a n cap, .slice aq m capq] w (AfterRes Try.prog 40 (.slice a n cap) (.slice aq m capq) w) := by
  by_cases hqm : IsPerm q
  · by_cases hnm : n = m
    · refine (permAfter_ok a aq n m cap capq p q w hp hq hn hm hnm hl hpm hqm hcp).mono ?_
      subst hnm
      rintro e w' ⟨a3, cap3, rfl, hr3, hcap3, hb3⟩
      rw [mvL_len, hn]
      exact ⟨a3, n, cap3, 0, rfl, hb3, fun w2 h2 => follows_ok a aq a3 n cap capq cap3 p q w2 (hp.below (chain hb3 h2)) (hq.below (chain hb3 h2)) (hr3.below h2) hn hm hl hqm⟩
    · refine (permAfter_len a aq n m cap capq p q w hp hq hn hm hl hl2 hpm hqm hnm).mono ?_
      rintro e w' ⟨rfl, hb3⟩
      exact ⟨none, 0, 0, 5, rfl, hb3, fun w2 h2 => (follows_len a aq n m cap capq q w2 (hq.below (chain hb3 h2)) hm hl2 hqm hnm).mono fun e w3 ⟨he, hw⟩ => ⟨he, hw ▸ Below.refl _ _⟩⟩
  · refine (permAfter_no2 a aq n m cap capq p q w hp hq hn hm hl hl2 hpm hqm).mono ?_
    rintro e w' ⟨rfl, hb3⟩
    exact ⟨none, 0, 0, 2, rfl, hb3, fun w2 h2 => (follows_no a aq n m cap capq q w2 (hq.below (chain hb3 h2)) hm hl2 hqm).mono fun e w3 ⟨he, hw⟩ => ⟨he, hw ▸ Below.refl _ _⟩⟩

theorem apply_res (a ax : Option Addr) (n m cap capx : Nat) (p x : List Int) (w : World) (hp : Row .i64 w a p) (hx : Row .u64 w ax x) (hn : p.length = n) (hm : x.length = m) (hl : n ≤ 16777216) (hpm : IsPerm p) (hcx : ax = none → capx = 0) :
    Calls Try.prog 38 #[.slice a n cap, .slice ax m capx] w (AfterRes Try.prog 41 (.slice a n cap) (.slice ax m capx) w) := by
  by_cases hnm : n = m
  · refine (permApply_ok a ax n m cap capx p x w hp hx hn hm hnm hl hpm hcx).mono ?_
    subst hnm
    rintro e w' ⟨a3, cap3, rfl, hr3, hcap3, hb3⟩
    rw [mvL_len, hm]
    exact ⟨a3, n, cap3, 0, rfl, hb3, fun w2 h2 => applies_ok a ax a3 n cap capx cap3 p x w2 (hp.below (chain hb3 h2)) (hx.below (chain hb3 h2)) (hr3.below h2) hn hm hl hpm⟩
  · refine (permApply_len a ax n m cap capx p w hp hn hl hpm hnm).mono ?_
    rintro e w' ⟨rfl, hb3⟩
    exact ⟨none, 0, 0, 5, rfl, hb3, fun w2 h2 => (applies_len a ax n m cap capx w2 hnm).mono fun e w3 ⟨he, hw⟩ => ⟨he, hw ▸ Below.refl _ _⟩⟩
end Go.Proofs.Ytpehbgcbifgokaa
