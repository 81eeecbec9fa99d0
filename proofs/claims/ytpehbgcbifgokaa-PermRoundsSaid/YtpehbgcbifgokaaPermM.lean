/- One behind the other; numbers moved. -/
import Derived.Test.YtpehbgcbifgokaaPermK
namespace Go.Proofs.Ytpehbgcbifgokaa
open Go.RowKit
set_option linter.unusedVariables false
set_option linter.unusedSimpArgs false

theorem permApply_ok (a ax : Option Addr) (n m cap capx : Nat) (p xs : List Int) (w : World) (hp : Row .i64 w a p) (hx : Row .u64 w ax xs) (hn : p.length = n) (hm : xs.length = m) (hnm : n = m) (hl : n ≤ 16777216) (hpm : IsPerm p) (hcx : ax = none → capx = 0) :
    Calls Try.prog 38 #[.slice a n cap, .slice ax m capx] w (GivesRowE .u64 (mvL p xs) 0 w) := by
  subst hnm
  have HP := Lib.hid hp
  have HX := Lib.hid hx
  have HM := Lib.hid hpm
  have HL := Lib.hid (mvL_len p xs)
  have h0 : ((n : Int) != (n : Int)) = false := bfalse rfl
  clear hp hx hpm
  go_enter Try.func38, Try.ntmps38
  go_wp2_with fail
  refine (permRight_yes a n cap p _ HP.out hn hl HM.out).mono ?_
  rintro e w1 ⟨rfl, hb1⟩
  go_wp2_with fail
  refine (moved_u64 a ax n n cap capx p xs _ (HP.out.below hb1) (HX.out.below hb1) hn hm rfl hl HM.out hcx).mono ?_
  rintro e w2 ⟨a2, cap2, rfl, hr2, hcap2, hb2⟩
  go_wp2_with fail
  go_ret2
  exact ⟨a2, cap2, rfl, hr2, hcap2, chain hb1 hb2⟩
theorem permAfter_ok (a aq : Option Addr) (n m cap capq : Nat) (p q : List Int) (w : World) (hp : Row .i64 w a p) (hq : Row .i64 w aq q) (hn : p.length = n) (hm : q.length = m) (hnm : n = m) (hl : n ≤ 16777216) (hpm : IsPerm p) (hqm : IsPerm q) (hcp : a = none → cap = 0) :
    Calls Try.prog 37 #[.slice a n cap, .slice aq m capq] w (GivesRowE .i64 (mvL q p) 0 w) := by
  subst hnm
  have HP := Lib.hid hp
  have HQ := Lib.hid hq
  have HM := Lib.hid hpm
  have HN := Lib.hid hqm
  have h0 : ((n : Int) != (n : Int)) = false := bfalse rfl
  clear hp hq hpm hqm
  go_enter Try.func37, Try.ntmps37
  go_wp2_with fail
  refine (permRight_yes a n cap p _ HP.out hn hl HM.out).mono ?_
  rintro e w1 ⟨rfl, hb1⟩
  go_wp2_with fail
  refine (permRight_yes aq n capq q _ (HQ.out.below hb1) hm hl HN.out).mono ?_
  rintro e w2 ⟨rfl, hb2⟩
  have hbl := chain hb1 hb2
  go_wp2_with fail
  refine (moved_int aq a n n capq cap q p _ (HQ.out.below hbl) (HP.out.below hbl) hm hn rfl hl HN.out hcp).mono ?_
  rintro e w3 ⟨a3, cap3, rfl, hr3, hcap3, hb3⟩
  go_wp2_with fail
  go_ret2
  exact ⟨a3, cap3, rfl, hr3, hcap3, chain hbl hb3⟩
theorem permApply_no (a ax : Option Addr) (n m cap capx : Nat) (p : List Int) (w : World) (hp : Row .i64 w a p) (hn : p.length = n) (hl : n ≤ 16777216) (hpm : ¬ IsPerm p) :
    Calls Try.prog 38 #[.slice a n cap, .slice ax m capx] w fun e w' => e = .returned (.tuple #[.slice none 0 0, .int .i64 2]) ∧ Below w.heap.size w w' := by
  have HP := Lib.hid hp
  have HM := Lib.hid hpm
  clear hp hpm
  go_enter Try.func38, Try.ntmps38
  go_wp2_with fail
  refine (permRight_no a n cap p _ HP.out hn hl HM.out).mono ?_
  rintro e w1 ⟨rfl, hb1⟩
  go_wp2_with fail
  go_ret2
  exact ⟨rfl, hb1⟩

theorem permApply_len (a ax : Option Addr) (n m cap capx : Nat) (p : List Int) (w : World) (hp : Row .i64 w a p) (hn : p.length = n) (hl : n ≤ 16777216) (hpm : IsPerm p) (hnm : n ≠ m) :
    Calls Try.prog 38 #[.slice a n cap, .slice ax m capx] w fun e w' => e = .returned (.tuple #[.slice none 0 0, .int .i64 5]) ∧ Below w.heap.size w w' := by
  have HP := Lib.hid hp
  have HM := Lib.hid hpm
  have h0 : ((n : Int) != (m : Int)) = true := bdiff (by omega)
  clear hp hpm
  go_enter Try.func38, Try.ntmps38
  go_wp2_with fail
  refine (permRight_yes a n cap p _ HP.out hn hl HM.out).mono ?_
  rintro e w1 ⟨rfl, hb1⟩
  go_wp2_with fail
  go_ret2
  exact ⟨rfl, hb1⟩
theorem permAfter_no1 (a aq : Option Addr) (n m cap capq : Nat) (p : List Int) (w : World) (hp : Row .i64 w a p) (hn : p.length = n) (hl : n ≤ 16777216) (hpm : ¬ IsPerm p) :
    Calls Try.prog 37 #[.slice a n cap, .slice aq m capq] w fun e w' => e = .returned (.tuple #[.slice none 0 0, .int .i64 2]) ∧ Below w.heap.size w w' := by
  have HP := Lib.hid hp
  have HM := Lib.hid hpm
  clear hp hpm
  go_enter Try.func37, Try.ntmps37
  go_wp2_with fail
  refine (permRight_no a n cap p _ HP.out hn hl HM.out).mono ?_
  rintro e w1 ⟨rfl, hb1⟩
  go_wp2_with fail
  go_ret2
  exact ⟨rfl, hb1⟩
theorem permAfter_no2 (a aq : Option Addr) (n m cap capq : Nat) (p q : List Int) (w : World) (hp : Row .i64 w a p) (hq : Row .i64 w aq q) (hn : p.length = n) (hm : q.length = m) (hl : n ≤ 16777216) (hl2 : m ≤ 16777216) (hpm : IsPerm p) (hqm : ¬ IsPerm q) :
    Calls Try.prog 37 #[.slice a n cap, .slice aq m capq] w fun e w' => e = .returned (.tuple #[.slice none 0 0, .int .i64 2]) ∧ Below w.heap.size w w' := by
  have HP := Lib.hid hp
  have HQ := Lib.hid hq
  have HM := Lib.hid hpm
  have HN := Lib.hid hqm
  clear hp hpm hq hqm
  go_enter Try.func37, Try.ntmps37
  go_wp2_with fail
  refine (permRight_yes a n cap p _ HP.out hn hl HM.out).mono ?_
  rintro e w1 ⟨rfl, hb1⟩
  go_wp2_with fail
  refine (permRight_no aq m capq q _ (HQ.out.below hb1) hm hl2 HN.out).mono ?_
  rintro e w2 ⟨rfl, hb2⟩
  go_wp2_with fail
  go_ret2
  exact ⟨rfl, chain hb1 hb2⟩

theorem permAfter_len (a aq : Option Addr) (n m cap capq : Nat) (p q : List Int) (w : World) (hp : Row .i64 w a p) (hq : Row .i64 w aq q) (hn : p.length = n) (hm : q.length = m) (hl : n ≤ 16777216) (hl2 : m ≤ 16777216) (hpm : IsPerm p) (hqm : IsPerm q) (hnm : n ≠ m) :
    Calls Try.prog 37 #[.slice a n cap, .slice aq m capq] w fun e w' => e = .returned (.tuple #[.slice none 0 0, .int .i64 5]) ∧ Below w.heap.size w w' := by
  have HP := Lib.hid hp
  have HQ := Lib.hid hq
  have HM := Lib.hid hpm
  have HN := Lib.hid hqm
  have h0 : ((n : Int) != (m : Int)) = true := bdiff (by omega)
  clear hp hpm hq hqm
  go_enter Try.func37, Try.ntmps37
  go_wp2_with fail
  refine (permRight_yes a n cap p _ HP.out hn hl HM.out).mono ?_
  rintro e w1 ⟨rfl, hb1⟩
  go_wp2_with fail
  refine (permRight_yes aq m capq q _ (HQ.out.below hb1) hm hl2 HN.out).mono ?_
  rintro e w2 ⟨rfl, hb2⟩
  go_wp2_with fail
  go_ret2
  exact ⟨rfl, chain hb1 hb2⟩
end Go.Proofs.Ytpehbgcbifgokaa
