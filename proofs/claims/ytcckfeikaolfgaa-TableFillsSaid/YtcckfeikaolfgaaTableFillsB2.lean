/- The contracts and plain laws that the statement TableFills needs, part 2 of 3: ConvB Roots RootW VecE DftA DftB VecF DftC DftL ConvL StockL SmallL ChirpL GenL RowZeros VecO RootP GenA RoundR StockB StockC StockD StockE StockF ChirpA SmallD ChirpC ChirpE CostL MapB NeedL. -/
import Derived.Test.YtcckfeikaolfgaaTableFillsB1
namespace Go.Proofs.Ytcckfeikaolfgaa
open Go.RowKit Go.Shelf Sm
set_option linter.unusedVariables false
set_option linter.unusedSimpArgs false
set_option maxRecDepth 100000
theorem OwnAt.heap {k : IntKind} {e : TypeId} {w wr : World} {g n : Nat} {f : Nat → Int} (h : OwnAt k e w wr g n f) :
    wr.heap[g]? = some (.cells ((List.range n).map fun j => Value.int k (f j)).toArray e (0, 0)) := by
  obtain ⟨hl, h1 | ⟨g', cap, cur, hv, hg, hc, hcap, hm, hs, ht⟩⟩ := h.own
  · cases h1.1
  · simp only [Value.slice.injEq, Option.some.injEq, Addr.mk.injEq] at hv
    obtain ⟨⟨rfl, _, _⟩, _, rfl⟩ := hv
    rw [hc, ← ht, List.take_of_length_le (by simp; omega)]
theorem OwnAt.made {k : IntKind} {e : TypeId} {w wx w1 : World} {g n : Nat} (hb : Below w.heap.size w wx) (h : w1.ownsRow w.heap.size e 1 (.slice (some ⟨g, 0, none⟩) n n) n (madeCells #[Value.int k 0] n).toList) (hg : wx.grownBy w1 none) :
    OwnAt k e w w1 g n (fun _ => 0) := by
  refine ⟨?_, hb.grown hg hb.size (by simp)⟩
  have e1 : (madeCells #[Value.int k 0] n).toList = (List.range n).map fun j => Value.int k 0 := by
    rw [toList_madeCells_one]
    apply List.ext_getElem (by simp)
    intro i h1 h2
    simp
  rw [e1] at h
  exact h
end Go.Proofs.Ytcckfeikaolfgaa

namespace Go.Proofs.Ytcckfeikaolfgaa
open Sm
theorem root_one (n q : Nat) (hq : q * n = Fld.pn - 1) : (7 ^ q) ^ n % Fld.pn = 1 := by
  rw [← Nat.pow_mul, hq]; exact Fld.fermat 7 (by decide)
theorem root_least (n q m : Nat) (hq : q * n = Fld.pn - 1) (h0 : 0 < m) (hm : m < n) : (7 ^ q) ^ m % Fld.pn ≠ 1 := by
  intro h
  rw [← Nat.pow_mul] at h
  have h1 := Fld.seven (q * m) h
  have hq0 : 0 < q := Nat.pos_of_ne_zero (fun e => by subst e; rw [Nat.zero_mul] at hq; exact absurd hq (by decide))
  have h2 : 0 < q * m := Nat.mul_pos hq0 h0
  have h3 := Nat.le_of_dvd h2 h1
  have h4 : q * m < q * n := Nat.mul_lt_mul_of_pos_left hm hq0
  omega
/-- The root of the size n; its inverse. -/
def rtExp (n : Nat) : Nat := 18446744069414584320 / n
def rt (n : Nat) : Int := pw 7 (rtExp n)
def bk (n : Nat) : Int := pw (rt n) 18446744069414584319
def dirRt (n : Nat) (d : Int) : Int := if d = 1 then bk n else rt n
def dirBk (n : Nat) (d : Int) : Int := if d = 1 then rt n else bk n
theorem rtExp_mul (n : Nat) (h : hasSz n = true) : rtExp n * n = Fld.pn - 1 := by
  obtain ⟨h1, _, h3⟩ := hasSz_iff.1 h
  have h4 : 18446744069414584320 % n = 0 := by
    have h5 : ((18446744069414584320 % n : Nat) : Int) = 0 := by rw [Int.natCast_emod]; exact h3
    omega
  exact Nat.div_mul_cancel (Nat.dvd_of_mod_eq_zero h4)
theorem pw_eqm (a : Int) (n : Nat) : Eqm (pw a n) (a ^ n) := by
  unfold pw; exact Eqm.mod _
theorem cast_pow_mod (a e p : Nat) (q : Int) (hq : (p : Int) = q) : ((a ^ e % p : Nat) : Int) = (a : Int) ^ e % q := by
  rw [Int.natCast_emod, Int.natCast_pow, hq]
theorem eqm_pow_one (q n : Nat) : Eqm (((7 : Int) ^ q) ^ n) 1 ↔ (7 ^ q) ^ n % Fld.pn = 1 := by
  have h : ((((7 ^ q) ^ n % Fld.pn : Nat)) : Int) = (((7 ^ q : Nat) : Int)) ^ n % 18446744069414584321 := cast_pow_mod _ _ Fld.pn _ rfl
  rw [Int.natCast_pow] at h
  unfold Eqm
  have h7 : ((7 : Nat) : Int) = 7 := rfl
  rw [h7] at h
  rw [← h, show (1 : Int) % 18446744069414584321 = 1 from rfl]
  omega
theorem rt_pow (n m : Nat) : Eqm (rt n ^ m) (((7 : Int) ^ rtExp n) ^ m) := (pw_eqm 7 _).pow m
theorem rt_range (n : Nat) : 0 ≤ rt n ∧ rt n < 18446744069414584321 := pw_range _ _
theorem bk_range (n : Nat) : 0 ≤ bk n ∧ bk n < 18446744069414584321 := pw_range _ _
theorem dirRt_range (n : Nat) (d : Int) : 0 ≤ dirRt n d ∧ dirRt n d < 18446744069414584321 := by
  unfold dirRt; split
  · exact bk_range n
  · exact rt_range n
theorem isRoot_rt (n : Nat) (h : hasSz n = true) : IsRoot (rt n) (bk n) n := by
  have hm := rtExp_mul n h
  have hn := (hasSz_iff.1 h).1
  have h1 : Eqm (rt n ^ n) 1 := (rt_pow n n).trans ((eqm_pow_one _ _).2 (root_one n _ hm))
  refine ⟨by omega, h1, fun m h0 hlt e => root_least n _ m hm h0 hlt ((eqm_pow_one _ _).1 ((rt_pow n m).symm.trans e)), ?_⟩
  have hz : rt n % 18446744069414584321 ≠ 0 := by
    intro e
    have e0 : Eqm (rt n) 0 := by unfold Eqm; rw [e]; rfl
    obtain ⟨k, hk⟩ : ∃ k, n = k + 1 := ⟨n - 1, by omega⟩
    have h2 := (rfl' (rt n ^ k)).mul e0
    rw [← Int.pow_succ, Nat.succ_eq_add_one, ← hk, Int.mul_zero] at h2
    have h3 := h1.symm.trans h2
    exact absurd h3 (by unfold Eqm; decide)
  have := pw_inv (rt n) (rt_range n).1 hz
  unfold Eqm bk
  rw [this]; rfl
theorem isRoot_dir (n : Nat) (d : Int) (h : hasSz n = true) : IsRoot (dirRt n d) (dirBk n d) n := by
  unfold dirRt dirBk
  split
  · exact (isRoot_rt n h).back
  · exact isRoot_rt n h
/-- The last power of a root is its inverse. -/
theorem bk_last (n : Nat) (h : hasSz n = true) : bk n = pw (rt n) (n - 1) := by
  have hr := isRoot_rt n h
  have hn := (hasSz_iff.1 h).1
  obtain ⟨k, hk⟩ : ∃ k, n = k + 1 := ⟨n - 1, by omega⟩
  have h1 : Eqm (bk n) (rt n ^ k) := by
    have h2 := (rfl' (rt n ^ k)).mul hr.inv
    rw [← Int.mul_assoc, ← Int.pow_succ, Nat.succ_eq_add_one, ← hk, Int.mul_one] at h2
    have h3 := hr.one.mul (rfl' (bk n))
    rw [Int.one_mul] at h3
    exact h3.symm.trans h2
  have h4 := h1.trans (pw_eqm (rt n) k).symm
  have b1 := bk_range n
  have b2 := pw_range (rt n) k
  unfold Eqm at h4
  rw [Int.emod_eq_of_lt b1.1 b1.2, Int.emod_eq_of_lt b2.1 b2.2] at h4
  rw [show n - 1 = k by omega]; exact h4
end Go.Proofs.Ytcckfeikaolfgaa

namespace Go.Proofs.Ytcckfeikaolfgaa
open Go.RowKit
set_option linter.unusedVariables false
set_option linter.unusedSimpArgs false
set_option maxRecDepth 100000
theorem quo_bd (n : Int) (h : 1 ≤ n) : 0 ≤ 18446744069414584320 / n ∧ 18446744069414584320 / n ≤ 18446744069414584320 :=
  ⟨Int.ediv_nonneg (by omega) (by omega), Int.ediv_le_self _ (by omega)⟩
theorem toNat_quo (n : Nat) : (18446744069414584320 / (n : Int)).toNat = rtExp n := by
  unfold rtExp
  have h : (18446744069414584320 / (n : Int)) = ((18446744069414584320 / n : Nat) : Int) := by rw [Int.natCast_ediv]; rfl
  rw [h, Int.toNat_natCast]
set_option maxHeartbeats 400000 in
theorem rootRoot_yes (n : Nat) (w : World) (h : hasSz n = true) :
    Calls Try.prog 92 #[.int .i64 n] w fun e w' => e = .returned (.tuple #[.int .u64 (rt n), .int .i64 0]) ∧ w = w' := by
  obtain ⟨h1, h2, h3⟩ := hasSz_iff.1 h
  have hq := quo_bd (n : Int) h1
  have h0 : ((n : Int) == 0) = false := bno (by omega)
  have ht := Lib.hid (toNat_quo n)
  have H := Lib.hid h
  clear h h3
  go_enter Try.func92, Try.ntmps92
  go_wp2_with fail
  refine (rootHas_yes _ _ H.out).mono ?_; rintro e w' ⟨rfl, rfl⟩
  go_wp2_with (go_at_call 109; refine (gold_Pow _ _ _ (by omega) (by omega) (by omega) (by omega)).mono ?_; rintro e w' ⟨rfl, rfl⟩)
  go_ret2
  exact ⟨by rw [ht.out]; rfl, rfl⟩
theorem rootBack_yes (n : Nat) (w : World) (h : hasSz n = true) :
    Calls Try.prog 93 #[.int .i64 n] w fun e w' => e = .returned (.tuple #[.int .u64 (bk n), .int .i64 0]) ∧ w = w' := by
  have H := Lib.hid h
  have hr := rt_range n
  clear h
  go_enter Try.func93, Try.ntmps93
  go_wp2_with fail
  refine (rootRoot_yes _ _ H.out).mono ?_; rintro e w' ⟨rfl, rfl⟩
  go_wp2_with (go_at_call 110; refine (gold_Inv _ _ (by omega) (by omega)).mono ?_; rintro e w' ⟨rfl, rfl⟩)
  go_ret2
  exact ⟨rfl, rfl⟩
set_option maxHeartbeats 400000 in
theorem refRoot (n : Nat) (w : World) (h1 : 1 ≤ n) (h2 : n ≤ 16777216) :
    Calls Try.prog 78 #[.int .i64 n] w fun e w' => e = .returned (.int .u64 (rt n)) ∧ w = w' := by
  have hq := quo_bd (n : Int) (by omega)
  have h0 : ((n : Int) == 0) = false := bno (by omega)
  have ht := Lib.hid (toNat_quo n)
  go_enter Try.func78, Try.ntmps78
  go_wp2_with (go_at_call 46; refine (ref_Pow _ _ _ (by omega) (by omega) (by omega) (by omega)).mono ?_; rintro e w' ⟨rfl, rfl⟩)
  go_ret
  exact ⟨by rw [ht.out]; rfl, rfl⟩
set_option maxHeartbeats 400000 in
theorem refBack (n : Nat) (w : World) (h1 : 1 ≤ n) (h2 : n ≤ 16777216) :
    Calls Try.prog 77 #[.int .i64 n] w fun e w' => e = .returned (.int .u64 (pw (rt n) (n - 1))) ∧ w = w' := by
  have hr := rt_range n
  have ht : Hid (((n : Int) - 1).toNat = n - 1) := by unfold Hid; omega
  go_enter Try.func77, Try.ntmps77
  go_wp2_with fail
  refine (refRoot n _ h1 h2).mono ?_; rintro e w' ⟨rfl, rfl⟩
  go_wp2_with (go_at_call 46; refine (ref_Pow _ _ _ (by omega) (by omega) (by omega) (by omega)).mono ?_; rintro e w' ⟨rfl, rfl⟩)
  go_ret
  exact ⟨by first | rfl | rw [ht.out], rfl⟩
theorem refDir (n : Nat) (d : Int) (w : World) (h : hasSz n = true) (hd : -9223372036854775808 ≤ d ∧ d < 9223372036854775808) :
    Calls Try.prog 44 #[.int .i64 n, .int .i64 d] w fun e w' => e = .returned (.int .u64 (dirRt n d)) ∧ w = w' := by
  obtain ⟨h1, h2, h3⟩ := hasSz_iff.1 h
  have hb := Lib.hid (bk_last n h)
  clear h h3
  by_cases hd1 : d = 1
  · subst hd1
    go_enter Try.func44, Try.ntmps44
    go_wp2_with fail
    refine (refBack n _ (by omega) (by omega)).mono ?_; rintro e w' ⟨rfl, rfl⟩
    go_wp2_with fail
    go_ret
    exact ⟨by rw [← hb.out]; rfl, rfl⟩
  · have hdb : (d == 1) = false := bno hd1
    have H1 := Lib.hid hd1
    clear hd1
    go_enter Try.func44, Try.ntmps44
    go_wp2_with fail
    refine (refRoot n _ (by omega) (by omega)).mono ?_; rintro e w' ⟨rfl, rfl⟩
    go_wp2_with fail
    go_ret
    exact ⟨ret_int (by unfold dirRt; rw [if_neg H1.out]), rfl⟩
def powL (a : Int) (n : Nat) : List Int := (List.range n).map fun i => pw a i
theorem powL_len (a : Int) (n : Nat) : (powL a n).length = n := by simp [powL]
theorem powL_fits (a : Int) (n : Nat) : ∀ x ∈ powL a n, fits .u64 x := by
  intro x hx; obtain ⟨i, _, rfl⟩ := List.mem_map.1 hx
  have := pw_range a i
  exact fits_u64.2 (by omega)
theorem pw_succ (a : Int) (i : Nat) : pw a i * a % 18446744069414584321 = pw a (i + 1) := by
  unfold pw; rw [modmul_l, ← Int.pow_succ]
theorem pw_0 (a : Int) : pw a 0 = 1 := by unfold pw; simp
set_option maxHeartbeats 400000 in
theorem refPowers (a : Int) (n : Nat) (w : World) (h0 : 0 ≤ a) (h1 : a < 18446744069414584321) (hn : n ≤ 16777216) :
    Calls Try.prog 45 #[.int .u64 a, .int .i64 n] w (GivesRow .u64 (powL a n) w) := by
  obtain ⟨i0, hi, hz0, hz1, hz2⟩ := info_parts info_u64
  go_enter Try.func45, Try.ntmps45
  go_wp2_with fail
  go_loopw [5, 6, 7] (fun v p i wr => ∃ (k : Nat) (t : Int), k ≤ n ∧ i = .int .i64 k ∧ p = .int .u64 t ∧ 0 ≤ t ∧ t < 18446744069414584321 ∧ Hid (t = pw a k) ∧ Own .u64 34 w wr v k (fun j => pw a j)) (fun _ _ i _ => n - (intOf i).toNat)
  case atStart => exact ⟨0, 1, Nat.zero_le _, rfl, rfl, by omega, by omega, (pw_0 a).symm, Own.nil _ _ _ _⟩
  case round =>
    obtain ⟨k, t, hk, rfl, rfl, ht0, ht1, H, hown⟩ := hrel
    by_cases hlt : k < n
    · go_wp2_with (first | (go_at_call 79; refine (ref_Mul _ _ _ (by omega) (by omega) (by omega) (by omega)).mono ?_; rintro e w' ⟨rfl, rfl⟩) | (at_builtin; refine wpList_append_own _ rfl _ _ 25 rfl w.heap.size 34 i0 (.int .u64 0) 1 8 Try.underlying25 hi hz0 hz1 hz2 rfl (by decide) _ _ _ rfl (hown.own.alloc _) ⟨wr.heap.size, 0, none⟩ 1 1 [.int .u64 t] rfl rfl (cell_one_new _ _ _) (one_cell _ _) (by unfold maxLen; omega) (by omega) (size_alloc_le hown.below _) ?_))
      intro v' w1 hown' hgrow _
      have hnext := hown.push _ H.out hown' hgrow
      clear hown' hgrow
      go_wp2_with (go_at_call 79; refine (ref_Mul _ _ _ (by omega) (by omega) (by omega) (by omega)).mono ?_; rintro e w' ⟨rfl, rfl⟩)
      go_roundw
      case rel => exact ⟨k + 1, _, by omega, by go_num, rfl, by omega, by omega, by have := H.out; unfold Hid; rw [this, pw_succ], hnext⟩
      case measure => simp [intOf]; omega
    · have hres := hown.gives (xs := powL a n) (by rw [powL_len]; omega) (powL_fits a n) (fun i hi => nth_ofFn _ _ _ (by omega)) (by omega)
      clear hown
      go_wp2_with fail
      go_ret
      exact hres
end Go.Proofs.Ytcckfeikaolfgaa

namespace Go.Proofs.Ytcckfeikaolfgaa
open Go.RowKit
set_option linter.unusedVariables false
set_option linter.unusedSimpArgs false
set_option maxRecDepth 100000
def scaleL (xs : List Int) (c : Int) : List Int := (List.range xs.length).map fun i => nth xs i * c % 18446744069414584321
end Go.Proofs.Ytcckfeikaolfgaa

namespace Go.Proofs.Ytcckfeikaolfgaa
open Go.RowKit Sm
set_option linter.unusedVariables false
set_option linter.unusedSimpArgs false
set_option maxRecDepth 100000
/-- The sum of a row times the powers of a number. -/
def pt (xs : List Int) (st : Int) : Int := S xs.length (fun i => nth xs i * st ^ i) % 18446744069414584321
theorem pt_range (xs : List Int) (st : Int) : 0 ≤ pt xs st ∧ pt xs st < 18446744069414584321 := by unfold pt; omega
end Go.Proofs.Ytcckfeikaolfgaa

namespace Go.Proofs.Ytcckfeikaolfgaa
open Go.RowKit Sm
set_option linter.unusedVariables false
set_option linter.unusedSimpArgs false
set_option maxRecDepth 100000
def dftL (xs : List Int) (z : Int) : List Int := (List.range xs.length).map fun k => pt xs (pw z k)
theorem dftL_len (xs : List Int) (z : Int) : (dftL xs z).length = xs.length := by simp [dftL]
theorem dftL_fits (xs : List Int) (z : Int) : ∀ x ∈ dftL xs z, fits .u64 x := by
  intro x hx; obtain ⟨i, _, rfl⟩ := List.mem_map.1 hx
  have := pt_range xs (pw z i)
  exact fits_u64.2 (by omega)
end Go.Proofs.Ytcckfeikaolfgaa

namespace Go.Proofs.Ytcckfeikaolfgaa
open Go.RowKit
set_option linter.unusedVariables false
set_option linter.unusedSimpArgs false
set_option maxRecDepth 100000
theorem scaleL_len (xs : List Int) (c : Int) : (scaleL xs c).length = xs.length := by simp [scaleL]
end Go.Proofs.Ytcckfeikaolfgaa

namespace Go.Proofs.Ytcckfeikaolfgaa
open Go.RowKit Sm
set_option linter.unusedVariables false
set_option linter.unusedSimpArgs false
set_option maxRecDepth 100000
theorem GivesRow.step {k : IntKind} {xs : List Int} {w w1 w2 : World} {e : Ending} (h : GivesRow k xs w1 e w2) (hb : Below w.heap.size w w1) : GivesRow k xs w e w2 := by
  obtain ⟨a, cap, he, hr, hc, hb2⟩ := h
  exact ⟨a, cap, he, hr, hc, chain hb hb2⟩
/-- A place of the row of powers. -/
def jk (j k n : Nat) : Nat := j * k % n
theorem jk_int (j k n : Nat) : ((j : Int) * (k : Int)).tmod (n : Int) = (jk j k n : Nat) := by
  unfold jk
  rw [Int.tmod_eq_emod_of_nonneg (by rw [← Int.natCast_mul]; omega), ← Int.natCast_mul, ← Int.natCast_emod]
theorem jk_lt (j k n : Nat) (h : 0 < n) : jk j k n < n := Nat.mod_lt _ h
theorem jk_bd (j k n : Nat) (hj : j < n) (hk : k < n) (hn : n ≤ 4096) : 0 ≤ (j : Int) * (k : Int) ∧ (j : Int) * (k : Int) ≤ 16777216 := by
  have : j * k ≤ 4096 * 4096 := Nat.mul_le_mul (by omega) (by omega)
  rw [← Int.natCast_mul]; omega
theorem inner_step (xs : List Int) (z : Int) (n : Nat) (k j : Nat) (t : Int) (hr : Eqm (pw z (jk j k n)) (z ^ (j * k))) (ht : t = S j (fun i => nth xs i * (pw z k) ^ i) % 18446744069414584321) :
    (t + (nth xs j % 18446744069414584321) * pw z (jk j k n) % 18446744069414584321) % 18446744069414584321 = S (j + 1) (fun i => nth xs i * (pw z k) ^ i) % 18446744069414584321 := by
  have e1 : S (j + 1) (fun i => nth xs i * (pw z k) ^ i) = S j (fun i => nth xs i * (pw z k) ^ i) + nth xs j * (pw z k) ^ j := rfl
  rw [e1, ht, modmul_l]
  have h1 : Eqm (nth xs j * pw z (jk j k n)) (nth xs j * (pw z k) ^ j) := by
    refine (rfl' _).mul (hr.trans ?_)
    rw [Nat.mul_comm, Int.pow_mul]
    exact ((pw_eqm z k).pow j).symm
  unfold Eqm at h1
  rw [Int.add_emod, Int.emod_emod, h1]
  omega
set_option maxHeartbeats 1600000 in
theorem refDft (a : Option Addr) (n cap : Nat) (xs : List Int) (d : Int) (w : World) (hx : Row .u64 w a xs) (hn : xs.length = n) (hs : hasSz n = true) (hl : n ≤ 4096) (hd : d = 0 ∨ d = 1) :
    Calls Try.prog 49 #[.slice a n cap, .int .i64 d] w (GivesRow .u64 (dftL xs (dirRt n d)) w) := by
  obtain ⟨i0, hi, hz0, hz1, hz2⟩ := info_parts info_u64
  have hn1 : 1 ≤ (n : Int) := (hasSz_iff.1 hs).1
  have hz := dirRt_range n d
  have hroot := isRoot_dir n d hs
  have hdb : 0 ≤ d ∧ d ≤ 1 := by omega
  have HX := Lib.hid hx
  have HN := Lib.hid hn
  have HS := Lib.hid hs
  have hnn : xs.length ≤ 4096 := by omega
  have hn0 : ((n : Int) == 0) = false := bno (by omega)
  clear hx hn hs hd
  go_enter Try.func49, Try.ntmps49
  go_wp2_with fail
  refine (refDir n d _ HS.out (by omega)).mono ?_; rintro e w' ⟨rfl, rfl⟩
  obtain ⟨z, hzz⟩ : ∃ z, dirRt n d = z := ⟨_, rfl⟩
  rw [hzz] at hz hroot ⊢
  have HZ := Lib.hid hzz
  have HR := Lib.hid hroot
  clear hzz hroot
  go_wp2_with fail
  refine (refPowers z n _ hz.1 hz.2 (by omega)).mono ?_
  rintro e w1 ⟨a1, cap1, rfl, hr1, hcap1, hb1⟩
  have hlp := powL_len z n
  have HB1 := Lib.hid hb1
  go_wp2_with fail
  go_loopw [7, 8] (fun v i wr => ∃ k : Nat, k ≤ n ∧ i = .int .i64 k ∧ Own .u64 34 w1 wr v k (fun j => pt xs (pw z j))) (fun _ i _ => n - (intOf i).toNat)
  case atStart => exact ⟨0, Nat.zero_le _, rfl, Own.nil _ _ _ _⟩
  case round =>
    obtain ⟨k, hk, rfl, hown⟩ := hrel
    by_cases hlt : k < n
    · obtain ⟨wo, hwo⟩ : ∃ wo : World, wo = wr := ⟨_, rfl⟩
      subst hwo
      go_wp2_with fail
      go_loopw [9, 10] (fun s i wr => ∃ (j : Nat) (t : Int), j ≤ n ∧ i = .int .i64 j ∧ s = .int .u64 t ∧ 0 ≤ t ∧ t < 18446744069414584321 ∧ Hid (t = S j (fun i => nth xs i * (pw z k) ^ i) % 18446744069414584321) ∧ Below wo.heap.size wo wr) (fun _ i _ => n - (intOf i).toNat)
      case atStart => exact ⟨0, 0, Nat.zero_le _, rfl, rfl, by omega, by omega, rfl, Below.refl _ _⟩
      case round =>
        obtain ⟨j, t, hj, rfl, rfl, ht0, ht1, H, hb⟩ := hrel
        by_cases hjn : j < n
        · have hB := chain hown.below hb
          have hjx : j < xs.length := by have := HN.out; omega
          have hq := jk_lt j k n (by omega)
          have hqi := jk_int j k n
          have hqb := jk_bd j k n hjn hlt hl
          have hqe : Eqm (pw z (jk j k n)) (z ^ (j * k)) := (pw_eqm z _).trans (HR.out.pow_mod (j * k))
          have HQ := Lib.hid (inner_step xs z n k j t hqe H.out)
          clear hqe
          generalize jk j k n = q at *
          obtain ⟨b, off, rfl, hc⟩ := (HX.out.below (chain HB1.out hB)).at (by omega)
          obtain ⟨b2, off2, rfl, hc2⟩ := (hr1.below hB).at (by omega)
          have hck := hc j hjx
          have hck2 := hc2 q (by omega)
          have hpq : nth (powL z n) q = pw z q := nth_ofFn _ _ _ hq
          rw [hpq] at hck2
          have hpr := pw_range z q
          have hf := fits_u64.1 (HX.out.wf _ (nth_mem hjx))
          have e1 : IntKind.i64.wrap ((j : Int) * (k : Int)) = (j : Int) * (k : Int) := IntWalk.i64_in _ (by omega)
          have q1 : (0 : Int) ≤ (q : Int) := by omega
          have q2 : (q : Int) < (n : Int) := by omega
          have q3 : (0 : Int) ≤ (j : Int) := by omega
          have q4 : (j : Int) < (n : Int) := by omega
          clear hc hc2 hpq hqb
          go_wp2_with fail
          go_quiet ((first | (go_at_call 82; exact Calls.quiet_of_same ((ref_Red _ _ (by omega) (by omega)).mono fun e w' ⟨x, y⟩ => ⟨x, y.symm⟩)) | (go_at_call 79; exact Calls.quiet_of_same ((ref_Mul _ _ _ (by omega) (by omega) (by omega) (by omega)).mono fun e w' ⟨x, y⟩ => ⟨x, y.symm⟩)) | (go_at_call 81; exact Calls.quiet_of_same ((ref_Add _ _ _ (by omega) (by omega) (by omega) (by omega)).mono fun e w' ⟨x, y⟩ => ⟨x, y.symm⟩))))
          go_wp2_with fail
          go_roundw
          case rel => exact ⟨j + 1, _, by omega, by go_num, rfl, by omega, by omega, by unfold Hid; first | exact HQ.out | (have := HQ.out; rw [← this]; omega), below_drewN hb _⟩
          case measure => simp [intOf]; omega
        · obtain rfl : j = n := by omega
          have hown := hown.later hb
          have ht : Hid (t = pt xs (pw z k)) := by unfold Hid; rw [H.out]; unfold pt; rw [HN.out]
          go_wp2_with (at_builtin; refine wpList_append_own _ rfl _ _ 25 rfl w1.heap.size 34 i0 (.int .u64 0) 1 8 Try.underlying25 hi hz0 hz1 hz2 rfl (by decide) _ _ _ rfl (hown.own.alloc _) ⟨wr.heap.size, 0, none⟩ 1 1 [.int .u64 t] rfl rfl (cell_one_new _ _ _) (one_cell _ _) (by unfold maxLen; omega) (by omega) (size_alloc_le hown.below _) ?_)
          intro v' w2 hown' hgrow _
          have hnext := hown.push _ ht.out hown' hgrow
          clear hown' hgrow
          go_wp2_with fail
          go_roundw
          case rel => exact ⟨k + 1, by omega, by go_num, hnext⟩
          case measure => simp [intOf]; omega
    · have hk' : k = n := by omega
      have hlen := dftL_len xs z
      have hres := hown.gives (xs := dftL xs z) (by have := HN.out; omega) (dftL_fits xs z) (fun i hi => by unfold dftL; rw [nth_ofFn _ _ _ (by have := HN.out; omega)]) (by omega)
      have hfin := hres.step HB1.out
      clear hown hres
      go_wp2_with fail
      go_ret
      rw [HZ.out]
      exact hfin
end Go.Proofs.Ytcckfeikaolfgaa

namespace Go.Proofs.Ytcckfeikaolfgaa
open Sm
set_option linter.unusedVariables false
set_option linter.unusedSimpArgs false
set_option maxRecDepth 100000
theorem eq_of_eqm {a b : Int} (h : Eqm a b) (a0 : 0 ≤ a) (a1 : a < 18446744069414584321) (b0 : 0 ≤ b) (b1 : b < 18446744069414584321) : a = b := by
  unfold Eqm at h
  rwa [Int.emod_eq_of_lt a0 a1, Int.emod_eq_of_lt b0 b1] at h
theorem pt_T (xs : List Int) (z : Int) (k : Nat) : Eqm (pt xs (pw z k)) (T xs.length z (nth xs) k) := by
  unfold pt T
  refine (Eqm.mod _).trans (S_eqm fun i _ => (rfl' _).mul ?_)
  rw [Nat.mul_comm, Int.pow_mul]
  exact (pw_eqm z k).pow i
theorem nth_dftL (xs : List Int) (z : Int) (k : Nat) (h : k < xs.length) : nth (dftL xs z) k = pt xs (pw z k) := nth_ofFn _ _ _ h
theorem dftL_T (xs : List Int) (z : Int) (k : Nat) (h : k < xs.length) : Eqm (nth (dftL xs z) k) (T xs.length z (nth xs) k) := by
  rw [nth_dftL xs z k h]; exact pt_T xs z k
theorem nth_scaleL (xs : List Int) (c : Int) (k : Nat) (h : k < xs.length) : nth (scaleL xs c) k = nth xs k * c % 18446744069414584321 := nth_ofFn _ _ _ h
theorem dft_twice (xs : List Int) (d : Int) (hs : hasSz xs.length = true) : dftL (dftL xs (dirRt xs.length d)) (dirRt xs.length d) = scaleL (revL xs) xs.length := by
  have hr := isRoot_dir xs.length d hs
  apply ext_nth (by rw [dftL_len, dftL_len, scaleL_len, revL_len])
  intro k hk
  have hk' : k < xs.length := by rwa [dftL_len, dftL_len] at hk
  have hku : k < (dftL xs (dirRt xs.length d)).length := by rwa [dftL_len]
  have e1 := dftL_T (dftL xs (dirRt xs.length d)) (dirRt xs.length d) k hku
  rw [dftL_len] at e1
  have e2 := (T_eqm (rfl' (dirRt xs.length d)) (fun i hi => dftL_T xs (dirRt xs.length d) i hi) k).trans (T_twice hr (nth xs) k hk')
  rw [nth_scaleL _ _ _ (by rw [revL_len]; exact hk')]
  have e3 : nth (revL xs) k = nth xs (revAt xs.length k) % 18446744069414584321 := nth_ofFn _ _ _ hk'
  rw [e3]
  refine eq_of_eqm ((e1.trans e2).trans ?_) ?_ ?_ (by omega) (by omega)
  · rw [Int.mul_comm]
    exact (((Eqm.mod _).symm).mul (rfl' _)).trans (Eqm.mod _).symm
  · rw [nth_dftL _ _ _ hku]; exact (pt_range _ _).1
  · rw [nth_dftL _ _ _ hku]; exact (pt_range _ _).2
end Go.Proofs.Ytcckfeikaolfgaa

namespace Go.Proofs.Ytcckfeikaolfgaa
open Sm
set_option linter.unusedVariables false
set_option linter.unusedSimpArgs false
set_option maxRecDepth 100000
theorem nth_out (xs : List Int) (i : Nat) (h : xs.length ≤ i) : nth xs i = 0 := by simp [nth, h]
end Go.Proofs.Ytcckfeikaolfgaa

namespace Go.Proofs.Ytcckfeikaolfgaa
open Sm
set_option linter.unusedVariables false
set_option linter.unusedSimpArgs false
set_option maxRecDepth 100000
def passAt (xs ws : List Int) (s k : Nat) : Int :=
  if k / s % 2 = 0 then (nth xs (k % s + s * (k / s / 2)) + nth xs (k % s + s * (k / s / 2) + xs.length / 2)) % 18446744069414584321
  else (nth xs (k % s + s * (k / s / 2)) - nth xs (k % s + s * (k / s / 2) + xs.length / 2)) * nth ws (k / s / 2 * s) % 18446744069414584321
def passL (xs ws : List Int) (s : Nat) : List Int := (List.range xs.length).map (passAt xs ws s)
def withTo (xs ws : List Int) : Nat → List Int
  | 0 => xs.map (· % 18446744069414584321)
  | j + 1 => passL (withTo xs ws j) ws (2 ^ j)
theorem passL_len (xs ws : List Int) (s : Nat) : (passL xs ws s).length = xs.length := by simp [passL]
theorem nth_passL (xs ws : List Int) (s k : Nat) (h : k < xs.length) : nth (passL xs ws s) k = passAt xs ws s k := nth_ofFn _ _ _ h
theorem passAt_range (xs ws : List Int) (s k : Nat) : 0 ≤ passAt xs ws s k ∧ passAt xs ws s k < 18446744069414584321 := by unfold passAt; split <;> omega
theorem passL_fits (xs ws : List Int) (s : Nat) : ∀ x ∈ passL xs ws s, fits .u64 x := by
  intro x hx
  obtain ⟨k, _, rfl⟩ := List.mem_map.1 hx
  have := passAt_range xs ws s k
  exact fits_u64.2 (by omega)
theorem withTo_len (xs ws : List Int) (j : Nat) : (withTo xs ws j).length = xs.length := by
  induction j with
  | zero => simp [withTo]
  | succ j ih => simp only [withTo]; rw [passL_len, ih]
theorem withTo_range (xs ws : List Int) (j k : Nat) (hk : k < xs.length) : 0 ≤ nth (withTo xs ws j) k ∧ nth (withTo xs ws j) k < 18446744069414584321 := by
  cases j with
  | zero => simp only [withTo]; rw [nth_map _ _ _ hk]; omega
  | succ j => simp only [withTo]; rw [nth_passL _ _ _ _ (by rw [withTo_len]; exact hk)]; exact passAt_range _ _ _ _
theorem S_double (n : Nat) (f : Nat → Int) : S (2 * n) f = S n (fun i => f (2 * i)) + S n (fun i => f (2 * i + 1)) := by
  induction n with
  | zero => rfl
  | succ n ih =>
    rw [show 2 * (n + 1) = 2 * n + 1 + 1 by omega]
    simp only [S, ih]
    omega
theorem fft_step (w : Int) (s h : Nat) (hs : 0 < s) (hm1 : Eqm (w ^ (s * h)) (-1)) (X Y Z : Nat → Int)
    (hY : ∀ q t, q < s → t < 2 * h → Eqm (Y (q + s * t)) (S s (fun i => X (t + i * (2 * h)) * w ^ (q * (t + i * (2 * h))))))
    (hZ0 : ∀ q p, q < s → p < h → Eqm (Z (q + 2 * s * p)) (Y (q + s * p) + Y (q + s * (p + h))))
    (hZ1 : ∀ q p, q < s → p < h → Eqm (Z (q + s + 2 * s * p)) ((Y (q + s * p) - Y (q + s * (p + h))) * w ^ (p * s))) :
    ∀ Q p, Q < 2 * s → p < h → Eqm (Z (Q + 2 * s * p)) (S (2 * s) (fun i => X (p + i * h) * w ^ (Q * (p + i * h)))) := by
  intro Q p hQ hp
  have e0 : ∀ i, 2 * i * h = i * (2 * h) := fun i => by rw [Nat.mul_comm 2 i, Nat.mul_assoc]
  have e1 : ∀ i, (2 * i + 1) * h = i * (2 * h) + h := fun i => by rw [Nat.add_mul, e0, Nat.one_mul]
  by_cases hlt : Q < s
  · refine (hZ0 Q p hlt hp).trans ?_
    rw [S_double]
    refine ((hY Q p hlt (by omega)).add (hY Q (p + h) hlt (by omega))).trans ?_
    have a1 : S s (fun i => X (p + h + i * (2 * h)) * w ^ (Q * (p + h + i * (2 * h)))) = S s (fun i => X (p + (2 * i + 1) * h) * w ^ (Q * (p + (2 * i + 1) * h))) := S_congr fun i _ => by
      rw [e1, show p + h + i * (2 * h) = p + (i * (2 * h) + h) by omega]
    have a0 : S s (fun i => X (p + i * (2 * h)) * w ^ (Q * (p + i * (2 * h)))) = S s (fun i => X (p + 2 * i * h) * w ^ (Q * (p + 2 * i * h))) := S_congr fun i _ => by rw [e0]
    rw [a0, a1]; exact rfl' _
  · obtain ⟨q, rfl⟩ : ∃ q, Q = q + s := ⟨Q - s, by omega⟩
    refine (hZ1 q p (by omega) hp).trans ?_
    rw [S_double]
    refine (((hY q p (by omega) (by omega)).sub (hY q (p + h) (by omega) (by omega))).mul (rfl' _)).trans ?_
    rw [Int.sub_mul, ← S_mul_r, ← S_mul_r]
    have hpow : ∀ i, Eqm ((w ^ (s * h)) ^ (2 * i)) 1 := fun i => by
      rw [Int.pow_mul]
      have h1 := (hm1.pow 2).pow i
      rw [show ((-1 : Int)) ^ 2 = 1 from rfl, Int.one_pow] at h1
      exact h1
    have t0 : ∀ i, Eqm (w ^ (q * (p + i * (2 * h))) * w ^ (p * s)) (w ^ ((q + s) * (p + 2 * i * h))) := fun i => by
      have h2 : w ^ ((q + s) * (p + 2 * i * h)) = (w ^ (q * (p + i * (2 * h))) * w ^ (p * s)) * (w ^ (s * h)) ^ (2 * i) := by
        rw [← Int.pow_add, ← Int.pow_mul, ← Int.pow_add]
        congr 1
        rw [e0]; grind
      rw [h2]
      have h3 := (rfl' (w ^ (q * (p + i * (2 * h))) * w ^ (p * s))).mul (hpow i)
      rw [Int.mul_one] at h3
      exact h3.symm
    have t1 : ∀ i, Eqm (-(w ^ (q * (p + h + i * (2 * h))) * w ^ (p * s))) (w ^ ((q + s) * (p + (2 * i + 1) * h))) := fun i => by
      have h2 : w ^ ((q + s) * (p + (2 * i + 1) * h)) = (w ^ (q * (p + h + i * (2 * h))) * w ^ (p * s)) * ((w ^ (s * h)) ^ (2 * i) * w ^ (s * h)) := by
        rw [← Int.pow_add, ← Int.pow_mul, ← Int.pow_add, ← Int.pow_add]
        congr 1
        rw [e1]; grind
      rw [h2]
      have h3 := (rfl' (w ^ (q * (p + h + i * (2 * h))) * w ^ (p * s))).mul ((hpow i).mul hm1)
      rw [show (1 : Int) * -1 = -1 from rfl, Int.mul_neg, Int.mul_one] at h3
      exact h3.symm
    have b0 : Eqm (S s (fun i => X (p + i * (2 * h)) * w ^ (q * (p + i * (2 * h))) * w ^ (p * s))) (S s (fun i => X (p + 2 * i * h) * w ^ ((q + s) * (p + 2 * i * h)))) := S_eqm fun i _ => by
      rw [Int.mul_assoc, e0 i]; have := t0 i; rw [e0 i] at this; exact (rfl' _).mul this
    have b1 : Eqm (-(S s (fun i => X (p + h + i * (2 * h)) * w ^ (q * (p + h + i * (2 * h))) * w ^ (p * s)))) (S s (fun i => X (p + (2 * i + 1) * h) * w ^ ((q + s) * (p + (2 * i + 1) * h)))) := by
      have e : -(S s (fun i => X (p + h + i * (2 * h)) * w ^ (q * (p + h + i * (2 * h))) * w ^ (p * s))) = S s (fun i => -1 * (X (p + h + i * (2 * h)) * w ^ (q * (p + h + i * (2 * h))) * w ^ (p * s))) := by
        rw [S_mul]; omega
      rw [e]
      refine S_eqm fun i _ => ?_
      have := t1 i
      rw [e1 i] at this ⊢
      rw [show p + h + i * (2 * h) = p + (i * (2 * h) + h) by omega] at *
      rw [show -1 * (X (p + (i * (2 * h) + h)) * w ^ (q * (p + (i * (2 * h) + h))) * w ^ (p * s)) = X (p + (i * (2 * h) + h)) * -(w ^ (q * (p + (i * (2 * h) + h))) * w ^ (p * s)) by grind]
      exact (rfl' _).mul this
    rw [Int.sub_eq_add_neg]
    exact b0.add b1
theorem root_half {w u : Int} {n : Nat} (hr : IsRoot w u n) (h : Nat) (hn : n = 2 * h) (h0 : 0 < h) : Eqm (w ^ h) (-1) := by
  have h1 : Eqm ((w ^ h - 1) * (w ^ h + 1)) 0 := by
    have e : (w ^ h - 1) * (w ^ h + 1) = w ^ n - 1 := by
      rw [hn, show w ^ (2 * h) = w ^ h * w ^ h by rw [← Int.pow_add]; congr 1; omega]; grind
    rw [e]
    have := hr.one.sub (rfl' 1)
    rwa [Int.sub_self] at this
  have h2 := strike' _ _ (fun e => hr.least h h0 (by omega) (by
    have := e.add (rfl' 1)
    rwa [Int.sub_add_cancel, Int.zero_add] at this)) h1
  have := h2.sub (rfl' 1)
  rw [show w ^ h + 1 - 1 = w ^ h by omega, show (0 : Int) - 1 = -1 from rfl] at this
  exact this
/-- Behind j passes. -/
theorem fft_to (xs ws : List Int) (w u : Int) (m : Nat) (hr : IsRoot w u (2 ^ m)) (hx : xs.length = 2 ^ m) (hw : ∀ i, i < 2 ^ m → Eqm (nth ws i) (w ^ i)) :
    ∀ j h, 2 ^ m = 2 ^ j * h → ∀ q t, q < 2 ^ j → t < h → Eqm (nth (withTo xs ws j) (q + 2 ^ j * t)) (S (2 ^ j) (fun i => nth xs (t + i * h) * w ^ (q * (t + i * h)))) := by
  intro j
  induction j with
  | zero =>
    intro h hh q t hq ht
    rw [Nat.pow_zero] at hh hq ⊢
    have hq0 : q = 0 := by omega
    subst hq0
    rw [Nat.one_mul] at hh
    simp only [withTo, S, Nat.zero_add, Nat.one_mul, Nat.zero_mul, Nat.add_zero, Int.pow_zero, Int.mul_one, Int.zero_add]
    rw [nth_map _ _ _ (by omega)]
    exact Eqm.mod _
  | succ j ih =>
    intro h hh
    have hs : 0 < 2 ^ j := Nat.pow_pos (by omega)
    have e : 2 ^ m = 2 ^ j * (2 * h) := by rw [hh, Nat.pow_succ, Nat.mul_assoc]
    have h0 : 0 < h := Nat.pos_of_ne_zero (fun e0 => by subst e0; have : 0 < 2 ^ m := Nat.pow_pos (by omega); omega)
    have hY := ih (2 * h) e
    have hl : (withTo xs ws j).length = 2 ^ m := by rw [withTo_len, hx]
    have e2 : 2 ^ m = 2 * (2 ^ j * h) := by rw [e]; grind
    have hm1 := root_half hr (2 ^ j * h) e2 (Nat.mul_pos hs h0)
    have hhalf : 2 ^ m / 2 = 2 ^ j * h := by omega
    rw [Nat.pow_succ, Nat.mul_comm (2 ^ j) 2]
    have place : ∀ q p r, q < 2 ^ j → r < 2 → (q + 2 ^ j * r + 2 * 2 ^ j * p) % 2 ^ j = q ∧ (q + 2 ^ j * r + 2 * 2 ^ j * p) / 2 ^ j = r + 2 * p := fun q p r hq hr => by
      have e3 : q + 2 ^ j * r + 2 * 2 ^ j * p = q + 2 ^ j * (r + 2 * p) := by grind
      rw [e3]
      exact ⟨by rw [Nat.add_mul_mod_self_left, Nat.mod_eq_of_lt hq], by rw [Nat.add_mul_div_left _ _ hs, Nat.div_eq_of_lt hq, Nat.zero_add]⟩
    have inside : ∀ q p r, q < 2 ^ j → r < 2 → p < h → q + 2 ^ j * r + 2 * 2 ^ j * p < 2 ^ m := fun q p r hq hr hp => by
      have e3 : q + 2 ^ j * r + 2 * 2 ^ j * p = q + 2 ^ j * (r + 2 * p) := by grind
      have h4 : 2 ^ j * (r + 2 * p + 1) ≤ 2 ^ j * (2 * h) := Nat.mul_le_mul_left _ (by omega)
      rw [Nat.mul_add, Nat.mul_one] at h4
      omega
    refine fft_step w (2 ^ j) h hs hm1 (nth xs) (nth (withTo xs ws j)) (nth (withTo xs ws (j + 1))) hY (fun q p hq hp => ?_) (fun q p hq hp => ?_)
    · have h1 := place q p 0 hq (by omega)
      have h2 := inside q p 0 hq (by omega) hp
      rw [Nat.mul_zero, Nat.add_zero] at h1 h2
      simp only [withTo]
      rw [nth_passL _ _ _ _ (by rw [hl]; exact h2)]
      unfold passAt
      rw [h1.1, h1.2, hl, hhalf, if_pos (by omega), show (0 + 2 * p) / 2 = p by omega]
      rw [show q + 2 ^ j * p + 2 ^ j * h = q + 2 ^ j * (p + h) by rw [Nat.mul_add]; omega]
      exact Eqm.mod _
    · have h1 := place q p 1 hq (by omega)
      have h2 := inside q p 1 hq (by omega) hp
      rw [Nat.mul_one] at h1 h2
      simp only [withTo]
      rw [nth_passL _ _ _ _ (by rw [hl]; exact h2)]
      unfold passAt
      rw [h1.1, h1.2, hl, hhalf, if_neg (by omega), show (1 + 2 * p) / 2 = p by omega]
      rw [show q + 2 ^ j * p + 2 ^ j * h = q + 2 ^ j * (p + h) by rw [Nat.mul_add]; omega]
      refine (Eqm.mod _).trans ((rfl' _).mul (hw (p * 2 ^ j) ?_))
      have h5 : 2 ^ j * (p + 1) ≤ 2 ^ j * (2 * h) := Nat.mul_le_mul_left _ (by omega)
      rw [Nat.mul_add, Nat.mul_one] at h5
      rw [Nat.mul_comm p]
      omega
theorem fft_all (xs : List Int) (z u : Int) (m : Nat) (hr : IsRoot z u (2 ^ m)) (hx : xs.length = 2 ^ m) : withTo xs (powL z (2 ^ m)) m = dftL xs z := by
  apply ext_nth (by rw [withTo_len, dftL_len])
  intro k hk
  rw [withTo_len] at hk
  have h1 := fft_to xs (powL z (2 ^ m)) z u m hr hx (fun i hi => by rw [show nth (powL z (2 ^ m)) i = pw z i from nth_ofFn _ _ _ hi]; exact pw_eqm z i) m 1 (by omega) k 0 (by omega) (by omega)
  rw [Nat.mul_zero, Nat.add_zero] at h1
  have h2 := pt_T xs z k
  rw [hx] at h2
  have e : S (2 ^ m) (fun i => nth xs (0 + i * 1) * z ^ (k * (0 + i * 1))) = T (2 ^ m) z (nth xs) k := by
    unfold T
    exact S_congr fun i _ => by rw [Nat.zero_add, Nat.mul_one, Nat.mul_comm k i]
  rw [e] at h1
  rw [nth_dftL _ _ _ hk]
  have b1 := withTo_range xs (powL z (2 ^ m)) m k hk
  have b2 := pt_range xs (pw z k)
  exact eq_of_eqm (h1.trans h2.symm) b1.1 b1.2 b2.1 b2.2
theorem hasSz_pow (m : Nat) (h : m ≤ 24) : hasSz ((2 ^ m : Nat) : Int) = true := by
  have : ∀ m ∈ List.range 25, hasSz ((2 ^ m : Nat) : Int) = true := by decide
  exact this m (by simp; omega)
end Go.Proofs.Ytcckfeikaolfgaa

namespace Go.Proofs.Ytcckfeikaolfgaa
open Sm
set_option linter.unusedVariables false
set_option linter.unusedSimpArgs false
set_option maxRecDepth 100000
def hf : Int := 9223372034707292161
theorem hf2 : 2 * hf = 18446744069414584321 + 1 := rfl
end Go.Proofs.Ytcckfeikaolfgaa

namespace Go.Proofs.Ytcckfeikaolfgaa
open Sm
set_option linter.unusedVariables false
set_option linter.unusedSimpArgs false
set_option maxRecDepth 100000
def triT (i : Nat) : Nat := i * (i - 1) / 2
theorem triT_succ (k : Nat) : triT (k + 1) = triT k + k := by
  unfold triT
  cases k with
  | zero => rfl
  | succ j =>
    have e : (j + 1 + 1) * (j + 1 + 1 - 1) = (j + 1) * (j + 1 - 1) + 2 * (j + 1) := by
      rw [show j + 1 + 1 - 1 = j + 1 by omega, show j + 1 - 1 = j by omega]; grind
    rw [e]; omega
def triN (n i : Nat) : Nat := triT i % n
theorem triN_zero (n : Nat) : triN n 0 = 0 := Nat.zero_mod n
theorem triN_succ (n k : Nat) : triN n (k + 1) = (triN n k + k) % n := by
  unfold triN; rw [triT_succ, Nat.mod_add_mod]
theorem triN_lt (n i : Nat) (h : 0 < n) : triN n i < n := Nat.mod_lt _ h
def rowT (z : Int) (n many : Nat) : List Int := (List.range many).map fun j => pw z (triN n j)
theorem rowT_len (z : Int) (n m : Nat) : (rowT z n m).length = m := by simp [rowT]
theorem nth_rowT (z : Int) (n m i : Nat) (h : i < m) : nth (rowT z n m) i = pw z (triN n i) := nth_ofFn _ _ _ h
theorem rowT_fits (z : Int) (n m : Nat) : ∀ x ∈ rowT z n m, fits .u64 x := by
  intro x hx; obtain ⟨i, _, rfl⟩ := List.mem_map.1 hx
  have := pw_range z (triN n i)
  exact fits_u64.2 (by omega)
/-- Noughts behind. -/
def zeroL (xs : List Int) (m : Nat) : List Int := xs ++ List.replicate (m - xs.length) 0
theorem zeroL_len (xs : List Int) (m : Nat) (h : xs.length ≤ m) : (zeroL xs m).length = m := by simp [zeroL]; omega
theorem zeroL_fits (xs : List Int) (m : Nat) (h : ∀ x ∈ xs, fits .u64 x) : ∀ x ∈ zeroL xs m, fits .u64 x := by
  intro x hx
  rcases List.mem_append.1 hx with h1 | h1
  · exact h x h1
  · rw [(List.mem_replicate.1 h1).2]; exact fits_u64.2 (by omega)
theorem zeroL_cells (xs : List Int) (m : Nat) : xs.map (Value.int .u64) ++ List.replicate (m - xs.length) (Value.int .u64 0) = (zeroL xs m).map (Value.int .u64) := by
  simp [zeroL, List.map_append]
theorem nth_zeroL (xs : List Int) (m i : Nat) : nth (zeroL xs m) i = nth xs i := by
  by_cases h : i < xs.length
  · exact nth_append_left h
  · unfold zeroL
    rw [nth_append_right (by omega), nth_out xs i (by omega)]
    simp only [nth, List.getD_eq_getElem?_getD, List.getElem?_replicate]
    split <;> rfl
end Go.Proofs.Ytcckfeikaolfgaa

namespace Go.Proofs.Ytcckfeikaolfgaa
open Sm
set_option linter.unusedVariables false
set_option linter.unusedSimpArgs false
set_option maxRecDepth 100000
def IsFq (q : Nat) : Prop := q = 3 ∨ q = 5 ∨ q = 17 ∨ q = 257 ∨ q = 65537
def gq (q : Nat) : Nat := if q = 3 ∨ q = 5 then 2 else 3
@[irreducible] def gp (q i : Nat) : Nat := gq q ^ i % q
theorem fq_bd {q : Nat} (h : IsFq q) : 3 ≤ q ∧ q ≤ 65537 := by unfold IsFq at h; omega
theorem fq_log {q : Nat} (h : IsFq q) : ∃ m, 1 ≤ m ∧ m ≤ 16 ∧ q - 1 = 2 ^ m := by
  rcases h with h | h | h | h | h <;> subst h
  · exact ⟨1, by decide, by decide, by decide⟩
  · exact ⟨2, by decide, by decide, by decide⟩
  · exact ⟨4, by decide, by decide, by decide⟩
  · exact ⟨8, by decide, by decide, by decide⟩
  · exact ⟨16, by decide, by decide, by decide⟩
theorem gq_bd {q : Nat} (h : IsFq q) : 2 ≤ gq q ∧ gq q ≤ 3 ∧ gq q < q := by
  rcases h with h | h | h | h | h <;> subst h <;> decide
theorem gp_lt (q i : Nat) (h : 0 < q) : gp q i < q := by unfold gp; exact Nat.mod_lt _ h
theorem gp_zero {q : Nat} (h : IsFq q) : gp q 0 = 1 := by
  have := fq_bd h
  unfold gp; rw [Nat.pow_zero]; exact Nat.mod_eq_of_lt (by omega)
theorem gp_add (q i j : Nat) : gp q (i + j) = gp q i * gp q j % q := by
  unfold gp; rw [Nat.pow_add, Nat.mul_mod]
theorem gp_succ (q i : Nat) : gp q (i + 1) = gp q i * gq q % q := by
  unfold gp; rw [Nat.pow_succ, Nat.mod_mul_mod]
theorem gp_all {q : Nat} (h : IsFq q) : gp q (q - 1) = 1 := by
  unfold gp
  rw [← Fld.pm_eq q 17 (gq q) (q - 1) (by have := fq_bd h; omega)]
  rcases h with h | h | h | h | h <;> subst h <;> decide +kernel
theorem gp_half {q : Nat} (h : IsFq q) : gp q ((q - 1) / 2) ≠ 1 := by
  unfold gp
  rw [← Fld.pm_eq q 17 (gq q) ((q - 1) / 2) (by have := fq_bd h; omega)]
  rcases h with h | h | h | h | h <;> subst h <;> decide +kernel
theorem gp_mul {q : Nat} (h : IsFq q) (k : Nat) : gp q ((q - 1) * k) = 1 := by
  have h1 := gp_all h
  have := fq_bd h
  unfold gp at *
  exact Fld.pow_mul_one _ _ _ _ (by omega) h1
theorem gp_mod {q : Nat} (h : IsFq q) (i : Nat) : gp q (i % (q - 1)) = gp q i := by
  have := fq_bd h
  have e : gp q i = gp q ((q - 1) * (i / (q - 1)) + i % (q - 1)) := by rw [Nat.div_add_mod]
  rw [e, gp_add, gp_mul h, Nat.one_mul, Nat.mod_eq_of_lt (gp_lt q _ (by omega))]
/-- A size that is a prime from 3 on. -/
theorem fq_of {n : Nat} (h : hasSz n = true) (hp : isPr (n : Int) = true) (h3 : 3 ≤ n) : IsFq n := by
  obtain ⟨a1, a2, a3⟩ := hasSz_iff.1 h
  have hN := (isPr_iff n (by omega) (by omega)).1 hp
  have hdv : n ∣ 18446744069414584320 := by
    have h5 : ((18446744069414584320 % n : Nat) : Int) = 0 := by rw [Int.natCast_emod]; exact a3
    exact Nat.dvd_of_mod_eq_zero (by omega)
  obtain ⟨g, hg, j, hj, rfl⟩ := size_form n (by omega) (by omega) hdv
  cases j with
  | succ j =>
    exfalso
    have e : 2 ^ (j + 1) * g = 2 * (2 ^ j * g) := by rw [Nat.pow_succ]; rw [Nat.mul_comm (2 ^ j) 2, Nat.mul_assoc]
    have := hN.2 2 (Nat.le_refl _) (by omega)
    omega
  | zero =>
    rw [Nat.pow_zero, Nat.one_mul] at *
    have key : ∀ g ∈ oddL, g < 3 ∨ (g = 3 ∨ g = 5 ∨ g = 17 ∨ g = 257 ∨ g = 65537) ∨ (9 ≤ g ∧ g % 3 = 0) ∨ (25 ≤ g ∧ g % 5 = 0) ∨ (289 ≤ g ∧ g % 17 = 0) ∨ (66049 ≤ g ∧ g % 257 = 0) := by decide +kernel
    rcases key g hg with h1 | h1 | h1 | h1 | h1 | h1
    · omega
    · exact h1
    · exact absurd h1.2 (hN.2 3 (by omega) (by omega))
    · exact absurd h1.2 (hN.2 5 (by omega) (by omega))
    · exact absurd h1.2 (hN.2 17 (by omega) (by omega))
    · exact absurd h1.2 (hN.2 257 (by omega) (by omega))
theorem pr_of_fq {n : Nat} (h : IsFq n) : isPr (n : Int) = true := by
  have hb := fq_bd h
  rw [isPr_iff n (by omega) (by omega)]
  refine ⟨by omega, fun k h2 hk => ?_⟩
  have hk2 : k ≤ 256 := by
    apply Nat.le_of_not_lt; intro hc
    have : 257 * 257 ≤ k * k := Nat.mul_le_mul hc hc
    omega
  have key : ∀ q ∈ [3, 5, 17, 257, 65537], ∀ k ∈ List.range 257, k < 2 ∨ q < k * k ∨ q % k ≠ 0 := by decide +kernel
  have hq : n ∈ [3, 5, 17, 257, 65537] := by unfold IsFq at h; simp; exact h
  rcases key n hq k (by simp; omega) with h1 | h1 | h1
  · omega
  · omega
  · exact h1
/-- The powers of the generator, one by one; Rader's row. -/
def genL (q : Nat) : List Int := (List.range (q - 1)).map fun i => ((gp q i : Nat) : Int)
theorem genL_len (q : Nat) : (genL q).length = q - 1 := by simp [genL]
theorem nth_genL (q i : Nat) (h : i < q - 1) : nth (genL q) i = (gp q i : Nat) := nth_ofFn _ _ _ h
def radAt (q i : Nat) : Nat := gp q ((q - 1 - i) % (q - 1))
def radL (z : Int) (q : Nat) : List Int := (List.range (q - 1)).map fun i => pw z (radAt q i)
theorem radL_len (z : Int) (q : Nat) : (radL z q).length = q - 1 := by simp [radL]
theorem nth_radL (z : Int) (q i : Nat) (h : i < q - 1) : nth (radL z q) i = pw z (radAt q i) := nth_ofFn _ _ _ h
theorem radL_fits (z : Int) (q : Nat) : ∀ x ∈ radL z q, fits .u64 x := by
  intro x hx; obtain ⟨i, _, rfl⟩ := List.mem_map.1 hx
  have := pw_range z (radAt q i)
  exact fits_u64.2 (by omega)
theorem radAt_eq {q : Nat} (h : IsFq q) (i : Nat) (hi : i < q - 1) : radAt q i = gp q (q - 1 - i) := by
  unfold radAt; exact gp_mod h _
theorem radAt_zero {q : Nat} (h : IsFq q) : radAt q 0 = 1 := by
  unfold radAt; rw [Nat.sub_zero, Nat.mod_self, gp_zero h]
end Go.Proofs.Ytcckfeikaolfgaa

namespace Go.Proofs.Ytcckfeikaolfgaa
open Go.RowKit
set_option linter.unusedVariables false
set_option linter.unusedSimpArgs false
set_option maxRecDepth 100000
/-- A result: a new row, of the call's own. -/
def GivesOwn (k : IntKind) (t : TypeId) (xs : List Int) (w : World) (e : Ending) (w' : World) : Prop :=
  ∃ a cap, e = .returned (.slice a xs.length cap) ∧ w'.ownsRow w.heap.size t 1 (.slice a xs.length cap) xs.length (xs.map (Value.int k)) ∧ (∀ x ∈ xs, fits k x) ∧ xs.length ≤ 16777216 ∧ Below w.heap.size w w'
theorem GivesOwn.row {k : IntKind} {t : TypeId} {xs : List Int} {w w' : World} {e : Ending} (h : GivesOwn k t xs w e w') : GivesRow k xs w e w' := by
  obtain ⟨a, cap, rfl, ho, hf, hl, hb⟩ := h
  exact gives_of_own ho hb rfl rfl hf hl
theorem Own.givesO {k : IntKind} {e : TypeId} {w wr : World} {v : Value} {n : Nat} {f : Nat → Int} (h : Own k e w wr v n f) {xs : List Int} (hn : xs.length = n) (hw : ∀ x ∈ xs, fits k x) (hf : ∀ i, i < n → nth xs i = f i) (hl : n ≤ 16777216) :
    GivesOwn k e xs w (.returned v) wr := by
  obtain ⟨a, cap, rfl, hnil⟩ := own_slice h.own
  have e1 : xs.map (Value.int k) = (List.range n).map fun j => Value.int k (f j) := by
    apply List.ext_getElem (by simp [hn])
    intro i h1 h2
    have h3 : i < n := by simpa [hn] using h1
    have := hf i h3
    simp only [List.getElem_map, List.getElem_range]
    rw [← this]
    simp [nth, show i < xs.length by omega]
  refine ⟨a, cap, by rw [hn], ?_, hw, by omega, h.below⟩
  rw [hn, e1]
  exact h.own
theorem OwnAt.givesO {k : IntKind} {e : TypeId} {w wr : World} {g n : Nat} {f : Nat → Int} (h : OwnAt k e w wr g n f) {xs : List Int} (hn : xs.length = n) (hw : ∀ x ∈ xs, fits k x) (hf : ∀ i, i < n → nth xs i = f i) (hl : n ≤ 16777216) :
    GivesOwn k e xs w (.returned (.slice (some ⟨g, 0, none⟩) n n)) wr :=
  Own.givesO (e := e) ⟨h.own, h.below⟩ hn hw hf hl
theorem zeros_list (x : Value) (n : Nat) : (Builtin.zeroCells #[x] n).toList = List.replicate n x := by
  have hs := size_zeroCells #[x] n
  apply List.ext_getElem
  · simp [hs]
  · intro i h1 h2
    simp [Builtin.zeroCells, Nat.mod_one]
theorem run_append_zeros_own {P : Program} (w : World) (base : Nat) (t tn ty e : TypeId) (i : TypeInfo) (k kq kn : IntKind) (ht : P.underlying t = some (.slice e)) (htn : P.underlying tn = some (.int kn)) (hi : P.info? e = some i) (hz : i.zero = some (.int k 0)) (hz1 : i.size = 1) (hz2 : i.bytes = 8)
    (v : Value) (n : Nat) (xs : List Value) (hown : w.ownsRow base e 1 v n xs) (m : Nat) (hlen : n + m ≤ 100000000) (hbase : base ≤ w.heap.size) :
    ∃ v' w', (Builtin.append_ #[t, tn] ty #[v, .int kq m]).run P w = .ok v' w' ∧ w'.ownsRow base e 1 v' (n + m) (xs ++ List.replicate m (.int k 0)) ∧ w.grownBy w' v.ownBlock := by
  have hxl : xs.length = n := by rw [hown.1, Nat.mul_one]
  have hw : IntKind.i64.wrap (m : Int) = m := IntWalk.i64_in _ (by omega)
  have hw0 : IntKind.i64.wrap 0 = 0 := rfl
  have hneg : ¬ ((m : Int) < 0) := by omega
  have h48 : ¬ (281474976710656 < (m : Int) * 8) := by omega
  have hlen2 : (xs ++ List.replicate m (Value.int k 0)).length = (n + m) * 1 := by simp [hxl]
  have hZ : (Value.int k 0).cells = #[Value.int k 0] := rfl
  have grown : ∀ (old : Nat) (row : Option Nat), old < n + m →
      (w.drew.alloc (.cells (xs.toArray ++ Builtin.zeroCells #[Value.int k 0] m ++ Builtin.zeroCells #[Value.int k 0] (grownCap w (n + m) old e - (n + m))) e)).ownsRow base e 1
        (.slice (some ⟨w.heap.size, 0, none⟩) (n + m) (grownCap w (n + m) old e)) (n + m) (xs ++ List.replicate m (.int k 0)) ∧
      w.grownBy (w.drew.alloc (.cells (xs.toArray ++ Builtin.zeroCells #[Value.int k 0] m ++ Builtin.zeroCells #[Value.int k 0] (grownCap w (n + m) old e - (n + m))) e)) row := by
    intro old row ho
    have hge := grownCap_ge w (n + m) old e
    have hcm : grownCap w (n + m) old e ≤ maxLen := grownCap_le_maxLen w (n + m) old e (by unfold maxLen; omega)
    refine ⟨⟨hlen2, .inr ⟨w.heap.size, _, _, rfl, hbase, heap_alloc_new w.drew _, hge, hcm, ?_, ?_⟩⟩, ⟨rfl, rfl, rfl, by simp, fun j hj _ => heap_alloc_old w.drew _ hj⟩⟩
    · simp only [Array.size_append, List.size_toArray, size_zeroCells, hxl]
      simp
      omega
    · simp only [Array.toList_append, zeros_list]
      rw [← hlen2]
      exact List.take_left
  rcases hown.2 with ⟨rfl, rfl⟩ | ⟨g, cap, cur, rfl, hbg, hg, hnc, hcm, hcs, htake⟩
  · have hx : xs = [] := List.eq_nil_of_length_eq_zero hxl
    subst hx
    by_cases hm : m = 0
    · subst hm
      refine ⟨.slice none 0 0, w, ?_, World.ownsRow_nil w base e 1, World.grownBy.refl _ _⟩
      simp [Builtin.append_, run_underlying ht, run_underlying htn, sizeOf, typeInfo, hi, asInt, asIntOf, hw0]
    · have hr := Lib.run_append_nil_zeros (P := P) w t tn ty e i (.int k 0) kq kn ht htn hi hz m (by omega) (by omega) (by omega) (by rw [hz2]; omega)
      have hgr := grown 0 (Value.ownBlock (.slice none 0 0)) (by omega)
      rw [hZ] at hr
      simp only [Nat.zero_add, List.nil_append, Array.empty_append] at hgr ⊢
      exact ⟨_, _, hr, hgr.1, hgr.2⟩
  · by_cases hroom : n + m ≤ cap
    · have hcs' : cur.size = cap := by rw [hcs, Nat.mul_one]
      have hst := run_storeCells_at P g n e (List.replicate m (.int k 0)) 0 cur w hg (by simp; omega) (by intro u hu; rw [List.eq_of_mem_replicate hu]; rfl)
      refine ⟨_, w.setRow g (cur.toList.take n ++ List.replicate m (Value.int k 0) ++ cur.toList.drop (n + m)).toArray, ?_, ⟨hlen2, .inr ⟨g, cap, _, rfl, hbg, setRow_heap w g cur _ e _ hg, hroom, hcm, ?_, ?_⟩⟩, ⟨rfl, rfl, rfl, by simp, fun j _ hj => setRow_other w g j _ (fun e => hj (by simp [Value.ownBlock, e]))⟩⟩
      · by_cases hm : m = 0
        · subst hm
          have hself : w.setRow g (cur.toList.take n ++ List.replicate 0 (Value.int k 0) ++ cur.toList.drop (n + 0)).toArray = w := by
            simp only [List.replicate_zero, List.append_nil, Nat.add_zero, List.take_append_drop, Array.toArray_toList]
            exact setRow_self w g cur e (0, 0) hg
          rw [hself]
          simp [Builtin.append_, run_underlying ht, run_underlying htn, sizeOf, typeInfo, hi, asInt, asIntOf, hnc, hw0, storeCells]
        · have hns : ¬ (m * i.size = 0) := by rw [hz1]; omega
          simp only [Nat.add_zero, List.length_replicate] at hst
          simp [Builtin.append_, run_underlying ht, run_underlying htn, sizeOf, typeInfo, zeroValue, hi, hz, hz1, hz2, asInt, asIntOf, hw, hneg, h48, hroom, hm, zeros_list, Value.cells, Addr.add_lit, hst]
      · simp only [List.size_toArray, List.length_append, List.length_take, List.length_drop, Array.length_toList, List.length_replicate]
        omega
      · rw [Nat.mul_one] at htake
        rw [htake, ← hlen2]
        exact List.take_left
    · have holds : ∀ j u, xs[j]? = some u → w.cell? ((⟨g, 0, none⟩ : Addr).add j) = some u := hown.cells (g := g) rfl
      have hfo := run_firstCells_some (P := P) w.drew i.size n ⟨g, 0, none⟩ n cap xs (by rw [hz1, hxl, Nat.mul_one]) (by simpa using holds)
      by_cases hm : m = 0
      · omega
      · have hfit : Builtin.nextslicecap (n + m) cap * i.bytes ≤ 281474976710656 := growslice_fits (by omega) (by rw [hz2]; omega)
        have hr := Lib.run_append_grow_zeros (P := P) w t tn ty e i (.int k 0) kq kn ht htn hi hz (some ⟨g, 0, none⟩) n cap xs hfo m (by omega) (by omega) (by omega) (by omega) (by rw [hz2]; omega) hfit
        have hgr := grown cap (Value.ownBlock (.slice (some ⟨g, 0, none⟩) n cap)) (by omega)
        rw [hZ] at hr
        exact ⟨_, _, hr, hgr.1, hgr.2⟩
/-- append(own, make([]T, m)...) in a walk. -/
theorem wpList_append_zeros {P : Program} (w : World) {ops : Array Oper} {rest : List Oper} {o : Oper} {a : Act} {Q : Exit → Act → World → Prop} (hgd : o.guard = none) (s x : Operand) (t tn : TypeId)
    (ho : o.op = .call { callee := .builtin .append, args := #[s, x], argTypes := #[t, tn] }) (base : Nat) (e : TypeId) (i : TypeInfo) (k kq kn : IntKind) (ht : P.underlying t = some (.slice e)) (htn : P.underlying tn = some (.int kn)) (hi : P.info? e = some i) (hz : i.zero = some (.int k 0)) (hz1 : i.size = 1) (hz2 : i.bytes = 8)
    (v : Value) (n : Nat) (xs : List Value) (hs : a.eval s = v) (hown : w.ownsRow base e 1 v n xs) (m : Nat) (hx : a.eval x = .int kq m) (hlen : n + m ≤ 100000000) (hbase : base ≤ w.heap.size)
    (h : ∀ v' w', w'.ownsRow base e 1 v' (n + m) (xs ++ List.replicate m (.int k 0)) → w.grownBy w' v.ownBlock → wpList P ops Q rest (a.put o.dst v') w') : wpList P ops Q (o :: rest) a w := by
  obtain ⟨v', w', hr, h1, h2⟩ := run_append_zeros_own (P := P) w base t tn o.type e i k kq kn ht htn hi hz hz1 hz2 v n xs hown m hlen hbase
  exact Lib.wpList_append_run w hgd s x t tn ho v (.int kq m) hs hx v' w' hr (h v' w' h1 h2)
end Go.Proofs.Ytcckfeikaolfgaa

namespace Go.Proofs.Ytcckfeikaolfgaa
open Go.RowKit
set_option linter.unusedVariables false
set_option linter.unusedSimpArgs false
set_option maxRecDepth 100000
theorem own_base {w : World} {B B' : Nat} {e : TypeId} {v : Value} {n : Nat} {xs : List Value} (h : w.ownsRow B e 1 v n xs) (hB : B' ≤ B) : w.ownsRow B' e 1 v n xs := by
  obtain ⟨h1, h2 | ⟨g, cap, cur, h3, h4, h5⟩⟩ := h
  · exact ⟨h1, .inl h2⟩
  · exact ⟨h1, .inr ⟨g, cap, cur, h3, Nat.le_trans hB h4, h5⟩⟩
end Go.Proofs.Ytcckfeikaolfgaa

namespace Go.Proofs.Ytcckfeikaolfgaa
open Go.RowKit Sm
set_option linter.unusedVariables false
set_option linter.unusedSimpArgs false
set_option maxRecDepth 100000
theorem own_eqz {k : IntKind} {e : TypeId} {w wr : World} {g n : Nat} {f f' : Nat → Int} (h : OwnAt k e w wr g n f) (he : ∀ n, f' n = f n) : OwnAt k e w wr g n f' := by
  rw [show f' = f from funext he]; exact h
set_option maxHeartbeats 800000 in
theorem rootPowers (a : Int) (n : Nat) (w : World) (h0 : 0 ≤ a) (h1 : a < 18446744073709551616) (hn : n ≤ 16777216) :
    Calls Try.prog 69 #[.int .u64 a, .int .i64 n] w (GivesRowE .u64 (powL a n) 0 w) := by
  obtain ⟨i0, hi, hz0, hz1, hz2⟩ := info_parts info_u64
  go_enter Try.func69, Try.ntmps69
  go_wp2_with (at_make; refine wpList_make_full _ rfl _ _ 25 rfl w.heap.size 34 i0 (.int .u64 0) 1 Try.underlying25 hi hz0 hz1 .i64 .i64 n n n rfl rfl rfl rfl (by rw [hz2]; omega) (by unfold maxLen; omega) (Nat.le_refl _) ?_)
  intro w1 hown0 hgrow0
  have hown := Own.made hown0 hgrow0
  clear hown0 hgrow0
  go_wp2_with fail
  go_loopw [7, 19] (fun p i wr => ∃ (k : Nat) (v : Int), k ≤ n ∧ i = .int .i64 k ∧ p = .int .u64 v ∧ Hid (v = pw a k) ∧ 0 ≤ v ∧ v < 18446744069414584321 ∧ OwnAt .u64 34 w wr w.heap.size n (fun j => if j < k then pw a j else 0)) (fun _ i _ => n - (intOf i).toNat)
  case atStart => exact ⟨0, 1, Nat.zero_le _, rfl, rfl, (pw_0 a).symm, by omega, by omega, own_eqz hown (fun j => if_neg (by omega))⟩
  case round =>
    obtain ⟨k, v, hk, rfl, rfl, HV, hv0, hv1, hown⟩ := hrel
    by_cases hlt : k < n
    · have hcell := hown.cell k hlt
      rw [if_neg (Nat.lt_irrefl k)] at hcell
      have hfz := hown.free k
      have hnext := hown.store k hlt v (f' := fun j => if j < k + 1 then pw a j else 0) (by rw [if_pos (by omega)]; exact HV.out.symm) (fun j _ hj => by
        by_cases h : j < k
        · rw [if_pos h, if_pos (by omega)]
        · rw [if_neg h, if_neg (by omega)])
      have HN := Lib.hid hnext
      have HM : Hid (v * a % 18446744069414584321 = pw a (k + 1)) := by unfold Hid; rw [HV.out]; exact pw_succ a k
      clear hown hnext
      go_wp2_with (first | (go_at_call 85; refine (gold_Mul _ _ _ (by omega) (by omega) (by omega) (by omega)).mono ?_; rintro e w' ⟨rfl, rfl⟩))
      go_roundw
      case rel => exact ⟨k + 1, _, by omega, by go_num, rfl, HM.out, by omega, by omega, HN.out⟩
      case measure => simp [intOf]; omega
    · have hkn : k = n := by omega
      have hrow := hown.row (xs := powL a n) (powL_len a n) (powL_fits a n) (fun i hi => by rw [show nth (powL a n) i = pw a i from nth_ofFn _ _ _ hi, if_pos (by omega)]) hn
      have hb := hown.below
      have HR := Lib.hid hrow
      have HL := Lib.hid (powL_len a n)
      clear hown hrow
      go_wp2_with fail
      go_ret2
      exact ⟨some ⟨w.heap.size, 0, none⟩, n, by simp [HL.out], HR.out, by rw [HL.out]; exact ⟨Nat.le_refl _, fun h => by cases h⟩, hb⟩
end Go.Proofs.Ytcckfeikaolfgaa

namespace Go.Proofs.Ytcckfeikaolfgaa
open Go.RowKit
set_option linter.unusedVariables false
set_option linter.unusedSimpArgs false
set_option maxRecDepth 100000
@[irreducible] def pmo (a n q : Nat) : Nat := a ^ n % q
theorem pmo_step1 {p a n q V : Nat} (h1 : n % 2 = 1) (H : p * a ^ n % q = V) : (p * a % q) * (a * a % q) ^ (n / 2) % q = V := by
  rw [Nat.mod_mul_mod, Nat.mul_mod, ← Nat.pow_mod, ← Nat.mul_mod, ← Nat.pow_two, ← Nat.pow_mul, Nat.mul_assoc, ← Nat.pow_succ', Nat.succ_eq_add_one, show 2 * (n / 2) + 1 = n by omega]
  exact H
theorem pmo_step0 {p a n q V : Nat} (h1 : n % 2 = 0) (H : p * a ^ n % q = V) : p * (a * a % q) ^ (n / 2) % q = V := by
  rw [Nat.mul_mod, ← Nat.pow_mod, ← Nat.mul_mod, ← Nat.pow_two, ← Nat.pow_mul, show 2 * (n / 2) = n by omega]
  exact H
theorem mulN (a b s : Nat) (h : a * b = s) : (a : Int) * (b : Int) = (s : Int) := by rw [← h]; simp
theorem modN (s q r : Nat) (h : s % q = r) : (s : Int).tmod (q : Int) = (r : Int) ∧ (s : Int) % (q : Int) = (r : Int) := by
  subst h
  exact ⟨by rw [Int.tmod_eq_emod_of_nonneg (by omega), Int.natCast_emod], by rw [← Int.natCast_emod]⟩
theorem divN (s q r : Nat) (h : s / q = r) : (s : Int).tdiv (q : Int) = (r : Int) ∧ (s : Int) / (q : Int) = (r : Int) := by
  subst h
  exact ⟨by rw [Int.tdiv_eq_ediv_of_nonneg (by omega), Int.natCast_ediv], by rw [← Int.natCast_ediv]⟩
theorem prod_bd {a b q : Nat} (ha : a < q) (hb : b < q) (hq : q ≤ 131072) : a * b ≤ 131072 * 131072 := Nat.mul_le_mul (by omega) (by omega)
set_option maxHeartbeats 1000000 in
theorem gen_power (a n q : Nat) (w : World) (hq1 : 2 ≤ q) (hq2 : q ≤ 131072) (ha : a < q) (hn : n ≤ 131072) :
    Calls Try.prog 112 #[.int .i64 a, .int .i64 n, .int .i64 q] w fun e w' => e = .returned (.int .i64 (pmo a n q : Nat)) ∧ w = w' := by
  obtain ⟨V, hV⟩ : ∃ V, a ^ n % q = V := ⟨_, rfl⟩
  have HV : Hid (1 * a ^ n % q = V) := by unfold Hid; rw [Nat.one_mul]; exact hV
  have HP : Hid (pmo a n q = V) := by unfold Hid pmo; exact hV
  have z1 : ((q : Int) == 0) = false := bno (by omega)
  have z2 : ¬ (q : Int) = 0 := by omega
  have o1 := (modN 1 q 1 (Nat.mod_eq_of_lt (by omega))).1
  have o2 := (modN 1 q 1 (Nat.mod_eq_of_lt (by omega))).2
  clear hV
  simp only [Int.natCast_one] at o1 o2
  go_enter Try.func112, Try.ntmps112
  go_wp2_with fail
  go_loop [0, 1, 7] (fun x y z => ∃ b m p : Nat, x = .int .i64 b ∧ y = .int .i64 m ∧ z = .int .i64 p ∧ b < q ∧ m ≤ 131072 ∧ p < q ∧ Hid (p * b ^ m % q = V)) (fun x y z => (intOf y).toNat)
  case atStart => exact ⟨a, n, 1, rfl, rfl, rfl, ha, hn, by omega, HV.out⟩
  case round =>
    obtain ⟨b, m, p, rfl, rfl, rfl, hb, hm, hp, H⟩ := hrel
    by_cases h0 : m = 0
    · subst h0
      go_wp2_with fail
      go_ret
      refine ⟨ret_int ?_, rfl⟩
      have h := H.out
      rw [Nat.pow_zero, Nat.mul_one, Nat.mod_eq_of_lt hp] at h
      rw [HP.out, h]
    · have hpos : (0 : Int) < (m : Int) := by omega
      obtain ⟨k, hk⟩ : ∃ k, m / 2 = k := ⟨_, rfl⟩
      have d1 : (m : Int).tdiv 2 = (k : Int) := (divN m 2 k hk).1
      have d2 : (m : Int) / 2 = (k : Int) := (divN m 2 k hk).2
      obtain ⟨s, hs⟩ : ∃ s, b * b = s := ⟨_, rfl⟩
      have hs1 := prod_bd hb hb hq2
      rw [hs] at hs1
      have m1 := mulN b b s hs
      obtain ⟨r, hr⟩ : ∃ r, s % q = r := ⟨_, rfl⟩
      have r1 := (modN s q r hr).1
      have r2 := (modN s q r hr).2
      have hrq : r < q := by rw [← hr]; exact Nat.mod_lt _ (by omega)
      have hkm : k < m := by omega
      by_cases h1 : m % 2 = 1
      · have e1 : (m : Int).tmod 2 = 1 := (modN m 2 1 h1).1
        have e2 : (m : Int) % 2 = 1 := (modN m 2 1 h1).2
        obtain ⟨t, ht⟩ : ∃ t, p * b = t := ⟨_, rfl⟩
        have ht1 := prod_bd hp hb hq2
        rw [ht] at ht1
        have n1 := mulN p b t ht
        obtain ⟨u, hu⟩ : ∃ u, t % q = u := ⟨_, rfl⟩
        have u1 := (modN t q u hu).1
        have u2 := (modN t q u hu).2
        have huq : u < q := by rw [← hu]; exact Nat.mod_lt _ (by omega)
        have H2 : Hid (u * r ^ k % q = V) := by
          unfold Hid; rw [← hu, ← hr, ← ht, ← hs, ← hk]; exact pmo_step1 h1 H.out
        clear hk hs hr ht hu h1
        go_wp2_with fail
        go_round
        case rel => exact ⟨r, k, u, rfl, rfl, rfl, hrq, by omega, huq, H2.out⟩
        case measure => simp [intOf]; omega
      · have h10 : m % 2 = 0 := by omega
        have e1 : (m : Int).tmod 2 = 0 := (modN m 2 0 h10).1
        have e2 : (m : Int) % 2 = 0 := (modN m 2 0 h10).2
        have H2 : Hid (p * r ^ k % q = V) := by
          unfold Hid; rw [← hr, ← hs, ← hk]; exact pmo_step0 h10 H.out
        clear hk hs hr h1 h10
        go_wp2_with fail
        go_round
        case rel => exact ⟨r, k, p, rfl, rfl, rfl, hrq, by omega, hp, H2.out⟩
        case measure => simp [intOf]; omega
theorem fac_fq {q : Nat} (h : IsFq q) : ∃ m, facL (q - 1) = [(2, m)] := by
  rcases h with h | h | h | h | h <;> subst h
  · exact ⟨1, by decide +kernel⟩
  · exact ⟨2, by decide +kernel⟩
  · exact ⟨4, by decide +kernel⟩
  · exact ⟨8, by decide +kernel⟩
  · exact ⟨16, by decide +kernel⟩
theorem gen_less {q : Nat} (h : IsFq q) (i : Nat) (h1 : 1 ≤ i) (h2 : i < gq q) : pmo i ((q - 1) / 2) q = 1 := by
  unfold pmo
  rw [← Fld.pm_eq q 17 i ((q - 1) / 2) (by have := fq_bd h; omega)]
  have hb := gq_bd h
  have hi : i = 1 ∨ i = 2 := by omega
  rcases h with h | h | h | h | h <;> subst h <;> rcases hi with hi | hi <;> subst hi <;> revert h2 <;> decide +kernel
theorem gen_at {q : Nat} (h : IsFq q) : pmo (gq q) ((q - 1) / 2) q ≠ 1 := by
  have := gp_half h
  unfold gp at this
  unfold pmo; exact this
theorem gen_there {q : Nat} (w : World) (h : IsFq q) :
    Calls Try.prog 111 #[.int .i64 q] w fun e w' => e = .returned (.bool true) ∧ Below w.heap.size w w' := by
  have hb := fq_bd h
  have C1 : Hid (∀ W, Calls Try.prog 67 #[.int .i64 q] W fun e w' => e = .returned (.bool true) ∧ Below W.heap.size W w') := fun W => by
    have := fact_Prime (q : Int) W (by omega)
    rw [pr_of_fq h] at this; exact this
  clear h
  go_enter Try.func111, Try.ntmps111
  go_wp2_with fail
  refine (C1.out _).mono ?_; rintro e w1 ⟨rfl, hb1⟩
  go_wp2_with fail
  go_ret
  exact ⟨rfl, hb1⟩
set_option maxHeartbeats 2000000 in
theorem gen_Gen {q : Nat} (w : World) (h : IsFq q) :
    Calls Try.prog 97 #[.int .i64 q] w fun e w' => e = .returned (.tuple #[.int .i64 (gq q : Nat), .int .i64 0]) ∧ Below w.heap.size w w' := by
  have hb := fq_bd h
  have hg := gq_bd h
  obtain ⟨fm, hfm⟩ := fac_fq h
  have C0 : Hid (∀ W, Calls Try.prog 111 #[.int .i64 q] W fun e w' => e = .returned (.bool true) ∧ Below W.heap.size W w') := fun W => gen_there W h
  obtain ⟨q1, hq1⟩ : ∃ q1, q - 1 = q1 := ⟨_, rfl⟩
  have hqi : (q : Int) - 1 = (q1 : Int) := by omega
  have C1 : Hid (∀ W, Calls Try.prog 90 #[.int .i64 q1] W (GivesP [(2, fm)] W)) := fun W => by
    have := fact_Factors (q - 1) W (by omega) (by omega)
    rw [hfm, hq1] at this; exact this
  obtain ⟨hf, hhf⟩ : ∃ hf, q1 / 2 = hf := ⟨_, rfl⟩
  have v1 : (q1 : Int).tdiv 2 = (hf : Int) := (divN q1 2 hf hhf).1
  have v2 : (q1 : Int) / 2 = (hf : Int) := (divN q1 2 hf hhf).2
  have HL : Hid (∀ i, 1 ≤ i → i < gq q → pmo i hf q = 1) := fun i h1 h2 => by have := gen_less h i h1 h2; rw [hq1, hhf] at this; exact this
  have HA : Hid (pmo (gq q) hf q ≠ 1) := by have := gen_at h; rw [hq1, hhf] at this; exact this
  obtain ⟨G, hG⟩ : ∃ G, gq q = G := ⟨_, rfl⟩
  rw [hG] at HL HA hg ⊢
  have hf2 : hf ≤ 131072 := by omega
  have hq3 : G < q := by omega
  clear h hfm hhf hG
  go_enter Try.func97, Try.ntmps97
  go_wp2_with fail
  go_step3
  go_wp2_with fail
  refine (C0.out _).mono ?_; rintro e w1 ⟨rfl, hb1⟩
  go_wp2_with fail
  refine (C1.out _).mono ?_; rintro e w2 ⟨v, rfl, hown, hb2⟩
  obtain ⟨a, cap, rfl, hcap, hgs⟩ := own_slice2 hown
  obtain ⟨g, rfl⟩ := hgs (by simp)
  have c0 : w2.cell? ⟨g, 0, none⟩ = some (.int .i64 2) := hown.cellAt 0 (by simp)
  have c1 : w2.cell? ⟨g, 1, none⟩ = some (.int .i64 fm) := hown.cellAt 1 (by simp)
  have hgl : g < w2.heap.size := World.block_lt_of_cell? _ _ c0
  have K0 := Lib.hid c0
  have K1 := Lib.hid c1
  have hbl := chain hb1 hb2
  have HBL := Lib.hid hbl
  simp only [List.length_singleton]
  clear hown hcap hgs c0 c1 hb1 hb2 hbl
  go_wp2_with fail
  go_step3
  go_wp2_with fail
  go_loopw [6] (fun x wr => ∃ j : Nat, j < G ∧ x = .int .i64 j ∧ Below w2.heap.size w2 wr) (fun x _ => G - (intOf x).toNat)
  case atStart => exact ⟨0, by omega, rfl, Below.refl _ _⟩
  case round =>
    obtain ⟨j, hj, rfl, hbel⟩ := hrel
    have hlt : (j : Int) < (q1 : Int) := by omega
    obtain ⟨wo, rfl⟩ : ∃ wo : World, wo = wr := ⟨_, rfl⟩
    go_wp2_with fail
    go_loopw [26] (fun x wi => (x = .int .i64 0 ∧ Below wo.heap.size wo wi) ∨ (x = .int .i64 1 ∧ j + 1 = G ∧ Below wo.heap.size wo wi)) (fun x _ => 1 - (intOf x).toNat)
    case atStart => exact Or.inl ⟨rfl, Below.refl _ _⟩
    case round =>
      rcases hrel with ⟨rfl, hbi⟩ | ⟨rfl, hjG, hbi⟩
      · have hb3 := chain hbel hbi
        have c0 := (hb3.cell (p := ⟨g, 0, none⟩) hgl).trans K0.out
        have c1 := (hb3.cell (p := ⟨g, 1, none⟩) hgl).trans K1.out
        obtain ⟨V, hV⟩ : ∃ V, pmo (j + 1) hf q = V := ⟨_, rfl⟩
        have C2 : Hid (∀ W, Calls Try.prog 112 #[.int .i64 ((j : Int) + 1), .int .i64 hf, .int .i64 q] W fun e w' => e = .returned (.int .i64 (V : Nat)) ∧ W = w') := fun W => by
          have := gen_power (j + 1) hf q W (by omega) (by omega) (by omega) hf2
          rw [hV] at this; simpa using this
        have HBI : Hid (Below wo.heap.size wo (wr.alloc (.cells #[.int .i64 2, .int .i64 fm] 114))) := hbi.alloc hbi.size _
        by_cases hlast : j + 1 = G
        · have hV1 : V ≠ 1 := by rw [← hV, hlast]; exact HA.out
          have t1 : ((V : Int) == 1) = false := bno (by omega)
          clear hV
          go_wp2_with fail
          refine (C2.out _).mono ?_; rintro e w' ⟨rfl, rfl⟩
          go_wp2_with fail
          go_roundw
          case rel => exact Or.inr ⟨rfl, hlast, HBI.out⟩
          case measure => simp [intOf]
        · have hV1 : V = 1 := by rw [← hV]; exact HL.out _ (by omega) (by omega)
          subst hV1
          clear hV
          have HB4 := Lib.hid (chain hbel HBI.out)
          have h9 : j + 1 < G := by omega
          go_wp2_with fail
          refine (C2.out _).mono ?_; rintro e w' ⟨rfl, rfl⟩
          go_wp2_with fail
          go_roundw
          case rel => exact ⟨j + 1, h9, by go_num, HB4.out⟩
          case measure => simp [intOf]; omega
      · have hb3 := Lib.hid (chain HBL.out (chain hbel hbi))
        have HR : Hid ((j : Int) + 1 = (G : Int)) := by unfold Hid; omega
        clear hbi hbel
        go_wp2_with fail
        rw [Exit.noGoto_ret]
        go_ret2
        exact ⟨by simp [HR.out], hb3.out⟩
theorem genL_fits {q : Nat} (h : IsFq q) : ∀ x ∈ genL q, fits .i64 x := by
  intro x hx; obtain ⟨i, _, rfl⟩ := List.mem_map.1 hx
  have hb := fq_bd h
  have := gp_lt q i (by omega)
  exact fits_i64.2 (by omega)
set_option maxHeartbeats 1000000 in
theorem gen_Powers {q : Nat} (w : World) (h : IsFq q) :
    Calls Try.prog 72 #[.int .i64 q] w (GivesRowE .i64 (genL q) 0 w) := by
  have hb := fq_bd h
  have hg := gq_bd h
  have C0 : Hid (∀ W, Calls Try.prog 97 #[.int .i64 q] W fun e w' => e = .returned (.tuple #[.int .i64 (gq q : Nat), .int .i64 0]) ∧ Below W.heap.size W w') := fun W => gen_Gen W h
  have H0 : Hid (gp q 0 = 1) := gp_zero h
  have HS : Hid (∀ i, gp q i * gq q % q = gp q (i + 1)) := fun i => (gp_succ q i).symm
  have HLT : Hid (∀ i, gp q i < q) := fun i => gp_lt q i (by omega)
  have HF := Lib.hid (genL_fits h)
  obtain ⟨G, hG⟩ : ∃ G, gq q = G := ⟨_, rfl⟩
  rw [hG] at C0 HS hg
  obtain ⟨n, hn⟩ : ∃ n, q - 1 = n := ⟨_, rfl⟩
  have hqi : (q : Int) - 1 = (n : Int) := by omega
  have HN := Lib.hid hn
  have z1 : ((q : Int) == 0) = false := bno (by omega)
  have z2 : ¬ (q : Int) = 0 := by omega
  obtain ⟨i0, hi, hz0, hz1, hz2⟩ := info_parts info_int
  clear hG h
  go_enter Try.func72, Try.ntmps72
  go_wp2_with fail
  refine (C0.out _).mono ?_; rintro e w1 ⟨rfl, hb1⟩
  go_wp2_with (at_make; refine wpList_make_full _ rfl _ _ 97 rfl w1.heap.size 3 i0 (.int .i64 0) 1 Try.underlying97 hi hz0 hz1 .i64 .i64 n n n rfl rfl rfl rfl (by rw [hz2]; omega) (by unfold maxLen; omega) (Nat.le_refl _) ?_)
  intro w2 hown0 hgrow0
  have hown := Own.made hown0 hgrow0
  clear hown0 hgrow0
  go_wp2_with fail
  go_loopw [7, 22] (fun p i wr => ∃ (k v : Nat), k ≤ n ∧ i = .int .i64 k ∧ p = .int .i64 v ∧ Hid (v = gp q k) ∧ v < q ∧ OwnAt .i64 3 w1 wr w1.heap.size n (fun j => if j < k then (gp q j : Nat) else 0)) (fun _ i _ => n - (intOf i).toNat)
  case atStart => exact ⟨0, 1, Nat.zero_le _, rfl, rfl, H0.out.symm, by omega, own_eqz hown (fun j => if_neg (by omega))⟩
  case round =>
    obtain ⟨k, v, hk, rfl, rfl, HV, hv, hown⟩ := hrel
    by_cases hlt : k < n
    · have hcell := hown.cell k hlt
      rw [if_neg (Nat.lt_irrefl k)] at hcell
      have hfz := hown.free k
      have hnext := hown.store k hlt v (f' := fun j => if j < k + 1 then (gp q j : Nat) else 0) (by rw [if_pos (by omega), HV.out]) (fun j _ hj => by
        by_cases h : j < k
        · rw [if_pos h, if_pos (by omega)]
        · rw [if_neg h, if_neg (by omega)])
      have HNX := Lib.hid hnext
      obtain ⟨s, hs⟩ : ∃ s, v * G = s := ⟨_, rfl⟩
      have hs1 : s ≤ 131072 * 131072 := by rw [← hs]; exact Nat.mul_le_mul (by omega) (by omega)
      have m1 := mulN v G s hs
      obtain ⟨r, hr⟩ : ∃ r, s % q = r := ⟨_, rfl⟩
      have r1 := (modN s q r hr).1
      have r2 := (modN s q r hr).2
      have HM : Hid (r = gp q (k + 1)) := by unfold Hid; rw [← hr, ← hs, HV.out]; exact HS.out k
      have hrq : r < q := by rw [HM.out]; exact HLT.out _
      clear hown hnext hr hs
      go_wp2_with fail
      go_roundw
      case rel => exact ⟨k + 1, r, by omega, by go_num, rfl, HM.out, hrq, HNX.out⟩
      case measure => simp [intOf]; omega
    · have hkn : k = n := by omega
      have hrow := hown.row (xs := genL q) (by rw [genL_len]; exact HN.out) HF.out (fun i hi => by rw [nth_genL q i (by rw [HN.out]; exact hi), if_pos (by omega)]) (by omega)
      have hb2 := Lib.hid (chain hb1 hown.below)
      have HR := Lib.hid hrow
      have HL : Hid ((genL q).length = n) := (genL_len q).trans HN.out
      clear hown hrow hb1
      go_wp2_with fail
      go_ret2
      exact ⟨some ⟨w1.heap.size, 0, none⟩, n, by simp [HL.out], HR.out, by rw [HL.out]; exact ⟨Nat.le_refl _, fun h => by cases h⟩, hb2.out⟩
theorem ref09_Order (q a r : Nat) (w : World) (hq1 : 2 ≤ q) (hq2 : q ≤ 131072) (ha : a < q) (hr : 1 ≤ r) (hr2 : r ≤ 131072) (h : pmo a r q = 1) (hm : ∀ i, 1 ≤ i → i < r → pmo a i q ≠ 1) :
    Calls Try.prog 80 #[.int .i64 q, .int .i64 a] w fun e w' => e = .returned (.int .i64 (r : Nat)) ∧ w = w' := by
  have H1 : Hid (pmo a r q = 1) := h
  have HM : Hid (∀ i, 1 ≤ i → i < r → pmo a i q ≠ 1) := hm
  have HS : Hid (∀ i, pmo a i q * a % q = pmo a (i + 1) q) := fun i => by unfold pmo; rw [Nat.mod_mul_mod, ← Nat.pow_succ]
  have H0 : Hid (a = pmo a 1 q) := by unfold Hid pmo; rw [Nat.pow_one, Nat.mod_eq_of_lt ha]
  have z1 : ((q : Int) == 0) = false := bno (by omega)
  have z2 : ¬ (q : Int) = 0 := by omega
  have o1 := (modN a q a (Nat.mod_eq_of_lt ha)).1
  have o2 := (modN a q a (Nat.mod_eq_of_lt ha)).2
  clear h hm
  go_enter Try.func80, Try.ntmps80
  go_wp2_with fail
  go_loop [5, 6] (fun x y => ∃ p k : Nat, x = .int .i64 p ∧ y = .int .i64 k ∧ 1 ≤ k ∧ k ≤ r ∧ p < q ∧ Hid (p = pmo a k q)) (fun x y => r - (intOf y).toNat)
  case atStart => exact ⟨a, 1, rfl, rfl, by omega, hr, ha, H0.out⟩
  case round =>
    obtain ⟨p, k, rfl, rfl, hk, hkr, hp, HP⟩ := hrel
    by_cases hl : k = r
    · have hp1 : p = 1 := by rw [HP.out, hl]; exact H1.out
      subst hp1
      have HR := Lib.hid hl
      clear hl
      go_wp2_with fail
      go_ret
      exact ⟨by simp [HR.out], rfl⟩
    · have hp1 : p ≠ 1 := by rw [HP.out]; exact HM.out k hk (by omega)
      have t1 : ((p : Int) != 1) = true := bdiff (by omega)
      obtain ⟨s, hs⟩ : ∃ s, p * a = s := ⟨_, rfl⟩
      have hs1 := prod_bd hp ha hq2
      rw [hs] at hs1
      have m1 := mulN p a s hs
      obtain ⟨t, ht⟩ : ∃ t, s % q = t := ⟨_, rfl⟩
      have r1 := (modN s q t ht).1
      have r2 := (modN s q t ht).2
      have htq : t < q := by rw [← ht]; exact Nat.mod_lt _ (by omega)
      have HN : Hid (t = pmo a (k + 1) q) := by unfold Hid; rw [← HS.out, ← HP.out, hs, ht]
      clear hs ht
      go_wp2_with fail
      go_round
      case rel => exact ⟨t, k + 1, rfl, by go_num, by omega, by omega, htq, HN.out⟩
      case measure => simp [intOf]; omega
/-- The orders of the numbers below the generator, and its own. -/
def ordS (q a : Nat) : Nat := ((List.range q).find? fun r => decide (1 ≤ r) && (Fld.pm q 17 a r == 1)).getD 0
theorem pmo_pm {a n q : Nat} (h : n < 131072) : pmo a n q = Fld.pm q 17 a n := by
  unfold pmo; exact (Fld.pm_eq q 17 a n (by omega)).symm
theorem ord_all : ∀ q ∈ [3, 5, 17], ∀ a ∈ List.range 4, a < 1 ∨ gq q < a ∨ (1 ≤ ordS q a ∧ ordS q a < q ∧ Fld.pm q 17 a (ordS q a) = 1 ∧ (∀ i ∈ List.range q, i < 1 ∨ ordS q a ≤ i ∨ Fld.pm q 17 a i ≠ 1) ∧ ((a = gq q) = (ordS q a = q - 1))) := by decide +kernel
set_option maxHeartbeats 1000000 in
theorem ref09_Gen {q : Nat} (w : World) (h : IsFq q) (h17 : q ≤ 17) :
    Calls Try.prog 48 #[.int .i64 q] w fun e w' => e = .returned (.int .i64 (gq q : Nat)) ∧ w = w' := by
  have hb := fq_bd h
  have hg := gq_bd h
  have C0 : Hid (∀ a, 1 ≤ a → a ≤ gq q → ∃ r : Nat, r < q ∧ (a = gq q ↔ r = q - 1) ∧ ∀ W, Calls Try.prog 80 #[.int .i64 q, .int .i64 a] W fun e w' => e = .returned (.int .i64 (r : Nat)) ∧ W = w') := fun a h1 h2 => by
    have hq : q ∈ [3, 5, 17] := by unfold IsFq at h; simp; omega
    rcases ord_all q hq a (by simp; omega) with e | e | ⟨e1, e2, e3, e4, e5⟩
    · omega
    · omega
    · exact ⟨ordS q a, e2, by rw [e5], fun W => ref09_Order q a _ W (by omega) (by omega) (by omega) e1 (by omega) (by rw [pmo_pm (by omega)]; exact e3) (fun i hi hir => by
        rw [pmo_pm (by omega)]
        rcases e4 i (by simp; omega) with x | x | x
        · omega
        · omega
        · exact x)⟩
  obtain ⟨G, hG⟩ : ∃ G, gq q = G := ⟨_, rfl⟩
  rw [hG] at C0 hg ⊢
  obtain ⟨n, hn⟩ : ∃ n, q - 1 = n := ⟨_, rfl⟩
  have hqi : (q : Int) - 1 = (n : Int) := by omega
  rw [hn] at C0
  clear h hG
  go_enter Try.func48, Try.ntmps48
  go_wp2_with fail
  go_loop [3] (fun x => ∃ j : Nat, x = .int .i64 j ∧ 1 ≤ j ∧ j ≤ G) (fun x => G - (intOf x).toNat)
  case atStart => exact ⟨1, rfl, by omega, by omega⟩
  case round =>
    obtain ⟨j, rfl, hj1, hj2⟩ := hrel
    obtain ⟨r, hr, hiff, hc⟩ := C0.out j hj1 hj2
    have HC := Lib.hid hc
    by_cases hl : j = G
    · have hrn : r = n := hiff.1 hl
      have t1 : ((r : Int) != (n : Int)) = false := bfalse' (by omega)
      have HR := Lib.hid hl
      clear hl hrn hiff hc
      go_wp2_with fail
      refine (HC.out _).mono ?_; rintro e w' ⟨rfl, rfl⟩
      go_wp2_with fail
      go_ret
      exact ⟨by simp [HR.out], rfl⟩
    · have hrn : r ≠ n := fun e => hl (hiff.2 e)
      have t1 : ((r : Int) != (n : Int)) = true := bdiff' (by omega)
      clear hrn hiff hc
      go_wp2_with fail
      refine (HC.out _).mono ?_; rintro e w' ⟨rfl, rfl⟩
      go_wp2_with fail
      go_round
      case rel => exact ⟨j + 1, by go_num, by omega, by omega⟩
      case measure => simp [intOf]; omega
end Go.Proofs.Ytcckfeikaolfgaa

namespace Go.Proofs.Ytcckfeikaolfgaa
open Go.RowKit
set_option linter.unusedVariables false
set_option linter.unusedSimpArgs false
set_option maxRecDepth 100000
theorem flipW {P : Program} {f : FuncId} {args : Array Value} {w : World} {x : Ending} (h : Calls P f args w fun e w' => e = x ∧ w = w') : Calls P f args w fun e w' => e = x ∧ w' = w := h.mono fun _ _ ⟨h1, h2⟩ => ⟨h1, h2.symm⟩
end Go.Proofs.Ytcckfeikaolfgaa

namespace Go.Proofs.Ytcckfeikaolfgaa
open Go.RowKit Sm
set_option linter.unusedVariables false
set_option linter.unusedSimpArgs false
set_option maxRecDepth 100000
theorem cellFar (W : World) (g r b i : Nat) (v : Value) (h : g ≠ b) : ((W.setCell ⟨g, r, none⟩ v).drew).cell? ⟨b, i, none⟩ = W.cell? ⟨b, i, none⟩ :=
  World.cell?_setCell_other W ⟨g, r, none⟩ ⟨b, i, none⟩ v (fun e => h (by cases e; rfl))
/-- What a call leaves that writes block g alone. -/
def Kept (g : Nat) (W W' : World) : Prop := W.heap.size ≤ W'.heap.size ∧ ∀ b i, b ≠ g → b < W.heap.size → W'.cell? ⟨b, i, none⟩ = W.cell? ⟨b, i, none⟩
theorem Kept.trans {g : Nat} {A B C : World} (h : Kept g A B) (k : Kept g B C) : Kept g A C := ⟨Nat.le_trans h.1 k.1, fun b i hb hl => (k.2 b i hb (Nat.lt_of_lt_of_le hl h.1)).trans (h.2 b i hb hl)⟩
set_option maxHeartbeats 1000000 in
theorem stock_one1 (a b s d t n g px py pw : Nat) (ax aw : Option Addr) (cx cw : Nat) (xs ws : List Int) (f : Nat → Int) (w W : World)
    (hx : Row .u64 w ax xs) (hw : Row .u64 w aw ws) (hxl : xs.length = n) (hwl : ws.length = n) (hn : n ≤ 16777216)
    (hpx : W.cell? ⟨px, 0, none⟩ = some (.slice ax n cx)) (hpy : W.cell? ⟨py, 0, none⟩ = some (.slice (some ⟨g, 0, none⟩) n n)) (hpw : W.cell? ⟨pw, 0, none⟩ = some (.slice aw n cw))
    (n1 : g ≠ px) (n2 : g ≠ py) (n3 : g ≠ pw) (hown : OwnAt .u64 34 w W g n f) (ha : a < n) (hb : b < n) (hs : s < n) (hd : d < n) (ht : t < n) :
    Calls Try.prog 122 #[.int .i64 a, .int .i64 b, .int .i64 s, .int .i64 d, .int .i64 t, .pointer (some ⟨px, 0, none⟩), .pointer (some ⟨py, 0, none⟩), .pointer (some ⟨pw, 0, none⟩)] W
      fun e W' => (∃ v, e = .returned v) ∧ Kept g W W' ∧ OwnAt .u64 34 w W' g n (fun j => if j = d then (nth xs a - nth xs b) * nth ws t % 18446744069414584321 else if j = s then (nth xs a + nth xs b) % 18446744069414584321 else f j) := by
  have bx := World.block_lt_of_cell? W _ hpx
  have by' := World.block_lt_of_cell? W _ hpy
  have bw := World.block_lt_of_cell? W _ hpw
  obtain ⟨xb, xo, rfl, hcx⟩ := (hx.below hown.below).at (by omega)
  obtain ⟨wb, wo, rfl, hcw⟩ := (hw.below hown.below).at (by omega)
  have hxa := hcx a (by omega)
  have hxb := hcx b (by omega)
  have hwt := hcw t (by omega)
  have fa := fits_u64.1 (hx.wf _ (nth_mem (show a < xs.length by omega)))
  have fb := fits_u64.1 (hx.wf _ (nth_mem (show b < xs.length by omega)))
  have ft := fits_u64.1 (hw.wf _ (nth_mem (show t < ws.length by omega)))
  -- the rows lie ahead of the call's own block
  have hxg : xb < w.heap.size := by
    rcases hx.lies with h1 | ⟨b', o', h1, h2⟩
    · subst h1; simp at hxl; omega
    · cases h1; exact World.block_lt_of_cell? w _ (h2 0 (by omega))
  have hwg : wb < w.heap.size := by
    rcases hw.lies with h1 | ⟨b', o', h1, h2⟩
    · subst h1; simp at hwl; omega
    · cases h1; exact World.block_lt_of_cell? w _ (h2 0 (by omega))
  have hbase := hown.base
  have hst1 := (hown.store s hs ((nth xs a + nth xs b) % 18446744069414584321) (f' := fun j => if j = s then (nth xs a + nth xs b) % 18446744069414584321 else f j) (if_pos rfl) (fun j _ hj => if_neg hj)).later (Below.refl _ _).drew
  have hst2 := (hst1.store d hd ((nth xs a - nth xs b) * nth ws t % 18446744069414584321) (f' := fun j => if j = d then (nth xs a - nth xs b) * nth ws t % 18446744069414584321 else if j = s then (nth xs a + nth xs b) % 18446744069414584321 else f j) (if_pos rfl) (fun j _ hj => if_neg hj)).later (Below.refl _ _).drew
  obtain ⟨x, hxx⟩ : ∃ x, nth xs a = x := ⟨_, rfl⟩
  obtain ⟨y, hyy⟩ : ∃ y, nth xs b = y := ⟨_, rfl⟩
  obtain ⟨z, hzz⟩ : ∃ z, nth ws t = z := ⟨_, rfl⟩
  rw [hxx, hyy, hzz] at hst2
  rw [hxx, hyy] at hst1
  rw [hxx] at hxa fa
  rw [hyy] at hxb fb
  rw [hzz] at hwt ft
  rw [hxx, hyy, hzz]
  have hc1 := hown.cell s hs
  have hf1 := hown.free s
  have hc2 := hst1.cell d hd
  have hf2 := hst1.free d
  obtain ⟨v1, hv1⟩ : ∃ v1, f s = v1 := ⟨_, rfl⟩
  rw [hv1] at hc1
  obtain ⟨v2, hv2⟩ : ∃ v2, (if d = s then (x + y) % 18446744069414584321 else f d) = v2 := ⟨_, rfl⟩
  rw [hv2] at hc2
  have hsub : 0 ≤ (x - y) % 18446744069414584321 ∧ (x - y) % 18446744069414584321 < 18446744069414584321 := by omega
  have hmul : (x - y) % 18446744069414584321 * z % 18446744069414584321 = (x - y) * z % 18446744069414584321 := modmul_l _ _ _
  have HM := Lib.hid hmul
  have hkeep : Kept g W (((((W.setCell ⟨g, s, none⟩ (.int .u64 ((x + y) % 18446744069414584321))).drew).setCell ⟨g, d, none⟩ (.int .u64 ((x - y) * z % 18446744069414584321))).drew)) := ⟨by simp, fun b' i hb' _ => by
    rw [cellFar _ _ _ _ _ _ (Ne.symm hb'), cellFar _ _ _ _ _ _ (Ne.symm hb')]⟩
  have HK := Lib.hid hkeep
  have HST := Lib.hid hst2
  have m1 : ∀ i : Nat, ((W.setCell ⟨g, s, none⟩ (.int .u64 ((x + y) % 18446744069414584321))).drew).cell? ⟨px, 0, none⟩ = some (.slice (some ⟨xb, xo, none⟩) n cx) := fun i => (cellFar _ _ _ _ _ _ n1).trans hpx
  have q1 := m1 0
  have q2 := (cellFar W g s py 0 (.int .u64 ((x + y) % 18446744069414584321)) n2).trans hpy
  have q3 := (cellFar W g s pw 0 (.int .u64 ((x + y) % 18446744069414584321)) n3).trans hpw
  have q4 := (cellFar W g s xb (xo + a) (.int .u64 ((x + y) % 18446744069414584321)) (by omega)).trans hxa
  have q5 := (cellFar W g s xb (xo + b) (.int .u64 ((x + y) % 18446744069414584321)) (by omega)).trans hxb
  have q6 := (cellFar W g s wb (wo + t) (.int .u64 ((x + y) % 18446744069414584321)) (by omega)).trans hwt
  have hlt1 : W.heap.size ≤ ((W.setCell ⟨g, s, none⟩ (.int .u64 ((x + y) % 18446744069414584321))).drew).heap.size := by simp
  obtain ⟨W1, hW1⟩ : ∃ W1, (W.setCell ⟨g, s, none⟩ (.int .u64 ((x + y) % 18446744069414584321))).drew = W1 := ⟨_, rfl⟩
  rw [hW1] at q1 q2 q3 q4 q5 q6 hc2 hf2 HK HST
  have HW1 := Lib.hid hW1
  have g1 : (0 : Int) ≤ (a : Int) := by omega
  have g2 : (a : Int) < (n : Int) := by omega
  have g3 : (0 : Int) ≤ (b : Int) := by omega
  have g4 : (b : Int) < (n : Int) := by omega
  have g5 : (0 : Int) ≤ (s : Int) := by omega
  have g6 : (s : Int) < (n : Int) := by omega
  have g7 : (0 : Int) ≤ (d : Int) := by omega
  have g8 : (d : Int) < (n : Int) := by omega
  have g9 : (0 : Int) ≤ (t : Int) := by omega
  have g10 : (t : Int) < (n : Int) := by omega
  clear hx hw hxl hwl hcx hcw hst1 hst2 hxx hyy hzz hv1 hv2 hmul hkeep m1 hown hW1 hlt1
  go_enter Try.func122, Try.ntmps122
  go_wp2_with fail
  refine wp_region_still_tail 11 (by kernel_rfl) (by kernel_rfl) ?_; simp only [List.take_succ_cons, List.take_zero, List.drop_succ_cons, List.drop_zero]
  repeat still_step
  still_call (flipW (gold_Add x y _ (by omega) (by omega) (by omega) (by omega)))
  try refine wpStill_nil ?_
  go_wp2_with fail
  rw [HW1.out]
  refine wp_region_still_tail 16 (by kernel_rfl) (by kernel_rfl) ?_; simp only [List.take_succ_cons, List.take_zero, List.drop_succ_cons, List.drop_zero]
  repeat still_step
  still_call (flipW (gold_Sub x y _ (by omega) (by omega) (by omega) (by omega)))
  repeat still_step
  still_call (flipW (gold_Mul ((x - y) % 18446744069414584321) z _ (by omega) (by omega) (by omega) (by omega)))
  try refine wpStill_nil ?_
  rw [HM.out]
  go_wp2_with fail
  refine bodyPost_end (results_none rfl _ _ _) rfl ?_
  exact ⟨⟨_, rfl⟩, HK.out, HST.out⟩
end Go.Proofs.Ytcckfeikaolfgaa

namespace Go.Proofs.Ytcckfeikaolfgaa
open Go.RowKit Sm
set_option linter.unusedVariables false
set_option linter.unusedSimpArgs false
set_option maxRecDepth 100000
theorem own_eqn {k : IntKind} {e : TypeId} {w wr : World} {g n : Nat} {f f' : Nat → Int} (h : OwnAt k e w wr g n f) (he : ∀ j, j < n → f' j = f j) : OwnAt k e w wr g n f' := by
  refine ⟨?_, h.below⟩
  have e1 : ((List.range n).map fun j => Value.int k (f' j)) = ((List.range n).map fun j => Value.int k (f j)) := List.map_congr_left (fun j hj => by rw [he j (by simpa using hj)])
  rw [e1]; exact h.own
/-- What stands at place j when all pairs ahead of (i, q) are done. -/
def doneF (xs ws : List Int) (s i q j : Nat) : Int := if j / s / 2 < i ∨ (j / s / 2 = i ∧ j % s < q) then passAt xs ws s j else 0
theorem doneF_start (xs ws : List Int) (s j : Nat) : doneF xs ws s 0 0 j = 0 := by unfold doneF; generalize j / s / 2 = p; generalize j % s = r; rw [if_neg (by omega)]
theorem doneF_row (xs ws : List Int) (s i j : Nat) (hs : 0 < s) : doneF xs ws s (i + 1) 0 j = doneF xs ws s i s j := by
  have := Nat.mod_lt j hs
  unfold doneF
  generalize j / s / 2 = p at *
  generalize j % s = r at *
  by_cases h : p < i + 1
  · rw [if_pos (.inl h), if_pos (by omega)]
  · rw [if_neg (by omega), if_neg (by omega)]
theorem doneF_end (xs ws : List Int) (s h j n : Nat) (hs : 0 < s) (hn : n = s * (2 * h)) (hj : j < n) : doneF xs ws s h 0 j = passAt xs ws s j := by
  unfold doneF
  rw [if_pos]
  left
  have : j / s < 2 * h := Nat.div_lt_of_lt_mul (by omega)
  omega
theorem place_of (s q t : Nat) (hq : q < s) : (q + s * t) % s = q ∧ (q + s * t) / s = t :=
  ⟨by rw [Nat.add_mul_mod_self_left, Nat.mod_eq_of_lt hq], by rw [Nat.add_mul_div_left _ _ (by omega), Nat.div_eq_of_lt hq, Nat.zero_add]⟩
theorem doneF_step (xs ws : List Int) (s h i q n j : Nat) (hx : xs.length = n) (hn : n = s * (2 * h)) (hq : q < s) :
    doneF xs ws s i (q + 1) j = if j = q + s * (2 * i + 1) then (nth xs (q + s * i) - nth xs (q + s * (i + h))) * nth ws (i * s) % 18446744069414584321 else if j = q + s * 2 * i then (nth xs (q + s * i) + nth xs (q + s * (i + h))) % 18446744069414584321 else doneF xs ws s i q j := by
  have hh : n / 2 = s * h := by rw [hn, show s * (2 * h) = 2 * (s * h) by grind]; omega
  have e2 : q + s * 2 * i = q + s * (2 * i) := by rw [Nat.mul_assoc]
  have e3 : q + s * (i + h) = q + s * i + s * h := by rw [Nat.mul_add]; omega
  rw [e2, e3]
  by_cases h1 : j = q + s * (2 * i + 1)
  · rw [if_pos h1]
    have hp := place_of s q (2 * i + 1) hq
    subst h1
    unfold doneF
    rw [if_pos (by rw [hp.1, hp.2]; omega)]
    unfold passAt
    rw [hp.1, hp.2, hx, hh, if_neg (by omega), show (2 * i + 1) / 2 = i by omega]
  · rw [if_neg h1]
    by_cases h2 : j = q + s * (2 * i)
    · rw [if_pos h2]
      have hp := place_of s q (2 * i) hq
      subst h2
      unfold doneF
      rw [if_pos (by rw [hp.1, hp.2]; omega)]
      unfold passAt
      rw [hp.1, hp.2, hx, hh, if_pos (by omega), show 2 * i / 2 = i by omega]
    · rw [if_neg h2]
      have key : ¬ (j / s / 2 = i ∧ j % s = q) := by
        rintro ⟨k1, k2⟩
        have k3 := Nat.div_add_mod j s
        rw [k2] at k3
        rcases (show j / s = 2 * i ∨ j / s = 2 * i + 1 by omega) with k4 | k4
        · rw [k4] at k3; omega
        · rw [k4] at k3; omega
      unfold doneF
      generalize j / s / 2 = p at *
      generalize j % s = r at *
      by_cases h3 : p < i ∨ (p = i ∧ r < q)
      · rw [if_pos h3, if_pos (by omega)]
      · rw [if_neg h3, if_neg (by omega)]
/-- The cells that a pass reads. -/
structure RunCells (wr : World) (g pb px py pw n s : Nat) (ax aw : Option Addr) (cx cw : Nat) (fv : Value) : Prop where
  b0 : wr.cell? ⟨pb, 0, none⟩ = some (.int .i64 n)
  b1 : wr.cell? ⟨pb, 1, none⟩ = some (.int .i64 s)
  b2 : wr.cell? ⟨pb, 2, none⟩ = some fv
  px : wr.cell? ⟨px, 0, none⟩ = some (.slice ax n cx)
  py : wr.cell? ⟨py, 0, none⟩ = some (.slice (some ⟨g, 0, none⟩) n n)
  pw : wr.cell? ⟨pw, 0, none⟩ = some (.slice aw n cw)
theorem RunCells.kept {W W' : World} {g pb px py pw n s : Nat} {ax aw : Option Addr} {cx cw : Nat} {fv : Value} (h : RunCells W g pb px py pw n s ax aw cx cw fv) (hk : Kept g W W') (n0 : pb ≠ g) (n1 : px ≠ g) (n2 : py ≠ g) (n3 : pw ≠ g) : RunCells W' g pb px py pw n s ax aw cx cw fv :=
  ⟨(hk.2 _ _ n0 (World.block_lt_of_cell? W _ h.b0)).trans h.b0, (hk.2 _ _ n0 (World.block_lt_of_cell? W _ h.b0)).trans h.b1, (hk.2 _ _ n0 (World.block_lt_of_cell? W _ h.b0)).trans h.b2,
   (hk.2 _ _ n1 (World.block_lt_of_cell? W _ h.px)).trans h.px, (hk.2 _ _ n2 (World.block_lt_of_cell? W _ h.py)).trans h.py, (hk.2 _ _ n3 (World.block_lt_of_cell? W _ h.pw)).trans h.pw⟩
set_option maxHeartbeats 2000000 in
theorem stock_run (n s h g px py pw : Nat) (ax aw : Option Addr) (cx cw : Nat) (xs ws : List Int) (w W : World)
    (hx : Row .u64 w ax xs) (hw : Row .u64 w aw ws) (hxl : xs.length = n) (hwl : ws.length = n) (hn : n ≤ 16777216) (hns : n = s * (2 * h)) (hs : 0 < s) (hh : 0 < h)
    (hpx : W.cell? ⟨px, 0, none⟩ = some (.slice ax n cx)) (hpy : W.cell? ⟨py, 0, none⟩ = some (.slice (some ⟨g, 0, none⟩) n n)) (hpw : W.cell? ⟨pw, 0, none⟩ = some (.slice aw n cw))
    (n1 : px ≠ g) (n2 : py ≠ g) (n3 : pw ≠ g) (hown : OwnAt .u64 34 w W g n (fun _ => 0)) :
    Calls Try.prog 125 #[.agg #[.int .i64 n, .int .i64 s, .func (.func 122) #[] #[.pointer (some ⟨px, 0, none⟩), .pointer (some ⟨py, 0, none⟩), .pointer (some ⟨pw, 0, none⟩)]]] W
      fun e W' => (∃ v, e = .returned v) ∧ Kept g W W' ∧ OwnAt .u64 34 w W' g n (passAt xs ws s) := by
  have HX := Lib.hid hx
  have HW := Lib.hid hw
  have HXL := Lib.hid hxl
  have HWL := Lib.hid hwl
  have HNS := Lib.hid hns
  have h2s : s * 2 ≤ n := by rw [hns]; exact Nat.mul_le_mul_left s (by omega)
  have hhn : h ≤ n := by
    rw [hns]
    calc h ≤ 1 * (2 * h) := by omega
      _ ≤ s * (2 * h) := Nat.mul_le_mul_right _ hs
  have eh : (n : Int) / (2 * (s : Int)) = (h : Int) := by
    have e : n = 2 * s * h := by rw [hns]; grind
    have : n / (2 * s) = h := by rw [e, Nat.mul_div_cancel_left _ (by omega)]
    rw [show (2 : Int) * (s : Int) = ((2 * s : Nat) : Int) by omega, ← Int.natCast_ediv, this]
  have ehw : IntKind.i64.wrap (h : Int) = (h : Int) := IntWalk.i64_in _ (by omega)
  have e0 : ((2 * (s : Int)) == 0) = false := by simp; omega
  have e0' : ¬ (2 * (s : Int)) = 0 := by omega
  have e0'' : ¬ s = 0 := by omega
  have hcells : RunCells (W.alloc (.cells #[.int .i64 n, .int .i64 s, .func (.func 122) #[] #[.pointer (some ⟨px, 0, none⟩), .pointer (some ⟨py, 0, none⟩), .pointer (some ⟨pw, 0, none⟩)]] 134)) g W.heap.size px py pw n s ax aw cx cw (.func (.func 122) #[] #[.pointer (some ⟨px, 0, none⟩), .pointer (some ⟨py, 0, none⟩), .pointer (some ⟨pw, 0, none⟩)]) :=
    ⟨by simp, by simp, by simp, (cell_past _ _ _ (World.block_lt_of_cell? W _ hpx)).trans hpx, (cell_past _ _ _ (World.block_lt_of_cell? W _ hpy)).trans hpy, (cell_past _ _ _ (World.block_lt_of_cell? W _ hpw)).trans hpw⟩
  have hgW := hown.base
  have hown1 := own_eqn (hown.later ((Below.refl _ _).alloc (Nat.le_refl _) (.cells #[.int .i64 n, .int .i64 s, .func (.func 122) #[] #[.pointer (some ⟨px, 0, none⟩), .pointer (some ⟨py, 0, none⟩), .pointer (some ⟨pw, 0, none⟩)]] 134))) (fun j _ => doneF_start xs ws s j)
  have HC := Lib.hid hcells
  have HO := Lib.hid hown1
  have HN0 : Hid (W.heap.size ≠ g ∧ px ≠ g ∧ py ≠ g ∧ pw ≠ g) := ⟨by omega, n1, n2, n3⟩
  clear hx hw hxl hwl hns hpx hpy hpw hown hcells hown1 n1 n2 n3
  go_enter Try.func125, Try.ntmps125
  go_wp2_with fail
  go_loopw [12] (fun v wr => ∃ i : Nat, i ≤ h ∧ v = .int .i64 i ∧ OwnAt .u64 34 w wr g n (doneF xs ws s i 0) ∧ Kept g W wr ∧ RunCells wr g W.heap.size px py pw n s ax aw cx cw (.func (.func 122) #[] #[.pointer (some ⟨px, 0, none⟩), .pointer (some ⟨py, 0, none⟩), .pointer (some ⟨pw, 0, none⟩)])) (fun v _ => h - (intOf v).toNat)
  case atStart => exact ⟨0, Nat.zero_le _, rfl, HO.out, ⟨by simp, fun b i _ hb => cell_past _ _ _ hb⟩, HC.out⟩
  case round =>
    obtain ⟨i, hi, rfl, hown, hkept, hcells⟩ := hrel
    by_cases hlt : i < h
    · obtain ⟨wo, hwo⟩ : ∃ wo : World, wo = wr := ⟨_, rfl⟩
      subst hwo
      have hb1 := hcells.b1
      go_wp2_with fail
      clear hb1
      go_loopw [17] (fun v wr => ∃ q : Nat, q ≤ s ∧ v = .int .i64 q ∧ OwnAt .u64 34 w wr g n (doneF xs ws s i q) ∧ Kept g W wr ∧ RunCells wr g W.heap.size px py pw n s ax aw cx cw (.func (.func 122) #[] #[.pointer (some ⟨px, 0, none⟩), .pointer (some ⟨py, 0, none⟩), .pointer (some ⟨pw, 0, none⟩)])) (fun v _ => s - (intOf v).toNat)
      case atStart => exact ⟨0, Nat.zero_le _, rfl, hown, hkept, hcells⟩
      case round =>
        obtain ⟨q, hq, rfl, hown, hkept, hcells⟩ := hrel
        by_cases hqs : q < s
        · have hstep := fun j (hj : j < n) => doneF_step xs ws s h i q n j HXL.out HNS.out hqs
          have hle1 : s * (2 * i + 2) ≤ n := by rw [HNS.out]; exact Nat.mul_le_mul_left s (by omega)
          have hle2 : s * (i + h + 1) ≤ n := by rw [HNS.out]; exact Nat.mul_le_mul_left s (by omega)
          have hle3 : s * (i + 1) ≤ n := by rw [HNS.out]; exact Nat.mul_le_mul_left s (by omega)
          rw [Nat.mul_add] at hle1 hle2 hle3
          have x1 : s * (2 * i + 1) = s * (2 * i) + s := by rw [Nat.mul_add, Nat.mul_one]
          have x2 : s * 2 * i = s * (2 * i) := Nat.mul_assoc _ _ _
          have y1 : (s : Int) * (i : Int) = ((s * i : Nat) : Int) := (Int.natCast_mul _ _).symm
          have y2 : (s : Int) * ((i : Int) + (h : Int)) = ((s * (i + h) : Nat) : Int) := by rw [Int.natCast_mul, Int.natCast_add]
          have y3 : (s : Int) * 2 * (i : Int) = ((s * 2 * i : Nat) : Int) := by rw [Int.natCast_mul, Int.natCast_mul]; rfl
          have y4 : (s : Int) * (2 * (i : Int) + 1) = ((s * (2 * i + 1) : Nat) : Int) := by rw [Int.natCast_mul, Int.natCast_add, Int.natCast_mul]; rfl
          have y5 : (i : Int) * (s : Int) = ((i * s : Nat) : Int) := (Int.natCast_mul _ _).symm
          have x5 : i * s = s * i := Nat.mul_comm _ _
          rw [x2] at y3 hstep
          rw [x1] at y4 hstep
          rw [x5] at y5 hstep
          obtain ⟨A, hA⟩ : ∃ A, s * i = A := ⟨_, rfl⟩
          obtain ⟨B, hB⟩ : ∃ B, s * (i + h) = B := ⟨_, rfl⟩
          obtain ⟨C, hC⟩ : ∃ C, s * (2 * i) = C := ⟨_, rfl⟩
          rw [hA] at y1 y5 hstep hle3
          rw [hB] at y2 hstep hle2
          rw [hC] at y3 y4 hstep hle1
          have hcall := stock_one1 (q + A) (q + B) (q + C) (q + (C + s)) A n g px py pw ax aw cx cw xs ws (doneF xs ws s i q) w wr HX.out HW.out HXL.out HWL.out hn hcells.px hcells.py hcells.pw HN0.out.2.1.symm HN0.out.2.2.1.symm HN0.out.2.2.2.symm hown (by omega) (by omega) (by omega) (by omega) (by omega)
          have HCALL := Lib.hid hcall
          have HSTEP := Lib.hid hstep
          have HKEPT := Lib.hid hkept
          have HCS := Lib.hid hcells
          have hb1 := hcells.b1
          have hb2 := hcells.b2
          have c1 : ((q + A : Nat) : Int) = (q : Int) + (A : Int) := Int.natCast_add _ _
          have c2 : ((q + B : Nat) : Int) = (q : Int) + (B : Int) := Int.natCast_add _ _
          have c3 : ((q + C : Nat) : Int) = (q : Int) + (C : Int) := Int.natCast_add _ _
          have c4 : ((q + (C + s) : Nat) : Int) = (q : Int) + ((C + s : Nat) : Int) := Int.natCast_add _ _
          have HCC := Lib.hid (And.intro c1 (And.intro c2 (And.intro c3 c4)))
          have y4' : (s : Int) * (2 * (i : Int) + 1) = (C : Int) + (s : Int) := by rw [y4]; omega
          have A1 : A ≤ 16777216 := by omega
          have B1 : B ≤ 16777216 := by omega
          have C1 : C + s ≤ 16777216 := by omega
          have q1 : q ≤ 16777216 := by omega
          clear hA hB hC hcall hstep hkept hcells hown y4 x1 x2 x5 c1 c2 c3 c4 hle1 hle2 hle3
          go_wp2_with fail
          have hc := HCALL.out
          simp only [Int.natCast_add] at hc
          refine hc.mono ?_
          rintro e W' ⟨⟨v, rfl⟩, hk, hown'⟩
          have HO' := Lib.hid (own_eqn hown' (fun j hj => HSTEP.out j hj))
          have HK' := Lib.hid hk
          clear hown' hk hc
          go_wp2_with fail
          go_roundw
          case rel => exact ⟨q + 1, by omega, by go_num, HO'.out, HKEPT.out.trans HK'.out, HCS.out.kept HK'.out HN0.out.1 HN0.out.2.1 HN0.out.2.2.1 HN0.out.2.2.2⟩
          case measure => simp [intOf]; omega
        · obtain rfl : q = s := by omega
          have HO' := Lib.hid (own_eqn hown (fun j _ => doneF_row xs ws q i j hs))
          have HKEPT := Lib.hid hkept
          have HCS := Lib.hid hcells
          clear hown hkept hcells
          go_wp2_with fail
          go_roundw
          case rel => exact ⟨i + 1, by omega, by go_num, HO'.out, HKEPT.out, HCS.out⟩
          case measure => simp [intOf]; omega
    · obtain rfl : i = h := by omega
      have HO' := Lib.hid (own_eqn hown (fun j hj => (doneF_end xs ws s i j n hs HNS.out hj).symm))
      have HKEPT := Lib.hid hkept
      clear hown hkept hcells
      go_wp2_with fail
      refine bodyPost_end (results_none rfl _ _ _) rfl ?_
      exact ⟨⟨_, rfl⟩, HKEPT.out, HO'.out⟩
end Go.Proofs.Ytcckfeikaolfgaa

namespace Go.Proofs.Ytcckfeikaolfgaa
open Go.RowKit Sm
set_option linter.unusedVariables false
set_option linter.unusedSimpArgs false
set_option maxRecDepth 100000
theorem madeAt {k : IntKind} {e : TypeId} {w wx w1 : World} {g n : Nat} (hb : Below w.heap.size w wx) (h : w1.ownsRow w.heap.size e 1 (.slice (some ⟨g, 0, none⟩) n n) n (madeCells #[Value.int k 0] n).toList) (hg : wx.grownBy w1 none) :
    OwnAt k e w w1 g n (fun _ => 0) := by
  refine ⟨?_, hb.grown hg hb.size (by simp)⟩
  have e1 : (madeCells #[Value.int k 0] n).toList = (List.range n).map fun j => Value.int k 0 := by
    rw [toList_madeCells_one]
    apply List.ext_getElem (by simp)
    intro i h1 h2
    simp
  rw [e1] at h
  exact h
set_option maxHeartbeats 1000000 in
theorem stock_one (n s h : Nat) (ax aw : Option Addr) (cx cw : Nat) (xs ws : List Int) (w : World)
    (hx : Row .u64 w ax xs) (hw : Row .u64 w aw ws) (hxl : xs.length = n) (hwl : ws.length = n) (hn : n ≤ 16777216) (hns : n = s * (2 * h)) (hs : 0 < s) (hh : 0 < h) :
    Calls Try.prog 113 #[.slice ax n cx, .int .i64 s, .slice aw n cw] w (GivesRow .u64 (passL xs ws s) w) := by
  obtain ⟨i0, hi, hz0, hz1, hz2⟩ := info_parts info_u64
  have HX := Lib.hid hx
  have HW := Lib.hid hw
  have HXL := Lib.hid hxl
  have HWL := Lib.hid hwl
  have HNS := Lib.hid hns
  clear hx hw hxl hwl hns
  go_enter Try.func113, Try.ntmps113
  go_wp2_with (at_make; refine wpList_make_full _ rfl _ _ 25 rfl w.heap.size 34 i0 (.int .u64 0) 1 Try.underlying25 hi hz0 hz1 .i64 .i64 n n n rfl rfl rfl rfl (by rw [hz2]; omega) (by unfold maxLen; omega) (by simp; omega) ?_)
  intro w1 hown0 hgrow0
  have hb0 : Below w.heap.size w ((w.alloc (.cells #[.slice ax n cx] 25)).alloc (.cells #[.slice aw n cw] 25)) := ((Below.refl _ _).alloc (Nat.le_refl _) _).alloc (by simp) _
  have hown := madeAt hb0 hown0 hgrow0
  have c1 : w1.cell? ⟨w.heap.size, 0, none⟩ = some (.slice ax n cx) := hgrow0.cell (a := ⟨w.heap.size, 0, none⟩) ((cell_past _ _ _ (by simp)).trans (one_new _ _ _)) (by simp)
  have c2 : w1.cell? ⟨w.heap.size + 1, 0, none⟩ = some (.slice aw n cw) := hgrow0.cell (a := ⟨w.heap.size + 1, 0, none⟩) (cell_new (by simp)) (by simp)
  have hsz := hown.base
  have l1 : w.heap.size < w1.heap.size := by omega
  have l2 : w.heap.size + 1 < w1.heap.size := by omega
  have d1 : (w1.alloc (.cells #[.slice (some ⟨w.heap.size + 1 + 1, 0, none⟩) n n] 25)).cell? ⟨w.heap.size, 0, none⟩ = some (.slice ax n cx) := (cell_past _ _ _ l1).trans c1
  have HO := Lib.hid hown
  clear hown0 hgrow0 hb0 hown
  go_wp2_with fail
  have hbl : Below w1.heap.size w1 ((w1.alloc (.cells #[.slice (some ⟨w.heap.size + 1 + 1, 0, none⟩) n n] 25)).alloc (.cells #[.int .i64 n, .int .i64 s, .func (.func 122) #[] #[.pointer (some ⟨w.heap.size, 0, none⟩), .pointer (some ⟨w1.heap.size, 0, none⟩), .pointer (some ⟨w.heap.size + 1, 0, none⟩)]] 134)) := ((Below.refl _ _).alloc (Nat.le_refl _) _).alloc (by simp) _
  have p1 := (hbl.cell (p := ⟨w.heap.size, 0, none⟩) l1).trans c1
  have p2 := (hbl.cell (p := ⟨w.heap.size + 1, 0, none⟩) l2).trans c2
  have p3 : ((w1.alloc (.cells #[.slice (some ⟨w.heap.size + 1 + 1, 0, none⟩) n n] 25)).alloc (.cells #[.int .i64 n, .int .i64 s, .func (.func 122) #[] #[.pointer (some ⟨w.heap.size, 0, none⟩), .pointer (some ⟨w1.heap.size, 0, none⟩), .pointer (some ⟨w.heap.size + 1, 0, none⟩)]] 134)).cell? ⟨w1.heap.size, 0, none⟩ = some (.slice (some ⟨w.heap.size + 1 + 1, 0, none⟩) n n) := (cell_past _ _ _ (by simp)).trans (one_new _ _ _)
  refine (stock_run n s h (w.heap.size + 1 + 1) w.heap.size w1.heap.size (w.heap.size + 1) ax aw cx cw xs ws w _ HX.out HW.out HXL.out HWL.out hn HNS.out hs hh p1 p3 p2 (by omega) (by omega) (by omega) (HO.out.later hbl)).mono ?_
  rintro e W' ⟨⟨v, rfl⟩, hk, hown⟩
  have hc := (hk.2 w1.heap.size 0 (by omega) (by simp; omega)).trans p3
  have hres := hown.gives (xs := passL xs ws s) (by rw [passL_len]; exact HXL.out) (passL_fits _ _ _) (fun i hi => nth_passL _ _ _ _ (by rw [HXL.out]; exact hi)) hn
  have HR := Lib.hid hres
  clear hown hres hk p1 p2 p3 hbl d1 c1 c2
  go_wp2_with fail
  go_ret
  exact HR.out
end Go.Proofs.Ytcckfeikaolfgaa

namespace Go.Proofs.Ytcckfeikaolfgaa
open Go.RowKit Sm
set_option linter.unusedVariables false
set_option linter.unusedSimpArgs false
set_option maxRecDepth 100000
theorem litRow (w : World) (t : TypeId) (n : Nat) (xs : List Int) (hn : n = w.heap.size) (hw : ∀ x ∈ xs, 0 ≤ x ∧ x < 18446744073709551616) (hl : xs.length ≤ 100) : Row .u64 (w.alloc (.cells (xs.map (Value.int .u64)).toArray t)) (some ⟨n, 0, none⟩) xs := by
  subst hn; exact row_new .u64 w t xs (fun x hx => fits_u64.2 (hw x hx)) (by omega)
theorem vec_RedN2 (a : Option Addr) (n cap : Nat) (xs : List Int) (w : World) (hx : Row .u64 w a xs) (hn : xs.length = n) (hl : n ≤ 16777216) :
    Calls Try.prog 43 #[.slice a n cap] w (GivesRow .u64 (xs.map (· % 18446744069414584321)) w) := by
  subst hn; exact vec_Red a cap xs w hx hl
theorem half_of_pow (m j s : Nat) (hs : s = 2 ^ j) (hj : j < m) : ∃ h, 0 < h ∧ 2 ^ m = s * (2 * h) := by
  refine ⟨2 ^ (m - j - 1), Nat.pow_pos (by omega), ?_⟩
  rw [hs, ← Nat.pow_succ', ← Nat.pow_add]
  congr 1; omega
set_option maxHeartbeats 1000000 in
theorem with_ok (ax aw : Option Addr) (n m cx cw : Nat) (xs ws : List Int) (w : World) (hx : Row .u64 w ax xs) (hw : Row .u64 w aw ws) (hxl : xs.length = n) (hwl : ws.length = n) (hm : m ≤ 24) (hn : n = 2 ^ m) :
    Calls Try.prog 98 #[.slice ax n cx, .slice aw n cw] w (GivesRowE .u64 (withTo xs ws m) 0 w) := by
  have hP : hasP2 (n : Int) = true := (hasP2_iff _).2 ⟨m, hm, by rw [hn]⟩
  have hn2 : n ≤ 16777216 := by
    have : 2 ^ m ≤ 2 ^ 24 := Nat.pow_le_pow_right (by omega) hm
    have e : (2 : Nat) ^ 24 = 16777216 := by decide
    omega
  have hn1 : 1 ≤ n := by rw [hn]; exact Nat.pow_pos (by omega)
  have C1 : Hid (∀ w : World, Calls Try.prog 68 #[.int .i64 n] w fun e w' => e = .returned (.bool true) ∧ w = w') := fun w => by rw [← hP]; exact stock_Has n w (by omega)
  have HX := Lib.hid hx
  have HW := Lib.hid hw
  have HXL := Lib.hid hxl
  have HWL := Lib.hid hwl
  have HN := Lib.hid hn
  have HL : Hid (∀ j, (withTo xs ws j).length = n) := fun j => by rw [withTo_len]; exact hxl
  have h0 : ((n : Int) != (n : Int)) = false := bfalse' rfl
  clear hx hw hxl hwl hn hP
  go_enter Try.func98, Try.ntmps98
  go_wp2_with fail
  refine (C1.out _).mono ?_; rintro e w' ⟨rfl, rfl⟩
  go_wp2_with fail
  refine (vec_RedN2 ax n cx xs _ HX.out HXL.out hn2).mono ?_
  rintro e w1 ⟨a1, cap1, rfl, hr1, hcap1, hb1⟩
  have hl0 := HL.out 0
  have hl0' : (xs.map (· % 18446744069414584321)).length = n := hl0
  rw [hl0']
  rw [hl0'] at hcap1
  clear hl0 hl0'
  go_wp2_with fail
  go_loopw [6, 7] (fun v i wr => ∃ (j s : Nat) (a : Option Addr) (cap : Nat), j ≤ m ∧ Hid (s = 2 ^ j) ∧ 1 ≤ s ∧ s ≤ n ∧ i = .int .i64 s ∧ v = .slice a n cap ∧ Row .u64 wr a (withTo xs ws j) ∧ OkCap a n cap ∧ Below w.heap.size w wr) (fun _ i _ => n - (intOf i).toNat)
  case atStart => exact ⟨0, 1, a1, cap1, Nat.zero_le _, rfl, by omega, hn1, rfl, rfl, hr1, hcap1, hb1⟩
  case round =>
    obtain ⟨j, s, a, cap, hj, HS, hs1, hsn, rfl, rfl, hrow, hcap, hb⟩ := hrel
    have HR := Lib.hid hrow
    have HC := Lib.hid hcap
    clear hrow hcap
    by_cases hlt : j < m
    · obtain ⟨h, hh, hns⟩ := half_of_pow m j s HS.out hlt
      have h2s : s * 2 ≤ n := by rw [HN.out, hns]; exact Nat.mul_le_mul_left s (by omega)
      have hle : (2 : Int) * (s : Int) ≤ (n : Int) := by omega
      have HNS : Hid (n = s * (2 * h)) := HN.out.trans hns
      have HS2 : Hid (2 * s = 2 ^ (j + 1)) := by unfold Hid; rw [Nat.pow_succ, HS.out]; omega
      clear hns
      go_wp2_with fail
      refine (stock_one n s h a aw cap cw (withTo xs ws j) ws _ HR.out (HW.out.below hb) (HL.out j) HWL.out hn2 HNS.out hs1 hh).mono ?_
      rintro e w2 ⟨a2, cap2, rfl, hr2, hcap2, hb2⟩
      have hlen : (passL (withTo xs ws j) ws s).length = n := by rw [passL_len]; exact HL.out j
      rw [hlen] at hcap2 ⊢
      have HR2 : Hid (Row .u64 w2 a2 (withTo xs ws (j + 1))) := by unfold Hid; simp only [withTo]; rw [← HS.out]; exact hr2
      clear hr2 hlen
      go_wp2_with fail
      go_roundw
      case rel => exact ⟨j + 1, 2 * s, a2, cap2, by omega, HS2.out, by omega, by omega, by go_num, rfl, HR2.out, hcap2, chain hb hb2⟩
      case measure => simp [intOf]; omega
    · have hjm : j = m := by omega
      have hsn' : s = n := by rw [HS.out, HN.out, hjm]
      have hlt2 : (n : Int) < 2 * (s : Int) := by omega
      have HJ := Lib.hid hjm
      have hres : Hid (GivesRowE .u64 (withTo xs ws m) 0 w (.returned (.tuple #[.slice a n cap, .int .i64 0])) wr) := ⟨a, cap, by rw [HL.out], by rw [← HJ.out]; exact HR.out, by rw [HL.out]; exact HC.out, hb⟩
      clear hjm hsn'
      go_wp2_with fail
      go_ret2
      exact hres.out
end Go.Proofs.Ytcckfeikaolfgaa

namespace Go.Proofs.Ytcckfeikaolfgaa
open Go.RowKit Sm
set_option linter.unusedVariables false
set_option linter.unusedSimpArgs false
set_option maxRecDepth 100000
set_option maxHeartbeats 800000 in
theorem do_ok (a : Option Addr) (n m c : Nat) (d : Int) (xs : List Int) (w : World) (hx : Row .u64 w a xs) (hxl : xs.length = n) (hd : d = 0 ∨ d = 1) (hm : m ≤ 24) (hn : n = 2 ^ m) :
    Calls Try.prog 73 #[.slice a n c, .int .i64 d] w (GivesRowE .u64 (dftL xs (dirRt n d)) 0 w) := by
  have hP : hasP2 (n : Int) = true := (hasP2_iff _).2 ⟨m, hm, by rw [hn]⟩
  have hs : hasSz (n : Int) = true := by rw [hn]; exact hasSz_pow m hm
  have hn2 : n ≤ 16777216 := by have := (hasSz_iff.1 hs).2.1; omega
  have C1 : Hid (∀ w : World, Calls Try.prog 68 #[.int .i64 n] w fun e w' => e = .returned (.bool true) ∧ w = w') := fun w => by rw [← hP]; exact stock_Has n w (by omega)
  have hroot := isRoot_dir n d hs
  have hfft : withTo xs (powL (dirRt n d) n) m = dftL xs (dirRt n d) := by
    have := fft_all xs (dirRt n d) (dirBk n d) m (by rw [← hn]; exact hroot) (by rw [hxl, hn])
    rw [← hn] at this; exact this
  have HF := Lib.hid hfft
  have HX := Lib.hid hx
  have HXL := Lib.hid hxl
  have HS := Lib.hid hs
  have HN := Lib.hid hn
  have HL : Hid ((withTo xs (powL (dirRt n d) n) m).length = n) := by unfold Hid; rw [withTo_len]; exact hxl
  have HPL : Hid (∀ z : Int, (powL z n).length = n) := fun z => powL_len z n
  have hz := dirRt_range n d
  have HZ := Lib.hid hz
  clear hx hxl hs hP hn hroot hfft hz
  rcases hd with h1 | h1
  · subst h1
    have ez : Hid (dirRt n 0 = rt n) := rfl
    go_enter Try.func73, Try.ntmps73
    go_wp2_with fail
    refine (C1.out _).mono ?_; rintro e w' ⟨rfl, rfl⟩
    go_wp2_with fail
    refine (rootRoot_yes n _ HS.out).mono ?_; rintro e w' ⟨rfl, rfl⟩
    rw [← ez.out]
    go_wp2_with fail
    refine (rootPowers (dirRt n 0) n _ HZ.out.1 (by have := HZ.out.2; omega) hn2).mono ?_
    rintro e w1 ⟨a1, cap1, rfl, hr1, hcap1, hb1⟩
    rw [HPL.out]
    go_wp2_with fail
    refine (with_ok a a1 n m c cap1 xs (powL (dirRt n 0) n) _ (HX.out.below hb1) hr1 HXL.out (HPL.out _) hm HN.out).mono ?_
    rintro e w2 ⟨a2, cap2, rfl, hr2, hcap2, hb2⟩
    rw [HL.out] at hcap2 ⊢
    rw [HF.out] at hr2
    have hlen := HL.out
    rw [HF.out] at hlen
    have HR := Lib.hid hr2
    have HLEN := Lib.hid hlen
    clear hr2 hlen
    go_wp2_with fail
    go_ret2
    exact ⟨a2, cap2, by simp [HLEN.out], HR.out, by rw [HLEN.out]; exact hcap2, chain hb1 hb2⟩
  · subst h1
    have ez : Hid (dirRt n 1 = bk n) := rfl
    go_enter Try.func73, Try.ntmps73
    go_wp2_with fail
    refine (C1.out _).mono ?_; rintro e w' ⟨rfl, rfl⟩
    go_wp2_with fail
    refine (rootRoot_yes n _ HS.out).mono ?_; rintro e w' ⟨rfl, rfl⟩
    go_wp2_with fail
    refine (rootBack_yes n _ HS.out).mono ?_; rintro e w' ⟨rfl, rfl⟩
    rw [← ez.out]
    go_wp2_with fail
    refine (rootPowers (dirRt n 1) n _ HZ.out.1 (by have := HZ.out.2; omega) hn2).mono ?_
    rintro e w1 ⟨a1, cap1, rfl, hr1, hcap1, hb1⟩
    rw [HPL.out]
    go_wp2_with fail
    refine (with_ok a a1 n m c cap1 xs (powL (dirRt n 1) n) _ (HX.out.below hb1) hr1 HXL.out (HPL.out _) hm HN.out).mono ?_
    rintro e w2 ⟨a2, cap2, rfl, hr2, hcap2, hb2⟩
    rw [HL.out] at hcap2 ⊢
    rw [HF.out] at hr2
    have hlen := HL.out
    rw [HF.out] at hlen
    have HR := Lib.hid hr2
    have HLEN := Lib.hid hlen
    clear hr2 hlen
    go_wp2_with fail
    go_ret2
    exact ⟨a2, cap2, by simp [HLEN.out], HR.out, by rw [HLEN.out]; exact hcap2, chain hb1 hb2⟩
end Go.Proofs.Ytcckfeikaolfgaa

namespace Go.Proofs.Ytcckfeikaolfgaa
open Go.RowKit Sm
set_option linter.unusedVariables false
set_option linter.unusedSimpArgs false
set_option maxRecDepth 100000
theorem tri_prod (i : Nat) : (i : Int) * ((i : Int) - 1) = ((i * (i - 1) : Nat) : Int) := by
  cases i with
  | zero => simp
  | succ j => rw [show ((j + 1 : Nat) : Int) - 1 = ((j : Nat) : Int) by omega, show j + 1 - 1 = j by omega, ← Int.natCast_mul]
theorem tri_small (i : Nat) (h : i ≤ 67108864) : i * (i - 1) ≤ 4503599627370496 := by
  have := Nat.mul_le_mul h (show i - 1 ≤ 67108864 by omega)
  omega
theorem chirp_tri (n i : Nat) (w : World) (hn : 1 ≤ n) (hn2 : n ≤ 16777216) (hi : i ≤ 67108864) :
    Calls Try.prog 96 #[.int .i64 n, .int .i64 i] w fun e w' => e = .returned (.int .i64 (triN n i : Nat)) ∧ w = w' := by
  obtain ⟨q, hq⟩ : ∃ q, i * (i - 1) = q := ⟨_, rfl⟩
  have h1 := tri_prod i
  have h2 := tri_small i hi
  rw [hq] at h1 h2
  have h0 : ((n : Int) == 0) = false := bno (by omega)
  have HT : Hid ((q : Int) / 2 % n = (triN n i : Nat)) := by
    unfold Hid triN triT; rw [hq, Int.natCast_emod, Int.natCast_ediv]; rfl
  clear hq
  go_enter Try.func96, Try.ntmps96
  go_wp2_with fail
  go_ret
  exact ⟨ret_int HT.out, rfl⟩
theorem chirp_way (n : Nat) (d : Int) (w : World) (h : hasSz n = true) (hd : d = 0 ∨ d = 1) :
    Calls Try.prog 94 #[.int .i64 n, .int .i64 d] w fun e w' => e = .returned (.tuple #[.int .u64 (dirRt n d), .int .i64 0]) ∧ w = w' := by
  have H := Lib.hid h
  clear h
  rcases hd with h1 | h1
  · subst h1
    go_enter Try.func94, Try.ntmps94
    go_wp2_with fail
    refine (rootHas_yes _ _ H.out).mono ?_; rintro e w' ⟨rfl, rfl⟩
    go_wp2_with fail
    refine (rootRoot_yes n _ H.out).mono ?_; rintro e w' ⟨rfl, rfl⟩
    go_wp2_with fail
    go_ret2
    exact ⟨rfl, rfl⟩
  · subst h1
    go_enter Try.func94, Try.ntmps94
    go_wp2_with fail
    refine (rootHas_yes _ _ H.out).mono ?_; rintro e w' ⟨rfl, rfl⟩
    go_wp2_with fail
    refine (rootBack_yes n _ H.out).mono ?_; rintro e w' ⟨rfl, rfl⟩
    go_wp2_with fail
    go_ret2
    exact ⟨rfl, rfl⟩
theorem chirp_powers (z : Int) (n : Nat) (w : World) (h0 : 0 ≤ z) (h1 : z < 18446744073709551616) (hn1 : 1 ≤ n) (hn : n ≤ 16777216) :
    Calls Try.prog 95 #[.int .u64 z, .int .i64 n] w fun e w' => ∃ b off, e = .returned (.slice (some ⟨b, off, none⟩) n n) ∧ Row .u64 w' (some ⟨b, off, none⟩) (powL z n) ∧ Below w.heap.size w w' := by
  have HL : Hid ((powL z n).length = n) := powL_len z n
  go_enter Try.func95, Try.ntmps95
  go_wp2_with fail
  refine (rootPowers z n _ h0 h1 hn).mono ?_
  rintro e w1 ⟨a1, cap1, rfl, hr1, hcap1, hb1⟩
  rw [HL.out] at hcap1 ⊢
  obtain ⟨b, off, rfl, _⟩ := hr1.at (by rw [HL.out]; omega)
  have HR := Lib.hid hr1
  have hc := hcap1.1
  clear hr1
  go_wp2_with fail
  go_ret
  exact ⟨b, off, rfl, HR.out, hb1⟩
def GivesOwnE (k : IntKind) (t : TypeId) (xs : List Int) (w : World) (e : Ending) (w' : World) : Prop :=
  ∃ a cap, e = .returned (.tuple #[.slice a xs.length cap, .int .i64 0]) ∧ w'.ownsRow w.heap.size t 1 (.slice a xs.length cap) xs.length (xs.map (Value.int k)) ∧ Row k w' a xs ∧ OkCap a xs.length cap ∧ Below w.heap.size w w'
theorem nth_powL (z : Int) (n i : Nat) (h : i < n) : nth (powL z n) i = pw z i := nth_ofFn _ _ _ h
set_option maxHeartbeats 1000000 in
theorem chirp_Row (n many : Nat) (d : Int) (w : World) (h : hasSz n = true) (hd : d = 0 ∨ d = 1) (hm : many ≤ 16777216) :
    Calls Try.prog 71 #[.int .i64 n, .int .i64 d, .int .i64 many] w (GivesOwnE .u64 34 (rowT (dirRt n d) n many) w) := by
  obtain ⟨i0, hi, hz0, hz1, hz2⟩ := info_parts info_u64
  have C1 : Hid (∀ w : World, Calls Try.prog 94 #[.int .i64 n, .int .i64 d] w fun e w' => e = .returned (.tuple #[.int .u64 (dirRt n d), .int .i64 0]) ∧ w = w') := fun w => chirp_way n d w h hd
  have hzr := dirRt_range n d
  obtain ⟨h1, h2, _⟩ := hasSz_iff.1 h
  have hn1 : 1 ≤ n := by omega
  have hn2 : n ≤ 16777216 := by omega
  obtain ⟨z, hz⟩ : ∃ z, dirRt n d = z := ⟨_, rfl⟩
  rw [hz] at C1 hzr ⊢
  have C2 : Hid (∀ w : World, Calls Try.prog 95 #[.int .u64 z, .int .i64 n] w fun e w' => ∃ b off, e = .returned (.slice (some ⟨b, off, none⟩) n n) ∧ Row .u64 w' (some ⟨b, off, none⟩) (powL z n) ∧ Below w.heap.size w w') := fun w => chirp_powers z n w hzr.1 (by omega) hn1 hn2
  have HPL : Hid ((powL z n).length = n) := powL_len z n
  have HRL : Hid ((rowT z n many).length = many) := rowT_len z n many
  have HTL : Hid (∀ k, triN n k < n) := fun k => triN_lt n k hn1
  clear hz h hd h1 h2
  go_enter Try.func71, Try.ntmps71
  go_wp2_with fail
  refine (C1.out _).mono ?_; rintro e w' ⟨rfl, rfl⟩
  go_wp2_with fail
  refine (C2.out _).mono ?_
  rintro e w1 ⟨b, off, rfl, hr1, hb1⟩
  have HR1 := Lib.hid hr1
  have HB1 := Lib.hid hb1
  clear hr1 hb1
  go_wp2_with (at_make; refine wpList_make_full _ rfl _ _ 25 rfl w1.heap.size 34 i0 (.int .u64 0) 1 Try.underlying25 hi hz0 hz1 .i64 .i64 many many many rfl rfl rfl rfl (by rw [hz2]; omega) (by unfold maxLen; omega) (Nat.le_refl _) ?_)
  intro w2 hown0 hgrow0
  have hown := Own.made hown0 hgrow0
  clear hown0 hgrow0
  go_wp2_with fail
  go_loopw [37] (fun i wr => ∃ k : Nat, k ≤ many ∧ i = .int .i64 k ∧ OwnAt .u64 34 w1 wr w1.heap.size many (fun j => if j < k then pw z (triN n j) else 0)) (fun i _ => many - (intOf i).toNat)
  case atStart => exact ⟨0, Nat.zero_le _, rfl, own_eqz hown (fun j => if_neg (by omega))⟩
  case round =>
    obtain ⟨k, hk, rfl, hown⟩ := hrel
    by_cases hlt : k < many
    · obtain ⟨t, ht⟩ : ∃ t, triN n k = t := ⟨_, rfl⟩
      have htl := HTL.out k
      rw [ht] at htl
      obtain ⟨b', off', hbo, hc⟩ := (HR1.out.below hown.below).at (by rw [HPL.out]; omega)
      simp only [Option.some.injEq, Addr.mk.injEq, and_true] at hbo
      obtain ⟨rfl, rfl⟩ := hbo
      have hck := hc t (by rw [HPL.out]; exact htl)
      rw [nth_powL _ _ _ htl] at hck
      clear hc
      have hcell := hown.cell k hlt
      rw [if_neg (Nat.lt_irrefl k)] at hcell
      have hfz := hown.free k
      have hnext := hown.store k hlt (pw z t) (f' := fun j => if j < k + 1 then pw z (triN n j) else 0) (by rw [if_pos (by omega), ht]) (fun j _ hj => by
        by_cases h : j < k
        · rw [if_pos h, if_pos (by omega)]
        · rw [if_neg h, if_neg (by omega)])
      have HNX := Lib.hid hnext
      have HT := Lib.hid ht
      clear hown hnext ht
      go_wp2_with fail
      refine (chirp_tri n k _ hn1 hn2 (by omega)).mono ?_; rintro e w' ⟨rfl, rfl⟩
      rw [HT.out]
      go_wp2_with fail
      go_roundw
      case rel => exact ⟨k + 1, by omega, by go_num, HNX.out⟩
      case measure => simp [intOf]; omega
    · have hkn : k = many := by omega
      obtain ⟨a2, cap2, he, ho2, hf2, _, hb2⟩ := hown.givesO (xs := rowT z n many) (rowT_len z n many) (rowT_fits z n many) (fun i hi => by rw [nth_rowT _ _ _ _ hi, if_pos (by omega)]) (by omega)
      simp only [Ending.returned.injEq, Value.slice.injEq] at he
      obtain ⟨rfl, hx1, rfl⟩ := he
      clear hx1
      have ho3 := own_base ho2 HB1.out.size
      have hrow := gives_of_own ho2 hb2 rfl rfl hf2 (by rw [HRL.out]; omega)
      obtain ⟨a3, cap3, he3, hr3, hcap3, hb3⟩ := hrow
      simp only [Ending.returned.injEq, Value.slice.injEq] at he3
      obtain ⟨rfl, hx2, rfl⟩ := he3
      clear hx2
      have HO := Lib.hid ho3
      have HR := Lib.hid hr3
      clear hown ho2 ho3 hr3 hf2
      go_wp2_with fail
      go_ret2
      exact ⟨some ⟨w1.heap.size, 0, none⟩, many, by simp [HRL.out], HO.out, HR.out, hcap3, chain HB1.out hb2⟩
end Go.Proofs.Ytcckfeikaolfgaa

namespace Go.Proofs.Ytcckfeikaolfgaa
open Go.RowKit Sm
set_option linter.unusedVariables false
set_option linter.unusedSimpArgs false
set_option maxRecDepth 100000
theorem ref_PowN (a : Int) (n : Nat) (w : World) (ha0 : 0 ≤ a) (ha : a < 18446744069414584321) (hn : n < 18446744073709551616) :
    Calls Try.prog 46 #[.int .u64 a, .int .u64 n] w fun e w' => e = .returned (.int .u64 (pw a n)) ∧ w = w' :=
  (ref_Pow a n w ha0 ha (by omega) (by omega)).mono fun e w' ⟨h, h2⟩ => ⟨h, h2⟩
end Go.Proofs.Ytcckfeikaolfgaa

namespace Go.Proofs.Ytcckfeikaolfgaa
open Go.RowKit Sm
set_option linter.unusedVariables false
set_option linter.unusedSimpArgs false
set_option maxRecDepth 100000
set_option maxHeartbeats 800000 in
theorem ref_Tri (n i : Nat) (w : World) (hn : 1 ≤ n) (hn2 : n ≤ 16777216) (hi : i ≤ 16777216) :
    Calls Try.prog 47 #[.int .i64 n, .int .i64 i] w fun e w' => e = .returned (.int .i64 (triN n i : Nat)) ∧ w = w' := by
  have h0 : ((n : Int) == 0) = false := bno (by omega)
  go_enter Try.func47, Try.ntmps47
  go_wp2_with fail
  go_loop [5, 6] (fun s v => ∃ (k p : Nat), k ≤ i ∧ v = .int .i64 k ∧ s = .int .i64 p ∧ p < n ∧ Hid (triN n k = p)) (fun _ v => i - (intOf v).toNat)
  case atStart => exact ⟨0, 0, Nat.zero_le _, rfl, rfl, by omega, triN_zero n⟩
  case round =>
    obtain ⟨k, p, hk, rfl, rfl, hp, HP⟩ := hrel
    by_cases hlt : k < i
    · have HS : Hid (((p : Int) + k) % n = (triN n (k + 1) : Nat)) := by
        unfold Hid; rw [triN_succ, HP.out, Int.natCast_emod, Int.natCast_add]
      have hlt2 := triN_lt n (k + 1) hn
      obtain ⟨q, hq⟩ : ∃ q, triN n (k + 1) = q := ⟨_, rfl⟩
      rw [hq] at HS hlt2
      have HQ := Lib.hid hq
      have hS : ((p : Int) + k) % n = (q : Int) := HS.out
      clear hq HS
      go_wp2_with fail
      go_round
      case rel => exact ⟨k + 1, q, by omega, by go_num, by go_num, hlt2, HQ.out⟩
      case measure => simp [intOf]; omega
    · have hki : k = i := by omega
      subst hki
      go_wp2_with fail
      go_ret
      exact ⟨by simp [HP.out], rfl⟩
set_option maxHeartbeats 800000 in
theorem ref_Row12 (n m : Nat) (d : Int) (w : World) (h : hasSz n = true) (hd : d = 0 ∨ d = 1) (hm : m ≤ 16777216) :
    Calls Try.prog 50 #[.int .i64 n, .int .i64 d, .int .i64 m] w (GivesOwn .u64 34 (rowT (dirRt n d) n m) w) := by
  obtain ⟨i0, hi, hz0, hz1, hz2⟩ := info_parts info_u64
  obtain ⟨h1, h2, _⟩ := hasSz_iff.1 h
  have C1 : Hid (∀ w : World, Calls Try.prog 44 #[.int .i64 n, .int .i64 d] w fun e w' => e = .returned (.int .u64 (dirRt n d)) ∧ w = w') := fun w => refDir n d w h (by omega)
  have hr := dirRt_range n d
  obtain ⟨z, hz⟩ : ∃ z, dirRt n d = z := ⟨_, rfl⟩
  rw [hz] at C1 hr ⊢
  clear h hz hd
  go_enter Try.func50, Try.ntmps50
  go_wp2_with fail
  go_loopw [7, 8] (fun v i wr => ∃ k : Nat, k ≤ m ∧ i = .int .i64 k ∧ Own .u64 34 w wr v k (fun j => pw z (triN n j))) (fun _ i _ => m - (intOf i).toNat)
  case atStart => exact ⟨0, Nat.zero_le _, rfl, Own.nil _ _ _ _⟩
  case round =>
    obtain ⟨k, hk, rfl, hown⟩ := hrel
    by_cases hlt : k < m
    · have hlt2 := triN_lt n k (by omega)
      obtain ⟨t, ht⟩ : ∃ t, triN n k = t := ⟨_, rfl⟩
      have C2 : Hid (∀ w : World, Calls Try.prog 47 #[.int .i64 n, .int .i64 k] w fun e w' => e = .returned (.int .i64 t) ∧ w = w') := fun w => by
        rw [← ht]; exact ref_Tri n k w (by omega) (by omega) (by omega)
      rw [ht] at hlt2
      have HT := Lib.hid ht
      clear ht
      go_wp2_with fail
      refine (C1.out _).mono ?_; rintro e w' ⟨rfl, rfl⟩
      go_wp2_with fail
      refine (C2.out _).mono ?_; rintro e w' ⟨rfl, rfl⟩
      go_wp2_with fail
      refine (ref_PowN z t _ hr.1 hr.2 (by omega)).mono ?_; rintro e w' ⟨rfl, rfl⟩
      go_wp2_with (at_builtin; refine wpList_append_own _ rfl _ _ 25 rfl w.heap.size 34 i0 (.int .u64 0) 1 8 Try.underlying25 hi hz0 hz1 hz2 rfl (by decide) _ _ _ rfl (hown.own.alloc _) ⟨wr.heap.size, 0, none⟩ 1 1 [.int .u64 (pw z t)] rfl rfl (cell_one_new _ _ _) (one_cell _ _) (by unfold maxLen; omega) (by omega) (size_alloc_le hown.below _) ?_)
      intro v' w1 hown' hgrow _
      have hnext := hown.push (pw z t) (by rw [HT.out]) hown' hgrow
      clear hown' hgrow
      go_wp2_with fail
      go_roundw
      case rel => exact ⟨k + 1, by omega, by go_num, hnext⟩
      case measure => simp [intOf]; omega
    · have hk' : k = m := by omega
      have hres := hown.givesO (xs := rowT z n m) (by rw [rowT_len]; omega) (rowT_fits z n m) (fun i hi => nth_rowT _ _ _ _ (by omega)) (by omega)
      clear hown
      go_wp2_with fail
      go_ret
      exact hres
end Go.Proofs.Ytcckfeikaolfgaa

namespace Go.Proofs.Ytcckfeikaolfgaa
open Go.RowKit Sm
set_option linter.unusedVariables false
set_option linter.unusedSimpArgs false
set_option maxRecDepth 100000
set_option maxHeartbeats 1000000 in
theorem kernel_ok (n m : Nat) (d : Int) (w : World) (h : hasSz n = true) (hd : d = 0 ∨ d = 1) (hm : hasSz m = true) (hl : 2 * n - 1 ≤ m) :
    Calls Try.prog 74 #[.int .i64 n, .int .i64 m, .int .i64 d] w (GivesRowE .u64 (zeroL (rowT (dirRt n d) n (2 * n - 1)) m) 0 w) := by
  obtain ⟨i0, hi, hz0, hz1, hz2⟩ := info_parts info_u64
  have C1 : Hid (∀ w : World, Calls Try.prog 94 #[.int .i64 n, .int .i64 d] w fun e w' => e = .returned (.tuple #[.int .u64 (dirRt n d), .int .i64 0]) ∧ w = w') := fun w => chirp_way n d w h hd
  obtain ⟨h1, h2, _⟩ := hasSz_iff.1 h
  obtain ⟨h3, h4, _⟩ := hasSz_iff.1 hm
  obtain ⟨q, hq⟩ : ∃ q : Nat, 2 * n - 1 = q := ⟨2 * n - 1, rfl⟩
  rw [hq] at hl ⊢
  have C2 : Hid (∀ (w : World), Calls Try.prog 71 #[.int .i64 n, .int .i64 d, .int .i64 q] w (GivesOwnE .u64 34 (rowT (dirRt n d) n q) w)) := fun w => chirp_Row n q d w h hd (by omega)
  have hq1 : 2 * (n : Int) - 1 = q := by omega
  have hql : ¬ (m : Int) < (q : Int) := by omega
  have hxl : (rowT (dirRt n d) n q).length = q := rowT_len _ _ _
  have hxf := rowT_fits (dirRt n d) n q
  obtain ⟨xs, hxs⟩ : ∃ xs, rowT (dirRt n d) n q = xs := ⟨_, rfl⟩
  rw [hxs] at C2 hxl hxf ⊢
  obtain ⟨dd, hdd⟩ : ∃ dd : Nat, m - q = dd := ⟨m - q, rfl⟩
  have hd1 : (m : Int) - (q : Int) = dd := by omega
  have H := Lib.hid h
  have HM := Lib.hid hm
  have HXL := Lib.hid hxl
  have HXF := Lib.hid hxf
  have HDD := Lib.hid hdd
  have HZL : Hid ((zeroL xs m).length = m) := zeroL_len xs m (by omega)
  have hqd : q + dd ≤ 100000000 := by omega
  have hm1 : m ≤ 16777216 := by omega
  clear h hd hm hxl hxf hxs hq hdd
  go_enter Try.func74, Try.ntmps74
  go_wp2_with fail
  refine (C1.out _).mono ?_; rintro e w' ⟨rfl, rfl⟩
  go_wp2_with fail
  refine (rootHas_yes _ _ HM.out).mono ?_; rintro e w' ⟨rfl, rfl⟩
  go_wp2_with fail
  refine (C2.out _).mono ?_; rintro e w1 ⟨a1, cap1, rfl, ho1, hr1, hcap1, hb1⟩
  rw [HXL.out] at ho1 ⊢
  have HO := Lib.hid ho1
  have hsz := hb1.size
  clear ho1 hr1 hcap1
  go_wp2_with (at_builtin; refine wpList_append_zeros _ rfl _ _ 25 3 rfl w.heap.size 34 i0 .u64 .i64 .i64 Try.underlying25 Try.underlying3 hi hz0 hz1 hz2 _ q _ rfl HO.out dd rfl (by omega) hsz ?_)
  intro v' w2 hown' hgrow
  have hb2 : Below w.heap.size w w2 := append_below hb1 hsz HO.out hgrow
  obtain ⟨a2, cap2, rfl, hcap2⟩ := own_slice hown'
  rw [show List.replicate dd (Value.int .u64 0) = List.replicate (m - xs.length) (Value.int .u64 0) by rw [HXL.out, HDD.out], zeroL_cells, show q + dd = m by have := HDD.out; omega] at hown'
  rw [show q + dd = m by have := HDD.out; omega] at hcap2 ⊢
  have hrow := Row.of_own (a := a2) (cap := cap2) HZL.out (by omega) (zeroL_fits xs m HXF.out) hown'
  have HR := Lib.hid hrow
  clear hown' hgrow hrow
  go_wp2_with fail
  go_ret2
  exact ⟨a2, cap2, by simp [HZL.out], HR.out, by rw [HZL.out]; exact hcap2, hb2⟩
end Go.Proofs.Ytcckfeikaolfgaa

namespace Go.Proofs.Ytcckfeikaolfgaa
open Go.RowKit
set_option linter.unusedVariables false
set_option linter.unusedSimpArgs false
set_option maxRecDepth 100000
/-- The logarithm. -/
def lg (n : Int) : Int := (Lib.bitLen n.toNat : Int) - 1
namespace Tr
end Tr
end Go.Proofs.Ytcckfeikaolfgaa

namespace Go.Proofs.Ytcckfeikaolfgaa
open Go.RowKit
set_option linter.unusedVariables false
set_option linter.unusedSimpArgs false
set_option maxRecDepth 100000
def ents (l : List (Value × Value)) : List MapEntry := l.mapIdx fun i p => { key := p.1, val := p.2, born := i }
def mapObj (l : List (Value × Value)) : Obj := .map (ents l).toArray l.length
theorem ents_len (l : List (Value × Value)) : (ents l).length = l.length := by simp [ents]
theorem ents_get (l : List (Value × Value)) (i : Nat) : (ents l)[i]? = (l[i]?).map fun p => { key := p.1, val := p.2, born := i } := by
  simp [ents]
theorem ents_snoc (l : List (Value × Value)) (k v : Value) : ents (l ++ [(k, v)]) = ents l ++ [{ key := k, val := v, born := l.length }] := by
  simp [ents, List.mapIdx_append]
theorem ents_modify (l : List (Value × Value)) (j : Nat) (v : Value) : (ents l).modify j (fun e => { e with val := v }) = ents (l.modify j fun p => (p.1, v)) := by
  refine List.ext_getElem? fun i => ?_
  rw [List.getElem?_modify, ents_get, ents_get, List.getElem?_modify]
  cases l[i]? with
  | none => simp
  | some p => simp only [Option.map_some]; split <;> simp
/-- What a struct's type as a key has to say. -/
structure KeyOk (P : Program) (T : TypeId) (KV : Value → Prop) : Prop where
  wide : (match P.underlying T with | some (.array _ _) | some (.struct _) => true | _ => false) = true
  check : ∀ (e : Bool) (w : World) (k : Value), KV k → (Instr.checkKey e 10000 T k).run P w = .ok () w
  eq : ∀ (w : World) (x y : Value), KV x → KV y → ∃ b : Bool, (Op.equal T x y).run P w = .ok b w ∧ (b = true ↔ x = y)
  stays : ∀ (w : World) (k : Value), KV k → (Instr.keyThatStays k k).run P w = .ok k w
section
variable {P : Program} {T : TypeId} {KV : Value → Prop} (K : KeyOk P T KV)
include K
theorem KeyOk.asking (w : World) (k : Value) (hk : KV k) : ∀ (es : List MapEntry) (i : Nat), (∀ e ∈ es, KV e.key) →
    ((Instr.findAsking T k es i).run P w = .ok none w ∧ ∀ e ∈ es, e.key ≠ k) ∨ ∃ (j : Nat) (e : MapEntry), (Instr.findAsking T k es i).run P w = .ok (some (i + j, e.val)) w ∧ es[j]? = some e ∧ e.key = k
  | [], i, _ => .inl ⟨by simp [Instr.findAsking], fun _ h => by cases h⟩
  | e :: es, i, h => by
    obtain ⟨b, hb, hiff⟩ := K.eq w k e.key hk (h e (by simp))
    cases b with
    | true => exact .inr ⟨0, e, by simp [Instr.findAsking, hb, Result.andThen], by simp, (hiff.1 rfl).symm⟩
    | false =>
      have hne : e.key ≠ k := fun h2 => by have := hiff.2 h2.symm; cases this
      rcases KeyOk.asking w k hk es (i + 1) (fun x hx => h x (by simp [hx])) with ⟨h1, h2⟩ | ⟨j, e', h1, h2, h3⟩
      · refine .inl ⟨by simp [Instr.findAsking, hb, h1, Result.andThen], fun x hx => ?_⟩
        rcases List.mem_cons.1 hx with rfl | hx
        · exact hne
        · exact h2 x hx
      · exact .inr ⟨j + 1, e', by simp [Instr.findAsking, hb, h1, Result.andThen]; omega, by simpa using h2, h3⟩
theorem KeyOk.find_no (w : World) (k : Value) (hk : KV k) (l : List (Value × Value)) (hl : ∀ p ∈ l, KV p.1) (hn : ∀ p ∈ l, p.1 ≠ k) : (Instr.findKey T k (ents l)).run P w = .ok none w := by
  rw [run_findKey_eq _ K.wide]
  have hm : ∀ e ∈ ents l, ∃ p ∈ l, e.key = p.1 := fun e he => by
    obtain ⟨i, hi⟩ := List.getElem?_of_mem he
    rw [ents_get] at hi
    obtain ⟨p, hp, rfl⟩ := Option.map_eq_some_iff.1 hi
    exact ⟨p, List.mem_of_getElem? hp, rfl⟩
  rcases K.asking w k hk (ents l) 0 (fun e he => by obtain ⟨p, hp, h⟩ := hm e he; rw [h]; exact hl p hp) with ⟨h1, _⟩ | ⟨j, e, _, h2, h3⟩
  · exact h1
  · obtain ⟨p, hp, h⟩ := hm e (List.mem_of_getElem? h2)
    exact absurd (h.symm.trans h3) (hn p hp)
theorem KeyOk.find_yes (w : World) (k v : Value) (hk : KV k) (l : List (Value × Value)) (hl : ∀ p ∈ l, KV p.1) (hd : (l.map (·.1)).Nodup) (j : Nat) (hj : l[j]? = some (k, v)) : (Instr.findKey T k (ents l)).run P w = .ok (some (j, v)) w := by
  rw [run_findKey_eq _ K.wide]
  have hm : ∀ e ∈ ents l, ∃ p ∈ l, e.key = p.1 := fun e he => by
    obtain ⟨i, hi⟩ := List.getElem?_of_mem he
    rw [ents_get] at hi
    obtain ⟨p, hp, rfl⟩ := Option.map_eq_some_iff.1 hi
    exact ⟨p, List.mem_of_getElem? hp, rfl⟩
  rcases K.asking w k hk (ents l) 0 (fun e he => by obtain ⟨p, hp, h⟩ := hm e he; rw [h]; exact hl p hp) with ⟨_, h2⟩ | ⟨i, e, h1, h2, h3⟩
  · refine absurd rfl (h2 { key := k, val := v, born := j } (List.mem_of_getElem? (i := j) ?_))
    rw [ents_get, hj]; rfl
  · rw [ents_get] at h2
    obtain ⟨p, hp, rfl⟩ := Option.map_eq_some_iff.1 h2
    have hij : i = j := by
      have a1 : (l.map (·.1))[i]? = some k := by simp [hp]; exact h3
      have a2 : (l.map (·.1))[j]? = some k := by simp [hj]
      exact (List.getElem?_inj (by rw [List.length_map]; exact (List.getElem?_eq_some_iff.1 hp).1) hd).1 (a1.trans a2.symm)
    subst hij
    rw [hp] at hj
    cases hj
    rw [h1, Nat.zero_add]
variable {M E : TypeId} (hM : P.underlying M = some (.map T E)) {w : World} {b : Nat} {l : List (Value × Value)} (hb : w.heap[b]? = some (mapObj l)) (hl : ∀ p ∈ l, KV p.1) {k : Value} (hk : KV k)
include hM hb hl hk
theorem KeyOk.lookup_no {z : Value} (hz : ∀ u : World, (zeroValue E).run P u = .ok z u) (hn : ∀ p ∈ l, p.1 ≠ k) (ok : Bool) : (Instr.lookup M (.map (some b)) k ok).run P w = .ok (if ok then .tuple #[z, .bool false] else z) w := by
  unfold mapObj at hb
  simp [Instr.lookup, run_underlying hM, MapKept.run_getObj_map hb, K.check _ w k hk, K.find_no w k hk l hl hn, hz, Result.andThen]
theorem KeyOk.lookup_yes {v : Value} {j : Nat} (hd : (l.map (·.1)).Nodup) (hj : l[j]? = some (k, v)) (ok : Bool) : (Instr.lookup M (.map (some b)) k ok).run P w = .ok (if ok then .tuple #[v, .bool true] else v) w := by
  unfold mapObj at hb
  simp [Instr.lookup, run_underlying hM, MapKept.run_getObj_map hb, K.check _ w k hk, K.find_yes w k v hk l hl hd j hj, Result.andThen]
theorem KeyOk.entry_no {z : Value} (hz : ∀ u : World, (zeroValue E).run P u = .ok z u) (hn : ∀ p ∈ l, p.1 ≠ k) : (Instr.mapEntry M (.map (some b)) k).run P w = .ok (.tuple #[z, goInt l.length]) (w.putObj b (mapObj (l ++ [(k, z)]))) := by
  unfold mapObj at hb
  simp [Instr.mapEntry, run_underlying hM, MapKept.run_getObj_map hb, K.check false w k hk, K.find_no w k hk l hl hn, hz, MapKept.run_setObj_map _ hb, Result.andThen, World.putObj, mapObj, ents_snoc]
theorem KeyOk.entry_yes {v : Value} {j : Nat} (hd : (l.map (·.1)).Nodup) (hj : l[j]? = some (k, v)) : (Instr.mapEntry M (.map (some b)) k).run P w = .ok (.tuple #[v, goInt j]) (w.putObj b (mapObj l)) := by
  unfold mapObj at hb
  have he : (ents l)[j]? = some { key := k, val := v, born := j } := by rw [ents_get, hj]; rfl
  have hs : (ents l).modify j (fun e => { e with key := k }) = ents l := by
    refine List.ext_getElem? fun i => ?_
    rw [List.getElem?_modify]
    split
    · rename_i hij; subst hij; rw [he]; rfl
    · simp
  simp [Instr.mapEntry, run_underlying hM, MapKept.run_getObj_map hb, K.check false w k hk, K.find_yes w k v hk l hl hd j hj, he, K.stays w k hk, hs, MapKept.run_setObj_map _ hb, Result.andThen, World.putObj, mapObj]
theorem KeyOk.update_no {v : Value} (hn : ∀ p ∈ l, p.1 ≠ k) : (Instr.mapUpdate M (.map (some b)) k v).run P w = .ok () (w.putObj b (mapObj (l ++ [(k, v)]))) := by
  unfold mapObj at hb
  simp [Instr.mapUpdate, run_underlying hM, MapKept.run_getObj_map hb, K.check false w k hk, K.find_no w k hk l hl hn, MapKept.run_setObj_map _ hb, Result.andThen, World.putObj, mapObj, ents_snoc]
end
theorem run_entryStore {P : Program} {M : TypeId} {w : World} {b : Nat} {l : List (Value × Value)} (hb : w.heap[b]? = some (mapObj l)) (j : Nat) (hj : j < l.length) (v : Value) : (Instr.entryStore M (.map (some b)) (goInt j) v).run P w = .ok () (w.putObj b (mapObj (l.modify j fun p => (p.1, v)))) := by
  unfold mapObj at hb
  have hidx : (ents l).toArray.findIdx? (fun e => ((e.born : Nat) : Int) == ((j : Nat) : Int)) = some j := by
    have h1 : (ents l).findIdx? (fun e => ((e.born : Nat) : Int) == ((j : Nat) : Int)) = some j := by
      rw [List.findIdx?_eq_some_iff_getElem]
      refine ⟨by rw [ents_len]; exact hj, ?_, fun i hij => ?_⟩
      · simp [ents]
      · simp [ents]; omega
    simpa using h1
  have hm : (ents l).modify j (fun e => { e with val := v }) = ents (l.modify j fun p => (p.1, v)) := ents_modify l j v
  simp [Instr.entryStore, MapKept.run_getObj_map hb, asInt, asIntOf, goInt, hidx, hm, MapKept.run_setObj_map _ hb, Result.andThen, World.putObj, mapObj]
theorem put_same (w : World) (b : Nat) (o : Obj) (h : w.heap[b]? = some o) : w.putObj b o = w := by
  have h2 : w.heap.setIfInBounds b o = w.heap := by
    apply Array.ext_getElem?
    intro i
    by_cases hi : b = i
    · subst hi; rw [Array.getElem?_setIfInBounds_self_of_lt (Array.getElem?_eq_some_iff.1 h).1, h]
    · rw [Array.getElem?_setIfInBounds_ne hi]
  cases w
  simp only [World.putObj] at *
  rw [h2]
theorem put_below {B : Nat} {w w' : World} (h : Below B w w') (b : Nat) (hb : B ≤ b) (o : Obj) : Below B w (w'.putObj b o) :=
  ⟨h.os, h.tape, h.output, by simpa using h.size, fun j hj => (World.putObj_heap_other (by omega)).trans (h.block j hj)⟩
/-- A name: four numbers. -/
abbrev Nm := Int × Int × Int × Int
def nv (x : Nm) : Value := .agg #[.int .i64 x.1, .int .i64 x.2.1, .int .i64 x.2.2.1, .int .i64 x.2.2.2]
theorem int_eqIn (a b : Int) (w : World) : (Op.equalIn 9999 3 (.int .i64 a) (.int .i64 b)).run Try.prog w = .ok (a == b) w := by
  have hI := Try.underlying3
  unfold Op.equalIn
  simp [run_underlying hI]
theorem name_eq (x y : Nm) (w : World) : (Op.equal 23 (nv x) (nv y)).run Try.prog w = .ok (x.1 == y.1 && (x.2.1 == y.2.1 && (x.2.2.1 == y.2.2.1 && x.2.2.2 == y.2.2.2))) w := by
  have hT := Try.underlying23
  have hI := Try.underlying3
  have p0 : ∀ (a b c d : Int) (w : World), (part 3 #[.int .i64 a, .int .i64 b, .int .i64 c, .int .i64 d] 0).run Try.prog w = .ok (.int .i64 a) w := fun _ _ _ _ _ => by kernel_rfl
  have p1 : ∀ (a b c d : Int) (w : World), (part 3 #[.int .i64 a, .int .i64 b, .int .i64 c, .int .i64 d] 1).run Try.prog w = .ok (.int .i64 b) w := fun _ _ _ _ _ => by kernel_rfl
  have p2 : ∀ (a b c d : Int) (w : World), (part 3 #[.int .i64 a, .int .i64 b, .int .i64 c, .int .i64 d] 2).run Try.prog w = .ok (.int .i64 c) w := fun _ _ _ _ _ => by kernel_rfl
  have p3 : ∀ (a b c d : Int) (w : World), (part 3 #[.int .i64 a, .int .i64 b, .int .i64 c, .int .i64 d] 3).run Try.prog w = .ok (.int .i64 d) w := fun _ _ _ _ _ => by kernel_rfl
  unfold Op.equal Op.maxDepth nv
  unfold Op.equalIn
  simp [run_underlying hT, p0, p1, p2, p3, int_eqIn, Result.andThen]
  by_cases h0 : x.1 = y.1 <;> by_cases h1 : x.2.1 = y.2.1 <;> by_cases h2 : x.2.2.1 = y.2.2.1 <;> by_cases h3 : x.2.2.2 = y.2.2.2 <;> simp [h0, h1, h2, h3, p0, p1, p2, p3, int_eqIn, Result.andThen]
theorem name_check (x : Nm) (e : Bool) (w : World) : (Instr.checkKey e 10000 23 (nv x)).run Try.prog w = .ok () w := by kernel_rfl
/-- It is a name's value. -/
def isNv (v : Value) : Prop := ∃ x : Nm, v = nv x
theorem nv_inj {x y : Nm} (h : nv x = nv y) : x = y := by
  obtain ⟨a, b, c, d⟩ := x
  obtain ⟨a', b', c', d'⟩ := y
  simp only [nv, Value.agg.injEq, Array.mk.injEq, List.cons.injEq, Value.int.injEq, true_and, and_true] at h
  obtain ⟨rfl, rfl, rfl, rfl⟩ := h
  rfl
theorem name_eqB (x y : Nm) (w : World) : (Op.equal 23 (nv x) (nv y)).run Try.prog w = .ok (decide (x = y)) w := by
  rw [name_eq]
  congr 1
  obtain ⟨a, b, c, d⟩ := x
  obtain ⟨a', b', c', d'⟩ := y
  rw [Bool.eq_iff_iff]
  simp
theorem name_keys : KeyOk Try.prog 23 isNv where
  wide := by kernel_rfl
  check := fun e w k h => by obtain ⟨x, rfl⟩ := h; exact name_check x e w
  eq := fun w x y hx hy => by
    obtain ⟨x, rfl⟩ := hx
    obtain ⟨y, rfl⟩ := hy
    refine ⟨_, name_eqB x y w, ?_⟩
    rw [decide_eq_true_eq]
    exact ⟨fun h => by rw [h], nv_inj⟩
  stays := fun w k h => by
    obtain ⟨x, rfl⟩ := h
    simp [Instr.keyThatStays, nv, Instr.sameBits]
end Go.Proofs.Ytcckfeikaolfgaa

namespace Go.Proofs.Ytcckfeikaolfgaa
open Go.RowKit
set_option linter.unusedVariables false
set_option linter.unusedSimpArgs false
set_option maxRecDepth 100000
namespace Tr
end Tr
/-- Is it a name? -/
def rightB (x : Nm) : Bool :=
  hasSz x.2.1 && decide (x.2.2.2 = 0 ∨ x.2.2.2 = 1) &&
    if x.1 = 1 ∨ x.1 = 2 then decide (x.2.2.1 = 0)
    else if x.1 = 3 then decide (x.2.2.1 = 0 ∧ 3 ≤ x.2.1) && isPr x.2.1
    else if x.1 = 4 then decide (2 ≤ x.2.1 ∧ 2 * x.2.1 - 1 ≤ x.2.2.1) && hasP2 x.2.2.1
    else false
/-- How many numbers. -/
def roomN (x : Nm) : Int := if rightB x = false then 0 else if x.1 = 3 then x.2.1 - 1 else if x.1 = 4 then x.2.2.1 else x.2.1
end Go.Proofs.Ytcckfeikaolfgaa

