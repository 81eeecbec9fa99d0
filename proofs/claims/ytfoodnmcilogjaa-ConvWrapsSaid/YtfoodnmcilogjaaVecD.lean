/- Two rows, one by one: sums, products, the sum of these; rows times a number; which rows are the same; a 1 at a place. -/
import Derived.Test.YtfoodnmcilogjaaVecC
namespace Go.Proofs.Ytfoodnmcilogjaa
open Go.RowKit
set_option linter.unusedVariables false
set_option linter.unusedSimpArgs false

set_option maxHeartbeats 400000 in
theorem vec_Add (a b : Option Addr) (n m ca cb : Nat) (xs ys : List Int) (w : World) (hx : Row .u64 w a xs) (hy : Row .u64 w b ys) (hn : xs.length = n) (hm : ys.length = m) (hl : n = m) (hs : n ≤ 16777216) :
    Calls Try.prog 59 #[.slice a n ca, .slice b m cb] w (GivesRowE .u64 (addL xs ys) 0 w) := by
  subst hn hm
  have hent : ∀ args w, (callFunc 31 args).run Try.prog w = .ok (.enter 31 args) w := enters_of Try.func31 (by kernel_rfl) rfl
  have hop : IsOp 31 (fun x y => x + y) := fun a b w a0 a1 b0 b1 => gold_Add a b w a0 a1 b0 b1
  have HOP := Lib.hid hop
  have HL := Lib.hid hl
  have HX := Lib.hid hx
  have HY := Lib.hid hy
  clear hop hl hx hy
  go_enter Try.func59, Try.ntmps59
  go_wp2_with fail
  refine (vec_both 31 (fun x y => x + y) hent HOP.out a b ca cb xs ys _ HX.out HY.out HL.out (by omega)).mono ?_
  rintro e w' ⟨a', cap', rfl, hr, hnil, hb⟩
  go_wp2_with fail
  go_ret2
  exact ⟨a', cap', rfl, hr, hnil, hb⟩

theorem vec_Add_no (a b : Option Addr) (n m ca cb : Nat) (w : World) (hl : n ≠ m) (hn : n ≤ 9223372036854775807) (hm : m ≤ 9223372036854775807) :
    Calls Try.prog 59 #[.slice a n ca, .slice b m cb] w (GivesRowE .u64 [] 5 w) := by
  have HL := Lib.hid hl
  clear hl
  go_enter Try.func59, Try.ntmps59
  go_wp2_with fail
  refine (vec_both_no 31 a b ca cb n m _ HL.out hn hm).mono ?_
  rintro e w' ⟨a', cap', rfl, hr, hnil, hb⟩
  go_wp2_with fail
  go_ret2
  exact ⟨a', cap', rfl, hr, hnil, hb⟩

set_option maxHeartbeats 400000 in
theorem vec_Mul (a b : Option Addr) (n m ca cb : Nat) (xs ys : List Int) (w : World) (hx : Row .u64 w a xs) (hy : Row .u64 w b ys) (hn : xs.length = n) (hm : ys.length = m) (hl : n = m) (hs : n ≤ 16777216) :
    Calls Try.prog 60 #[.slice a n ca, .slice b m cb] w (GivesRowE .u64 (mulL xs ys) 0 w) := by
  subst hn hm
  have hent : ∀ args w, (callFunc 32 args).run Try.prog w = .ok (.enter 32 args) w := enters_of Try.func32 (by kernel_rfl) rfl
  have hop : IsOp 32 (fun x y => x * y) := fun a b w a0 a1 b0 b1 => gold_Mul a b w a0 a1 b0 b1
  have HOP := Lib.hid hop
  have HL := Lib.hid hl
  have HX := Lib.hid hx
  have HY := Lib.hid hy
  clear hop hl hx hy
  go_enter Try.func60, Try.ntmps60
  go_wp2_with fail
  refine (vec_both 32 (fun x y => x * y) hent HOP.out a b ca cb xs ys _ HX.out HY.out HL.out (by omega)).mono ?_
  rintro e w' ⟨a', cap', rfl, hr, hnil, hb⟩
  go_wp2_with fail
  go_ret2
  exact ⟨a', cap', rfl, hr, hnil, hb⟩

theorem vec_Mul_no (a b : Option Addr) (n m ca cb : Nat) (w : World) (hl : n ≠ m) (hn : n ≤ 9223372036854775807) (hm : m ≤ 9223372036854775807) :
    Calls Try.prog 60 #[.slice a n ca, .slice b m cb] w (GivesRowE .u64 [] 5 w) := by
  have HL := Lib.hid hl
  clear hl
  go_enter Try.func60, Try.ntmps60
  go_wp2_with fail
  refine (vec_both_no 32 a b ca cb n m _ HL.out hn hm).mono ?_
  rintro e w' ⟨a', cap', rfl, hr, hnil, hb⟩
  go_wp2_with fail
  go_ret2
  exact ⟨a', cap', rfl, hr, hnil, hb⟩

set_option maxHeartbeats 400000 in
theorem vec_Dot (a b : Option Addr) (n m ca cb : Nat) (xs ys : List Int) (w : World) (hx : Row .u64 w a xs) (hy : Row .u64 w b ys) (hn : xs.length = n) (hm : ys.length = m) (hl : n = m) (hs : n ≤ 16777216) :
    Calls Try.prog 50 #[.slice a n ca, .slice b m cb] w fun e w' => e = .returned (.tuple #[.int .u64 (sumP (mulL xs ys)), .int .i64 0]) ∧ Below w.heap.size w w' := by
  have HN := Lib.hid hn
  have HM := Lib.hid hm
  have HL := Lib.hid hl
  have HX := Lib.hid hx
  have HY := Lib.hid hy
  clear hl hx hy hn hm
  go_enter Try.func50, Try.ntmps50
  go_wp2_with fail
  refine (vec_Mul a b n m ca cb xs ys _ HX.out HY.out HN.out HM.out HL.out hs).mono ?_
  rintro e w' ⟨a', cap', rfl, hr, hnil, hb⟩
  go_wp2_with fail
  refine (gold_Sum _ _ (mulL xs ys) _ hr).mono ?_
  rintro e w2 ⟨rfl, rfl⟩
  go_wp2_with fail
  go_ret2
  exact ⟨rfl, hb⟩

theorem vec_Dot_no (a b : Option Addr) (n m ca cb : Nat) (w : World) (hl : n ≠ m) (hn : n ≤ 9223372036854775807) (hm : m ≤ 9223372036854775807) :
    Calls Try.prog 50 #[.slice a n ca, .slice b m cb] w fun e w' => e = .returned (.tuple #[.int .u64 0, .int .i64 5]) ∧ Below w.heap.size w w' := by
  have HL := Lib.hid hl
  clear hl
  go_enter Try.func50, Try.ntmps50
  go_wp2_with fail
  refine (vec_Mul_no a b n m ca cb _ HL.out hn hm).mono ?_
  rintro e w' ⟨a', cap', rfl, hr, hnil, hb⟩
  go_wp2_with fail
  refine (gold_Sum _ _ [] _ (Row.nil _ _ _)).mono ?_
  rintro e w2 ⟨rfl, rfl⟩
  go_wp2_with fail
  go_ret2
  exact ⟨rfl, hb⟩

def unitL (n k : Nat) : List Int := (List.range n).map fun i => if i = k then 1 else 0

set_option maxHeartbeats 400000 in
theorem vec_Unit (n k : Nat) (w : World) (hn : n ≤ 16777216) (hk : k < n) :
    Calls Try.prog 49 #[.int .i64 n, .int .i64 k] w (GivesRowE .u64 (unitL n k) 0 w) := by
  obtain ⟨i0, hi, hz0, hz1, hz2⟩ := info_parts info_u64
  go_enter Try.func49, Try.ntmps49
  go_wp2_with (at_make; refine wpList_make_full _ rfl _ _ 22 rfl w.heap.size 28 i0 (.int .u64 0) 1 Try.underlying22 hi hz0 hz1 .i64 .i64 n n n rfl rfl rfl rfl (by rw [hz2]; omega) (by unfold maxLen; omega) (Nat.le_refl _) ?_)
  intro w1 hown0 hgrow0
  have hown := Own.made hown0 hgrow0
  have hc := hown.cell k hk
  have hfz := hown.free k
  have hnext := hown.store k hk 1 (f' := fun j => if j = k then 1 else 0) (by simp) (fun j _ hj => by simp [hj])
  have hrow := OwnAt.row hnext (xs := unitL n k) (by simp [unitL]) (fun x hx => by obtain ⟨i, _, rfl⟩ := List.mem_map.1 hx; split <;> exact fits_u64.2 (by omega)) (fun i hi => nth_ofFn _ _ _ hi) hn
  have hb := hnext.below
  have HR := Lib.hid hrow
  clear hown0 hgrow0 hown hnext hrow
  go_wp2_with fail
  go_ret2
  exact ⟨some ⟨w.heap.size, 0, none⟩, n, by simp [unitL], HR.out, ⟨by simp [unitL], fun h => by cases h⟩, hb⟩

set_option maxHeartbeats 800000 in
theorem vec_Unit_no (n k : Int) (w : World) (h : n < 1 ∨ 16777216 < n ∨ k < 0 ∨ n ≤ k) :
    Calls Try.prog 49 #[.int .i64 n, .int .i64 k] w fun e w' => e = .returned (.tuple #[.slice none 0 0, .int .i64 3]) ∧ Below w.heap.size w w' := by
  have hd : n < 1 ∨ (1 ≤ n ∧ 16777216 < n) ∨ (1 ≤ n ∧ n ≤ 16777216 ∧ k < 0) ∨ (1 ≤ n ∧ n ≤ 16777216 ∧ 0 ≤ k ∧ n ≤ k) := by omega
  clear h
  rcases hd with h1 | ⟨h1, h2⟩ | ⟨h1, h2, h3⟩ | ⟨h1, h2, h3, h4⟩
  all_goals
    go_enter Try.func49, Try.ntmps49
    go_wp2_with fail
    go_ret2
    exact ⟨rfl, Below.refl _ _⟩

/-- The sum of a row times a row with a 1 at a place. -/
theorem sumP_one (f : Nat → Int) (k : Nat) (hf : ∀ i, i ≠ k → f i = 0) (hk : 0 ≤ f k ∧ f k < 18446744069414584321) : ∀ n, sumP ((List.range n).map f) = if k < n then f k else 0 := by
  intro n
  induction n with
  | zero => rfl
  | succ n ih =>
    rw [List.range_succ, List.map_append, List.map_singleton, sumP_snoc, ih]
    by_cases h1 : k < n
    · rw [if_pos h1, if_pos (by omega), hf n (by omega)]; omega
    · rw [if_neg h1]
      by_cases h2 : k = n
      · subst h2; rw [if_pos (by omega)]; omega
      · rw [if_neg (by omega), hf n (fun h => h2 h.symm)]; rfl

theorem dot_unit (xs : List Int) (n k : Nat) (hn : xs.length = n) (hk : k < n) : sumP (mulL xs (unitL n k)) = nth xs k % 18446744069414584321 := by
  unfold mulL zipL
  have e : (List.range xs.length).map (fun i => nth xs i * nth (unitL n k) i % 18446744069414584321) = (List.range xs.length).map (fun i => if i = k then nth xs k % 18446744069414584321 else 0) := by
    apply List.map_congr_left
    intro i hi
    have hi' : i < n := by simpa [hn] using hi
    unfold unitL
    rw [nth_ofFn _ _ _ hi']
    by_cases h : i = k
    · subst h; simp
    · simp [h]
  rw [e, sumP_one _ k (fun i hi => by simp [hi]) (by simp; omega), if_pos (by omega)]
  simp

/-- The guard of VecUnits, decided. -/
theorem bool_ne_eq (a b : Bool) (h : a = b) : (a != b) = false := by simp [h]

set_option maxHeartbeats 2000000 in
theorem vecUnits_no (a : Option Addr) (cap : Nat) (xs : List Int) (n k : Int) (w : World) (hl : xs.length ≤ 300) (hn : n ≤ 300 ∨ 16777216 < n) (hn1 : -9223372036854775808 ≤ n ∧ n < 9223372036854775808) (hk1 : -9223372036854775808 ≤ k ∧ k < 9223372036854775808) (h : n < 1 ∨ 16777216 < n ∨ k < 0 ∨ n ≤ k) :
    Calls Try.prog 10 #[.slice a xs.length cap, .int .i64 n, .int .i64 k] w fun e w' => e = .returned (.bool true) ∧ Below w.heap.size w w' := by
  have hd : n < 1 ∨ (300 < n ∧ 16777216 < n) ∨ (1 ≤ n ∧ n ≤ 300 ∧ k < 0) ∨ (1 ≤ n ∧ n ≤ 300 ∧ 0 ≤ k ∧ n ≤ k) := by omega
  have H := Lib.hid h
  clear h hn
  rcases hd with h1 | ⟨h1, h2⟩ | ⟨h1, h2, h3⟩ | ⟨h1, h2, h3, h4⟩
  all_goals
    go_enter Try.func10, Try.ntmps10
    go_wp2_with fail
    refine (vec_Unit_no n k _ H.out).mono ?_
    rintro e w1 ⟨rfl, hb1⟩
    go_wp2_with fail
    refine (live05 _).mono ?_
    rintro e w2 ⟨rfl, hb2⟩
    go_wp2_with fail
    go_ret
    exact ⟨rfl, chain hb1 hb2⟩

set_option maxHeartbeats 2000000 in
theorem vecUnits_yes (a : Option Addr) (cap : Nat) (xs : List Int) (n k : Nat) (w : World) (hx : Row .u64 w a xs) (hl : xs.length ≤ 300) (hn : n ≤ 300) (hk : k < n) :
    Calls Try.prog 10 #[.slice a xs.length cap, .int .i64 n, .int .i64 k] w fun e w' => e = .returned (.bool true) ∧ Below w.heap.size w w' := by
  have HX := Lib.hid hx
  clear hx
  go_enter Try.func10, Try.ntmps10
  go_wp2_with fail
  refine (vec_Unit n k _ (by omega) hk).mono ?_
  rintro e w1 ⟨a1, cap1, rfl, hr1, hcap1, hb1⟩
  have hlu : (unitL n k).length = n := by simp [unitL]
  go_wp2_with fail
  go_loop [9] (fun i => ∃ j : Nat, j ≤ n ∧ i = .int .i64 j) (fun i => n - (intOf i).toNat)
  case atStart => exact ⟨0, Nat.zero_le _, rfl⟩
  case round =>
    obtain ⟨j, hj, rfl⟩ := hrel
    by_cases hlt : j < n
    · obtain ⟨b, off, rfl, hc⟩ := hr1.at (by omega)
      have hck := hc j (by omega)
      clear hc
      by_cases hjk : j = k
      · subst hjk
        have hu : nth (unitL n j) j = 1 := by unfold unitL; rw [nth_ofFn _ _ _ hlt, if_pos rfl]
        rw [hu] at hck
        clear hu
        go_wp2_with fail
        go_round
        case rel => exact ⟨j + 1, by omega, by go_num⟩
        case measure => simp [intOf]; omega
      · have hu : nth (unitL n k) j = 0 := by unfold unitL; rw [nth_ofFn _ _ _ hlt, if_neg hjk]
        rw [hu] at hck
        have hjk' : ((j : Int) == (k : Int)) = false := bno (by omega)
        clear hu hjk
        go_wp2_with fail
        go_round
        case rel => exact ⟨j + 1, by omega, by go_num⟩
        case measure => simp [intOf]; omega
    · by_cases hxn : xs.length = n
      · have hne : ((xs.length : Int) != (n : Int)) = false := bfalse (by omega)
        have HXN := Lib.hid hxn
        have hkx : k < xs.length := by omega
        obtain ⟨bx, ox, hax, hcx⟩ := HX.out.at (by omega)
        have hckx := hcx k hkx
        have hf := fits_u64.1 (HX.out.wf _ (nth_mem hkx))
        have HC := Lib.hid hckx
        have HD := Lib.hid (btrue (dot_unit xs n k hxn hk))
        subst hax
        clear hcx hckx hxn
        go_wp2_with fail
        refine (vec_Dot _ _ _ _ _ _ xs (unitL n k) _ (HX.out.below hb1) hr1 rfl hlu HXN.out (by omega)).mono ?_
        rintro e w2 ⟨rfl, hb2⟩
        have hB2 := chain hb1 hb2
        have hcell := hB2.cell (p := ⟨bx, ox + k, none⟩) (World.block_lt_of_cell? w _ HC.out)
        rw [HC.out] at hcell
        have hd := HD.out
        go_wp2_with (first | (go_at_call 25; refine (ref_Red _ _ (by omega) (by omega)).mono ?_; rintro e w' ⟨rfl, rfl⟩) | (go_at_call 18; refine (live05 _).mono ?_; rintro e w3 ⟨rfl, hb3⟩))
        go_ret
        exact ⟨rfl, chain hB2 (by assumption)⟩
      · have hne : ((xs.length : Int) != (n : Int)) = true := by simp; omega
        have HXN := Lib.hid hxn
        clear hxn
        go_wp2_with fail
        refine (vec_Dot_no _ _ _ _ _ _ _ HXN.out (by omega) (by omega)).mono ?_
        rintro e w2 ⟨rfl, hb2⟩
        have hB2 := chain hb1 hb2
        go_wp2_with (go_at_call 18; refine (live05 _).mono ?_; rintro e w3 ⟨rfl, hb3⟩)
        go_ret
        exact ⟨rfl, chain hB2 (by assumption)⟩

theorem vecUnitsW (a : Option Addr) (cap : Nat) (xs : List Int) (n k : Int) (w : World) (hx : Row .u64 w a xs) (hcap : OkCap a xs.length cap) (hn : fits .i64 n) (hk : fits .i64 k) :
    Calls Try.prog 10 #[.slice a xs.length cap, .int .i64 n, .int .i64 k] w fun e w' => e = .returned (.bool true) ∧ Below w.heap.size w w' := by
  have hn' := fits_i64.1 hn
  have hk' := fits_i64.1 hk
  have hlen := hx.len
  by_cases hg : (n ≤ 300 ∨ 16777216 < n) ∧ xs.length ≤ 300
  · by_cases hb : 1 ≤ n ∧ n ≤ 16777216 ∧ 0 ≤ k ∧ k < n
    · obtain ⟨m, rfl⟩ := Int.eq_ofNat_of_zero_le (show 0 ≤ n by omega)
      obtain ⟨j, rfl⟩ := Int.eq_ofNat_of_zero_le (show 0 ≤ k by omega)
      exact vecUnits_yes a cap xs m j w hx hg.2 (by omega) (by omega)
    · exact vecUnits_no a cap xs n k w hg.2 hg.1 hn' hk' (by omega)
  · have hd : (300 < n ∧ n ≤ 16777216) ∨ (n ≤ 300 ∧ 300 < xs.length) ∨ (300 < n ∧ 16777216 < n ∧ 300 < xs.length) := by omega
    clear hg hx hn hk
    rcases hd with ⟨h1, h2⟩ | ⟨h1, h2⟩ | ⟨h1, h2, h3⟩
    all_goals
      go_enter Try.func10, Try.ntmps10
      go_wp2_with fail
      refine (live05 _).mono ?_
      rintro e w2 ⟨rfl, hb2⟩
      go_wp2_with fail
      go_ret
      exact ⟨rfl, hb2⟩
end Go.Proofs.Ytfoodnmcilogjaa
