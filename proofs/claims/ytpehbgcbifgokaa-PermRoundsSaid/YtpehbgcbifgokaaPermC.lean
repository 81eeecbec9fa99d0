/- Orders: which rows are the same; what is an order; back. -/
import Derived.Test.YtpehbgcbifgokaaPermB
namespace Go.Proofs.Ytpehbgcbifgokaa
open Go.RowKit
set_option linter.unusedVariables false
set_option linter.unusedSimpArgs false

set_option maxHeartbeats 400000 in
/-- Two rows: are they the same? -/
theorem ref3_Same (a b : Option Addr) (ca cb : Nat) (xs ys : List Int) (w : World) (hx : Row .i64 w a xs) (hy : Row .i64 w b ys) :
    Calls Try.prog 30 #[.slice a xs.length ca, .slice b ys.length cb] w fun e w' => e = .returned (.bool (decide (xs = ys))) ∧ Below w.heap.size w w' := by
  have hlx := hx.len
  have hly := hy.len
  by_cases hl : xs.length = ys.length
  · have HL := Lib.hid hl
    have HX := Lib.hid hx
    have HY := Lib.hid hy
    have hne : ((xs.length : Int) != (ys.length : Int)) = false := by simp [hl]
    clear hx hy hl
    go_enter Try.func30, Try.ntmps30
    go_wp2_with fail
    go_loopw [5] (fun i wr => ∃ k : Nat, k ≤ xs.length ∧ i = .int .i64 k ∧ Below w.heap.size w wr ∧ Hid (∀ j, j < k → nth xs j = nth ys j)) (fun i _ => xs.length - (intOf i).toNat)
    case atStart => exact ⟨0, Nat.zero_le _, rfl, Below.refl _ _, fun j hj => by omega⟩
    case round =>
      obtain ⟨k, hk, rfl, hb, H⟩ := hrel
      by_cases hlt : k < xs.length
      · have hlt' : k < ys.length := by have := HL.out; omega
        have i1 : (0 : Int) ≤ (k : Int) := by omega
        have i2 : (k : Int) < (xs.length : Int) := by omega
        have i3 : (k : Int) < (ys.length : Int) := by omega
        obtain ⟨b1, o1, rfl, hc1⟩ := (HX.out.below hb).at (by omega)
        obtain ⟨b2, o2, rfl, hc2⟩ := (HY.out.below hb).at (by omega)
        have h1 := hc1 k hlt
        have h2 := hc2 k hlt'
        clear hc1 hc2
        by_cases he : nth xs k = nth ys k
        · have hbe : (nth xs k != nth ys k) = false := by simp [he]
          have HE := Lib.hid he
          clear he
          go_wp2_with fail
          go_quiet (fail)
          go_wp2_with fail
          go_roundw
          case rel =>
            refine ⟨k + 1, by omega, by go_num, by first | exact below_drewN hb _ | exact hb.drew, ?_⟩
            intro j hj
            by_cases hjk : j < k
            · exact H.out j hjk
            · obtain rfl : j = k := by omega
              exact HE.out
          case measure => simp [intOf]; omega
        · have hbe : (nth xs k != nth ys k) = true := by simp [he]
          have HE : Hid (xs ≠ ys) := by
            intro h; apply he; rw [h]
          clear he
          go_wp2_with fail
          go_quiet (fail)
          go_wp2_with fail
          go_ret
          exact ⟨ret_bool (by have := HE.out; simp [this]), by first | exact below_drewN hb _ | exact hb.drew⟩
      · go_wp2_with fail
        go_ret
        have : xs = ys := ext_nth HL.out (fun i hi => H.out i (by omega))
        exact ⟨ret_bool (by simp [this]), hb⟩
  · have HL := Lib.hid hl
    have hne : ((xs.length : Int) != (ys.length : Int)) = true := by simp; omega
    have : xs ≠ ys := fun h => hl (by rw [h])
    have HE := Lib.hid this
    clear this hl hx hy
    go_enter Try.func30, Try.ntmps30
    go_wp2_with fail
    go_ret
    exact ⟨ret_bool (by have := HE.out; simp [this]), Below.refl _ _⟩

theorem ref3_SameT (a b : Option Addr) (n m ca cb : Nat) (xs ys : List Int) (w : World) (hx : Row .i64 w a xs) (hy : Row .i64 w b ys) (hn : xs.length = n) (hm : ys.length = m) (h : xs = ys) :
    Calls Try.prog 30 #[.slice a n ca, .slice b m cb] w fun e w' => e = .returned (.bool true) ∧ Below w.heap.size w w' := by
  subst hn hm
  exact (ref3_Same a b ca cb xs ys w hx hy).mono fun e w' ⟨he, hb⟩ => ⟨by rw [he]; simp [h], hb⟩

/-- All in range, no number twice. -/
def IsPerm (p : List Int) : Prop := (∀ i, i < p.length → 0 ≤ nth p i ∧ nth p i < p.length) ∧ ∀ i j, i < j → j < p.length → nth p i ≠ nth p j

/-- Is n among the first k? -/
def among (p : List Int) (k : Nat) (n : Nat) : Int := if ∃ i, i < k ∧ nth p i = n then 1 else 0

theorem among_zero (p : List Int) (n : Nat) : among p 0 n = 0 := by
  unfold among; rw [if_neg (by rintro ⟨i, h, _⟩; omega)]
theorem among_new (p : List Int) (k n : Nat) (h : nth p k = n) : among p (k + 1) n = 1 := by
  unfold among; rw [if_pos ⟨k, by omega, h⟩]
theorem among_old (p : List Int) (k n : Nat) (h : nth p k ≠ n) : among p (k + 1) n = among p k n := by
  unfold among
  by_cases h1 : ∃ i, i < k ∧ nth p i = n
  · obtain ⟨i, hi, e⟩ := h1
    rw [if_pos ⟨i, by omega, e⟩, if_pos ⟨i, hi, e⟩]
  · rw [if_neg h1, if_neg]
    rintro ⟨i, hi, e⟩
    by_cases hik : i = k
    · subst hik; exact h e
    · exact h1 ⟨i, by omega, e⟩
theorem among_not (p : List Int) (k n : Nat) (h : ∀ i, i < k → nth p i ≠ n) : among p k n = 0 := by
  unfold among; rw [if_neg (by rintro ⟨i, hi, e⟩; exact h i hi e)]

theorem OwnAt.eq {k : IntKind} {e : TypeId} {w wr : World} {g n : Nat} {f f' : Nat → Int} (h : OwnAt k e w wr g n f) (he : ∀ n, f' n = f n) : OwnAt k e w wr g n f' := by
  rw [show f' = f from funext he]; exact h

set_option maxHeartbeats 1600000 in
theorem permRight_yes (a : Option Addr) (n cap : Nat) (p : List Int) (w : World) (hx : Row .i64 w a p) (hn : p.length = n) (hl : n ≤ 16777216) (hp : IsPerm p) :
    Calls Try.prog 39 #[.slice a n cap] w fun e w' => e = .returned (.bool true) ∧ Below w.heap.size w w' := by
  subst hn
  obtain ⟨i0, hi, hz0, hz1, hz2⟩ := info_parts info_int
  have HX := Lib.hid hx
  have HP := Lib.hid hp
  clear hx hp
  go_enter Try.func39, Try.ntmps39
  go_wp2_with (at_make; refine wpList_make_full _ rfl _ _ 35 rfl w.heap.size 3 i0 (.int .i64 0) 1 Try.underlying35 hi hz0 hz1 .i64 .i64 p.length p.length p.length rfl rfl rfl rfl (by rw [hz2]; omega) (by unfold maxLen; omega) (Nat.le_refl _) ?_)
  intro w1 hown0 hgrow0
  have hown := Own.made hown0 hgrow0
  clear hown0 hgrow0
  go_wp2_with fail
  go_loopw [11] (fun i wr => ∃ k : Nat, k ≤ p.length ∧ i = .int .i64 k ∧ OwnAt .i64 3 w wr w.heap.size p.length (among p k)) (fun i _ => p.length - (intOf i).toNat)
  case atStart => exact ⟨0, Nat.zero_le _, rfl, OwnAt.eq hown (fun n => among_zero p n)⟩
  case round =>
    obtain ⟨k, hk, rfl, hown⟩ := hrel
    by_cases hlt : k < p.length
    · obtain ⟨b, off, rfl, hc⟩ := (HX.out.below hown.below).at (by omega)
      have hck := hc k hlt
      obtain ⟨m, hm⟩ := Int.eq_ofNat_of_zero_le (HP.out.1 k hlt).1
      have hmlt : m < p.length := by have := (HP.out.1 k hlt).2; omega
      rw [hm] at hck
      have hcell := hown.cell m hmlt
      rw [among_not p k m (fun i hik e => HP.out.2 i k hik hlt (by rw [e, hm]))] at hcell
      have hfz := hown.free m
      have hnext := hown.store m hmlt 1 (f' := among p (k + 1)) (among_new p k m hm) (fun j _ hj => among_old p k j (by rw [hm]; omega))
      have HN := Lib.hid hnext
      clear hc hnext hm
      have g1 : (0 : Int) ≤ (m : Int) := by omega
      have g2 : (m : Int) < (p.length : Int) := by omega
      go_wp2_with fail
      go_roundw
      case rel => exact ⟨k + 1, by omega, by go_num, HN.out⟩
      case measure => simp [intOf]; omega
    · have hb := hown.below
      clear hown
      go_wp2_with fail
      go_ret
      exact ⟨rfl, hb⟩

set_option maxHeartbeats 1600000 in
/-- Backwards: q is where p has i. -/
theorem permInverse_yes (a : Option Addr) (n cap : Nat) (p q : List Int) (w : World) (hx : Row .i64 w a p) (hn : p.length = n) (hl : n ≤ 16777216) (hp : IsPerm p) (hq : q.length = n) (hqp : ∀ i, i < n → nth q (nth p i).toNat = i) :
    Calls Try.prog 35 #[.slice a n cap] w (GivesRowE .i64 q 0 w) := by
  subst hn
  obtain ⟨i0, hi, hz0, hz1, hz2⟩ := info_parts info_int
  have HX := Lib.hid hx
  have HP := Lib.hid hp
  have HQ := Lib.hid hq
  have HQP := Lib.hid hqp
  clear hx hp hq hqp
  go_enter Try.func35, Try.ntmps35
  go_wp2_with fail
  refine (permRight_yes a _ cap p _ HX.out rfl hl HP.out).mono ?_
  rintro e w0 ⟨rfl, hb0⟩
  have HX0 := Lib.hid (HX.out.below hb0)
  have HB0 := Lib.hid hb0
  clear hb0
  go_wp2_with (at_make; refine wpList_make_full _ rfl _ _ 35 rfl w0.heap.size 3 i0 (.int .i64 0) 1 Try.underlying35 hi hz0 hz1 .i64 .i64 p.length p.length p.length rfl rfl rfl rfl (by rw [hz2]; omega) (by unfold maxLen; omega) (Nat.le_refl _) ?_)
  intro w1 hown0 hgrow0
  have hown := Own.made hown0 hgrow0
  clear hown0 hgrow0
  go_wp2_with fail
  go_loopw [15] (fun i wr => ∃ k : Nat, k ≤ p.length ∧ i = .int .i64 k ∧ OwnAt .i64 3 w0 wr w0.heap.size p.length (fun n => if among p k n = 1 then nth q n else 0)) (fun i _ => p.length - (intOf i).toNat)
  case atStart => exact ⟨0, Nat.zero_le _, rfl, OwnAt.eq hown (fun n => by rw [among_zero]; rfl)⟩
  case round =>
    obtain ⟨k, hk, rfl, hown⟩ := hrel
    by_cases hlt : k < p.length
    · obtain ⟨b, off, rfl, hc⟩ := (HX0.out.below hown.below).at (by omega)
      have hck := hc k hlt
      obtain ⟨m, hm⟩ := Int.eq_ofNat_of_zero_le (HP.out.1 k hlt).1
      have hmlt : m < p.length := by have := (HP.out.1 k hlt).2; omega
      have hqm : nth q m = k := by have := HQP.out k hlt; rw [hm, Int.toNat_natCast] at this; exact this
      rw [hm] at hck
      have hcell := hown.cell m hmlt
      have hfz := hown.free m
      have hnext := hown.store m hmlt (k : Int) (f' := fun n => if among p (k + 1) n = 1 then nth q n else 0) (by show (if among p (k + 1) m = 1 then nth q m else 0) = _; rw [among_new p k m hm, if_pos rfl]; exact hqm) (fun j _ hj => by show (if among p (k + 1) j = 1 then nth q j else 0) = _; rw [among_old p k j (by rw [hm]; omega)])
      have HN := Lib.hid hnext
      obtain ⟨z, hz⟩ : ∃ z : Int, (if among p k m = 1 then nth q m else 0) = z := ⟨_, rfl⟩
      rw [hz] at hcell
      clear hc hnext hm hqm hz
      have g1 : (0 : Int) ≤ (m : Int) := by omega
      have g2 : (m : Int) < (p.length : Int) := by omega
      go_wp2_with fail
      go_roundw
      case rel => exact ⟨k + 1, by omega, by go_num, HN.out⟩
      case measure => simp [intOf]; omega
    · have hkp : k = p.length := by omega
      have hall : ∀ m, m < p.length → among p k m = 1 := by
        intro m hm
        obtain ⟨i, hi, e⟩ := Fld.onto p.length (fun i => (nth p i).toNat) (fun i hi => by have := HP.out.1 i hi; omega) (fun i j hij hj e => by
          have h1 := HP.out.1 i (by omega); have h2 := HP.out.1 j hj
          exact HP.out.2 i j hij hj (by omega)) m hm
        unfold among
        rw [if_pos ⟨i, by omega, by have := HP.out.1 i hi; omega⟩]
      have hrow := OwnAt.row hown (xs := q) HQ.out (fun x hx => by
        obtain ⟨i, hi, rfl⟩ := List.getElem_of_mem hx
        have hi' : i < p.length := by have := HQ.out; omega
        obtain ⟨t, ht, e⟩ := Fld.onto p.length (fun i => (nth p i).toNat) (fun i hi => by have := HP.out.1 i hi; omega) (fun i j hij hj e => by
          have h1 := HP.out.1 i (by omega); have h2 := HP.out.1 j hj
          exact HP.out.2 i j hij hj (by omega)) i hi'
        have := HQP.out t ht
        rw [e] at this
        have e2 : q[i] = nth q i := by simp [nth, hi]
        rw [e2, this]
        exact fits_nat (by omega)) (fun i hi => by show nth q i = _; rw [if_pos (hall i hi)]) hl
      have hb := hown.below
      have HR := Lib.hid hrow
      clear hown hrow hall
      go_wp2_with fail
      go_ret2
      exact ⟨some ⟨w0.heap.size, 0, none⟩, p.length, by simp [HQ.out], HR.out, ⟨by simp [HQ.out], fun h => by cases h⟩, chain HB0.out hb⟩
end Go.Proofs.Ytpehbgcbifgokaa
