/- No order: no way back. -/
import Derived.Test.YtpehbgcbifgokaaPermI
namespace Go.Proofs.Ytpehbgcbifgokaa
open Go.RowKit
set_option linter.unusedVariables false
set_option linter.unusedSimpArgs false

theorem among_range (p : List Int) (k n : Nat) : 0 ≤ among p k n ∧ among p k n ≤ 1 := by unfold among; split <;> omega
theorem among_is (p : List Int) (k n i : Nat) (hi : i < k) (h : nth p i = n) : among p k n = 1 := by unfold among; rw [if_pos ⟨i, hi, h⟩]

/-- The first k are of an order. -/
def PermTo (p : List Int) (k : Nat) : Prop := (∀ i, i < k → 0 ≤ nth p i ∧ nth p i < p.length) ∧ ∀ i j, i < j → j < k → nth p i ≠ nth p j

set_option maxHeartbeats 1600000 in
theorem permRight_no (a : Option Addr) (n cap : Nat) (p : List Int) (w : World) (hx : Row .i64 w a p) (hn : p.length = n) (hl : n ≤ 16777216) (hp : ¬ IsPerm p) :
    Calls Try.prog 39 #[.slice a n cap] w fun e w' => e = .returned (.bool false) ∧ Below w.heap.size w w' := by
  subst hn
  obtain ⟨i0, hi, hz0, hz1, hz2⟩ := info_parts info_int
  have HX := Lib.hid hx
  have HP := Lib.hid hp
  clear hx hp
  go_enter Try.func39, Try.ntmps39
  go_wp2_with (at_make; refine wpList_make_full _ rfl _ _ 35 rfl w.heap.size 3 i0 (.int .i64 0) 1 Try.underlying35 hi hz0 hz1 .i64 .i64 p.length p.length p.length rfl rfl rfl rfl (by rw [hz2]; omega) (by unfold maxLen; omega) (Nat.le_refl _) ?_)
  intro w1 hown0 hgrow0
  have hown := Own.made hown0 hgrow0
  clear hown0 hgrow0
  go_wp2_with fail
  go_loopw [11] (fun i wr => ∃ k : Nat, k ≤ p.length ∧ i = .int .i64 k ∧ Hid (PermTo p k) ∧ OwnAt .i64 3 w wr w.heap.size p.length (among p k)) (fun i _ => p.length - (intOf i).toNat)
  case atStart => exact ⟨0, Nat.zero_le _, rfl, ⟨fun i h => by omega, fun i j h1 h2 => by omega⟩, OwnAt.eq hown (fun n => among_zero p n)⟩
  case round =>
    obtain ⟨k, hk, rfl, HT, hown⟩ := hrel
    by_cases hlt : k < p.length
    · obtain ⟨b, off, rfl, hc⟩ := (HX.out.below hown.below).at (by omega)
      have hck := hc k hlt
      by_cases hneg : nth p k < 0
      · have hb := hown.below
        obtain ⟨v, hv⟩ : ∃ v, nth p k = v := ⟨_, rfl⟩
        rw [hv] at hck hneg
        clear hc hown hv
        go_wp2_with fail
        go_ret
        exact ⟨rfl, hb⟩
      · by_cases hbig : (p.length : Int) ≤ nth p k
        · have hb := hown.below
          obtain ⟨v, hv⟩ : ∃ v, nth p k = v := ⟨_, rfl⟩
          rw [hv] at hck hneg hbig
          have hv0 : 0 ≤ v := by omega
          clear hc hown hv
          go_wp2_with fail
          go_ret
          exact ⟨rfl, hb⟩
        · obtain ⟨m, hm⟩ := Int.eq_ofNat_of_zero_le (show 0 ≤ nth p k by omega)
          have hmlt : m < p.length := by omega
          rw [hm] at hck
          have hcell := hown.cell m hmlt
          have hfz := hown.free m
          have g1 : (0 : Int) ≤ (m : Int) := by omega
          have g2 : (m : Int) < (p.length : Int) := by omega
          by_cases hin : ∃ i, i < k ∧ nth p i = m
          · obtain ⟨i, hik, e⟩ := hin
            rw [among_is p k m i hik e] at hcell
            have hb := hown.below
            clear hc hown hm hneg hbig hik e
            go_wp2_with fail
            go_ret
            exact ⟨rfl, hb⟩
          · rw [among_not p k m (fun i hik e => hin ⟨i, hik, e⟩)] at hcell
            have hnext := hown.store m hmlt 1 (f' := among p (k + 1)) (among_new p k m hm) (fun j _ hj => among_old p k j (by rw [hm]; omega))
            have HN := Lib.hid hnext
            have HT' : Hid (PermTo p (k + 1)) := by
              constructor
              · intro i hi
                by_cases hik : i < k
                · exact HT.out.1 i hik
                · obtain rfl : i = k := by omega
                  rw [hm]; omega
              · intro i j hij hj e
                by_cases hjk : j < k
                · exact HT.out.2 i j hij hjk e
                · obtain rfl : j = k := by omega
                  exact hin ⟨i, hij, by rw [e, hm]⟩
            clear hc hnext hm hneg hbig hin
            go_wp2_with fail
            go_roundw
            case rel => exact ⟨k + 1, by omega, by go_num, HT', HN.out⟩
            case measure => simp [intOf]; omega
    · have hkp : k = p.length := by omega
      exact absurd (by have := HT.out; rw [hkp] at this; exact this) HP.out

theorem permInverse_no (a : Option Addr) (n cap : Nat) (p : List Int) (w : World) (hx : Row .i64 w a p) (hn : p.length = n) (hl : n ≤ 16777216) (hp : ¬ IsPerm p) :
    Calls Try.prog 35 #[.slice a n cap] w fun e w' => e = .returned (.tuple #[.slice none 0 0, .int .i64 2]) ∧ Below w.heap.size w w' := by
  have HR : Hid (∀ w' : World, w' = w → Calls Try.prog 39 #[.slice a n cap] w' fun e w' => e = .returned (.bool false) ∧ Below w.heap.size w w') := fun w' h => by subst h; exact permRight_no a n cap p _ hx hn hl hp
  clear hx hp
  go_enter Try.func35, Try.ntmps35
  go_wp2_with fail
  refine (HR.out _ rfl).mono ?_
  rintro e w' ⟨rfl, hb⟩
  go_wp2_with fail
  go_ret2
  exact ⟨rfl, hb⟩
end Go.Proofs.Ytpehbgcbifgokaa
