/- Rows that are no orders. -/
import Derived.Test.YtpehbgcbifgokaaPermH
namespace Go.Proofs.Ytpehbgcbifgokaa
open Go.RowKit
set_option linter.unusedVariables false
set_option linter.unusedSimpArgs false

/-- How often is a number among the first k? -/
def cnt (p : List Int) (m : Int) : Nat → Nat
  | 0 => 0
  | k + 1 => cnt p m k + if nth p k = m then 1 else 0
theorem cnt_zero (p : List Int) (m : Int) : cnt p m 0 = 0 := rfl
theorem cnt_new (p : List Int) (m : Int) (k : Nat) (h : nth p k = m) : cnt p m (k + 1) = cnt p m k + 1 := by
  show cnt p m k + (if nth p k = m then 1 else 0) = _; rw [if_pos h]
theorem cnt_old (p : List Int) (m : Int) (k : Nat) (h : nth p k ≠ m) : cnt p m (k + 1) = cnt p m k := by
  show cnt p m k + (if nth p k = m then 1 else 0) = _; rw [if_neg h]; omega
theorem cnt_step (p : List Int) (m : Int) (k : Nat) : cnt p m k ≤ cnt p m (k + 1) ∧ cnt p m (k + 1) ≤ cnt p m k + 1 := by
  by_cases h : nth p k = m
  · rw [cnt_new p m k h]; omega
  · rw [cnt_old p m k h]; omega
theorem cnt_le (p : List Int) (m : Int) (k : Nat) : cnt p m k ≤ k := by
  induction k with
  | zero => rw [cnt_zero]; omega
  | succ k ih => have := (cnt_step p m k).2; omega
theorem cnt_mono (p : List Int) (m : Int) (i d : Nat) : cnt p m i ≤ cnt p m (i + d) := by
  induction d with
  | zero => exact Nat.le_refl _
  | succ d ih => have := (cnt_step p m (i + d)).1; rw [← Nat.add_assoc]; omega
theorem cnt_some (p : List Int) (m : Int) (k : Nat) (h : 0 < cnt p m k) : ∃ i, i < k ∧ nth p i = m := by
  induction k with
  | zero => rw [cnt_zero] at h; omega
  | succ k ih =>
    by_cases e : nth p k = m
    · exact ⟨k, by omega, e⟩
    · rw [cnt_old p m k e] at h
      obtain ⟨i, hi, e⟩ := ih h
      exact ⟨i, by omega, e⟩
theorem cnt_two (p : List Int) (m : Int) (i j n : Nat) (hij : i < j) (hj : j < n) (hi' : nth p i = m) (hj' : nth p j = m) : 2 ≤ cnt p m n := by
  have h1 := cnt_new p m i hi'
  have h2 := cnt_new p m j hj'
  have h3 := cnt_mono p m (i + 1) (j - (i + 1))
  have h4 := cnt_mono p m (j + 1) (n - (j + 1))
  rw [show i + 1 + (j - (i + 1)) = j by omega] at h3
  rw [show j + 1 + (n - (j + 1)) = n by omega] at h4
  omega

/-- If each number is there once, the row is an order. -/
theorem isPerm_cnt (p : List Int) (h : ∀ m : Nat, m < p.length → cnt p m p.length = 1) : IsPerm p := by
  have hpos : ∀ m : Nat, ∃ i, m < p.length → i < p.length ∧ nth p i = (m : Int) := fun m => by
    by_cases hm : m < p.length
    · obtain ⟨i, hi, e⟩ := cnt_some p m p.length (by have := h m hm; omega)
      exact ⟨i, fun _ => ⟨hi, e⟩⟩
    · exact ⟨0, fun h => absurd h hm⟩
  obtain ⟨pos, hp⟩ := Classical.axiomOfChoice hpos
  have honto := Fld.onto p.length pos (fun i hi => (hp i hi).1) (fun i j hij hj e => by
    have h1 := (hp i (by omega)).2
    have h2 := (hp j hj).2
    rw [e, h2] at h1
    omega)
  constructor
  · intro i hi
    obtain ⟨m, hm, rfl⟩ := honto i hi
    rw [(hp m hm).2]; omega
  · intro i j hij hj e
    obtain ⟨m, hm, rfl⟩ := honto j hj
    have e2 := (hp m hm).2
    have := cnt_two p m i _ p.length hij hj (e.trans e2) e2
    have := h m hm
    omega

theorem not_perm (p : List Int) (h : ¬ IsPerm p) : ∃ m : Nat, m < p.length ∧ cnt p m p.length ≠ 1 := by
  by_cases h1 : ∃ m : Nat, m < p.length ∧ cnt p m p.length ≠ 1
  · exact h1
  · exact absurd (isPerm_cnt p fun m hm => by
      by_cases h2 : cnt p m p.length = 1
      · exact h2
      · exact absurd ⟨m, hm, h2⟩ h1) h

set_option maxHeartbeats 800000 in
theorem refHas (a : Option Addr) (n cap : Nat) (p : List Int) (m : Int) (w : World) (hx : Row .i64 w a p) (hn : p.length = n) (hl : n ≤ 16777216) :
    Calls Try.prog 61 #[.slice a n cap, .int .i64 m] w fun e w' => e = .returned (.int .i64 (cnt p m n : Nat)) ∧ w = w' := by
  subst hn
  have HX := Lib.hid hx
  have hle := cnt_le p m
  have HLE := Lib.hid hle
  clear hx hle
  go_enter Try.func61, Try.ntmps61
  go_wp2_with fail
  go_loopw [5, 6] (fun c i wr => ∃ (k z : Nat), k ≤ p.length ∧ i = .int .i64 k ∧ c = .int .i64 z ∧ Hid (z = cnt p m k) ∧ z ≤ k ∧ w = wr) (fun _ i _ => p.length - (intOf i).toNat)
  case atStart => exact ⟨0, 0, Nat.zero_le _, rfl, rfl, (cnt_zero p m).symm, by omega, rfl⟩
  case round =>
    obtain ⟨k, z, hk, rfl, rfl, HZ, hz0, rfl⟩ := hrel
    by_cases hlt : k < p.length
    · obtain ⟨b, off, rfl, hc⟩ := HX.out.at (by omega)
      have hck := hc k hlt
      have g1 : (0 : Int) ≤ (k : Int) := by omega
      have g2 : (k : Int) < (p.length : Int) := by omega
      by_cases he : nth p k = m
      · have hnew : Hid (z + 1 = cnt p m (k + 1)) := by unfold Hid; rw [cnt_new p m k he, HZ.out]
        have e4 : IntKind.i64.wrap ((z : Int) + 1) = ((z + 1 : Nat) : Int) := by rw [Int.natCast_add]; exact IntWalk.i64_in _ (by omega)
        rw [he] at hck
        clear hc he
        go_wp2_with fail
        go_roundw
        case rel => exact ⟨k + 1, z + 1, by omega, by go_num, rfl, hnew, by omega, trivial⟩
        case measure => simp [intOf]; omega
      · have hbe : (nth p k == m) = false := bno he
        have hold : Hid (z = cnt p m (k + 1)) := by unfold Hid; rw [cnt_old p m k he]; exact HZ.out
        clear hc he
        go_wp2_with fail
        go_roundw
        case rel => exact ⟨k + 1, z, by omega, by go_num, rfl, hold, by omega, trivial⟩
        case measure => simp [intOf]; omega
    · have hkp : k = p.length := by omega
      have HZ' : Hid (z = cnt p m p.length) := by unfold Hid; rw [← hkp]; exact HZ.out
      clear hkp HZ
      go_wp2_with fail
      go_ret
      exact ⟨ret_int (by rw [HZ'.out]), rfl⟩

set_option maxHeartbeats 400000 in
theorem refRight_no (a : Option Addr) (n cap : Nat) (p : List Int) (w : World) (hx : Row .i64 w a p) (hn : p.length = n) (hl : n ≤ 16777216) (hp : ¬ IsPerm p) :
    Calls Try.prog 33 #[.slice a n cap] w fun e w' => e = .returned (.bool false) ∧ w = w' := by
  have HH : Hid (∀ m : Nat, Calls Try.prog 61 #[.slice a n cap, .int .i64 m] w fun e w' => e = .returned (.int .i64 (cnt p m n : Nat)) ∧ w = w') := fun m => refHas a n cap p m w hx hn hl
  have HE : Hid (∃ m : Nat, m < n ∧ cnt p m n ≠ 1) := by rw [← hn]; exact not_perm p hp
  clear hx hp hn
  go_enter Try.func33, Try.ntmps33
  go_wp2_with fail
  go_loopw [3] (fun i wr => ∃ (k : Nat), k ≤ n ∧ i = .int .i64 k ∧ Hid (∀ j : Nat, j < k → cnt p j n = 1) ∧ w = wr) (fun i _ => n - (intOf i).toNat)
  case atStart => exact ⟨0, Nat.zero_le _, rfl, fun j hj => by omega, rfl⟩
  case round =>
    obtain ⟨k, hk, rfl, HJ, rfl⟩ := hrel
    by_cases hlt : k < n
    · by_cases h1 : cnt p k n = 1
      · have hnx : Hid (∀ j : Nat, j < k + 1 → cnt p j n = 1) := fun j hj => by
          by_cases hjk : j < k
          · exact HJ.out j hjk
          · obtain rfl : j = k := by omega
            exact h1
        have H1 := Lib.hid h1
        clear h1
        go_wp2_with fail
        refine (HH.out k).mono ?_; rintro e w' ⟨rfl, rfl⟩
        rw [H1.out]
        go_wp2_with fail
        go_roundw
        case rel => exact ⟨k + 1, by omega, by go_num, hnx, trivial⟩
        case measure => simp [intOf]; omega
      · obtain ⟨c, hc⟩ : ∃ c, cnt p k n = c := ⟨_, rfl⟩
        rw [hc] at h1
        have hbe : ((c : Int) != 1) = true := bdiff (by omega)
        have HC := Lib.hid hc
        clear hc h1
        go_wp2_with fail
        refine (HH.out k).mono ?_; rintro e w' ⟨rfl, rfl⟩
        rw [HC.out]
        go_wp2_with fail
        go_ret
        exact ⟨rfl, rfl⟩
    · obtain ⟨m, hm, e⟩ := HE.out
      exact absurd (HJ.out m (by omega)) e
end Go.Proofs.Ytpehbgcbifgokaa
