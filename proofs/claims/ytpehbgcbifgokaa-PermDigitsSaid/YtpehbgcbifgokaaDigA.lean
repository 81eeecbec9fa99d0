/- Digits: the product of radices, twice; one number turned; the order. -/
import Derived.Test.YtpehbgcbifgokaaDigL
import Derived.Test.YtpehbgcbifgokaaPermR
namespace Go.Proofs.Ytpehbgcbifgokaa
open Go.RowKit
set_option linter.unusedVariables false
set_option linter.unusedSimpArgs false

theorem drop_nth (xs : List Int) (k : Nat) (h : k < xs.length) : xs.drop k = nth xs k :: xs.drop (k + 1) := by
  rw [List.drop_eq_getElem_cons h]; congr 1; simp [nth, h]
theorem prN_small (r : Int) (t : List Int) (n : Nat) (h : r < 2) : prN (r :: t) n = 0 := by show (if _ then _ else _) = 0; rw [if_pos (Or.inl h)]
theorem prN_great (R : Nat) (t : List Int) (n : Nat) (h : 16777216 < R * n) : prN ((R : Int) :: t) n = 0 := by
  show (if _ then _ else _) = 0; rw [if_pos (Or.inr (by rw [← Int.natCast_mul]; omega))]
theorem prN_step (R : Nat) (t : List Int) (n : Nat) (h : 2 ≤ R) (h2 : R * n ≤ 16777216) : prN ((R : Int) :: t) n = prN t (n * R) := by
  show (if _ then _ else prN t (n * (R : Int).toNat)) = _
  rw [if_neg (by rw [← Int.natCast_mul]; omega), Int.toNat_natCast]
theorem great_div (R n : Nat) (hn : 1 ≤ R) : 16777216 / R < n ↔ 16777216 < R * n := by rw [Nat.div_lt_iff_lt_mul (by omega), Nat.mul_comm]
theorem prN_le (xs : List Int) : ∀ n, n ≤ 16777216 → prN xs n ≤ 16777216 := by
  induction xs with
  | nil => intro n h; exact h
  | cons r t ih =>
    intro n h
    show (if _ then _ else _) ≤ _
    split
    · omega
    · rename_i hc
      refine ih _ ?_
      have h1 : ¬ r < 2 := fun e => hc (Or.inl e)
      obtain ⟨R, rfl⟩ := Int.eq_ofNat_of_zero_le (show 0 ≤ r by omega)
      have h2 : ¬ 16777216 < (R : Int) * n := fun e => hc (Or.inr e)
      rw [← Int.natCast_mul] at h2
      rw [Int.toNat_natCast, Nat.mul_comm]
      omega

set_option maxHeartbeats 1000000 in
theorem perm_product (a : Option Addr) (n c : Nat) (xs : List Int) (w : World) (hx : Row .i64 w a xs) (hxl : xs.length = n) :
    Calls Try.prog 72 #[.slice a n c] w fun e w' => e = .returned (.int .i64 (prN xs 1 : Nat)) ∧ w = w' := by
  have HX := Lib.hid hx
  have HN := Lib.hid hxl
  have hl := hx.len
  rw [hxl] at hl
  obtain ⟨V, hV⟩ : ∃ V, prN xs 1 = V := ⟨_, rfl⟩
  rw [hV]
  have HV := Lib.hid hV
  clear hx hxl hV
  go_enter Try.func72, Try.ntmps72
  go_wp2_with fail
  go_loopw [3, 8] (fun v i wr => ∃ k m : Nat, k ≤ n ∧ i = .int .i64 k ∧ v = .int .i64 m ∧ 1 ≤ m ∧ m ≤ 16777216 ∧ Hid (prN (xs.drop k) m = V) ∧ w = wr) (fun _ i _ => n - (intOf i).toNat)
  case atStart => exact ⟨0, 1, Nat.zero_le _, rfl, rfl, by omega, by omega, HV.out, rfl⟩
  case round =>
    obtain ⟨k, m, hk, rfl, rfl, hm1, hm2, HP, rfl⟩ := hrel
    by_cases hlt : k < n
    · obtain ⟨b, off, rfl, hc⟩ := HX.out.at (by rw [HN.out]; omega)
      have hck := hc k (by rw [HN.out]; exact hlt)
      have hd := drop_nth xs k (by rw [HN.out]; exact hlt)
      have hf := fits_i64.1 (HX.out.wf _ (nth_mem (show k < xs.length by rw [HN.out]; exact hlt)))
      have hp := HP.out
      rw [hd] at hp
      obtain ⟨r, hr⟩ : ∃ r, nth xs k = r := ⟨_, rfl⟩
      rw [hr] at hck hf hp
      clear hc hd hr HP
      by_cases h2 : r < 2
      · rw [prN_small r _ _ h2] at hp
        have HZ := Lib.hid hp
        clear hp
        go_wp2_with fail
        go_ret
        exact ⟨by simp [← HZ.out], rfl⟩
      · obtain ⟨R, rfl⟩ := Int.eq_ofNat_of_zero_le (show 0 ≤ r by omega)
        by_cases h3 : 16777216 < (R : Int)
        · rw [prN_great R _ _ (Nat.lt_of_lt_of_le (show 16777216 < R by omega) (Nat.le_mul_of_pos_right R hm1))] at hp
          have HZ := Lib.hid hp
          clear hp
          go_wp2_with fail
          go_ret
          exact ⟨by simp [← HZ.out], rfl⟩
        · have hg := great_div R m (by omega)
          obtain ⟨Q, hQ⟩ : ∃ Q, 16777216 / R = Q := ⟨_, rfl⟩
          rw [hQ] at hg
          have q1 : (16777216 : Int) / (R : Int) = (Q : Int) := by rw [← hQ]; rfl
          have q2 : Int.tdiv 16777216 (R : Int) = (Q : Int) := by rw [Int.tdiv_eq_ediv_of_nonneg (by omega)]; exact q1
          have q3 : ((R : Int) == 0) = false := by simp; omega
          have q4 : Q ≤ 16777216 := by rw [← hQ]; exact Nat.div_le_self _ _
          clear hQ
          by_cases h4 : Q < m
          · rw [prN_great R _ _ (hg.1 h4)] at hp
            have HZ := Lib.hid hp
            clear hp hg
            go_wp2_with fail
            go_ret
            exact ⟨by simp [← HZ.out], rfl⟩
          · have h5 : R * m ≤ 16777216 := by
              rcases Nat.lt_or_ge 16777216 (R * m) with h | h
              · exact absurd (hg.2 h) h4
              · exact h
            rw [prN_step R _ _ (by omega) h5] at hp
            obtain ⟨X, hX⟩ : ∃ X, m * R = X := ⟨_, rfl⟩
            have hX1 : (m : Int) * (R : Int) = (X : Int) := by rw [← hX, Int.natCast_mul]
            have hX2 : X ≤ 16777216 := by rw [← hX, Nat.mul_comm]; exact h5
            have hX3 : 1 ≤ X := by rw [← hX]; exact Nat.mul_pos hm1 (by omega)
            rw [hX] at hp
            have HZ := Lib.hid hp
            clear hp hX h5 hg
            go_wp2_with fail
            go_roundw
            case rel => exact ⟨k + 1, X, by omega, by go_num, rfl, hX3, hX2, HZ.out, trivial⟩
            case measure => simp [intOf]; omega
    · have hkn : k = n := by omega
      have hp := HP.out
      rw [List.drop_eq_nil_of_le (by rw [HN.out]; omega)] at hp
      have HZ : Hid (m = V) := hp
      clear hp HP
      go_wp2_with fail
      go_ret
      exact ⟨by simp [HZ.out], rfl⟩
end Go.Proofs.Ytpehbgcbifgokaa
