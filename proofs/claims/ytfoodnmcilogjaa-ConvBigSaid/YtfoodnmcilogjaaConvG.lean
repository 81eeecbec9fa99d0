/- The law of too many numbers, as a call that returns true. -/
import Derived.Test.YtfoodnmcilogjaaConvE
namespace Go.Proofs.Ytfoodnmcilogjaa
open Go.RowKit Sm
set_option linter.unusedVariables false
set_option linter.unusedSimpArgs false

theorem fits_u16 {x : Int} : fits .u16 x ↔ 0 ≤ x ∧ x < 65536 := by
  unfold fits
  simp only [Lit.wf, Bool.and_eq_true, decide_eq_true_eq, show IntKind.u16.min = 0 from rfl, show IntKind.u16.max = 65535 from rfl]
  omega

/-- What Linear tells of so many numbers and one. -/
def bigE (N : Nat) : Int := if 4096 < N then 12 else 0
def ErrIs (er : Int) (w : World) (e : Ending) (w' : World) : Prop := ∃ a n c, e = .returned (.tuple #[.slice a n c, .int .i64 er]) ∧ Below w.heap.size w w'

theorem lin_err (a b : Option Addr) (n m ca cb : Nat) (xs ys : List Int) (w : World) (hx : Row .u64 w a xs) (hy : Row .u64 w b ys) (hn : xs.length = n) (hm : ys.length = m) (hl : n ≤ 5000) (hl2 : m ≤ 5000) :
    Calls Try.prog 44 #[.slice a n ca, .slice b m cb] w (ErrIs (if 4096 < n ∨ 4096 < m then 12 else 0) w) := by
  by_cases h : 4096 < n ∨ 4096 < m
  · rw [if_pos h]
    refine (conv_Linear_big a b n m ca cb w (by omega) (by omega) (by omega)).mono ?_
    rintro e w' ⟨rfl, rfl⟩
    exact ⟨_, _, _, rfl, Below.refl _ _⟩
  · rw [if_neg h]
    refine (conv_Linear a b n m ca cb xs ys w hx hy hn hm (by omega) (by omega)).mono ?_
    rintro e w' ⟨b1, cap1, rfl, hr1, hcap1, hb1⟩
    exact ⟨_, _, _, rfl, hb1⟩

set_option maxHeartbeats 1600000 in
theorem convBig_any (k r N : Nat) (a er : Int) (w : World) (hk : k < 65536) (hr : k % 3 = r) (hN : r + 4096 = N) (ha : fits .u64 a) (her : (4096 < N ∧ er = 12) ∨ (N ≤ 4096 ∧ er = 0)) :
    Calls Try.prog 9 #[.int .u16 k, .int .u64 a] w fun e w' => e = .returned (.bool true) ∧ Below w.heap.size w w' := by
  obtain ⟨i0, hi, hz0, hz1, hz2⟩ := info_parts info_u64
  have hN2 : N ≤ 4098 := by omega
  have hN3 : 4096 ≤ N := by omega
  have e1 : (k : Int) % 3 = (r : Int) := by omega
  have e2 : (r : Int) + 4096 = (N : Int) := by omega
  have HA := Lib.hid ha
  have r1 : ∀ (w : World) (n : Nat), n = w.heap.size → Row .u64 (w.alloc (.cells #[.int .u64 1] 28)) (some ⟨n, 0, none⟩) [1] := fun w n hn => lit_row w _ n [1] hn (smallL _ (by decide)) (by simp)
  have R1 := Lib.hid r1
  have HL1 : Hid (∀ (w : World) (a b : Option Addr) (c d : Nat) (xs : List Int), Row .u64 w a xs → Row .u64 w b [1] → xs.length = N → Calls Try.prog 44 #[.slice a N c, .slice b 1 d] w (ErrIs er w)) := fun w a b c d xs h1 h2 h3 => by
    have := lin_err a b N 1 c d xs [1] w h1 h2 h3 rfl (by omega) (by omega)
    rcases her with ⟨h4, rfl⟩ | ⟨h4, rfl⟩
    · rw [if_pos (.inl h4)] at this; exact this
    · rw [if_neg (by omega)] at this; exact this
  have HL2 : Hid (∀ (w : World) (a b : Option Addr) (c d : Nat) (xs : List Int), Row .u64 w a xs → Row .u64 w b [1] → xs.length = N → Calls Try.prog 44 #[.slice b 1 d, .slice a N c] w (ErrIs er w)) := fun w a b c d xs h1 h2 h3 => by
    have := lin_err b a 1 N d c [1] xs w h2 h1 rfl h3 (by omega) (by omega)
    rcases her with ⟨h4, rfl⟩ | ⟨h4, rfl⟩
    · rw [if_pos (.inr h4)] at this; exact this
    · rw [if_neg (by omega)] at this; exact this
  have hee : (er == er) = true := by simp
  clear hr hN r1 ha
  rcases her with ⟨h4, rfl⟩ | ⟨h4, rfl⟩
  all_goals
    go_enter Try.func9, Try.ntmps9
    go_wp2_with (at_make; refine wpList_make_full _ rfl _ _ 22 rfl w.heap.size 28 i0 (.int .u64 0) 1 Try.underlying22 hi hz0 hz1 .i64 .i64 N N N rfl rfl rfl rfl (by rw [hz2]; omega) (by unfold maxLen; omega) (Nat.le_refl _) ?_)
    intro w1 hown0 hgrow0
    have hown := Own.made hown0 hgrow0
    clear hown0 hgrow0
    have hcell := hown.cell 0 (by omega)
    have hfz := hown.free 0
    have hnext := hown.store 0 (by omega) a (f' := fun j => if j = 0 then a else 0) (if_pos rfl) (fun j _ hj => if_neg hj)
    have hrow := hnext.row (xs := (List.range N).map fun j => if j = 0 then a else 0) (by simp) (fun x hx => by
      obtain ⟨j, _, rfl⟩ := List.mem_map.1 hx
      split
      · exact HA.out
      · exact fits_u64.2 (by omega)) (fun i hi => nth_ofFn _ _ _ hi) (by omega)
    have HR := Lib.hid hrow
    have HB := Lib.hid hnext.below
    have HLN : Hid (((List.range N).map fun j => if j = 0 then a else (0 : Int)).length = N) := by unfold Hid; simp
    have g1 : (0 : Int) < (N : Int) := by omega
    have g2 : 0 < N := by omega
    clear hown hnext hrow
    go_wp2_with fail
    refine (HL1.out _ _ _ _ _ _ (HR.out.below ((Below.refl _ _).alloc (Nat.le_refl _) _)) (R1.out _ _ (by simp)) HLN.out).mono ?_
    rintro e w2 ⟨a2, n2, c2, rfl, hb2⟩
    have hbl := chainA HB.out hb2
    have HR2 := Lib.hid (HR.out.below (chainA (Below.refl _ _) hb2))
    go_wp2_with fail
    refine (HL2.out _ _ _ _ _ _ (HR2.out.below ((Below.refl _ _).alloc (Nat.le_refl _) _)) (R1.out _ _ (by simp)) HLN.out).mono ?_
    rintro e w3 ⟨a3, n3, c3, rfl, hb3⟩
    have hbl := chainA hbl hb3
    go_wp2_with fail
    refine (live07 _).mono ?_
    rintro e w7 ⟨rfl, hb7⟩
    go_wp2_with fail
    go_ret
    exact ⟨ret_bool (by first | rfl | (simp; omega)), chain hbl hb7⟩

theorem convBigW (n a : Int) (w : World) (hn : fits .u16 n) (ha : fits .u64 a) :
    Calls Try.prog 9 #[.int .u16 n, .int .u64 a] w fun e w' => e = .returned (.bool true) ∧ Below w.heap.size w w' := by
  obtain ⟨h0, h1⟩ := fits_u16.1 hn
  obtain ⟨k, rfl⟩ := Int.eq_ofNat_of_zero_le h0
  by_cases h : k % 3 = 0
  · exact convBig_any k _ _ a 0 w (by omega) h rfl ha (.inr ⟨by omega, rfl⟩)
  · exact convBig_any k (k % 3) _ a 12 w (by omega) rfl rfl ha (.inl ⟨by omega, rfl⟩)
end Go.Proofs.Ytfoodnmcilogjaa
