/- Good; what the references say; how often a number is there. -/
import Derived.Test.YtpehbgcbifgokaaPermE
namespace Go.Proofs.Ytpehbgcbifgokaa
open Go.RowKit
set_option linter.unusedVariables false
set_option linter.unusedSimpArgs false

theorem good1 (i j a b p q : Nat) (w : World) (hcb : w.cell? ⟨p, 0, none⟩ = some (.int .i64 b)) (hca : w.cell? ⟨q, 0, none⟩ = some (.int .i64 a)) (hi : i < a) (hj : j < b) (hab : a * b ≤ 16777216) :
    Calls Try.prog 59 #[.int .i64 i, .int .i64 j, .pointer (some ⟨p, 0, none⟩), .pointer (some ⟨q, 0, none⟩)] w fun e w' => e = .returned (.int .i64 (((i * b + j * a) % (a * b) : Nat) : Int)) ∧ w = w' := by
  have m1 : i * b ≤ a * b := Nat.mul_le_mul_right b (by omega)
  have m2 : j * a ≤ a * b := by rw [Nat.mul_comm a b]; exact Nat.mul_le_mul_right a (by omega)
  have hpos : 0 < a * b := Nat.mul_pos (by omega) (by omega)
  have e1 : IntKind.i64.wrap ((i : Int) * (b : Int)) = ((i * b : Nat) : Int) := by rw [← Int.natCast_mul]; exact IntWalk.i64_in _ (by omega)
  have e2 : IntKind.i64.wrap ((j : Int) * (a : Int)) = ((j * a : Nat) : Int) := by rw [← Int.natCast_mul]; exact IntWalk.i64_in _ (by omega)
  have e3 : IntKind.i64.wrap ((a : Int) * (b : Int)) = ((a * b : Nat) : Int) := by rw [← Int.natCast_mul]; exact IntWalk.i64_in _ (by omega)
  have hlt := Nat.mod_lt (i * b + j * a) hpos
  obtain ⟨x, hx⟩ : ∃ x, i * b = x := ⟨_, rfl⟩
  obtain ⟨y, hy⟩ : ∃ y, j * a = y := ⟨_, rfl⟩
  obtain ⟨N, hN⟩ : ∃ N, a * b = N := ⟨_, rfl⟩
  rw [hx] at e1 hlt m1 ⊢
  rw [hy] at e2 hlt m2 ⊢
  rw [hN] at e3 hlt hpos m1 m2 hab ⊢
  obtain ⟨r, hr⟩ : ∃ r, (x + y) % N = r := ⟨_, rfl⟩
  have e4 : IntKind.i64.wrap ((x : Int) + (y : Int)) = ((x + y : Nat) : Int) := by rw [← Int.natCast_add]; exact IntWalk.i64_in _ (by omega)
  have e5 : ((x + y : Nat) : Int).tmod (N : Int) = (r : Int) := by rw [Int.tmod_eq_emod_of_nonneg (by omega), ← Int.natCast_emod, hr]
  have e6 : ((x + y : Nat) : Int) % (N : Int) = (r : Int) := by rw [← Int.natCast_emod, hr]
  have n0 : ((N : Int) == 0) = false := bno (by omega)
  have n1 : ¬ (N : Int) = 0 := by omega
  have n2 : ¬ N = 0 := by omega
  rw [hr] at hlt ⊢
  obtain ⟨z, hz⟩ : ∃ z, x + y = z := ⟨_, rfl⟩
  rw [hz] at e4 e5 e6
  clear hx hy hN hr hz m1 m2
  go_enter Try.func59, Try.ntmps59
  go_wp2_with fail
  go_ret
  exact ⟨rfl, rfl⟩

theorem gooL_tab (a b : Nat) : tabL a b (fun i j => (((i * b + j * a) % (a * b) : Nat) : Int)) = gooL a b := rfl
theorem gooL_len (a b : Nat) : (gooL a b).length = a * b := mapL_len _ _

set_option maxHeartbeats 400000 in
theorem permGood_ok (a b : Nat) (w : World) (h : Sides a b) (hg : Nat.gcd a b = 1) :
    Calls Try.prog 27 #[.int .i64 a, .int .i64 b] w (GivesRowE .i64 (gooL a b) 0 w) := by
  have hent : ∀ args w, (callFunc 59 args).run Try.prog w = .ok (.enter 59 args) w := enters_of Try.func59 (by kernel_rfl) rfl
  have h' := h
  obtain ⟨h1, h2, h3, h4, h5⟩ := h'
  have hab : a * b ≤ 16777216 := by rw [← Int.natCast_mul] at h5; omega
  have hfit : ∀ i j, i < a → j < b → fits .i64 (((i * b + j * a) % (a * b) : Nat) : Int) := fun i j hi hj => fits_nat (by have := Nat.mod_lt (i * b + j * a) (Nat.mul_pos (show 0 < a by omega) (show 0 < b by omega)); omega)
  have HFT := Lib.hid hfit
  have hg1 : Hid (∀ (i j p q : Nat) (wr : World), i < a → j < b → wr.cell? ⟨p, 0, none⟩ = some (.int .i64 b) → wr.cell? ⟨q, 0, none⟩ = some (.int .i64 a) →
      Calls Try.prog 59 (#[.int .i64 i, .int .i64 j] ++ #[.pointer (some ⟨p, 0, none⟩), .pointer (some ⟨q, 0, none⟩)]) wr fun e w' => e = .returned (.int .i64 (((i * b + j * a) % (a * b) : Nat) : Int)) ∧ Below wr.heap.size wr w') :=
    fun i j p q wr hi hj hp hq => (good1 i j a b p q wr hp hq hi hj hab).mono fun e w' ⟨he, hw⟩ => ⟨he, hw ▸ Below.refl _ _⟩
  have H := Lib.hid h
  have HG := Lib.hid hg
  have ca : ((w.alloc (.cells #[.int .i64 a] 3)).alloc (.cells #[.int .i64 b] 3)).cell? ⟨w.heap.size, 0, none⟩ = some (.int .i64 a) := by
    rw [cell_past _ _ _ (by simp)]; exact one_new _ _ _
  have cb : ((w.alloc (.cells #[.int .i64 a] 3)).alloc (.cells #[.int .i64 b] 3)).cell? ⟨w.heap.size + 1, 0, none⟩ = some (.int .i64 b) := cell_new (by simp)
  have hsz : w.heap.size + 1 < ((w.alloc (.cells #[.int .i64 a] 3)).alloc (.cells #[.int .i64 b] 3)).heap.size := by simp
  have hbel : Below w.heap.size w ((w.alloc (.cells #[.int .i64 a] 3)).alloc (.cells #[.int .i64 b] 3)) := ((Below.refl _ _).alloc (Nat.le_refl _) _).alloc (by simp) _
  have CAB := Lib.hid (And.intro ca cb)
  have HSZ := Lib.hid (And.intro hsz hbel)
  clear hfit h h5 hg hsz hbel
  go_enter Try.func27, Try.ntmps27
  go_wp2_with fail
  refine (permCoprime_ok a b _ H.out HG.out).mono ?_
  rintro e w1 ⟨rfl, hb1⟩
  have ca1 := (hb1.cell (p := ⟨w.heap.size, 0, none⟩) (by have := HSZ.out.1; show w.heap.size < _; omega)).trans CAB.out.1
  have cb1 := (hb1.cell (p := ⟨w.heap.size + 1, 0, none⟩) HSZ.out.1).trans CAB.out.2
  have hs1 : w.heap.size + 1 < w1.heap.size := Nat.lt_of_lt_of_le HSZ.out.1 hb1.size
  have hbl : Below w.heap.size w w1 := HSZ.out.2.trans (hb1.mono (by have := HSZ.out.1; omega))
  have HF : Hid (∀ (i j : Nat) (wr : World), i < a → j < b → Below w1.heap.size w1 wr →
      Calls Try.prog 59 (#[.int .i64 i, .int .i64 j] ++ #[.pointer (some ⟨w.heap.size + 1, 0, none⟩), .pointer (some ⟨w.heap.size, 0, none⟩)]) wr fun e w' => e = .returned (.int .i64 (((i * b + j * a) % (a * b) : Nat) : Int)) ∧ Below wr.heap.size wr w') :=
    fun i j wr hi hj hb => hg1.out i j _ _ wr hi hj ((hb.cell (by exact hs1)).trans cb1) ((hb.cell (by show w.heap.size < _; omega)).trans ca1)
  go_wp2_with fail
  refine (permTable a b (fun i j => (((i * b + j * a) % (a * b) : Nat) : Int)) _ _ _ hab (by omega) (by omega) HFT.out hent HF.out).mono ?_
  rintro e w' ⟨a', cap', rfl, hr, hcap, hb⟩
  go_wp2_with fail
  go_ret2
  exact ⟨a', cap', rfl, hr, hcap, chain hbl hb⟩

theorem gooF_val (a b k : Nat) : (k / b * b + k % b * a) % (a * b) = gooF a b k := rfl

set_option maxHeartbeats 1600000 in
theorem refGood (a b : Nat) (w : World) (h : Sides a b) (hl : a * b ≤ 400) :
    Calls Try.prog 31 #[.int .i64 a, .int .i64 b] w (GivesRow .i64 (gooL a b) w) := by
  obtain ⟨i0, hi, hz0, hz1, hz2⟩ := info_parts info_int
  obtain ⟨h1, h2, h3, h4, h5⟩ := h
  have hw : IntKind.i64.wrap ((a : Int) * (b : Int)) = ((a * b : Nat) : Int) := by rw [← Int.natCast_mul]; exact IntWalk.i64_in _ (by omega)
  have hfits : ∀ x ∈ gooL a b, fits .i64 x := mapL_fits _ _ (gooF_lt a b) (by omega)
  have HB : Hid (∀ k, k < a * b → k / b * b ≤ a * b ∧ k % b * a ≤ a * b ∧ gooF a b k < a * b) := fun k hk => ⟨by have := Nat.div_mul_le_self k b; omega, by rw [Nat.mul_comm a b]; exact Nat.mul_le_mul_right a (Nat.le_of_lt (Nat.mod_lt _ (by omega))), gooF_lt a b k hk⟩
  have HL := Lib.hid (gooL_len a b)
  have HFT := Lib.hid hfits
  have hb0 : ((b : Int) == 0) = false := bno (by omega)
  have hb0' : ¬ (b : Int) = 0 := by omega
  have hb0'' : ¬ b = 0 := by omega
  have hN0 : 0 < a * b := Nat.mul_pos (by omega) (by omega)
  obtain ⟨N, hN⟩ : ∃ N, a * b = N := ⟨_, rfl⟩
  rw [hN] at hw hl hN0
  have hn0 : ((N : Int) == 0) = false := bno (by omega)
  have hn0' : ¬ (N : Int) = 0 := by omega
  have hn0'' : ¬ N = 0 := by omega
  have HN := Lib.hid hN
  clear hN h5 hfits
  go_enter Try.func31, Try.ntmps31
  go_wp2_with fail
  go_loopw [5, 6] (fun v i wr => ∃ k : Nat, k ≤ N ∧ i = .int .i64 k ∧ Own .i64 3 w wr v k (fun k => ((gooF a b k : Nat) : Int))) (fun _ i _ => N - (intOf i).toNat)
  case atStart => exact ⟨0, Nat.zero_le _, rfl, Own.nil _ _ _ _⟩
  case round =>
    obtain ⟨k, hk, rfl, hown⟩ := hrel
    by_cases hlt : k < N
    · obtain ⟨q1, q2, q3⟩ := HB.out k (by rw [HN.out]; exact hlt)
      rw [HN.out] at q1 q2 q3
      obtain ⟨x1, x2, y1, y2, r, hx1, hx2, hy1, hy2, hr⟩ : ∃ x1 x2 y1 y2 r : Nat, k / b = x1 ∧ x1 * b = x2 ∧ k % b = y1 ∧ y1 * a = y2 ∧ (x2 + y2) % N = r := ⟨_, _, _, _, _, rfl, rfl, rfl, rfl, rfl⟩
      have hval : gooF a b k = r := by unfold gooF; rw [hx1, hx2, hy1, hy2, HN.out, hr]
      rw [hx1, hx2] at q1
      rw [hy1, hy2] at q2
      rw [hval] at q3
      have e1 : (k : Int).tdiv (b : Int) = (x1 : Int) := by rw [Int.tdiv_eq_ediv_of_nonneg (by omega), ← Int.natCast_ediv, hx1]
      have e1' : (k : Int) / (b : Int) = (x1 : Int) := by rw [← Int.natCast_ediv, hx1]
      have hx1k : x1 ≤ k := by rw [← hx1]; exact Nat.div_le_self _ _
      have e1w : IntKind.i64.wrap (x1 : Int) = (x1 : Int) := IntWalk.i64_in _ (by omega)
      have e1c : IntKind.i64.wrap ((k : Int).tdiv (b : Int)) = (x1 : Int) := by rw [e1, e1w]
      have e2 : IntKind.i64.wrap ((x1 : Int) * (b : Int)) = (x2 : Int) := by rw [← Int.natCast_mul, hx2]; exact IntWalk.i64_in _ (by omega)
      have e3 : (k : Int).tmod (b : Int) = (y1 : Int) := by rw [Int.tmod_eq_emod_of_nonneg (by omega), ← Int.natCast_emod, hy1]
      have e3' : (k : Int) % (b : Int) = (y1 : Int) := by rw [← Int.natCast_emod, hy1]
      have e4 : IntKind.i64.wrap ((y1 : Int) * (a : Int)) = (y2 : Int) := by rw [← Int.natCast_mul, hy2]; exact IntWalk.i64_in _ (by omega)
      have e5 : IntKind.i64.wrap ((x2 : Int) + (y2 : Int)) = ((x2 + y2 : Nat) : Int) := by rw [← Int.natCast_add]; exact IntWalk.i64_in _ (by omega)
      have e6 : ((x2 + y2 : Nat) : Int).tmod (N : Int) = (r : Int) := by rw [Int.tmod_eq_emod_of_nonneg (by omega), ← Int.natCast_emod, hr]
      have e6' : ((x2 + y2 : Nat) : Int) % (N : Int) = (r : Int) := by rw [← Int.natCast_emod, hr]
      obtain ⟨z, hz⟩ : ∃ z, x2 + y2 = z := ⟨_, rfl⟩
      rw [hz] at e5 e6 e6'
      have hsz := hown.below.size
      have hk0 : (0 : Int) ≤ (k : Int) := by omega
      have hz0' : (0 : Int) ≤ (z : Int) := by omega
      have hb1 : (1 : Int) ≤ (b : Int) := by omega
      have HV := Lib.hid hval
      clear hx1 hx2 hy1 hy2 hr hval hz e1
      go_wp2_with fail
      go_region_held3 (fun w' => True) (trivial) ((refine step_append_lies _ (by rfl) _ _ 35 (by rfl) w.heap.size 3 i0 _ 1 8 Try.underlying35 hi hz0 hz1 hz2 rfl (by omega) _ k _ (by rfl) ((hown.own.alloc _).drew) ⟨wr.heap.size, 0, none⟩ 1 1 [.int .i64 (r : Int)] (by rfl) (by rfl) (cell_one_new _ _ _) (one_cell _ _) (by omega) (by unfold maxLen; omega) (by omega) (size_alloc_le hown.below _) (wr.heap.size + 1) (by simp) ?_; intro gg cap w1 hown' hgrow hat hlt0))
      have hnext := hown.push (r : Int) (by rw [HV.out]) hown' (grown_of_drew hgrow)
      clear hown' hgrow
      go_wp2_with fail
      go_roundw
      case rel => exact ⟨k + 1, by omega, by go_num, hnext⟩
      case measure => simp [intOf]; omega
    · have hres := hown.gives (xs := gooL a b) (by rw [HL.out, HN.out]; omega) HFT.out (fun i hi => nth_mapL _ _ _ (by rw [HN.out]; omega)) (by omega)
      clear hown
      go_wp2_with fail
      go_ret
      exact hres
end Go.Proofs.Ytpehbgcbifgokaa
