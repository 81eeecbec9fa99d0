/- Tables by columns; divisors; which rows are the same. -/
import Derived.Test.YtpehbgcbifgokaaPermA
import Derived.Test.YtpehbgcbifgokaaField
import Derived.Deep.QuietTactic
import Derived.BigQuiet
import Derived.Shelf.Abstract
import Derived.Deep.RegionHeld3
import Derived.Deep.AppendLies
import Derived.Deep.DrawnRows
namespace Go.Proofs.Ytpehbgcbifgokaa
open Go.RowKit
set_option linter.unusedVariables false
set_option linter.unusedSimpArgs false

/-- A result: a new row of whole numbers, and an error's number. -/
def GivesRowE (k : IntKind) (xs : List Int) (err : Int) (w : World) (e : Ending) (w' : World) : Prop :=
  ∃ a cap, e = .returned (.tuple #[.slice a xs.length cap, .int .i64 err]) ∧ Row k w' a xs ∧ OkCap a xs.length cap ∧ Below w.heap.size w w'

theorem fits_nat {n : Nat} (h : n ≤ 1000000000) : fits .i64 (n : Int) := fits_i64.2 (by omega)

theorem stride1 (j i b p : Nat) (w : World) (hc : w.cell? ⟨p, 0, none⟩ = some (.int .i64 b)) (hj : j ≤ 16777216) (hi : i ≤ 16777216) (hb : b ≤ 16777216) :
    Calls Try.prog 63 #[.int .i64 j, .int .i64 i, .pointer (some ⟨p, 0, none⟩)] w fun e w' => e = .returned (.int .i64 ((i * b + j : Nat) : Int)) ∧ w = w' := by
  have hm : i * b ≤ 16777216 * 16777216 := Nat.mul_le_mul hi hb
  have e1 : (i : Int) * (b : Int) = ((i * b : Nat) : Int) := (Int.natCast_mul i b).symm
  have e2 : IntKind.i64.wrap ((i : Int) * (b : Int)) = ((i * b : Nat) : Int) := by rw [e1]; exact IntWalk.i64_in _ (by omega)
  obtain ⟨q, hq⟩ : ∃ q, i * b = q := ⟨_, rfl⟩
  rw [hq] at e2 ⊢
  clear e1
  have hqb : q ≤ 281474976710656 := by omega
  clear hq hm
  go_enter Try.func63, Try.ntmps63
  go_wp2_with fail
  go_ret
  exact ⟨ret_int (by omega), rfl⟩

set_option maxHeartbeats 400000 in
theorem permStride_yes (a b : Nat) (w : World) (h : Sides a b) :
    Calls Try.prog 34 #[.int .i64 a, .int .i64 b] w (GivesRowE .i64 (tabL b a (fun j i => ((i * b + j : Nat) : Int))) 0 w) := by
  have hent : ∀ args w, (callFunc 63 args).run Try.prog w = .ok (.enter 63 args) w := enters_of Try.func63 (by kernel_rfl) rfl
  have h' := h
  obtain ⟨h1, h2, h3, h4, h5⟩ := h'
  have hba : b * a ≤ 16777216 := by rw [← Int.natCast_mul] at h5; rw [Nat.mul_comm]; omega
  have hba2 : a * b ≤ 16777216 := by rw [Nat.mul_comm]; exact hba
  have hc0 := one_new w (.int .i64 b) 3
  have hfit : ∀ j i, j < b → i < a → fits .i64 ((i * b + j : Nat) : Int) := fun j i hj hi => fits_nat (by have := row_bd a b i j hi hj; omega)
  have hf : ∀ (j i : Nat) (wr : World), j < b → i < a → Below (w.alloc (.cells #[.int .i64 b] 3)).heap.size (w.alloc (.cells #[.int .i64 b] 3)) wr →
      Calls Try.prog 63 (#[.int .i64 j, .int .i64 i] ++ #[.pointer (some ⟨w.heap.size, 0, none⟩)]) wr fun e w' => e = .returned (.int .i64 ((i * b + j : Nat) : Int)) ∧ Below wr.heap.size wr w' :=
    fun j i wr hj hi hb => (stride1 j i b w.heap.size wr (by rw [hb.cell (by simp)]; exact hc0) (by omega) (by omega) (by omega)).mono fun e w' ⟨he, hw⟩ => ⟨he, hw ▸ Below.refl _ _⟩
  have HF := Lib.hid hf
  have HFT := Lib.hid hfit
  have H := Lib.hid h
  clear hf hfit h h5 hba2
  go_enter Try.func34, Try.ntmps34
  go_wp2_with fail
  refine (permSides_yes _ _ _ H.out).mono ?_; rintro e w' ⟨rfl, rfl⟩
  go_wp2_with fail
  refine (permTable b a (fun j i => ((i * b + j : Nat) : Int)) _ _ _ hba (by omega) (by omega) HFT.out hent HF.out).mono ?_
  rintro e w' ⟨a', cap', rfl, hr, hcap, hb⟩
  go_wp2_with fail
  go_ret2
  exact ⟨a', cap', rfl, hr, hcap, chainA (Below.refl _ _) hb⟩

theorem permStride_no (a b : Int) (w : World) (h : ¬ Sides a b) (ha : -9223372036854775808 ≤ a ∧ a ≤ 9223372036854775807) (hb : -9223372036854775808 ≤ b ∧ b ≤ 9223372036854775807) :
    Calls Try.prog 34 #[.int .i64 a, .int .i64 b] w fun e w' => e = .returned (.tuple #[.slice none 0 0, .int .i64 3]) ∧ Below w.heap.size w w' := by
  have H := Lib.hid h
  clear h
  go_enter Try.func34, Try.ntmps34
  go_wp2_with fail
  refine (permSides_no _ _ _ H.out ha hb).mono ?_; rintro e w' ⟨rfl, rfl⟩
  go_wp2_with fail
  go_ret2
  exact ⟨rfl, by go_grown⟩

/-- The table by columns, as the reference reckons it. -/
def strL (a b : Nat) : List Int := (List.range (a * b)).map fun k => ((k % a * b + k / a : Nat) : Int)
theorem strL_len (a b : Nat) : (strL a b).length = a * b := by simp [strL]
theorem strL_tab (a b : Nat) : tabL b a (fun j i => ((i * b + j : Nat) : Int)) = strL a b := by
  unfold tabL strL; rw [Nat.mul_comm b a]

theorem str_bd (a b k : Nat) (h : k < a * b) : k % a * b + k / a < a * b := by
  have ha : 0 < a := Nat.pos_of_ne_zero (fun e => by subst e; omega)
  have h1 : k / a < b := Nat.div_lt_of_lt_mul h
  exact row_bd a b (k % a) (k / a) (Nat.mod_lt _ ha) h1

set_option maxHeartbeats 800000 in
theorem refStride (a b : Nat) (w : World) (h : Sides a b) :
    Calls Try.prog 36 #[.int .i64 a, .int .i64 b] w (GivesRow .i64 (strL a b) w) := by
  obtain ⟨i0, hi, hz0, hz1, hz2⟩ := info_parts info_int
  obtain ⟨h1, h2, h3, h4, h5⟩ := h
  have hab : a * b ≤ 16777216 := by rw [← Int.natCast_mul] at h5; omega
  have hw : IntKind.i64.wrap ((a : Int) * (b : Int)) = ((a * b : Nat) : Int) := by rw [← Int.natCast_mul]; exact IntWalk.i64_in _ (by omega)
  have hfits : ∀ x ∈ strL a b, fits .i64 x := fun x hx => by
    obtain ⟨i, hi, rfl⟩ := List.mem_map.1 hx
    exact fits_nat (by have := str_bd a b i (by simpa using hi); omega)
  have HB : Hid (∀ k, k < a * b → k % a * b + k / a < a * b) := fun k hk => str_bd a b k hk
  have HL := Lib.hid (strL_len a b)
  have HFT := Lib.hid hfits
  have ha0 : ((a : Int) == 0) = false := bno (by omega)
  obtain ⟨N, hN⟩ : ∃ N, a * b = N := ⟨_, rfl⟩
  rw [hN] at hw hab
  have HN := Lib.hid hN
  clear hN h5 hfits
  go_enter Try.func36, Try.ntmps36
  go_wp2_with fail
  go_loopw [5, 6] (fun v i wr => ∃ k : Nat, k ≤ N ∧ i = .int .i64 k ∧ Own .i64 3 w wr v k (fun k => ((k % a * b + k / a : Nat) : Int))) (fun _ i _ => N - (intOf i).toNat)
  case atStart => exact ⟨0, Nat.zero_le _, rfl, Own.nil _ _ _ _⟩
  case round =>
    obtain ⟨k, hk, rfl, hown⟩ := hrel
    by_cases hlt : k < N
    · have hq := HB.out k (by rw [HN.out]; exact hlt)
      rw [HN.out] at hq
      obtain ⟨x1, x2, y, hx1, hx2, hy⟩ : ∃ x1 x2 y : Nat, k % a = x1 ∧ x1 * b = x2 ∧ k / a = y := ⟨_, _, _, rfl, rfl, rfl⟩
      have e1 : (k : Int).tmod (a : Int) = (x1 : Int) := by rw [Int.tmod_eq_emod_of_nonneg (by omega), ← Int.natCast_emod, hx1]
      have hval : k % a * b + k / a = x2 + y := by rw [hx1, hx2, hy]
      rw [hval] at hq
      have e2 : IntKind.i64.wrap ((x1 : Int) * (b : Int)) = (x2 : Int) := by rw [← Int.natCast_mul, hx2]; exact IntWalk.i64_in _ (by omega)
      have e3 : IntKind.i64.wrap ((k : Int).tdiv (a : Int)) = (y : Int) := by rw [Int.tdiv_eq_ediv_of_nonneg (by omega), ← Int.natCast_ediv, hy]; exact IntWalk.i64_in _ (by omega)
      have e3' : (k : Int) / (a : Int) = (y : Int) := by rw [← Int.natCast_ediv, hy]
      have e1' : (k : Int) % (a : Int) = (x1 : Int) := by rw [← Int.natCast_emod, hx1]
      have e4 : IntKind.i64.wrap ((x2 : Int) + (y : Int)) = (x2 : Int) + (y : Int) := IntWalk.i64_in _ (by omega)
      have e5 : IntKind.i64.wrap (y : Int) = (y : Int) := IntWalk.i64_in _ (by omega)
      have hsz := hown.below.size
      have ha0' : ¬ (a : Int) = 0 := by omega
      have ha0'' : ¬ a = 0 := by omega
      have hk0 : (0 : Int) ≤ (k : Int) := by omega
      have ha1 : (1 : Int) ≤ (a : Int) := by omega
      have HV := Lib.hid hval
      clear hx1 hx2 hy hval
      go_wp2_with fail
      go_region_held3 (fun w' => True) (trivial) ((refine step_append_lies _ (by rfl) _ _ 35 (by rfl) w.heap.size 3 i0 _ 1 8 Try.underlying35 hi hz0 hz1 hz2 rfl (by omega) _ k _ (by rfl) ((hown.own.alloc _).drew) ⟨wr.heap.size, 0, none⟩ 1 1 [.int .i64 ((x2 : Int) + (y : Int))] (by rfl) (by rfl) (cell_one_new _ _ _) (one_cell _ _) (by omega) (by unfold maxLen; omega) (by omega) (size_alloc_le hown.below _) (wr.heap.size + 1) (by simp) ?_; intro gg cap w1 hown' hgrow hat hlt0))
      have hnext := hown.push ((x2 : Int) + (y : Int)) (by rw [HV.out]; exact (Int.natCast_add x2 y).symm) hown' (grown_of_drew hgrow)
      clear hown' hgrow
      go_wp2_with fail
      go_roundw
      case rel => exact ⟨k + 1, by omega, by go_num, hnext⟩
      case measure => simp [intOf]; omega
    · have hres := hown.gives (xs := strL a b) (by rw [HL.out, HN.out]; omega) HFT.out (fun i hi => nth_ofFn _ _ _ (by rw [HN.out]; omega)) (by omega)
      clear hown
      go_wp2_with fail
      go_ret
      exact hres

/-! ### Divisors -/
theorem gcd_step (a b : Nat) : Nat.gcd a b = Nat.gcd b (a % b) := by
  rw [Nat.gcd_comm a b, Nat.gcd_rec b a, Nat.gcd_comm]

set_option maxHeartbeats 400000 in
theorem factGcd (a b : Nat) (w : World) (ha : a ≤ 16777216) (hb : b ≤ 16777216) :
    Calls Try.prog 74 #[.int .i64 a, .int .i64 b] w fun e w' => e = .returned (.int .i64 (Nat.gcd a b : Nat)) ∧ Below w.heap.size w w' := by
  obtain ⟨G, hG⟩ : ∃ G, Nat.gcd a b = G := ⟨_, rfl⟩
  rw [hG]
  have HG := Lib.hid hG
  clear hG
  go_enter Try.func74, Try.ntmps74
  go_wp2_with fail
  go_loopw [0, 1] (fun x y wr => ∃ (m n : Nat), m ≤ 16777216 ∧ n ≤ 16777216 ∧ x = .int .i64 m ∧ y = .int .i64 n ∧ Hid (Nat.gcd m n = G) ∧ Below w.heap.size w wr) (fun _ y _ => (intOf y).toNat)
  case atStart => exact ⟨a, b, ha, hb, rfl, rfl, HG, Below.refl _ _⟩
  case round =>
    obtain ⟨m, n, hm, hn, rfl, rfl, H, hbl⟩ := hrel
    by_cases h0 : n = 0
    · subst h0
      go_wp2_with fail
      go_ret
      exact ⟨ret_int (by have := H.out; rw [Nat.gcd_zero_right] at this; rw [this]), hbl⟩
    · have hz : ((n : Int) != 0) = true := bdiff (by omega)
      have hz' : ((n : Int) == 0) = false := bno (by omega)
      have hz2 : ¬ (n : Int) = 0 := by omega
      have e1 : (m : Int).tmod (n : Int) = ((m % n : Nat) : Int) := by rw [Int.tmod_eq_emod_of_nonneg (by omega), Int.natCast_emod]
      have hlt : m % n < n := Nat.mod_lt _ (by omega)
      have HS : Hid (Nat.gcd n (m % n) = G) := by have := H.out; unfold Hid; rw [← this, ← gcd_step]
      obtain ⟨r, hr⟩ : ∃ r, m % n = r := ⟨_, rfl⟩
      rw [hr] at e1 hlt HS
      have e2 : (m : Int) % (n : Int) = (r : Int) := by rw [← Int.natCast_emod, hr]
      clear hr h0
      go_wp2_with fail
      go_quiet (fail)
      go_wp2_with fail
      go_roundw
      case rel => exact ⟨n, r, by omega, by omega, rfl, rfl, HS, below_drewN hbl _⟩
      case measure => simp [intOf]; omega

theorem refGcd (k : Nat) : ∀ (a b : Nat) (w : World), a + b ≤ k → a ≤ 16777216 → b ≤ 16777216 →
    Calls Try.prog 60 #[.int .i64 a, .int .i64 b] w fun e w' => e = .returned (.int .i64 (Nat.gcd a b : Nat)) ∧ w = w' := by
  induction k with
  | zero =>
    intro a b w hk ha hb
    obtain ⟨rfl, rfl⟩ : a = 0 ∧ b = 0 := by omega
    go_enter Try.func60, Try.ntmps60
    go_wp2_with fail
    go_ret
    exact ⟨rfl, rfl⟩
  | succ k ih =>
    intro a b w hk ha hb
    have IH := Lib.hid ih
    clear ih
    by_cases h0 : a = 0
    · subst h0
      go_enter Try.func60, Try.ntmps60
      go_wp2_with fail
      go_ret
      exact ⟨ret_int (by rw [Nat.gcd_zero_left]), rfl⟩
    · have z1 : ((a : Int) == 0) = false := bno (by omega)
      by_cases h1 : b = 0
      · subst h1
        go_enter Try.func60, Try.ntmps60
        go_wp2_with fail
        go_ret
        exact ⟨ret_int (by rw [Nat.gcd_zero_right]), rfl⟩
      · have z2 : ((b : Int) == 0) = false := bno (by omega)
        have y1 : ¬ (a : Int) = 0 := by omega
        have y2 : ¬ (b : Int) = 0 := by omega
        by_cases hab : a < b
        · obtain ⟨r, hr⟩ : ∃ r, b % a = r := ⟨_, rfl⟩
          have hlt : b % a < a := Nat.mod_lt _ (by omega)
          rw [hr] at hlt
          have e1 : (b : Int).tmod (a : Int) = (r : Int) := by rw [Int.tmod_eq_emod_of_nonneg (by omega), ← Int.natCast_emod, hr]
          have e2 : (b : Int) % (a : Int) = (r : Int) := by rw [← Int.natCast_emod, hr]
          have HS : Hid (Nat.gcd r a = Nat.gcd a b) := by unfold Hid; rw [← hr, Nat.gcd_rec a b]
          clear hr h0 h1
          go_enter Try.func60, Try.ntmps60
          go_wp2_with fail
          refine (IH.out r a _ (by omega) (by omega) ha).mono ?_; rintro e w' ⟨rfl, rfl⟩
          go_wp2_with fail
          go_ret
          exact ⟨ret_int (by rw [HS.out]), rfl⟩
        · obtain ⟨r, hr⟩ : ∃ r, a % b = r := ⟨_, rfl⟩
          have hlt : a % b < b := Nat.mod_lt _ (by omega)
          rw [hr] at hlt
          have e1 : (a : Int).tmod (b : Int) = (r : Int) := by rw [Int.tmod_eq_emod_of_nonneg (by omega), ← Int.natCast_emod, hr]
          have e2 : (a : Int) % (b : Int) = (r : Int) := by rw [← Int.natCast_emod, hr]
          have HS : Hid (Nat.gcd r b = Nat.gcd a b) := by unfold Hid; rw [← hr, Nat.gcd_comm a b, Nat.gcd_rec b a]
          clear hr h0 h1
          go_enter Try.func60, Try.ntmps60
          go_wp2_with fail
          refine (IH.out r b _ (by omega) (by omega) hb).mono ?_; rintro e w' ⟨rfl, rfl⟩
          go_wp2_with fail
          go_ret
          exact ⟨ret_int (by rw [HS.out]), rfl⟩
end Go.Proofs.Ytpehbgcbifgokaa
