/- Two rows, one by one: the contracts. -/
import Derived.Test.YtfoodnmcilogjaaVecB
import Derived.Deep.RegionHeld3
import Derived.Deep.AppendLies
import Derived.Deep.DrawnRows
namespace Go.Proofs.Ytfoodnmcilogjaa
open Go.RowKit
set_option linter.unusedVariables false
set_option linter.unusedSimpArgs false

def zipL (op : Int → Int → Int) (xs ys : List Int) : List Int := (List.range xs.length).map fun i => op (nth xs i) (nth ys i) % 18446744069414584321
def addL (xs ys : List Int) : List Int := zipL (fun x y => x + y) xs ys
def mulL (xs ys : List Int) : List Int := zipL (fun x y => x * y) xs ys
theorem zipL_len (op : Int → Int → Int) (xs ys : List Int) : (zipL op xs ys).length = xs.length := by simp [zipL]
theorem modL_fits {l : List Nat} (f : Nat → Int) : ∀ x ∈ l.map (fun i => f i % 18446744069414584321), fits .u64 x := by
  intro x hx; obtain ⟨i, _, rfl⟩ := List.mem_map.1 hx; exact fits_u64.2 (by omega)
theorem addL_at (x y : Int) : (x % 18446744069414584321 + y % 18446744069414584321) % 18446744069414584321 = (x + y) % 18446744069414584321 := by omega
theorem mulL_at (x y : Int) : (x % 18446744069414584321) * (y % 18446744069414584321) % 18446744069414584321 = x * y % 18446744069414584321 := by rw [modmul_l, modmul_r]

set_option maxHeartbeats 800000 in
theorem vref_Add (a b : Option Addr) (ca cb : Nat) (xs ys : List Int) (w : World) (hx : Row .u64 w a xs) (hy : Row .u64 w b ys) (hl : xs.length = ys.length) (hm : xs.length ≤ 16777216) :
    Calls Try.prog 54 #[.slice a xs.length ca, .slice b ys.length cb] w (GivesRow .u64 (addL xs ys) w) := by
  obtain ⟨i0, hi, hz0, hz1, hz2⟩ := info_parts info_u64
  have HX := Lib.hid hx
  have HY := Lib.hid hy
  have HL := Lib.hid hl
  clear hx hy hl
  go_enter Try.func54, Try.ntmps54
  go_wp2_with fail
  go_loopw [5, 6] (fun v i wr => ∃ k : Nat, k ≤ xs.length ∧ i = .int .i64 k ∧ Own .u64 28 w wr v k (fun j => (nth xs j + nth ys j) % 18446744069414584321)) (fun _ i _ => xs.length - (intOf i).toNat)
  case atStart => exact ⟨0, Nat.zero_le _, rfl, Own.nil _ _ _ _⟩
  case round =>
    obtain ⟨k, hk, rfl, hown⟩ := hrel
    by_cases hlt : k < xs.length
    · have hlt' : k < ys.length := by have := HL.out; omega
      obtain ⟨b1, o1, rfl, hc1⟩ := (HX.out.below hown.below).at (by omega)
      obtain ⟨b2, o2, rfl, hc2⟩ := (HY.out.below hown.below).at (by omega)
      have h1 := hc1 k hlt
      have h2 := hc2 k hlt'
      have l1 : b1 < w.heap.size := by
        obtain ⟨_, _, e, hh⟩ := HX.out.at (by omega)
        cases e
        exact World.block_lt_of_cell? w _ (hh k hlt)
      have l2 : b2 < w.heap.size := by
        obtain ⟨_, _, e, hh⟩ := HY.out.at (by omega)
        cases e
        exact World.block_lt_of_cell? w _ (hh k hlt')
      have hsz := hown.below.size
      have f1 := fits_u64.1 (HX.out.wf _ (nth_mem hlt))
      have f2 := fits_u64.1 (HY.out.wf _ (nth_mem hlt'))
      have i1 : (0 : Int) ≤ (k : Int) := by omega
      have i2 : (k : Int) < (xs.length : Int) := by omega
      have i3 : (k : Int) < (ys.length : Int) := by omega
      clear hc1 hc2
      go_wp2_with fail
      have n1 : u5.ownBlock ≠ some b1 := fun h => by have := (hown.own.lt _ h).1; omega
      have n2 : u5.ownBlock ≠ some b2 := fun h => by have := (hown.own.lt _ h).1; omega
      go_region_held3 (fun w' => w'.cell? ⟨b1, o1 + k, none⟩ = some (.int .u64 (nth xs k)) ∧ w'.cell? ⟨b2, o2 + k, none⟩ = some (.int .u64 (nth ys k))) (first | go_keep | (exact ⟨cell_grown h1 n1 hgrow, cell_grown h2 n2 hgrow⟩)) ((first | (go_at_call 25; refine (ref_Red _ _ (by omega) (by omega)).mono ?_; rintro e w' ⟨rfl, rfl⟩) | (go_at_call 36; refine (ref_Add _ _ _ (by omega) (by omega) (by omega) (by omega)).mono ?_; rintro e w' ⟨rfl, rfl⟩) | (refine step_append_lies _ (by rfl) _ _ 22 (by rfl) w.heap.size 28 i0 _ 1 8 Try.underlying22 hi hz0 hz1 hz2 rfl (by omega) _ k _ (by rfl) ((hown.own.alloc _).drew) ⟨wr.heap.size, 0, none⟩ 1 1 [.int .u64 ((nth xs k + nth ys k) % 18446744069414584321)] (by rfl) (by rfl) (cell_one_new _ _ _) (one_cell _ _) (by omega) (by unfold maxLen; omega) (by omega) (size_alloc_le hown.below _) (wr.heap.size + 1) (by simp) ?_; intro gg cap w1 hown' hgrow hat hlt0)))
      have hnext := hown.push _ rfl hown' (grown_of_drew hgrow)
      clear hown' hgrow
      go_wp2_with fail
      go_roundw
      case rel => exact ⟨k + 1, by omega, by go_num, hnext⟩
      case measure => simp [intOf]; omega
    · have hres := hown.gives (xs := addL xs ys) (by simp [addL, zipL]; omega) (modL_fits _) (fun i hi => nth_ofFn _ _ _ (by omega)) (by omega)
      clear hown
      go_wp2_with fail
      go_ret
      exact hres

set_option maxHeartbeats 800000 in
theorem vref_Mul (a b : Option Addr) (ca cb : Nat) (xs ys : List Int) (w : World) (hx : Row .u64 w a xs) (hy : Row .u64 w b ys) (hl : xs.length = ys.length) (hm : xs.length ≤ 16777216) :
    Calls Try.prog 65 #[.slice a xs.length ca, .slice b ys.length cb] w (GivesRow .u64 (mulL xs ys) w) := by
  obtain ⟨i0, hi, hz0, hz1, hz2⟩ := info_parts info_u64
  have HX := Lib.hid hx
  have HY := Lib.hid hy
  have HL := Lib.hid hl
  clear hx hy hl
  go_enter Try.func65, Try.ntmps65
  go_wp2_with fail
  go_loopw [5, 6] (fun v i wr => ∃ k : Nat, k ≤ xs.length ∧ i = .int .i64 k ∧ Own .u64 28 w wr v k (fun j => nth xs j * nth ys j % 18446744069414584321)) (fun _ i _ => xs.length - (intOf i).toNat)
  case atStart => exact ⟨0, Nat.zero_le _, rfl, Own.nil _ _ _ _⟩
  case round =>
    obtain ⟨k, hk, rfl, hown⟩ := hrel
    by_cases hlt : k < xs.length
    · have hlt' : k < ys.length := by have := HL.out; omega
      obtain ⟨b1, o1, rfl, hc1⟩ := (HX.out.below hown.below).at (by omega)
      obtain ⟨b2, o2, rfl, hc2⟩ := (HY.out.below hown.below).at (by omega)
      have h1 := hc1 k hlt
      have h2 := hc2 k hlt'
      have l1 : b1 < w.heap.size := by
        obtain ⟨_, _, e, hh⟩ := HX.out.at (by omega)
        cases e
        exact World.block_lt_of_cell? w _ (hh k hlt)
      have l2 : b2 < w.heap.size := by
        obtain ⟨_, _, e, hh⟩ := HY.out.at (by omega)
        cases e
        exact World.block_lt_of_cell? w _ (hh k hlt')
      have hsz := hown.below.size
      have f1 := fits_u64.1 (HX.out.wf _ (nth_mem hlt))
      have f2 := fits_u64.1 (HY.out.wf _ (nth_mem hlt'))
      have i1 : (0 : Int) ≤ (k : Int) := by omega
      have i2 : (k : Int) < (xs.length : Int) := by omega
      have i3 : (k : Int) < (ys.length : Int) := by omega
      clear hc1 hc2
      go_wp2_with fail
      have n1 : u5.ownBlock ≠ some b1 := fun h => by have := (hown.own.lt _ h).1; omega
      have n2 : u5.ownBlock ≠ some b2 := fun h => by have := (hown.own.lt _ h).1; omega
      go_region_held3 (fun w' => w'.cell? ⟨b1, o1 + k, none⟩ = some (.int .u64 (nth xs k)) ∧ w'.cell? ⟨b2, o2 + k, none⟩ = some (.int .u64 (nth ys k))) (first | go_keep | (exact ⟨cell_grown h1 n1 hgrow, cell_grown h2 n2 hgrow⟩)) ((first | (go_at_call 25; refine (ref_Red _ _ (by omega) (by omega)).mono ?_; rintro e w' ⟨rfl, rfl⟩) | (go_at_call 30; refine (ref_Mul _ _ _ (by omega) (by omega) (by omega) (by omega)).mono ?_; rintro e w' ⟨rfl, rfl⟩) | (refine step_append_lies _ (by rfl) _ _ 22 (by rfl) w.heap.size 28 i0 _ 1 8 Try.underlying22 hi hz0 hz1 hz2 rfl (by omega) _ k _ (by rfl) ((hown.own.alloc _).drew) ⟨wr.heap.size, 0, none⟩ 1 1 [.int .u64 ((nth xs k % 18446744069414584321) * (nth ys k % 18446744069414584321) % 18446744069414584321)] (by rfl) (by rfl) (cell_one_new _ _ _) (one_cell _ _) (by omega) (by unfold maxLen; omega) (by omega) (size_alloc_le hown.below _) (wr.heap.size + 1) (by simp) ?_; intro gg cap w1 hown' hgrow hat hlt0)))
      have hnext := hown.push _ (mulL_at (nth xs k) (nth ys k)) hown' (grown_of_drew hgrow)
      clear hown' hgrow
      go_wp2_with fail
      go_roundw
      case rel => exact ⟨k + 1, by omega, by go_num, hnext⟩
      case measure => simp [intOf]; omega
    · have hres := hown.gives (xs := mulL xs ys) (by simp [mulL, zipL]; omega) (modL_fits _) (fun i hi => nth_ofFn _ _ _ (by omega)) (by omega)
      clear hown
      go_wp2_with fail
      go_ret
      exact hres

/-- What a function value answers of two numbers: op, modulo P. -/
def IsOp (fid : Nat) (op : Int → Int → Int) : Prop := ∀ (a b : Int) (w : World), 0 ≤ a → a < 18446744073709551616 → 0 ≤ b → b < 18446744073709551616 →
  Calls Try.prog fid #[.int .u64 a, .int .u64 b] w fun e w' => e = .returned (.int .u64 (op a b % 18446744069414584321)) ∧ w = w'

set_option maxHeartbeats 400000 in
theorem vec_both1 (fid : Nat) (op : Int → Int → Int) (hent : ∀ args w, (callFunc fid args).run Try.prog w = .ok (.enter fid args) w) (hop : IsOp fid op) (i : Nat) (a b : Option Addr) (ca cb : Nat) (xs ys : List Int) (p q r : Nat) (w : World) (hi : i < xs.length) (hi2 : i < ys.length)
    (hc : w.cell? ⟨p, 0, none⟩ = some (.func (.func fid) #[] #[])) (hc1 : w.cell? ⟨q, 0, none⟩ = some (.slice a xs.length ca)) (hc2 : w.cell? ⟨r, 0, none⟩ = some (.slice b ys.length cb)) (hx : Row .u64 w a xs) (hy : Row .u64 w b ys) :
    Calls Try.prog 93 #[.int .i64 i, .pointer (some ⟨p, 0, none⟩), .pointer (some ⟨q, 0, none⟩), .pointer (some ⟨r, 0, none⟩)] w fun e w' => e = .returned (.int .u64 (op (nth xs i) (nth ys i) % 18446744069414584321)) ∧ Below w.heap.size w w' := by
  obtain ⟨b1, o1, rfl, hcx⟩ := hx.at (by omega)
  obtain ⟨b2, o2, rfl, hcy⟩ := hy.at (by omega)
  have h1 := hcx i hi
  have h2 := hcy i hi2
  have f1 := fits_u64.1 (hx.wf _ (nth_mem hi))
  have f2 := fits_u64.1 (hy.wf _ (nth_mem hi2))
  have j0 : (0 : Int) ≤ (i : Int) := by omega
  have j1 : (i : Int) < (xs.length : Int) := by omega
  have j2 : (i : Int) < (ys.length : Int) := by omega
  have HOP := Lib.hid hop
  clear hcx hcy hx hy hop
  go_enter Try.func93, Try.ntmps93
  go_wp2_with fail
  go_quiet ((exact Calls.quiet_of_same ((HOP.out _ _ _ f1.1 f1.2 f2.1 f2.2).mono fun e w' ⟨x, y⟩ => ⟨x, y.symm⟩)))
  go_wp2_with fail
  go_ret
  exact ⟨rfl, below_drewN (Below.refl _ _) _⟩

/-- A result: a new row, and an error's number. -/
def GivesRowE (k : IntKind) (xs : List Int) (err : Int) (w : World) (e : Ending) (w' : World) : Prop :=
  ∃ a cap, e = .returned (.tuple #[.slice a xs.length cap, .int .i64 err]) ∧ Row k w' a xs ∧ OkCap a xs.length cap ∧ Below w.heap.size w w'

set_option maxHeartbeats 400000 in
theorem vec_both (fid : Nat) (op : Int → Int → Int) (hent : ∀ args w, (callFunc fid args).run Try.prog w = .ok (.enter fid args) w) (hop : IsOp fid op) (a b : Option Addr) (ca cb : Nat) (xs ys : List Int) (w : World) (hx : Row .u64 w a xs) (hy : Row .u64 w b ys) (hl : xs.length = ys.length) (hm : xs.length ≤ 16777216) :
    Calls Try.prog 82 #[.slice a xs.length ca, .slice b ys.length cb, .func (.func fid) #[] #[]] w (GivesRowE .u64 (zipL op xs ys) 0 w) := by
  have hent2 : ∀ args w, (callFunc 93 args).run Try.prog w = .ok (.enter 93 args) w := enters_of Try.func93 (by kernel_rfl) rfl
  obtain ⟨W, hW⟩ : ∃ W : World, W = ((w.alloc (.cells #[.slice a xs.length ca] 22)).alloc (.cells #[.slice b ys.length cb] 22)).alloc (.cells #[.func (.func fid) #[] #[]] 30) := ⟨_, rfl⟩
  have hWb : Below w.heap.size w W := hW ▸ (((Below.refl _ _).alloc (Nat.le_refl _) _).alloc (by simp) _).alloc (by simp; omega) _
  have hc0 : W.cell? ⟨w.heap.size, 0, none⟩ = some (.slice a xs.length ca) := by subst hW; rw [cell_past _ _ _ (by simp; omega), cell_past _ _ _ (by simp), one_new]
  have hc1 : W.cell? ⟨w.heap.size + 1, 0, none⟩ = some (.slice b ys.length cb) := by subst hW; rw [cell_past _ _ _ (by simp)]; exact cell_new (by simp)
  have hc2 : W.cell? ⟨w.heap.size + 2, 0, none⟩ = some (.func (.func fid) #[] #[]) := by subst hW; exact cell_new (by simp)
  have hsz : w.heap.size + 3 = W.heap.size := by subst hW; simp
  have hf : ∀ (i : Nat) (wr : World), i < xs.length → Below W.heap.size W wr →
      Calls Try.prog 93 (#[.int .i64 i] ++ #[.pointer (some ⟨w.heap.size + 2, 0, none⟩), .pointer (some ⟨w.heap.size, 0, none⟩), .pointer (some ⟨w.heap.size + 1, 0, none⟩)]) wr fun e w' => e = .returned (.int .u64 (op (nth xs i) (nth ys i) % 18446744069414584321)) ∧ Below wr.heap.size wr w' :=
    fun i wr hi hb => vec_both1 fid op hent hop i a b ca cb xs ys (w.heap.size + 2) w.heap.size (w.heap.size + 1) wr hi (by omega) (by rw [hb.cell (by show w.heap.size + 2 < W.heap.size; omega)]; exact hc2) (by rw [hb.cell (by show w.heap.size < W.heap.size; omega)]; exact hc0) (by rw [hb.cell (by show w.heap.size + 1 < W.heap.size; omega)]; exact hc1) ((hx.below hWb).below hb) ((hy.below hWb).below hb)
  have HF := Lib.hid hf
  have HB := Lib.hid hWb
  have hne : ((xs.length : Int) != (ys.length : Int)) = false := by simp [hl]
  clear hf hx hy hWb hc0 hc1 hc2 hsz hl
  subst hW
  go_enter Try.func82, Try.ntmps82
  go_wp2_with fail
  refine (vec_each xs.length (fun i => op (nth xs i) (nth ys i) % 18446744069414584321) _ _ _ hm (modfits _) hent2 HF.out).mono ?_
  rintro e w' ⟨a', cap', rfl, hr, hnil, hb⟩
  go_wp2_with fail
  go_ret2
  exact ⟨a', cap', by simp [zipL], hr, hnil, HB.out.trans (hb.mono HB.out.size)⟩

set_option maxHeartbeats 400000 in
theorem vec_both_no (fid : Nat) (a b : Option Addr) (ca cb n m : Nat) (w : World) (hl : n ≠ m) (hn : n ≤ 9223372036854775807) (hm : m ≤ 9223372036854775807) :
    Calls Try.prog 82 #[.slice a n ca, .slice b m cb, .func (.func fid) #[] #[]] w (GivesRowE .u64 [] 5 w) := by
  have hne : ((n : Int) != (m : Int)) = true := by simp; omega
  go_enter Try.func82, Try.ntmps82
  go_wp2_with fail
  go_ret2
  exact ⟨none, 0, rfl, Row.nil _ _ _, ⟨Nat.le_refl _, fun _ => rfl⟩, by go_grown⟩
end Go.Proofs.Ytfoodnmcilogjaa
