/- One pass, of the program and of the reference. -/
import Derived.Test.YtlgklkhijmeldaaStockC
import Derived.Laws.EntriesVeiled
namespace Go.Proofs.Ytlgklkhijmeldaa
open Go.RowKit Sm
set_option linter.unusedVariables false
set_option linter.unusedSimpArgs false
set_option maxRecDepth 100000

theorem madeAt {k : IntKind} {e : TypeId} {w wx w1 : World} {g n : Nat} (hb : Below w.heap.size w wx) (h : w1.ownsRow w.heap.size e 1 (.slice (some ⟨g, 0, none⟩) n n) n (madeCells #[Value.int k 0] n).toList) (hg : wx.grownBy w1 none) :
    OwnAt k e w w1 g n (fun _ => 0) := by
  refine ⟨?_, hb.grown hg hb.size (by simp)⟩
  have e1 : (madeCells #[Value.int k 0] n).toList = (List.range n).map fun j => Value.int k 0 := by
    rw [toList_madeCells_one]
    apply List.ext_getElem (by simp)
    intro i h1 h2
    simp
  rw [e1] at h
  exact h

set_option maxHeartbeats 1000000 in
theorem stock_one (n s h : Nat) (ax aw : Option Addr) (cx cw : Nat) (xs ws : List Int) (w : World)
    (hx : Row .u64 w ax xs) (hw : Row .u64 w aw ws) (hxl : xs.length = n) (hwl : ws.length = n) (hn : n ≤ 16777216) (hns : n = s * (2 * h)) (hs : 0 < s) (hh : 0 < h) :
    Calls Try.prog 49 #[.slice ax n cx, .int .i64 s, .slice aw n cw] w (GivesRow .u64 (passL xs ws s) w) := by
  obtain ⟨i0, hi, hz0, hz1, hz2⟩ := info_parts info_u64
  have HX := Lib.hid hx
  have HW := Lib.hid hw
  have HXL := Lib.hid hxl
  have HWL := Lib.hid hwl
  have HNS := Lib.hid hns
  clear hx hw hxl hwl hns
  go_enter Try.func49, Try.ntmps49
  go_wp2_with (at_make; refine wpList_make_full _ rfl _ _ 22 rfl w.heap.size 45 i0 (.int .u64 0) 1 Try.underlying22 hi hz0 hz1 .i64 .i64 n n n rfl rfl rfl rfl (by rw [hz2]; omega) (by unfold maxLen; omega) (by simp; omega) ?_)
  intro w1 hown0 hgrow0
  have hb0 : Below w.heap.size w ((w.alloc (.cells #[.slice ax n cx] 22)).alloc (.cells #[.slice aw n cw] 22)) := ((Below.refl _ _).alloc (Nat.le_refl _) _).alloc (by simp) _
  have hown := madeAt hb0 hown0 hgrow0
  have c1 : w1.cell? ⟨w.heap.size, 0, none⟩ = some (.slice ax n cx) := hgrow0.cell (a := ⟨w.heap.size, 0, none⟩) ((cell_past _ _ _ (by simp)).trans (one_new _ _ _)) (by simp)
  have c2 : w1.cell? ⟨w.heap.size + 1, 0, none⟩ = some (.slice aw n cw) := hgrow0.cell (a := ⟨w.heap.size + 1, 0, none⟩) (cell_new (by simp)) (by simp)
  have hsz := hown.base
  have l1 : w.heap.size < w1.heap.size := by omega
  have l2 : w.heap.size + 1 < w1.heap.size := by omega
  have d1 : (w1.alloc (.cells #[.slice (some ⟨w.heap.size + 1 + 1, 0, none⟩) n n] 22)).cell? ⟨w.heap.size, 0, none⟩ = some (.slice ax n cx) := (cell_past _ _ _ l1).trans c1
  have HO := Lib.hid hown
  clear hown0 hgrow0 hb0 hown
  go_wp2_with fail
  have hbl : Below w1.heap.size w1 ((w1.alloc (.cells #[.slice (some ⟨w.heap.size + 1 + 1, 0, none⟩) n n] 22)).alloc (.cells #[.int .i64 n, .int .i64 s, .func (.func 73) #[] #[.pointer (some ⟨w.heap.size, 0, none⟩), .pointer (some ⟨w1.heap.size, 0, none⟩), .pointer (some ⟨w.heap.size + 1, 0, none⟩)]] 65)) := ((Below.refl _ _).alloc (Nat.le_refl _) _).alloc (by simp) _
  have p1 := (hbl.cell (p := ⟨w.heap.size, 0, none⟩) l1).trans c1
  have p2 := (hbl.cell (p := ⟨w.heap.size + 1, 0, none⟩) l2).trans c2
  have p3 : ((w1.alloc (.cells #[.slice (some ⟨w.heap.size + 1 + 1, 0, none⟩) n n] 22)).alloc (.cells #[.int .i64 n, .int .i64 s, .func (.func 73) #[] #[.pointer (some ⟨w.heap.size, 0, none⟩), .pointer (some ⟨w1.heap.size, 0, none⟩), .pointer (some ⟨w.heap.size + 1, 0, none⟩)]] 65)).cell? ⟨w1.heap.size, 0, none⟩ = some (.slice (some ⟨w.heap.size + 1 + 1, 0, none⟩) n n) := (cell_past _ _ _ (by simp)).trans (one_new _ _ _)
  refine (stock_run n s h (w.heap.size + 1 + 1) w.heap.size w1.heap.size (w.heap.size + 1) ax aw cx cw xs ws w _ HX.out HW.out HXL.out HWL.out hn HNS.out hs hh p1 p3 p2 (by omega) (by omega) (by omega) (HO.out.later hbl)).mono ?_
  rintro e W' ⟨⟨v, rfl⟩, hk, hown⟩
  have hc := (hk.2 w1.heap.size 0 (by omega) (by simp; omega)).trans p3
  have hres := hown.gives (xs := passL xs ws s) (by rw [passL_len]; exact HXL.out) (passL_fits _ _ _) (fun i hi => nth_passL _ _ _ _ (by rw [HXL.out]; exact hi)) hn
  have HR := Lib.hid hres
  clear hown hres hk p1 p2 p3 hbl d1 c1 c2
  go_wp2_with fail
  go_ret
  exact HR.out

set_option maxHeartbeats 1600000 in
theorem refPass (n s h : Nat) (ax aw : Option Addr) (cx cw : Nat) (xs ws : List Int) (w : World)
    (hx : Row .u64 w ax xs) (hw : Row .u64 w aw ws) (hxl : xs.length = n) (hwl : ws.length = n) (hn : n ≤ 16777216) (hns : n = s * (2 * h)) (hs : 0 < s) (hh : 0 < h) :
    Calls Try.prog 16 #[.slice ax n cx, .int .i64 s, .slice aw n cw] w (GivesRow .u64 (passL xs ws s) w) := by
  obtain ⟨i0, hi, hz0, hz1, hz2⟩ := info_parts info_u64
  have HX := Lib.hid hx
  have HW := Lib.hid hw
  have HXL := Lib.hid hxl
  have HWL := Lib.hid hwl
  have HNS := Lib.hid hns
  have e2n : n = 2 * (s * h) := by rw [hns]; grind
  obtain ⟨N2, hN2⟩ : ∃ N2, s * h = N2 := ⟨_, rfl⟩
  rw [hN2] at e2n
  have HN2 := Lib.hid hN2
  have eN2 : (n : Int) / 2 = (N2 : Int) := by omega
  have hN2' : 2 * N2 = n := by omega
  have hsn : s ≤ n := by rw [hns]; exact Nat.le_mul_of_pos_right s (by omega)
  have es0 : ((s : Int) == 0) = false := bno (by omega)
  have es0' : ¬ (s : Int) = 0 := by omega
  have es0'' : ¬ s = 0 := by omega
  clear hx hw hxl hwl hns hN2 e2n
  go_enter Try.func16, Try.ntmps16
  go_wp2_with fail
  go_loopw [7, 9] (fun v i wr => ∃ k : Nat, k ≤ n ∧ i = .int .i64 k ∧ Own .u64 45 w wr v k (passAt xs ws s)) (fun _ i _ => n - (intOf i).toNat)
  case atStart => exact ⟨0, Nat.zero_le _, rfl, Own.nil _ _ _ _⟩
  case round =>
    obtain ⟨k, hk, rfl, hown⟩ := hrel
    by_cases hlt : k < n
    · obtain ⟨q, hq⟩ : ∃ q, k % s = q := ⟨_, rfl⟩
      obtain ⟨t, ht⟩ : ∃ t, k / s = t := ⟨_, rfl⟩
      obtain ⟨p, hp⟩ : ∃ p, t / 2 = p := ⟨_, rfl⟩
      have hqs : q < s := by rw [← hq]; exact Nat.mod_lt _ hs
      have htlt : t < 2 * h := by rw [← ht]; exact Nat.div_lt_of_lt_mul (by rw [← HNS.out]; exact hlt)
      have htk : t ≤ k := by rw [← ht]; exact Nat.div_le_self _ _
      have hle : s * (p + 1) ≤ N2 := by rw [← HN2.out]; exact Nat.mul_le_mul_left s (by omega)
      rw [Nat.mul_add, Nat.mul_one] at hle
      have y1 : (s : Int) * (p : Int) = ((s * p : Nat) : Int) := (Int.natCast_mul _ _).symm
      have y2 : (p : Int) * (s : Int) = ((s * p : Nat) : Int) := by rw [Int.mul_comm]; exact y1
      have hval : passAt xs ws s k = if t % 2 = 0 then (nth xs (q + s * p) + nth xs (q + s * p + N2)) % 18446744069414584321 else (nth xs (q + s * p) - nth xs (q + s * p + N2)) * nth ws (s * p) % 18446744069414584321 := by
        unfold passAt
        rw [hq, ht, hp, HXL.out, show n / 2 = N2 by omega, Nat.mul_comm p s]
      obtain ⟨A, hA⟩ : ∃ A, s * p = A := ⟨_, rfl⟩
      rw [hA] at y1 y2 hval hle
      have e1 : (k : Int).tmod (s : Int) = (q : Int) := by rw [Int.tmod_eq_emod_of_nonneg (by omega), ← Int.natCast_emod, hq]
      have e1' : (k : Int) % (s : Int) = (q : Int) := by rw [← Int.natCast_emod, hq]
      have e2' : (k : Int) / (s : Int) = (t : Int) := by rw [← Int.natCast_ediv, ht]
      have e2 : IntKind.i64.wrap ((k : Int).tdiv (s : Int)) = (t : Int) := by rw [Int.tdiv_eq_ediv_of_nonneg (by omega), e2']; exact IntWalk.i64_in _ (by omega)
      have e2w : IntKind.i64.wrap (t : Int) = (t : Int) := IntWalk.i64_in _ (by omega)
      have e3 : (t : Int) / 2 = (p : Int) := by omega
      obtain ⟨bx, ox, rfl, hcx⟩ := (HX.out.below hown.below).at (by have := HXL.out; omega)
      obtain ⟨bw, ow, rfl, hcw⟩ := (HW.out.below hown.below).at (by have := HWL.out; omega)
      have c1 := hcx (q + A) (by have := HXL.out; omega)
      have c2 := hcx (q + A + N2) (by have := HXL.out; omega)
      have c3 := hcw A (by have := HWL.out; omega)
      have f1 := fits_u64.1 (HX.out.wf _ (nth_mem (show q + A < xs.length by have := HXL.out; omega)))
      have f2 := fits_u64.1 (HX.out.wf _ (nth_mem (show q + A + N2 < xs.length by have := HXL.out; omega)))
      have f3 := fits_u64.1 (HW.out.wf _ (nth_mem (show A < ws.length by have := HWL.out; omega)))
      obtain ⟨x, hx⟩ : ∃ x, nth xs (q + A) = x := ⟨_, rfl⟩
      obtain ⟨y, hy⟩ : ∃ y, nth xs (q + A + N2) = y := ⟨_, rfl⟩
      obtain ⟨z, hz⟩ : ∃ z, nth ws A = z := ⟨_, rfl⟩
      rw [hx] at c1 f1 hval
      rw [hy] at c2 f2 hval
      rw [hz] at c3 f3 hval
      have HV := Lib.hid hval
      have g1 : (0 : Int) ≤ (q : Int) + (A : Int) := by omega
      have hsz := hown.below.size
      have l3 : bw < w.heap.size := by
        obtain ⟨_, _, e, hh⟩ := HW.out.at (by have := HWL.out; omega)
        cases e
        exact World.block_lt_of_cell? w _ (hh A (by have := HWL.out; omega))
      have A1 : A ≤ 16777216 := by omega
      have A2 : q + A + N2 < n := by omega
      have A3 : IntKind.i64.wrap (A : Int) = (A : Int) := IntWalk.i64_in _ (by omega)
      have A4 : (0 : Int) ≤ (A : Int) := by omega
      have A5 : (A : Int) < (n : Int) := by omega
      have hk0 : (0 : Int) ≤ (k : Int) := by omega
      have hs1 : (1 : Int) ≤ (s : Int) := by omega
      clear hcx hcw hq ht hA hx hy hz hval
      by_cases hpar : t % 2 = 0
      · have e4 : (t : Int) % 2 = 0 := by omega
        have HP := Lib.hid hpar
        clear hpar
        go_wp2_with fail
        go_quiet (fail)
        have hbd := below_drewN (Below.refl wr.heap.size wr) nq
        have hown := hown.later hbd
        have c1 := (hbd.cell (World.block_lt_of_cell? _ _ c1)).trans c1
        have c2 := (hbd.cell (World.block_lt_of_cell? _ _ c2)).trans c2
        have c3 := (hbd.cell (World.block_lt_of_cell? _ _ c3)).trans c3
        obtain ⟨wq, hwq⟩ : ∃ wq, wr.drewN nq = wq := ⟨_, rfl⟩
        rw [hwq] at hown c1 c2 c3 ⊢
        clear hwq hbd
        go_wp2_with (first | (go_at_call 42; refine (ref_Red _ _ (by omega) (by omega)).mono ?_; rintro e w' ⟨rfl, rfl⟩) | (go_at_call 51; refine (ref_Add _ _ _ (by omega) (by omega) (by omega) (by omega)).mono ?_; rintro e w' ⟨rfl, rfl⟩) | (at_builtin; refine wpList_append_own _ rfl _ _ 22 rfl w.heap.size 45 i0 (.int .u64 0) 1 8 Try.underlying22 hi hz0 hz1 hz2 rfl (by decide) _ _ _ rfl (hown.own.alloc _) ⟨wq.heap.size, 0, none⟩ 1 1 [.int .u64 ((x + y) % 18446744069414584321)] rfl rfl (cell_one_new _ _ _) (one_cell _ _) (by unfold maxLen; omega) (by omega) (size_alloc_le hown.below _) ?_))
        intro v' w2 hown' hgrow _
        have hnext := hown.push _ (by rw [HV.out, if_pos HP.out]) hown' hgrow
        clear hown' hgrow
        go_wp2_with fail
        go_roundw
        case rel => exact ⟨k + 1, by omega, by go_num, hnext⟩
        case measure => simp [intOf]; omega
      · have e4 : (t : Int) % 2 = 1 := by omega
        have hm : ((x - y) % 18446744069414584321) * (z % 18446744069414584321) % 18446744069414584321 = (x - y) * z % 18446744069414584321 := by rw [modmul_l, modmul_r]
        have HM := Lib.hid hm
        have HP := Lib.hid hpar
        clear hpar hm
        go_wp2_with fail
        go_quiet (fail)
        have hbd := below_drewN (Below.refl wr.heap.size wr) nq
        have hown := hown.later hbd
        have c1 := (hbd.cell (World.block_lt_of_cell? _ _ c1)).trans c1
        have c2 := (hbd.cell (World.block_lt_of_cell? _ _ c2)).trans c2
        have c3 := (hbd.cell (World.block_lt_of_cell? _ _ c3)).trans c3
        obtain ⟨wq, hwq⟩ : ∃ wq, wr.drewN nq = wq := ⟨_, rfl⟩
        rw [hwq] at hown c1 c2 c3 ⊢
        clear hwq hbd
        have hsz := hown.below.size
        go_wp2_with (first | (go_at_call 42; refine (ref_Red _ _ (by omega) (by omega)).mono ?_; rintro e w' ⟨rfl, rfl⟩))
        have n3 : u7.ownBlock ≠ some bw := fun h => by have := (hown.own.lt _ h).1; omega
        go_region_held3 (fun w' => w'.cell? ⟨bw, ow + A, none⟩ = some (.int .u64 z)) (first | go_keep | (exact cell_grown c3 n3 hgrow)) ((first | (go_at_call 52; refine (ref_Sub _ _ _ (by omega) (by omega) (by omega) (by omega)).mono ?_; rintro e w' ⟨rfl, rfl⟩) | (go_at_call 42; refine (ref_Red _ _ (by omega) (by omega)).mono ?_; rintro e w' ⟨rfl, rfl⟩) | (go_at_call 41; refine (ref_Mul _ _ _ (by omega) (by omega) (by omega) (by omega)).mono ?_; rintro e w' ⟨rfl, rfl⟩) | (refine step_append_lies _ (by rfl) _ _ 22 (by rfl) w.heap.size 45 i0 _ 1 8 Try.underlying22 hi hz0 hz1 hz2 rfl (by omega) _ k _ (by rfl) ((hown.own.alloc _).drew) ⟨wq.heap.size, 0, none⟩ 1 1 [.int .u64 ((x - y) % 18446744069414584321 * (z % 18446744069414584321) % 18446744069414584321)] (by rfl) (by rfl) (cell_one_new _ _ _) (one_cell _ _) (by omega) (by unfold maxLen; omega) (by omega) (size_alloc_le hown.below _) (wq.heap.size + 1) (by simp) ?_; intro gg cap w1 hown' hgrow hat hlt0)))
        have hnext := hown.push _ (by rw [HV.out, if_neg HP.out, HM.out]) hown' (grown_of_drew hgrow)
        clear hown' hgrow
        go_wp2_with fail
        go_roundw
        case rel => exact ⟨k + 1, by omega, by go_num, hnext⟩
        case measure => simp [intOf]; omega
    · have hk' : k = n := by omega
      have hres := hown.gives (xs := passL xs ws s) (by rw [passL_len, HXL.out]; omega) (passL_fits _ _ _) (fun i hi => nth_passL _ _ _ _ (by rw [HXL.out]; omega)) (by omega)
      clear hown
      go_wp2_with fail
      go_ret
      exact hres
end Go.Proofs.Ytlgklkhijmeldaa
