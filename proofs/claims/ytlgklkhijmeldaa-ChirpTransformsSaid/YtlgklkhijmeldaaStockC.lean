/- All pairs of a pass; one pass. -/
import Derived.Test.YtlgklkhijmeldaaStockB
namespace Go.Proofs.Ytlgklkhijmeldaa
open Go.RowKit Sm
set_option linter.unusedVariables false
set_option linter.unusedSimpArgs false
set_option maxRecDepth 100000

theorem own_eqn {k : IntKind} {e : TypeId} {w wr : World} {g n : Nat} {f f' : Nat → Int} (h : OwnAt k e w wr g n f) (he : ∀ j, j < n → f' j = f j) : OwnAt k e w wr g n f' := by
  refine ⟨?_, h.below⟩
  have e1 : ((List.range n).map fun j => Value.int k (f' j)) = ((List.range n).map fun j => Value.int k (f j)) := List.map_congr_left (fun j hj => by rw [he j (by simpa using hj)])
  rw [e1]; exact h.own

/-- What stands at place j when all pairs ahead of (i, q) are done. -/
def doneF (xs ws : List Int) (s i q j : Nat) : Int := if j / s / 2 < i ∨ (j / s / 2 = i ∧ j % s < q) then passAt xs ws s j else 0
theorem doneF_start (xs ws : List Int) (s j : Nat) : doneF xs ws s 0 0 j = 0 := by unfold doneF; generalize j / s / 2 = p; generalize j % s = r; rw [if_neg (by omega)]
theorem doneF_row (xs ws : List Int) (s i j : Nat) (hs : 0 < s) : doneF xs ws s (i + 1) 0 j = doneF xs ws s i s j := by
  have := Nat.mod_lt j hs
  unfold doneF
  generalize j / s / 2 = p at *
  generalize j % s = r at *
  by_cases h : p < i + 1
  · rw [if_pos (.inl h), if_pos (by omega)]
  · rw [if_neg (by omega), if_neg (by omega)]
theorem doneF_end (xs ws : List Int) (s h j n : Nat) (hs : 0 < s) (hn : n = s * (2 * h)) (hj : j < n) : doneF xs ws s h 0 j = passAt xs ws s j := by
  unfold doneF
  rw [if_pos]
  left
  have : j / s < 2 * h := Nat.div_lt_of_lt_mul (by omega)
  omega
theorem place_of (s q t : Nat) (hq : q < s) : (q + s * t) % s = q ∧ (q + s * t) / s = t :=
  ⟨by rw [Nat.add_mul_mod_self_left, Nat.mod_eq_of_lt hq], by rw [Nat.add_mul_div_left _ _ (by omega), Nat.div_eq_of_lt hq, Nat.zero_add]⟩
theorem doneF_step (xs ws : List Int) (s h i q n j : Nat) (hx : xs.length = n) (hn : n = s * (2 * h)) (hq : q < s) :
    doneF xs ws s i (q + 1) j = if j = q + s * (2 * i + 1) then (nth xs (q + s * i) - nth xs (q + s * (i + h))) * nth ws (i * s) % 18446744069414584321 else if j = q + s * 2 * i then (nth xs (q + s * i) + nth xs (q + s * (i + h))) % 18446744069414584321 else doneF xs ws s i q j := by
  have hh : n / 2 = s * h := by rw [hn, show s * (2 * h) = 2 * (s * h) by grind]; omega
  have e2 : q + s * 2 * i = q + s * (2 * i) := by rw [Nat.mul_assoc]
  have e3 : q + s * (i + h) = q + s * i + s * h := by rw [Nat.mul_add]; omega
  rw [e2, e3]
  by_cases h1 : j = q + s * (2 * i + 1)
  · rw [if_pos h1]
    have hp := place_of s q (2 * i + 1) hq
    subst h1
    unfold doneF
    rw [if_pos (by rw [hp.1, hp.2]; omega)]
    unfold passAt
    rw [hp.1, hp.2, hx, hh, if_neg (by omega), show (2 * i + 1) / 2 = i by omega]
  · rw [if_neg h1]
    by_cases h2 : j = q + s * (2 * i)
    · rw [if_pos h2]
      have hp := place_of s q (2 * i) hq
      subst h2
      unfold doneF
      rw [if_pos (by rw [hp.1, hp.2]; omega)]
      unfold passAt
      rw [hp.1, hp.2, hx, hh, if_pos (by omega), show 2 * i / 2 = i by omega]
    · rw [if_neg h2]
      have key : ¬ (j / s / 2 = i ∧ j % s = q) := by
        rintro ⟨k1, k2⟩
        have k3 := Nat.div_add_mod j s
        rw [k2] at k3
        rcases (show j / s = 2 * i ∨ j / s = 2 * i + 1 by omega) with k4 | k4
        · rw [k4] at k3; omega
        · rw [k4] at k3; omega
      unfold doneF
      generalize j / s / 2 = p at *
      generalize j % s = r at *
      by_cases h3 : p < i ∨ (p = i ∧ r < q)
      · rw [if_pos h3, if_pos (by omega)]
      · rw [if_neg h3, if_neg (by omega)]

/-- The cells that a pass reads. -/
structure RunCells (wr : World) (g pb px py pw n s : Nat) (ax aw : Option Addr) (cx cw : Nat) (fv : Value) : Prop where
  b0 : wr.cell? ⟨pb, 0, none⟩ = some (.int .i64 n)
  b1 : wr.cell? ⟨pb, 1, none⟩ = some (.int .i64 s)
  b2 : wr.cell? ⟨pb, 2, none⟩ = some fv
  px : wr.cell? ⟨px, 0, none⟩ = some (.slice ax n cx)
  py : wr.cell? ⟨py, 0, none⟩ = some (.slice (some ⟨g, 0, none⟩) n n)
  pw : wr.cell? ⟨pw, 0, none⟩ = some (.slice aw n cw)
theorem RunCells.kept {W W' : World} {g pb px py pw n s : Nat} {ax aw : Option Addr} {cx cw : Nat} {fv : Value} (h : RunCells W g pb px py pw n s ax aw cx cw fv) (hk : Kept g W W') (n0 : pb ≠ g) (n1 : px ≠ g) (n2 : py ≠ g) (n3 : pw ≠ g) : RunCells W' g pb px py pw n s ax aw cx cw fv :=
  ⟨(hk.2 _ _ n0 (World.block_lt_of_cell? W _ h.b0)).trans h.b0, (hk.2 _ _ n0 (World.block_lt_of_cell? W _ h.b0)).trans h.b1, (hk.2 _ _ n0 (World.block_lt_of_cell? W _ h.b0)).trans h.b2,
   (hk.2 _ _ n1 (World.block_lt_of_cell? W _ h.px)).trans h.px, (hk.2 _ _ n2 (World.block_lt_of_cell? W _ h.py)).trans h.py, (hk.2 _ _ n3 (World.block_lt_of_cell? W _ h.pw)).trans h.pw⟩

set_option maxHeartbeats 2000000 in
theorem stock_run (n s h g px py pw : Nat) (ax aw : Option Addr) (cx cw : Nat) (xs ws : List Int) (w W : World)
    (hx : Row .u64 w ax xs) (hw : Row .u64 w aw ws) (hxl : xs.length = n) (hwl : ws.length = n) (hn : n ≤ 16777216) (hns : n = s * (2 * h)) (hs : 0 < s) (hh : 0 < h)
    (hpx : W.cell? ⟨px, 0, none⟩ = some (.slice ax n cx)) (hpy : W.cell? ⟨py, 0, none⟩ = some (.slice (some ⟨g, 0, none⟩) n n)) (hpw : W.cell? ⟨pw, 0, none⟩ = some (.slice aw n cw))
    (n1 : px ≠ g) (n2 : py ≠ g) (n3 : pw ≠ g) (hown : OwnAt .u64 45 w W g n (fun _ => 0)) :
    Calls Try.prog 76 #[.agg #[.int .i64 n, .int .i64 s, .func (.func 73) #[] #[.pointer (some ⟨px, 0, none⟩), .pointer (some ⟨py, 0, none⟩), .pointer (some ⟨pw, 0, none⟩)]]] W
      fun e W' => (∃ v, e = .returned v) ∧ Kept g W W' ∧ OwnAt .u64 45 w W' g n (passAt xs ws s) := by
  have HX := Lib.hid hx
  have HW := Lib.hid hw
  have HXL := Lib.hid hxl
  have HWL := Lib.hid hwl
  have HNS := Lib.hid hns
  have h2s : s * 2 ≤ n := by rw [hns]; exact Nat.mul_le_mul_left s (by omega)
  have hhn : h ≤ n := by
    rw [hns]
    calc h ≤ 1 * (2 * h) := by omega
      _ ≤ s * (2 * h) := Nat.mul_le_mul_right _ hs
  have eh : (n : Int) / (2 * (s : Int)) = (h : Int) := by
    have e : n = 2 * s * h := by rw [hns]; grind
    have : n / (2 * s) = h := by rw [e, Nat.mul_div_cancel_left _ (by omega)]
    rw [show (2 : Int) * (s : Int) = ((2 * s : Nat) : Int) by omega, ← Int.natCast_ediv, this]
  have ehw : IntKind.i64.wrap (h : Int) = (h : Int) := IntWalk.i64_in _ (by omega)
  have e0 : ((2 * (s : Int)) == 0) = false := by simp; omega
  have e0' : ¬ (2 * (s : Int)) = 0 := by omega
  have e0'' : ¬ s = 0 := by omega
  have hcells : RunCells (W.alloc (.cells #[.int .i64 n, .int .i64 s, .func (.func 73) #[] #[.pointer (some ⟨px, 0, none⟩), .pointer (some ⟨py, 0, none⟩), .pointer (some ⟨pw, 0, none⟩)]] 65)) g W.heap.size px py pw n s ax aw cx cw (.func (.func 73) #[] #[.pointer (some ⟨px, 0, none⟩), .pointer (some ⟨py, 0, none⟩), .pointer (some ⟨pw, 0, none⟩)]) :=
    ⟨by simp, by simp, by simp, (cell_past _ _ _ (World.block_lt_of_cell? W _ hpx)).trans hpx, (cell_past _ _ _ (World.block_lt_of_cell? W _ hpy)).trans hpy, (cell_past _ _ _ (World.block_lt_of_cell? W _ hpw)).trans hpw⟩
  have hgW := hown.base
  have hown1 := own_eqn (hown.later ((Below.refl _ _).alloc (Nat.le_refl _) (.cells #[.int .i64 n, .int .i64 s, .func (.func 73) #[] #[.pointer (some ⟨px, 0, none⟩), .pointer (some ⟨py, 0, none⟩), .pointer (some ⟨pw, 0, none⟩)]] 65))) (fun j _ => doneF_start xs ws s j)
  have HC := Lib.hid hcells
  have HO := Lib.hid hown1
  have HN0 : Hid (W.heap.size ≠ g ∧ px ≠ g ∧ py ≠ g ∧ pw ≠ g) := ⟨by omega, n1, n2, n3⟩
  clear hx hw hxl hwl hns hpx hpy hpw hown hcells hown1 n1 n2 n3
  go_enter Try.func76, Try.ntmps76
  go_wp2_with fail
  go_loopw [12] (fun v wr => ∃ i : Nat, i ≤ h ∧ v = .int .i64 i ∧ OwnAt .u64 45 w wr g n (doneF xs ws s i 0) ∧ Kept g W wr ∧ RunCells wr g W.heap.size px py pw n s ax aw cx cw (.func (.func 73) #[] #[.pointer (some ⟨px, 0, none⟩), .pointer (some ⟨py, 0, none⟩), .pointer (some ⟨pw, 0, none⟩)])) (fun v _ => h - (intOf v).toNat)
  case atStart => exact ⟨0, Nat.zero_le _, rfl, HO.out, ⟨by simp, fun b i _ hb => cell_past _ _ _ hb⟩, HC.out⟩
  case round =>
    obtain ⟨i, hi, rfl, hown, hkept, hcells⟩ := hrel
    by_cases hlt : i < h
    · obtain ⟨wo, hwo⟩ : ∃ wo : World, wo = wr := ⟨_, rfl⟩
      subst hwo
      have hb1 := hcells.b1
      go_wp2_with fail
      clear hb1
      go_loopw [17] (fun v wr => ∃ q : Nat, q ≤ s ∧ v = .int .i64 q ∧ OwnAt .u64 45 w wr g n (doneF xs ws s i q) ∧ Kept g W wr ∧ RunCells wr g W.heap.size px py pw n s ax aw cx cw (.func (.func 73) #[] #[.pointer (some ⟨px, 0, none⟩), .pointer (some ⟨py, 0, none⟩), .pointer (some ⟨pw, 0, none⟩)])) (fun v _ => s - (intOf v).toNat)
      case atStart => exact ⟨0, Nat.zero_le _, rfl, hown, hkept, hcells⟩
      case round =>
        obtain ⟨q, hq, rfl, hown, hkept, hcells⟩ := hrel
        by_cases hqs : q < s
        · have hstep := fun j (hj : j < n) => doneF_step xs ws s h i q n j HXL.out HNS.out hqs
          have hle1 : s * (2 * i + 2) ≤ n := by rw [HNS.out]; exact Nat.mul_le_mul_left s (by omega)
          have hle2 : s * (i + h + 1) ≤ n := by rw [HNS.out]; exact Nat.mul_le_mul_left s (by omega)
          have hle3 : s * (i + 1) ≤ n := by rw [HNS.out]; exact Nat.mul_le_mul_left s (by omega)
          rw [Nat.mul_add] at hle1 hle2 hle3
          have x1 : s * (2 * i + 1) = s * (2 * i) + s := by rw [Nat.mul_add, Nat.mul_one]
          have x2 : s * 2 * i = s * (2 * i) := Nat.mul_assoc _ _ _
          have y1 : (s : Int) * (i : Int) = ((s * i : Nat) : Int) := (Int.natCast_mul _ _).symm
          have y2 : (s : Int) * ((i : Int) + (h : Int)) = ((s * (i + h) : Nat) : Int) := by rw [Int.natCast_mul, Int.natCast_add]
          have y3 : (s : Int) * 2 * (i : Int) = ((s * 2 * i : Nat) : Int) := by rw [Int.natCast_mul, Int.natCast_mul]; rfl
          have y4 : (s : Int) * (2 * (i : Int) + 1) = ((s * (2 * i + 1) : Nat) : Int) := by rw [Int.natCast_mul, Int.natCast_add, Int.natCast_mul]; rfl
          have y5 : (i : Int) * (s : Int) = ((i * s : Nat) : Int) := (Int.natCast_mul _ _).symm
          have x5 : i * s = s * i := Nat.mul_comm _ _
          rw [x2] at y3 hstep
          rw [x1] at y4 hstep
          rw [x5] at y5 hstep
          obtain ⟨A, hA⟩ : ∃ A, s * i = A := ⟨_, rfl⟩
          obtain ⟨B, hB⟩ : ∃ B, s * (i + h) = B := ⟨_, rfl⟩
          obtain ⟨C, hC⟩ : ∃ C, s * (2 * i) = C := ⟨_, rfl⟩
          rw [hA] at y1 y5 hstep hle3
          rw [hB] at y2 hstep hle2
          rw [hC] at y3 y4 hstep hle1
          have hcall := stock_one1 (q + A) (q + B) (q + C) (q + (C + s)) A n g px py pw ax aw cx cw xs ws (doneF xs ws s i q) w wr HX.out HW.out HXL.out HWL.out hn hcells.px hcells.py hcells.pw HN0.out.2.1.symm HN0.out.2.2.1.symm HN0.out.2.2.2.symm hown (by omega) (by omega) (by omega) (by omega) (by omega)
          have HCALL := Lib.hid hcall
          have HSTEP := Lib.hid hstep
          have HKEPT := Lib.hid hkept
          have HCS := Lib.hid hcells
          have hb1 := hcells.b1
          have hb2 := hcells.b2
          have c1 : ((q + A : Nat) : Int) = (q : Int) + (A : Int) := Int.natCast_add _ _
          have c2 : ((q + B : Nat) : Int) = (q : Int) + (B : Int) := Int.natCast_add _ _
          have c3 : ((q + C : Nat) : Int) = (q : Int) + (C : Int) := Int.natCast_add _ _
          have c4 : ((q + (C + s) : Nat) : Int) = (q : Int) + ((C + s : Nat) : Int) := Int.natCast_add _ _
          have HCC := Lib.hid (And.intro c1 (And.intro c2 (And.intro c3 c4)))
          have y4' : (s : Int) * (2 * (i : Int) + 1) = (C : Int) + (s : Int) := by rw [y4]; omega
          have A1 : A ≤ 16777216 := by omega
          have B1 : B ≤ 16777216 := by omega
          have C1 : C + s ≤ 16777216 := by omega
          have q1 : q ≤ 16777216 := by omega
          clear hA hB hC hcall hstep hkept hcells hown y4 x1 x2 x5 c1 c2 c3 c4 hle1 hle2 hle3
          go_wp2_with fail
          have hc := HCALL.out
          simp only [Int.natCast_add] at hc
          refine hc.mono ?_
          rintro e W' ⟨⟨v, rfl⟩, hk, hown'⟩
          have HO' := Lib.hid (own_eqn hown' (fun j hj => HSTEP.out j hj))
          have HK' := Lib.hid hk
          clear hown' hk hc
          go_wp2_with fail
          go_roundw
          case rel => exact ⟨q + 1, by omega, by go_num, HO'.out, HKEPT.out.trans HK'.out, HCS.out.kept HK'.out HN0.out.1 HN0.out.2.1 HN0.out.2.2.1 HN0.out.2.2.2⟩
          case measure => simp [intOf]; omega
        · obtain rfl : q = s := by omega
          have HO' := Lib.hid (own_eqn hown (fun j _ => doneF_row xs ws q i j hs))
          have HKEPT := Lib.hid hkept
          have HCS := Lib.hid hcells
          clear hown hkept hcells
          go_wp2_with fail
          go_roundw
          case rel => exact ⟨i + 1, by omega, by go_num, HO'.out, HKEPT.out, HCS.out⟩
          case measure => simp [intOf]; omega
    · obtain rfl : i = h := by omega
      have HO' := Lib.hid (own_eqn hown (fun j hj => (doneF_end xs ws s i j n hs HNS.out hj).symm))
      have HKEPT := Lib.hid hkept
      clear hown hkept hcells
      go_wp2_with fail
      refine bodyPost_end (results_none rfl _ _ _) rfl ?_
      exact ⟨⟨_, rfl⟩, HKEPT.out, HO'.out⟩
end Go.Proofs.Ytlgklkhijmeldaa
