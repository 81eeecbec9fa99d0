/- The contracts and plain laws that the statement ExecSame needs, part 4 of 8: StockC StockD StockE StockF ChirpA SmallA SmallB SmallC SmallD ChirpE ValC ValF. -/
import Derived.Test.YtcckfeikaolfgaaGreatExecSameB3
namespace Go.Proofs.YtcckfeikaolfgaaGreat
open Go.RowKit Sm
set_option linter.unusedVariables false
set_option linter.unusedSimpArgs false
set_option maxRecDepth 100000
theorem own_eqn {k : IntKind} {e : TypeId} {w wr : World} {g n : Nat} {f f' : Nat → Int} (h : OwnAt k e w wr g n f) (he : ∀ j, j < n → f' j = f j) : OwnAt k e w wr g n f' := by
  refine ⟨?_, h.below⟩
  have e1 : ((List.range n).map fun j => Value.int k (f' j)) = ((List.range n).map fun j => Value.int k (f j)) := List.map_congr_left (fun j hj => by rw [he j (by simpa using hj)])
  rw [e1]; exact h.own
/-- What stands at place j when all pairs ahead of (i, q) are done. -/
def doneF (xs ws : List Int) (s i q j : Nat) : Int := if j / s / 2 < i ∨ (j / s / 2 = i ∧ j % s < q) then passAt xs ws s j else 0
theorem doneF_start (xs ws : List Int) (s j : Nat) : doneF xs ws s 0 0 j = 0 := by unfold doneF; generalize j / s / 2 = p; generalize j % s = r; rw [if_neg (by omega)]
theorem doneF_row (xs ws : List Int) (s i j : Nat) (hs : 0 < s) : doneF xs ws s (i + 1) 0 j = doneF xs ws s i s j := by
  have := Nat.mod_lt j hs
  unfold doneF
  generalize j / s / 2 = p at *
  generalize j % s = r at *
  by_cases h : p < i + 1
  · rw [if_pos (.inl h), if_pos (by omega)]
  · rw [if_neg (by omega), if_neg (by omega)]
theorem doneF_end (xs ws : List Int) (s h j n : Nat) (hs : 0 < s) (hn : n = s * (2 * h)) (hj : j < n) : doneF xs ws s h 0 j = passAt xs ws s j := by
  unfold doneF
  rw [if_pos]
  left
  have : j / s < 2 * h := Nat.div_lt_of_lt_mul (by omega)
  omega
theorem place_of (s q t : Nat) (hq : q < s) : (q + s * t) % s = q ∧ (q + s * t) / s = t :=
  ⟨by rw [Nat.add_mul_mod_self_left, Nat.mod_eq_of_lt hq], by rw [Nat.add_mul_div_left _ _ (by omega), Nat.div_eq_of_lt hq, Nat.zero_add]⟩
theorem doneF_step (xs ws : List Int) (s h i q n j : Nat) (hx : xs.length = n) (hn : n = s * (2 * h)) (hq : q < s) :
    doneF xs ws s i (q + 1) j = if j = q + s * (2 * i + 1) then (nth xs (q + s * i) - nth xs (q + s * (i + h))) * nth ws (i * s) % 18446744069414584321 else if j = q + s * 2 * i then (nth xs (q + s * i) + nth xs (q + s * (i + h))) % 18446744069414584321 else doneF xs ws s i q j := by
  have hh : n / 2 = s * h := by rw [hn, show s * (2 * h) = 2 * (s * h) by grind]; omega
  have e2 : q + s * 2 * i = q + s * (2 * i) := by rw [Nat.mul_assoc]
  have e3 : q + s * (i + h) = q + s * i + s * h := by rw [Nat.mul_add]; omega
  rw [e2, e3]
  by_cases h1 : j = q + s * (2 * i + 1)
  · rw [if_pos h1]
    have hp := place_of s q (2 * i + 1) hq
    subst h1
    unfold doneF
    rw [if_pos (by rw [hp.1, hp.2]; omega)]
    unfold passAt
    rw [hp.1, hp.2, hx, hh, if_neg (by omega), show (2 * i + 1) / 2 = i by omega]
  · rw [if_neg h1]
    by_cases h2 : j = q + s * (2 * i)
    · rw [if_pos h2]
      have hp := place_of s q (2 * i) hq
      subst h2
      unfold doneF
      rw [if_pos (by rw [hp.1, hp.2]; omega)]
      unfold passAt
      rw [hp.1, hp.2, hx, hh, if_pos (by omega), show 2 * i / 2 = i by omega]
    · rw [if_neg h2]
      have key : ¬ (j / s / 2 = i ∧ j % s = q) := by
        rintro ⟨k1, k2⟩
        have k3 := Nat.div_add_mod j s
        rw [k2] at k3
        rcases (show j / s = 2 * i ∨ j / s = 2 * i + 1 by omega) with k4 | k4
        · rw [k4] at k3; omega
        · rw [k4] at k3; omega
      unfold doneF
      generalize j / s / 2 = p at *
      generalize j % s = r at *
      by_cases h3 : p < i ∨ (p = i ∧ r < q)
      · rw [if_pos h3, if_pos (by omega)]
      · rw [if_neg h3, if_neg (by omega)]
/-- The cells that a pass reads. -/
structure RunCells (wr : World) (g pb px py pw n s : Nat) (ax aw : Option Addr) (cx cw : Nat) (fv : Value) : Prop where
  b0 : wr.cell? ⟨pb, 0, none⟩ = some (.int .i64 n)
  b1 : wr.cell? ⟨pb, 1, none⟩ = some (.int .i64 s)
  b2 : wr.cell? ⟨pb, 2, none⟩ = some fv
  px : wr.cell? ⟨px, 0, none⟩ = some (.slice ax n cx)
  py : wr.cell? ⟨py, 0, none⟩ = some (.slice (some ⟨g, 0, none⟩) n n)
  pw : wr.cell? ⟨pw, 0, none⟩ = some (.slice aw n cw)
theorem RunCells.kept {W W' : World} {g pb px py pw n s : Nat} {ax aw : Option Addr} {cx cw : Nat} {fv : Value} (h : RunCells W g pb px py pw n s ax aw cx cw fv) (hk : Kept g W W') (n0 : pb ≠ g) (n1 : px ≠ g) (n2 : py ≠ g) (n3 : pw ≠ g) : RunCells W' g pb px py pw n s ax aw cx cw fv :=
  ⟨(hk.2 _ _ n0 (World.block_lt_of_cell? W _ h.b0)).trans h.b0, (hk.2 _ _ n0 (World.block_lt_of_cell? W _ h.b0)).trans h.b1, (hk.2 _ _ n0 (World.block_lt_of_cell? W _ h.b0)).trans h.b2,
   (hk.2 _ _ n1 (World.block_lt_of_cell? W _ h.px)).trans h.px, (hk.2 _ _ n2 (World.block_lt_of_cell? W _ h.py)).trans h.py, (hk.2 _ _ n3 (World.block_lt_of_cell? W _ h.pw)).trans h.pw⟩
set_option maxHeartbeats 2000000 in
theorem stock_run (n s h g px py pw : Nat) (ax aw : Option Addr) (cx cw : Nat) (xs ws : List Int) (w W : World)
    (hx : Row .u64 w ax xs) (hw : Row .u64 w aw ws) (hxl : xs.length = n) (hwl : ws.length = n) (hn : n ≤ 16777216) (hns : n = s * (2 * h)) (hs : 0 < s) (hh : 0 < h)
    (hpx : W.cell? ⟨px, 0, none⟩ = some (.slice ax n cx)) (hpy : W.cell? ⟨py, 0, none⟩ = some (.slice (some ⟨g, 0, none⟩) n n)) (hpw : W.cell? ⟨pw, 0, none⟩ = some (.slice aw n cw))
    (n1 : px ≠ g) (n2 : py ≠ g) (n3 : pw ≠ g) (hown : OwnAt .u64 38 w W g n (fun _ => 0)) :
    Calls Tryz.prog 114 #[.agg #[.int .i64 n, .int .i64 s, .func (.func 112) #[] #[.pointer (some ⟨px, 0, none⟩), .pointer (some ⟨py, 0, none⟩), .pointer (some ⟨pw, 0, none⟩)]]] W
      fun e W' => (∃ v, e = .returned v) ∧ Kept g W W' ∧ OwnAt .u64 38 w W' g n (passAt xs ws s) := by
  have HX := Lib.hid hx
  have HW := Lib.hid hw
  have HXL := Lib.hid hxl
  have HWL := Lib.hid hwl
  have HNS := Lib.hid hns
  have h2s : s * 2 ≤ n := by rw [hns]; exact Nat.mul_le_mul_left s (by omega)
  have hhn : h ≤ n := by
    rw [hns]
    calc h ≤ 1 * (2 * h) := by omega
      _ ≤ s * (2 * h) := Nat.mul_le_mul_right _ hs
  have eh : (n : Int) / (2 * (s : Int)) = (h : Int) := by
    have e : n = 2 * s * h := by rw [hns]; grind
    have : n / (2 * s) = h := by rw [e, Nat.mul_div_cancel_left _ (by omega)]
    rw [show (2 : Int) * (s : Int) = ((2 * s : Nat) : Int) by omega, ← Int.natCast_ediv, this]
  have ehw : IntKind.i64.wrap (h : Int) = (h : Int) := IntWalk.i64_in _ (by omega)
  have e0 : ((2 * (s : Int)) == 0) = false := by simp; omega
  have e0' : ¬ (2 * (s : Int)) = 0 := by omega
  have e0'' : ¬ s = 0 := by omega
  have hcells : RunCells (W.alloc (.cells #[.int .i64 n, .int .i64 s, .func (.func 112) #[] #[.pointer (some ⟨px, 0, none⟩), .pointer (some ⟨py, 0, none⟩), .pointer (some ⟨pw, 0, none⟩)]] 114)) g W.heap.size px py pw n s ax aw cx cw (.func (.func 112) #[] #[.pointer (some ⟨px, 0, none⟩), .pointer (some ⟨py, 0, none⟩), .pointer (some ⟨pw, 0, none⟩)]) :=
    ⟨by simp, by simp, by simp, (cell_past _ _ _ (World.block_lt_of_cell? W _ hpx)).trans hpx, (cell_past _ _ _ (World.block_lt_of_cell? W _ hpy)).trans hpy, (cell_past _ _ _ (World.block_lt_of_cell? W _ hpw)).trans hpw⟩
  have hgW := hown.base
  have hown1 := own_eqn (hown.later ((Below.refl _ _).alloc (Nat.le_refl _) (.cells #[.int .i64 n, .int .i64 s, .func (.func 112) #[] #[.pointer (some ⟨px, 0, none⟩), .pointer (some ⟨py, 0, none⟩), .pointer (some ⟨pw, 0, none⟩)]] 114))) (fun j _ => doneF_start xs ws s j)
  have HC := Lib.hid hcells
  have HO := Lib.hid hown1
  have HN0 : Hid (W.heap.size ≠ g ∧ px ≠ g ∧ py ≠ g ∧ pw ≠ g) := ⟨by omega, n1, n2, n3⟩
  clear hx hw hxl hwl hns hpx hpy hpw hown hcells hown1 n1 n2 n3
  go_enter Tryz.func114, Tryz.ntmps114
  go_wp2_with fail
  go_loopw [12] (fun v wr => ∃ i : Nat, i ≤ h ∧ v = .int .i64 i ∧ OwnAt .u64 38 w wr g n (doneF xs ws s i 0) ∧ Kept g W wr ∧ RunCells wr g W.heap.size px py pw n s ax aw cx cw (.func (.func 112) #[] #[.pointer (some ⟨px, 0, none⟩), .pointer (some ⟨py, 0, none⟩), .pointer (some ⟨pw, 0, none⟩)])) (fun v _ => h - (intOf v).toNat)
  case atStart => exact ⟨0, Nat.zero_le _, rfl, HO.out, ⟨by simp, fun b i _ hb => cell_past _ _ _ hb⟩, HC.out⟩
  case round =>
    obtain ⟨i, hi, rfl, hown, hkept, hcells⟩ := hrel
    by_cases hlt : i < h
    · obtain ⟨wo, hwo⟩ : ∃ wo : World, wo = wr := ⟨_, rfl⟩
      subst hwo
      have hb1 := hcells.b1
      go_wp2_with fail
      clear hb1
      go_loopw [17] (fun v wr => ∃ q : Nat, q ≤ s ∧ v = .int .i64 q ∧ OwnAt .u64 38 w wr g n (doneF xs ws s i q) ∧ Kept g W wr ∧ RunCells wr g W.heap.size px py pw n s ax aw cx cw (.func (.func 112) #[] #[.pointer (some ⟨px, 0, none⟩), .pointer (some ⟨py, 0, none⟩), .pointer (some ⟨pw, 0, none⟩)])) (fun v _ => s - (intOf v).toNat)
      case atStart => exact ⟨0, Nat.zero_le _, rfl, hown, hkept, hcells⟩
      case round =>
        obtain ⟨q, hq, rfl, hown, hkept, hcells⟩ := hrel
        by_cases hqs : q < s
        · have hstep := fun j (hj : j < n) => doneF_step xs ws s h i q n j HXL.out HNS.out hqs
          have hle1 : s * (2 * i + 2) ≤ n := by rw [HNS.out]; exact Nat.mul_le_mul_left s (by omega)
          have hle2 : s * (i + h + 1) ≤ n := by rw [HNS.out]; exact Nat.mul_le_mul_left s (by omega)
          have hle3 : s * (i + 1) ≤ n := by rw [HNS.out]; exact Nat.mul_le_mul_left s (by omega)
          rw [Nat.mul_add] at hle1 hle2 hle3
          have x1 : s * (2 * i + 1) = s * (2 * i) + s := by rw [Nat.mul_add, Nat.mul_one]
          have x2 : s * 2 * i = s * (2 * i) := Nat.mul_assoc _ _ _
          have y1 : (s : Int) * (i : Int) = ((s * i : Nat) : Int) := (Int.natCast_mul _ _).symm
          have y2 : (s : Int) * ((i : Int) + (h : Int)) = ((s * (i + h) : Nat) : Int) := by rw [Int.natCast_mul, Int.natCast_add]
          have y3 : (s : Int) * 2 * (i : Int) = ((s * 2 * i : Nat) : Int) := by rw [Int.natCast_mul, Int.natCast_mul]; rfl
          have y4 : (s : Int) * (2 * (i : Int) + 1) = ((s * (2 * i + 1) : Nat) : Int) := by rw [Int.natCast_mul, Int.natCast_add, Int.natCast_mul]; rfl
          have y5 : (i : Int) * (s : Int) = ((i * s : Nat) : Int) := (Int.natCast_mul _ _).symm
          have x5 : i * s = s * i := Nat.mul_comm _ _
          rw [x2] at y3 hstep
          rw [x1] at y4 hstep
          rw [x5] at y5 hstep
          obtain ⟨A, hA⟩ : ∃ A, s * i = A := ⟨_, rfl⟩
          obtain ⟨B, hB⟩ : ∃ B, s * (i + h) = B := ⟨_, rfl⟩
          obtain ⟨C, hC⟩ : ∃ C, s * (2 * i) = C := ⟨_, rfl⟩
          rw [hA] at y1 y5 hstep hle3
          rw [hB] at y2 hstep hle2
          rw [hC] at y3 y4 hstep hle1
          have hcall := stock_one1 (q + A) (q + B) (q + C) (q + (C + s)) A n g px py pw ax aw cx cw xs ws (doneF xs ws s i q) w wr HX.out HW.out HXL.out HWL.out hn hcells.px hcells.py hcells.pw HN0.out.2.1.symm HN0.out.2.2.1.symm HN0.out.2.2.2.symm hown (by omega) (by omega) (by omega) (by omega) (by omega)
          have HCALL := Lib.hid hcall
          have HSTEP := Lib.hid hstep
          have HKEPT := Lib.hid hkept
          have HCS := Lib.hid hcells
          have hb1 := hcells.b1
          have hb2 := hcells.b2
          have c1 : ((q + A : Nat) : Int) = (q : Int) + (A : Int) := Int.natCast_add _ _
          have c2 : ((q + B : Nat) : Int) = (q : Int) + (B : Int) := Int.natCast_add _ _
          have c3 : ((q + C : Nat) : Int) = (q : Int) + (C : Int) := Int.natCast_add _ _
          have c4 : ((q + (C + s) : Nat) : Int) = (q : Int) + ((C + s : Nat) : Int) := Int.natCast_add _ _
          have HCC := Lib.hid (And.intro c1 (And.intro c2 (And.intro c3 c4)))
          have y4' : (s : Int) * (2 * (i : Int) + 1) = (C : Int) + (s : Int) := by rw [y4]; omega
          have A1 : A ≤ 16777216 := by omega
          have B1 : B ≤ 16777216 := by omega
          have C1 : C + s ≤ 16777216 := by omega
          have q1 : q ≤ 16777216 := by omega
          clear hA hB hC hcall hstep hkept hcells hown y4 x1 x2 x5 c1 c2 c3 c4 hle1 hle2 hle3
          go_wp2_with fail
          have hc := HCALL.out
          simp only [Int.natCast_add] at hc
          refine hc.mono ?_
          rintro e W' ⟨⟨v, rfl⟩, hk, hown'⟩
          have HO' := Lib.hid (own_eqn hown' (fun j hj => HSTEP.out j hj))
          have HK' := Lib.hid hk
          clear hown' hk hc
          go_wp2_with fail
          go_roundw
          case rel => exact ⟨q + 1, by omega, by go_num, HO'.out, HKEPT.out.trans HK'.out, HCS.out.kept HK'.out HN0.out.1 HN0.out.2.1 HN0.out.2.2.1 HN0.out.2.2.2⟩
          case measure => simp [intOf]; omega
        · obtain rfl : q = s := by omega
          have HO' := Lib.hid (own_eqn hown (fun j _ => doneF_row xs ws q i j hs))
          have HKEPT := Lib.hid hkept
          have HCS := Lib.hid hcells
          clear hown hkept hcells
          go_wp2_with fail
          go_roundw
          case rel => exact ⟨i + 1, by omega, by go_num, HO'.out, HKEPT.out, HCS.out⟩
          case measure => simp [intOf]; omega
    · obtain rfl : i = h := by omega
      have HO' := Lib.hid (own_eqn hown (fun j hj => (doneF_end xs ws s i j n hs HNS.out hj).symm))
      have HKEPT := Lib.hid hkept
      clear hown hkept hcells
      go_wp2_with fail
      refine bodyPost_end (results_none rfl _ _ _) rfl ?_
      exact ⟨⟨_, rfl⟩, HKEPT.out, HO'.out⟩
end Go.Proofs.YtcckfeikaolfgaaGreat

namespace Go.Proofs.YtcckfeikaolfgaaGreat
open Go.RowKit Sm
set_option linter.unusedVariables false
set_option linter.unusedSimpArgs false
set_option maxRecDepth 100000
theorem madeAt {k : IntKind} {e : TypeId} {w wx w1 : World} {g n : Nat} (hb : Below w.heap.size w wx) (h : w1.ownsRow w.heap.size e 1 (.slice (some ⟨g, 0, none⟩) n n) n (madeCells #[Value.int k 0] n).toList) (hg : wx.grownBy w1 none) :
    OwnAt k e w w1 g n (fun _ => 0) := by
  refine ⟨?_, hb.grown hg hb.size (by simp)⟩
  have e1 : (madeCells #[Value.int k 0] n).toList = (List.range n).map fun j => Value.int k 0 := by
    rw [toList_madeCells_one]
    apply List.ext_getElem (by simp)
    intro i h1 h2
    simp
  rw [e1] at h
  exact h
set_option maxHeartbeats 1000000 in
theorem stock_oneO (n s h : Nat) (ax aw : Option Addr) (cx cw : Nat) (xs ws : List Int) (w : World)
    (hx : Row .u64 w ax xs) (hw : Row .u64 w aw ws) (hxl : xs.length = n) (hwl : ws.length = n) (hn : n ≤ 16777216) (hns : n = s * (2 * h)) (hs : 0 < s) (hh : 0 < h) :
    Calls Tryz.prog 97 #[.slice ax n cx, .int .i64 s, .slice aw n cw] w (GivesOwn .u64 38 (passL xs ws s) w) := by
  obtain ⟨i0, hi, hz0, hz1, hz2⟩ := info_parts info_u64
  have HX := Lib.hid hx
  have HW := Lib.hid hw
  have HXL := Lib.hid hxl
  have HWL := Lib.hid hwl
  have HNS := Lib.hid hns
  clear hx hw hxl hwl hns
  go_enter Tryz.func97, Tryz.ntmps97
  go_wp2_with (at_make; refine wpList_make_full _ rfl _ _ 25 rfl w.heap.size 38 i0 (.int .u64 0) 1 Tryz.underlying25 hi hz0 hz1 .i64 .i64 n n n rfl rfl rfl rfl (by rw [hz2]; omega) (by unfold maxLen; omega) (by simp; omega) ?_)
  intro w1 hown0 hgrow0
  have hb0 : Below w.heap.size w ((w.alloc (.cells #[.slice ax n cx] 25)).alloc (.cells #[.slice aw n cw] 25)) := ((Below.refl _ _).alloc (Nat.le_refl _) _).alloc (by simp) _
  have hown := madeAt hb0 hown0 hgrow0
  have c1 : w1.cell? ⟨w.heap.size, 0, none⟩ = some (.slice ax n cx) := hgrow0.cell (a := ⟨w.heap.size, 0, none⟩) ((cell_past _ _ _ (by simp)).trans (one_new _ _ _)) (by simp)
  have c2 : w1.cell? ⟨w.heap.size + 1, 0, none⟩ = some (.slice aw n cw) := hgrow0.cell (a := ⟨w.heap.size + 1, 0, none⟩) (cell_new (by simp)) (by simp)
  have hsz := hown.base
  have l1 : w.heap.size < w1.heap.size := by omega
  have l2 : w.heap.size + 1 < w1.heap.size := by omega
  have d1 : (w1.alloc (.cells #[.slice (some ⟨w.heap.size + 1 + 1, 0, none⟩) n n] 25)).cell? ⟨w.heap.size, 0, none⟩ = some (.slice ax n cx) := (cell_past _ _ _ l1).trans c1
  have HO := Lib.hid hown
  clear hown0 hgrow0 hb0 hown
  go_wp2_with fail
  have hbl : Below w1.heap.size w1 ((w1.alloc (.cells #[.slice (some ⟨w.heap.size + 1 + 1, 0, none⟩) n n] 25)).alloc (.cells #[.int .i64 n, .int .i64 s, .func (.func 112) #[] #[.pointer (some ⟨w.heap.size, 0, none⟩), .pointer (some ⟨w1.heap.size, 0, none⟩), .pointer (some ⟨w.heap.size + 1, 0, none⟩)]] 114)) := ((Below.refl _ _).alloc (Nat.le_refl _) _).alloc (by simp) _
  have p1 := (hbl.cell (p := ⟨w.heap.size, 0, none⟩) l1).trans c1
  have p2 := (hbl.cell (p := ⟨w.heap.size + 1, 0, none⟩) l2).trans c2
  have p3 : ((w1.alloc (.cells #[.slice (some ⟨w.heap.size + 1 + 1, 0, none⟩) n n] 25)).alloc (.cells #[.int .i64 n, .int .i64 s, .func (.func 112) #[] #[.pointer (some ⟨w.heap.size, 0, none⟩), .pointer (some ⟨w1.heap.size, 0, none⟩), .pointer (some ⟨w.heap.size + 1, 0, none⟩)]] 114)).cell? ⟨w1.heap.size, 0, none⟩ = some (.slice (some ⟨w.heap.size + 1 + 1, 0, none⟩) n n) := (cell_past _ _ _ (by simp)).trans (one_new _ _ _)
  refine (stock_run n s h (w.heap.size + 1 + 1) w.heap.size w1.heap.size (w.heap.size + 1) ax aw cx cw xs ws w _ HX.out HW.out HXL.out HWL.out hn HNS.out hs hh p1 p3 p2 (by omega) (by omega) (by omega) (HO.out.later hbl)).mono ?_
  rintro e W' ⟨⟨v, rfl⟩, hk, hown⟩
  have hc := (hk.2 w1.heap.size 0 (by omega) (by simp; omega)).trans p3
  have hres := hown.givesO (xs := passL xs ws s) (by rw [passL_len]; exact HXL.out) (passL_fits _ _ _) (fun i hi => nth_passL _ _ _ _ (by rw [HXL.out]; exact hi)) hn
  have HR := Lib.hid hres
  clear hown hres hk p1 p2 p3 hbl d1 c1 c2
  go_wp2_with fail
  go_ret
  exact HR.out
theorem stock_one (n s h : Nat) (ax aw : Option Addr) (cx cw : Nat) (xs ws : List Int) (w : World)
    (hx : Row .u64 w ax xs) (hw : Row .u64 w aw ws) (hxl : xs.length = n) (hwl : ws.length = n) (hn : n ≤ 16777216) (hns : n = s * (2 * h)) (hs : 0 < s) (hh : 0 < h) :
    Calls Tryz.prog 97 #[.slice ax n cx, .int .i64 s, .slice aw n cw] w (GivesRow .u64 (passL xs ws s) w) :=
  (stock_oneO n s h ax aw cx cw xs ws w hx hw hxl hwl hn hns hs hh).mono fun e w' h => h.row
end Go.Proofs.YtcckfeikaolfgaaGreat

namespace Go.Proofs.YtcckfeikaolfgaaGreat
open Go.RowKit Sm
set_option linter.unusedVariables false
set_option linter.unusedSimpArgs false
set_option maxRecDepth 100000
theorem litRow (w : World) (t : TypeId) (n : Nat) (xs : List Int) (hn : n = w.heap.size) (hw : ∀ x ∈ xs, 0 ≤ x ∧ x < 18446744073709551616) (hl : xs.length ≤ 100) : Row .u64 (w.alloc (.cells (xs.map (Value.int .u64)).toArray t)) (some ⟨n, 0, none⟩) xs := by
  subst hn; exact row_new .u64 w t xs (fun x hx => fits_u64.2 (hw x hx)) (by omega)
theorem vec_RedN2 (a : Option Addr) (n cap : Nat) (xs : List Int) (w : World) (hx : Row .u64 w a xs) (hn : xs.length = n) (hl : n ≤ 16777216) :
    Calls Tryz.prog 31 #[.slice a n cap] w (GivesRow .u64 (xs.map (· % 18446744069414584321)) w) := by
  subst hn; exact vec_Red a cap xs w hx hl
theorem half_of_pow (m j s : Nat) (hs : s = 2 ^ j) (hj : j < m) : ∃ h, 0 < h ∧ 2 ^ m = s * (2 * h) := by
  refine ⟨2 ^ (m - j - 1), Nat.pow_pos (by omega), ?_⟩
  rw [hs, ← Nat.pow_succ', ← Nat.pow_add]
  congr 1; omega
set_option maxHeartbeats 1000000 in
theorem with_ok (ax aw : Option Addr) (n m cx cw : Nat) (xs ws : List Int) (w : World) (hx : Row .u64 w ax xs) (hw : Row .u64 w aw ws) (hxl : xs.length = n) (hwl : ws.length = n) (hm : m ≤ 24) (hn : n = 2 ^ m) :
    Calls Tryz.prog 75 #[.slice ax n cx, .slice aw n cw] w (GivesRowE .u64 (withTo xs ws m) 0 w) := by
  have hP : hasP2 (n : Int) = true := (hasP2_iff _).2 ⟨m, hm, by rw [hn]⟩
  have hn2 : n ≤ 16777216 := by
    have : 2 ^ m ≤ 2 ^ 24 := Nat.pow_le_pow_right (by omega) hm
    have e : (2 : Nat) ^ 24 = 16777216 := by decide
    omega
  have hn1 : 1 ≤ n := by rw [hn]; exact Nat.pow_pos (by omega)
  have C1 : Hid (∀ w : World, Calls Tryz.prog 44 #[.int .i64 n] w fun e w' => e = .returned (.bool true) ∧ w = w') := fun w => by rw [← hP]; exact stock_Has n w (by omega)
  have HX := Lib.hid hx
  have HW := Lib.hid hw
  have HXL := Lib.hid hxl
  have HWL := Lib.hid hwl
  have HN := Lib.hid hn
  have HL : Hid (∀ j, (withTo xs ws j).length = n) := fun j => by rw [withTo_len]; exact hxl
  have h0 : ((n : Int) != (n : Int)) = false := bfalse' rfl
  clear hx hw hxl hwl hn hP
  go_enter Tryz.func75, Tryz.ntmps75
  go_wp2_with fail
  refine (C1.out _).mono ?_; rintro e w' ⟨rfl, rfl⟩
  go_wp2_with fail
  refine (vec_RedN2 ax n cx xs _ HX.out HXL.out hn2).mono ?_
  rintro e w1 ⟨a1, cap1, rfl, hr1, hcap1, hb1⟩
  have hl0 := HL.out 0
  have hl0' : (xs.map (· % 18446744069414584321)).length = n := hl0
  rw [hl0']
  rw [hl0'] at hcap1
  clear hl0 hl0'
  go_wp2_with fail
  go_loopw [6, 7] (fun v i wr => ∃ (j s : Nat) (a : Option Addr) (cap : Nat), j ≤ m ∧ Hid (s = 2 ^ j) ∧ 1 ≤ s ∧ s ≤ n ∧ i = .int .i64 s ∧ v = .slice a n cap ∧ Row .u64 wr a (withTo xs ws j) ∧ OkCap a n cap ∧ Below w.heap.size w wr) (fun _ i _ => n - (intOf i).toNat)
  case atStart => exact ⟨0, 1, a1, cap1, Nat.zero_le _, rfl, by omega, hn1, rfl, rfl, hr1, hcap1, hb1⟩
  case round =>
    obtain ⟨j, s, a, cap, hj, HS, hs1, hsn, rfl, rfl, hrow, hcap, hb⟩ := hrel
    have HR := Lib.hid hrow
    have HC := Lib.hid hcap
    clear hrow hcap
    by_cases hlt : j < m
    · obtain ⟨h, hh, hns⟩ := half_of_pow m j s HS.out hlt
      have h2s : s * 2 ≤ n := by rw [HN.out, hns]; exact Nat.mul_le_mul_left s (by omega)
      have hle : (2 : Int) * (s : Int) ≤ (n : Int) := by omega
      have HNS : Hid (n = s * (2 * h)) := HN.out.trans hns
      have HS2 : Hid (2 * s = 2 ^ (j + 1)) := by unfold Hid; rw [Nat.pow_succ, HS.out]; omega
      clear hns
      go_wp2_with fail
      refine (stock_one n s h a aw cap cw (withTo xs ws j) ws _ HR.out (HW.out.below hb) (HL.out j) HWL.out hn2 HNS.out hs1 hh).mono ?_
      rintro e w2 ⟨a2, cap2, rfl, hr2, hcap2, hb2⟩
      have hlen : (passL (withTo xs ws j) ws s).length = n := by rw [passL_len]; exact HL.out j
      rw [hlen] at hcap2 ⊢
      have HR2 : Hid (Row .u64 w2 a2 (withTo xs ws (j + 1))) := by unfold Hid; simp only [withTo]; rw [← HS.out]; exact hr2
      clear hr2 hlen
      go_wp2_with fail
      go_roundw
      case rel => exact ⟨j + 1, 2 * s, a2, cap2, by omega, HS2.out, by omega, by omega, by go_num, rfl, HR2.out, hcap2, chain hb hb2⟩
      case measure => simp [intOf]; omega
    · have hjm : j = m := by omega
      have hsn' : s = n := by rw [HS.out, HN.out, hjm]
      have hlt2 : (n : Int) < 2 * (s : Int) := by omega
      have HJ := Lib.hid hjm
      have hres : Hid (GivesRowE .u64 (withTo xs ws m) 0 w (.returned (.tuple #[.slice a n cap, .int .i64 0])) wr) := ⟨a, cap, by rw [HL.out], by rw [← HJ.out]; exact HR.out, by rw [HL.out]; exact HC.out, hb⟩
      clear hjm hsn'
      go_wp2_with fail
      go_ret2
      exact hres.out
end Go.Proofs.YtcckfeikaolfgaaGreat

namespace Go.Proofs.YtcckfeikaolfgaaGreat
open Go.RowKit Sm
set_option linter.unusedVariables false
set_option linter.unusedSimpArgs false
set_option maxRecDepth 100000
set_option maxHeartbeats 800000 in
theorem do_ok (a : Option Addr) (n m c : Nat) (d : Int) (xs : List Int) (w : World) (hx : Row .u64 w a xs) (hxl : xs.length = n) (hd : d = 0 ∨ d = 1) (hm : m ≤ 24) (hn : n = 2 ^ m) :
    Calls Tryz.prog 49 #[.slice a n c, .int .i64 d] w (GivesRowE .u64 (dftL xs (dirRt n d)) 0 w) := by
  have hP : hasP2 (n : Int) = true := (hasP2_iff _).2 ⟨m, hm, by rw [hn]⟩
  have hs : hasSz (n : Int) = true := by rw [hn]; exact hasSz_pow m hm
  have hn2 : n ≤ 16777216 := by have := (hasSz_iff.1 hs).2.1; omega
  have C1 : Hid (∀ w : World, Calls Tryz.prog 44 #[.int .i64 n] w fun e w' => e = .returned (.bool true) ∧ w = w') := fun w => by rw [← hP]; exact stock_Has n w (by omega)
  have hroot := isRoot_dir n d hs
  have hfft : withTo xs (powL (dirRt n d) n) m = dftL xs (dirRt n d) := by
    have := fft_all xs (dirRt n d) (dirBk n d) m (by rw [← hn]; exact hroot) (by rw [hxl, hn])
    rw [← hn] at this; exact this
  have HF := Lib.hid hfft
  have HX := Lib.hid hx
  have HXL := Lib.hid hxl
  have HS := Lib.hid hs
  have HN := Lib.hid hn
  have HL : Hid ((withTo xs (powL (dirRt n d) n) m).length = n) := by unfold Hid; rw [withTo_len]; exact hxl
  have HPL : Hid (∀ z : Int, (powL z n).length = n) := fun z => powL_len z n
  have hz := dirRt_range n d
  have HZ := Lib.hid hz
  clear hx hxl hs hP hn hroot hfft hz
  rcases hd with h1 | h1
  · subst h1
    have ez : Hid (dirRt n 0 = rt n) := rfl
    go_enter Tryz.func49, Tryz.ntmps49
    go_wp2_with fail
    refine (C1.out _).mono ?_; rintro e w' ⟨rfl, rfl⟩
    go_wp2_with fail
    refine (rootRoot_yes n _ HS.out).mono ?_; rintro e w' ⟨rfl, rfl⟩
    rw [← ez.out]
    go_wp2_with fail
    refine (rootPowers (dirRt n 0) n _ HZ.out.1 (by have := HZ.out.2; omega) hn2).mono ?_
    rintro e w1 ⟨a1, cap1, rfl, hr1, hcap1, hb1⟩
    rw [HPL.out]
    go_wp2_with fail
    refine (with_ok a a1 n m c cap1 xs (powL (dirRt n 0) n) _ (HX.out.below hb1) hr1 HXL.out (HPL.out _) hm HN.out).mono ?_
    rintro e w2 ⟨a2, cap2, rfl, hr2, hcap2, hb2⟩
    rw [HL.out] at hcap2 ⊢
    rw [HF.out] at hr2
    have hlen := HL.out
    rw [HF.out] at hlen
    have HR := Lib.hid hr2
    have HLEN := Lib.hid hlen
    clear hr2 hlen
    go_wp2_with fail
    go_ret2
    exact ⟨a2, cap2, by simp [HLEN.out], HR.out, by rw [HLEN.out]; exact hcap2, chain hb1 hb2⟩
  · subst h1
    have ez : Hid (dirRt n 1 = bk n) := rfl
    go_enter Tryz.func49, Tryz.ntmps49
    go_wp2_with fail
    refine (C1.out _).mono ?_; rintro e w' ⟨rfl, rfl⟩
    go_wp2_with fail
    refine (rootRoot_yes n _ HS.out).mono ?_; rintro e w' ⟨rfl, rfl⟩
    go_wp2_with fail
    refine (rootBack_yes n _ HS.out).mono ?_; rintro e w' ⟨rfl, rfl⟩
    rw [← ez.out]
    go_wp2_with fail
    refine (rootPowers (dirRt n 1) n _ HZ.out.1 (by have := HZ.out.2; omega) hn2).mono ?_
    rintro e w1 ⟨a1, cap1, rfl, hr1, hcap1, hb1⟩
    rw [HPL.out]
    go_wp2_with fail
    refine (with_ok a a1 n m c cap1 xs (powL (dirRt n 1) n) _ (HX.out.below hb1) hr1 HXL.out (HPL.out _) hm HN.out).mono ?_
    rintro e w2 ⟨a2, cap2, rfl, hr2, hcap2, hb2⟩
    rw [HL.out] at hcap2 ⊢
    rw [HF.out] at hr2
    have hlen := HL.out
    rw [HF.out] at hlen
    have HR := Lib.hid hr2
    have HLEN := Lib.hid hlen
    clear hr2 hlen
    go_wp2_with fail
    go_ret2
    exact ⟨a2, cap2, by simp [HLEN.out], HR.out, by rw [HLEN.out]; exact hcap2, chain hb1 hb2⟩
end Go.Proofs.YtcckfeikaolfgaaGreat

namespace Go.Proofs.YtcckfeikaolfgaaGreat
open Go.RowKit Sm
set_option linter.unusedVariables false
set_option linter.unusedSimpArgs false
set_option maxRecDepth 100000
theorem tri_prod (i : Nat) : (i : Int) * ((i : Int) - 1) = ((i * (i - 1) : Nat) : Int) := by
  cases i with
  | zero => simp
  | succ j => rw [show ((j + 1 : Nat) : Int) - 1 = ((j : Nat) : Int) by omega, show j + 1 - 1 = j by omega, ← Int.natCast_mul]
theorem tri_small (i : Nat) (h : i ≤ 67108864) : i * (i - 1) ≤ 4503599627370496 := by
  have := Nat.mul_le_mul h (show i - 1 ≤ 67108864 by omega)
  omega
theorem chirp_tri (n i : Nat) (w : World) (hn : 1 ≤ n) (hn2 : n ≤ 16777216) (hi : i ≤ 67108864) :
    Calls Tryz.prog 73 #[.int .i64 n, .int .i64 i] w fun e w' => e = .returned (.int .i64 (triN n i : Nat)) ∧ w = w' := by
  obtain ⟨q, hq⟩ : ∃ q, i * (i - 1) = q := ⟨_, rfl⟩
  have h1 := tri_prod i
  have h2 := tri_small i hi
  rw [hq] at h1 h2
  have h0 : ((n : Int) == 0) = false := bno (by omega)
  have HT : Hid ((q : Int) / 2 % n = (triN n i : Nat)) := by
    unfold Hid triN triT; rw [hq, Int.natCast_emod, Int.natCast_ediv]; rfl
  clear hq
  go_enter Tryz.func73, Tryz.ntmps73
  go_wp2_with fail
  go_ret
  exact ⟨ret_int HT.out, rfl⟩
theorem chirp_way (n : Nat) (d : Int) (w : World) (h : hasSz n = true) (hd : d = 0 ∨ d = 1) :
    Calls Tryz.prog 71 #[.int .i64 n, .int .i64 d] w fun e w' => e = .returned (.tuple #[.int .u64 (dirRt n d), .int .i64 0]) ∧ w = w' := by
  have H := Lib.hid h
  clear h
  rcases hd with h1 | h1
  · subst h1
    go_enter Tryz.func71, Tryz.ntmps71
    go_wp2_with fail
    refine (rootHas_yes _ _ H.out).mono ?_; rintro e w' ⟨rfl, rfl⟩
    go_wp2_with fail
    refine (rootRoot_yes n _ H.out).mono ?_; rintro e w' ⟨rfl, rfl⟩
    go_wp2_with fail
    go_ret2
    exact ⟨rfl, rfl⟩
  · subst h1
    go_enter Tryz.func71, Tryz.ntmps71
    go_wp2_with fail
    refine (rootHas_yes _ _ H.out).mono ?_; rintro e w' ⟨rfl, rfl⟩
    go_wp2_with fail
    refine (rootBack_yes n _ H.out).mono ?_; rintro e w' ⟨rfl, rfl⟩
    go_wp2_with fail
    go_ret2
    exact ⟨rfl, rfl⟩
theorem chirp_powers (z : Int) (n : Nat) (w : World) (h0 : 0 ≤ z) (h1 : z < 18446744073709551616) (hn1 : 1 ≤ n) (hn : n ≤ 16777216) :
    Calls Tryz.prog 72 #[.int .u64 z, .int .i64 n] w fun e w' => ∃ b off, e = .returned (.slice (some ⟨b, off, none⟩) n n) ∧ Row .u64 w' (some ⟨b, off, none⟩) (powL z n) ∧ Below w.heap.size w w' := by
  have HL : Hid ((powL z n).length = n) := powL_len z n
  go_enter Tryz.func72, Tryz.ntmps72
  go_wp2_with fail
  refine (rootPowers z n _ h0 h1 hn).mono ?_
  rintro e w1 ⟨a1, cap1, rfl, hr1, hcap1, hb1⟩
  rw [HL.out] at hcap1 ⊢
  obtain ⟨b, off, rfl, _⟩ := hr1.at (by rw [HL.out]; omega)
  have HR := Lib.hid hr1
  have hc := hcap1.1
  clear hr1
  go_wp2_with fail
  go_ret
  exact ⟨b, off, rfl, HR.out, hb1⟩
def GivesOwnE (k : IntKind) (t : TypeId) (xs : List Int) (w : World) (e : Ending) (w' : World) : Prop :=
  ∃ a cap, e = .returned (.tuple #[.slice a xs.length cap, .int .i64 0]) ∧ w'.ownsRow w.heap.size t 1 (.slice a xs.length cap) xs.length (xs.map (Value.int k)) ∧ Row k w' a xs ∧ OkCap a xs.length cap ∧ Below w.heap.size w w'
theorem nth_powL (z : Int) (n i : Nat) (h : i < n) : nth (powL z n) i = pw z i := nth_ofFn _ _ _ h
set_option maxHeartbeats 1000000 in
theorem chirp_Row (n many : Nat) (d : Int) (w : World) (h : hasSz n = true) (hd : d = 0 ∨ d = 1) (hm : many ≤ 16777216) :
    Calls Tryz.prog 47 #[.int .i64 n, .int .i64 d, .int .i64 many] w (GivesOwnE .u64 38 (rowT (dirRt n d) n many) w) := by
  obtain ⟨i0, hi, hz0, hz1, hz2⟩ := info_parts info_u64
  have C1 : Hid (∀ w : World, Calls Tryz.prog 71 #[.int .i64 n, .int .i64 d] w fun e w' => e = .returned (.tuple #[.int .u64 (dirRt n d), .int .i64 0]) ∧ w = w') := fun w => chirp_way n d w h hd
  have hzr := dirRt_range n d
  obtain ⟨h1, h2, _⟩ := hasSz_iff.1 h
  have hn1 : 1 ≤ n := by omega
  have hn2 : n ≤ 16777216 := by omega
  obtain ⟨z, hz⟩ : ∃ z, dirRt n d = z := ⟨_, rfl⟩
  rw [hz] at C1 hzr ⊢
  have C2 : Hid (∀ w : World, Calls Tryz.prog 72 #[.int .u64 z, .int .i64 n] w fun e w' => ∃ b off, e = .returned (.slice (some ⟨b, off, none⟩) n n) ∧ Row .u64 w' (some ⟨b, off, none⟩) (powL z n) ∧ Below w.heap.size w w') := fun w => chirp_powers z n w hzr.1 (by omega) hn1 hn2
  have HPL : Hid ((powL z n).length = n) := powL_len z n
  have HRL : Hid ((rowT z n many).length = many) := rowT_len z n many
  have HTL : Hid (∀ k, triN n k < n) := fun k => triN_lt n k hn1
  clear hz h hd h1 h2
  go_enter Tryz.func47, Tryz.ntmps47
  go_wp2_with fail
  refine (C1.out _).mono ?_; rintro e w' ⟨rfl, rfl⟩
  go_wp2_with fail
  refine (C2.out _).mono ?_
  rintro e w1 ⟨b, off, rfl, hr1, hb1⟩
  have HR1 := Lib.hid hr1
  have HB1 := Lib.hid hb1
  clear hr1 hb1
  go_wp2_with (at_make; refine wpList_make_full _ rfl _ _ 25 rfl w1.heap.size 38 i0 (.int .u64 0) 1 Tryz.underlying25 hi hz0 hz1 .i64 .i64 many many many rfl rfl rfl rfl (by rw [hz2]; omega) (by unfold maxLen; omega) (Nat.le_refl _) ?_)
  intro w2 hown0 hgrow0
  have hown := Own.made hown0 hgrow0
  clear hown0 hgrow0
  go_wp2_with fail
  go_loopw [37] (fun i wr => ∃ k : Nat, k ≤ many ∧ i = .int .i64 k ∧ OwnAt .u64 38 w1 wr w1.heap.size many (fun j => if j < k then pw z (triN n j) else 0)) (fun i _ => many - (intOf i).toNat)
  case atStart => exact ⟨0, Nat.zero_le _, rfl, own_eqz hown (fun j => if_neg (by omega))⟩
  case round =>
    obtain ⟨k, hk, rfl, hown⟩ := hrel
    by_cases hlt : k < many
    · obtain ⟨t, ht⟩ : ∃ t, triN n k = t := ⟨_, rfl⟩
      have htl := HTL.out k
      rw [ht] at htl
      obtain ⟨b', off', hbo, hc⟩ := (HR1.out.below hown.below).at (by rw [HPL.out]; omega)
      simp only [Option.some.injEq, Addr.mk.injEq, and_true] at hbo
      obtain ⟨rfl, rfl⟩ := hbo
      have hck := hc t (by rw [HPL.out]; exact htl)
      rw [nth_powL _ _ _ htl] at hck
      clear hc
      have hcell := hown.cell k hlt
      rw [if_neg (Nat.lt_irrefl k)] at hcell
      have hfz := hown.free k
      have hnext := hown.store k hlt (pw z t) (f' := fun j => if j < k + 1 then pw z (triN n j) else 0) (by rw [if_pos (by omega), ht]) (fun j _ hj => by
        by_cases h : j < k
        · rw [if_pos h, if_pos (by omega)]
        · rw [if_neg h, if_neg (by omega)])
      have HNX := Lib.hid hnext
      have HT := Lib.hid ht
      clear hown hnext ht
      go_wp2_with fail
      refine (chirp_tri n k _ hn1 hn2 (by omega)).mono ?_; rintro e w' ⟨rfl, rfl⟩
      rw [HT.out]
      go_wp2_with fail
      go_roundw
      case rel => exact ⟨k + 1, by omega, by go_num, HNX.out⟩
      case measure => simp [intOf]; omega
    · have hkn : k = many := by omega
      obtain ⟨a2, cap2, he, ho2, hf2, _, hb2⟩ := hown.givesO (xs := rowT z n many) (rowT_len z n many) (rowT_fits z n many) (fun i hi => by rw [nth_rowT _ _ _ _ hi, if_pos (by omega)]) (by omega)
      simp only [Ending.returned.injEq, Value.slice.injEq] at he
      obtain ⟨rfl, hx1, rfl⟩ := he
      clear hx1
      have ho3 := own_base ho2 HB1.out.size
      have hrow := gives_of_own ho2 hb2 rfl rfl hf2 (by rw [HRL.out]; omega)
      obtain ⟨a3, cap3, he3, hr3, hcap3, hb3⟩ := hrow
      simp only [Ending.returned.injEq, Value.slice.injEq] at he3
      obtain ⟨rfl, hx2, rfl⟩ := he3
      clear hx2
      have HO := Lib.hid ho3
      have HR := Lib.hid hr3
      clear hown ho2 ho3 hr3 hf2
      go_wp2_with fail
      go_ret2
      exact ⟨some ⟨w1.heap.size, 0, none⟩, many, by simp [HRL.out], HO.out, HR.out, hcap3, chain HB1.out hb2⟩
end Go.Proofs.YtcckfeikaolfgaaGreat

namespace Go.Proofs.YtcckfeikaolfgaaGreat
open Go.RowKit Sm
set_option linter.unusedVariables false
set_option linter.unusedSimpArgs false
set_option maxRecDepth 100000
theorem small_both (a b : Int) (w : World) (ha0 : 0 ≤ a) (ha : a < 18446744073709551616) (hb0 : 0 ≤ b) (hb : b < 18446744073709551616) :
    Calls Tryz.prog 130 #[.int .u64 a, .int .u64 b] w fun e w' => e = .returned (.tuple #[.int .u64 ((a + b) % 18446744069414584321), .int .u64 ((a - b) % 18446744069414584321)]) ∧ w = w' := by
  go_enter Tryz.func130, Tryz.ntmps130
  go_wp2_with (first | (go_at_call 80; refine (gold_Add _ _ _ (by omega) (by omega) (by omega) (by omega)).mono ?_; rintro e w' ⟨rfl, rfl⟩) | (go_at_call 113; refine (gold_Sub _ _ _ (by omega) (by omega) (by omega) (by omega)).mono ?_; rintro e w' ⟨rfl, rfl⟩))
  go_ret2
  exact ⟨rfl, rfl⟩
theorem small_halves (a b : Int) (w : World) (ha0 : 0 ≤ a) (ha : a < 18446744073709551616) (hb0 : 0 ≤ b) (hb : b < 18446744073709551616) :
    Calls Tryz.prog 131 #[.int .u64 a, .int .u64 b] w fun e w' => e = .returned (.tuple #[.int .u64 ((a + b) * hf % 18446744069414584321), .int .u64 ((a - b) * hf % 18446744069414584321)]) ∧ w = w' := by
  have h1 : (a + b) % 18446744069414584321 * 9223372034707292161 % 18446744069414584321 = (a + b) * hf % 18446744069414584321 := modmul_l _ _ _
  have h2 : (a - b) % 18446744069414584321 * 9223372034707292161 % 18446744069414584321 = (a - b) * hf % 18446744069414584321 := modmul_l _ _ _
  have H1 := Lib.hid h1
  have H2 := Lib.hid h2
  clear h1 h2
  go_enter Tryz.func131, Tryz.ntmps131
  go_wp2_with fail
  refine (gold_Add a b _ ha0 ha hb0 hb).mono ?_; rintro e w' ⟨rfl, rfl⟩
  go_wp2_with fail
  refine (gold_Half ((a + b) % 18446744069414584321) _ (by omega) (by omega)).mono ?_; rintro e w' ⟨rfl, rfl⟩
  rw [H1.out]
  go_wp2_with fail
  refine (gold_Sub a b _ ha0 ha hb0 hb).mono ?_; rintro e w' ⟨rfl, rfl⟩
  go_wp2_with fail
  refine (gold_Half ((a - b) % 18446744069414584321) _ (by omega) (by omega)).mono ?_; rintro e w' ⟨rfl, rfl⟩
  rw [H2.out]
  go_wp2_with fail
  go_ret2
  exact ⟨rfl, rfl⟩
theorem gives_lit (w W : World) (t : TypeId) (xs ys : List Int) (n : Nat) (cs : Array Value) (hc : cs = (ys.map (Value.int .u64)).toArray) (hn : n = ys.length) (h : ys = xs) (hf : ∀ x ∈ xs, fits .u64 x) (hl : ys.length ≤ 100) (hb : Below w.heap.size w W) :
    GivesOwn .u64 t xs w (.returned (.slice (some ⟨W.heap.size, 0, none⟩) n n)) (W.alloc (.cells cs t)) := by
  subst hc hn
  subst h
  exact ⟨_, ys.length, rfl, by simpa using World.ownsRow_lit (base := w.heap.size) (e := t) (size := 1) W (ys.map (Value.int .u64)).toArray ys.length hb.size (by unfold maxLen; omega) (by simp), hf, by omega, hb.alloc hb.size _⟩
set_option maxHeartbeats 800000 in
theorem small_two (ad : Option Addr) (cap : Nat) (a b z u : Int) (w : World) (hx : Row .u64 w ad [a, b]) (hr : IsRoot z u 2) :
    Calls Tryz.prog 117 #[.slice ad 2 cap] w (GivesOwn .u64 38 (dftL [a, b] z) w) := by
  obtain ⟨bk, o, rfl, hc⟩ := hx.at (by simp)
  have c0 := hc 0 (by simp)
  have c1 := hc 1 (by simp)
  have f0 := fits_u64.1 (hx.wf a (by simp))
  have f1 := fits_u64.1 (hx.wf b (by simp))
  have e0 : nth [a, b] 0 = a := rfl
  have e1 : nth [a, b] 1 = b := rfl
  rw [e0] at c0
  rw [e1] at c1
  rw [Nat.add_zero] at c0
  have hz : Eqm (z ^ 1) (-1) := root_half hr 1 rfl (by omega)
  rw [ipow1] at hz
  have hlist : [(a + b) % 18446744069414584321, (a - b) % 18446744069414584321] = dftL [a, b] z := two_eq a b z u _ _ hr (by omega) (by omega) (Eqm.mod _) (by
    refine (Eqm.mod _).trans ?_
    rw [Int.sub_eq_add_neg]
    refine (rfl' a).add ?_
    have := (rfl' b).mul hz.symm
    rw [Int.mul_neg, Int.mul_one] at this
    exact this)
  have HL := Lib.hid hlist
  clear hc hx hr hz e0 e1 hlist
  go_enter Tryz.func117, Tryz.ntmps117
  go_wp2_with fail
  go_quiet ((go_at_call 130; exact Calls.quiet_of_same (flipW (small_both a b _ (by omega) (by omega) (by omega) (by omega)))))
  have hb := below_drewN (Below.refl w.heap.size w) nq
  obtain ⟨w1, hw1⟩ : ∃ w1, w.drewN nq = w1 := ⟨_, rfl⟩
  rw [hw1] at hb ⊢
  clear hw1
  go_wp2_with fail
  go_ret
  exact gives_lit w w1 _ _ [(a + b) % 18446744069414584321, (a - b) % 18446744069414584321] 2 _ rfl rfl HL.out (dftL_fits _ _) (by simp) hb
end Go.Proofs.YtcckfeikaolfgaaGreat

namespace Go.Proofs.YtcckfeikaolfgaaGreat
open Go.RowKit Sm
set_option linter.unusedVariables false
set_option linter.unusedSimpArgs false
set_option maxRecDepth 100000
set_option maxHeartbeats 1000000 in
theorem small_three (ad : Option Addr) (cap : Nat) (a b c z u : Int) (w : World) (hx : Row .u64 w ad [a, b, c]) (hr : IsRoot z u 3) (hz0 : 0 ≤ z) (hz1 : z < 18446744069414584321) :
    Calls Tryz.prog 118 #[.slice ad 3 cap, .int .u64 z] w (GivesOwn .u64 38 (dftL [a, b, c] z) w) := by
  obtain ⟨bk, o, rfl, hc⟩ := hx.at (by simp)
  have k0 : w.cell? ⟨bk, o + 0, none⟩ = some (.int .u64 a) := hc 0 (by simp)
  obtain ⟨p0, q0⟩ := fits_u64.1 (hx.wf a (by simp))
  have k1 : w.cell? ⟨bk, o + 1, none⟩ = some (.int .u64 b) := hc 1 (by simp)
  obtain ⟨p1, q1⟩ := fits_u64.1 (hx.wf b (by simp))
  have k2 : w.cell? ⟨bk, o + 2, none⟩ = some (.int .u64 c) := hc 2 (by simp)
  obtain ⟨p2, q2⟩ := fits_u64.1 (hx.wf c (by simp))
  rw [Nat.add_zero] at k0
  have HR := Lib.hid hr
  clear hc hx hr
  go_enter Tryz.func118, Tryz.ntmps118
  go_wp2_with fail
  refine (gold_Mul z z _ (by omega) (by omega) (by omega) (by omega)).mono ?_; rintro e w' ⟨rfl, rfl⟩
  obtain ⟨zz, hzz⟩ : ∃ v, z * z % 18446744069414584321 = v := ⟨_, rfl⟩
  rw [hzz]
  have bd_zz : 0 ≤ zz ∧ zz < 18446744069414584321 := by omega
  have Ezz : Hid (Eqm zz (z * z)) := by unfold Hid; rw [← hzz]; exact Eqm.mod _
  obtain ⟨lzz, rzz⟩ := bd_zz
  clear hzz
  go_wp2_with fail
  refine (small_halves z zz _ (by omega) (by omega) (by omega) (by omega)).mono ?_; rintro e w' ⟨rfl, rfl⟩
  obtain ⟨cc, hcc⟩ : ∃ v, (z + zz) * hf % 18446744069414584321 = v := ⟨_, rfl⟩
  rw [hcc]
  have bd_cc : 0 ≤ cc ∧ cc < 18446744069414584321 := by omega
  have Ecc : Hid (Eqm cc ((z + zz) * hf)) := by unfold Hid; rw [← hcc]; exact Eqm.mod _
  obtain ⟨lcc, rcc⟩ := bd_cc
  clear hcc
  obtain ⟨ss, hss⟩ : ∃ v, (z - zz) * hf % 18446744069414584321 = v := ⟨_, rfl⟩
  rw [hss]
  have bd_ss : 0 ≤ ss ∧ ss < 18446744069414584321 := by omega
  have Ess : Hid (Eqm ss ((z - zz) * hf)) := by unfold Hid; rw [← hss]; exact Eqm.mod _
  obtain ⟨lss, rss⟩ := bd_ss
  clear hss
  go_wp2_with fail
  go_quiet ((go_at_call 130; exact Calls.quiet_of_same (flipW (small_both b c _ (by omega) (by omega) (by omega) (by omega)))))
  obtain ⟨t, ht⟩ : ∃ v, (b + c) % 18446744069414584321 = v := ⟨_, rfl⟩
  rw [ht]
  have bd_t : 0 ≤ t ∧ t < 18446744069414584321 := by omega
  have Et : Hid (Eqm t (b + c)) := by unfold Hid; rw [← ht]; exact Eqm.mod _
  obtain ⟨lt, rt⟩ := bd_t
  clear ht
  obtain ⟨d, hd⟩ : ∃ v, (b - c) % 18446744069414584321 = v := ⟨_, rfl⟩
  rw [hd]
  have bd_d : 0 ≤ d ∧ d < 18446744069414584321 := by omega
  have Ed : Hid (Eqm d (b - c)) := by unfold Hid; rw [← hd]; exact Eqm.mod _
  obtain ⟨ld, rd⟩ := bd_d
  clear hd
  have hb1 := below_drewN (Below.refl w.heap.size w) nq
  have k0 := (hb1.cell (World.block_lt_of_cell? _ _ k0)).trans k0
  obtain ⟨w1, hw1⟩ : ∃ w', w.drewN nq = w' := ⟨_, rfl⟩
  rw [hw1] at hb1 k0 ⊢
  clear hw1
  go_wp2_with fail
  go_quiet ((first | (go_at_call 68; exact Calls.quiet_of_same (flipW (gold_Mul cc t _ (by omega) (by omega) (by omega) (by omega)))) | (go_at_call 80; exact Calls.quiet_of_same (flipW (gold_Add a (cc * t % 18446744069414584321) _ (by omega) (by omega) (by omega) (by omega))))))
  obtain ⟨v, hv⟩ : ∃ v, (a + cc * t % 18446744069414584321) % 18446744069414584321 = v := ⟨_, rfl⟩
  rw [hv]
  have bd_v : 0 ≤ v ∧ v < 18446744069414584321 := by omega
  have Ev : Hid (Eqm v (a + cc * t % 18446744069414584321)) := by unfold Hid; rw [← hv]; exact Eqm.mod _
  obtain ⟨lv, rv⟩ := bd_v
  clear hv
  have hb2 := below_drewN (Below.refl w1.heap.size w1) nq
  have k0 := (hb2.cell (World.block_lt_of_cell? _ _ k0)).trans k0
  obtain ⟨w2, hw2⟩ : ∃ w', w1.drewN nq = w' := ⟨_, rfl⟩
  rw [hw2] at hb2 k0 ⊢
  clear hw2
  go_wp2_with fail
  refine (gold_Mul ss d _ (by omega) (by omega) (by omega) (by omega)).mono ?_; rintro e w' ⟨rfl, rfl⟩
  obtain ⟨y, hy⟩ : ∃ v, ss * d % 18446744069414584321 = v := ⟨_, rfl⟩
  rw [hy]
  have bd_y : 0 ≤ y ∧ y < 18446744069414584321 := by omega
  have Ey : Hid (Eqm y (ss * d)) := by unfold Hid; rw [← hy]; exact Eqm.mod _
  obtain ⟨ly, ry⟩ := bd_y
  clear hy
  go_wp2_with fail
  refine (gold_Add a t _ (by omega) (by omega) (by omega) (by omega)).mono ?_; rintro e w' ⟨rfl, rfl⟩
  go_wp2_with fail
  refine (gold_Add v y _ (by omega) (by omega) (by omega) (by omega)).mono ?_; rintro e w' ⟨rfl, rfl⟩
  go_wp2_with fail
  refine (gold_Sub v y _ (by omega) (by omega) (by omega) (by omega)).mono ?_; rintro e w' ⟨rfl, rfl⟩
  go_wp2_with fail
  go_ret
  refine gives_lit w w2 _ _ [(a + t) % 18446744069414584321, (v + y) % 18446744069414584321, (v - y) % 18446744069414584321] 3 _ rfl rfl ?_ (dftL_fits _ _) (by simp) (chain hb1 hb2)
  have e1 : Eqm cc ((z + z * z) * hf) := Ecc.out.trans (((rfl' z).add Ezz.out).mul (rfl' hf))
  have e2 : Eqm ss ((z - z * z) * hf) := Ess.out.trans (((rfl' z).sub Ezz.out).mul (rfl' hf))
  have e3 : Eqm v (a + (z + z * z) * hf * (b + c)) := Ev.out.trans ((rfl' a).add ((Eqm.mod _).trans (e1.mul Et.out)))
  have e4 : Eqm y ((z - z * z) * hf * (b - c)) := Ey.out.trans (e2.mul Ed.out)
  have h2 := hf2
  generalize hf = h at *
  refine three_eq a b c z u _ _ _ HR.out (by omega) (by omega) (by omega) ((Eqm.mod _).trans (((rfl' a).add Et.out).trans (by rw [Int.add_assoc]; exact rfl' _))) ((Eqm.mod _).trans ((e3.add e4).trans (eqm_of _ _ (z * b + z * z * c) (by grind)))) ((Eqm.mod _).trans ((e3.sub e4).trans (eqm_of _ _ (z * c + z * z * b) (by grind))))
theorem litRowD (w : World) (t : TypeId) (n : Nat) (xs : List Int) (hn : n = w.heap.size) (hw : ∀ x ∈ xs, 0 ≤ x ∧ x < 18446744073709551616) (hl : xs.length ≤ 100) : Row .u64 ((w.alloc (.cells (xs.map (Value.int .u64)).toArray t)).drew) (some ⟨n, 0, none⟩) xs :=
  (litRow w t n xs hn hw hl).below ((Below.refl _ _).drew)
theorem gold_Sum3 (a b c : Int) (n : Nat) (W w : World) (t : TypeId) (hW : W = (w.alloc (.cells #[.int .u64 a, .int .u64 b, .int .u64 c] t)).drew) (hn : n = w.heap.size) (ha : 0 ≤ a ∧ a < 18446744073709551616) (hb : 0 ≤ b ∧ b < 18446744073709551616) (hc : 0 ≤ c ∧ c < 18446744073709551616) :
    Calls Tryz.prog 89 #[.slice (some ⟨n, 0, none⟩) 3 3] W fun e w' => e = .returned (.int .u64 (sumP [a, b, c])) ∧ W = w' := by
  subst hW
  refine gold_Sum (some ⟨n, 0, none⟩) 3 [a, b, c] _ (litRowD w t n [a, b, c] hn (fun x hx => ?_) (by simp))
  simp only [List.mem_cons, List.not_mem_nil, or_false] at hx
  rcases hx with rfl | rfl | rfl
  · exact ha
  · exact hb
  · exact hc
theorem gold_Sum3' (a b c : Int) (n : Nat) (W w : World) (t : TypeId) (hW : W = w.alloc (.cells #[.int .u64 a, .int .u64 b, .int .u64 c] t)) (hn : n = w.heap.size) (ha : 0 ≤ a ∧ a < 18446744073709551616) (hb : 0 ≤ b ∧ b < 18446744073709551616) (hc : 0 ≤ c ∧ c < 18446744073709551616) :
    Calls Tryz.prog 89 #[.slice (some ⟨n, 0, none⟩) 3 3] W fun e w' => e = .returned (.int .u64 (sumP [a, b, c])) ∧ W = w' := by
  subst hW
  refine gold_Sum (some ⟨n, 0, none⟩) 3 [a, b, c] _ (litRow w t n [a, b, c] hn (fun x hx => ?_) (by simp))
  simp only [List.mem_cons, List.not_mem_nil, or_false] at hx
  rcases hx with rfl | rfl | rfl
  · exact ha
  · exact hb
  · exact hc
theorem gives_litg (w : World) (g : Nat) (W : World) (t : TypeId) (xs ys : List Int) (n : Nat) (cs : Array Value) (hg : g = W.heap.size) (hc : cs = (ys.map (Value.int .u64)).toArray) (hn : n = ys.length) (h : ys = xs) (hf : ∀ x ∈ xs, fits .u64 x) (hl : ys.length ≤ 100) (hb : Below w.heap.size w W) :
    GivesOwn .u64 t xs w (.returned (.slice (some ⟨g, 0, none⟩) n n)) (W.alloc (.cells cs t)) := by
  subst hg
  exact gives_lit w W t xs ys n cs hc hn h hf hl hb
theorem sumP3 (a b c : Int) : Eqm (sumP [a, b, c]) (a + b + c) := by
  show Eqm ((((0 + a) % 18446744069414584321 + b) % 18446744069414584321 + c) % 18446744069414584321) (a + b + c)
  unfold Eqm; omega
set_option maxHeartbeats 1000000 in
theorem small_four (ad : Option Addr) (cap : Nat) (a b c d z u : Int) (w : World) (hx : Row .u64 w ad [a, b, c, d]) (hr : IsRoot z u 4) (hz0 : 0 ≤ z) (hz1 : z < 18446744069414584321) :
    Calls Tryz.prog 119 #[.slice ad 4 cap, .int .u64 z] w (GivesOwn .u64 38 (dftL [a, b, c, d] z) w) := by
  obtain ⟨bk, o, rfl, hc⟩ := hx.at (by simp)
  have k0 : w.cell? ⟨bk, o + 0, none⟩ = some (.int .u64 a) := hc 0 (by simp)
  obtain ⟨p0, q0⟩ := fits_u64.1 (hx.wf a (by simp))
  have k1 : w.cell? ⟨bk, o + 1, none⟩ = some (.int .u64 b) := hc 1 (by simp)
  obtain ⟨p1, q1⟩ := fits_u64.1 (hx.wf b (by simp))
  have k2 : w.cell? ⟨bk, o + 2, none⟩ = some (.int .u64 c) := hc 2 (by simp)
  obtain ⟨p2, q2⟩ := fits_u64.1 (hx.wf c (by simp))
  have k3 : w.cell? ⟨bk, o + 3, none⟩ = some (.int .u64 d) := hc 3 (by simp)
  obtain ⟨p3, q3⟩ := fits_u64.1 (hx.wf d (by simp))
  rw [Nat.add_zero] at k0
  have HR := Lib.hid hr
  clear hc hx hr
  go_enter Tryz.func119, Tryz.ntmps119
  go_wp2_with fail
  go_quiet ((go_at_call 130; exact Calls.quiet_of_same (flipW (small_both a c _ (by omega) (by omega) (by omega) (by omega)))))
  obtain ⟨s, hs⟩ : ∃ v, (a + c) % 18446744069414584321 = v := ⟨_, rfl⟩
  rw [hs]
  have bd_s : 0 ≤ s ∧ s < 18446744069414584321 := by omega
  have Es : Hid (Eqm s (a + c)) := by unfold Hid; rw [← hs]; exact Eqm.mod _
  obtain ⟨ls, rs⟩ := bd_s
  clear hs
  obtain ⟨t, ht⟩ : ∃ v, (a - c) % 18446744069414584321 = v := ⟨_, rfl⟩
  rw [ht]
  have bd_t : 0 ≤ t ∧ t < 18446744069414584321 := by omega
  have Et : Hid (Eqm t (a - c)) := by unfold Hid; rw [← ht]; exact Eqm.mod _
  obtain ⟨lt, rt⟩ := bd_t
  clear ht
  have hb1 := below_drewN (Below.refl w.heap.size w) nq
  have k1 := (hb1.cell (World.block_lt_of_cell? _ _ k1)).trans k1
  have k3 := (hb1.cell (World.block_lt_of_cell? _ _ k3)).trans k3
  obtain ⟨w1, hw1⟩ : ∃ w', w.drewN nq = w' := ⟨_, rfl⟩
  rw [hw1] at hb1 k1 k3 ⊢
  clear hw1
  go_wp2_with fail
  go_quiet ((go_at_call 130; exact Calls.quiet_of_same (flipW (small_both b d _ (by omega) (by omega) (by omega) (by omega)))))
  obtain ⟨p, hp⟩ : ∃ v, (b + d) % 18446744069414584321 = v := ⟨_, rfl⟩
  rw [hp]
  have bd_p : 0 ≤ p ∧ p < 18446744069414584321 := by omega
  have Ep : Hid (Eqm p (b + d)) := by unfold Hid; rw [← hp]; exact Eqm.mod _
  obtain ⟨lp, rp⟩ := bd_p
  clear hp
  obtain ⟨q, hq⟩ : ∃ v, (b - d) % 18446744069414584321 = v := ⟨_, rfl⟩
  rw [hq]
  have bd_q : 0 ≤ q ∧ q < 18446744069414584321 := by omega
  have Eq_ : Hid (Eqm q (b - d)) := by unfold Hid; rw [← hq]; exact Eqm.mod _
  obtain ⟨lq, rq⟩ := bd_q
  clear hq
  have hb2 := below_drewN (Below.refl w1.heap.size w1) nq
  obtain ⟨w2, hw2⟩ : ∃ w', w1.drewN nq = w' := ⟨_, rfl⟩
  rw [hw2] at hb2 ⊢
  clear hw2
  go_wp2_with fail
  refine (gold_Mul q z _ (by omega) (by omega) (by omega) (by omega)).mono ?_; rintro e w' ⟨rfl, rfl⟩
  obtain ⟨y, hy⟩ : ∃ v, q * z % 18446744069414584321 = v := ⟨_, rfl⟩
  rw [hy]
  have bd_y : 0 ≤ y ∧ y < 18446744069414584321 := by omega
  have Ey : Hid (Eqm y (q * z)) := by unfold Hid; rw [← hy]; exact Eqm.mod _
  obtain ⟨ly, ry⟩ := bd_y
  clear hy
  go_wp2_with fail
  refine (gold_Add s p _ (by omega) (by omega) (by omega) (by omega)).mono ?_; rintro e w' ⟨rfl, rfl⟩
  go_wp2_with fail
  refine (gold_Add t y _ (by omega) (by omega) (by omega) (by omega)).mono ?_; rintro e w' ⟨rfl, rfl⟩
  go_wp2_with fail
  refine (gold_Sub s p _ (by omega) (by omega) (by omega) (by omega)).mono ?_; rintro e w' ⟨rfl, rfl⟩
  go_wp2_with fail
  refine (gold_Sub t y _ (by omega) (by omega) (by omega) (by omega)).mono ?_; rintro e w' ⟨rfl, rfl⟩
  go_wp2_with fail
  go_ret
  refine gives_lit w w2 _ _ [(s + p) % 18446744069414584321, (t + y) % 18446744069414584321, (s - p) % 18446744069414584321, (t - y) % 18446744069414584321] 4 _ rfl rfl ?_ (dftL_fits _ _) (by simp) (chain hb1 hb2)
  obtain ⟨m, hm⟩ := eqm_wit (root_half HR.out 2 rfl (by omega))
  have e1 : Eqm y ((b - d) * z) := Ey.out.trans (Eq_.out.mul (rfl' z))
  refine four_eq a b c d z u _ _ _ _ HR.out (by omega) (by omega) (by omega) (by omega) ((Eqm.mod _).trans ((Es.out.add Ep.out).trans (eqm_of _ _ 0 (by grind)))) ((Eqm.mod _).trans ((Et.out.add e1).trans (eqm_of _ _ (-(m * (c + d * z))) (by grind)))) ((Eqm.mod _).trans ((Es.out.sub Ep.out).trans (eqm_of _ _ (-(m * (b + d))) (by grind)))) ((Eqm.mod _).trans ((Et.out.sub e1).trans (eqm_of _ _ (-(m * (c + b * z))) (by grind))))
set_option maxHeartbeats 1000000 in
theorem small_five (ad : Option Addr) (cap : Nat) (a b c d e z u : Int) (w : World) (hx : Row .u64 w ad [a, b, c, d, e]) (hr : IsRoot z u 5) (hz0 : 0 ≤ z) (hz1 : z < 18446744069414584321) :
    Calls Tryz.prog 120 #[.slice ad 5 cap, .int .u64 z] w (GivesOwn .u64 38 (dftL [a, b, c, d, e] z) w) := by
  obtain ⟨bk, o, rfl, hc⟩ := hx.at (by simp)
  have k0 : w.cell? ⟨bk, o + 0, none⟩ = some (.int .u64 a) := hc 0 (by simp)
  obtain ⟨p0, q0⟩ := fits_u64.1 (hx.wf a (by simp))
  have k1 : w.cell? ⟨bk, o + 1, none⟩ = some (.int .u64 b) := hc 1 (by simp)
  obtain ⟨p1, q1⟩ := fits_u64.1 (hx.wf b (by simp))
  have k2 : w.cell? ⟨bk, o + 2, none⟩ = some (.int .u64 c) := hc 2 (by simp)
  obtain ⟨p2, q2⟩ := fits_u64.1 (hx.wf c (by simp))
  have k3 : w.cell? ⟨bk, o + 3, none⟩ = some (.int .u64 d) := hc 3 (by simp)
  obtain ⟨p3, q3⟩ := fits_u64.1 (hx.wf d (by simp))
  have k4 : w.cell? ⟨bk, o + 4, none⟩ = some (.int .u64 e) := hc 4 (by simp)
  obtain ⟨p4, q4⟩ := fits_u64.1 (hx.wf e (by simp))
  rw [Nat.add_zero] at k0
  have HR := Lib.hid hr
  clear hc hx hr
  go_enter Tryz.func120, Tryz.ntmps120
  go_wp2_with fail
  refine (gold_Mul z z _ (by omega) (by omega) (by omega) (by omega)).mono ?_; rintro en w' ⟨rfl, rfl⟩
  obtain ⟨zz, hzz⟩ : ∃ v, z * z % 18446744069414584321 = v := ⟨_, rfl⟩
  rw [hzz]
  have bd_zz : 0 ≤ zz ∧ zz < 18446744069414584321 := by omega
  have Ezz : Hid (Eqm zz (z * z)) := by unfold Hid; rw [← hzz]; exact Eqm.mod _
  obtain ⟨lzz, rzz⟩ := bd_zz
  clear hzz
  go_wp2_with fail
  refine (gold_Mul zz zz _ (by omega) (by omega) (by omega) (by omega)).mono ?_; rintro en w' ⟨rfl, rfl⟩
  obtain ⟨z4, hz4⟩ : ∃ v, zz * zz % 18446744069414584321 = v := ⟨_, rfl⟩
  rw [hz4]
  have bd_z4 : 0 ≤ z4 ∧ z4 < 18446744069414584321 := by omega
  have Ez4 : Hid (Eqm z4 (zz * zz)) := by unfold Hid; rw [← hz4]; exact Eqm.mod _
  obtain ⟨lz4, rz4⟩ := bd_z4
  clear hz4
  go_wp2_with fail
  refine (small_halves z z4 _ (by omega) (by omega) (by omega) (by omega)).mono ?_; rintro en w' ⟨rfl, rfl⟩
  obtain ⟨c1, hc1⟩ : ∃ v, (z + z4) * hf % 18446744069414584321 = v := ⟨_, rfl⟩
  rw [hc1]
  have bd_c1 : 0 ≤ c1 ∧ c1 < 18446744069414584321 := by omega
  have Ec1 : Hid (Eqm c1 ((z + z4) * hf)) := by unfold Hid; rw [← hc1]; exact Eqm.mod _
  obtain ⟨lc1, rc1⟩ := bd_c1
  clear hc1
  obtain ⟨s1, hs1⟩ : ∃ v, (z - z4) * hf % 18446744069414584321 = v := ⟨_, rfl⟩
  rw [hs1]
  have bd_s1 : 0 ≤ s1 ∧ s1 < 18446744069414584321 := by omega
  have Es1 : Hid (Eqm s1 ((z - z4) * hf)) := by unfold Hid; rw [← hs1]; exact Eqm.mod _
  obtain ⟨ls1, rs1⟩ := bd_s1
  clear hs1
  go_wp2_with fail
  refine (gold_Mul zz z _ (by omega) (by omega) (by omega) (by omega)).mono ?_; rintro en w' ⟨rfl, rfl⟩
  obtain ⟨z3, hz3⟩ : ∃ v, zz * z % 18446744069414584321 = v := ⟨_, rfl⟩
  rw [hz3]
  have bd_z3 : 0 ≤ z3 ∧ z3 < 18446744069414584321 := by omega
  have Ez3 : Hid (Eqm z3 (zz * z)) := by unfold Hid; rw [← hz3]; exact Eqm.mod _
  obtain ⟨lz3, rz3⟩ := bd_z3
  clear hz3
  go_wp2_with fail
  refine (small_halves zz z3 _ (by omega) (by omega) (by omega) (by omega)).mono ?_; rintro en w' ⟨rfl, rfl⟩
  obtain ⟨c2, hc2⟩ : ∃ v, (zz + z3) * hf % 18446744069414584321 = v := ⟨_, rfl⟩
  rw [hc2]
  have bd_c2 : 0 ≤ c2 ∧ c2 < 18446744069414584321 := by omega
  have Ec2 : Hid (Eqm c2 ((zz + z3) * hf)) := by unfold Hid; rw [← hc2]; exact Eqm.mod _
  obtain ⟨lc2, rc2⟩ := bd_c2
  clear hc2
  obtain ⟨s2, hs2⟩ : ∃ v, (zz - z3) * hf % 18446744069414584321 = v := ⟨_, rfl⟩
  rw [hs2]
  have bd_s2 : 0 ≤ s2 ∧ s2 < 18446744069414584321 := by omega
  have Es2 : Hid (Eqm s2 ((zz - z3) * hf)) := by unfold Hid; rw [← hs2]; exact Eqm.mod _
  obtain ⟨ls2, rs2⟩ := bd_s2
  clear hs2
  go_wp2_with fail
  go_quiet ((go_at_call 130; exact Calls.quiet_of_same (flipW (small_both b e _ (by omega) (by omega) (by omega) (by omega)))))
  obtain ⟨t1, ht1⟩ : ∃ v, (b + e) % 18446744069414584321 = v := ⟨_, rfl⟩
  rw [ht1]
  have bd_t1 : 0 ≤ t1 ∧ t1 < 18446744069414584321 := by omega
  have Et1 : Hid (Eqm t1 (b + e)) := by unfold Hid; rw [← ht1]; exact Eqm.mod _
  obtain ⟨lt1, rt1⟩ := bd_t1
  clear ht1
  obtain ⟨d1, hd1⟩ : ∃ v, (b - e) % 18446744069414584321 = v := ⟨_, rfl⟩
  rw [hd1]
  have bd_d1 : 0 ≤ d1 ∧ d1 < 18446744069414584321 := by omega
  have Ed1 : Hid (Eqm d1 (b - e)) := by unfold Hid; rw [← hd1]; exact Eqm.mod _
  obtain ⟨ld1, rd1⟩ := bd_d1
  clear hd1
  have hb1 := below_drewN (Below.refl w.heap.size w) nq
  have k0 := (hb1.cell (World.block_lt_of_cell? _ _ k0)).trans k0
  have k2 := (hb1.cell (World.block_lt_of_cell? _ _ k2)).trans k2
  have k3 := (hb1.cell (World.block_lt_of_cell? _ _ k3)).trans k3
  obtain ⟨w1, hw1⟩ : ∃ w', w.drewN nq = w' := ⟨_, rfl⟩
  rw [hw1] at hb1 k0 k2 k3 ⊢
  clear hw1
  go_wp2_with fail
  go_quiet ((go_at_call 130; exact Calls.quiet_of_same (flipW (small_both c d _ (by omega) (by omega) (by omega) (by omega)))))
  obtain ⟨t2, ht2⟩ : ∃ v, (c + d) % 18446744069414584321 = v := ⟨_, rfl⟩
  rw [ht2]
  have bd_t2 : 0 ≤ t2 ∧ t2 < 18446744069414584321 := by omega
  have Et2 : Hid (Eqm t2 (c + d)) := by unfold Hid; rw [← ht2]; exact Eqm.mod _
  obtain ⟨lt2, rt2⟩ := bd_t2
  clear ht2
  obtain ⟨d2, hd2⟩ : ∃ v, (c - d) % 18446744069414584321 = v := ⟨_, rfl⟩
  rw [hd2]
  have bd_d2 : 0 ≤ d2 ∧ d2 < 18446744069414584321 := by omega
  have Ed2 : Hid (Eqm d2 (c - d)) := by unfold Hid; rw [← hd2]; exact Eqm.mod _
  obtain ⟨ld2, rd2⟩ := bd_d2
  clear hd2
  have hb2 := below_drewN (Below.refl w1.heap.size w1) nq
  have k0 := (hb2.cell (World.block_lt_of_cell? _ _ k0)).trans k0
  obtain ⟨w2, hw2⟩ : ∃ w', w1.drewN nq = w' := ⟨_, rfl⟩
  rw [hw2] at hb2 k0 ⊢
  clear hw2
  go_wp2_with fail
  go_region_held3 (fun w' => w'.cell? ⟨bk, o, none⟩ = some (.int .u64 a)) (go_keep) ((first | (go_at_call 68; refine (gold_Mul _ _ _ (by omega) (by omega) (by omega) (by omega)).mono ?_; rintro en w' ⟨rfl, rfl⟩) | (go_at_call 89; refine (gold_Sum3 _ _ _ _ _ w2 _ (by rfl) (by simp) ⟨p0, q0⟩ (by omega) (by omega)).mono ?_; rintro en w' ⟨rfl, rfl⟩)))
  have hb3 : Below w2.heap.size w2 ((w2.alloc (.cells #[.int .u64 a, .int .u64 (c1 * t1 % 18446744069414584321), .int .u64 (c2 * t2 % 18446744069414584321)] 38)).drew) := ((Below.refl _ _).alloc (Nat.le_refl _) _).drew
  have k0 := (hb3.cell (World.block_lt_of_cell? _ _ k0)).trans k0
  obtain ⟨w3, hw3⟩ : ∃ w', (w2.alloc (.cells #[.int .u64 a, .int .u64 (c1 * t1 % 18446744069414584321), .int .u64 (c2 * t2 % 18446744069414584321)] 38)).drew = w' := ⟨_, rfl⟩
  rw [hw3] at hb3 k0 ⊢
  clear hw3
  obtain ⟨va, hva⟩ : ∃ v, sumP [a, c1 * t1 % 18446744069414584321, c2 * t2 % 18446744069414584321] = v := ⟨_, rfl⟩
  rw [hva]
  have bd_va := sumP_range [a, c1 * t1 % 18446744069414584321, c2 * t2 % 18446744069414584321]
  rw [hva] at bd_va
  have Eva : Hid (Eqm va (a + c1 * t1 % 18446744069414584321 + c2 * t2 % 18446744069414584321)) := by unfold Hid; rw [← hva]; exact sumP3 _ _ _
  obtain ⟨lva, rva⟩ := bd_va
  clear hva
  go_wp2_with fail
  go_region_held3 (fun w' => w'.cell? ⟨bk, o, none⟩ = some (.int .u64 a)) (go_keep) ((first | (go_at_call 68; refine (gold_Mul _ _ _ (by omega) (by omega) (by omega) (by omega)).mono ?_; rintro en w' ⟨rfl, rfl⟩) | (go_at_call 89; refine (gold_Sum3 _ _ _ _ _ w3 _ (by rfl) (by simp) ⟨p0, q0⟩ (by omega) (by omega)).mono ?_; rintro en w' ⟨rfl, rfl⟩)))
  have hb4 : Below w3.heap.size w3 ((w3.alloc (.cells #[.int .u64 a, .int .u64 (c2 * t1 % 18446744069414584321), .int .u64 (c1 * t2 % 18446744069414584321)] 38)).drew) := ((Below.refl _ _).alloc (Nat.le_refl _) _).drew
  have k0 := (hb4.cell (World.block_lt_of_cell? _ _ k0)).trans k0
  obtain ⟨w4, hw4⟩ : ∃ w', (w3.alloc (.cells #[.int .u64 a, .int .u64 (c2 * t1 % 18446744069414584321), .int .u64 (c1 * t2 % 18446744069414584321)] 38)).drew = w' := ⟨_, rfl⟩
  rw [hw4] at hb4 k0 ⊢
  clear hw4
  obtain ⟨vb, hvb⟩ : ∃ v, sumP [a, c2 * t1 % 18446744069414584321, c1 * t2 % 18446744069414584321] = v := ⟨_, rfl⟩
  rw [hvb]
  have bd_vb := sumP_range [a, c2 * t1 % 18446744069414584321, c1 * t2 % 18446744069414584321]
  rw [hvb] at bd_vb
  have Evb : Hid (Eqm vb (a + c2 * t1 % 18446744069414584321 + c1 * t2 % 18446744069414584321)) := by unfold Hid; rw [← hvb]; exact sumP3 _ _ _
  obtain ⟨lvb, rvb⟩ := bd_vb
  clear hvb
  go_wp2_with fail
  refine (gold_Mul s1 d1 _ (by omega) (by omega) (by omega) (by omega)).mono ?_; rintro en w' ⟨rfl, rfl⟩
  obtain ⟨m1, hm1⟩ : ∃ v, s1 * d1 % 18446744069414584321 = v := ⟨_, rfl⟩
  rw [hm1]
  have bd_m1 : 0 ≤ m1 ∧ m1 < 18446744069414584321 := by omega
  have Em1 : Hid (Eqm m1 (s1 * d1)) := by unfold Hid; rw [← hm1]; exact Eqm.mod _
  obtain ⟨lm1, rm1⟩ := bd_m1
  clear hm1
  go_wp2_with fail
  refine (gold_Mul s2 d2 _ (by omega) (by omega) (by omega) (by omega)).mono ?_; rintro en w' ⟨rfl, rfl⟩
  obtain ⟨m2, hm2⟩ : ∃ v, s2 * d2 % 18446744069414584321 = v := ⟨_, rfl⟩
  rw [hm2]
  have bd_m2 : 0 ≤ m2 ∧ m2 < 18446744069414584321 := by omega
  have Em2 : Hid (Eqm m2 (s2 * d2)) := by unfold Hid; rw [← hm2]; exact Eqm.mod _
  obtain ⟨lm2, rm2⟩ := bd_m2
  clear hm2
  go_wp2_with fail
  refine (gold_Add m1 m2 _ (by omega) (by omega) (by omega) (by omega)).mono ?_; rintro en w' ⟨rfl, rfl⟩
  obtain ⟨vc, hvc⟩ : ∃ v, (m1 + m2) % 18446744069414584321 = v := ⟨_, rfl⟩
  rw [hvc]
  have bd_vc : 0 ≤ vc ∧ vc < 18446744069414584321 := by omega
  have Evc : Hid (Eqm vc (m1 + m2)) := by unfold Hid; rw [← hvc]; exact Eqm.mod _
  obtain ⟨lvc, rvc⟩ := bd_vc
  clear hvc
  go_wp2_with fail
  refine (gold_Mul s2 d1 _ (by omega) (by omega) (by omega) (by omega)).mono ?_; rintro en w' ⟨rfl, rfl⟩
  obtain ⟨m3, hm3⟩ : ∃ v, s2 * d1 % 18446744069414584321 = v := ⟨_, rfl⟩
  rw [hm3]
  have bd_m3 : 0 ≤ m3 ∧ m3 < 18446744069414584321 := by omega
  have Em3 : Hid (Eqm m3 (s2 * d1)) := by unfold Hid; rw [← hm3]; exact Eqm.mod _
  obtain ⟨lm3, rm3⟩ := bd_m3
  clear hm3
  go_wp2_with fail
  refine (gold_Mul s1 d2 _ (by omega) (by omega) (by omega) (by omega)).mono ?_; rintro en w' ⟨rfl, rfl⟩
  obtain ⟨m4, hm4⟩ : ∃ v, s1 * d2 % 18446744069414584321 = v := ⟨_, rfl⟩
  rw [hm4]
  have bd_m4 : 0 ≤ m4 ∧ m4 < 18446744069414584321 := by omega
  have Em4 : Hid (Eqm m4 (s1 * d2)) := by unfold Hid; rw [← hm4]; exact Eqm.mod _
  obtain ⟨lm4, rm4⟩ := bd_m4
  clear hm4
  go_wp2_with fail
  refine (gold_Sub m3 m4 _ (by omega) (by omega) (by omega) (by omega)).mono ?_; rintro en w' ⟨rfl, rfl⟩
  obtain ⟨vd, hvd⟩ : ∃ v, (m3 - m4) % 18446744069414584321 = v := ⟨_, rfl⟩
  rw [hvd]
  have bd_vd : 0 ≤ vd ∧ vd < 18446744069414584321 := by omega
  have Evd : Hid (Eqm vd (m3 - m4)) := by unfold Hid; rw [← hvd]; exact Eqm.mod _
  obtain ⟨lvd, rvd⟩ := bd_vd
  clear hvd
  go_wp2_with fail
  refine (gold_Sum3' a t1 t2 _ _ w4 _ rfl rfl ⟨p0, q0⟩ (by omega) (by omega)).mono ?_; rintro en w' ⟨rfl, rfl⟩
  obtain ⟨v0, hv0⟩ : ∃ v, sumP [a, t1, t2] = v := ⟨_, rfl⟩
  rw [hv0]
  have bd_v0 := sumP_range [a, t1, t2]
  rw [hv0] at bd_v0
  have Ev0 : Hid (Eqm v0 (a + t1 + t2)) := by unfold Hid; rw [← hv0]; exact sumP3 _ _ _
  obtain ⟨lv0, rv0⟩ := bd_v0
  clear hv0
  go_wp2_with fail
  refine (gold_Add va vc _ (by omega) (by omega) (by omega) (by omega)).mono ?_; rintro en w' ⟨rfl, rfl⟩
  go_wp2_with fail
  refine (gold_Add vb vd _ (by omega) (by omega) (by omega) (by omega)).mono ?_; rintro en w' ⟨rfl, rfl⟩
  go_wp2_with fail
  refine (gold_Sub vb vd _ (by omega) (by omega) (by omega) (by omega)).mono ?_; rintro en w' ⟨rfl, rfl⟩
  go_wp2_with fail
  refine (gold_Sub va vc _ (by omega) (by omega) (by omega) (by omega)).mono ?_; rintro en w' ⟨rfl, rfl⟩
  go_wp2_with fail
  go_ret
  refine gives_litg w (w4.heap.size + 1) (w4.alloc (.cells #[.int .u64 a, .int .u64 t1, .int .u64 t2] 38)) _ _ [v0, (va + vc) % 18446744069414584321, (vb + vd) % 18446744069414584321, (vb - vd) % 18446744069414584321, (va - vc) % 18446744069414584321] 5 _ (by simp) rfl rfl ?_ (dftL_fits _ _) (by simp) ((chain (chain (chain hb1 hb2) hb3) hb4).alloc (chain (chain (chain hb1 hb2) hb3) hb4).size _)
  have e4 : Eqm z4 (z * z * (z * z)) := Ez4.out.trans (Ezz.out.mul Ezz.out)
  have e3 : Eqm z3 (z * z * z) := Ez3.out.trans (Ezz.out.mul (rfl' z))
  have ec1 : Eqm c1 ((z + z * z * (z * z)) * hf) := Ec1.out.trans (((rfl' z).add e4).mul (rfl' hf))
  have es1 : Eqm s1 ((z - z * z * (z * z)) * hf) := Es1.out.trans (((rfl' z).sub e4).mul (rfl' hf))
  have ec2 : Eqm c2 ((z * z + z * z * z) * hf) := Ec2.out.trans ((Ezz.out.add e3).mul (rfl' hf))
  have es2 : Eqm s2 ((z * z - z * z * z) * hf) := Es2.out.trans ((Ezz.out.sub e3).mul (rfl' hf))
  have ea : Eqm va (a + (z + z * z * (z * z)) * hf * (b + e) + (z * z + z * z * z) * hf * (c + d)) := Eva.out.trans (((rfl' a).add ((Eqm.mod _).trans (ec1.mul Et1.out))).add ((Eqm.mod _).trans (ec2.mul Et2.out)))
  have eb : Eqm vb (a + (z * z + z * z * z) * hf * (b + e) + (z + z * z * (z * z)) * hf * (c + d)) := Evb.out.trans (((rfl' a).add ((Eqm.mod _).trans (ec2.mul Et1.out))).add ((Eqm.mod _).trans (ec1.mul Et2.out)))
  have ecc : Eqm vc ((z - z * z * (z * z)) * hf * (b - e) + (z * z - z * z * z) * hf * (c - d)) := Evc.out.trans ((Em1.out.trans (es1.mul Ed1.out)).add (Em2.out.trans (es2.mul Ed2.out)))
  have ed : Eqm vd ((z * z - z * z * z) * hf * (b - e) - (z - z * z * (z * z)) * hf * (c - d)) := Evd.out.trans ((Em3.out.trans (es2.mul Ed1.out)).sub (Em4.out.trans (es1.mul Ed2.out)))
  have h2 := hf2
  generalize hf = h at *
  refine five_eq a b c d e z u _ _ _ _ _ HR.out ⟨lv0, rv0⟩ (by omega) (by omega) (by omega) (by omega) (Ev0.out.trans ((((rfl' a).add Et1.out).add Et2.out).trans (eqm_of _ _ 0 (by grind)))) ((Eqm.mod _).trans ((ea.add ecc).trans (eqm_of _ _ (z * b + z ^ 2 * c + z ^ 3 * d + z ^ 4 * e) (by grind)))) ((Eqm.mod _).trans ((eb.add ed).trans (eqm_of _ _ (z ^ 2 * b + z ^ 4 * c + z * d + z ^ 3 * e) (by grind)))) ((Eqm.mod _).trans ((eb.sub ed).trans (eqm_of _ _ (z ^ 3 * b + z * c + z ^ 4 * d + z ^ 2 * e) (by grind)))) ((Eqm.mod _).trans ((ea.sub ecc).trans (eqm_of _ _ (z ^ 4 * b + z ^ 3 * c + z ^ 2 * d + z * e) (by grind))))
end Go.Proofs.YtcckfeikaolfgaaGreat

namespace Go.Proofs.YtcckfeikaolfgaaGreat
open Go.RowKit Sm
set_option linter.unusedVariables false
set_option linter.unusedSimpArgs false
set_option maxRecDepth 100000
set_option maxHeartbeats 1000000 in
theorem small_done2 (ad : Option Addr) (cap : Nat) (a b z u : Int) (w : World) (hx : Row .u64 w ad [a, b]) (hr : IsRoot z u 2) (hz0 : 0 ≤ z) (hz1 : z < 18446744069414584321) :
    Calls Tryz.prog 101 #[.slice ad 2 cap, .int .u64 z] w (GivesOwn .u64 38 (dftL [a, b] z) w) := by
  have HT := Lib.hid (small_two ad cap a b z u w hx hr)
  have HL := Lib.hid (dftL_len [a, b] z)
  clear hx hr
  go_enter Tryz.func101, Tryz.ntmps101
  go_wp2_with fail
  refine wp_scope_jumps 0 (fun a' w' => ∃ v u2 u3 u6 u7 u8 u9 u10 u11 u12 u13 u14 u15 u16 u17 u18 u19 u20 u21 u22 u23 u24 u25 u26 u27 u28 u29, a' = { tmps := #[.slice ad 2 cap, .int .u64 z, u2, u3, .slice none 0 0, v, u6, u7, u8, u9, u10, u11, u12, u13, u14, u15, u16, u17, u18, u19, u20, u21, u22, u23, u24, u25, u26, u27, u28, u29], defers := [] } ∧ GivesOwn .u64 38 (dftL [a, b] z) w (.returned v) w') (fun _ _ => 0) rfl ?_ ?_
  · go_wp2_with fail
    refine HT.out.mono ?_; rintro en w' ⟨a2, cap2, rfl, hrow, hca, hcl, hb⟩
    go_wp2_with fail
    go_step3
    exact ⟨rfl, _, _, _, _, _, _, _, _, _, _, _, _, _, _, _, _, _, _, _, _, _, _, _, _, _, _, _, rfl, a2, cap2, rfl, hrow, hca, hcl, hb⟩
  · rintro a' w' ⟨v, u2, u3, u6, u7, u8, u9, u10, u11, u12, u13, u14, u15, u16, u17, u18, u19, u20, u21, u22, u23, u24, u25, u26, u27, u28, u29, rfl, hg⟩
    go_wp2_with fail
    simp only [Exit.jump]
    go_ret
    exact hg
set_option maxHeartbeats 1000000 in
theorem small_done3 (ad : Option Addr) (cap : Nat) (a b c z u : Int) (w : World) (hx : Row .u64 w ad [a, b, c]) (hr : IsRoot z u 3) (hz0 : 0 ≤ z) (hz1 : z < 18446744069414584321) :
    Calls Tryz.prog 101 #[.slice ad 3 cap, .int .u64 z] w (GivesOwn .u64 38 (dftL [a, b, c] z) w) := by
  have HT := Lib.hid (small_three ad cap a b c z u w hx hr hz0 hz1)
  have HL := Lib.hid (dftL_len [a, b, c] z)
  clear hx hr
  go_enter Tryz.func101, Tryz.ntmps101
  go_wp2_with fail
  refine wp_scope_jumps 0 (fun a' w' => ∃ v u2 u3 u6 u7 u8 u9 u10 u11 u12 u13 u14 u15 u16 u17 u18 u19 u20 u21 u22 u23 u24 u25 u26 u27 u28 u29, a' = { tmps := #[.slice ad 3 cap, .int .u64 z, u2, u3, .slice none 0 0, v, u6, u7, u8, u9, u10, u11, u12, u13, u14, u15, u16, u17, u18, u19, u20, u21, u22, u23, u24, u25, u26, u27, u28, u29], defers := [] } ∧ GivesOwn .u64 38 (dftL [a, b, c] z) w (.returned v) w') (fun _ _ => 0) rfl ?_ ?_
  · go_wp2_with fail
    refine HT.out.mono ?_; rintro en w' ⟨a2, cap2, rfl, hrow, hca, hcl, hb⟩
    go_wp2_with fail
    go_step3
    exact ⟨rfl, _, _, _, _, _, _, _, _, _, _, _, _, _, _, _, _, _, _, _, _, _, _, _, _, _, _, _, rfl, a2, cap2, rfl, hrow, hca, hcl, hb⟩
  · rintro a' w' ⟨v, u2, u3, u6, u7, u8, u9, u10, u11, u12, u13, u14, u15, u16, u17, u18, u19, u20, u21, u22, u23, u24, u25, u26, u27, u28, u29, rfl, hg⟩
    go_wp2_with fail
    simp only [Exit.jump]
    go_ret
    exact hg
set_option maxHeartbeats 1000000 in
theorem small_done4 (ad : Option Addr) (cap : Nat) (a b c d z u : Int) (w : World) (hx : Row .u64 w ad [a, b, c, d]) (hr : IsRoot z u 4) (hz0 : 0 ≤ z) (hz1 : z < 18446744069414584321) :
    Calls Tryz.prog 101 #[.slice ad 4 cap, .int .u64 z] w (GivesOwn .u64 38 (dftL [a, b, c, d] z) w) := by
  have HT := Lib.hid (small_four ad cap a b c d z u w hx hr hz0 hz1)
  have HL := Lib.hid (dftL_len [a, b, c, d] z)
  clear hx hr
  go_enter Tryz.func101, Tryz.ntmps101
  go_wp2_with fail
  refine wp_scope_jumps 0 (fun a' w' => ∃ v u2 u3 u6 u7 u8 u9 u10 u11 u12 u13 u14 u15 u16 u17 u18 u19 u20 u21 u22 u23 u24 u25 u26 u27 u28 u29, a' = { tmps := #[.slice ad 4 cap, .int .u64 z, u2, u3, .slice none 0 0, v, u6, u7, u8, u9, u10, u11, u12, u13, u14, u15, u16, u17, u18, u19, u20, u21, u22, u23, u24, u25, u26, u27, u28, u29], defers := [] } ∧ GivesOwn .u64 38 (dftL [a, b, c, d] z) w (.returned v) w') (fun _ _ => 0) rfl ?_ ?_
  · go_wp2_with fail
    refine HT.out.mono ?_; rintro en w' ⟨a2, cap2, rfl, hrow, hca, hcl, hb⟩
    go_wp2_with fail
    go_step3
    exact ⟨rfl, _, _, _, _, _, _, _, _, _, _, _, _, _, _, _, _, _, _, _, _, _, _, _, _, _, _, _, rfl, a2, cap2, rfl, hrow, hca, hcl, hb⟩
  · rintro a' w' ⟨v, u2, u3, u6, u7, u8, u9, u10, u11, u12, u13, u14, u15, u16, u17, u18, u19, u20, u21, u22, u23, u24, u25, u26, u27, u28, u29, rfl, hg⟩
    go_wp2_with fail
    simp only [Exit.jump]
    go_ret
    exact hg
set_option maxHeartbeats 1000000 in
theorem small_done5 (ad : Option Addr) (cap : Nat) (a b c d e z u : Int) (w : World) (hx : Row .u64 w ad [a, b, c, d, e]) (hr : IsRoot z u 5) (hz0 : 0 ≤ z) (hz1 : z < 18446744069414584321) :
    Calls Tryz.prog 101 #[.slice ad 5 cap, .int .u64 z] w (GivesOwn .u64 38 (dftL [a, b, c, d, e] z) w) := by
  have HT := Lib.hid (small_five ad cap a b c d e z u w hx hr hz0 hz1)
  have HL := Lib.hid (dftL_len [a, b, c, d, e] z)
  clear hx hr
  go_enter Tryz.func101, Tryz.ntmps101
  go_wp2_with fail
  refine wp_scope_jumps 0 (fun a' w' => ∃ v u2 u3 u6 u7 u8 u9 u10 u11 u12 u13 u14 u15 u16 u17 u18 u19 u20 u21 u22 u23 u24 u25 u26 u27 u28 u29, a' = { tmps := #[.slice ad 5 cap, .int .u64 z, u2, u3, .slice none 0 0, v, u6, u7, u8, u9, u10, u11, u12, u13, u14, u15, u16, u17, u18, u19, u20, u21, u22, u23, u24, u25, u26, u27, u28, u29], defers := [] } ∧ GivesOwn .u64 38 (dftL [a, b, c, d, e] z) w (.returned v) w') (fun _ _ => 0) rfl ?_ ?_
  · go_wp2_with fail
    refine HT.out.mono ?_; rintro en w' ⟨a2, cap2, rfl, hrow, hca, hcl, hb⟩
    go_wp2_with fail
    go_step3
    exact ⟨rfl, _, _, _, _, _, _, _, _, _, _, _, _, _, _, _, _, _, _, _, _, _, _, _, _, _, _, _, rfl, a2, cap2, rfl, hrow, hca, hcl, hb⟩
  · rintro a' w' ⟨v, u2, u3, u6, u7, u8, u9, u10, u11, u12, u13, u14, u15, u16, u17, u18, u19, u20, u21, u22, u23, u24, u25, u26, u27, u28, u29, rfl, hg⟩
    go_wp2_with fail
    simp only [Exit.jump]
    go_ret
    exact hg
set_option maxHeartbeats 1000000 in
theorem small_done1 (ad : Option Addr) (cap : Nat) (a z u : Int) (w : World) (hx : Row .u64 w ad [a]) (hr : IsRoot z u 1) :
    Calls Tryz.prog 101 #[.slice ad 1 cap, .int .u64 z] w (GivesOwn .u64 38 (dftL [a] z) w) := by
  have HT := Lib.hid (vec_RedO ad cap [a] w hx (by simp))
  have HL := Lib.hid (one_eq [a] z u hr rfl)
  clear hx hr
  go_enter Tryz.func101, Tryz.ntmps101
  go_wp2_with fail
  refine wp_scope_jumps 0 (fun a' w' => False) (fun _ _ => 0) rfl ?_ ?_
  · go_wp2_with fail
    refine HT.out.mono ?_
    rw [HL.out]
    rintro en w' ⟨a2, cap2, rfl, hrow, hca, hcl, hb⟩
    go_wp2_with fail
    go_step3
    go_wp2_with fail
    simp only [Exit.jump]
    go_ret
    exact ⟨a2, cap2, rfl, hrow, hca, hcl, hb⟩
  · rintro a' w' h
    exact h.elim
theorem small_doneO (ad : Option Addr) (cap n : Nat) (xs : List Int) (z u : Int) (w : World) (hx : Row .u64 w ad xs) (hn : n = xs.length) (h1 : 1 ≤ n) (h5 : n ≤ 5) (hr : IsRoot z u n) (hz0 : 0 ≤ z) (hz1 : z < 18446744069414584321) :
    Calls Tryz.prog 101 #[.slice ad n cap, .int .u64 z] w (GivesOwn .u64 38 (dftL xs z) w) := by
  match xs, hn with
  | [], hn => simp at hn; omega
  | [a], hn => subst hn; exact small_done1 ad cap a z u w hx hr
  | [a, b], hn => subst hn; exact small_done2 ad cap a b z u w hx hr hz0 hz1
  | [a, b, c], hn => subst hn; exact small_done3 ad cap a b c z u w hx hr hz0 hz1
  | [a, b, c, d], hn => subst hn; exact small_done4 ad cap a b c d z u w hx hr hz0 hz1
  | [a, b, c, d, e], hn => subst hn; exact small_done5 ad cap a b c d e z u w hx hr hz0 hz1
  | a :: b :: c :: d :: e :: f :: t, hn => simp at hn; omega
end Go.Proofs.YtcckfeikaolfgaaGreat

namespace Go.Proofs.YtcckfeikaolfgaaGreat
open Go.RowKit Sm
set_option linter.unusedVariables false
set_option linter.unusedSimpArgs false
set_option maxRecDepth 100000
theorem few_size (n : Nat) (h1 : 1 ≤ n) (h5 : n ≤ 5) : hasSz (n : Int) = true := by
  have : n = 1 ∨ n = 2 ∨ n = 3 ∨ n = 4 ∨ n = 5 := by omega
  rcases this with rfl | rfl | rfl | rfl | rfl <;> exact hasSz_iff.2 (by decide)
theorem small_way (n : Nat) (d : Int) (w : World) (hs : hasSz n = true) (hd : d = 0 ∨ d = 1) :
    Calls Tryz.prog 102 #[.int .i64 n, .int .i64 d] w fun e w' => e = .returned (.int .u64 (dirRt n d)) ∧ w = w' := by
  have HS := Lib.hid hs
  clear hs
  rcases hd with h1 | h1
  · subst h1
    go_enter Tryz.func102, Tryz.ntmps102
    go_wp2_with fail
    refine (rootRoot_yes n _ HS.out).mono ?_; rintro e w' ⟨rfl, rfl⟩
    go_wp2_with fail
    go_ret
    exact ⟨rfl, rfl⟩
  · subst h1
    go_enter Tryz.func102, Tryz.ntmps102
    go_wp2_with fail
    refine (rootRoot_yes n _ HS.out).mono ?_; rintro e w' ⟨rfl, rfl⟩
    go_wp2_with fail
    refine (rootBack_yes n _ HS.out).mono ?_; rintro e w' ⟨rfl, rfl⟩
    go_wp2_with fail
    go_ret
    exact ⟨rfl, rfl⟩
end Go.Proofs.YtcckfeikaolfgaaGreat

namespace Go.Proofs.YtcckfeikaolfgaaGreat
open Go.RowKit Sm
set_option linter.unusedVariables false
set_option linter.unusedSimpArgs false
set_option maxRecDepth 100000
set_option maxHeartbeats 1000000 in
theorem kernel_ok (n m : Nat) (d : Int) (w : World) (h : hasSz n = true) (hd : d = 0 ∨ d = 1) (hm : hasSz m = true) (hl : 2 * n - 1 ≤ m) :
    Calls Tryz.prog 50 #[.int .i64 n, .int .i64 m, .int .i64 d] w (GivesRowE .u64 (zeroL (rowT (dirRt n d) n (2 * n - 1)) m) 0 w) := by
  obtain ⟨i0, hi, hz0, hz1, hz2⟩ := info_parts info_u64
  have C1 : Hid (∀ w : World, Calls Tryz.prog 71 #[.int .i64 n, .int .i64 d] w fun e w' => e = .returned (.tuple #[.int .u64 (dirRt n d), .int .i64 0]) ∧ w = w') := fun w => chirp_way n d w h hd
  obtain ⟨h1, h2, _⟩ := hasSz_iff.1 h
  obtain ⟨h3, h4, _⟩ := hasSz_iff.1 hm
  obtain ⟨q, hq⟩ : ∃ q : Nat, 2 * n - 1 = q := ⟨2 * n - 1, rfl⟩
  rw [hq] at hl ⊢
  have C2 : Hid (∀ (w : World), Calls Tryz.prog 47 #[.int .i64 n, .int .i64 d, .int .i64 q] w (GivesOwnE .u64 38 (rowT (dirRt n d) n q) w)) := fun w => chirp_Row n q d w h hd (by omega)
  have hq1 : 2 * (n : Int) - 1 = q := by omega
  have hql : ¬ (m : Int) < (q : Int) := by omega
  have hxl : (rowT (dirRt n d) n q).length = q := rowT_len _ _ _
  have hxf := rowT_fits (dirRt n d) n q
  obtain ⟨xs, hxs⟩ : ∃ xs, rowT (dirRt n d) n q = xs := ⟨_, rfl⟩
  rw [hxs] at C2 hxl hxf ⊢
  obtain ⟨dd, hdd⟩ : ∃ dd : Nat, m - q = dd := ⟨m - q, rfl⟩
  have hd1 : (m : Int) - (q : Int) = dd := by omega
  have H := Lib.hid h
  have HM := Lib.hid hm
  have HXL := Lib.hid hxl
  have HXF := Lib.hid hxf
  have HDD := Lib.hid hdd
  have HZL : Hid ((zeroL xs m).length = m) := zeroL_len xs m (by omega)
  have hqd : q + dd ≤ 100000000 := by omega
  have hm1 : m ≤ 16777216 := by omega
  clear h hd hm hxl hxf hxs hq hdd
  go_enter Tryz.func50, Tryz.ntmps50
  go_wp2_with fail
  refine (C1.out _).mono ?_; rintro e w' ⟨rfl, rfl⟩
  go_wp2_with fail
  refine (rootHas_yes _ _ HM.out).mono ?_; rintro e w' ⟨rfl, rfl⟩
  go_wp2_with fail
  refine (C2.out _).mono ?_; rintro e w1 ⟨a1, cap1, rfl, ho1, hr1, hcap1, hb1⟩
  rw [HXL.out] at ho1 ⊢
  have HO := Lib.hid ho1
  have hsz := hb1.size
  clear ho1 hr1 hcap1
  go_wp2_with (at_builtin; refine wpList_append_zeros _ rfl _ _ 25 3 rfl w.heap.size 38 i0 .u64 .i64 .i64 Tryz.underlying25 Tryz.underlying3 hi hz0 hz1 hz2 _ q _ rfl HO.out dd rfl (by omega) hsz ?_)
  intro v' w2 hown' hgrow
  have hb2 : Below w.heap.size w w2 := append_below hb1 hsz HO.out hgrow
  obtain ⟨a2, cap2, rfl, hcap2⟩ := own_slice hown'
  rw [show List.replicate dd (Value.int .u64 0) = List.replicate (m - xs.length) (Value.int .u64 0) by rw [HXL.out, HDD.out], zeroL_cells, show q + dd = m by have := HDD.out; omega] at hown'
  rw [show q + dd = m by have := HDD.out; omega] at hcap2 ⊢
  have hrow := Row.of_own (a := a2) (cap := cap2) HZL.out (by omega) (zeroL_fits xs m HXF.out) hown'
  have HR := Lib.hid hrow
  clear hown' hgrow hrow
  go_wp2_with fail
  go_ret2
  exact ⟨a2, cap2, by simp [HZL.out], HR.out, by rw [HZL.out]; exact hcap2, hb2⟩
end Go.Proofs.YtcckfeikaolfgaaGreat

namespace Go.Proofs.YtcckfeikaolfgaaGreat
open Go.RowKit
set_option linter.unusedVariables false
set_option linter.unusedSimpArgs false
set_option maxRecDepth 100000
set_option maxRecDepth 20000
theorem own_int_cell {e : TypeId} {w wr : World} {g cap n : Nat} {f : Nat → Int} (h : Own .i64 e w wr (.slice (some ⟨g, 0, none⟩) n cap) n f) (i : Nat) (hi : i < n) : wr.cell? ⟨g, i, none⟩ = some (.int .i64 (f i)) :=
  (h.own.cellAt i (by omega)).trans (by simp [hi])
/-- A quiet call behind an earlier quiet region. -/
theorem quiet_same2 {P : Program} {f : FuncId} {args : Array Value} {w : World} {q a : Nat} {v : Value} (h : Calls P f args (w.drewN (q + a)) fun e w' => e = .returned v ∧ w' = w.drewN (q + a)) :
    Calls P f args (w.drewN (q + a)) fun e w'' => e = .returned v ∧ ∃ n, w'' = w.drewN (q + n) := h.mono fun _ _ ⟨he, hm⟩ => ⟨he, a, hm⟩
set_option maxHeartbeats 1600000 in
theorem ref14_Node_1 (t : Tr) (n : Int) (a : Option Addr) (m cap : Nat) (w : World) (F : Nat → Prop) (hs : t.size ≤ 4194304) (hT : IsT w F 1 n a m cap t) :
    Calls Tryz.prog 38 #[.agg #[.int .i64 1, .int .i64 n, .slice a m cap]] w fun e w' => e = .returned (.bool (nodeOk t)) ∧ Below w.heap.size w w' := by
  obtain ⟨i0, hi, hz0, hz1, hz2⟩ := info_parts info_int
  have hn := hT.fn
  have hmm : m ≤ 4194304 := by
    have h1 := Tr.len_le_sizeL t.kids
    rw [Tr.size_kids] at hs
    rw [hT.em]; omega
  have HN : Hid (nodeOk t = nodeB 1 n m (Tr.kid t.kids 0).num (Tr.kid t.kids 1).num) := by unfold Hid nodeOk; rw [hT.ek, hT.en, hT.em]
  have hd : ∀ i, i < m → -9223372036854775808 ≤ (Tr.kid t.kids i).num ∧ (Tr.kid t.kids i).num < 9223372036854775808 := fun i h => by
    obtain ⟨_, _, _, _, _, d⟩ := hT.knum i h
    exact d
  have HD := Lib.hid hd
  obtain ⟨B, hB⟩ : ∃ B, hasSz n = B := ⟨_, rfl⟩
  have HS : Hid (∀ W, Calls Tryz.prog 39 #[.int .i64 n] W fun e w' => e = .returned (.bool B) ∧ W = w') := fun W => by
    cases B with
    | true => exact refHas_yes n W hB
    | false => exact refHas_no n W hB hn
  have HB := Lib.hid hB
  obtain ⟨W0, hW0⟩ : ∃ W0, w.alloc (.cells #[.int .i64 1, .int .i64 n, .slice a m cap] 24) = W0 := ⟨_, rfl⟩
  have hx0 : W0.heap[w.heap.size]? = some (.cells #[.int .i64 1, .int .i64 n, .slice a m cap] 24 (0, 0)) := by rw [← hW0]; exact block_new rfl
  have hb0 : Below w.heap.size w W0 := by rw [← hW0]; exact (Below.refl _ _).alloc (Nat.le_refl _) _
  have HT := Lib.hid (hT.below hb0)
  have HX0 := Lib.hid hx0
  have HW0 := Lib.hid hW0
  have HB0 := Lib.hid hb0
  clear hs hT hd hB hx0 hW0 hb0
  go_enter Tryz.func38, Tryz.ntmps38
  go_wp2_with fail
  rw [HW0.out]
  go_loopw [3, 4] (fun v i wr => ∃ j : Nat, j ≤ m ∧ i = .int .i64 j ∧ Own .i64 3 W0 wr v j (fun i => (Tr.kid t.kids i).num)) (fun _ i _ => m - (intOf i).toNat)
  case atStart => exact ⟨0, Nat.zero_le _, rfl, World.ownsRow_nil _ _ _ _, Below.refl _ _⟩
  case round =>
    obtain ⟨j, hj, rfl, hown⟩ := hrel
    have hX := (hown.below.block _ (block_lt HX0.out)).trans HX0.out
    have x0 : wr.cell? ⟨w.heap.size, 0, none⟩ = some (.int .i64 1) := block_cell hX 0
    have x1 : wr.cell? ⟨w.heap.size, 1, none⟩ = some (.int .i64 n) := block_cell hX 1
    have x2 : wr.cell? ⟨w.heap.size, 2, none⟩ = some (.slice a m cap) := block_cell hX 2
    clear hX
    by_cases hlt : j < m
    · obtain ⟨b, off, rfl, hbl, c0, d0⟩ := (HT.out.below hown.below).knum j hlt
      obtain ⟨kk, hkk⟩ : ∃ kk, (Tr.kid t.kids j).num = kk := ⟨_, rfl⟩
      rw [hkk] at c0 d0
      have HKK := Lib.hid hkk
      clear hkk
      have g1 : (0 : Int) ≤ (j : Int) := by omega
      have g2 : (j : Int) < (m : Int) := by omega
      go_wp2_with (at_builtin; refine wpList_append_own _ rfl _ _ 71 rfl W0.heap.size 3 i0 (.int .i64 0) 1 8 Tryz.underlying71 hi hz0 hz1 hz2 rfl (by decide) _ _ _ rfl (hown.own.alloc _) ⟨wr.heap.size, 0, none⟩ 1 1 [.int .i64 kk] rfl rfl (cell_one_new _ _ _) (one_cell _ _) (by unfold maxLen; omega) (by omega) (size_alloc_le hown.below _) ?_)
      intro v' w2 hown2 hgrow _
      have HPU := Lib.hid (hown.push kk HKK.out.symm hown2 hgrow)
      clear hown hown2 hgrow x0 x1 x2 c0
      go_wp2_with fail
      go_roundw
      case rel => exact ⟨j + 1, by omega, by go_num, HPU.out⟩
      case measure => simp [intOf]; omega
    · have hjm : j = m := by omega
      subst hjm
      obtain ⟨a3, c3, rfl, hca, hg⟩ := own_slice2 hown.own
      have hbe : Below w.heap.size w wr := chain HB0.out hown.below
      have HBE := Lib.hid hbe
      clear hbe hlt
      have HG := HN
      clear hown hg
      have HQ : Hid (nodeB 1 n j (Tr.kid t.kids 0).num (Tr.kid t.kids 1).num = (decide (j = 0 ∧ n ≤ 64) && B)) := by unfold Hid nodeB; rw [if_pos rfl, HB.out]
      rw [HQ.out] at HG
      clear HQ
      by_cases hm : j = 0
      · subst hm
        cases B with
        | true =>
          by_cases h : n ≤ 64
          all_goals
            go_wp2_with fail
            refine (HS.out _).mono ?_; rintro e w1 ⟨rfl, rfl⟩
            go_wp2_with fail
            go_ret
            exact ⟨ret_bool (by rw [HG.out]; simp [h]), HBE.out⟩
        | false =>
          go_wp2_with fail
          refine (HS.out _).mono ?_; rintro e w1 ⟨rfl, rfl⟩
          go_wp2_with fail
          go_ret
          exact ⟨ret_bool (by rw [HG.out]; simp), HBE.out⟩
      · skip
        have hm0 : ((j : Int) == 0) = false := bno (by omega)
        have hn0 : ((j : Int) != 0) = true := bdiff (by omega)
        go_wp2_with fail
        go_ret
        exact ⟨ret_bool (by rw [HG.out]; simp [hm]), HBE.out⟩
set_option maxHeartbeats 1600000 in
theorem ref14_Node_2 (t : Tr) (n : Int) (a : Option Addr) (m cap : Nat) (w : World) (F : Nat → Prop) (hs : t.size ≤ 4194304) (hT : IsT w F 2 n a m cap t) :
    Calls Tryz.prog 38 #[.agg #[.int .i64 2, .int .i64 n, .slice a m cap]] w fun e w' => e = .returned (.bool (nodeOk t)) ∧ Below w.heap.size w w' := by
  obtain ⟨i0, hi, hz0, hz1, hz2⟩ := info_parts info_int
  have hn := hT.fn
  have hmm : m ≤ 4194304 := by
    have h1 := Tr.len_le_sizeL t.kids
    rw [Tr.size_kids] at hs
    rw [hT.em]; omega
  have HN : Hid (nodeOk t = nodeB 2 n m (Tr.kid t.kids 0).num (Tr.kid t.kids 1).num) := by unfold Hid nodeOk; rw [hT.ek, hT.en, hT.em]
  have hd : ∀ i, i < m → -9223372036854775808 ≤ (Tr.kid t.kids i).num ∧ (Tr.kid t.kids i).num < 9223372036854775808 := fun i h => by
    obtain ⟨_, _, _, _, _, d⟩ := hT.knum i h
    exact d
  have HD := Lib.hid hd
  obtain ⟨B, hB⟩ : ∃ B, hasSz n = B := ⟨_, rfl⟩
  have HS : Hid (∀ W, Calls Tryz.prog 39 #[.int .i64 n] W fun e w' => e = .returned (.bool B) ∧ W = w') := fun W => by
    cases B with
    | true => exact refHas_yes n W hB
    | false => exact refHas_no n W hB hn
  have HB := Lib.hid hB
  obtain ⟨W0, hW0⟩ : ∃ W0, w.alloc (.cells #[.int .i64 2, .int .i64 n, .slice a m cap] 24) = W0 := ⟨_, rfl⟩
  have hx0 : W0.heap[w.heap.size]? = some (.cells #[.int .i64 2, .int .i64 n, .slice a m cap] 24 (0, 0)) := by rw [← hW0]; exact block_new rfl
  have hb0 : Below w.heap.size w W0 := by rw [← hW0]; exact (Below.refl _ _).alloc (Nat.le_refl _) _
  have HT := Lib.hid (hT.below hb0)
  have HX0 := Lib.hid hx0
  have HW0 := Lib.hid hW0
  have HB0 := Lib.hid hb0
  clear hs hT hd hB hx0 hW0 hb0
  go_enter Tryz.func38, Tryz.ntmps38
  go_wp2_with fail
  rw [HW0.out]
  go_loopw [3, 4] (fun v i wr => ∃ j : Nat, j ≤ m ∧ i = .int .i64 j ∧ Own .i64 3 W0 wr v j (fun i => (Tr.kid t.kids i).num)) (fun _ i _ => m - (intOf i).toNat)
  case atStart => exact ⟨0, Nat.zero_le _, rfl, World.ownsRow_nil _ _ _ _, Below.refl _ _⟩
  case round =>
    obtain ⟨j, hj, rfl, hown⟩ := hrel
    have hX := (hown.below.block _ (block_lt HX0.out)).trans HX0.out
    have x0 : wr.cell? ⟨w.heap.size, 0, none⟩ = some (.int .i64 2) := block_cell hX 0
    have x1 : wr.cell? ⟨w.heap.size, 1, none⟩ = some (.int .i64 n) := block_cell hX 1
    have x2 : wr.cell? ⟨w.heap.size, 2, none⟩ = some (.slice a m cap) := block_cell hX 2
    clear hX
    by_cases hlt : j < m
    · obtain ⟨b, off, rfl, hbl, c0, d0⟩ := (HT.out.below hown.below).knum j hlt
      obtain ⟨kk, hkk⟩ : ∃ kk, (Tr.kid t.kids j).num = kk := ⟨_, rfl⟩
      rw [hkk] at c0 d0
      have HKK := Lib.hid hkk
      clear hkk
      have g1 : (0 : Int) ≤ (j : Int) := by omega
      have g2 : (j : Int) < (m : Int) := by omega
      go_wp2_with (at_builtin; refine wpList_append_own _ rfl _ _ 71 rfl W0.heap.size 3 i0 (.int .i64 0) 1 8 Tryz.underlying71 hi hz0 hz1 hz2 rfl (by decide) _ _ _ rfl (hown.own.alloc _) ⟨wr.heap.size, 0, none⟩ 1 1 [.int .i64 kk] rfl rfl (cell_one_new _ _ _) (one_cell _ _) (by unfold maxLen; omega) (by omega) (size_alloc_le hown.below _) ?_)
      intro v' w2 hown2 hgrow _
      have HPU := Lib.hid (hown.push kk HKK.out.symm hown2 hgrow)
      clear hown hown2 hgrow x0 x1 x2 c0
      go_wp2_with fail
      go_roundw
      case rel => exact ⟨j + 1, by omega, by go_num, HPU.out⟩
      case measure => simp [intOf]; omega
    · have hjm : j = m := by omega
      subst hjm
      obtain ⟨a3, c3, rfl, hca, hg⟩ := own_slice2 hown.own
      have hbe : Below w.heap.size w wr := chain HB0.out hown.below
      have HBE := Lib.hid hbe
      clear hbe hlt
      have HG := HN
      clear hown hg
      have HQ : Hid (nodeB 2 n j (Tr.kid t.kids 0).num (Tr.kid t.kids 1).num = decide (j = 0 ∧ 2 ≤ n ∧ n ≤ 5)) := by unfold Hid nodeB; simp
      rw [HQ.out] at HG
      clear HQ
      by_cases hm : j = 0
      · subst hm
        rcases (show n < 2 ∨ (2 ≤ n ∧ 5 < n) ∨ (2 ≤ n ∧ n ≤ 5) by omega) with h | ⟨h, h5⟩ | ⟨h, h5⟩
        all_goals
          go_wp2_with fail
          go_ret
          exact ⟨ret_bool (by rw [HG.out]; simp; try omega), HBE.out⟩
      · skip
        have hm0 : ((j : Int) == 0) = false := bno (by omega)
        have hn0 : ((j : Int) != 0) = true := bdiff (by omega)
        go_wp2_with fail
        go_ret
        exact ⟨ret_bool (by rw [HG.out]; simp [hm]), HBE.out⟩
set_option maxHeartbeats 1600000 in
theorem ref14_Node_3 (t : Tr) (n : Int) (a : Option Addr) (m cap : Nat) (w : World) (F : Nat → Prop) (hs : t.size ≤ 4194304) (hT : IsT w F 3 n a m cap t) :
    Calls Tryz.prog 38 #[.agg #[.int .i64 3, .int .i64 n, .slice a m cap]] w fun e w' => e = .returned (.bool (nodeOk t)) ∧ Below w.heap.size w w' := by
  obtain ⟨i0, hi, hz0, hz1, hz2⟩ := info_parts info_int
  have hn := hT.fn
  have hmm : m ≤ 4194304 := by
    have h1 := Tr.len_le_sizeL t.kids
    rw [Tr.size_kids] at hs
    rw [hT.em]; omega
  have HN : Hid (nodeOk t = nodeB 3 n m (Tr.kid t.kids 0).num (Tr.kid t.kids 1).num) := by unfold Hid nodeOk; rw [hT.ek, hT.en, hT.em]
  have hd : ∀ i, i < m → -9223372036854775808 ≤ (Tr.kid t.kids i).num ∧ (Tr.kid t.kids i).num < 9223372036854775808 := fun i h => by
    obtain ⟨_, _, _, _, _, d⟩ := hT.knum i h
    exact d
  have HD := Lib.hid hd
  obtain ⟨B, hB⟩ : ∃ B, hasSz n = B := ⟨_, rfl⟩
  have HS : Hid (∀ W, Calls Tryz.prog 39 #[.int .i64 n] W fun e w' => e = .returned (.bool B) ∧ W = w') := fun W => by
    cases B with
    | true => exact refHas_yes n W hB
    | false => exact refHas_no n W hB hn
  have HB := Lib.hid hB
  obtain ⟨W0, hW0⟩ : ∃ W0, w.alloc (.cells #[.int .i64 3, .int .i64 n, .slice a m cap] 24) = W0 := ⟨_, rfl⟩
  have hx0 : W0.heap[w.heap.size]? = some (.cells #[.int .i64 3, .int .i64 n, .slice a m cap] 24 (0, 0)) := by rw [← hW0]; exact block_new rfl
  have hb0 : Below w.heap.size w W0 := by rw [← hW0]; exact (Below.refl _ _).alloc (Nat.le_refl _) _
  have HT := Lib.hid (hT.below hb0)
  have HX0 := Lib.hid hx0
  have HW0 := Lib.hid hW0
  have HB0 := Lib.hid hb0
  clear hs hT hd hB hx0 hW0 hb0
  go_enter Tryz.func38, Tryz.ntmps38
  go_wp2_with fail
  rw [HW0.out]
  go_loopw [3, 4] (fun v i wr => ∃ j : Nat, j ≤ m ∧ i = .int .i64 j ∧ Own .i64 3 W0 wr v j (fun i => (Tr.kid t.kids i).num)) (fun _ i _ => m - (intOf i).toNat)
  case atStart => exact ⟨0, Nat.zero_le _, rfl, World.ownsRow_nil _ _ _ _, Below.refl _ _⟩
  case round =>
    obtain ⟨j, hj, rfl, hown⟩ := hrel
    have hX := (hown.below.block _ (block_lt HX0.out)).trans HX0.out
    have x0 : wr.cell? ⟨w.heap.size, 0, none⟩ = some (.int .i64 3) := block_cell hX 0
    have x1 : wr.cell? ⟨w.heap.size, 1, none⟩ = some (.int .i64 n) := block_cell hX 1
    have x2 : wr.cell? ⟨w.heap.size, 2, none⟩ = some (.slice a m cap) := block_cell hX 2
    clear hX
    by_cases hlt : j < m
    · obtain ⟨b, off, rfl, hbl, c0, d0⟩ := (HT.out.below hown.below).knum j hlt
      obtain ⟨kk, hkk⟩ : ∃ kk, (Tr.kid t.kids j).num = kk := ⟨_, rfl⟩
      rw [hkk] at c0 d0
      have HKK := Lib.hid hkk
      clear hkk
      have g1 : (0 : Int) ≤ (j : Int) := by omega
      have g2 : (j : Int) < (m : Int) := by omega
      go_wp2_with (at_builtin; refine wpList_append_own _ rfl _ _ 71 rfl W0.heap.size 3 i0 (.int .i64 0) 1 8 Tryz.underlying71 hi hz0 hz1 hz2 rfl (by decide) _ _ _ rfl (hown.own.alloc _) ⟨wr.heap.size, 0, none⟩ 1 1 [.int .i64 kk] rfl rfl (cell_one_new _ _ _) (one_cell _ _) (by unfold maxLen; omega) (by omega) (size_alloc_le hown.below _) ?_)
      intro v' w2 hown2 hgrow _
      have HPU := Lib.hid (hown.push kk HKK.out.symm hown2 hgrow)
      clear hown hown2 hgrow x0 x1 x2 c0
      go_wp2_with fail
      go_roundw
      case rel => exact ⟨j + 1, by omega, by go_num, HPU.out⟩
      case measure => simp [intOf]; omega
    · have hjm : j = m := by omega
      subst hjm
      obtain ⟨a3, c3, rfl, hca, hg⟩ := own_slice2 hown.own
      have hbe : Below w.heap.size w wr := chain HB0.out hown.below
      have HBE := Lib.hid hbe
      clear hbe hlt
      have HG := HN
      clear hown hg
      obtain ⟨C, hC⟩ : ∃ C, hasP2 n = C := ⟨_, rfl⟩
      have HST : Hid (∀ W, Calls Tryz.prog 64 #[.int .i64 n] W fun e w' => e = .returned (.bool C) ∧ W = w') := fun W => by rw [← hC]; exact ref14_power n W hn
      have HQ : Hid (nodeB 3 n j (Tr.kid t.kids 0).num (Tr.kid t.kids 1).num = (decide (j = 0 ∧ 2 ≤ n) && C)) := by unfold Hid nodeB; simp [hC]
      clear hC
      rw [HQ.out] at HG
      clear HQ
      by_cases hm : j = 0
      · subst hm
        by_cases h : 2 ≤ n
        · go_wp2_with fail
          refine (HST.out _).mono ?_; rintro e w1 ⟨rfl, rfl⟩
          go_wp2_with fail
          go_ret
          exact ⟨ret_bool (by rw [HG.out]; simp [h]), HBE.out⟩
        · go_wp2_with fail
          go_ret
          exact ⟨ret_bool (by rw [HG.out]; first | (simp [h]; done) | (simp; intros; omega)), HBE.out⟩
      · skip
        have hm0 : ((j : Int) == 0) = false := bno (by omega)
        have hn0 : ((j : Int) != 0) = true := bdiff (by omega)
        go_wp2_with fail
        go_ret
        exact ⟨ret_bool (by rw [HG.out]; simp [hm]), HBE.out⟩
set_option maxHeartbeats 1600000 in
theorem ref14_Node_4 (t : Tr) (n : Int) (a : Option Addr) (m cap : Nat) (w : World) (F : Nat → Prop) (hs : t.size ≤ 4194304) (hT : IsT w F 4 n a m cap t) :
    Calls Tryz.prog 38 #[.agg #[.int .i64 4, .int .i64 n, .slice a m cap]] w fun e w' => e = .returned (.bool (nodeOk t)) ∧ Below w.heap.size w w' := by
  obtain ⟨i0, hi, hz0, hz1, hz2⟩ := info_parts info_int
  have hn := hT.fn
  have hmm : m ≤ 4194304 := by
    have h1 := Tr.len_le_sizeL t.kids
    rw [Tr.size_kids] at hs
    rw [hT.em]; omega
  have HN : Hid (nodeOk t = nodeB 4 n m (Tr.kid t.kids 0).num (Tr.kid t.kids 1).num) := by unfold Hid nodeOk; rw [hT.ek, hT.en, hT.em]
  have hd : ∀ i, i < m → -9223372036854775808 ≤ (Tr.kid t.kids i).num ∧ (Tr.kid t.kids i).num < 9223372036854775808 := fun i h => by
    obtain ⟨_, _, _, _, _, d⟩ := hT.knum i h
    exact d
  have HD := Lib.hid hd
  obtain ⟨B, hB⟩ : ∃ B, hasSz n = B := ⟨_, rfl⟩
  have HS : Hid (∀ W, Calls Tryz.prog 39 #[.int .i64 n] W fun e w' => e = .returned (.bool B) ∧ W = w') := fun W => by
    cases B with
    | true => exact refHas_yes n W hB
    | false => exact refHas_no n W hB hn
  have HB := Lib.hid hB
  obtain ⟨W0, hW0⟩ : ∃ W0, w.alloc (.cells #[.int .i64 4, .int .i64 n, .slice a m cap] 24) = W0 := ⟨_, rfl⟩
  have hx0 : W0.heap[w.heap.size]? = some (.cells #[.int .i64 4, .int .i64 n, .slice a m cap] 24 (0, 0)) := by rw [← hW0]; exact block_new rfl
  have hb0 : Below w.heap.size w W0 := by rw [← hW0]; exact (Below.refl _ _).alloc (Nat.le_refl _) _
  have HT := Lib.hid (hT.below hb0)
  have HX0 := Lib.hid hx0
  have HW0 := Lib.hid hW0
  have HB0 := Lib.hid hb0
  clear hs hT hd hB hx0 hW0 hb0
  go_enter Tryz.func38, Tryz.ntmps38
  go_wp2_with fail
  rw [HW0.out]
  go_loopw [3, 4] (fun v i wr => ∃ j : Nat, j ≤ m ∧ i = .int .i64 j ∧ Own .i64 3 W0 wr v j (fun i => (Tr.kid t.kids i).num)) (fun _ i _ => m - (intOf i).toNat)
  case atStart => exact ⟨0, Nat.zero_le _, rfl, World.ownsRow_nil _ _ _ _, Below.refl _ _⟩
  case round =>
    obtain ⟨j, hj, rfl, hown⟩ := hrel
    have hX := (hown.below.block _ (block_lt HX0.out)).trans HX0.out
    have x0 : wr.cell? ⟨w.heap.size, 0, none⟩ = some (.int .i64 4) := block_cell hX 0
    have x1 : wr.cell? ⟨w.heap.size, 1, none⟩ = some (.int .i64 n) := block_cell hX 1
    have x2 : wr.cell? ⟨w.heap.size, 2, none⟩ = some (.slice a m cap) := block_cell hX 2
    clear hX
    by_cases hlt : j < m
    · obtain ⟨b, off, rfl, hbl, c0, d0⟩ := (HT.out.below hown.below).knum j hlt
      obtain ⟨kk, hkk⟩ : ∃ kk, (Tr.kid t.kids j).num = kk := ⟨_, rfl⟩
      rw [hkk] at c0 d0
      have HKK := Lib.hid hkk
      clear hkk
      have g1 : (0 : Int) ≤ (j : Int) := by omega
      have g2 : (j : Int) < (m : Int) := by omega
      go_wp2_with (at_builtin; refine wpList_append_own _ rfl _ _ 71 rfl W0.heap.size 3 i0 (.int .i64 0) 1 8 Tryz.underlying71 hi hz0 hz1 hz2 rfl (by decide) _ _ _ rfl (hown.own.alloc _) ⟨wr.heap.size, 0, none⟩ 1 1 [.int .i64 kk] rfl rfl (cell_one_new _ _ _) (one_cell _ _) (by unfold maxLen; omega) (by omega) (size_alloc_le hown.below _) ?_)
      intro v' w2 hown2 hgrow _
      have HPU := Lib.hid (hown.push kk HKK.out.symm hown2 hgrow)
      clear hown hown2 hgrow x0 x1 x2 c0
      go_wp2_with fail
      go_roundw
      case rel => exact ⟨j + 1, by omega, by go_num, HPU.out⟩
      case measure => simp [intOf]; omega
    · have hjm : j = m := by omega
      subst hjm
      obtain ⟨a3, c3, rfl, hca, hg⟩ := own_slice2 hown.own
      have hbe : Below w.heap.size w wr := chain HB0.out hown.below
      have HBE := Lib.hid hbe
      clear hbe hlt
      have HG := HN
      have HQ : Hid (nodeB 4 n j (Tr.kid t.kids 0).num (Tr.kid t.kids 1).num = sidesB n j (Tr.kid t.kids 0).num (Tr.kid t.kids 1).num) := by unfold Hid nodeB; simp
      rw [HQ.out] at HG
      clear HQ
      by_cases hm : j = 2
      · cases B with
        | false =>
          have HF : Hid (sidesB n j (Tr.kid t.kids 0).num (Tr.kid t.kids 1).num = false) := by unfold Hid sidesB; rw [HB.out, Bool.and_false]
          rw [HF.out] at HG
          subst hm
          clear hown hg
          go_wp2_with fail
          go_quiet ((first | (go_at_call 39; exact Calls.quiet_of_same (sameW (HS.out _)))))
          go_wp2_with fail
          go_ret
          exact ⟨ret_bool (by rw [HG.out] <;> simp), below_drewN HBE.out _⟩
        | true =>
          have hsz := hasSz_bd HB.out
          have hd0 := HD.out 0 (by omega)
          have hd1 := HD.out 1 (by omega)
          obtain ⟨g, rfl⟩ := hg (by omega)
          have c0 := own_int_cell hown 0 (by omega)
          have c1 := own_int_cell hown 1 (by omega)
          have HF : Hid (sidesB n j (Tr.kid t.kids 0).num (Tr.kid t.kids 1).num = decide (2 ≤ (Tr.kid t.kids 0).num ∧ 2 ≤ (Tr.kid t.kids 1).num ∧ (Tr.kid t.kids 0).num ≤ n ∧ (Tr.kid t.kids 1).num ≤ n ∧ (Tr.kid t.kids 0).num * (Tr.kid t.kids 1).num = n)) := by
            unfold Hid sidesB
            rw [HB.out, Bool.and_true, hm]
            simp
          rw [HF.out] at HG
          clear HF hown hg HD HT
          obtain ⟨k0, hk0⟩ : ∃ x, (Tr.kid t.kids 0).num = x := ⟨_, rfl⟩
          obtain ⟨k1, hk1⟩ : ∃ x, (Tr.kid t.kids 1).num = x := ⟨_, rfl⟩
          try simp only [] at c0 c1
          rw [hk0] at c0 hd0 HG
          rw [hk1] at c1 hd1 HG
          clear hk0 hk1
          subst hm
          by_cases h0 : 2 ≤ k0
          · have d0 : decide (k0 < 2) = false := by simp; omega
            by_cases h1 : 2 ≤ k1
            · have d1 : decide (k1 < 2) = false := by simp; omega
              have hdv := sides_div hsz.1 h0 h1
              obtain ⟨R, hR⟩ : ∃ R, n % k0 = R := ⟨_, rfl⟩
              have r0 := Int.emod_nonneg n (show k0 ≠ 0 by omega)
              have r1 := Int.emod_lt_of_pos n (show 0 < k0 by omega)
              have q0 : 0 ≤ n / k0 := Int.ediv_nonneg (by omega) (by omega)
              have q1 : n / k0 ≤ n := Int.ediv_le_self _ (by omega)
              obtain ⟨Q, hQ⟩ : ∃ Q, n / k0 = Q := ⟨_, rfl⟩
              have e1 : n.tmod k0 = R := by rw [Int.tmod_eq_emod_of_nonneg (by omega), hR]
              have e3 : n.tdiv k0 = Q := by rw [Int.tdiv_eq_ediv_of_nonneg (by omega), hQ]
              rw [hR] at hdv r0 r1
              rw [hQ] at hdv q0 q1
              have wq : IntKind.i64.wrap Q = Q := IntWalk.i64_in _ (by omega)
              have HDV := Lib.hid hdv
              have z1 : (k0 == 0) = false := bno (by omega)
              have z2 : ¬ k0 = 0 := by omega
              have HE2 := Lib.hid hR
              have HE4 := Lib.hid hQ
              clear hdv hR hQ
              by_cases hr : R = 0
              · have b1 : (R != 0) = false := bfalse hr
                have HRR := Lib.hid hr
                clear hr
                by_cases hq : Q = k1
                · have b2 : (Q != k1) = false := bfalse hq
                  have HQQ := Lib.hid hq
                  clear hq
                  have e2 : n % k0 = R := HE2.out
                  have e4 : n / k0 = Q := HE4.out
                  have HYES : Hid (decide (2 ≤ k0 ∧ 2 ≤ k1 ∧ k0 ≤ n ∧ k1 ≤ n ∧ k0 * k1 = n) = true) := by
                    have := HDV.out.1 ⟨HRR.out, HQQ.out⟩
                    unfold Hid; rw [decide_eq_true_eq]; exact ⟨h0, h1, this⟩
                  rw [HYES.out] at HG
                  go_wp2_with fail
                  go_quiet ((first | (go_at_call 39; exact Calls.quiet_of_same (sameW (HS.out _)))))
                  clear e2 e4
                  go_wp2_with fail
                  go_quiet (fail)
                  go_wp2_with fail
                  go_ret
                  exact ⟨ret_bool (by rw [HG.out] <;> simp), below_drewN (below_drewN HBE.out _) _⟩
                · have b2 : (Q != k1) = true := bdiff hq
                  have HNO : Hid (decide (2 ≤ k0 ∧ 2 ≤ k1 ∧ k0 ≤ n ∧ k1 ≤ n ∧ k0 * k1 = n) = false) := by
                    unfold Hid; rw [decide_eq_false_iff_not]; intro h; exact hq (HDV.out.2 h.2.2).2
                  rw [HNO.out] at HG
                  have e2 : n % k0 = R := HE2.out
                  have e4 : n / k0 = Q := HE4.out
                  clear hq
                  go_wp2_with fail
                  go_quiet ((first | (go_at_call 39; exact Calls.quiet_of_same (sameW (HS.out _)))))
                  clear e2 e4
                  go_wp2_with fail
                  go_ret
                  exact ⟨ret_bool (by rw [HG.out] <;> simp), below_drewN HBE.out _⟩
              · have b1 : (R != 0) = true := bdiff hr
                have HNO : Hid (decide (2 ≤ k0 ∧ 2 ≤ k1 ∧ k0 ≤ n ∧ k1 ≤ n ∧ k0 * k1 = n) = false) := by
                  unfold Hid; rw [decide_eq_false_iff_not]; intro h; exact hr (HDV.out.2 h.2.2).1
                rw [HNO.out] at HG
                have e2 : n % k0 = R := HE2.out
                have e4 : n / k0 = Q := HE4.out
                clear hr
                go_wp2_with fail
                go_quiet ((first | (go_at_call 39; exact Calls.quiet_of_same (sameW (HS.out _)))))
                clear e2 e4
                go_wp2_with fail
                go_ret
                exact ⟨ret_bool (by rw [HG.out] <;> simp), below_drewN HBE.out _⟩
            · have b1 : decide (k1 < 2) = true := by simp; omega
              have HNO : Hid (decide (2 ≤ k0 ∧ 2 ≤ k1 ∧ k0 ≤ n ∧ k1 ≤ n ∧ k0 * k1 = n) = false) := by
                unfold Hid; rw [decide_eq_false_iff_not]; intro h; omega
              rw [HNO.out] at HG
              go_wp2_with fail
              go_quiet ((first | (go_at_call 39; exact Calls.quiet_of_same (sameW (HS.out _)))))
              go_wp2_with fail
              go_ret
              exact ⟨ret_bool (by rw [HG.out] <;> simp), below_drewN HBE.out _⟩
          · have b1 : decide (k0 < 2) = true := by simp; omega
            have HNO : Hid (decide (2 ≤ k0 ∧ 2 ≤ k1 ∧ k0 ≤ n ∧ k1 ≤ n ∧ k0 * k1 = n) = false) := by
              unfold Hid; rw [decide_eq_false_iff_not]; intro h; omega
            rw [HNO.out] at HG
            go_wp2_with fail
            go_quiet ((first | (go_at_call 39; exact Calls.quiet_of_same (sameW (HS.out _)))))
            go_wp2_with fail
            go_ret
            exact ⟨ret_bool (by rw [HG.out] <;> simp), below_drewN HBE.out _⟩
      · skip
        have HF : Hid (sidesB n j (Tr.kid t.kids 0).num (Tr.kid t.kids 1).num = false) := by unfold Hid sidesB; rw [decide_eq_false (by intro h; exact hm h.1), Bool.false_and]
        rw [HF.out] at HG
        have hm2 : ((j : Int) == 2) = false := bno (by omega)
        have hn2 : ((j : Int) != 2) = true := bdiff (by omega)
        clear hown hg
        go_wp2_with fail
        go_quiet (fail)
        go_wp2_with fail
        go_ret
        exact ⟨ret_bool (by rw [HG.out] <;> simp), below_drewN HBE.out _⟩
set_option maxHeartbeats 1600000 in
theorem ref14_Node_5 (t : Tr) (n : Int) (a : Option Addr) (m cap : Nat) (w : World) (F : Nat → Prop) (hs : t.size ≤ 4194304) (hT : IsT w F 5 n a m cap t) :
    Calls Tryz.prog 38 #[.agg #[.int .i64 5, .int .i64 n, .slice a m cap]] w fun e w' => e = .returned (.bool (nodeOk t)) ∧ Below w.heap.size w w' := by
  obtain ⟨i0, hi, hz0, hz1, hz2⟩ := info_parts info_int
  have hn := hT.fn
  have hmm : m ≤ 4194304 := by
    have h1 := Tr.len_le_sizeL t.kids
    rw [Tr.size_kids] at hs
    rw [hT.em]; omega
  have HN : Hid (nodeOk t = nodeB 5 n m (Tr.kid t.kids 0).num (Tr.kid t.kids 1).num) := by unfold Hid nodeOk; rw [hT.ek, hT.en, hT.em]
  have hd : ∀ i, i < m → -9223372036854775808 ≤ (Tr.kid t.kids i).num ∧ (Tr.kid t.kids i).num < 9223372036854775808 := fun i h => by
    obtain ⟨_, _, _, _, _, d⟩ := hT.knum i h
    exact d
  have HD := Lib.hid hd
  obtain ⟨B, hB⟩ : ∃ B, hasSz n = B := ⟨_, rfl⟩
  have HS : Hid (∀ W, Calls Tryz.prog 39 #[.int .i64 n] W fun e w' => e = .returned (.bool B) ∧ W = w') := fun W => by
    cases B with
    | true => exact refHas_yes n W hB
    | false => exact refHas_no n W hB hn
  have HB := Lib.hid hB
  obtain ⟨W0, hW0⟩ : ∃ W0, w.alloc (.cells #[.int .i64 5, .int .i64 n, .slice a m cap] 24) = W0 := ⟨_, rfl⟩
  have hx0 : W0.heap[w.heap.size]? = some (.cells #[.int .i64 5, .int .i64 n, .slice a m cap] 24 (0, 0)) := by rw [← hW0]; exact block_new rfl
  have hb0 : Below w.heap.size w W0 := by rw [← hW0]; exact (Below.refl _ _).alloc (Nat.le_refl _) _
  have HT := Lib.hid (hT.below hb0)
  have HX0 := Lib.hid hx0
  have HW0 := Lib.hid hW0
  have HB0 := Lib.hid hb0
  clear hs hT hd hB hx0 hW0 hb0
  go_enter Tryz.func38, Tryz.ntmps38
  go_wp2_with fail
  rw [HW0.out]
  go_loopw [3, 4] (fun v i wr => ∃ j : Nat, j ≤ m ∧ i = .int .i64 j ∧ Own .i64 3 W0 wr v j (fun i => (Tr.kid t.kids i).num)) (fun _ i _ => m - (intOf i).toNat)
  case atStart => exact ⟨0, Nat.zero_le _, rfl, World.ownsRow_nil _ _ _ _, Below.refl _ _⟩
  case round =>
    obtain ⟨j, hj, rfl, hown⟩ := hrel
    have hX := (hown.below.block _ (block_lt HX0.out)).trans HX0.out
    have x0 : wr.cell? ⟨w.heap.size, 0, none⟩ = some (.int .i64 5) := block_cell hX 0
    have x1 : wr.cell? ⟨w.heap.size, 1, none⟩ = some (.int .i64 n) := block_cell hX 1
    have x2 : wr.cell? ⟨w.heap.size, 2, none⟩ = some (.slice a m cap) := block_cell hX 2
    clear hX
    by_cases hlt : j < m
    · obtain ⟨b, off, rfl, hbl, c0, d0⟩ := (HT.out.below hown.below).knum j hlt
      obtain ⟨kk, hkk⟩ : ∃ kk, (Tr.kid t.kids j).num = kk := ⟨_, rfl⟩
      rw [hkk] at c0 d0
      have HKK := Lib.hid hkk
      clear hkk
      have g1 : (0 : Int) ≤ (j : Int) := by omega
      have g2 : (j : Int) < (m : Int) := by omega
      go_wp2_with (at_builtin; refine wpList_append_own _ rfl _ _ 71 rfl W0.heap.size 3 i0 (.int .i64 0) 1 8 Tryz.underlying71 hi hz0 hz1 hz2 rfl (by decide) _ _ _ rfl (hown.own.alloc _) ⟨wr.heap.size, 0, none⟩ 1 1 [.int .i64 kk] rfl rfl (cell_one_new _ _ _) (one_cell _ _) (by unfold maxLen; omega) (by omega) (size_alloc_le hown.below _) ?_)
      intro v' w2 hown2 hgrow _
      have HPU := Lib.hid (hown.push kk HKK.out.symm hown2 hgrow)
      clear hown hown2 hgrow x0 x1 x2 c0
      go_wp2_with fail
      go_roundw
      case rel => exact ⟨j + 1, by omega, by go_num, HPU.out⟩
      case measure => simp [intOf]; omega
    · have hjm : j = m := by omega
      subst hjm
      obtain ⟨a3, c3, rfl, hca, hg⟩ := own_slice2 hown.own
      have hbe : Below w.heap.size w wr := chain HB0.out hown.below
      have HBE := Lib.hid hbe
      clear hbe hlt
      have HG := HN
      have HQ : Hid (nodeB 5 n j (Tr.kid t.kids 0).num (Tr.kid t.kids 1).num = (sidesB n j (Tr.kid t.kids 0).num (Tr.kid t.kids 1).num && decide (gcdI (Tr.kid t.kids 0).num (Tr.kid t.kids 1).num = 1))) := by unfold Hid nodeB; simp
      rw [HQ.out] at HG
      clear HQ
      by_cases hm : j = 2
      · cases B with
        | false =>
          have HF : Hid (sidesB n j (Tr.kid t.kids 0).num (Tr.kid t.kids 1).num = false) := by unfold Hid sidesB; rw [HB.out, Bool.and_false]
          rw [HF.out] at HG
          subst hm
          clear hown hg
          go_wp2_with fail
          go_quiet ((first | (go_at_call 39; exact Calls.quiet_of_same (sameW (HS.out _)))))
          go_wp2_with fail
          go_ret
          exact ⟨ret_bool (by rw [HG.out] <;> simp), below_drewN HBE.out _⟩
        | true =>
          have hsz := hasSz_bd HB.out
          have hd0 := HD.out 0 (by omega)
          have hd1 := HD.out 1 (by omega)
          obtain ⟨g, rfl⟩ := hg (by omega)
          have c0 := own_int_cell hown 0 (by omega)
          have c1 := own_int_cell hown 1 (by omega)
          have HF : Hid (sidesB n j (Tr.kid t.kids 0).num (Tr.kid t.kids 1).num = decide (2 ≤ (Tr.kid t.kids 0).num ∧ 2 ≤ (Tr.kid t.kids 1).num ∧ (Tr.kid t.kids 0).num ≤ n ∧ (Tr.kid t.kids 1).num ≤ n ∧ (Tr.kid t.kids 0).num * (Tr.kid t.kids 1).num = n)) := by
            unfold Hid sidesB
            rw [HB.out, Bool.and_true, hm]
            simp
          rw [HF.out] at HG
          clear HF hown hg HD HT
          obtain ⟨k0, hk0⟩ : ∃ x, (Tr.kid t.kids 0).num = x := ⟨_, rfl⟩
          obtain ⟨k1, hk1⟩ : ∃ x, (Tr.kid t.kids 1).num = x := ⟨_, rfl⟩
          try simp only [] at c0 c1
          rw [hk0] at c0 hd0 HG
          rw [hk1] at c1 hd1 HG
          clear hk0 hk1
          subst hm
          by_cases h0 : 2 ≤ k0
          · have d0 : decide (k0 < 2) = false := by simp; omega
            by_cases h1 : 2 ≤ k1
            · have d1 : decide (k1 < 2) = false := by simp; omega
              have hdv := sides_div hsz.1 h0 h1
              obtain ⟨R, hR⟩ : ∃ R, n % k0 = R := ⟨_, rfl⟩
              have r0 := Int.emod_nonneg n (show k0 ≠ 0 by omega)
              have r1 := Int.emod_lt_of_pos n (show 0 < k0 by omega)
              have q0 : 0 ≤ n / k0 := Int.ediv_nonneg (by omega) (by omega)
              have q1 : n / k0 ≤ n := Int.ediv_le_self _ (by omega)
              obtain ⟨Q, hQ⟩ : ∃ Q, n / k0 = Q := ⟨_, rfl⟩
              have e1 : n.tmod k0 = R := by rw [Int.tmod_eq_emod_of_nonneg (by omega), hR]
              have e3 : n.tdiv k0 = Q := by rw [Int.tdiv_eq_ediv_of_nonneg (by omega), hQ]
              rw [hR] at hdv r0 r1
              rw [hQ] at hdv q0 q1
              have wq : IntKind.i64.wrap Q = Q := IntWalk.i64_in _ (by omega)
              have HDV := Lib.hid hdv
              have z1 : (k0 == 0) = false := bno (by omega)
              have z2 : ¬ k0 = 0 := by omega
              have HE2 := Lib.hid hR
              have HE4 := Lib.hid hQ
              clear hdv hR hQ
              by_cases hr : R = 0
              · have b1 : (R != 0) = false := bfalse hr
                have HRR := Lib.hid hr
                clear hr
                by_cases hq : Q = k1
                · have b2 : (Q != k1) = false := bfalse hq
                  have HQQ := Lib.hid hq
                  clear hq
                  have e2 : n % k0 = R := HE2.out
                  have e4 : n / k0 = Q := HE4.out
                  have HYES : Hid (decide (2 ≤ k0 ∧ 2 ≤ k1 ∧ k0 ≤ n ∧ k1 ≤ n ∧ k0 * k1 = n) = true) := by
                    have := HDV.out.1 ⟨HRR.out, HQQ.out⟩
                    unfold Hid; rw [decide_eq_true_eq]; exact ⟨h0, h1, this⟩
                  rw [HYES.out] at HG
                  have hkn : k0 ≤ n ∧ k1 ≤ n := by
                    have := HDV.out.1 ⟨HRR.out, HQQ.out⟩
                    exact ⟨this.1, this.2.1⟩
                  have HGC : Hid (∀ W, Calls Tryz.prog 65 #[.int .i64 k0, .int .i64 k1] W fun e w' => e = .returned (.int .i64 (gcdI k0 k1)) ∧ W = w') := fun W => by
                    obtain ⟨x, rfl⟩ := Int.eq_ofNat_of_zero_le (show 0 ≤ k0 by omega)
                    obtain ⟨y, rfl⟩ := Int.eq_ofNat_of_zero_le (show 0 ≤ k1 by omega)
                    rw [show gcdI (x : Int) (y : Int) = ((Nat.gcd x y : Nat) : Int) by unfold gcdI; rw [if_neg (by omega), Int.toNat_natCast, Int.toNat_natCast]]
                    exact refGcd (x + y) x y W (Nat.le_refl _) (by omega) (by omega)
                  obtain ⟨G, hG⟩ : ∃ G, gcdI k0 k1 = G := ⟨_, rfl⟩
                  rw [hG] at HGC HG
                  clear hG
                  rw [Bool.true_and] at HG
                  by_cases hgg : G = 1
                  · have b3 : (G == 1) = true := btrue hgg
                    have HGV := Lib.hid hgg
                    clear hgg
                    go_wp2_with fail
                    go_quiet ((first | (go_at_call 39; exact Calls.quiet_of_same (sameW (HS.out _)))))
                    clear e2 e4
                    go_wp2_with fail
                    go_quiet ((go_at_call 65; exact quiet_same2 (sameW (HGC.out _))))
                    go_wp2_with fail
                    go_ret
                    exact ⟨ret_bool (by rw [HG.out]; simp [HGV.out]), below_drewN (below_drewN HBE.out _) _⟩
                  · have b3 : (G == 1) = false := bno hgg
                    have HGV := Lib.hid hgg
                    clear hgg
                    go_wp2_with fail
                    go_quiet ((first | (go_at_call 39; exact Calls.quiet_of_same (sameW (HS.out _)))))
                    clear e2 e4
                    go_wp2_with fail
                    go_quiet ((go_at_call 65; exact quiet_same2 (sameW (HGC.out _))))
                    go_wp2_with fail
                    go_ret
                    exact ⟨ret_bool (by rw [HG.out]; simp [HGV.out]), below_drewN (below_drewN HBE.out _) _⟩
                · have b2 : (Q != k1) = true := bdiff hq
                  have HNO : Hid (decide (2 ≤ k0 ∧ 2 ≤ k1 ∧ k0 ≤ n ∧ k1 ≤ n ∧ k0 * k1 = n) = false) := by
                    unfold Hid; rw [decide_eq_false_iff_not]; intro h; exact hq (HDV.out.2 h.2.2).2
                  rw [HNO.out] at HG
                  have e2 : n % k0 = R := HE2.out
                  have e4 : n / k0 = Q := HE4.out
                  clear hq
                  go_wp2_with fail
                  go_quiet ((first | (go_at_call 39; exact Calls.quiet_of_same (sameW (HS.out _)))))
                  clear e2 e4
                  go_wp2_with fail
                  go_ret
                  exact ⟨ret_bool (by rw [HG.out] <;> simp), below_drewN HBE.out _⟩
              · have b1 : (R != 0) = true := bdiff hr
                have HNO : Hid (decide (2 ≤ k0 ∧ 2 ≤ k1 ∧ k0 ≤ n ∧ k1 ≤ n ∧ k0 * k1 = n) = false) := by
                  unfold Hid; rw [decide_eq_false_iff_not]; intro h; exact hr (HDV.out.2 h.2.2).1
                rw [HNO.out] at HG
                have e2 : n % k0 = R := HE2.out
                have e4 : n / k0 = Q := HE4.out
                clear hr
                go_wp2_with fail
                go_quiet ((first | (go_at_call 39; exact Calls.quiet_of_same (sameW (HS.out _)))))
                clear e2 e4
                go_wp2_with fail
                go_ret
                exact ⟨ret_bool (by rw [HG.out] <;> simp), below_drewN HBE.out _⟩
            · have b1 : decide (k1 < 2) = true := by simp; omega
              have HNO : Hid (decide (2 ≤ k0 ∧ 2 ≤ k1 ∧ k0 ≤ n ∧ k1 ≤ n ∧ k0 * k1 = n) = false) := by
                unfold Hid; rw [decide_eq_false_iff_not]; intro h; omega
              rw [HNO.out] at HG
              go_wp2_with fail
              go_quiet ((first | (go_at_call 39; exact Calls.quiet_of_same (sameW (HS.out _)))))
              go_wp2_with fail
              go_ret
              exact ⟨ret_bool (by rw [HG.out] <;> simp), below_drewN HBE.out _⟩
          · have b1 : decide (k0 < 2) = true := by simp; omega
            have HNO : Hid (decide (2 ≤ k0 ∧ 2 ≤ k1 ∧ k0 ≤ n ∧ k1 ≤ n ∧ k0 * k1 = n) = false) := by
              unfold Hid; rw [decide_eq_false_iff_not]; intro h; omega
            rw [HNO.out] at HG
            go_wp2_with fail
            go_quiet ((first | (go_at_call 39; exact Calls.quiet_of_same (sameW (HS.out _)))))
            go_wp2_with fail
            go_ret
            exact ⟨ret_bool (by rw [HG.out] <;> simp), below_drewN HBE.out _⟩
      · skip
        have HF : Hid (sidesB n j (Tr.kid t.kids 0).num (Tr.kid t.kids 1).num = false) := by unfold Hid sidesB; rw [decide_eq_false (by intro h; exact hm h.1), Bool.false_and]
        rw [HF.out] at HG
        have hm2 : ((j : Int) == 2) = false := bno (by omega)
        have hn2 : ((j : Int) != 2) = true := bdiff (by omega)
        clear hown hg
        go_wp2_with fail
        go_quiet (fail)
        go_wp2_with fail
        go_ret
        exact ⟨ret_bool (by rw [HG.out] <;> simp), below_drewN HBE.out _⟩
set_option maxHeartbeats 1600000 in
theorem ref14_Node_6 (t : Tr) (n : Int) (a : Option Addr) (m cap : Nat) (w : World) (F : Nat → Prop) (hs : t.size ≤ 4194304) (hT : IsT w F 6 n a m cap t) :
    Calls Tryz.prog 38 #[.agg #[.int .i64 6, .int .i64 n, .slice a m cap]] w fun e w' => e = .returned (.bool (nodeOk t)) ∧ Below w.heap.size w w' := by
  obtain ⟨i0, hi, hz0, hz1, hz2⟩ := info_parts info_int
  have hn := hT.fn
  have hmm : m ≤ 4194304 := by
    have h1 := Tr.len_le_sizeL t.kids
    rw [Tr.size_kids] at hs
    rw [hT.em]; omega
  have HN : Hid (nodeOk t = nodeB 6 n m (Tr.kid t.kids 0).num (Tr.kid t.kids 1).num) := by unfold Hid nodeOk; rw [hT.ek, hT.en, hT.em]
  have hd : ∀ i, i < m → -9223372036854775808 ≤ (Tr.kid t.kids i).num ∧ (Tr.kid t.kids i).num < 9223372036854775808 := fun i h => by
    obtain ⟨_, _, _, _, _, d⟩ := hT.knum i h
    exact d
  have HD := Lib.hid hd
  obtain ⟨B, hB⟩ : ∃ B, hasSz n = B := ⟨_, rfl⟩
  have HS : Hid (∀ W, Calls Tryz.prog 39 #[.int .i64 n] W fun e w' => e = .returned (.bool B) ∧ W = w') := fun W => by
    cases B with
    | true => exact refHas_yes n W hB
    | false => exact refHas_no n W hB hn
  have HB := Lib.hid hB
  obtain ⟨W0, hW0⟩ : ∃ W0, w.alloc (.cells #[.int .i64 6, .int .i64 n, .slice a m cap] 24) = W0 := ⟨_, rfl⟩
  have hx0 : W0.heap[w.heap.size]? = some (.cells #[.int .i64 6, .int .i64 n, .slice a m cap] 24 (0, 0)) := by rw [← hW0]; exact block_new rfl
  have hb0 : Below w.heap.size w W0 := by rw [← hW0]; exact (Below.refl _ _).alloc (Nat.le_refl _) _
  have HT := Lib.hid (hT.below hb0)
  have HX0 := Lib.hid hx0
  have HW0 := Lib.hid hW0
  have HB0 := Lib.hid hb0
  clear hs hT hd hB hx0 hW0 hb0
  go_enter Tryz.func38, Tryz.ntmps38
  go_wp2_with fail
  rw [HW0.out]
  go_loopw [3, 4] (fun v i wr => ∃ j : Nat, j ≤ m ∧ i = .int .i64 j ∧ Own .i64 3 W0 wr v j (fun i => (Tr.kid t.kids i).num)) (fun _ i _ => m - (intOf i).toNat)
  case atStart => exact ⟨0, Nat.zero_le _, rfl, World.ownsRow_nil _ _ _ _, Below.refl _ _⟩
  case round =>
    obtain ⟨j, hj, rfl, hown⟩ := hrel
    have hX := (hown.below.block _ (block_lt HX0.out)).trans HX0.out
    have x0 : wr.cell? ⟨w.heap.size, 0, none⟩ = some (.int .i64 6) := block_cell hX 0
    have x1 : wr.cell? ⟨w.heap.size, 1, none⟩ = some (.int .i64 n) := block_cell hX 1
    have x2 : wr.cell? ⟨w.heap.size, 2, none⟩ = some (.slice a m cap) := block_cell hX 2
    clear hX
    by_cases hlt : j < m
    · obtain ⟨b, off, rfl, hbl, c0, d0⟩ := (HT.out.below hown.below).knum j hlt
      obtain ⟨kk, hkk⟩ : ∃ kk, (Tr.kid t.kids j).num = kk := ⟨_, rfl⟩
      rw [hkk] at c0 d0
      have HKK := Lib.hid hkk
      clear hkk
      have g1 : (0 : Int) ≤ (j : Int) := by omega
      have g2 : (j : Int) < (m : Int) := by omega
      go_wp2_with (at_builtin; refine wpList_append_own _ rfl _ _ 71 rfl W0.heap.size 3 i0 (.int .i64 0) 1 8 Tryz.underlying71 hi hz0 hz1 hz2 rfl (by decide) _ _ _ rfl (hown.own.alloc _) ⟨wr.heap.size, 0, none⟩ 1 1 [.int .i64 kk] rfl rfl (cell_one_new _ _ _) (one_cell _ _) (by unfold maxLen; omega) (by omega) (size_alloc_le hown.below _) ?_)
      intro v' w2 hown2 hgrow _
      have HPU := Lib.hid (hown.push kk HKK.out.symm hown2 hgrow)
      clear hown hown2 hgrow x0 x1 x2 c0
      go_wp2_with fail
      go_roundw
      case rel => exact ⟨j + 1, by omega, by go_num, HPU.out⟩
      case measure => simp [intOf]; omega
    · have hjm : j = m := by omega
      subst hjm
      obtain ⟨a3, c3, rfl, hca, hg⟩ := own_slice2 hown.own
      have hbe : Below w.heap.size w wr := chain HB0.out hown.below
      have HBE := Lib.hid hbe
      clear hbe hlt
      have HG := HN
      by_cases hm : j = 1
      · have hd0 := HD.out 0 (by omega)
        obtain ⟨g, rfl⟩ := hg (by omega)
        have c0 := own_int_cell hown 0 (by omega)
        clear hown hg HD HT
        obtain ⟨k0, hk0⟩ : ∃ x, (Tr.kid t.kids 0).num = x := ⟨_, rfl⟩
        obtain ⟨k1, hk1⟩ : ∃ x, (Tr.kid t.kids 1).num = x := ⟨_, rfl⟩
        try simp only [] at c0
        rw [hk0] at c0 hd0 HG
        rw [hk1] at HG
        clear hk0 hk1
        subst hm
        by_cases hlo : 3 ≤ n
        · cases B with
          
          | false =>
            have HF : Hid (nodeB 6 n 1 k0 k1 = false) := by unfold Hid nodeB; rw [HB.out]; simp
            rw [HF.out] at HG
            go_wp2_with fail
            go_quiet ((go_at_call 39; exact Calls.quiet_of_same (sameW (HS.out _))))
            go_wp2_with fail
            go_ret
            exact ⟨ret_bool (by first | (rw [HG.out]; done) | (rw [HG.out]; simp)), below_drewN HBE.out _⟩
          | true =>
            have hsz := hasSz_bd HB.out
            obtain ⟨N, rfl⟩ := Int.eq_ofNat_of_zero_le (show 0 ≤ n by omega)
            obtain ⟨P, hP⟩ : ∃ P, isPr (N : Int) = P := ⟨_, rfl⟩
            have HP : Hid (∀ W, Calls Tryz.prog 40 #[.int .i64 (N : Int)] W fun e w' => e = .returned (.bool P) ∧ W = w') := fun W => by rw [← hP]; exact ref03_Prime N W (by omega) (by omega)
            have HF : Hid (nodeB 6 (N : Int) 1 k0 k1 = (decide (3 ≤ (N : Int) ∧ k0 = (N : Int) - 1) && P)) := by unfold Hid nodeB; rw [HB.out, hP]; simp
            have wn : IntKind.i64.wrap ((N : Int) - 1) = (N : Int) - 1 := IntWalk.i64_in _ (by omega)
            have HWN := Lib.hid wn
            rw [HF.out] at HG
            clear HF hP wn
            cases P with
            | false =>
              have wn := HWN.out
              go_wp2_with fail
              go_quiet ((first | (go_at_call 39; exact Calls.quiet_of_same (sameW (HS.out _))) | (go_at_call 40; exact Calls.quiet_of_same (sameW (HP.out _)))))
              clear wn
              go_wp2_with fail
              go_ret
              exact ⟨ret_bool (by first | (rw [HG.out]; done) | (rw [HG.out]; simp)), below_drewN HBE.out _⟩
            | true =>
              by_cases hk : k0 = (N : Int) - 1
              · have b5 : (k0 == (N : Int) - 1) = true := btrue hk
                have HK := Lib.hid hk
                have wn := HWN.out
                clear hk
                go_wp2_with fail
                go_quiet ((first | (go_at_call 39; exact Calls.quiet_of_same (sameW (HS.out _))) | (go_at_call 40; exact Calls.quiet_of_same (sameW (HP.out _)))))
                clear wn
                go_wp2_with fail
                go_ret
                exact ⟨ret_bool (by first | (rw [HG.out]; done) | (rw [HG.out]; have := HK.out; simp; omega)), below_drewN HBE.out _⟩
              · have b5 : (k0 == (N : Int) - 1) = false := bno hk
                have HK := Lib.hid hk
                have wn := HWN.out
                clear hk
                go_wp2_with fail
                go_quiet ((first | (go_at_call 39; exact Calls.quiet_of_same (sameW (HS.out _))) | (go_at_call 40; exact Calls.quiet_of_same (sameW (HP.out _)))))
                clear wn
                go_wp2_with fail
                go_ret
                exact ⟨ret_bool (by first | (rw [HG.out]; done) | (rw [HG.out]; have := HK.out; simp; intros; omega)), below_drewN HBE.out _⟩
        · have HF : Hid (nodeB 6 n 1 k0 k1 = false) := by unfold Hid nodeB; simp; intros; omega
          have hlo2 : decide (n ≥ 3) = false := by simp; omega
          rw [HF.out] at HG
          go_wp2_with fail
          go_quiet (fail)
          go_wp2_with fail
          go_ret
          exact ⟨ret_bool (by first | (rw [HG.out]; done) | (rw [HG.out]; simp)), below_drewN HBE.out _⟩
      · skip
        have HF : Hid (nodeB 6 n j (Tr.kid t.kids 0).num (Tr.kid t.kids 1).num = false) := by unfold Hid nodeB; simp [hm]
        rw [HF.out] at HG
        have hm1 : ((j : Int) == 1) = false := bno (by omega)
        have hn1 : ((j : Int) != 1) = true := bdiff (by omega)
        clear hown hg
        go_wp2_with fail
        go_quiet (fail)
        go_wp2_with fail
        go_ret
        exact ⟨ret_bool (by first | (rw [HG.out]; done) | (rw [HG.out]; simp)), below_drewN HBE.out _⟩
set_option maxHeartbeats 1600000 in
theorem ref14_Node_7 (t : Tr) (n : Int) (a : Option Addr) (m cap : Nat) (w : World) (F : Nat → Prop) (hs : t.size ≤ 4194304) (hT : IsT w F 7 n a m cap t) :
    Calls Tryz.prog 38 #[.agg #[.int .i64 7, .int .i64 n, .slice a m cap]] w fun e w' => e = .returned (.bool (nodeOk t)) ∧ Below w.heap.size w w' := by
  obtain ⟨i0, hi, hz0, hz1, hz2⟩ := info_parts info_int
  have hn := hT.fn
  have hmm : m ≤ 4194304 := by
    have h1 := Tr.len_le_sizeL t.kids
    rw [Tr.size_kids] at hs
    rw [hT.em]; omega
  have HN : Hid (nodeOk t = nodeB 7 n m (Tr.kid t.kids 0).num (Tr.kid t.kids 1).num) := by unfold Hid nodeOk; rw [hT.ek, hT.en, hT.em]
  have hd : ∀ i, i < m → -9223372036854775808 ≤ (Tr.kid t.kids i).num ∧ (Tr.kid t.kids i).num < 9223372036854775808 := fun i h => by
    obtain ⟨_, _, _, _, _, d⟩ := hT.knum i h
    exact d
  have HD := Lib.hid hd
  obtain ⟨B, hB⟩ : ∃ B, hasSz n = B := ⟨_, rfl⟩
  have HS : Hid (∀ W, Calls Tryz.prog 39 #[.int .i64 n] W fun e w' => e = .returned (.bool B) ∧ W = w') := fun W => by
    cases B with
    | true => exact refHas_yes n W hB
    | false => exact refHas_no n W hB hn
  have HB := Lib.hid hB
  obtain ⟨W0, hW0⟩ : ∃ W0, w.alloc (.cells #[.int .i64 7, .int .i64 n, .slice a m cap] 24) = W0 := ⟨_, rfl⟩
  have hx0 : W0.heap[w.heap.size]? = some (.cells #[.int .i64 7, .int .i64 n, .slice a m cap] 24 (0, 0)) := by rw [← hW0]; exact block_new rfl
  have hb0 : Below w.heap.size w W0 := by rw [← hW0]; exact (Below.refl _ _).alloc (Nat.le_refl _) _
  have HT := Lib.hid (hT.below hb0)
  have HX0 := Lib.hid hx0
  have HW0 := Lib.hid hW0
  have HB0 := Lib.hid hb0
  clear hs hT hd hB hx0 hW0 hb0
  go_enter Tryz.func38, Tryz.ntmps38
  go_wp2_with fail
  rw [HW0.out]
  go_loopw [3, 4] (fun v i wr => ∃ j : Nat, j ≤ m ∧ i = .int .i64 j ∧ Own .i64 3 W0 wr v j (fun i => (Tr.kid t.kids i).num)) (fun _ i _ => m - (intOf i).toNat)
  case atStart => exact ⟨0, Nat.zero_le _, rfl, World.ownsRow_nil _ _ _ _, Below.refl _ _⟩
  case round =>
    obtain ⟨j, hj, rfl, hown⟩ := hrel
    have hX := (hown.below.block _ (block_lt HX0.out)).trans HX0.out
    have x0 : wr.cell? ⟨w.heap.size, 0, none⟩ = some (.int .i64 7) := block_cell hX 0
    have x1 : wr.cell? ⟨w.heap.size, 1, none⟩ = some (.int .i64 n) := block_cell hX 1
    have x2 : wr.cell? ⟨w.heap.size, 2, none⟩ = some (.slice a m cap) := block_cell hX 2
    clear hX
    by_cases hlt : j < m
    · obtain ⟨b, off, rfl, hbl, c0, d0⟩ := (HT.out.below hown.below).knum j hlt
      obtain ⟨kk, hkk⟩ : ∃ kk, (Tr.kid t.kids j).num = kk := ⟨_, rfl⟩
      rw [hkk] at c0 d0
      have HKK := Lib.hid hkk
      clear hkk
      have g1 : (0 : Int) ≤ (j : Int) := by omega
      have g2 : (j : Int) < (m : Int) := by omega
      go_wp2_with (at_builtin; refine wpList_append_own _ rfl _ _ 71 rfl W0.heap.size 3 i0 (.int .i64 0) 1 8 Tryz.underlying71 hi hz0 hz1 hz2 rfl (by decide) _ _ _ rfl (hown.own.alloc _) ⟨wr.heap.size, 0, none⟩ 1 1 [.int .i64 kk] rfl rfl (cell_one_new _ _ _) (one_cell _ _) (by unfold maxLen; omega) (by omega) (size_alloc_le hown.below _) ?_)
      intro v' w2 hown2 hgrow _
      have HPU := Lib.hid (hown.push kk HKK.out.symm hown2 hgrow)
      clear hown hown2 hgrow x0 x1 x2 c0
      go_wp2_with fail
      go_roundw
      case rel => exact ⟨j + 1, by omega, by go_num, HPU.out⟩
      case measure => simp [intOf]; omega
    · have hjm : j = m := by omega
      subst hjm
      obtain ⟨a3, c3, rfl, hca, hg⟩ := own_slice2 hown.own
      have hbe : Below w.heap.size w wr := chain HB0.out hown.below
      have HBE := Lib.hid hbe
      clear hbe hlt
      have HG := HN
      by_cases hm : j = 1
      · have hd0 := HD.out 0 (by omega)
        obtain ⟨g, rfl⟩ := hg (by omega)
        have c0 := own_int_cell hown 0 (by omega)
        clear hown hg HD HT
        obtain ⟨k0, hk0⟩ : ∃ x, (Tr.kid t.kids 0).num = x := ⟨_, rfl⟩
        obtain ⟨k1, hk1⟩ : ∃ x, (Tr.kid t.kids 1).num = x := ⟨_, rfl⟩
        try simp only [] at c0
        rw [hk0] at c0 hd0 HG
        rw [hk1] at HG
        clear hk0 hk1
        subst hm
        by_cases hlo : 2 ≤ n
        · cases B with
          
          | false =>
            have HF : Hid (nodeB 7 n 1 k0 k1 = false) := by unfold Hid nodeB; rw [HB.out]; simp
            rw [HF.out] at HG
            go_wp2_with fail
            go_quiet ((go_at_call 39; exact Calls.quiet_of_same (sameW (HS.out _))))
            go_wp2_with fail
            go_ret
            exact ⟨ret_bool (by first | (rw [HG.out]; done) | (rw [HG.out]; simp)), below_drewN HBE.out _⟩
          | true =>
            have hsz := hasSz_bd HB.out
            obtain ⟨P, hP⟩ : ∃ P, hasP2 k0 = P := ⟨_, rfl⟩
            have HP : Hid (∀ W, Calls Tryz.prog 64 #[.int .i64 k0] W fun e w' => e = .returned (.bool P) ∧ W = w') := fun W => by rw [← hP]; exact ref14_power k0 W hd0
            have HF : Hid (nodeB 7 n 1 k0 k1 = (decide (2 ≤ n ∧ 2 * n - 1 ≤ k0) && P)) := by unfold Hid nodeB; rw [HB.out, hP]; simp
            have wn1 : IntKind.i64.wrap (2 * n) = 2 * n := IntWalk.i64_in _ (by omega)
            have wn2 : IntKind.i64.wrap (2 * n - 1) = 2 * n - 1 := IntWalk.i64_in _ (by omega)
            have HWN1 := Lib.hid wn1
            have HWN2 := Lib.hid wn2
            rw [HF.out] at HG
            clear HF hP wn1 wn2
            cases P with
            | false =>
              have wn1 := HWN1.out
              have wn2 := HWN2.out
              go_wp2_with fail
              go_quiet ((first | (go_at_call 39; exact Calls.quiet_of_same (sameW (HS.out _))) | (go_at_call 64; exact Calls.quiet_of_same (sameW (HP.out _)))))
              clear wn1 wn2
              go_wp2_with fail
              go_ret
              exact ⟨ret_bool (by first | (rw [HG.out]; done) | (rw [HG.out]; simp)), below_drewN HBE.out _⟩
            | true =>
              by_cases hk : 2 * n - 1 ≤ k0
              · have b5 : decide (k0 ≥ 2 * n - 1) = true := by simp; omega
                have wn1 := HWN1.out
                have wn2 := HWN2.out
                go_wp2_with fail
                go_quiet ((first | (go_at_call 39; exact Calls.quiet_of_same (sameW (HS.out _))) | (go_at_call 64; exact Calls.quiet_of_same (sameW (HP.out _)))))
                clear wn1 wn2
                go_wp2_with fail
                go_ret
                exact ⟨ret_bool (by first | (rw [HG.out]; done) | (rw [HG.out]; simp; omega)), below_drewN HBE.out _⟩
              · have b5 : decide (k0 ≥ 2 * n - 1) = false := by simp; omega
                have wn1 := HWN1.out
                have wn2 := HWN2.out
                go_wp2_with fail
                go_quiet ((first | (go_at_call 39; exact Calls.quiet_of_same (sameW (HS.out _))) | (go_at_call 64; exact Calls.quiet_of_same (sameW (HP.out _)))))
                clear wn1 wn2
                go_wp2_with fail
                go_ret
                exact ⟨ret_bool (by first | (rw [HG.out]; done) | (rw [HG.out]; simp; intros; omega)), below_drewN HBE.out _⟩
        · have HF : Hid (nodeB 7 n 1 k0 k1 = false) := by unfold Hid nodeB; simp; intros; omega
          have hlo2 : decide (n ≥ 2) = false := by simp; omega
          rw [HF.out] at HG
          go_wp2_with fail
          go_quiet (fail)
          go_wp2_with fail
          go_ret
          exact ⟨ret_bool (by first | (rw [HG.out]; done) | (rw [HG.out]; simp)), below_drewN HBE.out _⟩
      · skip
        have HF : Hid (nodeB 7 n j (Tr.kid t.kids 0).num (Tr.kid t.kids 1).num = false) := by unfold Hid nodeB; simp [hm]
        rw [HF.out] at HG
        have hm1 : ((j : Int) == 1) = false := bno (by omega)
        have hn1 : ((j : Int) != 1) = true := bdiff (by omega)
        clear hown hg
        go_wp2_with fail
        go_quiet (fail)
        go_wp2_with fail
        go_ret
        exact ⟨ret_bool (by first | (rw [HG.out]; done) | (rw [HG.out]; simp)), below_drewN HBE.out _⟩
set_option maxHeartbeats 1600000 in
theorem ref14_Node_0 (t : Tr) (k : Int) (n : Int) (a : Option Addr) (m cap : Nat) (w : World) (F : Nat → Prop) (hs : t.size ≤ 4194304) (hT : IsT w F k n a m cap t) (hk : k < 1 ∨ 7 < k) :
    Calls Tryz.prog 38 #[.agg #[.int .i64 k, .int .i64 n, .slice a m cap]] w fun e w' => e = .returned (.bool (nodeOk t)) ∧ Below w.heap.size w w' := by
  obtain ⟨i0, hi, hz0, hz1, hz2⟩ := info_parts info_int
  have hn := hT.fn
  have hmm : m ≤ 4194304 := by
    have h1 := Tr.len_le_sizeL t.kids
    rw [Tr.size_kids] at hs
    rw [hT.em]; omega
  have HN : Hid (nodeOk t = nodeB k n m (Tr.kid t.kids 0).num (Tr.kid t.kids 1).num) := by unfold Hid nodeOk; rw [hT.ek, hT.en, hT.em]
  have hd : ∀ i, i < m → -9223372036854775808 ≤ (Tr.kid t.kids i).num ∧ (Tr.kid t.kids i).num < 9223372036854775808 := fun i h => by
    obtain ⟨_, _, _, _, _, d⟩ := hT.knum i h
    exact d
  have HD := Lib.hid hd
  obtain ⟨B, hB⟩ : ∃ B, hasSz n = B := ⟨_, rfl⟩
  have HS : Hid (∀ W, Calls Tryz.prog 39 #[.int .i64 n] W fun e w' => e = .returned (.bool B) ∧ W = w') := fun W => by
    cases B with
    | true => exact refHas_yes n W hB
    | false => exact refHas_no n W hB hn
  have HB := Lib.hid hB
  obtain ⟨W0, hW0⟩ : ∃ W0, w.alloc (.cells #[.int .i64 k, .int .i64 n, .slice a m cap] 24) = W0 := ⟨_, rfl⟩
  have hx0 : W0.heap[w.heap.size]? = some (.cells #[.int .i64 k, .int .i64 n, .slice a m cap] 24 (0, 0)) := by rw [← hW0]; exact block_new rfl
  have hb0 : Below w.heap.size w W0 := by rw [← hW0]; exact (Below.refl _ _).alloc (Nat.le_refl _) _
  have HT := Lib.hid (hT.below hb0)
  have HX0 := Lib.hid hx0
  have HW0 := Lib.hid hW0
  have HB0 := Lib.hid hb0
  clear hs hT hd hB hx0 hW0 hb0
  go_enter Tryz.func38, Tryz.ntmps38
  go_wp2_with fail
  rw [HW0.out]
  go_loopw [3, 4] (fun v i wr => ∃ j : Nat, j ≤ m ∧ i = .int .i64 j ∧ Own .i64 3 W0 wr v j (fun i => (Tr.kid t.kids i).num)) (fun _ i _ => m - (intOf i).toNat)
  case atStart => exact ⟨0, Nat.zero_le _, rfl, World.ownsRow_nil _ _ _ _, Below.refl _ _⟩
  case round =>
    obtain ⟨j, hj, rfl, hown⟩ := hrel
    have hX := (hown.below.block _ (block_lt HX0.out)).trans HX0.out
    have x0 : wr.cell? ⟨w.heap.size, 0, none⟩ = some (.int .i64 k) := block_cell hX 0
    have x1 : wr.cell? ⟨w.heap.size, 1, none⟩ = some (.int .i64 n) := block_cell hX 1
    have x2 : wr.cell? ⟨w.heap.size, 2, none⟩ = some (.slice a m cap) := block_cell hX 2
    clear hX
    by_cases hlt : j < m
    · obtain ⟨b, off, rfl, hbl, c0, d0⟩ := (HT.out.below hown.below).knum j hlt
      obtain ⟨kk, hkk⟩ : ∃ kk, (Tr.kid t.kids j).num = kk := ⟨_, rfl⟩
      rw [hkk] at c0 d0
      have HKK := Lib.hid hkk
      clear hkk
      have g1 : (0 : Int) ≤ (j : Int) := by omega
      have g2 : (j : Int) < (m : Int) := by omega
      go_wp2_with (at_builtin; refine wpList_append_own _ rfl _ _ 71 rfl W0.heap.size 3 i0 (.int .i64 0) 1 8 Tryz.underlying71 hi hz0 hz1 hz2 rfl (by decide) _ _ _ rfl (hown.own.alloc _) ⟨wr.heap.size, 0, none⟩ 1 1 [.int .i64 kk] rfl rfl (cell_one_new _ _ _) (one_cell _ _) (by unfold maxLen; omega) (by omega) (size_alloc_le hown.below _) ?_)
      intro v' w2 hown2 hgrow _
      have HPU := Lib.hid (hown.push kk HKK.out.symm hown2 hgrow)
      clear hown hown2 hgrow x0 x1 x2 c0
      go_wp2_with fail
      go_roundw
      case rel => exact ⟨j + 1, by omega, by go_num, HPU.out⟩
      case measure => simp [intOf]; omega
    · have hjm : j = m := by omega
      subst hjm
      obtain ⟨a3, c3, rfl, hca, hg⟩ := own_slice2 hown.own
      have hbe : Below w.heap.size w wr := chain HB0.out hown.below
      have HBE := Lib.hid hbe
      clear hbe hlt
      have HG := HN
      have HF : Hid (nodeB k n j (Tr.kid t.kids 0).num (Tr.kid t.kids 1).num = false) := by unfold Hid nodeB; rw [if_neg (by omega), if_neg (by omega), if_neg (by omega), if_neg (by omega), if_neg (by omega), if_neg (by omega), if_neg (by omega)]
      rw [HF.out] at HG
      have e1 : (k == 1) = false := bno (by omega)
      have e2 : (k == 2) = false := bno (by omega)
      have e3 : (k == 3) = false := bno (by omega)
      have e4 : (k == 4) = false := bno (by omega)
      have e5 : (k == 5) = false := bno (by omega)
      have e6 : (k == 6) = false := bno (by omega)
      have e7 : (k == 7) = false := bno (by omega)
      clear hown hg hk
      go_wp2_with fail
      go_ret
      exact ⟨ret_bool (by rw [HG.out]; skip), HBE.out⟩
theorem ref14_Node (t : Tr) (k n : Int) (a : Option Addr) (m cap : Nat) (w : World) (F : Nat → Prop) (hs : t.size ≤ 4194304) (hT : IsT w F k n a m cap t) :
    Calls Tryz.prog 38 #[.agg #[.int .i64 k, .int .i64 n, .slice a m cap]] w fun e w' => e = .returned (.bool (nodeOk t)) ∧ Below w.heap.size w w' := by
  by_cases h : k < 1 ∨ 7 < k
  · exact ref14_Node_0 t k n a m cap w F hs hT h
  · rcases (show k = 1 ∨ k = 2 ∨ k = 3 ∨ k = 4 ∨ k = 5 ∨ k = 6 ∨ k = 7 by omega) with rfl | rfl | rfl | rfl | rfl | rfl | rfl
    · exact ref14_Node_1 t n a m cap w F hs hT
    · exact ref14_Node_2 t n a m cap w F hs hT
    · exact ref14_Node_3 t n a m cap w F hs hT
    · exact ref14_Node_4 t n a m cap w F hs hT
    · exact ref14_Node_5 t n a m cap w F hs hT
    · exact ref14_Node_6 t n a m cap w F hs hT
    · exact ref14_Node_7 t n a m cap w F hs hT
end Go.Proofs.YtcckfeikaolfgaaGreat

namespace Go.Proofs.YtcckfeikaolfgaaGreat
open Go.RowKit
set_option linter.unusedVariables false
set_option linter.unusedSimpArgs false
set_option maxRecDepth 100000
set_option maxRecDepth 20000
namespace Tr
/-- The first node that is not right is there just where not all nodes are right. -/
theorem wrong_all' (N : Nat) : ∀ t : Tr, t.size ≤ N → (t.wrong.isSome = false ↔ ∀ u ∈ t.nodes, nodeOk u = true) := by
  induction N with
  | zero => intro t h; have := size_pos t; omega
  | succ N ih =>
    intro t h
    rw [size_kids] at h
    have hL : ∀ (ks : List Tr) (i : Nat), sizeL ks ≤ N → ((wrongL i ks).isSome = false ↔ ∀ u ∈ nodesL ks, nodeOk u = true) := by
      intro ks
      induction ks with
      | nil => intro i _; simp [wrongL, nodesL]
      | cons x r ih2 =>
        intro i hs
        simp only [sizeL] at hs
        have hx := ih x (by omega)
        simp only [wrongL, nodesL, List.mem_append]
        cases hw : wrong x with
        | none =>
          rw [hw] at hx
          simp only []
          rw [ih2 (i + 1) (by omega)]
          constructor
          · intro h u hu
            rcases hu with hu | hu
            · exact hx.1 rfl u hu
            · exact h u hu
          · intro h u hu; exact h u (.inr hu)
        | some p =>
          rw [hw] at hx
          simp only [Option.isSome_some, Bool.true_eq_false, false_iff]
          intro h
          have := hx.2 (fun u hu => h u (.inl hu))
          simp at this
    rw [wrong_kids, nodes_kids]
    by_cases hn : nodeOk t = true
    · rw [if_pos hn, hL t.kids 0 (by omega)]
      constructor
      · intro h u hu
        rcases List.mem_cons.1 hu with rfl | hu
        · exact hn
        · exact h u hu
      · intro h u hu; exact h u (List.mem_cons.2 (.inr hu))
    · rw [if_neg hn]
      simp only [Option.isSome_some, Bool.true_eq_false, false_iff]
      intro h; exact hn (h t (by simp))
theorem wrong_all (t : Tr) : t.wrong.isSome = false ↔ ∀ u ∈ t.nodes, nodeOk u = true := wrong_all' _ t (Nat.le_refl _)
theorem nodes_le' (N : Nat) : ∀ t : Tr, t.size ≤ N → ∀ u ∈ t.nodes, u.size ≤ t.size := by
  induction N with
  | zero => intro t h; have := size_pos t; omega
  | succ N ih =>
    intro t h u hu
    rw [nodes_kids] at hu
    rcases List.mem_cons.1 hu with rfl | hu
    · exact Nat.le_refl _
    · have hk : ∀ ks : List Tr, sizeL ks ≤ N → u ∈ nodesL ks → u.size ≤ sizeL ks := by
        intro ks
        induction ks with
        | nil => intro _ h; simp [nodesL] at h
        | cons x r ih2 =>
          intro hs hu
          simp only [nodesL, List.mem_append] at hu
          simp only [sizeL] at hs ⊢
          rcases hu with hu | hu
          · have := ih x (by omega) u hu; omega
          · have := ih2 (by omega) hu; omega
      rw [size_kids t] at h ⊢
      have := hk t.kids (by omega) hu
      omega
theorem nodes_le (t : Tr) : ∀ u ∈ t.nodes, u.size ≤ t.size := nodes_le' _ t (Nat.le_refl _)
end Tr
set_option maxHeartbeats 4000000 in
theorem ref14_Check (t : Tr) (k n : Int) (a : Option Addr) (m cap : Nat) (w : World) (B : Nat) (hB : B ≤ w.heap.size) (hs : t.size ≤ 4194304) (hT : IsT w (Lt B) k n a m cap t) :
    Calls Tryz.prog 24 #[.agg #[.int .i64 k, .int .i64 n, .slice a m cap]] w fun e w' => e = .returned (.int .i64 (chk t)) ∧ Below w.heap.size w w' := by
  obtain ⟨q, hq⟩ : ∃ q, t.size = q := ⟨_, rfl⟩
  have hnl : t.nodes.length = q := by rw [Tr.nodes_len _ t (Nat.le_refl _), hq]
  have CL : Hid (∀ W, Below w.heap.size w W → Calls Tryz.prog 12 #[.agg #[.int .i64 k, .int .i64 n, .slice a m cap]] W fun e w' => ∃ g cp xs, e = .returned (.slice (some ⟨g, 0, none⟩) q cp) ∧ w'.ownsRow W.heap.size 24 3 (.slice (some ⟨g, 0, none⟩) q cp) q xs ∧ CellsT w' (Lt B) xs t.nodes ∧ Below W.heap.size W w') := fun W hb => by
    have := ref_List 4194304 B (by omega) t k n a m cap W (by omega) (hT.below hb) (Nat.le_trans hB hb.size)
    unfold GivesT at this
    rw [hnl] at this
    exact this
  have CD : Hid (∀ W, Below w.heap.size w W → Calls Tryz.prog 37 #[.agg #[.int .i64 k, .int .i64 n, .slice a m cap]] W fun e w' => e = .returned (.int .i64 (t.depth : Nat)) ∧ Below W.heap.size W w') := fun W hb => ref13_Depth 4194304 (by omega) t k n a m cap W _ (by omega) (hT.below hb)
  have HC : Hid (chk t = if decide (60 < q) || decide (12 < t.depth) then 12 else if t.wrong.isSome then 8 else 0) := by unfold Hid chk bigB; rw [hq]
  have hsz : ∀ u ∈ t.nodes, u.size ≤ 4194304 := fun u hu => Nat.le_trans (Tr.nodes_le t u hu) hs
  have HSZ := Lib.hid hsz
  obtain ⟨d, hd⟩ : ∃ d, t.depth = d := ⟨_, rfl⟩
  rw [hd] at CD HC
  rw [HC.out]
  have HNL := Lib.hid hnl
  have HWA := Lib.hid (Tr.wrong_all t)
  obtain ⟨R, hR⟩ : ∃ R, t.wrong.isSome = R := ⟨_, rfl⟩
  rw [hR] at HWA ⊢
  obtain ⟨ns, hns⟩ : ∃ ns, t.nodes = ns := ⟨_, rfl⟩
  rw [hns] at CL HNL HWA HSZ
  clear hsz hR hd hnl HC hT hns hs hq
  by_cases h60 : 60 < q
  · have t1 : decide ((q : Int) > 60) = true := by simp; omega
    have t2 : (60 : Int) < (q : Int) := by omega
    rw [if_pos (by simp [h60])]
    go_enter Tryz.func24, Tryz.ntmps24
    go_wp2_with fail
    refine (CL.out _ ((Below.refl _ _).alloc (Nat.le_refl _) _)).mono ?_; rintro e w1 ⟨g, cp, xs, rfl, ho, hct, hb1⟩
    have hb := chainA (Below.refl w.heap.size w) hb1
    clear ho hct hb1
    go_wp2_with fail
    go_ret
    exact ⟨rfl, hb⟩
  · have t1 : decide ((q : Int) > 60) = false := by simp; omega
    have t2 : ¬ (60 : Int) < (q : Int) := by omega
    rw [show decide (60 < q) = false by simp; omega, Bool.false_or]
    by_cases h12 : 12 < d
    · have t3 : decide ((d : Int) > 12) = true := by simp; omega
      have t4 : (12 : Int) < (d : Int) := by omega
      rw [if_pos (by simp [h12])]
      go_enter Tryz.func24, Tryz.ntmps24
      go_wp2_with fail
      refine (CL.out _ ((Below.refl _ _).alloc (Nat.le_refl _) _)).mono ?_; rintro e w1 ⟨g, cp, xs, rfl, ho, hct, hb1⟩
      have hb := chainA (Below.refl w.heap.size w) hb1
      have hx := (hb1.block w.heap.size (by simp)).trans (block_new rfl)
      have x0 : w1.cell? ⟨w.heap.size, 0, none⟩ = some (.int .i64 k) := block_cell hx 0
      have x1 : w1.cell? ⟨w.heap.size, 1, none⟩ = some (.int .i64 n) := block_cell hx 1
      have x2 : w1.cell? ⟨w.heap.size, 2, none⟩ = some (.slice a m cap) := block_cell hx 2
      have HBL := Lib.hid hb
      clear ho hct hb1 hx hb
      go_wp2_with fail
      refine (CD.out _ HBL.out).mono ?_; rintro e w2 ⟨rfl, hb2⟩
      have hb := chain HBL.out hb2
      clear hb2 x0 x1 x2
      go_wp2_with fail
      go_ret
      exact ⟨rfl, hb⟩
    · have t3 : decide ((d : Int) > 12) = false := by simp; omega
      have t4 : ¬ (12 : Int) < (d : Int) := by omega
      rw [if_neg (by simp; omega)]
      obtain ⟨V, hV⟩ : ∃ V : Int, (if R = true then (8 : Int) else 0) = V := ⟨_, rfl⟩
      rw [hV]
      have HVV := Lib.hid hV
      clear hV
      go_enter Tryz.func24, Tryz.ntmps24
      go_wp2_with fail
      refine (CL.out _ ((Below.refl _ _).alloc (Nat.le_refl _) _)).mono ?_; rintro e w1 ⟨g, cp, xs, rfl, ho, hct, hb1⟩
      have hb := chainA (Below.refl w.heap.size w) hb1
      have hx := (hb1.block w.heap.size (by simp)).trans (block_new rfl)
      have x0 : w1.cell? ⟨w.heap.size, 0, none⟩ = some (.int .i64 k) := block_cell hx 0
      have x1 : w1.cell? ⟨w.heap.size, 1, none⟩ = some (.int .i64 n) := block_cell hx 1
      have x2 : w1.cell? ⟨w.heap.size, 2, none⟩ = some (.slice a m cap) := block_cell hx 2
      have HBL := Lib.hid hb
      have OW := Lib.hid ho
      have CT := Lib.hid hct
      clear ho hct hb1 hx hb
      go_wp2_with fail
      refine (CD.out _ HBL.out).mono ?_; rintro e w2 ⟨rfl, hb2⟩
      have HBL := Lib.hid (chain HBL.out hb2)
      have OW := Lib.hid (own_later3 OW.out hb2)
      have CT := Lib.hid (CT.out.later hb2)
      clear hb2 x0 x1 x2
      go_wp2_with fail
      go_loopw [4] (fun i wr => ∃ j : Nat, j ≤ q ∧ i = .int .i64 j ∧ Below w2.heap.size w2 wr ∧ Hid (∀ i, i < j → nodeOk (Tr.kid ns i) = true)) (fun i _ => q - (intOf i).toNat)
      case atStart => exact ⟨0, Nat.zero_le _, rfl, Below.refl _ _, fun i hi => by omega⟩
      case round =>
        obtain ⟨j, hj, rfl, hbel, HA⟩ := hrel
        by_cases hlt : j < q
        · obtain ⟨k2, n2, a2, m2, c2, e0, e1, e2, hT2⟩ := own_cells (own_later3 OW.out hbel) (CT.out.later hbel) HNL.out j hlt
          simp only [Nat.zero_add] at e0 e1 e2
          have hmem : Tr.kid ns j ∈ ns := Tr.kid_mem (by rw [HNL.out]; exact hlt)
          obtain ⟨B2, hB2⟩ : ∃ B2, nodeOk (Tr.kid ns j) = B2 := ⟨_, rfl⟩
          have CN : Hid (∀ W, Below wr.heap.size wr W → Calls Tryz.prog 38 #[.agg #[.int .i64 k2, .int .i64 n2, .slice a2 m2 c2]] W fun e w' => e = .returned (.bool B2) ∧ Below W.heap.size W w') := fun W hb => by
            rw [← hB2]; exact ref14_Node _ k2 n2 a2 m2 c2 W _ (HSZ.out _ hmem) (hT2.below hb)
          have HB2 := Lib.hid hB2
          have HMEM := Lib.hid hmem
          have g1 : (0 : Int) ≤ (j : Int) := by omega
          have g2 : (j : Int) < (q : Int) := by omega
          clear hT2 hmem hB2
          cases B2 with
          | true =>
            go_wp2_with fail
            refine (CN.out _ (Below.refl _ _)).mono ?_; rintro e w3 ⟨rfl, hb3⟩
            have HBB := Lib.hid (chain hbel hb3)
            clear hb3 e0 e1 e2
            go_wp2_with fail
            go_roundw
            case rel =>
              refine ⟨j + 1, by omega, by go_num, HBB.out, fun i hi => ?_⟩
              by_cases hij : i < j
              · exact HA.out i hij
              · obtain rfl : i = j := by omega
                exact HB2.out
            case measure => simp [intOf]; omega
          | false =>
            go_wp2_with fail
            refine (CN.out _ (Below.refl _ _)).mono ?_; rintro e w3 ⟨rfl, hb3⟩
            have HBB := Lib.hid (chain HBL.out (chain hbel hb3))
            clear hb3 e0 e1 e2
            have HRR : Hid (R = true) := by
              unfold Hid
              cases R with
              | true => rfl
              | false => have := HWA.out.1 rfl _ HMEM.out; rw [HB2.out] at this; cases this
            go_wp2_with fail
            go_ret
            exact ⟨ret_int (by rw [← HVV.out, HRR.out]; rfl), HBB.out⟩
        · have hjq : j = q := by omega
          have HRR : Hid (R = false) := by
            unfold Hid
            rw [HWA.out]
            intro u hu
            obtain ⟨i, hi, rfl⟩ := List.getElem_of_mem hu
            have := HA.out i (by have := HNL.out; omega)
            rwa [Tr.kid_get hi] at this
          have HBB := Lib.hid (chain HBL.out hbel)
          clear HA hbel
          go_wp2_with fail
          go_ret
          exact ⟨ret_int (by rw [← HVV.out, HRR.out]; rfl), HBB.out⟩
end Go.Proofs.YtcckfeikaolfgaaGreat

