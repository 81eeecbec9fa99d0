/- One pass: what is done with a pair; all pairs. -/
import Derived.Test.YtlgklkhijmeldaaStockA
import Derived.Test.YtlgklkhijmeldaaVecO
namespace Go.Proofs.Ytlgklkhijmeldaa
open Go.RowKit Sm
set_option linter.unusedVariables false
set_option linter.unusedSimpArgs false
set_option maxRecDepth 100000

theorem cellFar (W : World) (g r b i : Nat) (v : Value) (h : g ≠ b) : ((W.setCell ⟨g, r, none⟩ v).drew).cell? ⟨b, i, none⟩ = W.cell? ⟨b, i, none⟩ :=
  World.cell?_setCell_other W ⟨g, r, none⟩ ⟨b, i, none⟩ v (fun e => h (by cases e; rfl))

/-- What a call leaves that writes block g alone. -/
def Kept (g : Nat) (W W' : World) : Prop := W.heap.size ≤ W'.heap.size ∧ ∀ b i, b ≠ g → b < W.heap.size → W'.cell? ⟨b, i, none⟩ = W.cell? ⟨b, i, none⟩

theorem Kept.trans {g : Nat} {A B C : World} (h : Kept g A B) (k : Kept g B C) : Kept g A C := ⟨Nat.le_trans h.1 k.1, fun b i hb hl => (k.2 b i hb (Nat.lt_of_lt_of_le hl h.1)).trans (h.2 b i hb hl)⟩

set_option maxHeartbeats 1000000 in
theorem stock_one1 (a b s d t n g px py pw : Nat) (ax aw : Option Addr) (cx cw : Nat) (xs ws : List Int) (f : Nat → Int) (w W : World)
    (hx : Row .u64 w ax xs) (hw : Row .u64 w aw ws) (hxl : xs.length = n) (hwl : ws.length = n) (hn : n ≤ 16777216)
    (hpx : W.cell? ⟨px, 0, none⟩ = some (.slice ax n cx)) (hpy : W.cell? ⟨py, 0, none⟩ = some (.slice (some ⟨g, 0, none⟩) n n)) (hpw : W.cell? ⟨pw, 0, none⟩ = some (.slice aw n cw))
    (n1 : g ≠ px) (n2 : g ≠ py) (n3 : g ≠ pw) (hown : OwnAt .u64 45 w W g n f) (ha : a < n) (hb : b < n) (hs : s < n) (hd : d < n) (ht : t < n) :
    Calls Try.prog 73 #[.int .i64 a, .int .i64 b, .int .i64 s, .int .i64 d, .int .i64 t, .pointer (some ⟨px, 0, none⟩), .pointer (some ⟨py, 0, none⟩), .pointer (some ⟨pw, 0, none⟩)] W
      fun e W' => (∃ v, e = .returned v) ∧ Kept g W W' ∧ OwnAt .u64 45 w W' g n (fun j => if j = d then (nth xs a - nth xs b) * nth ws t % 18446744069414584321 else if j = s then (nth xs a + nth xs b) % 18446744069414584321 else f j) := by
  have bx := World.block_lt_of_cell? W _ hpx
  have by' := World.block_lt_of_cell? W _ hpy
  have bw := World.block_lt_of_cell? W _ hpw
  obtain ⟨xb, xo, rfl, hcx⟩ := (hx.below hown.below).at (by omega)
  obtain ⟨wb, wo, rfl, hcw⟩ := (hw.below hown.below).at (by omega)
  have hxa := hcx a (by omega)
  have hxb := hcx b (by omega)
  have hwt := hcw t (by omega)
  have fa := fits_u64.1 (hx.wf _ (nth_mem (show a < xs.length by omega)))
  have fb := fits_u64.1 (hx.wf _ (nth_mem (show b < xs.length by omega)))
  have ft := fits_u64.1 (hw.wf _ (nth_mem (show t < ws.length by omega)))
  -- the rows lie ahead of the call's own block
  have hxg : xb < w.heap.size := by
    rcases hx.lies with h1 | ⟨b', o', h1, h2⟩
    · subst h1; simp at hxl; omega
    · cases h1; exact World.block_lt_of_cell? w _ (h2 0 (by omega))
  have hwg : wb < w.heap.size := by
    rcases hw.lies with h1 | ⟨b', o', h1, h2⟩
    · subst h1; simp at hwl; omega
    · cases h1; exact World.block_lt_of_cell? w _ (h2 0 (by omega))
  have hbase := hown.base
  have hst1 := (hown.store s hs ((nth xs a + nth xs b) % 18446744069414584321) (f' := fun j => if j = s then (nth xs a + nth xs b) % 18446744069414584321 else f j) (if_pos rfl) (fun j _ hj => if_neg hj)).later (Below.refl _ _).drew
  have hst2 := (hst1.store d hd ((nth xs a - nth xs b) * nth ws t % 18446744069414584321) (f' := fun j => if j = d then (nth xs a - nth xs b) * nth ws t % 18446744069414584321 else if j = s then (nth xs a + nth xs b) % 18446744069414584321 else f j) (if_pos rfl) (fun j _ hj => if_neg hj)).later (Below.refl _ _).drew
  obtain ⟨x, hxx⟩ : ∃ x, nth xs a = x := ⟨_, rfl⟩
  obtain ⟨y, hyy⟩ : ∃ y, nth xs b = y := ⟨_, rfl⟩
  obtain ⟨z, hzz⟩ : ∃ z, nth ws t = z := ⟨_, rfl⟩
  rw [hxx, hyy, hzz] at hst2
  rw [hxx, hyy] at hst1
  rw [hxx] at hxa fa
  rw [hyy] at hxb fb
  rw [hzz] at hwt ft
  rw [hxx, hyy, hzz]
  have hc1 := hown.cell s hs
  have hf1 := hown.free s
  have hc2 := hst1.cell d hd
  have hf2 := hst1.free d
  obtain ⟨v1, hv1⟩ : ∃ v1, f s = v1 := ⟨_, rfl⟩
  rw [hv1] at hc1
  obtain ⟨v2, hv2⟩ : ∃ v2, (if d = s then (x + y) % 18446744069414584321 else f d) = v2 := ⟨_, rfl⟩
  rw [hv2] at hc2
  have hsub : 0 ≤ (x - y) % 18446744069414584321 ∧ (x - y) % 18446744069414584321 < 18446744069414584321 := by omega
  have hmul : (x - y) % 18446744069414584321 * z % 18446744069414584321 = (x - y) * z % 18446744069414584321 := modmul_l _ _ _
  have HM := Lib.hid hmul
  have hkeep : Kept g W (((((W.setCell ⟨g, s, none⟩ (.int .u64 ((x + y) % 18446744069414584321))).drew).setCell ⟨g, d, none⟩ (.int .u64 ((x - y) * z % 18446744069414584321))).drew)) := ⟨by simp, fun b' i hb' _ => by
    rw [cellFar _ _ _ _ _ _ (Ne.symm hb'), cellFar _ _ _ _ _ _ (Ne.symm hb')]⟩
  have HK := Lib.hid hkeep
  have HST := Lib.hid hst2
  have m1 : ∀ i : Nat, ((W.setCell ⟨g, s, none⟩ (.int .u64 ((x + y) % 18446744069414584321))).drew).cell? ⟨px, 0, none⟩ = some (.slice (some ⟨xb, xo, none⟩) n cx) := fun i => (cellFar _ _ _ _ _ _ n1).trans hpx
  have q1 := m1 0
  have q2 := (cellFar W g s py 0 (.int .u64 ((x + y) % 18446744069414584321)) n2).trans hpy
  have q3 := (cellFar W g s pw 0 (.int .u64 ((x + y) % 18446744069414584321)) n3).trans hpw
  have q4 := (cellFar W g s xb (xo + a) (.int .u64 ((x + y) % 18446744069414584321)) (by omega)).trans hxa
  have q5 := (cellFar W g s xb (xo + b) (.int .u64 ((x + y) % 18446744069414584321)) (by omega)).trans hxb
  have q6 := (cellFar W g s wb (wo + t) (.int .u64 ((x + y) % 18446744069414584321)) (by omega)).trans hwt
  have hlt1 : W.heap.size ≤ ((W.setCell ⟨g, s, none⟩ (.int .u64 ((x + y) % 18446744069414584321))).drew).heap.size := by simp
  obtain ⟨W1, hW1⟩ : ∃ W1, (W.setCell ⟨g, s, none⟩ (.int .u64 ((x + y) % 18446744069414584321))).drew = W1 := ⟨_, rfl⟩
  rw [hW1] at q1 q2 q3 q4 q5 q6 hc2 hf2 HK HST
  have HW1 := Lib.hid hW1
  have g1 : (0 : Int) ≤ (a : Int) := by omega
  have g2 : (a : Int) < (n : Int) := by omega
  have g3 : (0 : Int) ≤ (b : Int) := by omega
  have g4 : (b : Int) < (n : Int) := by omega
  have g5 : (0 : Int) ≤ (s : Int) := by omega
  have g6 : (s : Int) < (n : Int) := by omega
  have g7 : (0 : Int) ≤ (d : Int) := by omega
  have g8 : (d : Int) < (n : Int) := by omega
  have g9 : (0 : Int) ≤ (t : Int) := by omega
  have g10 : (t : Int) < (n : Int) := by omega
  clear hx hw hxl hwl hcx hcw hst1 hst2 hxx hyy hzz hv1 hv2 hmul hkeep m1 hown hW1 hlt1
  go_enter Try.func73, Try.ntmps73
  go_wp2_with fail
  refine wp_region_still_tail 11 (by kernel_rfl) (by kernel_rfl) ?_; simp only [List.take_succ_cons, List.take_zero, List.drop_succ_cons, List.drop_zero]
  repeat still_step
  still_call (flipW (gold_Add x y _ (by omega) (by omega) (by omega) (by omega)))
  try refine wpStill_nil ?_
  go_wp2_with fail
  rw [HW1.out]
  refine wp_region_still_tail 16 (by kernel_rfl) (by kernel_rfl) ?_; simp only [List.take_succ_cons, List.take_zero, List.drop_succ_cons, List.drop_zero]
  repeat still_step
  still_call (flipW (gold_Sub x y _ (by omega) (by omega) (by omega) (by omega)))
  repeat still_step
  still_call (flipW (gold_Mul ((x - y) % 18446744069414584321) z _ (by omega) (by omega) (by omega) (by omega)))
  try refine wpStill_nil ?_
  rw [HM.out]
  go_wp2_with fail
  refine bodyPost_end (results_none rfl _ _ _) rfl ?_
  exact ⟨⟨_, rfl⟩, HK.out, HST.out⟩
end Go.Proofs.Ytlgklkhijmeldaa
