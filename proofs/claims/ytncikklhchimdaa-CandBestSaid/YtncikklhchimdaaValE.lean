/- Contracts: is a tree too big; is it a plan. The program. -/
import Derived.Test.YtncikklhchimdaaValD
import Derived.Test.YtncikklhchimdaaTreeM
namespace Go.Proofs.Ytncikklhchimdaa
open Go.RowKit Go.Shelf
set_option linter.unusedVariables false
set_option linter.unusedSimpArgs false
set_option maxRecDepth 100000
set_option maxRecDepth 20000
attribute [local go_sem] Oper.semAt_some

/-- Is a tree too big? -/
def bigB (t : Tr) : Bool := decide (60 < t.size) || decide (12 < t.depth)

theorem big_boxes (w : World) (k n : Int) (a : Option Addr) (m c : Nat) (T U V : TypeId) :
    ∃ W0, (((w.alloc (.cells #[.int .i64 k, .int .i64 n, .slice a m c] T)).alloc (.cells #[.bool false] U)).alloc (.cells #[.int .i64 0] V)).alloc (.cells #[.int .i64 k, .int .i64 n, .slice a m c] T) = W0 ∧ Below w.heap.size w W0 ∧ W0.heap.size = w.heap.size + 4 ∧
      W0.heap[w.heap.size]? = some (.cells #[.int .i64 k, .int .i64 n, .slice a m c] T (0, 0)) ∧ W0.heap[w.heap.size + 1]? = some (.cells #[.bool false] U (0, 0)) ∧ W0.heap[w.heap.size + 1 + 1]? = some (.cells #[.int .i64 0] V (0, 0)) ∧ W0.heap[w.heap.size + 1 + 1 + 1]? = some (.cells #[.int .i64 k, .int .i64 n, .slice a m c] T (0, 0)) :=
  ⟨_, rfl, ((((Below.refl _ _).alloc (Nat.le_refl _) _).alloc (by simp) _).alloc (by simp <;> omega) _).alloc (by simp <;> omega) _, by simp, block_old (by simp <;> omega) (block_old (by simp <;> omega) (block_old (by simp) (block_new rfl))), block_old (by simp <;> omega) (block_old (by simp) (block_new (by simp))), block_old (by simp) (block_new (by simp)), block_new (by simp)⟩

set_option maxHeartbeats 4000000 in
theorem valid_big (t : Tr) (k n : Int) (a : Option Addr) (m cap : Nat) (w : World) (F : Nat → Prop) (hs : t.size ≤ 4194304) (hT : IsT w F k n a m cap t) :
    Calls Try.prog 57 #[.agg #[.int .i64 k, .int .i64 n, .slice a m cap]] w fun e w' => e = .returned (.bool (bigB t)) ∧ Below w.heap.size w w' := by
  have HT := Lib.hid hT.lt
  have HS := Lib.hid hs
  have HD : Hid (∀ W, Below w.heap.size w W → Calls Try.prog 99 #[.agg #[.int .i64 k, .int .i64 n, .slice a m cap]] W fun e w' => e = .returned (.int .i64 (t.depth : Nat)) ∧ Below W.heap.size W w') := fun W hb => desc_Depth 4194304 (by omega) t k n a m cap W _ hs (hT.below hb)
  clear hT hs
  obtain ⟨W0, hW0, hb0, hsz, x0, x1, x2, x3⟩ := big_boxes w k n a m cap 24 4 3
  refine (callsIn_wide (n := 8)).1 ?_
  refine callsIn_of_wp_marks Try.func57 rfl trivial ?_ rfl
  simp only [Try.ntmps57, List.size_toArray, List.length_cons, List.length_nil, Nat.reduceAdd, Nat.reduceSub, Array.replicate_succ, Array.replicate_zero, List.push_toArray, List.append_toArray, List.nil_append, List.cons_append]
  gi_wp2_with (refine ⟨trivial, ?_⟩; gi_at_call 98; refine (desc_All _ (.bool true) _ _ _ _ _ _).mono ?_; rintro e w' ⟨rfl, rfl⟩)
  try rw [hW0]
  clear hW0
  have HB0 := Lib.hid hb0
  have X0 := Lib.hid x0
  have X1 := Lib.hid x1
  have X2 := Lib.hid x2
  have X3 := Lib.hid x3
  have hT0 : IsT W0 (fun b => b ≠ w.heap.size + 1 + 1) k n a m cap t := (HT.out.below hb0).mono fun b hb => by unfold Lt at hb; omega
  have HSZ := Lib.hid hsz
  clear hb0 x0 x1 x2 x3 hsz
  refine wp_range_tells (gf := 109) (lb := #[.pointer (some ⟨w.heap.size + 1 + 1 + 1, 0, none⟩)]) rfl (enters_of Try.func109 (by kernel_rfl) rfl) (w.heap.size + 1 + 1) t.size (NextT (w.heap.size + 1 + 1) t.nodes) (nextT_putObj _ _)
    (all1_tells _ _ _ t k n a m cap W0 HS.out hT0 (by have := HSZ.out; omega) X3.out)
    (fun pre W => (W.heap[w.heap.size + 1 + 1]? = some (.cells #[.int .i64 (pre.length : Nat)] 3 (0, 0)) ∧ Below (w.heap.size + 1 + 1) W0 W) ∧ pre.length ≤ 60)
    (fun c pre W => (W.heap[w.heap.size + 1]? = some (.cells #[.bool true] 4 (0, 0)) ∧ Below w.heap.size w W) ∧ (c = .ret ∧ 60 < t.size))
    (OwnFrom.and (OwnFrom.and (block_from _ _ (fun pre : List Value => .cells #[.int .i64 (pre.length : Nat)] 3 (0, 0)) (fun _ => rfl)) (ownFrom_below (by have := HSZ.out; omega) (by have := HSZ.out; omega))) (fun _ _ _ _ h _ _ => h))
    (fun c => OwnFrom.and (OwnFrom.and (block_from _ _ (fun pre : List Value => .cells #[.bool true] 4 (0, 0)) (fun _ => rfl)) (ownFrom_below (Nat.le_refl _) (by have := HSZ.out; omega))) (fun _ _ _ _ h _ _ => h)) ⟨⟨X2.out, Below.refl _ _⟩, Nat.zero_le _⟩
    (fun x => { tmps := #[.agg #[.int .i64 k, .int .i64 n, .slice a m cap], .pointer (some ⟨w.heap.size, 0, none⟩), .pointer (some ⟨w.heap.size + 1, 0, none⟩), .pointer (some ⟨w.heap.size + 1 + 1, 0, none⟩), .agg #[.int .i64 k, .int .i64 n, .slice a m cap], .func (.func 109) #[] #[.pointer (some ⟨w.heap.size + 1 + 1 + 1, 0, none⟩)], x, undef, undef, undef, undef, undef, undef, undef], defers := [] }) ?assign ?body ?done ?stop
  case assign =>
    intro l x W K hK
    gi_wp2
    exact hK
  case body =>
    rintro l pre x W ⟨⟨hn, hbel⟩, hle⟩ hlen hG
    have h0 := block_cell hn 0
    have hf := block_free hn 0
    simp at h0
    have HN := Lib.hid hn
    have hst : (W.setCell ⟨w.heap.size + 1 + 1, 0, none⟩ (.int .i64 ((pre.length : Int) + 1))).heap[w.heap.size + 1 + 1]? = some (.cells #[.int .i64 ((pre ++ [x]).length : Nat)] 3 (0, 0)) := by
      rw [block_set hn 0 _, List.length_append, List.length_singleton]; simp
    have hv := block_cell hst 0
    simp only [List.length_append, List.length_singleton] at hv
    have HST := Lib.hid hst
    have hbe : Below (w.heap.size + 1 + 1) W0 (W.setCell ⟨w.heap.size + 1 + 1, 0, none⟩ (.int .i64 ((pre.length : Int) + 1))) := hbel.setCell (p := ⟨w.heap.size + 1 + 1, 0, none⟩) (Nat.le_refl _) _
    have HBE := Lib.hid hbe
    have hx1 := (hbe.block (w.heap.size + 1) (by omega)).trans X1.out
    have HX1 := Lib.hid hx1
    have HLEN := Lib.hid hlen
    have hpl : (pre ++ [x]).length = pre.length + 1 := by simp
    have HPL := Lib.hid hpl
    clear hpl
    obtain ⟨q, hq⟩ : ∃ q, pre.length = q := ⟨_, rfl⟩
    rw [hq] at h0 hle HST HBE hv HLEN HPL hx1 HX1
    clear hn hst hbe hG hlen hq hbel
    have hf3 : (W.setCell ⟨w.heap.size + 1 + 1, 0, none⟩ (.int .i64 ((q : Int) + 1))).frozen? ⟨w.heap.size + 1, 0, none⟩ = false := block_free HX1.out 0
    have hc3 : (W.setCell ⟨w.heap.size + 1 + 1, 0, none⟩ (.int .i64 ((q : Int) + 1))).cell? ⟨w.heap.size + 1, 0, none⟩ = some (.bool false) := block_cell HX1.out 0
    have hkf : KeepsFrom W0.heap.size W (W.setCell ⟨w.heap.size + 1 + 1, 0, none⟩ (.int .i64 ((q : Int) + 1))) := (KeepsOthers.setCell _ _ _).from _
    have hkb : KeepsBut (w.heap.size + 1 + 1) W (W.setCell ⟨w.heap.size + 1 + 1, 0, none⟩ (.int .i64 ((q : Int) + 1))) := KeepsBut.setCell _ _ _
    have HKF := Lib.hid hkf
    have HKB := Lib.hid hkb
    clear hkf hkb
    by_cases h60 : q + 1 ≤ 60
    · have d1 : decide (((q + 1 : Nat) : Int) > 60) = false := by simp; omega
      have d2 : ¬ ((60 : Int) < (q : Int) + 1) := by omega
      have d3 : ¬ (60 < q + 1) := by omega
      gi_wp2
      exact ⟨HKF.out, HKB.out, ⟨HST.out, HBE.out⟩, by rw [HPL.out]; omega⟩
    · have d1 : decide (((q + 1 : Nat) : Int) > 60) = true := by simp; omega
      have d2 : ((60 : Int) < (q : Int) + 1) := by omega
      have d3 : (60 < q + 1) := by omega
      have hfin : Below w.heap.size w ((W.setCell ⟨w.heap.size + 1 + 1, 0, none⟩ (.int .i64 ((q : Int) + 1))).setCell ⟨w.heap.size + 1, 0, none⟩ (.bool true)) := (HB0.out.trans (HBE.out.mono (by omega))).setCell (p := ⟨w.heap.size + 1, 0, none⟩) (by show w.heap.size ≤ w.heap.size + 1; omega) _
      have hset := block_set HX1.out 0 (.bool true)
      have HFIN := Lib.hid hfin
      have HSET := Lib.hid hset
      clear hfin hset
      gi_wp2
      exact ⟨HKF.out.trans ((KeepsOthers.setCell _ _ _).from _), ⟨HSET.out, HFIN.out⟩, rfl, by have := HLEN.out; omega⟩
  case done =>
    rintro D xs W hD hxl ⟨⟨hn, hbel⟩, hle⟩ hK
    rw [hxl] at hn hle
    have hbw : Below w.heap.size w W := HB0.out.trans (hbel.mono (by omega))
    have hDs : w.heap.size ≤ D := by have := HSZ.out; omega
    have hx0 := (hbel.block w.heap.size (by omega)).trans X0.out
    have hx1 := (hbel.block (w.heap.size + 1) (by omega)).trans X1.out
    have HK := Lib.hid hK
    have HBW := Lib.hid hbw
    have HX1 := Lib.hid hx1
    have c0 : W.cell? ⟨w.heap.size, 0, none⟩ = some (.int .i64 k) := block_cell hx0 0
    have c1 : W.cell? ⟨w.heap.size, 1, none⟩ = some (.int .i64 n) := block_cell hx0 1
    have c2 : W.cell? ⟨w.heap.size, 2, none⟩ = some (.slice a m cap) := block_cell hx0 2
    have HB : Hid (bigB t = decide (12 < t.depth)) := by unfold Hid bigB; rw [decide_eq_false (by omega), Bool.false_or]
    obtain ⟨d, hd⟩ : ∃ d, t.depth = d := ⟨_, rfl⟩
    rw [hd] at HD HB
    clear hn hbel hK hbw hx0 hx1 hle hd
    gi_wp2
    refine ⟨trivial, (callsIn_wide.2 (HD.out _ HBW.out)).mono ?_⟩
    rintro e w2 ⟨rfl, hb2⟩
    have hx1 := (hb2.block _ (block_lt HX1.out)).trans HX1.out
    have hk2 := (hb2.block _ (block_lt HK.out)).trans HK.out
    have c1' : w2.cell? ⟨w.heap.size + 1, 0, none⟩ = some (.bool false) := block_cell hx1 0
    have f1' : w2.frozen? ⟨w.heap.size + 1, 0, none⟩ = false := block_free hx1 0
    have hne : D ≠ w.heap.size + 1 := by have := HSZ.out; omega
    have hbw2 := chain HBW.out hb2
    have HK2 := Lib.hid hk2
    have HBW2 := Lib.hid hbw2
    clear hx1 hk2 hbw2 hb2 c0 c1 c2
    have fin : ∀ v : Bool, ((w2.setCell ⟨w.heap.size + 1, 0, none⟩ (.bool v)).heap[D]? = some (.deferred (some []))) ∧ Below w.heap.size w ((w2.setCell ⟨w.heap.size + 1, 0, none⟩ (.bool v)).putObj D (.deferred none)) ∧ ((w2.setCell ⟨w.heap.size + 1, 0, none⟩ (.bool v)).putObj D (.deferred none)).cell? ⟨w.heap.size + 1, 0, none⟩ = some (.bool v) := fun v => by
      have hke := (set_far w2 ⟨w.heap.size + 1, 0, none⟩ (.bool v) D (by show D ≠ w.heap.size + 1; omega)).trans HK2.out
      have hbe := HBW2.out.setCell (p := ⟨w.heap.size + 1, 0, none⟩) (by show w.heap.size ≤ w.heap.size + 1; omega) (.bool v)
      exact ⟨hke, hbe.trans (belowK_b (w := w) (Nat.le_refl _) _ D _ _ hDs hke rfl rfl), (World.cell?_of_block (World.putObj_heap_other (by first | exact hne | exact Ne.symm hne))).trans (World.cell?_setCell_same w2 ⟨w.heap.size + 1, 0, none⟩ (.bool v) c1')⟩
    have FIN := Lib.hid fin
    clear fin
    by_cases h12 : 12 < d
    · have d1 : decide ((d : Int) > 12) = true := by simp; omega
      have d2 : (12 : Int) < (d : Int) := by omega
      have HB12 : Hid (bigB t = true) := by rw [HB.out]; unfold Hid; simp; omega
      clear h12
      gi_wp2
      refine ⟨by simp, .inl ⟨_, _, rfl, run_takeDeferred (FIN.out true).1, ?_⟩⟩
      have hcl := (FIN.out true).2.2
      refine ⟨.bool true, ?_, by rw [HB12.out], (FIN.out true).2.1⟩
      simp [results, Try.results57, go_sem, hcl]
    · have d1 : decide ((d : Int) > 12) = false := by simp; omega
      have d2 : ¬ (12 : Int) < (d : Int) := by omega
      have HB12 : Hid (bigB t = false) := by rw [HB.out]; unfold Hid; simp; omega
      clear h12
      gi_wp2
      refine ⟨by simp, .inl ⟨_, _, rfl, run_takeDeferred (FIN.out false).1, ?_⟩⟩
      have hcl := (FIN.out false).2.2
      refine ⟨.bool false, ?_, by rw [HB12.out], (FIN.out false).2.1⟩
      simp [results, Try.results57, go_sem, hcl]
  case stop =>
    rintro D c pre W hD ⟨⟨hx1, hbel⟩, rfl, h60⟩ hK
    have HK := Lib.hid hK
    have HBW := Lib.hid hbel
    have c1 : W.cell? ⟨w.heap.size + 1, 0, none⟩ = some (.bool true) := block_cell hx1 0
    have HB : Hid (bigB t = true) := by unfold Hid bigB; rw [decide_eq_true h60, Bool.true_or]
    have hne : D ≠ w.heap.size + 1 := by have := HSZ.out; omega
    have hDs : w.heap.size ≤ D := by have := HSZ.out; omega
    have hcl : (W.putObj D (.deferred none)).cell? ⟨w.heap.size + 1, 0, none⟩ = some (.bool true) := (World.cell?_of_block (World.putObj_heap_other (by first | exact hne | exact Ne.symm hne))).trans c1
    have hbe2 : Below w.heap.size w (W.putObj D (.deferred none)) := hbel.trans (belowK_b (w := w) (Nat.le_refl _) _ D _ _ hDs hK rfl rfl)
    have HBE2 := Lib.hid hbe2
    clear hx1 hbel hK hbe2 h60
    gi_wp2
    refine ⟨by simp, .inl ⟨_, _, rfl, run_takeDeferred HK.out, ?_⟩⟩
    refine ⟨.bool true, ?_, by rw [HB.out], HBE2.out⟩
    simp [results, Try.results57, go_sem, hcl]

/-- Is it a plan: the error's number. -/
def chk (t : Tr) : Int := if bigB t then 12 else if t.wrong.isSome then 8 else 0

theorem GivesWr.any {ps : List Int} {r : Option (List Int)} {w : World} {e : Ending} {w' : World} (h : GivesWr ps r w e w') : ∃ a l c, e = .returned (.tuple #[.slice a l c, .bool r.isSome]) ∧ Below w.heap.size w w' := by
  cases r with
  | none => exact ⟨none, 0, 0, h.1, h.2⟩
  | some q =>
    obtain ⟨a, l, c, h1, _, _, _, h5⟩ := h
    exact ⟨a, l, c, h1, h5⟩

set_option maxHeartbeats 1000000 in
theorem valid_Check (t : Tr) (k n : Int) (a : Option Addr) (m cap : Nat) (w : World) (F : Nat → Prop) (hs : t.size ≤ 4194304) (hT : IsT w F k n a m cap t) :
    Calls Try.prog 17 #[.agg #[.int .i64 k, .int .i64 n, .slice a m cap]] w fun e w' => e = .returned (.int .i64 (chk t)) ∧ Below w.heap.size w w' := by
  have CB : Hid (∀ W, Below w.heap.size w W → Calls Try.prog 57 #[.agg #[.int .i64 k, .int .i64 n, .slice a m cap]] W fun e w' => e = .returned (.bool (bigB t)) ∧ Below W.heap.size W w') := fun W hb => valid_big t k n a m cap W F hs (hT.below hb)
  have CW : Hid (∀ W, Below w.heap.size w W → Calls Try.prog 19 #[.agg #[.int .i64 k, .int .i64 n, .slice a m cap]] W fun e w' => ∃ a l c, e = .returned (.tuple #[.slice a l c, .bool t.wrong.isSome]) ∧ Below W.heap.size W w') := fun W hb => (valid_Wrong t k n a m cap W F hs (hT.below hb)).mono fun e w' h => h.any
  have HC : Hid (chk t = if bigB t then 12 else if t.wrong.isSome then 8 else 0) := rfl
  obtain ⟨B, hB⟩ : ∃ B, bigB t = B := ⟨_, rfl⟩
  obtain ⟨R, hR⟩ : ∃ R, t.wrong.isSome = R := ⟨_, rfl⟩
  rw [hB] at CB HC
  rw [hR] at CW HC
  rw [HC.out]
  clear hB hR HC hT hs
  cases B with
  | true =>
    go_enter Try.func17, Try.ntmps17
    go_wp2_with fail
    refine (CB.out _ ((Below.refl _ _).alloc (Nat.le_refl _) _)).mono ?_; rintro e w1 ⟨rfl, hb1⟩
    have hb := chainA (Below.refl w.heap.size w) hb1
    clear hb1
    go_wp2_with fail
    go_ret
    exact ⟨rfl, hb⟩
  | false =>
    cases R
    all_goals
      go_enter Try.func17, Try.ntmps17
      go_wp2_with fail
      refine (CB.out _ ((Below.refl _ _).alloc (Nat.le_refl _) _)).mono ?_; rintro e w1 ⟨rfl, hb1⟩
      have hb := chainA (Below.refl w.heap.size w) hb1
      have hx := (hb1.block w.heap.size (by simp)).trans (block_new rfl)
      have x0 : w1.cell? ⟨w.heap.size, 0, none⟩ = some (.int .i64 k) := block_cell hx 0
      have x1 : w1.cell? ⟨w.heap.size, 1, none⟩ = some (.int .i64 n) := block_cell hx 1
      have x2 : w1.cell? ⟨w.heap.size, 2, none⟩ = some (.slice a m cap) := block_cell hx 2
      have HB := Lib.hid hb
      clear hb1 hx hb
      go_wp2_with fail
      refine (CW.out _ HB.out).mono ?_; rintro e w2 ⟨a2, l2, c2, rfl, hb2⟩
      have hb := chain HB.out hb2
      clear hb2 x0 x1 x2
      go_wp2_with fail
      go_ret
      exact ⟨rfl, hb⟩

/-- The key. -/
theorem key_box (w : World) (K D k n : Int) (a : Option Addr) (m c : Nat) (T U : TypeId) :
    ∃ W0, (w.alloc (.cells #[.int .i64 K, .int .i64 D] T)).alloc (.cells #[.int .i64 k, .int .i64 n, .slice a m c] U) = W0 ∧ Below w.heap.size w W0 ∧
      W0.heap[w.heap.size]? = some (.cells #[.int .i64 K, .int .i64 D] T (0, 0)) ∧ W0.heap[w.heap.size + 1]? = some (.cells #[.int .i64 k, .int .i64 n, .slice a m c] U (0, 0)) :=
  ⟨_, rfl, ((Below.refl _ _).alloc (Nat.le_refl _) _).alloc (by simp) _, block_old (by simp) (block_new rfl), block_new (by simp)⟩

/-- Is it a plan of a key: the error's number. -/
def forK (K D : Int) (t : Tr) : Int := if hasSz K = false then 4 else if D ≠ 0 ∧ D ≠ 1 then 2 else if chk t ≠ 0 then chk t else if t.num ≠ K then 8 else 0
end Go.Proofs.Ytncikklhchimdaa
