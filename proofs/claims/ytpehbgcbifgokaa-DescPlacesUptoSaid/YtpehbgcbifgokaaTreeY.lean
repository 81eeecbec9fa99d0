/- The law of places of trees, as a call that returns true: the walk. -/
import Derived.Test.YtpehbgcbifgokaaTreeQ
import Derived.Test.YtpehbgcbifgokaaTreeU
import Derived.Deep.RegionHeld3
namespace Go.Proofs.Ytpehbgcbifgokaa
open Go.RowKit
set_option linter.unusedVariables false
set_option linter.unusedSimpArgs false
set_option maxRecDepth 20000

theorem box_new (W : World) (x y z : Value) (T : TypeId) : ∃ W', W.alloc (.cells #[x, y, z] T) = W' ∧ Below W.heap.size W W' ∧ W'.heap[W.heap.size]? = some (.cells #[x, y, z] T (0, 0)) :=
  ⟨_, rfl, (Below.refl _ _).alloc (Nat.le_refl _) _, block_new rfl⟩
theorem two_boxes (w : World) (k n k' n' : Int) (a a' : Option Addr) (m c m' c' : Nat) (T : TypeId) :
    ∃ W0, (w.alloc (.cells #[.int .i64 k, .int .i64 n, .slice a m c] T)).alloc (.cells #[.int .i64 k', .int .i64 n', .slice a' m' c'] T) = W0 ∧ Below w.heap.size w W0 ∧
      W0.heap[w.heap.size]? = some (.cells #[.int .i64 k, .int .i64 n, .slice a m c] T (0, 0)) ∧ W0.heap[w.heap.size + 1]? = some (.cells #[.int .i64 k', .int .i64 n', .slice a' m' c'] T (0, 0)) :=
  ⟨_, rfl, ((Below.refl _ _).alloc (Nat.le_refl _) _).alloc (by simp) _, block_old (by simp) (block_new rfl), block_new (by simp)⟩
theorem zero_isT (w : World) (F : Nat → Prop) : IsT w F 0 0 none 0 0 (.node 0 0 []) := ⟨rfl, rfl, rfl, by simp only [Tr.Ok, Tr.OkL]; exact ⟨fits_i64.2 (by omega), fits_i64.2 (by omega), trivial⟩, .nil⟩

set_option maxHeartbeats 1000000 in
theorem descPlaces_big (td tu : Tr) (k n : Int) (a : Option Addr) (m c : Nat) (pa : Option Addr) (L pc : Nat) (k' n' : Int) (a' : Option Addr) (m' c' : Nat) (w : World) (hsa : td.size ≤ 4194304) (hsb : tu.size ≤ 4194304) (hL : L ≤ 9223372036854775807) (hA : IsT w (Lt w.heap.size) k n a m c td) (hB : IsT w (Lt w.heap.size) k' n' a' m' c' tu) (h : 80 < td.size ∨ (td.size ≤ 80 ∧ 80 < tu.size) ∨ (td.size ≤ 80 ∧ tu.size ≤ 80 ∧ 100 < L)) :
    Calls Try.prog 4 #[.agg #[.int .i64 k, .int .i64 n, .slice a m c], .slice pa L pc, .agg #[.int .i64 k', .int .i64 n', .slice a' m' c']] w fun e w' => e = .returned (.bool true) ∧ Below w.heap.size w w' := by
  rcases h with h1 | ⟨h1, h2⟩ | ⟨h1, h2, h3⟩
  · skip
    have CA : Hid (∀ W, Below w.heap.size w W → Calls Try.prog 12 #[.agg #[.int .i64 k, .int .i64 n, .slice a m c]] W fun e w' => e = .returned (.bool true) ∧ Below W.heap.size W w') := fun W hb => by
      have := ref_Much td _ _ _ _ _ W w.heap.size (by omega) (hA.below hb) hb.size
      rwa [show decide (80 < td.size) = true by simp; omega] at this
    clear hA hB hsa hsb
    obtain ⟨w0, hW0, hb0, x0, x1⟩ := two_boxes w k n k' n' a a' m c m' c' 24
    have HB := Lib.hid hb0
    have HW0 := Lib.hid hW0
    have XD := Lib.hid x0
    have XU := Lib.hid x1
    clear hb0 hW0 x0 x1
    go_enter Try.func4, Try.ntmps4
    go_wp2_with fail
    rw [HW0.out]
    refine (CA.out _ HB.out).mono ?_; rintro e v1 ⟨rfl, hb1⟩
    have XD := Lib.hid ((hb1.block _ (block_lt XD.out)).trans XD.out)
    have XU := Lib.hid ((hb1.block _ (block_lt XU.out)).trans XU.out)
    have HB := Lib.hid (chain HB.out hb1)
    clear hb1
    go_wp2_with fail
    refine (live13 _).mono ?_; rintro e v2 ⟨rfl, hb2⟩
    have XD := Lib.hid ((hb2.block _ (block_lt XD.out)).trans XD.out)
    have XU := Lib.hid ((hb2.block _ (block_lt XU.out)).trans XU.out)
    have HB := Lib.hid (chain HB.out hb2)
    clear hb2
    have hbe := HB.out
    go_wp2_with fail
    go_ret
    exact ⟨rfl, hbe⟩
  · skip
    have CA : Hid (∀ W, Below w.heap.size w W → Calls Try.prog 12 #[.agg #[.int .i64 k, .int .i64 n, .slice a m c]] W fun e w' => e = .returned (.bool false) ∧ Below W.heap.size W w') := fun W hb => by
      have := ref_Much td _ _ _ _ _ W w.heap.size (by omega) (hA.below hb) hb.size
      rwa [show decide (80 < td.size) = false by simp; omega] at this
    have CB : Hid (∀ W, Below w.heap.size w W → Calls Try.prog 12 #[.agg #[.int .i64 k', .int .i64 n', .slice a' m' c']] W fun e w' => e = .returned (.bool true) ∧ Below W.heap.size W w') := fun W hb => by
      have := ref_Much tu _ _ _ _ _ W w.heap.size (by omega) (hB.below hb) hb.size
      rwa [show decide (80 < tu.size) = true by simp; omega] at this
    clear hA hB hsa hsb
    obtain ⟨w0, hW0, hb0, x0, x1⟩ := two_boxes w k n k' n' a a' m c m' c' 24
    have HB := Lib.hid hb0
    have HW0 := Lib.hid hW0
    have XD := Lib.hid x0
    have XU := Lib.hid x1
    clear hb0 hW0 x0 x1
    go_enter Try.func4, Try.ntmps4
    go_wp2_with fail
    rw [HW0.out]
    refine (CA.out _ HB.out).mono ?_; rintro e v1 ⟨rfl, hb1⟩
    have XD := Lib.hid ((hb1.block _ (block_lt XD.out)).trans XD.out)
    have XU := Lib.hid ((hb1.block _ (block_lt XU.out)).trans XU.out)
    have HB := Lib.hid (chain HB.out hb1)
    clear hb1
    have U0 : v1.cell? ⟨w.heap.size + 1, 0, none⟩ = some (.int .i64 k') := block_cell XU.out 0
    have U1 : v1.cell? ⟨w.heap.size + 1, 1, none⟩ = some (.int .i64 n') := block_cell XU.out 1
    have U2 : v1.cell? ⟨w.heap.size + 1, 2, none⟩ = some (.slice a' m' c') := block_cell XU.out 2
    go_wp2_with fail
    refine (CB.out _ HB.out).mono ?_; rintro e v2 ⟨rfl, hb2⟩
    clear U0 U1 U2
    have XD := Lib.hid ((hb2.block _ (block_lt XD.out)).trans XD.out)
    have XU := Lib.hid ((hb2.block _ (block_lt XU.out)).trans XU.out)
    have HB := Lib.hid (chain HB.out hb2)
    clear hb2
    go_wp2_with fail
    refine (live13 _).mono ?_; rintro e v3 ⟨rfl, hb3⟩
    have XD := Lib.hid ((hb3.block _ (block_lt XD.out)).trans XD.out)
    have XU := Lib.hid ((hb3.block _ (block_lt XU.out)).trans XU.out)
    have HB := Lib.hid (chain HB.out hb3)
    clear hb3
    have hbe := HB.out
    go_wp2_with fail
    go_ret
    exact ⟨rfl, hbe⟩
  · skip
    have CA : Hid (∀ W, Below w.heap.size w W → Calls Try.prog 12 #[.agg #[.int .i64 k, .int .i64 n, .slice a m c]] W fun e w' => e = .returned (.bool false) ∧ Below W.heap.size W w') := fun W hb => by
      have := ref_Much td _ _ _ _ _ W w.heap.size (by omega) (hA.below hb) hb.size
      rwa [show decide (80 < td.size) = false by simp; omega] at this
    have CB : Hid (∀ W, Below w.heap.size w W → Calls Try.prog 12 #[.agg #[.int .i64 k', .int .i64 n', .slice a' m' c']] W fun e w' => e = .returned (.bool false) ∧ Below W.heap.size W w') := fun W hb => by
      have := ref_Much tu _ _ _ _ _ W w.heap.size (by omega) (hB.below hb) hb.size
      rwa [show decide (80 < tu.size) = false by simp; omega] at this
    clear hA hB hsa hsb
    have h3' : (100 : Int) < (L : Int) := by omega
    obtain ⟨w0, hW0, hb0, x0, x1⟩ := two_boxes w k n k' n' a a' m c m' c' 24
    have HB := Lib.hid hb0
    have HW0 := Lib.hid hW0
    have XD := Lib.hid x0
    have XU := Lib.hid x1
    clear hb0 hW0 x0 x1
    go_enter Try.func4, Try.ntmps4
    go_wp2_with fail
    rw [HW0.out]
    refine (CA.out _ HB.out).mono ?_; rintro e v1 ⟨rfl, hb1⟩
    have XD := Lib.hid ((hb1.block _ (block_lt XD.out)).trans XD.out)
    have XU := Lib.hid ((hb1.block _ (block_lt XU.out)).trans XU.out)
    have HB := Lib.hid (chain HB.out hb1)
    clear hb1
    have U0 : v1.cell? ⟨w.heap.size + 1, 0, none⟩ = some (.int .i64 k') := block_cell XU.out 0
    have U1 : v1.cell? ⟨w.heap.size + 1, 1, none⟩ = some (.int .i64 n') := block_cell XU.out 1
    have U2 : v1.cell? ⟨w.heap.size + 1, 2, none⟩ = some (.slice a' m' c') := block_cell XU.out 2
    go_wp2_with fail
    refine (CB.out _ HB.out).mono ?_; rintro e v2 ⟨rfl, hb2⟩
    clear U0 U1 U2
    have XD := Lib.hid ((hb2.block _ (block_lt XD.out)).trans XD.out)
    have XU := Lib.hid ((hb2.block _ (block_lt XU.out)).trans XU.out)
    have HB := Lib.hid (chain HB.out hb2)
    clear hb2
    go_wp2_with fail
    refine (live13 _).mono ?_; rintro e v3 ⟨rfl, hb3⟩
    have XD := Lib.hid ((hb3.block _ (block_lt XD.out)).trans XD.out)
    have XU := Lib.hid ((hb3.block _ (block_lt XU.out)).trans XU.out)
    have HB := Lib.hid (chain HB.out hb3)
    clear hb3
    have hbe := HB.out
    go_wp2_with fail
    go_ret
    exact ⟨rfl, hbe⟩

set_option maxHeartbeats 4000000 in
theorem descPlaces_no (td tu : Tr) (k n : Int) (a : Option Addr) (m c : Nat) (pa : Option Addr) (L pc : Nat) (k' n' : Int) (a' : Option Addr) (m' c' : Nat) (w : World) (p : List Int) (hsa : td.size ≤ 80) (hsb : tu.size ≤ 80) (hL : L ≤ 100) (hLc : L ≤ pc) (hA : IsT w (Lt w.heap.size) k n a m c td) (hB : IsT w (Lt w.heap.size) k' n' a' m' c' tu) (hp : Row .i64 w pa p) (hl : p.length = L) (h : Tr.at? td p = none) :
    Calls Try.prog 4 #[.agg #[.int .i64 k, .int .i64 n, .slice a m c], .slice pa L pc, .agg #[.int .i64 k', .int .i64 n', .slice a' m' c']] w fun e w' => e = .returned (.bool true) ∧ Below w.heap.size w w' := by
  have CA : Hid (∀ W, Below w.heap.size w W → Calls Try.prog 12 #[.agg #[.int .i64 k, .int .i64 n, .slice a m c]] W fun e w' => e = .returned (.bool false) ∧ Below W.heap.size W w') := fun W hb => by
    have := ref_Much td _ _ _ _ _ W w.heap.size (by omega) (hA.below hb) hb.size
    rwa [show decide (80 < td.size) = false by simp; omega] at this
  have CB : Hid (∀ W, Below w.heap.size w W → Calls Try.prog 12 #[.agg #[.int .i64 k', .int .i64 n', .slice a' m' c']] W fun e w' => e = .returned (.bool false) ∧ Below W.heap.size W w') := fun W hb => by
    have := ref_Much tu _ _ _ _ _ W w.heap.size (by omega) (hB.below hb) hb.size
    rwa [show decide (80 < tu.size) = false by simp; omega] at this
  have hLL : ¬ (100 : Int) < (L : Int) := by omega
  have CAT : Hid (∀ W, Below w.heap.size w W → Calls Try.prog 21 #[.agg #[.int .i64 k, .int .i64 n, .slice a m c], .slice pa L pc] W fun e w' => e = .returned (.tuple #[.agg #[.int .i64 0, .int .i64 0, .slice none 0 0], .bool false]) ∧ Below W.heap.size W w') := fun W hb => desc_At_no td k n a m c pa L pc p W _ (by omega) (hA.below hb) (hp.below hb) hl h
  have CPT : Hid (∀ W, Below w.heap.size w W → Calls Try.prog 22 #[.agg #[.int .i64 k, .int .i64 n, .slice a m c], .slice pa L pc, .agg #[.int .i64 k', .int .i64 n', .slice a' m' c']] W fun e w' => e = .returned (.tuple #[.agg #[.int .i64 0, .int .i64 0, .slice none 0 0], .bool false]) ∧ Below W.heap.size W w') := fun W hb => desc_Put_no td tu k n a m c pa L pc p k' n' a' m' c' W _ (by omega) (hA.below hb) (hp.below hb) hl h
  have CRA : Hid (∀ W, Below w.heap.size w W → Calls Try.prog 23 #[.agg #[.int .i64 k, .int .i64 n, .slice a m c], .slice pa L pc] W fun e w' => e = .returned (.tuple #[.agg #[.int .i64 0, .int .i64 0, .slice none 0 0], .bool false]) ∧ Below W.heap.size W w') := fun W hb => ref13_At_no w.heap.size p td k n a m c pa L pc W (by omega) (hA.below hb) (hp.below hb) hl hLc hb.size h
  have CSZ : Hid (∀ W, Calls Try.prog 19 #[.agg #[.int .i64 0, .int .i64 0, .slice none 0 0], .agg #[.int .i64 0, .int .i64 0, .slice none 0 0]] W fun e w' => e = .returned (.bool true) ∧ Below W.heap.size W w') := fun W => by
    have := ref13_Same (.node 0 0 []) (.node 0 0 []) 0 0 none 0 0 0 0 none 0 0 W (Lt 0) (Lt 0) (by decide) (by decide) (zero_isT _ _) (zero_isT _ _)
    rwa [show decide (Tr.cmp (.node 0 0 []) (.node 0 0 []) = 0) = true by rw [Tr.cmp_self]; rfl] at this
  clear hA hB hp h hsa hsb hl
  obtain ⟨w0, hW0, hb0, x0, x1⟩ := two_boxes w k n k' n' a a' m c m' c' 24
  have HB := Lib.hid hb0
  have HW0 := Lib.hid hW0
  have XD := Lib.hid x0
  have XU := Lib.hid x1
  clear hb0 hW0 x0 x1
  go_enter Try.func4, Try.ntmps4
  go_wp2_with fail
  rw [HW0.out]
  refine (CA.out _ HB.out).mono ?_; rintro e v1 ⟨rfl, hb1⟩
  have XD := Lib.hid ((hb1.block _ (block_lt XD.out)).trans XD.out)
  have XU := Lib.hid ((hb1.block _ (block_lt XU.out)).trans XU.out)
  have HB := Lib.hid (chain HB.out hb1)
  clear hb1
  have U0 : v1.cell? ⟨w.heap.size + 1, 0, none⟩ = some (.int .i64 k') := block_cell XU.out 0
  have U1 : v1.cell? ⟨w.heap.size + 1, 1, none⟩ = some (.int .i64 n') := block_cell XU.out 1
  have U2 : v1.cell? ⟨w.heap.size + 1, 2, none⟩ = some (.slice a' m' c') := block_cell XU.out 2
  go_wp2_with fail
  refine (CB.out _ HB.out).mono ?_; rintro e v2 ⟨rfl, hb2⟩
  clear U0 U1 U2
  have XD := Lib.hid ((hb2.block _ (block_lt XD.out)).trans XD.out)
  have XU := Lib.hid ((hb2.block _ (block_lt XU.out)).trans XU.out)
  have HB := Lib.hid (chain HB.out hb2)
  clear hb2
  have D0 : v2.cell? ⟨w.heap.size, 0, none⟩ = some (.int .i64 k) := block_cell XD.out 0
  have D1 : v2.cell? ⟨w.heap.size, 1, none⟩ = some (.int .i64 n) := block_cell XD.out 1
  have D2 : v2.cell? ⟨w.heap.size, 2, none⟩ = some (.slice a m c) := block_cell XD.out 2
  go_wp2_with fail
  refine (CAT.out _ HB.out).mono ?_; rintro e v3 ⟨rfl, hb3⟩
  clear D0 D1 D2
  have XD := Lib.hid ((hb3.block _ (block_lt XD.out)).trans XD.out)
  have XU := Lib.hid ((hb3.block _ (block_lt XU.out)).trans XU.out)
  have HB := Lib.hid (chain HB.out hb3)
  clear hb3
  go_upto_region 4 with fail
  obtain ⟨y3, hW, hbx, hx⟩ := box_new v3 (.int .i64 0) (.int .i64 0) (.slice none 0 0) 24
  rw [hW]
  clear hW
  have XD := Lib.hid ((hbx.block _ (block_lt XD.out)).trans XD.out)
  have XU := Lib.hid ((hbx.block _ (block_lt XU.out)).trans XU.out)
  have HB := Lib.hid (chain HB.out hbx)
  have XX := Lib.hid hx
  clear hx hbx
  have D0 : y3.cell? ⟨w.heap.size, 0, none⟩ = some (.int .i64 k) := block_cell XD.out 0
  have D1 : y3.cell? ⟨w.heap.size, 1, none⟩ = some (.int .i64 n) := block_cell XD.out 1
  have D2 : y3.cell? ⟨w.heap.size, 2, none⟩ = some (.slice a m c) := block_cell XD.out 2
  have U0 : y3.cell? ⟨w.heap.size + 1, 0, none⟩ = some (.int .i64 k') := block_cell XU.out 0
  have U1 : y3.cell? ⟨w.heap.size + 1, 1, none⟩ = some (.int .i64 n') := block_cell XU.out 1
  have U2 : y3.cell? ⟨w.heap.size + 1, 2, none⟩ = some (.slice a' m' c') := block_cell XU.out 2
  go_wp2_with fail
  refine (CPT.out _ HB.out).mono ?_; rintro e v4 ⟨rfl, hb4⟩
  clear D0 D1 D2 U0 U1 U2
  have XD := Lib.hid ((hb4.block _ (block_lt XD.out)).trans XD.out)
  have XU := Lib.hid ((hb4.block _ (block_lt XU.out)).trans XU.out)
  have XX := Lib.hid ((hb4.block _ (block_lt XX.out)).trans XX.out)
  have HB := Lib.hid (chain HB.out hb4)
  clear hb4
  go_upto_region 5 with fail
  obtain ⟨y4, hW, hbx, hx⟩ := box_new v4 (.int .i64 0) (.int .i64 0) (.slice none 0 0) 24
  rw [hW]
  clear hW
  have XD := Lib.hid ((hbx.block _ (block_lt XD.out)).trans XD.out)
  have XU := Lib.hid ((hbx.block _ (block_lt XU.out)).trans XU.out)
  have XX := Lib.hid ((hbx.block _ (block_lt XX.out)).trans XX.out)
  have HB := Lib.hid (chain HB.out hbx)
  have XP := Lib.hid hx
  clear hx hbx
  have D0 : y4.cell? ⟨w.heap.size, 0, none⟩ = some (.int .i64 k) := block_cell XD.out 0
  have D1 : y4.cell? ⟨w.heap.size, 1, none⟩ = some (.int .i64 n) := block_cell XD.out 1
  have D2 : y4.cell? ⟨w.heap.size, 2, none⟩ = some (.slice a m c) := block_cell XD.out 2
  go_wp2_with fail
  refine (CRA.out _ HB.out).mono ?_; rintro e v5 ⟨rfl, hb5⟩
  clear D0 D1 D2
  have XD := Lib.hid ((hb5.block _ (block_lt XD.out)).trans XD.out)
  have XU := Lib.hid ((hb5.block _ (block_lt XU.out)).trans XU.out)
  have XX := Lib.hid ((hb5.block _ (block_lt XX.out)).trans XX.out)
  have XP := Lib.hid ((hb5.block _ (block_lt XP.out)).trans XP.out)
  have HB := Lib.hid (chain HB.out hb5)
  clear hb5
  go_upto_region 6 with fail
  obtain ⟨y5, hW, hbx, hx⟩ := box_new v5 (.int .i64 0) (.int .i64 0) (.slice none 0 0) 24
  rw [hW]
  clear hW
  have XD := Lib.hid ((hbx.block _ (block_lt XD.out)).trans XD.out)
  have XU := Lib.hid ((hbx.block _ (block_lt XU.out)).trans XU.out)
  have XX := Lib.hid ((hbx.block _ (block_lt XX.out)).trans XX.out)
  have XP := Lib.hid ((hbx.block _ (block_lt XP.out)).trans XP.out)
  have HB := Lib.hid (chain HB.out hbx)
  have XQ := Lib.hid hx
  clear hx hbx
  have X0 : y5.cell? ⟨v3.heap.size, 0, none⟩ = some (.int .i64 0) := block_cell XX.out 0
  have X1 : y5.cell? ⟨v3.heap.size, 1, none⟩ = some (.int .i64 0) := block_cell XX.out 1
  have X2 : y5.cell? ⟨v3.heap.size, 2, none⟩ = some (.slice none 0 0) := block_cell XX.out 2
  have Q0 : y5.cell? ⟨v5.heap.size, 0, none⟩ = some (.int .i64 0) := block_cell XQ.out 0
  have Q1 : y5.cell? ⟨v5.heap.size, 1, none⟩ = some (.int .i64 0) := block_cell XQ.out 1
  have Q2 : y5.cell? ⟨v5.heap.size, 2, none⟩ = some (.slice none 0 0) := block_cell XQ.out 2
  go_wp2_with fail
  refine (CSZ.out _).mono ?_; rintro e v6 ⟨rfl, hb6⟩
  clear X0 X1 X2 Q0 Q1 Q2
  have XD := Lib.hid ((hb6.block _ (block_lt XD.out)).trans XD.out)
  have XU := Lib.hid ((hb6.block _ (block_lt XU.out)).trans XU.out)
  have XX := Lib.hid ((hb6.block _ (block_lt XX.out)).trans XX.out)
  have XP := Lib.hid ((hb6.block _ (block_lt XP.out)).trans XP.out)
  have XQ := Lib.hid ((hb6.block _ (block_lt XQ.out)).trans XQ.out)
  have HB := Lib.hid (chain HB.out hb6)
  clear hb6
  have P0 : v6.cell? ⟨v4.heap.size, 0, none⟩ = some (.int .i64 0) := block_cell XP.out 0
  have P1 : v6.cell? ⟨v4.heap.size, 1, none⟩ = some (.int .i64 0) := block_cell XP.out 1
  have P2 : v6.cell? ⟨v4.heap.size, 2, none⟩ = some (.slice none 0 0) := block_cell XP.out 2
  go_wp2_with fail
  refine (CSZ.out _).mono ?_; rintro e v7 ⟨rfl, hb7⟩
  clear P0 P1 P2
  have XD := Lib.hid ((hb7.block _ (block_lt XD.out)).trans XD.out)
  have XU := Lib.hid ((hb7.block _ (block_lt XU.out)).trans XU.out)
  have XX := Lib.hid ((hb7.block _ (block_lt XX.out)).trans XX.out)
  have XP := Lib.hid ((hb7.block _ (block_lt XP.out)).trans XP.out)
  have XQ := Lib.hid ((hb7.block _ (block_lt XQ.out)).trans XQ.out)
  have HB := Lib.hid (chain HB.out hb7)
  clear hb7
  go_wp2_with fail
  refine (live13 _).mono ?_; rintro e v8 ⟨rfl, hb8⟩
  have XD := Lib.hid ((hb8.block _ (block_lt XD.out)).trans XD.out)
  have XU := Lib.hid ((hb8.block _ (block_lt XU.out)).trans XU.out)
  have XX := Lib.hid ((hb8.block _ (block_lt XX.out)).trans XX.out)
  have XP := Lib.hid ((hb8.block _ (block_lt XP.out)).trans XP.out)
  have XQ := Lib.hid ((hb8.block _ (block_lt XQ.out)).trans XQ.out)
  have HB := Lib.hid (chain HB.out hb8)
  clear hb8
  have hbe := HB.out
  go_wp2_with fail
  go_ret
  exact ⟨rfl, hbe⟩

set_option maxHeartbeats 8000000 in
theorem descPlaces_yes (td tu : Tr) (k n : Int) (a : Option Addr) (m c : Nat) (pa : Option Addr) (L pc : Nat) (k' n' : Int) (a' : Option Addr) (m' c' : Nat) (w : World) (p : List Int) (ts : Tr) (hsa : td.size ≤ 80) (hsb : tu.size ≤ 80) (hL : L ≤ 100) (hLc : L ≤ pc) (hA : IsT w (Lt w.heap.size) k n a m c td) (hB : IsT w (Lt w.heap.size) k' n' a' m' c' tu) (hp : Row .i64 w pa p) (hl : p.length = L) (h : Tr.at? td p = some ts)
    (hput : ∀ W, Below w.heap.size w W → Calls Try.prog 24 #[.agg #[.int .i64 k, .int .i64 n, .slice a m c], .slice pa L pc, .agg #[.int .i64 k', .int .i64 n', .slice a' m' c']] W (GivesW w.heap.size (td.put p tu) W)) :
    Calls Try.prog 4 #[.agg #[.int .i64 k, .int .i64 n, .slice a m c], .slice pa L pc, .agg #[.int .i64 k', .int .i64 n', .slice a' m' c']] w fun e w' => e = .returned (.bool true) ∧ Below w.heap.size w w' := by
  have CA : Hid (∀ W, Below w.heap.size w W → Calls Try.prog 12 #[.agg #[.int .i64 k, .int .i64 n, .slice a m c]] W fun e w' => e = .returned (.bool false) ∧ Below W.heap.size W w') := fun W hb => by
    have := ref_Much td _ _ _ _ _ W w.heap.size (by omega) (hA.below hb) hb.size
    rwa [show decide (80 < td.size) = false by simp; omega] at this
  have CB : Hid (∀ W, Below w.heap.size w W → Calls Try.prog 12 #[.agg #[.int .i64 k', .int .i64 n', .slice a' m' c']] W fun e w' => e = .returned (.bool false) ∧ Below W.heap.size W w') := fun W hb => by
    have := ref_Much tu _ _ _ _ _ W w.heap.size (by omega) (hB.below hb) hb.size
    rwa [show decide (80 < tu.size) = false by simp; omega] at this
  have hLL : ¬ (100 : Int) < (L : Int) := by omega
  have hss : ts.size ≤ 80 := Nat.le_trans (Tr.at_size h) hsa
  have hps : (td.put p tu).size ≤ 160 := by have := Tr.put_size tu h; omega
  have CAT : Hid (∀ W, Below w.heap.size w W → Calls Try.prog 21 #[.agg #[.int .i64 k, .int .i64 n, .slice a m c], .slice pa L pc] W (GivesS2 ts W)) := fun W hb => desc_At_yes td ts k n a m c pa L pc p W _ (by omega) (hA.below hb) (hp.below hb) hl h
  have CPT : Hid (∀ W, Below w.heap.size w W → Calls Try.prog 22 #[.agg #[.int .i64 k, .int .i64 n, .slice a m c], .slice pa L pc, .agg #[.int .i64 k', .int .i64 n', .slice a' m' c']] W (GivesG2 (td.put p tu) W)) := fun W hb => desc_Put_yes td tu ts k n a m c pa L pc p k' n' a' m' c' W _ _ (by omega) (by omega) (hA.below hb) (hB.below hb) (hp.below hb) hl h
  have CRA : Hid (∀ W, Below w.heap.size w W → Calls Try.prog 23 #[.agg #[.int .i64 k, .int .i64 n, .slice a m c], .slice pa L pc] W (GivesT2 w.heap.size ts W)) := fun W hb => ref13_At_yes w.heap.size p td ts k n a m c pa L pc W (by omega) (hA.below hb) (hp.below hb) hl hLc hb.size h
  have CPU : Hid (∀ W, Below w.heap.size w W → Calls Try.prog 24 #[.agg #[.int .i64 k, .int .i64 n, .slice a m c], .slice pa L pc, .agg #[.int .i64 k', .int .i64 n', .slice a' m' c']] W (GivesW w.heap.size (td.put p tu) W)) := hput
  have CAP : Hid (∀ W k n a m c (F : Nat → Prop), Below w.heap.size w W → IsT W F k n a m c (td.put p tu) → Calls Try.prog 21 #[.agg #[.int .i64 k, .int .i64 n, .slice a m c], .slice pa L pc] W (GivesS2 tu W)) := fun W k n a m c F hb ht => desc_At_yes (td.put p tu) tu k n a m c pa L pc p W F (by omega) ht (hp.below hb) hl (Tr.at_put tu h)
  have CSS : Hid (∀ (t : Tr) (W : World) k n a m c k' n' a' m' c' (F G : Nat → Prop), t.size ≤ 160 → IsT W F k n a m c t → IsT W G k' n' a' m' c' t → Calls Try.prog 19 #[.agg #[.int .i64 k, .int .i64 n, .slice a m c], .agg #[.int .i64 k', .int .i64 n', .slice a' m' c']] W fun e w' => e = .returned (.bool true) ∧ Below W.heap.size W w') := fun t W k n a m c k' n' a' m' c' F G hs h1 h2 => by
    have := ref13_Same t t k n a m c k' n' a' m' c' W F G (by omega) (by omega) h1 h2
    rwa [show decide (Tr.cmp t t = 0) = true by rw [Tr.cmp_self]; rfl] at this
  have TU := Lib.hid (hB)
  have HSS := Lib.hid hss
  have HPS := Lib.hid hps
  have HSB := Lib.hid hsb
  clear hA hB hp h hsa hsb hl hput hss hps
  obtain ⟨w0, hW0, hb0, x0, x1⟩ := two_boxes w k n k' n' a a' m c m' c' 24
  have HB := Lib.hid hb0
  have HW0 := Lib.hid hW0
  have XD := Lib.hid x0
  have XU := Lib.hid x1
  clear hb0 hW0 x0 x1
  go_enter Try.func4, Try.ntmps4
  go_wp2_with fail
  rw [HW0.out]
  have TU := Lib.hid (TU.out.below HB.out)
  refine (CA.out _ HB.out).mono ?_; rintro e v1 ⟨rfl, hb1⟩
  have XD := Lib.hid ((hb1.block _ (block_lt XD.out)).trans XD.out)
  have XU := Lib.hid ((hb1.block _ (block_lt XU.out)).trans XU.out)
  have TU := Lib.hid (TU.out.below hb1)
  have HB := Lib.hid (chain HB.out hb1)
  clear hb1
  have U0 : v1.cell? ⟨w.heap.size + 1, 0, none⟩ = some (.int .i64 k') := block_cell XU.out 0
  have U1 : v1.cell? ⟨w.heap.size + 1, 1, none⟩ = some (.int .i64 n') := block_cell XU.out 1
  have U2 : v1.cell? ⟨w.heap.size + 1, 2, none⟩ = some (.slice a' m' c') := block_cell XU.out 2
  go_wp2_with fail
  refine (CB.out _ HB.out).mono ?_; rintro e v2 ⟨rfl, hb2⟩
  clear U0 U1 U2
  have XD := Lib.hid ((hb2.block _ (block_lt XD.out)).trans XD.out)
  have XU := Lib.hid ((hb2.block _ (block_lt XU.out)).trans XU.out)
  have TU := Lib.hid (TU.out.below hb2)
  have HB := Lib.hid (chain HB.out hb2)
  clear hb2
  have D0 : v2.cell? ⟨w.heap.size, 0, none⟩ = some (.int .i64 k) := block_cell XD.out 0
  have D1 : v2.cell? ⟨w.heap.size, 1, none⟩ = some (.int .i64 n) := block_cell XD.out 1
  have D2 : v2.cell? ⟨w.heap.size, 2, none⟩ = some (.slice a m c) := block_cell XD.out 2
  go_wp2_with fail
  refine (CAT.out _ HB.out).mono ?_; rintro e v3 ⟨k3, n3, a3, m3, c3, rfl, ht, hb3⟩
  clear D0 D1 D2
  have XD := Lib.hid ((hb3.block _ (block_lt XD.out)).trans XD.out)
  have XU := Lib.hid ((hb3.block _ (block_lt XU.out)).trans XU.out)
  have TU := Lib.hid (TU.out.below hb3)
  have HB := Lib.hid (chain HB.out hb3)
  have T3 := Lib.hid ht.tree
  clear ht
  clear hb3
  go_upto_region 4 with fail
  obtain ⟨y3, hW, hbx, hx⟩ := box_new v3 (.int .i64 k3) (.int .i64 n3) (.slice a3 m3 c3) 24
  rw [hW]
  clear hW
  have XD := Lib.hid ((hbx.block _ (block_lt XD.out)).trans XD.out)
  have XU := Lib.hid ((hbx.block _ (block_lt XU.out)).trans XU.out)
  have TU := Lib.hid (TU.out.below hbx)
  have T3 := Lib.hid (T3.out.below hbx)
  have HB := Lib.hid (chain HB.out hbx)
  have XX := Lib.hid hx
  clear hx hbx
  have D0 : y3.cell? ⟨w.heap.size, 0, none⟩ = some (.int .i64 k) := block_cell XD.out 0
  have D1 : y3.cell? ⟨w.heap.size, 1, none⟩ = some (.int .i64 n) := block_cell XD.out 1
  have D2 : y3.cell? ⟨w.heap.size, 2, none⟩ = some (.slice a m c) := block_cell XD.out 2
  have U0 : y3.cell? ⟨w.heap.size + 1, 0, none⟩ = some (.int .i64 k') := block_cell XU.out 0
  have U1 : y3.cell? ⟨w.heap.size + 1, 1, none⟩ = some (.int .i64 n') := block_cell XU.out 1
  have U2 : y3.cell? ⟨w.heap.size + 1, 2, none⟩ = some (.slice a' m' c') := block_cell XU.out 2
  go_wp2_with fail
  refine (CPT.out _ HB.out).mono ?_; rintro e v4 ⟨k4, n4, a4, m4, c4, rfl, ht, hb4⟩
  clear D0 D1 D2 U0 U1 U2
  have XD := Lib.hid ((hb4.block _ (block_lt XD.out)).trans XD.out)
  have XU := Lib.hid ((hb4.block _ (block_lt XU.out)).trans XU.out)
  have XX := Lib.hid ((hb4.block _ (block_lt XX.out)).trans XX.out)
  have TU := Lib.hid (TU.out.below hb4)
  have T3 := Lib.hid (T3.out.below hb4)
  have HB := Lib.hid (chain HB.out hb4)
  have T4 := Lib.hid ht
  clear ht
  clear hb4
  go_upto_region 5 with fail
  obtain ⟨y4, hW, hbx, hx⟩ := box_new v4 (.int .i64 k4) (.int .i64 n4) (.slice a4 m4 c4) 24
  rw [hW]
  clear hW
  have XD := Lib.hid ((hbx.block _ (block_lt XD.out)).trans XD.out)
  have XU := Lib.hid ((hbx.block _ (block_lt XU.out)).trans XU.out)
  have XX := Lib.hid ((hbx.block _ (block_lt XX.out)).trans XX.out)
  have TU := Lib.hid (TU.out.below hbx)
  have T3 := Lib.hid (T3.out.below hbx)
  have T4 := Lib.hid (T4.out.below hbx)
  have HB := Lib.hid (chain HB.out hbx)
  have XP := Lib.hid hx
  clear hx hbx
  have D0 : y4.cell? ⟨w.heap.size, 0, none⟩ = some (.int .i64 k) := block_cell XD.out 0
  have D1 : y4.cell? ⟨w.heap.size, 1, none⟩ = some (.int .i64 n) := block_cell XD.out 1
  have D2 : y4.cell? ⟨w.heap.size, 2, none⟩ = some (.slice a m c) := block_cell XD.out 2
  go_wp2_with fail
  refine (CRA.out _ HB.out).mono ?_; rintro e v5 ⟨k5, n5, a5, m5, c5, rfl, ht, hb5⟩
  clear D0 D1 D2
  have XD := Lib.hid ((hb5.block _ (block_lt XD.out)).trans XD.out)
  have XU := Lib.hid ((hb5.block _ (block_lt XU.out)).trans XU.out)
  have XX := Lib.hid ((hb5.block _ (block_lt XX.out)).trans XX.out)
  have XP := Lib.hid ((hb5.block _ (block_lt XP.out)).trans XP.out)
  have TU := Lib.hid (TU.out.below hb5)
  have T3 := Lib.hid (T3.out.below hb5)
  have T4 := Lib.hid (T4.out.below hb5)
  have HB := Lib.hid (chain HB.out hb5)
  have T5 := Lib.hid ht
  clear ht
  clear hb5
  go_upto_region 6 with fail
  obtain ⟨y5, hW, hbx, hx⟩ := box_new v5 (.int .i64 k5) (.int .i64 n5) (.slice a5 m5 c5) 24
  rw [hW]
  clear hW
  have XD := Lib.hid ((hbx.block _ (block_lt XD.out)).trans XD.out)
  have XU := Lib.hid ((hbx.block _ (block_lt XU.out)).trans XU.out)
  have XX := Lib.hid ((hbx.block _ (block_lt XX.out)).trans XX.out)
  have XP := Lib.hid ((hbx.block _ (block_lt XP.out)).trans XP.out)
  have TU := Lib.hid (TU.out.below hbx)
  have T3 := Lib.hid (T3.out.below hbx)
  have T4 := Lib.hid (T4.out.below hbx)
  have T5 := Lib.hid (T5.out.below hbx)
  have HB := Lib.hid (chain HB.out hbx)
  have XQ := Lib.hid hx
  clear hx hbx
  have X0 : y5.cell? ⟨v3.heap.size, 0, none⟩ = some (.int .i64 k3) := block_cell XX.out 0
  have X1 : y5.cell? ⟨v3.heap.size, 1, none⟩ = some (.int .i64 n3) := block_cell XX.out 1
  have X2 : y5.cell? ⟨v3.heap.size, 2, none⟩ = some (.slice a3 m3 c3) := block_cell XX.out 2
  have Q0 : y5.cell? ⟨v5.heap.size, 0, none⟩ = some (.int .i64 k5) := block_cell XQ.out 0
  have Q1 : y5.cell? ⟨v5.heap.size, 1, none⟩ = some (.int .i64 n5) := block_cell XQ.out 1
  have Q2 : y5.cell? ⟨v5.heap.size, 2, none⟩ = some (.slice a5 m5 c5) := block_cell XQ.out 2
  go_wp2_with fail
  refine (CSS.out ts _ _ _ _ _ _ _ _ _ _ _ _ _ (by have := HSS.out; omega) T3.out T5.out).mono ?_; rintro e v6 ⟨rfl, hb6⟩
  clear X0 X1 X2 Q0 Q1 Q2
  have XD := Lib.hid ((hb6.block _ (block_lt XD.out)).trans XD.out)
  have XU := Lib.hid ((hb6.block _ (block_lt XU.out)).trans XU.out)
  have XX := Lib.hid ((hb6.block _ (block_lt XX.out)).trans XX.out)
  have XP := Lib.hid ((hb6.block _ (block_lt XP.out)).trans XP.out)
  have XQ := Lib.hid ((hb6.block _ (block_lt XQ.out)).trans XQ.out)
  have TU := Lib.hid (TU.out.below hb6)
  have T3 := Lib.hid (T3.out.below hb6)
  have T4 := Lib.hid (T4.out.below hb6)
  have T5 := Lib.hid (T5.out.below hb6)
  have HB := Lib.hid (chain HB.out hb6)
  clear hb6
  have P0 : v6.cell? ⟨v4.heap.size, 0, none⟩ = some (.int .i64 k4) := block_cell XP.out 0
  have P1 : v6.cell? ⟨v4.heap.size, 1, none⟩ = some (.int .i64 n4) := block_cell XP.out 1
  have P2 : v6.cell? ⟨v4.heap.size, 2, none⟩ = some (.slice a4 m4 c4) := block_cell XP.out 2
  go_wp2_with fail
  refine (CAP.out _ _ _ _ _ _ _ HB.out T4.out).mono ?_; rintro e v7 ⟨k6, n6, a6, m6, c6, rfl, ht, hb7⟩
  clear P0 P1 P2
  have XD := Lib.hid ((hb7.block _ (block_lt XD.out)).trans XD.out)
  have XU := Lib.hid ((hb7.block _ (block_lt XU.out)).trans XU.out)
  have XX := Lib.hid ((hb7.block _ (block_lt XX.out)).trans XX.out)
  have XP := Lib.hid ((hb7.block _ (block_lt XP.out)).trans XP.out)
  have XQ := Lib.hid ((hb7.block _ (block_lt XQ.out)).trans XQ.out)
  have TU := Lib.hid (TU.out.below hb7)
  have T3 := Lib.hid (T3.out.below hb7)
  have T4 := Lib.hid (T4.out.below hb7)
  have T5 := Lib.hid (T5.out.below hb7)
  have HB := Lib.hid (chain HB.out hb7)
  have T6 := Lib.hid ht.tree
  clear ht
  clear hb7
  go_upto_region 11 with fail
  obtain ⟨y7, hW, hbx, hx⟩ := box_new v7 (.int .i64 k6) (.int .i64 n6) (.slice a6 m6 c6) 24
  rw [hW]
  clear hW
  have XD := Lib.hid ((hbx.block _ (block_lt XD.out)).trans XD.out)
  have XU := Lib.hid ((hbx.block _ (block_lt XU.out)).trans XU.out)
  have XX := Lib.hid ((hbx.block _ (block_lt XX.out)).trans XX.out)
  have XP := Lib.hid ((hbx.block _ (block_lt XP.out)).trans XP.out)
  have XQ := Lib.hid ((hbx.block _ (block_lt XQ.out)).trans XQ.out)
  have TU := Lib.hid (TU.out.below hbx)
  have T3 := Lib.hid (T3.out.below hbx)
  have T4 := Lib.hid (T4.out.below hbx)
  have T5 := Lib.hid (T5.out.below hbx)
  have T6 := Lib.hid (T6.out.below hbx)
  have HB := Lib.hid (chain HB.out hbx)
  have XY := Lib.hid hx
  clear hx hbx
  have P0 : y7.cell? ⟨v4.heap.size, 0, none⟩ = some (.int .i64 k4) := block_cell XP.out 0
  have P1 : y7.cell? ⟨v4.heap.size, 1, none⟩ = some (.int .i64 n4) := block_cell XP.out 1
  have P2 : y7.cell? ⟨v4.heap.size, 2, none⟩ = some (.slice a4 m4 c4) := block_cell XP.out 2
  have D0 : y7.cell? ⟨w.heap.size, 0, none⟩ = some (.int .i64 k) := block_cell XD.out 0
  have D1 : y7.cell? ⟨w.heap.size, 1, none⟩ = some (.int .i64 n) := block_cell XD.out 1
  have D2 : y7.cell? ⟨w.heap.size, 2, none⟩ = some (.slice a m c) := block_cell XD.out 2
  have U0 : y7.cell? ⟨w.heap.size + 1, 0, none⟩ = some (.int .i64 k') := block_cell XU.out 0
  have U1 : y7.cell? ⟨w.heap.size + 1, 1, none⟩ = some (.int .i64 n') := block_cell XU.out 1
  have U2 : y7.cell? ⟨w.heap.size + 1, 2, none⟩ = some (.slice a' m' c') := block_cell XU.out 2
  have Y0 : y7.cell? ⟨v7.heap.size, 0, none⟩ = some (.int .i64 k6) := block_cell XY.out 0
  have Y1 : y7.cell? ⟨v7.heap.size, 1, none⟩ = some (.int .i64 n6) := block_cell XY.out 1
  have Y2 : y7.cell? ⟨v7.heap.size, 2, none⟩ = some (.slice a6 m6 c6) := block_cell XY.out 2
  have lP := block_lt XP.out
  have lD := block_lt XD.out
  have lU := block_lt XU.out
  have lY := block_lt XY.out
  have hb : Below y7.heap.size y7 y7.drew := (Below.refl _ _).drew
  go_region_held3 (fun w' => (w'.cell? ⟨v4.heap.size, 0, none⟩ = some (.int .i64 k4) ∧ w'.cell? ⟨v4.heap.size, 1, none⟩ = some (.int .i64 n4) ∧ w'.cell? ⟨v4.heap.size, 2, none⟩ = some (.slice a4 m4 c4)) ∧ (w'.cell? ⟨w.heap.size, 0, none⟩ = some (.int .i64 k) ∧ w'.cell? ⟨w.heap.size, 1, none⟩ = some (.int .i64 n) ∧ w'.cell? ⟨w.heap.size, 2, none⟩ = some (.slice a m c)) ∧ (w'.cell? ⟨w.heap.size + 1, 0, none⟩ = some (.int .i64 k') ∧ w'.cell? ⟨w.heap.size + 1, 1, none⟩ = some (.int .i64 n') ∧ w'.cell? ⟨w.heap.size + 1, 2, none⟩ = some (.slice a' m' c')) ∧ (w'.cell? ⟨v7.heap.size, 0, none⟩ = some (.int .i64 k6) ∧ w'.cell? ⟨v7.heap.size, 1, none⟩ = some (.int .i64 n6) ∧ w'.cell? ⟨v7.heap.size, 2, none⟩ = some (.slice a6 m6 c6))) (first | exact ⟨⟨P0, P1, P2⟩, ⟨D0, D1, D2⟩, ⟨U0, U1, U2⟩, ⟨Y0, Y1, Y2⟩⟩ | exact ⟨⟨(hb.cell (p := ⟨v4.heap.size, 0, none⟩) lP).trans P0, (hb.cell (p := ⟨v4.heap.size, 1, none⟩) lP).trans P1, (hb.cell (p := ⟨v4.heap.size, 2, none⟩) lP).trans P2⟩, ⟨(hb.cell (p := ⟨w.heap.size, 0, none⟩) lD).trans D0, (hb.cell (p := ⟨w.heap.size, 1, none⟩) lD).trans D1, (hb.cell (p := ⟨w.heap.size, 2, none⟩) lD).trans D2⟩, ⟨(hb.cell (p := ⟨w.heap.size + 1, 0, none⟩) lU).trans U0, (hb.cell (p := ⟨w.heap.size + 1, 1, none⟩) lU).trans U1, (hb.cell (p := ⟨w.heap.size + 1, 2, none⟩) lU).trans U2⟩, ⟨(hb.cell (p := ⟨v7.heap.size, 0, none⟩) lY).trans Y0, (hb.cell (p := ⟨v7.heap.size, 1, none⟩) lY).trans Y1, (hb.cell (p := ⟨v7.heap.size, 2, none⟩) lY).trans Y2⟩⟩) ((first | (go_at_call 24; ((with_reducible refine (CPU.out _ (chain HB.out hb)).mono ?_); rintro e z1 ⟨k7, n7, a7, m7, c7, rfl, ht, hc⟩; have T7 := Lib.hid ht; have T4 := Lib.hid ((T4.out.below hb).below hc); have T6 := Lib.hid ((T6.out.below hb).below hc); have TU := Lib.hid ((TU.out.below hb).below hc); have hb := chain hb hc)) | (go_at_call 19; ((with_reducible refine (CSS.out (td.put p tu) _ _ _ _ _ _ _ _ _ _ _ _ _ HPS.out T4.out T7.out).mono ?_); rintro e z2 ⟨rfl, hc⟩; have T6 := Lib.hid (T6.out.below hc); have TU := Lib.hid (TU.out.below hc); have hb := chain hb hc)) | (go_at_call 19; ((with_reducible refine (CSS.out tu _ _ _ _ _ _ _ _ _ _ _ _ _ (by have := HSB.out; omega) T6.out TU.out).mono ?_); rintro e z3 ⟨rfl, hc⟩; have hb := chain hb hc)) | (go_at_call 13; ((with_reducible refine (live13 _).mono ?_); rintro e z4 ⟨rfl, hc⟩; have hb := chain hb hc))))
  have hbe := chain HB.out hb
  go_wp2_with fail
  go_ret
  exact ⟨rfl, hbe⟩
end Go.Proofs.Ytpehbgcbifgokaa
