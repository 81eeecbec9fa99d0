/- Contracts: rows of names, by the reference. -/
import Derived.Test.YtncikklhchimdaaNeedF
import Derived.BigQuiet
import Derived.Deep.QuietTactic
namespace Go.Proofs.Ytncikklhchimdaa
open Go.RowKit
set_option linter.unusedVariables false
set_option linter.unusedSimpArgs false
set_option maxRecDepth 100000
set_option maxRecDepth 20000

def nmAt (xs : List Nm) (i : Nat) : Nm := xs.getD i (0, 0, 0, 0)
theorem nmAt_get {xs : List Nm} {i : Nat} (h : i < xs.length) : nmAt xs i = xs[i] := by simp [nmAt, h]
theorem nmAt_mem {xs : List Nm} {i : Nat} (h : i < xs.length) : nmAt xs i ∈ xs := by rw [nmAt_get h]; exact List.getElem_mem h
theorem take_nm {xs : List Nm} {k : Nat} (h : k < xs.length) : xs.take (k + 1) = xs.take k ++ [nmAt xs k] := by rw [List.take_succ_eq_append_getElem h, nmAt_get h]
theorem cellsN_at (xs : List Nm) : ∀ i, i < xs.length → (cellsN xs)[i * 4]? = some (.int .i64 (nmAt xs i).1) ∧ (cellsN xs)[i * 4 + 1]? = some (.int .i64 (nmAt xs i).2.1) ∧ (cellsN xs)[i * 4 + 2]? = some (.int .i64 (nmAt xs i).2.2.1) ∧ (cellsN xs)[i * 4 + 3]? = some (.int .i64 (nmAt xs i).2.2.2) := by
  induction xs with
  | nil => intro i h; simp at h
  | cons x xs ih =>
    intro i h
    cases i with
    | zero => simp [cellsN, nmAt]
    | succ i =>
      obtain ⟨h0, h1, h2, h3⟩ := ih i (by simpa using h)
      refine ⟨?_, ?_, ?_, ?_⟩
      · rw [show (i + 1) * 4 = i * 4 + 4 by omega]; exact h0
      · rw [show (i + 1) * 4 + 1 = i * 4 + 1 + 4 by omega]; exact h1
      · rw [show (i + 1) * 4 + 2 = i * 4 + 2 + 4 by omega]; exact h2
      · rw [show (i + 1) * 4 + 3 = i * 4 + 3 + 4 by omega]; exact h3

/-- The slice at address a reads as the names. -/
def RowN (w : World) (a : Option Addr) (xs : List Nm) : Prop :=
  xs = [] ∨ ∃ b off, a = some ⟨b, off, none⟩ ∧ b < w.heap.size ∧ ∀ i, i < xs.length → w.cell? ⟨b, off + i * 4, none⟩ = some (.int .i64 (nmAt xs i).1) ∧ w.cell? ⟨b, off + i * 4 + 1, none⟩ = some (.int .i64 (nmAt xs i).2.1) ∧ w.cell? ⟨b, off + i * 4 + 2, none⟩ = some (.int .i64 (nmAt xs i).2.2.1) ∧ w.cell? ⟨b, off + i * 4 + 3, none⟩ = some (.int .i64 (nmAt xs i).2.2.2)
theorem RowN.at {w : World} {a : Option Addr} {xs : List Nm} (h : RowN w a xs) (i : Nat) (hi : i < xs.length) : ∃ b off, a = some ⟨b, off, none⟩ ∧ b < w.heap.size ∧ w.cell? ⟨b, off + i * 4, none⟩ = some (.int .i64 (nmAt xs i).1) ∧ w.cell? ⟨b, off + i * 4 + 1, none⟩ = some (.int .i64 (nmAt xs i).2.1) ∧ w.cell? ⟨b, off + i * 4 + 2, none⟩ = some (.int .i64 (nmAt xs i).2.2.1) ∧ w.cell? ⟨b, off + i * 4 + 3, none⟩ = some (.int .i64 (nmAt xs i).2.2.2) := by
  rcases h with rfl | ⟨b, off, h1, h2, h3⟩
  · simp at hi
  · exact ⟨b, off, h1, h2, h3 i hi⟩
theorem RowN.below {w w' : World} {a : Option Addr} {xs : List Nm} (h : RowN w a xs) (hb : Below w.heap.size w w') : RowN w' a xs := by
  rcases h with h | ⟨b, off, h1, h2, h3⟩
  · exact .inl h
  · refine .inr ⟨b, off, h1, Nat.lt_of_lt_of_le h2 hb.size, fun i hi => ?_⟩
    obtain ⟨e0, e1, e2, e3⟩ := h3 i hi
    have e := fun o => hb.cell (p := ⟨b, o, none⟩) h2
    exact ⟨(e _).trans e0, (e _).trans e1, (e _).trans e2, (e _).trans e3⟩
theorem RowN.of_own {w : World} {base : Nat} {e : TypeId} {a : Option Addr} {n cap : Nat} {xs : List Nm} (h : w.ownsRow base e 4 (.slice a n cap) n (cellsN xs)) (hn : xs.length = n) : RowN w a xs := by
  rcases h.2 with ⟨hv, h0⟩ | ⟨g, cap', cur, hv, _, hg, _⟩
  · exact .inl (List.eq_nil_of_length_eq_zero (by omega))
  · simp only [Value.slice.injEq, true_and] at hv
    obtain ⟨rfl, rfl⟩ := hv
    refine .inr ⟨g, 0, rfl, block_lt hg, fun i hi => ?_⟩
    obtain ⟨e0, e1, e2, e3⟩ := cellsN_at xs i hi
    refine ⟨?_, ?_, ?_, ?_⟩
    · rw [Nat.zero_add, h.cellAt _ (by omega), e0]
    · rw [Nat.zero_add, h.cellAt _ (by omega), e1]
    · rw [Nat.zero_add, h.cellAt _ (by omega), e2]
    · rw [Nat.zero_add, h.cellAt _ (by omega), e3]

theorem nm_ne {x y : Nm} (h : x ≠ y) : x.1 ≠ y.1 ∨ (x.1 = y.1 ∧ x.2.1 ≠ y.2.1) ∨ (x.1 = y.1 ∧ x.2.1 = y.2.1 ∧ x.2.2.1 ≠ y.2.2.1) ∨ (x.1 = y.1 ∧ x.2.1 = y.2.1 ∧ x.2.2.1 = y.2.2.1 ∧ x.2.2.2 ≠ y.2.2.2) := by
  obtain ⟨a, b, c, d⟩ := x
  obtain ⟨a', b', c', d'⟩ := y
  simp only [ne_eq, Prod.mk.injEq] at h ⊢
  omega

set_option maxHeartbeats 4000000 in
theorem ref15_Has (xs : List Nm) (a : Option Addr) (n cap : Nat) (x1 x2 x3 x4 : Int) (w : World) (hx : RowN w a xs) (hn : xs.length = n) (hl : n ≤ 16777216) :
    Calls Try.prog 37 #[.slice a n cap, .agg #[.int .i64 x1, .int .i64 x2, .int .i64 x3, .int .i64 x4]] w fun e w' => e = .returned (.bool (decide ((x1, x2, x3, x4) ∈ xs))) ∧ Below w.heap.size w w' := by
  have HX := Lib.hid hx
  have HN := Lib.hid hn
  obtain ⟨W0, hW0, hb0, y0⟩ := box_any w #[.int .i64 x1, .int .i64 x2, .int .i64 x3, .int .i64 x4] 57
  have HB0 := Lib.hid hb0
  have HW0 := Lib.hid hW0
  have XD := Lib.hid y0
  clear hx hn hb0 hW0 y0
  go_enter Try.func37, Try.ntmps37
  go_wp2_with fail
  rw [HW0.out]
  go_loopw [5] (fun i wr => ∃ j : Nat, j ≤ n ∧ i = .int .i64 j ∧ Hid ((x1, x2, x3, x4) ∉ xs.take j) ∧ Hid (Below W0.heap.size W0 wr)) (fun i _ => n - (intOf i).toNat)
  case atStart => exact ⟨0, Nat.zero_le _, rfl, by simp [Hid], Below.refl _ _⟩
  case round =>
    obtain ⟨j, hj, rfl, HM, HB⟩ := hrel
    have XR := Lib.hid ((HB.out.block _ (block_lt XD.out)).trans XD.out)
    by_cases hlt : j < n
    · obtain ⟨b, off, rfl, hbl, c0, c1, c2, c3⟩ := (HX.out.below (chain HB0.out HB.out)).at j (by rw [HN.out]; exact hlt)
      have htk := take_nm (xs := xs) (k := j) (by rw [HN.out]; exact hlt)
      have hmem := nmAt_mem (xs := xs) (i := j) (by rw [HN.out]; exact hlt)
      have D0 : wr.cell? ⟨w.heap.size, 0, none⟩ = some (.int .i64 x1) := block_cell XR.out 0
      have D1 : wr.cell? ⟨w.heap.size, 1, none⟩ = some (.int .i64 x2) := block_cell XR.out 1
      have D2 : wr.cell? ⟨w.heap.size, 2, none⟩ = some (.int .i64 x3) := block_cell XR.out 2
      have D3 : wr.cell? ⟨w.heap.size, 3, none⟩ = some (.int .i64 x4) := block_cell XR.out 3
      have g1 : (0 : Int) ≤ (j : Int) := by omega
      have g2 : (j : Int) < (n : Int) := by omega
      by_cases he : nmAt xs j = (x1, x2, x3, x4)
      · rw [he] at c0 c1 c2 c3 hmem
        have HR : Hid (decide ((x1, x2, x3, x4) ∈ xs) = true) := decide_eq_true hmem
        clear htk hmem he
        go_wp2_with fail
        go_quiet (fail)
        have hb := below_drewN (Below.refl wr.heap.size wr) nq
        have HBE := Lib.hid (chain HB0.out (chain HB.out hb))
        clear hb
        go_wp2_with fail
        go_ret
        exact ⟨by simp [HR.out], HBE.out⟩
      · have HM2 : Hid ((x1, x2, x3, x4) ∉ xs.take (j + 1)) := by
          unfold Hid
          rw [htk, List.mem_append, List.mem_singleton]
          exact fun h => h.elim HM.out (fun e => he e.symm)
        have hne := nm_ne he
        simp only at hne
        obtain ⟨y, hy⟩ : ∃ y, nmAt xs j = y := ⟨_, rfl⟩
        rw [hy] at c0 c1 c2 c3 hne
        obtain ⟨z1, z2, z3, z4⟩ := y
        simp only at c0 c1 c2 c3 hne
        clear htk hmem he hy
        rcases hne with h | ⟨rfl, h⟩ | ⟨rfl, rfl, h⟩ | ⟨rfl, rfl, rfl, h⟩
        all_goals
          go_wp2_with fail
          go_quiet (fail)
          have hb := below_drewN (Below.refl wr.heap.size wr) nq
          have HBE := Lib.hid (chain HB.out hb)
          clear hb c0 c1 c2 c3 D0 D1 D2 D3
          go_wp2_with fail
          go_roundw
          case rel => exact ⟨j + 1, by omega, by go_num, HM2.out, HBE.out⟩
          case measure => simp [intOf]; omega
    · have HR : Hid (decide ((x1, x2, x3, x4) ∈ xs) = false) := by
        unfold Hid
        have := HM.out
        rw [List.take_of_length_le (by rw [HN.out]; omega)] at this
        exact decide_eq_false this
      clear HM
      go_wp2_with fail
      go_ret
      exact ⟨by simp [HR.out], chain HB0.out HB.out⟩
end Go.Proofs.Ytncikklhchimdaa

namespace Go.Proofs.Ytncikklhchimdaa
open Go.RowKit
set_option linter.unusedVariables false
set_option linter.unusedSimpArgs false
set_option maxRecDepth 20000

theorem ref15_Check (t : Tr) (k n : Int) (a : Option Addr) (m cap : Nat) (dir : Int) (w : World) (B : Nat) (hB : B ≤ w.heap.size) (hs : t.size ≤ 4194304) (hT : IsT w (Lt B) k n a m cap t) :
    Calls Try.prog 34 #[.agg #[.int .i64 k, .int .i64 n, .slice a m cap], .int .i64 dir] w fun e w' => e = .returned (.int .i64 (errN t dir)) ∧ Below w.heap.size w w' := by
  show Calls Try.prog _ _ w fun e w' => e = .returned (.int .i64 (if dir ≠ 0 ∧ dir ≠ 1 then 2 else chk t)) ∧ Below w.heap.size w w'
  by_cases hd : dir ≠ 0 ∧ dir ≠ 1
  · rw [if_pos hd]
    have t0 : (dir != 0) = true := bdiff hd.1
    have t1 : (dir != 1) = true := bdiff hd.2
    clear hd hT
    go_enter Try.func34, Try.ntmps34
    go_wp2_with fail
    go_ret
    exact ⟨rfl, (Below.refl _ _).alloc (Nat.le_refl _) _⟩
  · rw [if_neg hd]
    have CC : Hid (∀ W, Below w.heap.size w W → Calls Try.prog 23 #[.agg #[.int .i64 k, .int .i64 n, .slice a m cap]] W fun e w' => e = .returned (.int .i64 (chk t)) ∧ Below W.heap.size W w') := fun W hb => ref14_Check t k n a m cap W B (Nat.le_trans hB hb.size) hs (hT.below hb)
    rcases (show dir = 0 ∨ dir = 1 by omega) with rfl | rfl
    all_goals
      clear hd hT
      go_enter Try.func34, Try.ntmps34
      go_wp2_with fail
      refine (CC.out _ ((Below.refl _ _).alloc (Nat.le_refl _) _)).mono ?_; rintro e w1 ⟨rfl, hb⟩
      have hb1 := chainA (Below.refl w.heap.size w) hb
      clear hb
      go_wp2_with fail
      go_ret
      exact ⟨rfl, hb1⟩

theorem ext_nm {xs ys : List Nm} (hl : xs.length = ys.length) (h : ∀ i, i < xs.length → nmAt xs i = nmAt ys i) : xs = ys := by
  refine List.ext_getElem hl fun i h1 h2 => ?_
  have := h i h1
  rwa [nmAt_get h1, nmAt_get h2] at this

set_option maxHeartbeats 4000000 in
theorem ref15_Same (xs ys : List Nm) (a : Option Addr) (n cap : Nat) (a' : Option Addr) (n' cap' : Nat) (w : World) (hx : RowN w a xs) (hn : xs.length = n) (hy : RowN w a' ys) (hn' : ys.length = n') (hl : n ≤ 16777216) (hl' : n' ≤ 16777216) :
    Calls Try.prog 43 #[.slice a n cap, .slice a' n' cap'] w fun e w' => e = .returned (.bool (decide (xs = ys))) ∧ Below w.heap.size w w' := by
  have HX := Lib.hid hx
  have HN := Lib.hid hn
  have HY := Lib.hid hy
  have HN' := Lib.hid hn'
  by_cases hnn : n = n'
  case neg =>
    have HR : Hid (decide (xs = ys) = false) := decide_eq_false (fun e => hnn (by rw [← hn, ← hn', e]))
    have t0 : ((n : Int) != (n' : Int)) = true := bdiff (by omega)
    clear hnn hx hn hy hn'
    go_enter Try.func43, Try.ntmps43
    go_wp2_with fail
    go_ret
    exact ⟨by simp [HR.out], Below.refl _ _⟩
  subst hnn
  clear hx hn hy hn'
  go_enter Try.func43, Try.ntmps43
  go_wp2_with fail
  go_loopw [5] (fun i wr => ∃ j : Nat, j ≤ n ∧ i = .int .i64 j ∧ Hid (∀ i, i < j → nmAt xs i = nmAt ys i) ∧ Hid (Below w.heap.size w wr)) (fun i _ => n - (intOf i).toNat)
  case atStart => exact ⟨0, Nat.zero_le _, rfl, fun i h => absurd h (by omega), Below.refl _ _⟩
  case round =>
    obtain ⟨j, hj, rfl, HM, HB⟩ := hrel
    by_cases hlt : j < n
    · obtain ⟨b, off, rfl, hbl, c0, c1, c2, c3⟩ := (HX.out.below HB.out).at j (by rw [HN.out]; exact hlt)
      obtain ⟨b', off', rfl, hbl', d0, d1, d2, d3⟩ := (HY.out.below HB.out).at j (by rw [HN'.out]; exact hlt)
      have g1 : (0 : Int) ≤ (j : Int) := by omega
      have g2 : (j : Int) < (n : Int) := by omega
      by_cases he : nmAt xs j = nmAt ys j
      · have HM2 : Hid (∀ i, i < j + 1 → nmAt xs i = nmAt ys i) := fun i hi => by
          rcases Nat.lt_succ_iff_lt_or_eq.1 hi with h | rfl
          · exact HM.out i h
          · exact he
        rw [he] at c0 c1 c2 c3
        obtain ⟨y, hy⟩ : ∃ y, nmAt ys j = y := ⟨_, rfl⟩
        rw [hy] at c0 c1 c2 c3 d0 d1 d2 d3
        obtain ⟨z1, z2, z3, z4⟩ := y
        simp only at c0 c1 c2 c3 d0 d1 d2 d3
        clear he hy
        go_wp2_with fail
        go_quiet (fail)
        have hb := below_drewN (Below.refl wr.heap.size wr) nq
        have HBE := Lib.hid (chain HB.out hb)
        clear hb c0 c1 c2 c3 d0 d1 d2 d3
        go_wp2_with fail
        go_roundw
        case rel => exact ⟨j + 1, by omega, by go_num, HM2.out, HBE.out⟩
        case measure => simp [intOf]; omega
      · have HR : Hid (decide (xs = ys) = false) := decide_eq_false (fun e => he (by rw [e]))
        have hne := nm_ne he
        obtain ⟨x, hx⟩ : ∃ x, nmAt xs j = x := ⟨_, rfl⟩
        obtain ⟨y, hy⟩ : ∃ y, nmAt ys j = y := ⟨_, rfl⟩
        rw [hx] at c0 c1 c2 c3 hne
        rw [hy] at d0 d1 d2 d3 hne
        obtain ⟨u1, u2, u3, u4⟩ := x
        obtain ⟨z1, z2, z3, z4⟩ := y
        simp only at c0 c1 c2 c3 d0 d1 d2 d3 hne
        clear he hx hy
        rcases hne with h | ⟨rfl, h⟩ | ⟨rfl, rfl, h⟩ | ⟨rfl, rfl, rfl, h⟩
        all_goals
          go_wp2_with fail
          go_quiet (fail)
          have hb := below_drewN (Below.refl wr.heap.size wr) nq
          have HBE := Lib.hid (chain HB.out hb)
          clear hb c0 c1 c2 c3 d0 d1 d2 d3
          go_wp2_with fail
          go_ret
          exact ⟨by simp [HR.out], HBE.out⟩
    · have HR : Hid (decide (xs = ys) = true) := decide_eq_true (ext_nm (by rw [HN.out, HN'.out]) (fun i hi => HM.out i (by rw [HN.out] at hi; omega)))
      clear HM
      go_wp2_with fail
      go_ret
      exact ⟨by simp [HR.out], HB.out⟩

set_option maxHeartbeats 4000000 in
theorem ref15_Once (xs : List Nm) (a : Option Addr) (n cap : Nat) (w : World) (hx : RowN w a xs) (hn : xs.length = n) (hl : n ≤ 1048576) :
    Calls Try.prog 44 #[.slice a n cap] w (GivesN (once xs) w) := by
  obtain ⟨i0, hi, hz0, hz1, hz2⟩ := info_parts info_name
  have HX := Lib.hid hx
  have HN := Lib.hid hn
  clear hx hn
  go_enter Try.func44, Try.ntmps44
  go_wp2_with fail
  go_loopw [3, 4] (fun v i wr => ∃ (j L : Nat) (A : Option Addr) (c : Nat), j ≤ n ∧ i = .int .i64 j ∧ v = .slice A L c ∧ L ≤ j ∧ Hid (L = (once (xs.take j)).length) ∧ Hid (wr.ownsRow w.heap.size 57 4 (.slice A L c) L (cellsN (once (xs.take j)))) ∧ Hid (Below w.heap.size w wr)) (fun _ i _ => n - (intOf i).toNat)
  case atStart => exact ⟨0, 0, none, 0, Nat.zero_le _, rfl, rfl, Nat.le_refl _, rfl, World.ownsRow_nil _ _ _ _, Below.refl _ _⟩
  case round =>
    obtain ⟨j, L, A, c, hj, rfl, rfl, hL, HL, HO, HB⟩ := hrel
    by_cases hlt : j < n
    · obtain ⟨b, off, rfl, hbl, c0, c1, c2, c3⟩ := (HX.out.below HB.out).at j (by rw [HN.out]; exact hlt)
      have htk := take_nm (xs := xs) (k := j) (by rw [HN.out]; exact hlt)
      have g1 : (0 : Int) ≤ (j : Int) := by omega
      have g2 : (j : Int) < (n : Int) := by omega
      have hos := once_snoc (xs.take j) (nmAt xs j)
      rw [← htk] at hos
      have HOS := Lib.hid hos
      obtain ⟨y, hy⟩ : ∃ y, nmAt xs j = y := ⟨_, rfl⟩
      rw [hy] at c0 c1 c2 c3 HOS
      obtain ⟨z1, z2, z3, z4⟩ := y
      simp only at c0 c1 c2 c3
      have CH : Hid (Calls Try.prog 37 #[.slice A L c, .agg #[.int .i64 z1, .int .i64 z2, .int .i64 z3, .int .i64 z4]] wr fun e w' => e = .returned (.bool (decide ((z1, z2, z3, z4) ∈ once (xs.take j)))) ∧ Below wr.heap.size wr w') :=
        ref15_Has (once (xs.take j)) A L c z1 z2 z3 z4 wr (RowN.of_own HO.out HL.out.symm) HL.out.symm (by omega)
      have e0 := fun (V : World) (hb : Below wr.heap.size wr V) => (hb.cell (p := ⟨b, off + j * 4, none⟩) hbl).trans c0
      have e1 := fun (V : World) (hb : Below wr.heap.size wr V) => (hb.cell (p := ⟨b, off + j * 4 + 1, none⟩) hbl).trans c1
      have e2 := fun (V : World) (hb : Below wr.heap.size wr V) => (hb.cell (p := ⟨b, off + j * 4 + 2, none⟩) hbl).trans c2
      have e3 := fun (V : World) (hb : Below wr.heap.size wr V) => (hb.cell (p := ⟨b, off + j * 4 + 3, none⟩) hbl).trans c3
      have E0 := Lib.hid e0
      have E1 := Lib.hid e1
      have E2 := Lib.hid e2
      have E3 := Lib.hid e3
      clear htk hos hy e0 e1 e2 e3
      have hbs := HB.out.size
      by_cases hm : (z1, z2, z3, z4) ∈ once (xs.take j)
      · rw [decide_eq_true hm] at CH
        have HO2 : Hid (once (xs.take (j + 1)) = once (xs.take j)) := by unfold Hid; rw [HOS.out, if_pos hm]
        clear hm HOS
        go_wp2_with fail
        refine CH.out.mono ?_; rintro e w2 ⟨rfl, hb2⟩
        have HBB := Lib.hid (chain HB.out hb2)
        have HO1 := Lib.hid (own_later3 HO.out hb2)
        clear hb2 c0 c1 c2 c3
        go_wp2_with fail
        go_roundw
        case rel => exact ⟨j + 1, L, A, c, by omega, by go_num, rfl, by omega, by unfold Hid; rw [HO2.out]; exact HL.out, by unfold Hid; rw [HO2.out]; exact HO1.out, HBB.out⟩
        case measure => simp [intOf]; omega
      · rw [decide_eq_false hm] at CH
        have HO2 : Hid (once (xs.take (j + 1)) = once (xs.take j) ++ [(z1, z2, z3, z4)]) := by unfold Hid; rw [HOS.out, if_neg hm]
        clear hm HOS
        go_wp2_with fail
        refine CH.out.mono ?_; rintro e w2 ⟨rfl, hb2⟩
        have HBB := Lib.hid (chain HB.out hb2)
        have HO1 := Lib.hid (own_later3 HO.out hb2)
        have c0 := E0.out w2 hb2
        have c1 := E1.out w2 hb2
        have c2 := E2.out w2 hb2
        have c3 := E3.out w2 hb2
        have hs2 := HBB.out.size
        clear hb2
        go_wp2_with (at_builtin; refine wpList_append_own _ rfl _ _ 52 rfl w.heap.size 57 i0 (.agg #[.int .i64 0, .int .i64 0, .int .i64 0, .int .i64 0]) 4 32 Try.underlying52 hi hz0 hz1 hz2 rfl (by decide) _ L _ rfl (HO1.out.alloc _) ⟨w2.heap.size, 0, none⟩ 1 1 [.int .i64 z1, .int .i64 z2, .int .i64 z3, .int .i64 z4] rfl rfl (cell_four_new _ _ _ _ _ _) (one_four _ _ _ _) (by unfold maxLen; omega) (by omega) (by simp; omega) ?_)
        intro v' w3 ho3 hg3 _
        obtain ⟨a3, c3', rfl, _, _⟩ := own_slice2 ho3
        have HO3 : Hid (w3.ownsRow w.heap.size 57 4 (.slice a3 (L + 1) c3') (L + 1) (cellsN (once (xs.take (j + 1))))) := by unfold Hid; rw [HO2.out, cellsN_append]; exact ho3
        have HL3 : Hid (L + 1 = (once (xs.take (j + 1))).length) := by unfold Hid; rw [HO2.out, List.length_append, ← HL.out]; rfl
        have HB3 := Lib.hid (HBB.out.grown ((World.grownBy_alloc w2 _ _).trans hg3) (by omega) (own_lt3 HO1.out))
        clear ho3 hg3 c0 c1 c2 c3
        go_wp2_with fail
        go_roundw
        case rel => exact ⟨j + 1, L + 1, a3, c3', by omega, by go_num, rfl, by omega, HL3.out, HO3.out, HB3.out⟩
        case measure => simp [intOf]; omega
    · have hE : once (xs.take j) = once xs := by rw [List.take_of_length_le (by rw [HN.out]; omega)]
      have HE := Lib.hid hE
      clear hE
      go_wp2_with fail
      go_ret
      refine ⟨A, c, ?_, ?_, HB.out⟩
      · rw [← HE.out, ← HL.out]; rfl
      · rw [← HE.out, ← HL.out]; exact HO.out
end Go.Proofs.Ytncikklhchimdaa
