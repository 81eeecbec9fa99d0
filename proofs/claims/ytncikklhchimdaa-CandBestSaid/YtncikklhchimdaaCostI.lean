/- Contracts: which tree of some is the least work. The program and the reference. -/
import Derived.Test.YtncikklhchimdaaCostG
import Derived.Laws.EntriesVeiled
import Derived.Deep.RegionWith
namespace Go.Proofs.Ytncikklhchimdaa
open Go.RowKit
set_option linter.unusedVariables false
set_option linter.unusedSimpArgs false
set_option maxRecDepth 100000
set_option maxRecDepth 20000

/-- A slice reads as some trees. -/
def IsL (w : World) (F : Nat → Prop) (a : Option Addr) (m cap : Nat) (ts : List Tr) : Prop := IsT w F 0 0 a m cap (.node 0 0 ts)
theorem IsL.below {w w' : World} {F : Nat → Prop} {a : Option Addr} {m cap : Nat} {ts : List Tr} (h : IsL w F a m cap ts) (hb : Below w.heap.size w w') : IsL w' F a m cap ts := IsT.below h hb
theorem IsL.len {w : World} {F : Nat → Prop} {a : Option Addr} {m cap : Nat} {ts : List Tr} (h : IsL w F a m cap ts) : m = ts.length := IsT.em h
theorem IsL.kid {w : World} {F : Nat → Prop} {a : Option Addr} {m cap : Nat} {ts : List Tr} (h : IsL w F a m cap ts) (i : Nat) (hi : i < m) :
    ∃ b off k' n' a' m' c', a = some ⟨b, off, none⟩ ∧ F b ∧ b < w.heap.size ∧ w.cell? ⟨b, off + i * 3, none⟩ = some (.int .i64 k') ∧ w.cell? ⟨b, off + i * 3 + 1, none⟩ = some (.int .i64 n') ∧ w.cell? ⟨b, off + i * 3 + 2, none⟩ = some (.slice a' m' c') ∧
      IsT w F k' n' a' m' c' (Tr.kid ts i) := IsT.kid h i hi

/-- The place of the first of j trees that nothing is ahead of. -/
def leastAt (ts : List Tr) : Nat → Nat
  | 0 => 0
  | j + 1 => if wcmp (Tr.kid ts j) (Tr.kid ts (leastAt ts j)) < 0 then j else leastAt ts j
theorem leastAt_lt (ts : List Tr) : ∀ j, 0 < j → leastAt ts j < j
  | 0, h => by omega
  | j + 1, _ => by
    unfold leastAt
    split
    · omega
    · rcases Nat.eq_zero_or_pos j with rfl | h
      · simp [leastAt]
      · have := leastAt_lt ts j h; omega
theorem leastAt_le (ts : List Tr) (j : Nat) : leastAt ts j ≤ j := by
  rcases Nat.eq_zero_or_pos j with rfl | h
  · simp [leastAt]
  · exact Nat.le_of_lt (leastAt_lt ts j h)
/-- The same, of plans alone; below 0: there is none. -/
def leastR (ts : List Tr) : Nat → Int
  | 0 => -1
  | j + 1 => if chk (Tr.kid ts j) = 0 ∧ (leastR ts j < 0 ∨ wcmp (Tr.kid ts j) (Tr.kid ts (leastR ts j).toNat) < 0) then j else leastR ts j
theorem wcmp_plan {t u : Tr} (ht : chk t = 0) (hu : chk u ≠ 0) : wcmp t u = -1 := by
  have h1 : wt t ≤ 1152921504606846976 := by unfold wt; rw [if_pos ht]; exact (est_bd (chk_zero.1 ht).2).2
  have h2 : wt u = 1152921504606846977 := if_neg hu
  unfold wcmp cmpI
  rw [if_pos (by omega)]; rfl
theorem least_same (ts : List Tr) : ∀ j, leastR ts j = if 0 < j ∧ chk (Tr.kid ts (leastAt ts j)) = 0 then (leastAt ts j : Int) else -1
  | 0 => by simp [leastR]
  | j + 1 => by
    have ih := least_same ts j
    have hneg := leastAt_le ts j
    have e1 : leastAt ts (j + 1) = if wcmp (Tr.kid ts j) (Tr.kid ts (leastAt ts j)) < 0 then j else leastAt ts j := rfl
    have e2 : leastR ts (j + 1) = if chk (Tr.kid ts j) = 0 ∧ (leastR ts j < 0 ∨ wcmp (Tr.kid ts j) (Tr.kid ts (leastR ts j).toNat) < 0) then (j : Int) else leastR ts j := rfl
    by_cases hp : 0 < j ∧ chk (Tr.kid ts (leastAt ts j)) = 0
    · rw [if_pos hp] at ih
      rw [ih, Int.toNat_natCast] at e2
      by_cases hk : chk (Tr.kid ts j) = 0
      · by_cases hw : wcmp (Tr.kid ts j) (Tr.kid ts (leastAt ts j)) < 0
        · rw [if_pos hw] at e1
          rw [if_pos ⟨hk, .inr hw⟩] at e2
          rw [e1, e2, if_pos ⟨by omega, hk⟩]
        · rw [if_neg hw] at e1
          rw [if_neg (by rintro ⟨_, h | h⟩ <;> omega)] at e2
          rw [e1, e2, if_pos ⟨by omega, hp.2⟩]
      · have hw : ¬ wcmp (Tr.kid ts j) (Tr.kid ts (leastAt ts j)) < 0 := by
          have := wcmp_neg (Tr.kid ts (leastAt ts j)) (Tr.kid ts j)
          have h2 := wcmp_plan hp.2 hk
          omega
        rw [if_neg hw] at e1
        rw [if_neg (fun h => hk h.1)] at e2
        rw [e1, e2, if_pos ⟨by omega, hp.2⟩]
    · rw [if_neg hp] at ih
      rw [ih] at e2
      by_cases hk : chk (Tr.kid ts j) = 0
      · rw [if_pos ⟨hk, .inl (by omega)⟩] at e2
        have h3 : leastAt ts (j + 1) = j := by
          rw [e1]
          rcases Nat.eq_zero_or_pos j with rfl | hj
          · split <;> rfl
          · rw [if_pos (by rw [wcmp_plan hk (fun h => hp ⟨hj, h⟩)]; omega)]
        rw [h3, e2, if_pos ⟨by omega, hk⟩]
      · rw [if_neg (fun h => hk h.1)] at e2
        have h3 : chk (Tr.kid ts (leastAt ts (j + 1))) ≠ 0 := by
          rw [e1]
          rcases Nat.eq_zero_or_pos j with rfl | hj
          · rw [show leastAt ts 0 = 0 from rfl]; simpa using hk
          · split
            · exact hk
            · exact fun h => hp ⟨hj, h⟩
        rw [e2, if_neg (fun h => h3 h.2)]
theorem leastR_bd (ts : List Tr) (j : Nat) : -1 ≤ leastR ts j ∧ (leastR ts j < j ∨ j = 0) := by
  rw [least_same]
  split
  · rename_i h; have := leastAt_lt ts j h.1; omega
  · omega

theorem cost_LeastF (t u : Tr) (k n : Int) (a : Option Addr) (m c : Nat) (k' n' : Int) (a' : Option Addr) (m' c' : Nat) (w : World) (F G : Nat → Prop) (hs : t.size ≤ 4194304) (hu : u.size ≤ 4194304) (hT : IsT w F k n a m c t) (hU : IsT w G k' n' a' m' c' u) :
    Calls Try.prog 96 #[.agg #[.int .i64 k, .int .i64 n, .slice a m c], .agg #[.int .i64 k', .int .i64 n', .slice a' m' c']] w fun e w' => e = .returned (.bool (decide (wcmp t u < 0))) ∧ Below w.heap.size w w' := by
  have C : Hid (∀ W, Below w.heap.size w W → Calls Try.prog 51 #[.agg #[.int .i64 k, .int .i64 n, .slice a m c], .agg #[.int .i64 k', .int .i64 n', .slice a' m' c']] W fun e w' => e = .returned (.int .i64 (wcmp t u)) ∧ Below W.heap.size W w') := fun W hb => cost_Cmp t u _ _ _ _ _ _ _ _ _ _ W _ _ hs hu (hT.below hb) (hU.below hb)
  obtain ⟨X, hX⟩ : ∃ X, wcmp t u = X := ⟨_, rfl⟩
  rw [hX] at C ⊢
  clear hX hT hU
  go_enter Try.func96, Try.ntmps96
  go_wp2_with fail
  refine (C.out _ (((Below.refl _ _).alloc (Nat.le_refl _) _).alloc (by simp) _)).mono ?_; rintro e w1 ⟨rfl, hb1⟩
  have hb := chain (((Below.refl w.heap.size w).alloc (Nat.le_refl _) _).alloc (by simp) _) hb1
  clear hb1
  go_wp2_with fail
  go_ret
  exact ⟨rfl, hb⟩

set_option maxHeartbeats 2000000 in
theorem row_least (ts : List Tr) (a : Option Addr) (m cap : Nat) (w : World) (F : Nat → Prop) (hm : m ≤ 4194304) (hs : ∀ i, i < m → (Tr.kid ts i).size ≤ 4194304) (hL : IsL w F a m cap ts) :
    Calls Try.prog 97 #[.agg #[.slice a m cap, .func (.func 96) #[] #[]]] w fun e w' => e = .returned (.int .i64 (leastAt ts m : Nat)) ∧ Below w.heap.size w w' := by
  have HL := Lib.hid hL
  have HS := Lib.hid hs
  obtain ⟨V, hV⟩ : ∃ V, leastAt ts m = V := ⟨_, rfl⟩
  rw [hV]
  have HV := Lib.hid hV
  have hbx : (w.alloc (.cells #[.slice a m cap, .func (.func 96) #[] #[]] 94)).heap[w.heap.size]? = some (.cells #[.slice a m cap, .func (.func 96) #[] #[]] 94 (0, 0)) := block_new rfl
  have HBX := Lib.hid hbx
  clear hL hs hV hbx
  go_enter Try.func97, Try.ntmps97
  go_wp2_with fail
  go_loopw [3, 8] (fun v i wr => ∃ j q : Nat, j ≤ m ∧ i = .int .i64 j ∧ v = .int .i64 q ∧ Hid (q = leastAt ts j) ∧ (q < j ∨ j = 0 ∧ q = 0) ∧ Below w.heap.size w wr ∧ Hid (wr.heap[w.heap.size]? = some (.cells #[.slice a m cap, .func (.func 96) #[] #[]] 94 (0, 0)))) (fun _ i _ => m - (intOf i).toNat)
  case atStart => exact ⟨0, 0, Nat.zero_le _, rfl, rfl, rfl, .inr ⟨rfl, rfl⟩, (Below.refl _ _).alloc (Nat.le_refl _) _, HBX.out⟩
  case round =>
    obtain ⟨j, q, hj, rfl, rfl, HQ, hq, hbel, HX⟩ := hrel
    by_cases hlt : j < m
    · have hqm : q < m := by omega
      obtain ⟨b, off, k1, n1, a1, m1, c1, rfl, hF, hbl, h0, h1, h2, hT⟩ := (HL.out.below hbel).kid j hlt
      obtain ⟨b', off', k2, n2, a2, m2, c2, hab, hF', hbl', g0, g1, g2, hU⟩ := (HL.out.below hbel).kid q hqm
      simp only [Option.some.injEq, Addr.mk.injEq, and_true] at hab
      obtain ⟨rfl, rfl⟩ := hab
      have CK : Hid (∀ W, Below wr.heap.size wr W → Calls Try.prog 96 #[.agg #[.int .i64 k1, .int .i64 n1, .slice a1 m1 c1], .agg #[.int .i64 k2, .int .i64 n2, .slice a2 m2 c2]] W fun e w' => e = .returned (.bool (decide (wcmp (Tr.kid ts j) (Tr.kid ts q) < 0))) ∧ Below W.heap.size W w') :=
        fun W hb => cost_LeastF _ _ _ _ _ _ _ _ _ _ _ _ W _ _ (HS.out j hlt) (HS.out q hqm) (hT.below hb) (hU.below hb)
      have HN : Hid (leastAt ts (j + 1) = if wcmp (Tr.kid ts j) (Tr.kid ts q) < 0 then j else q) := by
        unfold Hid; rw [HQ.out]; rfl
      obtain ⟨X, hX⟩ : ∃ X, wcmp (Tr.kid ts j) (Tr.kid ts q) = X := ⟨_, rfl⟩
      rw [hX] at CK HN
      have b0 : wr.cell? ⟨w.heap.size, 0, none⟩ = some (.slice (some ⟨b, off, none⟩) m cap) := block_cell HX.out 0
      have b1 : wr.cell? ⟨w.heap.size, 1, none⟩ = some (.func (.func 96) #[] #[]) := block_cell HX.out 1
      have i0 : (0 : Int) ≤ (j : Int) := by omega
      have i1 : (j : Int) < (m : Int) := by omega
      have i2 : (0 : Int) ≤ (q : Int) := by omega
      have i3 : (q : Int) < (m : Int) := by omega
      have hlx := block_lt HX.out
      have HBE := Lib.hid hbel
      have HQL := Lib.hid hq
      have hb : Below wr.heap.size wr wr.drew := (Below.refl _ _).drew
      clear hT hU hF hF' hX HQ hbel hq
      by_cases hx : X < 0
      · have d1 : decide (X < 0) = true := by simp; omega
        rw [d1] at CK
        have HN2 : Hid (leastAt ts (j + 1) = j) := by unfold Hid; rw [HN.out, if_pos hx]
        clear HN
        go_wp2_with fail
        go_region_held3 (fun w' => (w'.cell? ⟨w.heap.size, 0, none⟩ = some (.slice (some ⟨b, off, none⟩) m cap) ∧ w'.cell? ⟨w.heap.size, 1, none⟩ = some (.func (.func 96) #[] #[])) ∧ (w'.cell? ⟨b, off + j * 3, none⟩ = some (.int .i64 k1) ∧ w'.cell? ⟨b, off + j * 3 + 1, none⟩ = some (.int .i64 n1) ∧ w'.cell? ⟨b, off + j * 3 + 2, none⟩ = some (.slice a1 m1 c1)) ∧ (w'.cell? ⟨b, off + q * 3, none⟩ = some (.int .i64 k2) ∧ w'.cell? ⟨b, off + q * 3 + 1, none⟩ = some (.int .i64 n2) ∧ w'.cell? ⟨b, off + q * 3 + 2, none⟩ = some (.slice a2 m2 c2))) (first | exact ⟨⟨b0, b1⟩, ⟨h0, h1, h2⟩, g0, g1, g2⟩ | exact ⟨⟨(hb.cell (p := ⟨w.heap.size, 0, none⟩) hlx).trans b0, (hb.cell (p := ⟨w.heap.size, 1, none⟩) hlx).trans b1⟩, ⟨(hb.cell (p := ⟨b, off + j * 3, none⟩) hbl).trans h0, (hb.cell (p := ⟨b, off + j * 3 + 1, none⟩) hbl).trans h1, (hb.cell (p := ⟨b, off + j * 3 + 2, none⟩) hbl).trans h2⟩, (hb.cell (p := ⟨b, off + q * 3, none⟩) hbl).trans g0, (hb.cell (p := ⟨b, off + q * 3 + 1, none⟩) hbl).trans g1, (hb.cell (p := ⟨b, off + q * 3 + 2, none⟩) hbl).trans g2⟩) ((first | (go_at_call 96; ((with_reducible refine (CK.out _ hb).mono ?_); rintro e z ⟨rfl, hc⟩; have hb := chain hb hc))))
        have HXZ := Lib.hid ((hb.block _ hlx).trans HX.out)
        have HBZ := Lib.hid (chain HBE.out hb)
        clear hb b0 b1 h0 h1 h2 g0 g1 g2
        go_wp2_with fail
        go_roundw
        case rel => exact ⟨j + 1, j, by omega, by go_num, rfl, HN2.out.symm, by have := HQL.out; omega, HBZ.out, HXZ.out⟩
        case measure => simp [intOf]; omega
      · have d1 : decide (X < 0) = false := by simp; omega
        rw [d1] at CK
        have HN2 : Hid (leastAt ts (j + 1) = q) := by unfold Hid; rw [HN.out, if_neg hx]
        clear HN
        go_wp2_with fail
        go_region_held3 (fun w' => (w'.cell? ⟨w.heap.size, 0, none⟩ = some (.slice (some ⟨b, off, none⟩) m cap) ∧ w'.cell? ⟨w.heap.size, 1, none⟩ = some (.func (.func 96) #[] #[])) ∧ (w'.cell? ⟨b, off + j * 3, none⟩ = some (.int .i64 k1) ∧ w'.cell? ⟨b, off + j * 3 + 1, none⟩ = some (.int .i64 n1) ∧ w'.cell? ⟨b, off + j * 3 + 2, none⟩ = some (.slice a1 m1 c1)) ∧ (w'.cell? ⟨b, off + q * 3, none⟩ = some (.int .i64 k2) ∧ w'.cell? ⟨b, off + q * 3 + 1, none⟩ = some (.int .i64 n2) ∧ w'.cell? ⟨b, off + q * 3 + 2, none⟩ = some (.slice a2 m2 c2))) (first | exact ⟨⟨b0, b1⟩, ⟨h0, h1, h2⟩, g0, g1, g2⟩ | exact ⟨⟨(hb.cell (p := ⟨w.heap.size, 0, none⟩) hlx).trans b0, (hb.cell (p := ⟨w.heap.size, 1, none⟩) hlx).trans b1⟩, ⟨(hb.cell (p := ⟨b, off + j * 3, none⟩) hbl).trans h0, (hb.cell (p := ⟨b, off + j * 3 + 1, none⟩) hbl).trans h1, (hb.cell (p := ⟨b, off + j * 3 + 2, none⟩) hbl).trans h2⟩, (hb.cell (p := ⟨b, off + q * 3, none⟩) hbl).trans g0, (hb.cell (p := ⟨b, off + q * 3 + 1, none⟩) hbl).trans g1, (hb.cell (p := ⟨b, off + q * 3 + 2, none⟩) hbl).trans g2⟩) ((first | (go_at_call 96; ((with_reducible refine (CK.out _ hb).mono ?_); rintro e z ⟨rfl, hc⟩; have hb := chain hb hc))))
        have HXZ := Lib.hid ((hb.block _ hlx).trans HX.out)
        have HBZ := Lib.hid (chain HBE.out hb)
        clear hb b0 b1 h0 h1 h2 g0 g1 g2
        go_wp2_with fail
        go_roundw
        case rel => exact ⟨j + 1, q, by omega, by go_num, rfl, HN2.out.symm, by have := HQL.out; omega, HBZ.out, HXZ.out⟩
        case measure => simp [intOf]; omega
    · obtain rfl : j = m := by omega
      have HZ : Hid (q = V) := by rw [← HV.out]; exact HQ.out
      clear HQ
      go_wp2_with fail
      go_ret
      exact ⟨by simp [HZ.out], hbel⟩


/-- What the program says of the least. -/
def leastV (r : Int) : Value := .tuple #[.int .i64 (if r < 0 then 0 else r), .bool (decide (0 ≤ r))]
theorem leastV_no {r : Int} (h : r = -1) : leastV r = .tuple #[.int .i64 0, .bool false] := by subst h; rfl
theorem leastV_yes {r : Int} (h : 0 ≤ r) : leastV r = .tuple #[.int .i64 r, .bool true] := by unfold leastV; rw [if_neg (by omega), decide_eq_true h]
set_option maxHeartbeats 2000000 in
theorem cost_Least (ts : List Tr) (a : Option Addr) (m cap : Nat) (w : World) (F : Nat → Prop) (hm : m ≤ 4194304) (hs : ∀ i, i < m → (Tr.kid ts i).size ≤ 4194304) (hL : IsL w F a m cap ts) :
    Calls Try.prog 53 #[.slice a m cap] w fun e w' => e = .returned (leastV (leastR ts m)) ∧ Below w.heap.size w w' := by
  have CL : Hid (∀ W, Below w.heap.size w W → Calls Try.prog 97 #[.agg #[.slice a m cap, .func (.func 96) #[] #[]]] W fun e w' => e = .returned (.int .i64 (leastAt ts m : Nat)) ∧ Below W.heap.size W w') := fun W hb => row_least ts a m cap W F hm hs (hL.below hb)
  have HE := Lib.hid (least_same ts m)
  have HL := Lib.hid hL
  have HS := Lib.hid hs
  have hql : 0 < m → leastAt ts m < m := fun h => leastAt_lt ts m h
  obtain ⟨q, hq⟩ : ∃ q, leastAt ts m = q := ⟨_, rfl⟩
  rw [hq] at CL HE hql
  clear hq hL hs
  by_cases h0 : m = 0
  · have HR : Hid (leastR ts m = -1) := by unfold Hid; rw [HE.out, if_neg (by omega)]
    rw [leastV_no HR.out]
    subst h0
    clear HE HR hql
    go_enter Try.func53, Try.ntmps53
    go_wp2_with fail
    refine (CL.out _ ((Below.refl _ _).alloc (Nat.le_refl _) _)).mono ?_; rintro e w1 ⟨rfl, hb1⟩
    have hb := chainA (Below.refl w.heap.size w) hb1
    clear hb1
    go_wp2_with fail
    go_ret2
    exact ⟨rfl, hb⟩
  · have hqm := hql (by omega)
    obtain ⟨b, off, k1, n1, a1, m1, c1, rfl, hF, hbl, h0', h1, h2, hT⟩ := HL.out.kid q hqm
    have CC : Hid (∀ W, Below w.heap.size w W → Calls Try.prog 17 #[.agg #[.int .i64 k1, .int .i64 n1, .slice a1 m1 c1]] W fun e w' => e = .returned (.int .i64 (chk (Tr.kid ts q))) ∧ Below W.heap.size W w') := fun W hb => valid_Check _ _ _ _ _ _ W F (HS.out q hqm) (hT.below hb)
    have t0 : ((m : Int) == 0) = false := bno (by omega)
    have i2 : (0 : Int) ≤ (q : Int) := by omega
    have i3 : (q : Int) < (m : Int) := by omega
    have H0 := Lib.hid h0'
    have H1 := Lib.hid h1
    have H2 := Lib.hid h2
    by_cases hc : chk (Tr.kid ts q) = 0
    · have HR : Hid (leastR ts m = q) := by unfold Hid; rw [HE.out, if_pos ⟨by omega, hc⟩]
      rw [leastV_yes (by rw [HR.out]; omega), HR.out]
      rw [hc] at CC
      clear HE HR hql hT hF hc h0' h1 h2 h0
      go_enter Try.func53, Try.ntmps53
      go_wp2_with fail
      refine (CL.out _ ((Below.refl _ _).alloc (Nat.le_refl _) _)).mono ?_; rintro e w1 ⟨rfl, hb1⟩
      have hb := chainA (Below.refl w.heap.size w) hb1
      have g0 := (hb.cell (p := ⟨b, off + q * 3, none⟩) hbl).trans H0.out
      have g1 := (hb.cell (p := ⟨b, off + q * 3 + 1, none⟩) hbl).trans H1.out
      have g2 := (hb.cell (p := ⟨b, off + q * 3 + 2, none⟩) hbl).trans H2.out
      have HB := Lib.hid hb
      clear hb1 hb
      go_wp2_with fail
      refine (CC.out _ HB.out).mono ?_; rintro e w2 ⟨rfl, hb2⟩
      have hbe := chain HB.out hb2
      clear hb2
      go_wp2_with fail
      go_ret2
      exact ⟨rfl, hbe⟩
    · have HR : Hid (leastR ts m = -1) := by unfold Hid; rw [HE.out, if_neg (fun h => hc h.2)]
      rw [leastV_no HR.out]
      have t1 : (chk (Tr.kid ts q) != 0) = true := bdiff hc
      obtain ⟨C, hC⟩ : ∃ C, chk (Tr.kid ts q) = C := ⟨_, rfl⟩
      rw [hC] at CC t1
      clear HE HR hql hT hF hc h0' h1 h2 h0 hC
      go_enter Try.func53, Try.ntmps53
      go_wp2_with fail
      refine (CL.out _ ((Below.refl _ _).alloc (Nat.le_refl _) _)).mono ?_; rintro e w1 ⟨rfl, hb1⟩
      have hb := chainA (Below.refl w.heap.size w) hb1
      have g0 := (hb.cell (p := ⟨b, off + q * 3, none⟩) hbl).trans H0.out
      have g1 := (hb.cell (p := ⟨b, off + q * 3 + 1, none⟩) hbl).trans H1.out
      have g2 := (hb.cell (p := ⟨b, off + q * 3 + 2, none⟩) hbl).trans H2.out
      have HB := Lib.hid hb
      clear hb1 hb
      go_wp2_with fail
      refine (CC.out _ HB.out).mono ?_; rintro e w2 ⟨rfl, hb2⟩
      have hbe := chain HB.out hb2
      clear hb2
      go_wp2_with fail
      go_ret2
      exact ⟨rfl, hbe⟩


set_option maxHeartbeats 4000000 in
theorem ref18_Least (ts : List Tr) (a : Option Addr) (m cap : Nat) (w : World) (B : Nat) (hB : B ≤ w.heap.size) (hm : m ≤ 4194304) (hs : ∀ i, i < m → (Tr.kid ts i).size ≤ 4194304) (hL : IsL w (Lt B) a m cap ts) :
    Calls Try.prog 54 #[.slice a m cap] w fun e w' => e = .returned (.int .i64 (leastR ts m)) ∧ Below w.heap.size w w' := by
  have HL := Lib.hid hL
  have HS := Lib.hid hs
  obtain ⟨V, hV⟩ : ∃ V, leastR ts m = V := ⟨_, rfl⟩
  rw [hV]
  have HV := Lib.hid hV
  clear hL hs hV
  go_enter Try.func54, Try.ntmps54
  go_wp2_with fail
  go_loopw [3, 4] (fun v i wr => ∃ (j : Nat) (r : Int), j ≤ m ∧ i = .int .i64 j ∧ v = .int .i64 r ∧ Hid (r = leastR ts j) ∧ -1 ≤ r ∧ (r < j ∨ j = 0 ∧ r = -1) ∧ Below w.heap.size w wr) (fun _ i _ => m - (intOf i).toNat)
  case atStart => exact ⟨0, -1, Nat.zero_le _, rfl, rfl, rfl, by omega, .inr ⟨rfl, rfl⟩, Below.refl _ _⟩
  case round =>
    obtain ⟨j, r, hj, rfl, rfl, HQ, hr1, hr, hbel⟩ := hrel
    by_cases hlt : j < m
    · obtain ⟨b, off, k1, n1, a1, m1, c1, rfl, hF, hbl, h0, h1, h2, hT⟩ := (HL.out.below hbel).kid j hlt
      have CC : Hid (∀ W, Below wr.heap.size wr W → Calls Try.prog 23 #[.agg #[.int .i64 k1, .int .i64 n1, .slice a1 m1 c1]] W fun e w' => e = .returned (.int .i64 (chk (Tr.kid ts j))) ∧ Below W.heap.size W w') :=
        fun W hb => ref14_Check _ _ _ _ _ _ W B (Nat.le_trans (Nat.le_trans hB hbel.size) hb.size) (HS.out j hlt) (hT.below hb)
      have HN : Hid (leastR ts (j + 1) = if chk (Tr.kid ts j) = 0 ∧ (r < 0 ∨ wcmp (Tr.kid ts j) (Tr.kid ts r.toNat) < 0) then (j : Int) else r) := by
        unfold Hid; rw [HQ.out]; rfl
      have i0 : (0 : Int) ≤ (j : Int) := by omega
      have i1 : (j : Int) < (m : Int) := by omega
      have HBE := Lib.hid hbel
      have HT := Lib.hid hT
      have hb : Below wr.heap.size wr wr.drew := (Below.refl _ _).drew
      obtain ⟨C, hC⟩ : ∃ C, chk (Tr.kid ts j) = C := ⟨_, rfl⟩
      rw [hC] at CC HN
      have HR1 := Lib.hid hr1
      have HR := Lib.hid hr
      clear hT hF hC HQ hbel hr
      by_cases hc : C = 0
      · subst hc
        by_cases hr0 : r < 0
        · have d1 : decide (r < 0) = true := by simp; omega
          have HN2 : Hid (leastR ts (j + 1) = j) := by unfold Hid; rw [HN.out, if_pos ⟨rfl, .inl hr0⟩]
          clear HN
          go_wp2_with fail
          refine wp_region_held_drew (S := fun w' => w'.cell? ⟨b, off + j * 3, none⟩ = some (.int .i64 k1) ∧ w'.cell? ⟨b, off + j * 3 + 1, none⟩ = some (.int .i64 n1) ∧ w'.cell? ⟨b, off + j * 3 + 2, none⟩ = some (.slice a1 m1 c1)) (by kernel_rfl) ?_ (fun hHeld => ?_)
          · (try dsimp only); (first | exact ⟨h0, h1, h2⟩ | exact ⟨(hb.cell (p := ⟨b, off + j * 3, none⟩) hbl).trans h0, (hb.cell (p := ⟨b, off + j * 3 + 1, none⟩) hbl).trans h1, (hb.cell (p := ⟨b, off + j * 3 + 2, none⟩) hbl).trans h2⟩)
          refine wpAnyH_take (i := 0) (v := ?_) (by (try simp only [List.getElem?_toArray, List.getElem?_cons_succ, List.getElem?_cons_zero]); exact rfl) (by kernel_rfl) (by kernel_rfl) (by kernel_rfl) (by exact fun _ _ _ h => h) (Or.inl ⟨by kernel_rfl, ?_⟩) (by assumption) ?_
          rotate_left
          · (intro w hSw; (try dsimp only at hSw); go_simp; try with_reducible rfl)
          try simp only [Act.put, List.setIfInBounds_toArray, List.set_cons_zero, List.set_cons_succ]
          refine wpAnyH_take (i := 1) (v := ?_) (by (try simp only [List.getElem?_toArray, List.getElem?_cons_succ, List.getElem?_cons_zero]); exact rfl) (by kernel_rfl) (by kernel_rfl) (by kernel_rfl) (by exact fun _ _ _ h => h) (Or.inl ⟨by kernel_rfl, ?_⟩) (by assumption) ?_
          rotate_left
          · (intro w hSw; (try dsimp only at hSw); go_simp; try with_reducible rfl)
          try simp only [Act.put, List.setIfInBounds_toArray, List.set_cons_zero, List.set_cons_succ]
          refine wpAnyH_take (i := 2) (v := ?_) (by (try simp only [List.getElem?_toArray, List.getElem?_cons_succ, List.getElem?_cons_zero]); exact rfl) (by kernel_rfl) (by kernel_rfl) (by kernel_rfl) (by exact fun _ _ _ h => h) (Or.inl ⟨by kernel_rfl, ?_⟩) (by assumption) ?_
          rotate_left
          · (intro w hSw; (try dsimp only at hSw); go_simp; try with_reducible rfl)
          try simp only [Act.put, List.setIfInBounds_toArray, List.set_cons_zero, List.set_cons_succ]
          refine wpAnyH_take (i := 3) (v := ?_) (by (try simp only [List.getElem?_toArray, List.getElem?_cons_succ, List.getElem?_cons_zero]); exact rfl) (by kernel_rfl) (by kernel_rfl) (by kernel_rfl) (by exact fun _ _ _ h => h) (Or.inl ⟨by kernel_rfl, ?_⟩) (by assumption) ?_
          rotate_left
          · (intro w hSw; (try dsimp only at hSw); go_simp; try with_reducible rfl)
          try simp only [Act.put, List.setIfInBounds_toArray, List.set_cons_zero, List.set_cons_succ]
          refine wpAnyH_ready (rs := [4]) (by kernel_rfl) (by simp) ?_
          refine AllReadyH.cons (by (try simp only [List.getElem?_toArray, List.getElem?_cons_succ, List.getElem?_cons_zero]); exact rfl) (fun K hK => ?_) AllReadyH.nil
          first | (go_at_call 23; ((with_reducible refine (CC.out _ hb).mono ?_); rintro e z ⟨rfl, hc⟩; have hb := chain hb hc)) | (go_simp; (go_at_call 23; ((with_reducible refine (CC.out _ hb).mono ?_); rintro e z ⟨rfl, hc⟩; have hb := chain hb hc)))
          try go_simp
          refine hK.out _ _ ?_ (fun hHeld => ?_)
          · (try dsimp only); (first | exact ⟨h0, h1, h2⟩ | exact ⟨(hb.cell (p := ⟨b, off + j * 3, none⟩) hbl).trans h0, (hb.cell (p := ⟨b, off + j * 3 + 1, none⟩) hbl).trans h1, (hb.cell (p := ⟨b, off + j * 3 + 2, none⟩) hbl).trans h2⟩)
          clear hK K
          try simp only [Act.put, List.setIfInBounds_toArray, List.set_cons_zero, List.set_cons_succ]
          refine wpAnyH_take (i := 5) (v := ?_) (by (try simp only [List.getElem?_toArray, List.getElem?_cons_succ, List.getElem?_cons_zero]); exact rfl) (by kernel_rfl) (by kernel_rfl) (by kernel_rfl) (by exact fun _ _ _ h => h) (Or.inl ⟨by kernel_rfl, ?_⟩) (by assumption) ?_
          rotate_left
          · (intro w hSw; (try dsimp only at hSw); go_simp; try with_reducible rfl)
          try simp only [Act.put, List.setIfInBounds_toArray, List.set_cons_zero, List.set_cons_succ]
          refine wpAnyH_take (i := 6) (v := ?_) (by (try simp only [List.getElem?_toArray, List.getElem?_cons_succ, List.getElem?_cons_zero]); exact rfl) (by kernel_rfl) (by kernel_rfl) (by kernel_rfl) (by exact fun _ _ _ h => h) (Or.inl ⟨by kernel_rfl, ?_⟩) (by assumption) ?_
          rotate_left
          · (intro w hSw; (try dsimp only at hSw); go_simp; try with_reducible rfl)
          try simp only [Act.put, List.setIfInBounds_toArray, List.set_cons_zero, List.set_cons_succ]
          refine wpAnyH_take (i := 7) (v := ?_) (by (try simp only [List.getElem?_toArray, List.getElem?_cons_succ, List.getElem?_cons_zero]); exact rfl) (by kernel_rfl) (by kernel_rfl) (by kernel_rfl) (by exact fun _ _ _ h => h) (Or.inl ⟨by kernel_rfl, ?_⟩) (by assumption) ?_
          rotate_left
          · (intro w hSw; (try dsimp only at hSw); go_simp; try with_reducible rfl)
          try simp only [Act.put, List.setIfInBounds_toArray, List.set_cons_zero, List.set_cons_succ]
          refine wpAnyH_take (i := 8) (v := ?_) (by (try simp only [List.getElem?_toArray, List.getElem?_cons_succ, List.getElem?_cons_zero]); exact rfl) (by kernel_rfl) (by kernel_rfl) (by kernel_rfl) (by exact fun _ _ _ h => h) (Or.inl ⟨by kernel_rfl, ?_⟩) (by assumption) ?_
          rotate_left
          · (intro w hSw; (try dsimp only at hSw); go_simp; try with_reducible rfl)
          try simp only [Act.put, List.setIfInBounds_toArray, List.set_cons_zero, List.set_cons_succ]
          refine wpAnyH_take (i := 9) (v := ?_) (by (try simp only [List.getElem?_toArray, List.getElem?_cons_succ, List.getElem?_cons_zero]); exact rfl) (by kernel_rfl) (by kernel_rfl) (by kernel_rfl) (by exact fun _ _ _ h => h) (Or.inl ⟨by kernel_rfl, ?_⟩) (by assumption) ?_
          rotate_left
          · (intro w hSw; (try dsimp only at hSw); go_simp; try with_reducible rfl)
          try simp only [Act.put, List.setIfInBounds_toArray, List.set_cons_zero, List.set_cons_succ]
          refine wpAnyH_take (i := 10) (by (try simp only [List.getElem?_toArray, List.getElem?_cons_succ, List.getElem?_cons_zero]); exact rfl) (by kernel_rfl) (by kernel_rfl) (by kernel_rfl) (by exact fun _ _ _ h => h) (Or.inr ⟨by kernel_rfl, rfl⟩) (by assumption) ?_
          try simp only [Act.put, List.setIfInBounds_toArray, List.set_cons_zero, List.set_cons_succ]
          refine wpAnyH_take (i := 11) (by (try simp only [List.getElem?_toArray, List.getElem?_cons_succ, List.getElem?_cons_zero]); exact rfl) (by kernel_rfl) (by kernel_rfl) (by kernel_rfl) (by exact fun _ _ _ h => h) (Or.inr ⟨by kernel_rfl, rfl⟩) (by assumption) ?_
          try simp only [Act.put, List.setIfInBounds_toArray, List.set_cons_zero, List.set_cons_succ]
          refine wpAnyH_take (i := 12) (by (try simp only [List.getElem?_toArray, List.getElem?_cons_succ, List.getElem?_cons_zero]); exact rfl) (by kernel_rfl) (by kernel_rfl) (by kernel_rfl) (by exact fun _ _ _ h => h) (Or.inr ⟨by kernel_rfl, rfl⟩) (by assumption) ?_
          try simp only [Act.put, List.setIfInBounds_toArray, List.set_cons_zero, List.set_cons_succ]
          refine wpAnyH_take (i := 13) (by (try simp only [List.getElem?_toArray, List.getElem?_cons_succ, List.getElem?_cons_zero]); exact rfl) (by kernel_rfl) (by kernel_rfl) (by kernel_rfl) (by exact fun _ _ _ h => h) (Or.inr ⟨by kernel_rfl, rfl⟩) (by assumption) ?_
          try simp only [Act.put, List.setIfInBounds_toArray, List.set_cons_zero, List.set_cons_succ]
          refine wpAnyH_take (i := 14) (by (try simp only [List.getElem?_toArray, List.getElem?_cons_succ, List.getElem?_cons_zero]); exact rfl) (by kernel_rfl) (by kernel_rfl) (by kernel_rfl) (by exact fun _ _ _ h => h) (Or.inr ⟨by kernel_rfl, rfl⟩) (by assumption) ?_
          try simp only [Act.put, List.setIfInBounds_toArray, List.set_cons_zero, List.set_cons_succ]
          refine wpAnyH_take (i := 15) (by (try simp only [List.getElem?_toArray, List.getElem?_cons_succ, List.getElem?_cons_zero]); exact rfl) (by kernel_rfl) (by kernel_rfl) (by kernel_rfl) (by exact fun _ _ _ h => h) (Or.inr ⟨by kernel_rfl, rfl⟩) (by assumption) ?_
          try simp only [Act.put, List.setIfInBounds_toArray, List.set_cons_zero, List.set_cons_succ]
          refine wpAnyH_take (i := 16) (by (try simp only [List.getElem?_toArray, List.getElem?_cons_succ, List.getElem?_cons_zero]); exact rfl) (by kernel_rfl) (by kernel_rfl) (by kernel_rfl) (by exact fun _ _ _ h => h) (Or.inr ⟨by kernel_rfl, rfl⟩) (by assumption) ?_
          try simp only [Act.put, List.setIfInBounds_toArray, List.set_cons_zero, List.set_cons_succ]
          refine wpAnyH_take (i := 17) (by (try simp only [List.getElem?_toArray, List.getElem?_cons_succ, List.getElem?_cons_zero]); exact rfl) (by kernel_rfl) (by kernel_rfl) (by kernel_rfl) (by exact fun _ _ _ h => h) (Or.inr ⟨by kernel_rfl, rfl⟩) (by assumption) ?_
          try simp only [Act.put, List.setIfInBounds_toArray, List.set_cons_zero, List.set_cons_succ]
          refine wpAnyH_take (i := 18) (by (try simp only [List.getElem?_toArray, List.getElem?_cons_succ, List.getElem?_cons_zero]); exact rfl) (by kernel_rfl) (by kernel_rfl) (by kernel_rfl) (by exact fun _ _ _ h => h) (Or.inr ⟨by kernel_rfl, rfl⟩) (by assumption) ?_
          try simp only [Act.put, List.setIfInBounds_toArray, List.set_cons_zero, List.set_cons_succ]
          refine wpAnyH_take (i := 19) (by (try simp only [List.getElem?_toArray, List.getElem?_cons_succ, List.getElem?_cons_zero]); exact rfl) (by kernel_rfl) (by kernel_rfl) (by kernel_rfl) (by exact fun _ _ _ h => h) (Or.inr ⟨by kernel_rfl, rfl⟩) (by assumption) ?_
          try simp only [Act.put, List.setIfInBounds_toArray, List.set_cons_zero, List.set_cons_succ]
          refine wpAnyH_take (i := 20) (v := ?_) (by (try simp only [List.getElem?_toArray, List.getElem?_cons_succ, List.getElem?_cons_zero]); exact rfl) (by kernel_rfl) (by kernel_rfl) (by kernel_rfl) (by exact fun _ _ _ h => h) (Or.inl ⟨by kernel_rfl, ?_⟩) (by assumption) ?_
          rotate_left
          · (intro w hSw; (try dsimp only at hSw); go_simp; try with_reducible rfl)
          try simp only [Act.put, List.setIfInBounds_toArray, List.set_cons_zero, List.set_cons_succ]
          refine wpAnyH_take (i := 21) (v := ?_) (by (try simp only [List.getElem?_toArray, List.getElem?_cons_succ, List.getElem?_cons_zero]); exact rfl) (by kernel_rfl) (by kernel_rfl) (by kernel_rfl) (by exact fun _ _ _ h => h) (Or.inl ⟨by kernel_rfl, ?_⟩) (by assumption) ?_
          rotate_left
          · (intro w hSw; (try dsimp only at hSw); go_simp; try with_reducible rfl)
          try simp only [Act.put, List.setIfInBounds_toArray, List.set_cons_zero, List.set_cons_succ]
          refine wpAnyH_done (by kernel_rfl) ?_ _
          have HBZ := Lib.hid (chain HBE.out hb)
          clear hb h0 h1 h2
          go_wp2_with fail
          go_roundw
          case rel => exact ⟨j + 1, (j : Int), by omega, by go_num, rfl, HN2.out.symm, by have := HR1.out; omega, by have := HR.out; omega, HBZ.out⟩
          case measure => simp [intOf]; omega
        · obtain ⟨q, rfl⟩ := Int.eq_ofNat_of_zero_le (show 0 ≤ r by omega)
          have hqm : q < m := by have := HR.out; omega
          obtain ⟨b', off', k2, n2, a2, m2, c2, hab, hF', hbl', g0, g1, g2, hU⟩ := (HL.out.below HBE.out).kid q hqm
          simp only [Option.some.injEq, Addr.mk.injEq, and_true] at hab
          obtain ⟨rfl, rfl⟩ := hab
          have CK : Hid (∀ W, Below wr.heap.size wr W → Calls Try.prog 52 #[.agg #[.int .i64 k1, .int .i64 n1, .slice a1 m1 c1], .agg #[.int .i64 k2, .int .i64 n2, .slice a2 m2 c2]] W fun e w' => e = .returned (.int .i64 (wcmp (Tr.kid ts j) (Tr.kid ts q))) ∧ Below W.heap.size W w') :=
            fun W hb => ref18_Cmp _ _ _ _ _ _ _ _ _ _ _ _ W B (Nat.le_trans (Nat.le_trans hB HBE.out.size) hb.size) (HS.out j hlt) (HS.out q hqm) (HT.out.below hb) (hU.below hb)
          rw [Int.toNat_natCast] at HN
          obtain ⟨X, hX⟩ : ∃ X, wcmp (Tr.kid ts j) (Tr.kid ts q) = X := ⟨_, rfl⟩
          rw [hX] at CK HN
          have i2 : (0 : Int) ≤ (q : Int) := by omega
          have i3 : (q : Int) < (m : Int) := by omega
          have d1 : decide ((q : Int) < 0) = false := by simp
          clear hU hF' hX hr0
          by_cases hx : X < 0
          · have d2 : decide (X < 0) = true := by simp; omega
            have HN2 : Hid (leastR ts (j + 1) = j) := by unfold Hid; rw [HN.out, if_pos ⟨rfl, .inr hx⟩]
            clear HN
            go_wp2_with fail
            go_region_held3 (fun w' => (w'.cell? ⟨b, off + j * 3, none⟩ = some (.int .i64 k1) ∧ w'.cell? ⟨b, off + j * 3 + 1, none⟩ = some (.int .i64 n1) ∧ w'.cell? ⟨b, off + j * 3 + 2, none⟩ = some (.slice a1 m1 c1)) ∧ (w'.cell? ⟨b, off + q * 3, none⟩ = some (.int .i64 k2) ∧ w'.cell? ⟨b, off + q * 3 + 1, none⟩ = some (.int .i64 n2) ∧ w'.cell? ⟨b, off + q * 3 + 2, none⟩ = some (.slice a2 m2 c2))) (first | exact ⟨⟨h0, h1, h2⟩, g0, g1, g2⟩ | exact ⟨⟨(hb.cell (p := ⟨b, off + j * 3, none⟩) hbl).trans h0, (hb.cell (p := ⟨b, off + j * 3 + 1, none⟩) hbl).trans h1, (hb.cell (p := ⟨b, off + j * 3 + 2, none⟩) hbl).trans h2⟩, (hb.cell (p := ⟨b, off + q * 3, none⟩) hbl).trans g0, (hb.cell (p := ⟨b, off + q * 3 + 1, none⟩) hbl).trans g1, (hb.cell (p := ⟨b, off + q * 3 + 2, none⟩) hbl).trans g2⟩) ((first | (go_at_call 23; ((with_reducible refine (CC.out _ hb).mono ?_); rintro e z ⟨rfl, hc⟩; have hb := chain hb hc)) | (go_at_call 52; ((with_reducible refine (CK.out _ hb).mono ?_); rintro e z ⟨rfl, hc⟩; have hb := chain hb hc))))
            have HBZ := Lib.hid (chain HBE.out hb)
            clear hb h0 h1 h2 g0 g1 g2
            go_wp2_with fail
            go_roundw
            case rel => exact ⟨j + 1, (j : Int), by omega, by go_num, rfl, HN2.out.symm, by have := HR1.out; omega, by have := HR.out; omega, HBZ.out⟩
            case measure => simp [intOf]; omega
          · have d2 : decide (X < 0) = false := by simp; omega
            have HN2 : Hid (leastR ts (j + 1) = (q : Int)) := by unfold Hid; rw [HN.out, if_neg (by rintro ⟨_, h | h⟩ <;> omega)]
            clear HN
            go_wp2_with fail
            go_region_held3 (fun w' => (w'.cell? ⟨b, off + j * 3, none⟩ = some (.int .i64 k1) ∧ w'.cell? ⟨b, off + j * 3 + 1, none⟩ = some (.int .i64 n1) ∧ w'.cell? ⟨b, off + j * 3 + 2, none⟩ = some (.slice a1 m1 c1)) ∧ (w'.cell? ⟨b, off + q * 3, none⟩ = some (.int .i64 k2) ∧ w'.cell? ⟨b, off + q * 3 + 1, none⟩ = some (.int .i64 n2) ∧ w'.cell? ⟨b, off + q * 3 + 2, none⟩ = some (.slice a2 m2 c2))) (first | exact ⟨⟨h0, h1, h2⟩, g0, g1, g2⟩ | exact ⟨⟨(hb.cell (p := ⟨b, off + j * 3, none⟩) hbl).trans h0, (hb.cell (p := ⟨b, off + j * 3 + 1, none⟩) hbl).trans h1, (hb.cell (p := ⟨b, off + j * 3 + 2, none⟩) hbl).trans h2⟩, (hb.cell (p := ⟨b, off + q * 3, none⟩) hbl).trans g0, (hb.cell (p := ⟨b, off + q * 3 + 1, none⟩) hbl).trans g1, (hb.cell (p := ⟨b, off + q * 3 + 2, none⟩) hbl).trans g2⟩) ((first | (go_at_call 23; ((with_reducible refine (CC.out _ hb).mono ?_); rintro e z ⟨rfl, hc⟩; have hb := chain hb hc)) | (go_at_call 52; ((with_reducible refine (CK.out _ hb).mono ?_); rintro e z ⟨rfl, hc⟩; have hb := chain hb hc))))
            have HBZ := Lib.hid (chain HBE.out hb)
            clear hb h0 h1 h2 g0 g1 g2
            go_wp2_with fail
            go_roundw
            case rel => exact ⟨j + 1, (q : Int), by omega, by go_num, rfl, HN2.out.symm, by have := HR1.out; omega, by have := HR.out; omega, HBZ.out⟩
            case measure => simp [intOf]; omega
      · have t0 : (C == 0) = false := bno hc
        have HN2 : Hid (leastR ts (j + 1) = r) := by unfold Hid; rw [HN.out, if_neg (fun h => hc h.1)]
        clear HN hc
        go_wp2_with fail
        refine wp_region_held_drew (S := fun w' => w'.cell? ⟨b, off + j * 3, none⟩ = some (.int .i64 k1) ∧ w'.cell? ⟨b, off + j * 3 + 1, none⟩ = some (.int .i64 n1) ∧ w'.cell? ⟨b, off + j * 3 + 2, none⟩ = some (.slice a1 m1 c1)) (by kernel_rfl) ?_ (fun hHeld => ?_)
        · (try dsimp only); (first | exact ⟨h0, h1, h2⟩ | exact ⟨(hb.cell (p := ⟨b, off + j * 3, none⟩) hbl).trans h0, (hb.cell (p := ⟨b, off + j * 3 + 1, none⟩) hbl).trans h1, (hb.cell (p := ⟨b, off + j * 3 + 2, none⟩) hbl).trans h2⟩)
        refine wpAnyH_take (i := 0) (v := ?_) (by (try simp only [List.getElem?_toArray, List.getElem?_cons_succ, List.getElem?_cons_zero]); exact rfl) (by kernel_rfl) (by kernel_rfl) (by kernel_rfl) (by exact fun _ _ _ h => h) (Or.inl ⟨by kernel_rfl, ?_⟩) (by assumption) ?_
        rotate_left
        · (intro w hSw; (try dsimp only at hSw); go_simp; try with_reducible rfl)
        try simp only [Act.put, List.setIfInBounds_toArray, List.set_cons_zero, List.set_cons_succ]
        refine wpAnyH_take (i := 1) (v := ?_) (by (try simp only [List.getElem?_toArray, List.getElem?_cons_succ, List.getElem?_cons_zero]); exact rfl) (by kernel_rfl) (by kernel_rfl) (by kernel_rfl) (by exact fun _ _ _ h => h) (Or.inl ⟨by kernel_rfl, ?_⟩) (by assumption) ?_
        rotate_left
        · (intro w hSw; (try dsimp only at hSw); go_simp; try with_reducible rfl)
        try simp only [Act.put, List.setIfInBounds_toArray, List.set_cons_zero, List.set_cons_succ]
        refine wpAnyH_take (i := 2) (v := ?_) (by (try simp only [List.getElem?_toArray, List.getElem?_cons_succ, List.getElem?_cons_zero]); exact rfl) (by kernel_rfl) (by kernel_rfl) (by kernel_rfl) (by exact fun _ _ _ h => h) (Or.inl ⟨by kernel_rfl, ?_⟩) (by assumption) ?_
        rotate_left
        · (intro w hSw; (try dsimp only at hSw); go_simp; try with_reducible rfl)
        try simp only [Act.put, List.setIfInBounds_toArray, List.set_cons_zero, List.set_cons_succ]
        refine wpAnyH_take (i := 3) (v := ?_) (by (try simp only [List.getElem?_toArray, List.getElem?_cons_succ, List.getElem?_cons_zero]); exact rfl) (by kernel_rfl) (by kernel_rfl) (by kernel_rfl) (by exact fun _ _ _ h => h) (Or.inl ⟨by kernel_rfl, ?_⟩) (by assumption) ?_
        rotate_left
        · (intro w hSw; (try dsimp only at hSw); go_simp; try with_reducible rfl)
        try simp only [Act.put, List.setIfInBounds_toArray, List.set_cons_zero, List.set_cons_succ]
        refine wpAnyH_ready (rs := [4]) (by kernel_rfl) (by simp) ?_
        refine AllReadyH.cons (by (try simp only [List.getElem?_toArray, List.getElem?_cons_succ, List.getElem?_cons_zero]); exact rfl) (fun K hK => ?_) AllReadyH.nil
        first | (go_at_call 23; ((with_reducible refine (CC.out _ hb).mono ?_); rintro e z ⟨rfl, hc⟩; have hb := chain hb hc)) | (go_simp; (go_at_call 23; ((with_reducible refine (CC.out _ hb).mono ?_); rintro e z ⟨rfl, hc⟩; have hb := chain hb hc)))
        try go_simp
        refine hK.out _ _ ?_ (fun hHeld => ?_)
        · (try dsimp only); (first | exact ⟨h0, h1, h2⟩ | exact ⟨(hb.cell (p := ⟨b, off + j * 3, none⟩) hbl).trans h0, (hb.cell (p := ⟨b, off + j * 3 + 1, none⟩) hbl).trans h1, (hb.cell (p := ⟨b, off + j * 3 + 2, none⟩) hbl).trans h2⟩)
        clear hK K
        try simp only [Act.put, List.setIfInBounds_toArray, List.set_cons_zero, List.set_cons_succ]
        refine wpAnyH_take (i := 5) (v := ?_) (by (try simp only [List.getElem?_toArray, List.getElem?_cons_succ, List.getElem?_cons_zero]); exact rfl) (by kernel_rfl) (by kernel_rfl) (by kernel_rfl) (by exact fun _ _ _ h => h) (Or.inl ⟨by kernel_rfl, ?_⟩) (by assumption) ?_
        rotate_left
        · (intro w hSw; (try dsimp only at hSw); go_simp; try with_reducible rfl)
        try simp only [Act.put, List.setIfInBounds_toArray, List.set_cons_zero, List.set_cons_succ]
        refine wpAnyH_take (i := 6) (v := ?_) (by (try simp only [List.getElem?_toArray, List.getElem?_cons_succ, List.getElem?_cons_zero]); exact rfl) (by kernel_rfl) (by kernel_rfl) (by kernel_rfl) (by exact fun _ _ _ h => h) (Or.inl ⟨by kernel_rfl, ?_⟩) (by assumption) ?_
        rotate_left
        · (intro w hSw; (try dsimp only at hSw); go_simp; try with_reducible rfl)
        try simp only [Act.put, List.setIfInBounds_toArray, List.set_cons_zero, List.set_cons_succ]
        refine wpAnyH_take (i := 7) (by (try simp only [List.getElem?_toArray, List.getElem?_cons_succ, List.getElem?_cons_zero]); exact rfl) (by kernel_rfl) (by kernel_rfl) (by kernel_rfl) (by exact fun _ _ _ h => h) (Or.inr ⟨by kernel_rfl, rfl⟩) (by assumption) ?_
        try simp only [Act.put, List.setIfInBounds_toArray, List.set_cons_zero, List.set_cons_succ]
        refine wpAnyH_take (i := 8) (by (try simp only [List.getElem?_toArray, List.getElem?_cons_succ, List.getElem?_cons_zero]); exact rfl) (by kernel_rfl) (by kernel_rfl) (by kernel_rfl) (by exact fun _ _ _ h => h) (Or.inr ⟨by kernel_rfl, rfl⟩) (by assumption) ?_
        try simp only [Act.put, List.setIfInBounds_toArray, List.set_cons_zero, List.set_cons_succ]
        refine wpAnyH_take (i := 9) (by (try simp only [List.getElem?_toArray, List.getElem?_cons_succ, List.getElem?_cons_zero]); exact rfl) (by kernel_rfl) (by kernel_rfl) (by kernel_rfl) (by exact fun _ _ _ h => h) (Or.inr ⟨by kernel_rfl, rfl⟩) (by assumption) ?_
        try simp only [Act.put, List.setIfInBounds_toArray, List.set_cons_zero, List.set_cons_succ]
        refine wpAnyH_take (i := 10) (by (try simp only [List.getElem?_toArray, List.getElem?_cons_succ, List.getElem?_cons_zero]); exact rfl) (by kernel_rfl) (by kernel_rfl) (by kernel_rfl) (by exact fun _ _ _ h => h) (Or.inr ⟨by kernel_rfl, rfl⟩) (by assumption) ?_
        try simp only [Act.put, List.setIfInBounds_toArray, List.set_cons_zero, List.set_cons_succ]
        refine wpAnyH_take (i := 11) (by (try simp only [List.getElem?_toArray, List.getElem?_cons_succ, List.getElem?_cons_zero]); exact rfl) (by kernel_rfl) (by kernel_rfl) (by kernel_rfl) (by exact fun _ _ _ h => h) (Or.inr ⟨by kernel_rfl, rfl⟩) (by assumption) ?_
        try simp only [Act.put, List.setIfInBounds_toArray, List.set_cons_zero, List.set_cons_succ]
        refine wpAnyH_take (i := 12) (by (try simp only [List.getElem?_toArray, List.getElem?_cons_succ, List.getElem?_cons_zero]); exact rfl) (by kernel_rfl) (by kernel_rfl) (by kernel_rfl) (by exact fun _ _ _ h => h) (Or.inr ⟨by kernel_rfl, rfl⟩) (by assumption) ?_
        try simp only [Act.put, List.setIfInBounds_toArray, List.set_cons_zero, List.set_cons_succ]
        refine wpAnyH_take (i := 13) (by (try simp only [List.getElem?_toArray, List.getElem?_cons_succ, List.getElem?_cons_zero]); exact rfl) (by kernel_rfl) (by kernel_rfl) (by kernel_rfl) (by exact fun _ _ _ h => h) (Or.inr ⟨by kernel_rfl, rfl⟩) (by assumption) ?_
        try simp only [Act.put, List.setIfInBounds_toArray, List.set_cons_zero, List.set_cons_succ]
        refine wpAnyH_take (i := 14) (by (try simp only [List.getElem?_toArray, List.getElem?_cons_succ, List.getElem?_cons_zero]); exact rfl) (by kernel_rfl) (by kernel_rfl) (by kernel_rfl) (by exact fun _ _ _ h => h) (Or.inr ⟨by kernel_rfl, rfl⟩) (by assumption) ?_
        try simp only [Act.put, List.setIfInBounds_toArray, List.set_cons_zero, List.set_cons_succ]
        refine wpAnyH_take (i := 15) (by (try simp only [List.getElem?_toArray, List.getElem?_cons_succ, List.getElem?_cons_zero]); exact rfl) (by kernel_rfl) (by kernel_rfl) (by kernel_rfl) (by exact fun _ _ _ h => h) (Or.inr ⟨by kernel_rfl, rfl⟩) (by assumption) ?_
        try simp only [Act.put, List.setIfInBounds_toArray, List.set_cons_zero, List.set_cons_succ]
        refine wpAnyH_take (i := 16) (by (try simp only [List.getElem?_toArray, List.getElem?_cons_succ, List.getElem?_cons_zero]); exact rfl) (by kernel_rfl) (by kernel_rfl) (by kernel_rfl) (by exact fun _ _ _ h => h) (Or.inr ⟨by kernel_rfl, rfl⟩) (by assumption) ?_
        try simp only [Act.put, List.setIfInBounds_toArray, List.set_cons_zero, List.set_cons_succ]
        refine wpAnyH_take (i := 17) (by (try simp only [List.getElem?_toArray, List.getElem?_cons_succ, List.getElem?_cons_zero]); exact rfl) (by kernel_rfl) (by kernel_rfl) (by kernel_rfl) (by exact fun _ _ _ h => h) (Or.inr ⟨by kernel_rfl, rfl⟩) (by assumption) ?_
        try simp only [Act.put, List.setIfInBounds_toArray, List.set_cons_zero, List.set_cons_succ]
        refine wpAnyH_take (i := 18) (by (try simp only [List.getElem?_toArray, List.getElem?_cons_succ, List.getElem?_cons_zero]); exact rfl) (by kernel_rfl) (by kernel_rfl) (by kernel_rfl) (by exact fun _ _ _ h => h) (Or.inr ⟨by kernel_rfl, rfl⟩) (by assumption) ?_
        try simp only [Act.put, List.setIfInBounds_toArray, List.set_cons_zero, List.set_cons_succ]
        refine wpAnyH_take (i := 19) (by (try simp only [List.getElem?_toArray, List.getElem?_cons_succ, List.getElem?_cons_zero]); exact rfl) (by kernel_rfl) (by kernel_rfl) (by kernel_rfl) (by exact fun _ _ _ h => h) (Or.inr ⟨by kernel_rfl, rfl⟩) (by assumption) ?_
        try simp only [Act.put, List.setIfInBounds_toArray, List.set_cons_zero, List.set_cons_succ]
        refine wpAnyH_take (i := 20) (by (try simp only [List.getElem?_toArray, List.getElem?_cons_succ, List.getElem?_cons_zero]); exact rfl) (by kernel_rfl) (by kernel_rfl) (by kernel_rfl) (by exact fun _ _ _ h => h) (Or.inr ⟨by kernel_rfl, rfl⟩) (by assumption) ?_
        try simp only [Act.put, List.setIfInBounds_toArray, List.set_cons_zero, List.set_cons_succ]
        refine wpAnyH_take (i := 21) (v := ?_) (by (try simp only [List.getElem?_toArray, List.getElem?_cons_succ, List.getElem?_cons_zero]); exact rfl) (by kernel_rfl) (by kernel_rfl) (by kernel_rfl) (by exact fun _ _ _ h => h) (Or.inl ⟨by kernel_rfl, ?_⟩) (by assumption) ?_
        rotate_left
        · (intro w hSw; (try dsimp only at hSw); go_simp; try with_reducible rfl)
        try simp only [Act.put, List.setIfInBounds_toArray, List.set_cons_zero, List.set_cons_succ]
        refine wpAnyH_done (by kernel_rfl) ?_ _
        have HBZ := Lib.hid (chain HBE.out hb)
        clear hb h0 h1 h2
        go_wp2_with fail
        go_roundw
        case rel => exact ⟨j + 1, r, by omega, by go_num, rfl, HN2.out.symm, by have := HR1.out; omega, by have := HR.out; omega, HBZ.out⟩
        case measure => simp [intOf]; omega
    · obtain rfl : j = m := by omega
      have HZ : Hid (r = V) := by rw [← HV.out]; exact HQ.out
      clear HQ
      go_wp2_with fail
      go_ret
      exact ⟨by simp [HZ.out], hbel⟩

end Go.Proofs.Ytncikklhchimdaa
