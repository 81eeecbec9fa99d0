/- The law of plans of a size: the walk. -/
import Derived.Test.YtncikklhchimdaaCandF
import Derived.Test.YtncikklhchimdaaCandH
import Derived.Test.YtncikklhchimdaaTreeO
import Derived.Test.YtncikklhchimdaaValG
namespace Go.Proofs.Ytncikklhchimdaa
open Go.RowKit
set_option linter.unusedVariables false
set_option linter.unusedSimpArgs false
set_option maxRecDepth 100000
set_option maxRecDepth 20000

theorem chk_size {t : Tr} (h : chk t = 0) : t.size ≤ 60 := by
  unfold chk at h
  by_cases hb : bigB t = true
  · rw [if_pos hb] at h; cases h
  · unfold bigB at hb
    rw [Bool.or_eq_true, not_or, decide_eq_true_eq] at hb
    omega
theorem listB_sz {n : Nat} (h : hasSz n = true) : chk (pl n) = 0 ∧ (pl n).num = n ∧ (∀ i, i < (listT n).length → chk (Tr.kid (listT n) i) = 0 ∧ (Tr.kid (listT n) i).num = n) ∧ 1 ≤ (listT n).length ∧ (listT n).length ≤ 12 ∧ differ (listT n) = true := by
  have hk := list_sz h
  unfold listB at hk
  simp only [Bool.and_eq_true, decide_eq_true_eq] at hk
  refine ⟨hk.1.1.1.1.1, hk.1.1.1.1.2, fun i hi => ?_, hk.1.1.2, hk.1.2, hk.2⟩
  have := List.all_eq_true.1 hk.1.1.1.2 _ (Tr.kid_mem hi)
  simp only [Bool.and_eq_true, decide_eq_true_eq] at this
  exact this
theorem rowKid {w : World} {F : Nat → Prop} {a : Option Addr} {m cap : Nat} {ts : List Tr} (h : IsT w F 0 0 a m cap (.node 0 0 ts)) (i : Nat) (hi : i < m) :
    ∃ b off k' n' a' m' c', a = some ⟨b, off, none⟩ ∧ F b ∧ b < w.heap.size ∧ w.cell? ⟨b, off + i * 3, none⟩ = some (.int .i64 k') ∧ w.cell? ⟨b, off + i * 3 + 1, none⟩ = some (.int .i64 n') ∧ w.cell? ⟨b, off + i * 3 + 2, none⟩ = some (.slice a' m' c') ∧
      IsT w F k' n' a' m' c' (Tr.kid ts i) := IsT.kid h i hi
theorem cells3 {w W : World} {b o : Nat} {x y z : Value} (h : w.cell? ⟨b, o, none⟩ = some x ∧ w.cell? ⟨b, o + 1, none⟩ = some y ∧ w.cell? ⟨b, o + 2, none⟩ = some z) (hb : Below w.heap.size w W) : W.cell? ⟨b, o, none⟩ = some x ∧ W.cell? ⟨b, o + 1, none⟩ = some y ∧ W.cell? ⟨b, o + 2, none⟩ = some z := by
  have hl := World.block_lt_of_cell? w _ h.1
  exact ⟨(hb.cell (p := ⟨b, o, none⟩) hl).trans h.1, (hb.cell (p := ⟨b, o + 1, none⟩) hl).trans h.2.1, (hb.cell (p := ⟨b, o + 2, none⟩) hl).trans h.2.2⟩
theorem undrewT {w : World} : Below w.heap.size w w.drew := below_drewN (Below.refl _ _) 1

theorem same_self (t : Tr) (k n : Int) (a : Option Addr) (m cap : Nat) (k' n' : Int) (a' : Option Addr) (m' cap' : Nat) (w : World) (F G : Nat → Prop) (hs : t.size ≤ 60) (hT : IsT w F k n a m cap t) (hU : IsT w G k' n' a' m' cap' t) :
    Calls Try.prog 30 #[.agg #[.int .i64 k, .int .i64 n, .slice a m cap], .agg #[.int .i64 k', .int .i64 n', .slice a' m' cap']] w fun e w' => e = .returned (.bool true) ∧ Below w.heap.size w w' := by
  have := ref13_Same t t k n a m cap k' n' a' m' cap' w F G (by omega) (by omega) hT hU
  rwa [Tr.cmp_self, show decide ((0 : Int) = 0) = true from rfl] at this

set_option maxHeartbeats 4000000 in
theorem candTellsW (n : Int) (w : World) (hn : fits .i64 n) :
    Calls Try.prog 5 #[.int .i64 n] w fun e w' => e = .returned (.bool true) ∧ Below w.heap.size w w' := by
  have hn' := fits_i64.1 hn
  clear hn
  cases hz : hasSz n with
  | false =>
    have C1 : Hid (∀ W, Calls Try.prog 27 #[.int .i64 n] W (GivesD2 (.node 0 0 []) 4 W)) := fun W => cand_Plain_no n W hz (by omega)
    have C2 : Hid (∀ W, Calls Try.prog 28 #[.int .i64 n] W fun e w' => e = .returned (.tuple #[.slice none 0 0, .int .i64 4]) ∧ W = w') := fun W => cand_List_no n W hz (by omega)
    have C3 : Hid (∀ W, Calls Try.prog 29 #[.int .i64 n] W fun e w' => e = .returned (.bool false) ∧ W = w') := fun W => refHas_no n W hz (by omega)
    clear hz hn'
    go_enter Try.func5, Try.ntmps5
    go_wp2_with fail
    refine (C1.out _).mono ?_; rintro e w1 ⟨k, q, a, m, c, rfl, hT, hb1⟩
    obtain ⟨W2, hW2, hb2, x2⟩ := box_fresh w1 #[.int .i64 k, .int .i64 q, .slice a m c] 24
    have HB2 := Lib.hid (chain hb1 hb2)
    have HT2 := Lib.hid (hT.below hb2)
    obtain ⟨q0, q1, q2, _, _, _⟩ := zfacts x2
    clear hb1 hb2 hT x2
    go_wp2_with fail
    refine (C2.out _).mono ?_; rintro e s1 ⟨rfl, rfl⟩
    go_wp2_with fail
    refine (C3.out _).mono ?_; rintro e s2 ⟨rfl, rfl⟩
    go_wp2_with fail
    refine (ref13_Same (.node 0 0 []) (.node 0 0 []) _ _ _ _ _ 0 0 none 0 0 _ _ (fun _ => True) (by simp [Tr.size, Tr.sizeL]) (by simp [Tr.size, Tr.sizeL]) HT2.out (isT_none _ _ fits_zero fits_zero)).mono ?_; rintro e w3 ⟨rfl, hb3⟩
    have HB3 := Lib.hid (chain HB2.out hb3)
    clear hb3
    rw [Tr.cmp_self]
    go_wp2_with fail
    refine (live19 _).mono ?_; rintro e w4 ⟨rfl, hb4⟩
    have hb := chain HB3.out hb4
    clear hb4
    go_wp2_with fail
    go_ret
    exact ⟨rfl, hb⟩
  | true =>
    obtain ⟨i1, i2, _⟩ := hasSz_iff.1 hz
    obtain ⟨N, rfl⟩ := Int.eq_ofNat_of_zero_le (show 0 ≤ n by omega)
    obtain ⟨g1, _, g2, g3, g4, _⟩ := listB_sz hz
    have C1 : Hid (∀ W, Calls Try.prog 27 #[.int .i64 N] W (GivesD2 (pl N) 0 W)) := fun W => cand_Plain N W hz
    have C2 : Hid (∀ W, Calls Try.prog 28 #[.int .i64 N] W (GivesTs2 (listT N) 0 W)) := fun W => cand_List N W hz
    have C3 : Hid (∀ W, Calls Try.prog 29 #[.int .i64 N] W fun e w' => e = .returned (.bool true) ∧ W = w') := fun W => refHas_yes N W hz
    have C4 : Hid (∀ W, Calls Try.prog 32 #[.int .i64 N] W (GivesTs (listT N) W)) := fun W => ref19_List N W hz
    have C5 : Hid (∀ W, Calls Try.prog 33 #[.int .i64 N] W (GivesD (pl N) W)) := fun W => ref19_Plain 10 N W (pl_sz hz)
    obtain ⟨t, ht⟩ : ∃ t, pl N = t := ⟨_, rfl⟩
    obtain ⟨ts, hts⟩ : ∃ ts, listT N = ts := ⟨_, rfl⟩
    rw [ht] at C1 C5 g1
    rw [hts] at C2 C4 g2 g3 g4
    have HS1 := Lib.hid (chk_size g1)
    have HS2 : Hid (∀ i, i < ts.length → (Tr.kid ts i).size ≤ 60) := fun i hi => chk_size (g2 i hi).1
    obtain ⟨L, hL⟩ : ∃ L, ts.length = L := ⟨_, rfl⟩
    have HLL := Lib.hid hL
    rw [hL] at g3 g4 HS2
    clear hz hn' i1 i2 ht hts g1 g2 hL
    go_enter Try.func5, Try.ntmps5
    go_wp2_with fail
    refine (C1.out _).mono ?_; rintro e w1 ⟨k, q, a, m, c, rfl, hT, hb1⟩
    obtain ⟨W2, hW2, hb2, x2⟩ := box_fresh w1 #[.int .i64 k, .int .i64 q, .slice a m c] 24
    have HB2 := Lib.hid (chain hb1 hb2)
    have HT2 := Lib.hid (hT.below hb2)
    have X2 := Lib.hid x2
    clear hb1 hb2 hT x2
    go_wp2_with fail
    refine (C2.out _).mono ?_; rintro e w3 ⟨v, rfl, hR, hb3⟩
    obtain ⟨a3, c3, rfl, hK, hok⟩ := hR.row
    have hL := kids_isT hK hok
    rw [HLL.out] at hL ⊢
    have HL3 := Lib.hid hL
    have HB3 := Lib.hid (chain HB2.out hb3)
    have HT3 := Lib.hid (HT2.out.below hb3)
    have X3 := Lib.hid ((hb3.block _ (block_lt X2.out)).trans X2.out)
    clear hR hK hok hL hb3 HT2 X2
    go_wp2_with fail
    refine (C3.out _).mono ?_; rintro e s1 ⟨rfl, rfl⟩
    go_wp2_with fail
    refine (C4.out _).mono ?_; rintro e w4 ⟨v, rfl, hR, hb4⟩
    obtain ⟨a4, c4, rfl, hK, hok⟩ := hR.row
    have hL := kids_isT hK hok
    rw [HLL.out] at hL ⊢
    have HM4 := Lib.hid hL
    have HB4 := Lib.hid (chain HB3.out hb4)
    have HT4 := Lib.hid (HT3.out.below hb4)
    have HL4 := Lib.hid (HL3.out.below hb4)
    have X4 := Lib.hid ((hb4.block _ (block_lt X3.out)).trans X3.out)
    clear hR hK hok hL hb4 HT3 X3
    go_wp2_with fail
    have hc : w4.cell? ⟨w1.heap.size, 0, none⟩ = some (.int .i64 k) ∧ w4.cell? ⟨w1.heap.size, 0 + 1, none⟩ = some (.int .i64 q) ∧ w4.cell? ⟨w1.heap.size, 0 + 2, none⟩ = some (.slice a m c) := ⟨(zfacts X4.out).1, (zfacts X4.out).2.1, (zfacts X4.out).2.2.1⟩
    have hbz := Below.refl w4.heap.size w4
    go_region_held3 (fun w' => w'.cell? ⟨w1.heap.size, 0, none⟩ = some (.int .i64 k) ∧ w'.cell? ⟨w1.heap.size, 1, none⟩ = some (.int .i64 q) ∧ w'.cell? ⟨w1.heap.size, 2, none⟩ = some (.slice a m c)) (exact hc) ((first
      | (go_at_call 33; ((with_reducible refine (C5.out _).mono ?_); rintro e w5 ⟨k5, q5, a5, m5, c5, rfl, hT5, hb5⟩; have hb5 := chain (undrewT (w := w4)) hb5; have hc := cells3 hc hb5))
      | (go_at_call 30; refine (same_self t _ _ _ _ _ _ _ _ _ _ _ _ _ HS1.out (HT4.out.below hb5) hT5).mono ?_; rintro e w6 ⟨rfl, hb6⟩; have hc := cells3 hc hb6)))
    have hb9 := chain hb5 hb6
    have HB6 := Lib.hid (chain HB4.out hb9)
    have HL6 := Lib.hid (HL4.out.below hb9)
    have HM6 := Lib.hid (HM4.out.below hb9)
    clear hb9 hb5 hb6 hc hT5 hbz HT4 HL4 HM4 X4 HB4
    go_wp2_with fail
    go_loopw [8] (fun i wr => ∃ j : Nat, j ≤ L ∧ i = .int .i64 j ∧ Hid (Below w6.heap.size w6 wr)) (fun i _ => L - (intOf i).toNat)
    case atStart => exact ⟨0, by omega, rfl, Below.refl _ _⟩
    case round =>
      obtain ⟨j, hj, rfl, HBR⟩ := hrel
      by_cases hjm : j < L
      · obtain ⟨b1, o1, k1, q1, a1, m1, c1, rfl, _, _, u0, u1, u2, hTa⟩ := rowKid (HL6.out.below HBR.out) j hjm
        obtain ⟨b2, o2, k2, q2, a2, m2, c2, rfl, _, _, v0, v1, v2, hTb⟩ := rowKid (HM6.out.below HBR.out) j hjm
        have hsz := HS2.out j hjm
        have hcu : wr.cell? ⟨b1, o1 + j * 3, none⟩ = some (.int .i64 k1) ∧ wr.cell? ⟨b1, o1 + j * 3 + 1, none⟩ = some (.int .i64 q1) ∧ wr.cell? ⟨b1, o1 + j * 3 + 2, none⟩ = some (.slice a1 m1 c1) := ⟨u0, u1, u2⟩
        have hcv : wr.cell? ⟨b2, o2 + j * 3, none⟩ = some (.int .i64 k2) ∧ wr.cell? ⟨b2, o2 + j * 3 + 1, none⟩ = some (.int .i64 q2) ∧ wr.cell? ⟨b2, o2 + j * 3 + 2, none⟩ = some (.slice a2 m2 c2) := ⟨v0, v1, v2⟩
        clear u0 u1 u2 v0 v1 v2
        go_wp2_with fail
        go_region_held3 (fun w' => (w'.cell? ⟨b1, o1 + j * 3, none⟩ = some (.int .i64 k1) ∧ w'.cell? ⟨b1, o1 + j * 3 + 1, none⟩ = some (.int .i64 q1) ∧ w'.cell? ⟨b1, o1 + j * 3 + 2, none⟩ = some (.slice a1 m1 c1)) ∧ w'.cell? ⟨b2, o2 + j * 3, none⟩ = some (.int .i64 k2) ∧ w'.cell? ⟨b2, o2 + j * 3 + 1, none⟩ = some (.int .i64 q2) ∧ w'.cell? ⟨b2, o2 + j * 3 + 2, none⟩ = some (.slice a2 m2 c2)) (exact ⟨hcu, hcv⟩) ((first
          | (go_at_call 30; refine (same_self (Tr.kid ts j) _ _ _ _ _ _ _ _ _ _ _ _ _ hsz (hTa.below undrewT) (hTb.below undrewT)).mono ?_; rintro e w7 ⟨rfl, hb7⟩; have hb7 := chain (undrewT (w := wr)) hb7; have hcu := cells3 hcu hb7; have hcv := cells3 hcv hb7)))
        have HB7 := Lib.hid (chain HBR.out hb7)
        clear hb7 hcu hcv hTa hTb
        go_wp2_with fail
        go_roundw
        case rel => exact ⟨j + 1, by omega, by go_num, HB7.out⟩
        case measure => simp [intOf]; omega
      · obtain rfl : L = j := by omega
        have HB8 := Lib.hid (chain HB6.out HBR.out)
        go_wp2_with fail
        refine (live19 _).mono ?_; rintro e w9 ⟨rfl, hb9⟩
        have hb := chain HB8.out hb9
        clear hb9
        go_wp2_with fail
        go_ret
        exact ⟨rfl, hb⟩
end Go.Proofs.Ytncikklhchimdaa

namespace Go.Proofs.Ytncikklhchimdaa
open Go.RowKit
set_option linter.unusedVariables false
set_option linter.unusedSimpArgs false
set_option maxRecDepth 20000

theorem differ_at (ts : List Tr) : differ ts = true → ∀ i k, k < i → i < ts.length → Tr.cmp (Tr.kid ts i) (Tr.kid ts k) ≠ 0 := by
  induction ts with
  | nil => intro _ i k _ hi; simp at hi
  | cons t ts ih =>
    intro h i k hk hi
    unfold differ at h
    rw [Bool.and_eq_true] at h
    cases i with
    | zero => omega
    | succ i =>
      have hi' : i < ts.length := by simpa using hi
      have e1 : Tr.kid (t :: ts) (i + 1) = Tr.kid ts i := by simp [Tr.kid]
      rw [e1]
      cases k with
      | zero =>
        have := List.all_eq_true.1 h.1 _ (Tr.kid_mem hi')
        simpa [Tr.kid] using this
      | succ k =>
        have e2 : Tr.kid (t :: ts) (k + 1) = Tr.kid ts k := by simp [Tr.kid]
        rw [e2]
        exact ih h.2 i k (by omega) hi'
theorem forK_zero {K : Int} {t : Tr} (h : hasSz K = true) (hc : chk t = 0) (hn : t.num = K) : forK K 0 t = 0 := by
  unfold forK
  rw [if_neg (by rw [h]; simp), if_neg (by omega), if_neg (by rw [hc]; simp), if_neg (by rw [hn]; simp)]
theorem for_plan {K : Int} {t : Tr} (k n : Int) (a : Option Addr) (m cap : Nat) (w : World) (F : Nat → Prop) (h : hasSz K = true) (hc : chk t = 0) (hn : t.num = K) (hT : IsT w F k n a m cap t) :
    Calls Try.prog 25 #[.agg #[.int .i64 K, .int .i64 0], .agg #[.int .i64 k, .int .i64 n, .slice a m cap]] w fun e w' => e = .returned (.int .i64 0) ∧ Below w.heap.size w w' := by
  have hb := hasSz_bd h
  have := ref14_For K 0 t k n a m cap w w.heap.size (Nat.le_refl _) (by omega) (by have := chk_size hc; omega) hT.lt
  rwa [forK_zero h hc hn] at this
theorem same_not {t u : Tr} (hd : Tr.cmp t u ≠ 0) (k n : Int) (a : Option Addr) (m cap : Nat) (k' n' : Int) (a' : Option Addr) (m' cap' : Nat) (w : World) (F G : Nat → Prop) (hs : t.size ≤ 60) (hs2 : u.size ≤ 60) (hT : IsT w F k n a m cap t) (hU : IsT w G k' n' a' m' cap' u) :
    Calls Try.prog 30 #[.agg #[.int .i64 k, .int .i64 n, .slice a m cap], .agg #[.int .i64 k', .int .i64 n', .slice a' m' cap']] w fun e w' => e = .returned (.bool false) ∧ Below w.heap.size w w' := by
  have := ref13_Same t u k n a m cap k' n' a' m' cap' w F G (by omega) (by omega) hT hU
  rwa [decide_eq_false hd] at this

set_option maxHeartbeats 4000000 in
theorem candRightW (n : Int) (w : World) (hn : fits .i64 n) :
    Calls Try.prog 6 #[.int .i64 n] w fun e w' => e = .returned (.bool true) ∧ Below w.heap.size w w' := by
  have hn' := fits_i64.1 hn
  clear hn
  cases hz : hasSz n with
  | false =>
    have C2 : Hid (∀ W, Calls Try.prog 28 #[.int .i64 n] W fun e w' => e = .returned (.tuple #[.slice none 0 0, .int .i64 4]) ∧ W = w') := fun W => cand_List_no n W hz (by omega)
    have C3 : Hid (∀ W, Calls Try.prog 29 #[.int .i64 n] W fun e w' => e = .returned (.bool false) ∧ W = w') := fun W => refHas_no n W hz (by omega)
    clear hz hn'
    go_enter Try.func6, Try.ntmps6
    go_wp2_with fail
    refine (C2.out _).mono ?_; rintro e s1 ⟨rfl, rfl⟩
    go_wp2_with fail
    refine (C3.out _).mono ?_; rintro e s2 ⟨rfl, rfl⟩
    go_wp2_with fail
    refine (live19 _).mono ?_; rintro e w4 ⟨rfl, hb4⟩
    have HB4 := Lib.hid hb4
    clear hb4
    go_wp2_with fail
    go_ret
    exact ⟨rfl, HB4.out⟩
  | true =>
    obtain ⟨i1, i2, _⟩ := hasSz_iff.1 hz
    obtain ⟨N, rfl⟩ := Int.eq_ofNat_of_zero_le (show 0 ≤ n by omega)
    obtain ⟨g1, g0, g2, g3, g4, g5⟩ := listB_sz hz
    have C1 : Hid (∀ W, Calls Try.prog 27 #[.int .i64 N] W (GivesD2 (pl N) 0 W)) := fun W => cand_Plain N W hz
    have C2 : Hid (∀ W, Calls Try.prog 28 #[.int .i64 N] W (GivesTs2 (listT N) 0 W)) := fun W => cand_List N W hz
    obtain ⟨t, ht⟩ : ∃ t, pl N = t := ⟨_, rfl⟩
    obtain ⟨ts, hts⟩ : ∃ ts, listT N = ts := ⟨_, rfl⟩
    rw [ht] at C1 g1 g0
    rw [hts] at C2 g2 g3 g4 g5
    have HG5 := Lib.hid (differ_at ts g5)
    have HG2 := Lib.hid g2
    have HG1 := Lib.hid g1
    have HG0 := Lib.hid g0
    have HZ := Lib.hid hz
    obtain ⟨L, hL⟩ : ∃ L, ts.length = L := ⟨_, rfl⟩
    have HLL := Lib.hid hL
    rw [hL] at g3 g4 HG2 HG5
    clear hz hn' i1 i2 ht hts g1 g2 hL g5 g0
    go_enter Try.func6, Try.ntmps6
    go_wp2_with fail
    refine (C2.out _).mono ?_; rintro e w3 ⟨v, rfl, hR, hb3⟩
    obtain ⟨a3, c3, rfl, hK, hok⟩ := hR.row
    have hL := kids_isT hK hok
    rw [HLL.out] at hL ⊢
    have HL3 := Lib.hid hL
    have HB3 := Lib.hid hb3
    clear hR hK hok hL hb3
    go_wp2_with fail
    refine (C1.out _).mono ?_; rintro e w1 ⟨k, q, a, m, c, rfl, hT, hb1⟩
    obtain ⟨W2, hW2, hb2, x2⟩ := box_fresh w1 #[.int .i64 k, .int .i64 q, .slice a m c] 24
    have HB2 := Lib.hid (chain HB3.out (chain hb1 hb2))
    have HT2 := Lib.hid (hT.below hb2)
    have HL2 := Lib.hid (HL3.out.below (chain hb1 hb2))
    obtain ⟨p0, p1, p2, _, _, _⟩ := zfacts x2
    have l1 : ((L : Int) < 1) = False := by simp; omega
    have l2 : ((L : Int) > 12) = False := by simp; omega
    have l3 : decide ((L : Int) < 1) = false := decide_eq_false (by omega)
    have l4 : decide ((12 : Int) < (L : Int)) = false := decide_eq_false (by omega)
    clear hb1 hb2 hT x2 HL3
    go_wp2_with fail
    refine (for_plan _ _ _ _ _ _ _ HZ.out HG1.out HG0.out HT2.out).mono ?_; rintro e w6 ⟨rfl, hb6⟩
    have HB6 := Lib.hid (chain HB2.out hb6)
    have HL6 := Lib.hid (HL2.out.below hb6)
    clear hb6 HL2 HT2 l1 l2 l3 l4
    go_wp2_with fail
    go_loopw [7] (fun i wr => ∃ j : Nat, j ≤ L ∧ i = .int .i64 j ∧ Hid (Below w6.heap.size w6 wr)) (fun i _ => L - (intOf i).toNat)
    case atStart => exact ⟨0, by omega, rfl, Below.refl _ _⟩
    case round =>
      obtain ⟨j, hj, rfl, HBR⟩ := hrel
      by_cases hjm : j < L
      · obtain ⟨b1, o1, k1, q1, a1, m1, c1, rfl, _, _, u0, u1, u2, hTa⟩ := rowKid (HL6.out.below HBR.out) j hjm
        obtain ⟨hck, hnu⟩ := HG2.out j hjm
        have hsz := chk_size hck
        have HTA := Lib.hid hTa
        clear hTa
        go_wp2_with fail
        refine (for_plan _ _ _ _ _ _ _ HZ.out hck hnu HTA.out).mono ?_; rintro e w7 ⟨rfl, hb7⟩
        have hcu := cells3 (⟨u0, u1, u2⟩ : wr.cell? ⟨b1, o1 + j * 3, none⟩ = some (.int .i64 k1) ∧ wr.cell? ⟨b1, o1 + j * 3 + 1, none⟩ = some (.int .i64 q1) ∧ wr.cell? ⟨b1, o1 + j * 3 + 2, none⟩ = some (.slice a1 m1 c1)) hb7
        have HB7 := Lib.hid (chain HBR.out hb7)
        have HTA7 := Lib.hid (HTA.out.below hb7)
        have HCU := Lib.hid hcu
        clear hb7 hcu u0 u1 u2
        obtain ⟨wo, rfl⟩ : ∃ wo : World, wo = wr := ⟨_, rfl⟩
        go_wp2_with fail
        go_loopw [8] (fun i wi => ∃ l : Nat, l ≤ j ∧ i = .int .i64 l ∧ Hid (Below w7.heap.size w7 wi)) (fun i _ => j - (intOf i).toNat)
        case atStart => exact ⟨0, by omega, rfl, Below.refl _ _⟩
        case round =>
          obtain ⟨l, hl, rfl, HBI⟩ := hrel
          by_cases hlm : l < j
          · obtain ⟨b2, o2, k2, q2, a2, m2, c2, h2, _, _, v0, v1, v2, hTb⟩ := rowKid (HL6.out.below (chain HB7.out HBI.out)) l (by omega)
            obtain ⟨rfl, rfl⟩ : b1 = b2 ∧ o1 = o2 := by
              injection h2 with h2; injection h2 with h3 h4; exact ⟨h3, h4⟩
            have hlL : l < L := by omega
            have hsz2 := chk_size (HG2.out l (by omega)).1
            have hne := HG5.out j l hlm hjm
            have hTa := HTA7.out.below HBI.out
            have hcu := cells3 HCU.out HBI.out
            have hcv : wr.cell? ⟨b1, o1 + l * 3, none⟩ = some (.int .i64 k2) ∧ wr.cell? ⟨b1, o1 + l * 3 + 1, none⟩ = some (.int .i64 q2) ∧ wr.cell? ⟨b1, o1 + l * 3 + 2, none⟩ = some (.slice a2 m2 c2) := ⟨v0, v1, v2⟩
            clear v0 v1 v2 h2
            go_wp2_with fail
            go_region_held3 (fun w' => (w'.cell? ⟨b1, o1 + j * 3, none⟩ = some (.int .i64 k1) ∧ w'.cell? ⟨b1, o1 + j * 3 + 1, none⟩ = some (.int .i64 q1) ∧ w'.cell? ⟨b1, o1 + j * 3 + 2, none⟩ = some (.slice a1 m1 c1)) ∧ w'.cell? ⟨b1, o1 + l * 3, none⟩ = some (.int .i64 k2) ∧ w'.cell? ⟨b1, o1 + l * 3 + 1, none⟩ = some (.int .i64 q2) ∧ w'.cell? ⟨b1, o1 + l * 3 + 2, none⟩ = some (.slice a2 m2 c2)) (exact ⟨hcu, hcv⟩) ((first
              | (go_at_call 30; refine (same_not hne _ _ _ _ _ _ _ _ _ _ _ _ _ hsz hsz2 (hTa.below undrewT) (hTb.below undrewT)).mono ?_; rintro e w8 ⟨rfl, hb8⟩; have hb8 := chain (undrewT (w := wr)) hb8; have hcu := cells3 hcu hb8; have hcv := cells3 hcv hb8)))
            have HB8 := Lib.hid (chain HBI.out hb8)
            clear hb8 hcu hcv hTa hTb
            go_wp2_with fail
            go_roundw
            case rel => exact ⟨l + 1, by omega, by go_num, HB8.out⟩
            case measure => simp [intOf]; omega
          · obtain rfl : j = l := by omega
            have HB9 := Lib.hid (chain HB7.out HBI.out)
            go_wp2_with fail
            go_roundw
            case rel => exact ⟨j + 1, by omega, by go_num, HB9.out⟩
            case measure => simp [intOf]; omega
      · obtain rfl : L = j := by omega
        have HB8 := Lib.hid (chain HB6.out HBR.out)
        go_wp2_with fail
        refine (live19 _).mono ?_; rintro e w9 ⟨rfl, hb9⟩
        have hb := chain HB8.out hb9
        clear hb9
        go_wp2_with fail
        go_ret
        exact ⟨rfl, hb⟩
end Go.Proofs.Ytncikklhchimdaa
