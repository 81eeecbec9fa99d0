/- Plans that are worth a trial: the reference's primes, how often; the plan without a choice. -/
import Derived.Test.YtncikklhchimdaaCandA
import Derived.Test.YtncikklhchimdaaPow
namespace Go.Proofs.Ytncikklhchimdaa
open Go.RowKit
set_option linter.unusedVariables false
set_option linter.unusedSimpArgs false
set_option maxRecDepth 100000
set_option maxRecDepth 20000

/-! ### Primes -/
def cellsNt (xs : List Nat) : List Value := xs.map fun x : Nat => Value.int .i64 (x : Int)
theorem cellsNt_snoc (xs : List Nat) (x : Nat) : cellsNt (xs ++ [x]) = cellsNt xs ++ [.int .i64 x] := by simp [cellsNt]
def prs (ps : List (Nat × Nat)) : List Nat := ps.map Prod.fst

set_option maxHeartbeats 2000000 in
theorem ref03_Primes (N : Nat) (w : World) (h1 : 1 ≤ N) (h2 : N ≤ 16777216) :
    Calls Try.prog 80 #[.int .i64 N] w fun e w' => ∃ v, e = .returned v ∧ w'.ownsRow w.heap.size 3 1 v (prs (facL N)).length (cellsNt (prs (facL N))) ∧ Below w.heap.size w w' := by
  obtain ⟨i0, hi, hz0, hz1, hz2⟩ := info_parts info_int
  obtain ⟨PS, hPS⟩ : ∃ PS, prs (facL N) = PS := ⟨_, rfl⟩
  rw [hPS]
  have HPS := Lib.hid hPS
  clear hPS
  go_enter Try.func80, Try.ntmps80
  go_wp2_with fail
  go_loopw [0, 3, 4] (fun n v d wr => ∃ (n0 d0 : Nat) (acc : List Nat), 1 ≤ n0 ∧ n0 ≤ 16777216 ∧ 2 ≤ d0 ∧ d0 ≤ 4097 ∧ n = .int .i64 n0 ∧ d = .int .i64 d0 ∧ acc.length ≤ d0 ∧ Hid (acc ++ prs (facF (5000 - d0) d0 n0) = PS) ∧ Hid (wr.ownsRow w.heap.size 3 1 v acc.length (cellsNt acc)) ∧ Below w.heap.size w wr) (fun _ _ d _ => 5000 - (intOf d).toNat)
  case atStart => exact ⟨N, 2, [], h1, h2, by omega, by omega, rfl, rfl, by simp, HPS.out, World.ownsRow_nil _ _ _ _, Below.refl _ _⟩
  case round =>
    obtain ⟨n, d, acc, hn1, hn2, hd1, hd2, rfl, rfl, hal, HF, HO, hbel⟩ := hrel
    obtain ⟨q, hq⟩ : ∃ q, d * d = q := ⟨_, rfl⟩
    have eq1 : (d : Int) * (d : Int) = (q : Int) := by rw [← hq]; simp
    have hq9 : q ≤ 4097 * 4097 := by rw [← hq]; exact Nat.mul_le_mul hd2 hd2
    have hq4 : 4 ≤ q := by rw [← hq]; exact Nat.mul_le_mul hd1 hd1
    have hbs := hbel.size
    by_cases hn : 1 < n
    · by_cases hle : q ≤ n
      · have hd3 : d ≤ 4096 := by
          by_cases h : d ≤ 4096
          · exact h
          · have := Nat.mul_le_mul (show 4097 ≤ d by omega) (show 4097 ≤ d by omega)
            omega
        have HQ := Lib.hid hq
        clear hq
        have hS : Hid (∃ m e, stripF 25 d n 0 = (m, e)) := ⟨_, _, rfl⟩
        obtain ⟨M, E, hs⟩ := hS.out
        have hst := stripF_le 25 d n 0 hd1 hn1
        rw [hs] at hst
        obtain ⟨g1, g2, g3, g4⟩ := hst
        have HUN := Lib.hid (fac_unfold_le (n := n) hd2 (by rw [HQ.out]; exact hle) hs)
        have e1 : (n : Int).tmod (d : Int) = ((n % d : Nat) : Int) := by rw [Int.tmod_eq_emod_of_nonneg (by omega), Int.natCast_emod]
        have e2 : (n : Int) % (d : Int) = ((n % d : Nat) : Int) := by rw [← Int.natCast_emod]
        obtain ⟨r, hr⟩ : ∃ r, n % d = r := ⟨_, rfl⟩
        rw [hr] at e1 e2
        have z1 : ((d : Int) == 0) = false := bno (by omega)
        have z2 : ¬ (d : Int) = 0 := by omega
        have hE : (r = 0 ∧ 1 ≤ E) ∨ (r ≠ 0 ∧ E = 0) := by
          by_cases h0 : r = 0
          · refine .inl ⟨h0, ?_⟩
            have := stripF_le 24 d (n / d) 1 hd1 (Nat.div_pos (Nat.le_of_dvd hn1 (Nat.dvd_of_mod_eq_zero (by rw [hr]; exact h0))) (by omega))
            have e : stripF 25 d n 0 = stripF 24 d (n / d) 1 := by rw [stripF, if_pos (by rw [hr]; exact h0)]
            rw [← e, hs] at this
            exact this.2.2.1
          · refine .inr ⟨h0, ?_⟩
            have e : stripF 25 d n 0 = (n, 0) := by rw [stripF, if_neg (by rw [hr]; exact h0)]
            rw [hs] at e
            exact (Prod.mk.inj e).2
        have HS := Lib.hid hs
        have HR := Lib.hid hr
        clear hs hS g4 hr
        rcases hE with ⟨h0, hE1⟩ | ⟨h0, hE0⟩
        · subst h0
          have hown := HO.out
          go_wp2_with (at_builtin; refine wpList_append_own _ rfl _ _ 25 rfl w.heap.size 3 i0 (.int .i64 0) 1 8 Try.underlying25 hi hz0 hz1 hz2 rfl (by decide) _ acc.length (cellsNt acc) rfl (hown.alloc _) ⟨wr.heap.size, 0, none⟩ 1 1 [.int .i64 d] rfl rfl (cell_one_new _ _ _) (one_cell _ _) (by unfold maxLen; omega) (by omega) (by simp; omega) ?_)
          intro v' w2 hown2 hgrow _
          have HOW : Hid (w2.ownsRow w.heap.size 3 1 v' (acc ++ [d]).length (cellsNt (acc ++ [d]))) := by unfold Hid; rw [cellsNt_snoc, List.length_append, List.length_singleton]; exact hown2
          have HB4 := Lib.hid (below_grown hbel hbs (own_lt3 hown) hgrow)
          have hlen : (acc ++ [d]).length ≤ d + 1 := by simp; omega
          have HF2 : Hid ((acc ++ [d]) ++ prs (facF (5000 - (d + 1)) (d + 1) M) = PS) := by
            unfold Hid; have := HF.out; rw [HUN.out, if_neg (by omega)] at this
            rw [List.append_assoc]; exact this
          obtain ⟨acc2, hacc2⟩ : ∃ x, acc ++ [d] = x := ⟨_, rfl⟩
          rw [hacc2] at HOW hlen HF2
          clear hown hown2 hgrow hacc2 e1 e2 hbel hbs HF HO hal
          obtain ⟨wo, rfl⟩ : ∃ wo : World, wo = wr := ⟨_, rfl⟩
          go_wp2_with fail
          go_loopw [0] (fun m wi => ∃ (m0 e0 : Nat), m = .int .i64 m0 ∧ 1 ≤ m0 ∧ m0 ≤ n ∧ e0 ≤ 24 ∧ Hid (m0 * 2 ^ e0 ≤ 16777216) ∧ Hid (stripF (25 - e0) d m0 e0 = (M, E)) ∧ wi = w2) (fun m _ => (intOf m).toNat)
          case atStart => exact ⟨n, 0, rfl, hn1, Nat.le_refl _, by omega, by unfold Hid; omega, HS.out, rfl⟩
          case round =>
            obtain ⟨m, e, rfl, hm1, hmn, he24, HB, HR2, rfl⟩ := hrel
            have e1 : (m : Int).tmod (d : Int) = ((m % d : Nat) : Int) := by rw [Int.tmod_eq_emod_of_nonneg (by omega), Int.natCast_emod]
            have e2 : (m : Int) % (d : Int) = ((m % d : Nat) : Int) := by rw [← Int.natCast_emod]
            obtain ⟨r, hr⟩ : ∃ r, m % d = r := ⟨_, rfl⟩
            rw [hr] at e1 e2
            by_cases h0 : r = 0
            · have e3 : (m : Int).tdiv (d : Int) = ((m / d : Nat) : Int) := by rw [Int.tdiv_eq_ediv_of_nonneg (by omega), Int.natCast_ediv]
              have e4 : (m : Int) / (d : Int) = ((m / d : Nat) : Int) := by rw [← Int.natCast_ediv]
              have hst := strip_step hd1 (by rw [hr]; exact h0) hm1 HB.out
              have hlt : m / d < m := Nat.div_lt_self (by omega) (by omega)
              have hfew := strip_few hst.1 hst.2.1
              obtain ⟨p, hp⟩ : ∃ p, m / d = p := ⟨_, rfl⟩
              have HR3 : Hid (stripF (25 - (e + 1)) d p (e + 1) = (M, E)) := by
                unfold Hid
                have := HR2.out
                rw [show 25 - e = (25 - (e + 1)) + 1 by omega, stripF, if_pos (by rw [hr]; exact h0), hp] at this
                exact this
              rw [hp] at e3 e4 hst hlt
              obtain ⟨g1, g2, g3⟩ := hst
              have G2 := Lib.hid g2
              clear hr hp g2
              subst h0
              go_wp2_with fail
              go_roundw
              case rel => exact ⟨p, e + 1, rfl, g1, by omega, by omega, G2.out, HR3.out, by first | rfl | trivial⟩
              case measure => simp [intOf]; omega
            · have hME : (m, e) = (M, E) := by
                have := HR2.out
                rw [show 25 - e = (24 - e) + 1 by omega, stripF, if_neg (by rw [hr]; exact h0)] at this
                exact this
              simp only [Prod.mk.injEq] at hME
              obtain ⟨rfl, rfl⟩ := hME
              have h0' : ((r : Int) == 0) = false := bno (by omega)
              clear hr
              go_wp2_with fail
              go_roundw
              case rel => exact ⟨m, d + 1, acc2, hm1, by omega, by omega, by omega, rfl, by go_num, hlen, HF2.out, HOW.out, HB4.out⟩
              case measure => simp [intOf]; omega
        · have h0' : ((r : Int) == 0) = false := bno (by omega)
          subst hE0
          obtain rfl : M = n := by
            have := HS.out
            rw [stripF, if_neg (by rw [HR.out]; exact h0)] at this
            exact (Prod.mk.inj this).1.symm
          have HF2 : Hid (acc ++ prs (facF (5000 - (d + 1)) (d + 1) M) = PS) := by
            unfold Hid; have := HF.out; rw [HUN.out, if_pos rfl] at this; exact this
          go_wp2_with fail
          go_loopw [0] (fun m wi => m = .int .i64 M ∧ wi = wr) (fun _ _ => 0)
          case atStart => exact ⟨rfl, rfl⟩
          case round =>
            obtain ⟨rfl, rfl⟩ := hrel
            go_wp2_with fail
            go_roundw
            case rel => exact ⟨M, d + 1, acc, hn1, hn2, by omega, by omega, rfl, by go_num, by omega, HF2.out, HO.out, hbel⟩
            case measure => simp [intOf]; omega
      · have HUN := Lib.hid (fac_unfold_gt (n := n) hd2 (by rw [hq]; exact hle))
        clear hq
        have hown := HO.out
        have HN := Lib.hid hn
        go_wp2_with (at_builtin; refine wpList_append_own _ rfl _ _ 25 rfl w.heap.size 3 i0 (.int .i64 0) 1 8 Try.underlying25 hi hz0 hz1 hz2 rfl (by decide) _ acc.length (cellsNt acc) rfl (hown.alloc _) ⟨wr.heap.size, 0, none⟩ 1 1 [.int .i64 n] rfl rfl (cell_one_new _ _ _) (one_cell _ _) (by unfold maxLen; omega) (by omega) (by simp; omega) ?_)
        intro v' w2 hown2 hgrow _
        have HPE : Hid (acc ++ [n] = PS) := by have := HF.out; rw [HUN.out, if_pos hn] at this; exact this
        have HOW : Hid (w2.ownsRow w.heap.size 3 1 v' PS.length (cellsNt PS)) := by unfold Hid; rw [← HPE.out, cellsNt_snoc, List.length_append, List.length_singleton]; exact hown2
        have hb4 : Below w.heap.size w w2 := below_grown hbel hbs (own_lt3 hown) hgrow
        clear hown hown2 hgrow
        go_wp2_with fail
        go_ret
        exact ⟨_, rfl, HOW.out, hb4⟩
    · obtain rfl : n = 1 := by omega
      have HUN := Lib.hid (fac_unfold_gt (n := 1) hd2 (by rw [hq]; omega))
      have HPE : Hid (acc = PS) := by unfold Hid; have := HF.out; rw [HUN.out, if_neg (by omega)] at this; simpa [prs] using this
      have HOW := HO.out
      rw [HPE.out] at HOW
      have HOW := Lib.hid HOW
      clear hq
      go_wp2_with fail
      go_ret
      exact ⟨_, rfl, HOW.out, hbel⟩


set_option maxHeartbeats 1000000 in
/-- How often d divides n. -/
theorem ref03_Times (d n : Nat) (w : World) (hd : 2 ≤ d) (hd2 : d ≤ 16777216) (h1 : 1 ≤ n) (h2 : n ≤ 16777216) :
    Calls Try.prog 82 #[.int .i64 d, .int .i64 n] w fun e w' => e = .returned (.int .i64 ((stripF 25 d n 0).2 : Nat)) ∧ w = w' := by
  have hS : Hid (∃ m e, stripF 25 d n 0 = (m, e)) := ⟨_, _, rfl⟩
  obtain ⟨M, E, hs⟩ := hS.out
  rw [hs]
  have HS := Lib.hid hs
  clear hs hS
  have z1 : ((d : Int) == 0) = false := bno (by omega)
  have z2 : ¬ (d : Int) = 0 := by omega
  go_enter Try.func82, Try.ntmps82
  go_wp2_with fail
  go_loopw [1, 5] (fun m k wi => ∃ (m0 e0 : Nat), m = .int .i64 m0 ∧ k = .int .i64 e0 ∧ 1 ≤ m0 ∧ m0 ≤ n ∧ e0 ≤ 24 ∧ Hid (m0 * 2 ^ e0 ≤ 16777216) ∧ Hid (stripF (25 - e0) d m0 e0 = (M, E)) ∧ wi = w) (fun m _ _ => (intOf m).toNat)
  case atStart => exact ⟨n, 0, rfl, rfl, h1, Nat.le_refl _, by omega, by unfold Hid; omega, HS.out, rfl⟩
  case round =>
    obtain ⟨m, e, rfl, rfl, hm1, hmn, he24, HB, HR2, rfl⟩ := hrel
    have e1 : (m : Int).tmod (d : Int) = ((m % d : Nat) : Int) := by rw [Int.tmod_eq_emod_of_nonneg (by omega), Int.natCast_emod]
    have e2 : (m : Int) % (d : Int) = ((m % d : Nat) : Int) := by rw [← Int.natCast_emod]
    obtain ⟨r, hr⟩ : ∃ r, m % d = r := ⟨_, rfl⟩
    rw [hr] at e1 e2
    by_cases h0 : r = 0
    · have e3 : (m : Int).tdiv (d : Int) = ((m / d : Nat) : Int) := by rw [Int.tdiv_eq_ediv_of_nonneg (by omega), Int.natCast_ediv]
      have e4 : (m : Int) / (d : Int) = ((m / d : Nat) : Int) := by rw [← Int.natCast_ediv]
      have hst := strip_step hd (by rw [hr]; exact h0) hm1 HB.out
      have hlt : m / d < m := Nat.div_lt_self (by omega) (by omega)
      have hfew := strip_few hst.1 hst.2.1
      obtain ⟨p, hp⟩ : ∃ p, m / d = p := ⟨_, rfl⟩
      have HR3 : Hid (stripF (25 - (e + 1)) d p (e + 1) = (M, E)) := by
        unfold Hid
        have := HR2.out
        rw [show 25 - e = (25 - (e + 1)) + 1 by omega, stripF, if_pos (by rw [hr]; exact h0), hp] at this
        exact this
      rw [hp] at e3 e4 hst hlt
      obtain ⟨g1, g2, g3⟩ := hst
      have G2 := Lib.hid g2
      clear hr hp g2
      subst h0
      go_wp2_with fail
      go_roundw
      case rel => exact ⟨p, e + 1, rfl, by go_num, g1, by omega, by omega, G2.out, HR3.out, by first | rfl | trivial⟩
      case measure => simp [intOf]; omega
    · have hME : (m, e) = (M, E) := by
        have := HR2.out
        rw [show 25 - e = (24 - e) + 1 by omega, stripF, if_neg (by rw [hr]; exact h0)] at this
        exact this
      simp only [Prod.mk.injEq] at hME
      obtain ⟨rfl, rfl⟩ := hME
      have h0' : ((r : Int) == 0) = false := bno (by omega)
      clear hr
      go_wp2_with fail
      go_ret
      exact ⟨rfl, by first | rfl | trivial⟩
end Go.Proofs.Ytncikklhchimdaa

namespace Go.Proofs.Ytncikklhchimdaa
open Go.RowKit
set_option linter.unusedVariables false
set_option linter.unusedSimpArgs false
set_option maxRecDepth 20000

theorem cellsNt_last (ps : List (Nat × Nat)) (q : Nat) (h : ps.length = q + 1) : (cellsNt (prs ps))[q]? = some (.int .i64 (lastP ps)) := by
  unfold lastP cellsNt prs
  rw [show ps.length - 1 = q by omega]
  simp [show q < ps.length by omega]

theorem ref19_one (K n : Nat) (k' n' : Int) (a' : Option Addr) (m' c' : Nat) (w : World) :
    Calls Try.prog 83 #[.int .i64 K, .int .i64 n, .agg #[.int .i64 k', .int .i64 n', .slice a' m' c']] w fun e w' => ∃ b T, e = .returned (.agg #[.int .i64 K, .int .i64 n, .slice (some ⟨b, 0, none⟩) 1 1]) ∧ w.heap.size ≤ b ∧ w'.heap[b]? = some (.cells #[.int .i64 k', .int .i64 n', .slice a' m' c'] T (0, 0)) ∧ Below w.heap.size w w' := by
  obtain ⟨W1, hW1, hb1, x1⟩ := box_fresh w #[.int .i64 k', .int .i64 n', .slice a' m' c'] 24
  have hs1 : W1.heap.size = w.heap.size + 1 := by rw [← hW1]; simp
  obtain ⟨W2, hW2, hb2, x2⟩ := zbox W1 24
  have hs2 : W2.heap.size = W1.heap.size + 1 := by rw [← hW2]; simp
  have y1 := (hb2.block _ (block_lt x1)).trans x1
  obtain ⟨p0, p1, p2, _, _, _⟩ := zfacts y1
  obtain ⟨W3, hW3, hb3, x3⟩ := box_fresh W2 #[.int .i64 k', .int .i64 n', .slice a' m' c'] 24
  have x2' := (hb3.block _ (block_lt x2)).trans x2
  obtain ⟨r0, r1, r2, f0, f1, f2⟩ := zfacts x2'
  rw [hs1] at r0 r1 r2 f0 f1 f2
  go_enter Try.func83, Try.ntmps83
  go_wp2_with fail
  have hX := set3 (x' := .int .i64 K) (y' := .int .i64 n) (z' := .slice (some ⟨W2.heap.size, 0, none⟩) 1 1) x2'
  have hf := set3_far W3 W1.heap.size (.int .i64 K) (.int .i64 n) (.slice (some ⟨W2.heap.size, 0, none⟩) 1 1) W2.heap.size (by omega)
  have hbb := set3_below (chain hb1 (chain hb2 hb3)) W1.heap.size (by omega) (.int .i64 K) (.int .i64 n) (.slice (some ⟨W2.heap.size, 0, none⟩) 1 1)
  rw [hs1] at hX hf hbb
  obtain ⟨w', hw'⟩ : ∃ w', ((W3.setCell ⟨w.heap.size + 1, 0, none⟩ (.int .i64 K)).setCell ⟨w.heap.size + 1, 1, none⟩ (.int .i64 n)).setCell ⟨w.heap.size + 1, 2, none⟩ (.slice (some ⟨W2.heap.size, 0, none⟩) 1 1) = w' := ⟨_, rfl⟩
  rw [hw'] at hX hf hbb
  have hz : W2.heap.size = w.heap.size + 1 + 1 := by omega
  rw [hz] at hX hf hw' x3
  rw [hw']
  obtain ⟨s0, s1, s2, _, _, _⟩ := zfacts hX
  exact bodyPost_ret (v := .agg #[.int .i64 K, .int .i64 n, .slice (some ⟨w.heap.size + 1 + 1, 0, none⟩) 1 1]) (by simp [results, Try.results83, go_sem, s0, s1, s2]) rfl ⟨_, _, rfl, by omega, hf.trans x3, hbb⟩

set_option maxHeartbeats 2000000 in
theorem ref19_two (K n p d : Nat) (w : World) (t u : Tr) (hK : K ≤ 7) (h2 : n ≤ 16777216) (hp1 : 1 ≤ p) (hpp : p ≤ 16777216) (hd : n / p = d)
    (C1 : Hid (∀ W, Calls Try.prog 33 #[.int .i64 p] W (GivesD t W))) (C2 : Hid (∀ W, Calls Try.prog 33 #[.int .i64 d] W (GivesD u W))) :
    Calls Try.prog 81 #[.int .i64 K, .int .i64 n, .int .i64 p] w (GivesD (.node K n [t, u]) w) := by
  have e1 : (n : Int).tdiv (p : Int) = (d : Int) := by rw [Int.tdiv_eq_ediv_of_nonneg (by omega), ← Int.natCast_ediv, hd]
  have e2 : (n : Int) / (p : Int) = (d : Int) := by rw [← Int.natCast_ediv, hd]
  have z1 : ((p : Int) == 0) = false := bno (by omega)
  have z2 : ¬ (p : Int) = 0 := by omega
  have hdn : d ≤ n := by rw [← hd]; exact Nat.div_le_self n p
  have hd9 : d ≤ 16777216 := by omega
  have e3 : IntKind.i64.wrap ((n : Int).tdiv (p : Int)) = (d : Int) := by rw [e1]; exact IntWalk.i64_in _ (by omega)
  have e4 : wrap64 (d : Int) = d := by rw [← IntWalk.i64_left]; exact IntWalk.i64_in _ (by omega)
  have p0 : (0 : Int) < p := by omega
  have n0 : (0 : Int) ≤ n := by omega
  clear hd
  obtain ⟨W0, hW0, hb0, x0⟩ := zbox w 24
  have hs0 : Hid (W0.heap.size = w.heap.size + 1) := by unfold Hid; rw [← hW0]; simp
  have HB0 := Lib.hid hb0
  have X0 := Lib.hid x0
  clear hb0 x0
  go_enter Try.func81, Try.ntmps81
  go_wp2_with fail
  go_region_held (fun _ => True) (trivial) (first
    | (go_at_call 33; first
      | ((with_reducible refine (C1.out _).mono ?_); rintro e wa ⟨ka, na, aa, ma, ca, rfl, hTa, hba⟩; have hba := undrew hba)
      | ((with_reducible refine (C2.out _).mono ?_); rintro e wb ⟨kb, nb, ab, mb, cb, rfl, hTb, hbb⟩; have hx4 := keep_two HB0.out X0.out hba hbb (cs := #[.int .i64 ka, .int .i64 na, .slice aa ma ca, .int .i64 kb, .int .i64 nb, .slice ab mb cb]) (T := 24); obtain ⟨q0, q1, q2, g0, g1, g2⟩ := zfacts hx4.2)))
  all_goals
    go_wp2_with fail
    obtain ⟨_, k4, hbs, hA, hB⟩ := two_fin hba hbb (Below.refl (wb.alloc (.cells #[.int .i64 ka, .int .i64 na, .slice aa ma ca, .int .i64 kb, .int .i64 nb, .slice ab mb cb] 24)).heap.size (wb.alloc (.cells #[.int .i64 ka, .int .i64 na, .slice aa ma ca, .int .i64 kb, .int .i64 nb, .slice ab mb cb] 24)))
    have hTA := (hA _ _ _ _ _ _ hTa).mono (G := Since (w.heap.size + 1)) fun b hb => by unfold Since at hb ⊢; have := hs0.out; omega
    have hTB := (hB _ _ _ _ _ _ hTb).mono (G := Since (w.heap.size + 1)) fun b hb => by unfold Since at hb ⊢; have := hs0.out; omega
    have hN := isT_node (k := K) (n := n) (by rw [fits_i64]; omega) (by rw [fits_i64]; omega) (ok_two hTA.ok hTB.ok) (kids_twoT (show Since (w.heap.size + 1) wb.heap.size by unfold Since; have := hs0.out; omega) k4 hTA hTB)
    obtain ⟨w', hw', hb, r0, r1, r2, hT⟩ := fin_node hx4.1 hx4.2 hN
    simp only [List.length_cons, List.length_nil, Nat.zero_add, Nat.reduceAdd] at hw' r0 r1 r2 hT
    rw [hw']
    exact bodyPost_ret (v := .agg #[.int .i64 K, .int .i64 n, .slice (some ⟨wb.heap.size, 0, none⟩) 2 2]) (by simp [results, Try.results81, go_sem, r0, r1, r2]) rfl ⟨_, _, _, _, _, rfl, hT, hb⟩

set_option maxHeartbeats 4000000 in
theorem ref19_Plain (f : Nat) : ∀ (n : Nat) (w : World), okF f n = true → Calls Try.prog 33 #[.int .i64 n] w (GivesD (planF f n) w) := by
  induction f with
  | zero => intro n w h; cases h
  | succ f ih =>
    intro n w h
    have IH := Lib.hid ih
    clear ih
    obtain ⟨hsz, hrec⟩ := okF_step h
    clear h
    obtain ⟨i1, i2, _⟩ := hasSz_iff.1 hsz
    have h1 : 1 ≤ n := by omega
    have h2 : n ≤ 16777216 := by omega
    clear i1 i2
    obtain ⟨B, hB⟩ : ∃ B, hasP2 (n : Int) = B := ⟨_, rfl⟩
    have hP2 : isP2 (n : Int) = B := by rw [← hB]; unfold hasP2; rw [decide_eq_true (show (n : Int) ≤ 16777216 by omega), Bool.and_true]
    have CP : Hid (∀ W, Calls Try.prog 79 #[.int .i64 n] W fun e w' => e = .returned (.bool B) ∧ W = w') := fun W => by rw [← hP2]; exact refPower n W (by omega)
    clear hP2
    have HSZ := Lib.hid hsz
    clear hsz
    obtain ⟨W0, hW0, hb0, x0⟩ := zbox w 24
    have hs0 : Hid (W0.heap.size = w.heap.size + 1) := by unfold Hid; rw [← hW0]; simp
    have HB0 := Lib.hid hb0
    have X0 := Lib.hid x0
    clear hb0 x0
    by_cases hk : noKid n = true
    · have HE0 : Hid (planF (f + 1) n = .node (leafK n) n []) := planF_leaf hk
      have hcs := noKid_cases h1 hk
      clear hk hrec
      rw [hB] at hcs
      rcases hcs with ⟨h3, h4, hl⟩ | ⟨h3, hl⟩ | ⟨h3, h4, hP, hl⟩ | ⟨h3, h4, hP, hl⟩ | ⟨h3, hP, hl⟩
      · have HE : Hid (planF (f + 1) n = .node 2 n []) := by unfold Hid; rw [HE0.out, hl]; first | rfl | done
        clear HE0 hl
        go_enter Try.func33, Try.ntmps33
        go_wp2_with fail
        refine (ref19_leaf _ _ _).mono ?_; rintro e w1 ⟨rfl, hb1⟩
        have HB1 := Lib.hid (chain HB0.out hb1)
        have x1 := (hb1.block _ (block_lt X0.out)).trans X0.out
        obtain ⟨q0, q1, q2, g0, g1, g2⟩ := zfacts x1
        have X1 := Lib.hid x1
        clear hb1 x1
        go_wp2_with fail
        obtain ⟨w', hw', hb, r0, r1, r2, hT⟩ := fin_node HB1.out X1.out (isT_none _ _ (by rw [fits_i64]; omega) (by rw [fits_i64]; omega)) (k := 2) (n := (n : Int)) (a := none) (m := 0) (c := 0) (t := .node 2 n [])
        rw [hw']
        exact bodyPost_ret (v := .agg #[.int .i64 2, .int .i64 n, .slice none 0 0]) (by simp [results, Try.results33, go_sem, r0, r1, r2]) rfl ⟨_, _, _, _, _, rfl, by rw [HE.out]; exact hT, hb⟩

      · subst h3
        have HE : Hid (planF (f + 1) 1 = .node 1 1 []) := by unfold Hid; rw [HE0.out, hl]; first | rfl | done
        clear HE0 hl
        go_enter Try.func33, Try.ntmps33
        go_wp2_with fail
        refine (ref19_leaf _ _ _).mono ?_; rintro e w1 ⟨rfl, hb1⟩
        have HB1 := Lib.hid (chain HB0.out hb1)
        have x1 := (hb1.block _ (block_lt X0.out)).trans X0.out
        obtain ⟨q0, q1, q2, g0, g1, g2⟩ := zfacts x1
        have X1 := Lib.hid x1
        clear hb1 x1
        go_wp2_with fail
        obtain ⟨w', hw', hb, r0, r1, r2, hT⟩ := fin_node HB1.out X1.out (isT_none _ _ (by rw [fits_i64]; omega) (by rw [fits_i64]; omega)) (k := 1) (n := 1) (a := none) (m := 0) (c := 0) (t := .node 1 1 [])
        rw [hw']
        exact bodyPost_ret (v := .agg #[.int .i64 1, .int .i64 1, .slice none 0 0]) (by simp [results, Try.results33, go_sem, r0, r1, r2]) rfl ⟨_, _, _, _, _, rfl, by rw [HE.out]; exact hT, hb⟩

      · have HE : Hid (planF (f + 1) n = .node 1 n []) := by unfold Hid; rw [HE0.out, hl]; first | rfl | done
        clear HE0 hl
        subst hP
        have s1 : ((n : Int) == 1) = false := bno (by omega)
        go_enter Try.func33, Try.ntmps33
        go_wp2_with fail
        refine (CP.out _).mono ?_; rintro e w0 ⟨rfl, rfl⟩
        go_wp2_with fail
        refine (ref19_leaf _ _ _).mono ?_; rintro e w1 ⟨rfl, hb1⟩
        have HB1 := Lib.hid (chain HB0.out hb1)
        have x1 := (hb1.block _ (block_lt X0.out)).trans X0.out
        obtain ⟨q0, q1, q2, g0, g1, g2⟩ := zfacts x1
        have X1 := Lib.hid x1
        clear hb1 x1
        go_wp2_with fail
        obtain ⟨w', hw', hb, r0, r1, r2, hT⟩ := fin_node HB1.out X1.out (isT_none _ _ (by rw [fits_i64]; omega) (by rw [fits_i64]; omega)) (k := 1) (n := (n : Int)) (a := none) (m := 0) (c := 0) (t := .node 1 n [])
        rw [hw']
        exact bodyPost_ret (v := .agg #[.int .i64 1, .int .i64 n, .slice none 0 0]) (by simp [results, Try.results33, go_sem, r0, r1, r2]) rfl ⟨_, _, _, _, _, rfl, by rw [HE.out]; exact hT, hb⟩

      · have HE : Hid (planF (f + 1) n = .node 3 n []) := by unfold Hid; rw [HE0.out, hl]; first | rfl | done
        clear HE0 hl
        subst hP
        have s1 : ((n : Int) == 1) = false := bno (by omega)
        go_enter Try.func33, Try.ntmps33
        go_wp2_with fail
        refine (CP.out _).mono ?_; rintro e w0 ⟨rfl, rfl⟩
        go_wp2_with fail
        refine (CP.out _).mono ?_; rintro e w0 ⟨rfl, rfl⟩
        go_wp2_with fail
        refine (ref19_leaf _ _ _).mono ?_; rintro e w1 ⟨rfl, hb1⟩
        have HB1 := Lib.hid (chain HB0.out hb1)
        have x1 := (hb1.block _ (block_lt X0.out)).trans X0.out
        obtain ⟨q0, q1, q2, g0, g1, g2⟩ := zfacts x1
        have X1 := Lib.hid x1
        clear hb1 x1
        go_wp2_with fail
        obtain ⟨w', hw', hb, r0, r1, r2, hT⟩ := fin_node HB1.out X1.out (isT_none _ _ (by rw [fits_i64]; omega) (by rw [fits_i64]; omega)) (k := 3) (n := (n : Int)) (a := none) (m := 0) (c := 0) (t := .node 3 n [])
        rw [hw']
        exact bodyPost_ret (v := .agg #[.int .i64 3, .int .i64 n, .slice none 0 0]) (by simp [results, Try.results33, go_sem, r0, r1, r2]) rfl ⟨_, _, _, _, _, rfl, by rw [HE.out]; exact hT, hb⟩

      · have HE : Hid (planF (f + 1) n = .node 3 n []) := by unfold Hid; rw [HE0.out, hl]; first | rfl | done
        clear HE0 hl
        subst hP
        have s1 : ((n : Int) == 1) = false := bno (by omega)
        go_enter Try.func33, Try.ntmps33
        go_wp2_with fail
        refine (CP.out _).mono ?_; rintro e w0 ⟨rfl, rfl⟩
        go_wp2_with fail
        refine (ref19_leaf _ _ _).mono ?_; rintro e w1 ⟨rfl, hb1⟩
        have HB1 := Lib.hid (chain HB0.out hb1)
        have x1 := (hb1.block _ (block_lt X0.out)).trans X0.out
        obtain ⟨q0, q1, q2, g0, g1, g2⟩ := zfacts x1
        have X1 := Lib.hid x1
        clear hb1 x1
        go_wp2_with fail
        obtain ⟨w', hw', hb, r0, r1, r2, hT⟩ := fin_node HB1.out X1.out (isT_none _ _ (by rw [fits_i64]; omega) (by rw [fits_i64]; omega)) (k := 3) (n := (n : Int)) (a := none) (m := 0) (c := 0) (t := .node 3 n [])
        rw [hw']
        exact bodyPost_ret (v := .agg #[.int .i64 3, .int .i64 n, .slice none 0 0]) (by simp [results, Try.results33, go_sem, r0, r1, r2]) rfl ⟨_, _, _, _, _, rfl, by rw [HE.out]; exact hT, hb⟩

    · rw [Bool.not_eq_true] at hk
      obtain ⟨h65, hP⟩ := noKid_no h1 hk
      rw [hP] at hB
      subst hB
      have s1 : ((n : Int) == 1) = false := bno (by omega)
      obtain ⟨Q, hQ⟩ : ∃ Q, prB (facS n) = Q := ⟨_, rfl⟩
      have CF : Hid (∀ W, Calls Try.prog 70 #[.int .i64 n] W fun e w' => e = .returned (.bool Q) ∧ W = w') := fun W => by
        have := ref03_Prime n W h1 h2
        rwa [own_of_facts h1 h2 HSZ.out, hQ] at this
      obtain ⟨hr1, hr2⟩ := hrec hk
      cases Q with
      | true =>
        have HE : Hid (planF (f + 1) n = .node 6 n [planF f (n - 1)]) := planF_one hk hQ
        have hok := hr1 hQ
        obtain ⟨m, hm⟩ : ∃ m, n - 1 = m := ⟨_, rfl⟩
        rw [hm] at HE hok
        have e1 : (n : Int) - 1 = (m : Nat) := by omega
        have CI : Hid (∀ W, Calls Try.prog 33 #[.int .i64 m] W (GivesD (planF f m) W)) := fun W => IH.out m W hok
        have CO : Hid (∀ (k' n' : Int) (a' : Option Addr) (m' c' : Nat) (w : World), Calls Try.prog 83 #[.int .i64 6, .int .i64 n, .agg #[.int .i64 k', .int .i64 n', .slice a' m' c']] w fun e w' => ∃ b T, e = .returned (.agg #[.int .i64 6, .int .i64 n, .slice (some ⟨b, 0, none⟩) 1 1]) ∧ w.heap.size ≤ b ∧ w'.heap[b]? = some (.cells #[.int .i64 k', .int .i64 n', .slice a' m' c'] T (0, 0)) ∧ Below w.heap.size w w') := fun k' n' a' m' c' w => ref19_one 6 n k' n' a' m' c' w
        clear hr1 hr2 hrec hk hQ hP hok hm IH
        go_enter Try.func33, Try.ntmps33
        go_wp2_with fail
        refine (CP.out _).mono ?_; rintro e w0 ⟨rfl, rfl⟩
        go_wp2_with fail
        refine (CF.out _).mono ?_; rintro e w1 ⟨rfl, rfl⟩
        go_wp2_with fail
        refine (CI.out _).mono ?_; rintro e w2 ⟨k', n', a', m', c', rfl, hT, hb2⟩
        have HT2 := Lib.hid hT
        have HB2 := Lib.hid (chain HB0.out hb2)
        have X2 := Lib.hid ((hb2.block _ (block_lt X0.out)).trans X0.out)
        have HS2 := Lib.hid hb2.size
        clear hT hb2
        go_wp2_with fail
        refine (CO.out _ _ _ _ _ _).mono ?_; rintro e w4 ⟨g, T, rfl, hg, k4, hb4⟩
        have HB4 := Lib.hid (chain HB2.out hb4)
        have x4 := (hb4.block _ (block_lt X2.out)).trans X2.out
        have hT4 : IsT w4 (Since (w.heap.size + 1)) k' n' a' m' c' (planF f m) := (HT2.out.below hb4).mono fun b hb => by unfold Since at hb ⊢; have := hs0.out; omega
        obtain ⟨q0, q1, q2, g0, g1, g2⟩ := zfacts x4
        have hF : Since (w.heap.size + 1) g := by unfold Since; have := hs0.out; have := HS2.out; omega
        have hN := Lib.hid (isT_node (k := 6) (n := n) (by rw [fits_i64]; omega) (by rw [fits_i64]; omega) (by intro t ht; simp at ht; subst ht; exact hT4.ok) (kids_one hF k4 hT4))
        have X4 := Lib.hid x4
        clear x4 k4 hT4 hF hb4
        go_wp2_with fail
        obtain ⟨w', hw', hb, r0, r1, r2, hT⟩ := fin_node HB4.out X4.out hN.out
        simp only [List.length_singleton] at hw' r0 r1 r2 hT
        rw [hw']
        exact bodyPost_ret (v := .agg #[.int .i64 6, .int .i64 n, .slice (some ⟨g, 0, none⟩) 1 1]) (by simp [results, Try.results33, go_sem, r0, r1, r2]) rfl ⟨_, _, _, _, _, rfl, by rw [HE.out]; exact hT, hb⟩
      | false =>
        have HE : Hid (planF (f + 1) n = .node 4 n [planF f (lastP (facS n)), planF f (n / lastP (facS n))]) := planF_two hk hQ
        obtain ⟨hlen, hp1, hok1, hok2⟩ := hr2 hQ
        have CR : Hid (∀ W, Calls Try.prog 80 #[.int .i64 n] W fun e w' => ∃ v, e = .returned v ∧ w'.ownsRow W.heap.size 3 1 v (prs (facS n)).length (cellsNt (prs (facS n))) ∧ Below W.heap.size W w') := fun W => by
          have := ref03_Primes n W h1 h2
          rwa [fac_sz HSZ.out] at this
        obtain ⟨q, hq⟩ : ∃ q, (facS n).length = q + 1 := ⟨(facS n).length - 1, by omega⟩
        have HLC := Lib.hid (cellsNt_last (facS n) q hq)
        have hq6 : q ≤ 5 := by have := fac_few HSZ.out; omega
        have hq' : (prs (facS n)).length = q + 1 := by rw [← hq]; simp [prs]
        rw [hq'] at CR
        obtain ⟨ps, hps⟩ : ∃ ps, facS n = ps := ⟨_, rfl⟩
        rw [hps] at HE CR HLC hok1 hok2 hp1
        obtain ⟨p, hp⟩ : ∃ p, lastP ps = p := ⟨_, rfl⟩
        rw [hp] at HE HLC hok1 hok2 hp1
        have hpp : p ≤ 16777216 := by
          have := (hasSz_iff.1 (okF_sz hok1)).2.1
          omega
        have CT : Hid (∀ W, Calls Try.prog 81 #[.int .i64 4, .int .i64 n, .int .i64 p] W (GivesD (.node 4 n [planF f p, planF f (n / p)]) W)) := fun W => ref19_two 4 n p (n / p) W _ _ (by omega) h2 hp1 hpp rfl (fun W => IH.out p W hok1) (fun W => IH.out (n / p) W hok2)
        rw [← HE.out] at CT
        clear hr1 hr2 hrec hk hQ hP hok1 hok2 hps hp IH hlen hq hq' HE
        go_enter Try.func33, Try.ntmps33
        go_wp2_with fail
        refine (CP.out _).mono ?_; rintro e w0 ⟨rfl, rfl⟩
        go_wp2_with fail
        refine (CF.out _).mono ?_; rintro e w1 ⟨rfl, rfl⟩
        go_wp2_with fail
        refine (CR.out _).mono ?_; rintro e w2 ⟨v, rfl, hown, hb2⟩
        obtain ⟨a, cap, rfl, hcap, hg⟩ := own_slice2 hown
        obtain ⟨g, rfl⟩ := hg (by omega)
        have hc : w2.cell? ⟨g, q, none⟩ = some (.int .i64 (p : Int)) := (hown.cellAt q (by omega)).trans HLC.out
        have HB2 := Lib.hid (chain HB0.out hb2)
        have X2 := Lib.hid ((hb2.block _ (block_lt X0.out)).trans X0.out)
        have HS2 : Hid (w.heap.size + 1 ≤ w2.heap.size) := by have := hs0.out; have := hb2.size; unfold Hid; omega
        clear hb2 hown
        go_wp2_with fail
        refine (CT.out _).mono ?_; rintro e w4 ⟨k4, n4, a4, m4, c4, rfl, hT4, hb4⟩
        have HB4 := Lib.hid (chain HB2.out hb4)
        have x4 := (hb4.block _ (block_lt X2.out)).trans X2.out
        have HT4 := Lib.hid (hT4.mono (G := Since (w.heap.size + 1)) fun b hb => by unfold Since at hb ⊢; have := HS2.out; omega)
        obtain ⟨q0, q1, q2, g0, g1, g2⟩ := zfacts x4
        have X4 := Lib.hid x4
        clear x4 hT4 hb4
        go_wp2_with fail
        obtain ⟨w', hw', hb, r0, r1, r2, hT⟩ := fin_node HB4.out X4.out HT4.out
        rw [hw']
        exact bodyPost_ret (v := .agg #[.int .i64 k4, .int .i64 n4, .slice a4 m4 c4]) (by simp [results, Try.results33, go_sem, r0, r1, r2]) rfl ⟨_, _, _, _, _, rfl, hT, hb⟩
end Go.Proofs.Ytncikklhchimdaa
