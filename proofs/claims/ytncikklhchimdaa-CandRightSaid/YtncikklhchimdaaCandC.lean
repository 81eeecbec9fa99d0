/- Plans that are worth a trial: the reference's primes, how often; the plan without a choice. -/
import Derived.Test.YtncikklhchimdaaCandB
import Derived.Test.YtncikklhchimdaaPow
namespace Go.Proofs.Ytncikklhchimdaa
open Go.RowKit
set_option linter.unusedVariables false
set_option linter.unusedSimpArgs false
set_option maxRecDepth 100000
set_option maxRecDepth 20000

/-! ### Primes -/
def cellsNt (xs : List Nat) : List Value := xs.map fun x : Nat => Value.int .i64 (x : Int)
theorem cellsNt_snoc (xs : List Nat) (x : Nat) : cellsNt (xs ++ [x]) = cellsNt xs ++ [.int .i64 x] := by simp [cellsNt]
def prs (ps : List (Nat × Nat)) : List Nat := ps.map Prod.fst

set_option maxHeartbeats 2000000 in
theorem ref03_Primes (N : Nat) (w : World) (h1 : 1 ≤ N) (h2 : N ≤ 16777216) :
    Calls Try.prog 80 #[.int .i64 N] w fun e w' => ∃ v, e = .returned v ∧ w'.ownsRow w.heap.size 3 1 v (prs (facL N)).length (cellsNt (prs (facL N))) ∧ Below w.heap.size w w' := by
  obtain ⟨i0, hi, hz0, hz1, hz2⟩ := info_parts info_int
  obtain ⟨PS, hPS⟩ : ∃ PS, prs (facL N) = PS := ⟨_, rfl⟩
  rw [hPS]
  have HPS := Lib.hid hPS
  clear hPS
  go_enter Try.func80, Try.ntmps80
  go_wp2_with fail
  go_loopw [0, 3, 4] (fun n v d wr => ∃ (n0 d0 : Nat) (acc : List Nat), 1 ≤ n0 ∧ n0 ≤ 16777216 ∧ 2 ≤ d0 ∧ d0 ≤ 4097 ∧ n = .int .i64 n0 ∧ d = .int .i64 d0 ∧ acc.length ≤ d0 ∧ Hid (acc ++ prs (facF (5000 - d0) d0 n0) = PS) ∧ Hid (wr.ownsRow w.heap.size 3 1 v acc.length (cellsNt acc)) ∧ Below w.heap.size w wr) (fun _ _ d _ => 5000 - (intOf d).toNat)
  case atStart => exact ⟨N, 2, [], h1, h2, by omega, by omega, rfl, rfl, by simp, HPS.out, World.ownsRow_nil _ _ _ _, Below.refl _ _⟩
  case round =>
    obtain ⟨n, d, acc, hn1, hn2, hd1, hd2, rfl, rfl, hal, HF, HO, hbel⟩ := hrel
    obtain ⟨q, hq⟩ : ∃ q, d * d = q := ⟨_, rfl⟩
    have eq1 : (d : Int) * (d : Int) = (q : Int) := by rw [← hq]; simp
    have hq9 : q ≤ 4097 * 4097 := by rw [← hq]; exact Nat.mul_le_mul hd2 hd2
    have hq4 : 4 ≤ q := by rw [← hq]; exact Nat.mul_le_mul hd1 hd1
    have hbs := hbel.size
    by_cases hn : 1 < n
    · by_cases hle : q ≤ n
      · have hd3 : d ≤ 4096 := by
          by_cases h : d ≤ 4096
          · exact h
          · have := Nat.mul_le_mul (show 4097 ≤ d by omega) (show 4097 ≤ d by omega)
            omega
        have HQ := Lib.hid hq
        clear hq
        have hS : Hid (∃ m e, stripF 25 d n 0 = (m, e)) := ⟨_, _, rfl⟩
        obtain ⟨M, E, hs⟩ := hS.out
        have hst := stripF_le 25 d n 0 hd1 hn1
        rw [hs] at hst
        obtain ⟨g1, g2, g3, g4⟩ := hst
        have HUN := Lib.hid (fac_unfold_le (n := n) hd2 (by rw [HQ.out]; exact hle) hs)
        have e1 : (n : Int).tmod (d : Int) = ((n % d : Nat) : Int) := by rw [Int.tmod_eq_emod_of_nonneg (by omega), Int.natCast_emod]
        have e2 : (n : Int) % (d : Int) = ((n % d : Nat) : Int) := by rw [← Int.natCast_emod]
        obtain ⟨r, hr⟩ : ∃ r, n % d = r := ⟨_, rfl⟩
        rw [hr] at e1 e2
        have z1 : ((d : Int) == 0) = false := bno (by omega)
        have z2 : ¬ (d : Int) = 0 := by omega
        have hE : (r = 0 ∧ 1 ≤ E) ∨ (r ≠ 0 ∧ E = 0) := by
          by_cases h0 : r = 0
          · refine .inl ⟨h0, ?_⟩
            have := stripF_le 24 d (n / d) 1 hd1 (Nat.div_pos (Nat.le_of_dvd hn1 (Nat.dvd_of_mod_eq_zero (by rw [hr]; exact h0))) (by omega))
            have e : stripF 25 d n 0 = stripF 24 d (n / d) 1 := by rw [stripF, if_pos (by rw [hr]; exact h0)]
            rw [← e, hs] at this
            exact this.2.2.1
          · refine .inr ⟨h0, ?_⟩
            have e : stripF 25 d n 0 = (n, 0) := by rw [stripF, if_neg (by rw [hr]; exact h0)]
            rw [hs] at e
            exact (Prod.mk.inj e).2
        have HS := Lib.hid hs
        have HR := Lib.hid hr
        clear hs hS g4 hr
        rcases hE with ⟨h0, hE1⟩ | ⟨h0, hE0⟩
        · subst h0
          have hown := HO.out
          go_wp2_with (at_builtin; refine wpList_append_own _ rfl _ _ 25 rfl w.heap.size 3 i0 (.int .i64 0) 1 8 Try.underlying25 hi hz0 hz1 hz2 rfl (by decide) _ acc.length (cellsNt acc) rfl (hown.alloc _) ⟨wr.heap.size, 0, none⟩ 1 1 [.int .i64 d] rfl rfl (cell_one_new _ _ _) (one_cell _ _) (by unfold maxLen; omega) (by omega) (by simp; omega) ?_)
          intro v' w2 hown2 hgrow _
          have HOW : Hid (w2.ownsRow w.heap.size 3 1 v' (acc ++ [d]).length (cellsNt (acc ++ [d]))) := by unfold Hid; rw [cellsNt_snoc, List.length_append, List.length_singleton]; exact hown2
          have HB4 := Lib.hid (below_grown hbel hbs (own_lt3 hown) hgrow)
          have hlen : (acc ++ [d]).length ≤ d + 1 := by simp; omega
          have HF2 : Hid ((acc ++ [d]) ++ prs (facF (5000 - (d + 1)) (d + 1) M) = PS) := by
            unfold Hid; have := HF.out; rw [HUN.out, if_neg (by omega)] at this
            rw [List.append_assoc]; exact this
          obtain ⟨acc2, hacc2⟩ : ∃ x, acc ++ [d] = x := ⟨_, rfl⟩
          rw [hacc2] at HOW hlen HF2
          clear hown hown2 hgrow hacc2 e1 e2 hbel hbs HF HO hal
          obtain ⟨wo, rfl⟩ : ∃ wo : World, wo = wr := ⟨_, rfl⟩
          go_wp2_with fail
          go_loopw [0] (fun m wi => ∃ (m0 e0 : Nat), m = .int .i64 m0 ∧ 1 ≤ m0 ∧ m0 ≤ n ∧ e0 ≤ 24 ∧ Hid (m0 * 2 ^ e0 ≤ 16777216) ∧ Hid (stripF (25 - e0) d m0 e0 = (M, E)) ∧ wi = w2) (fun m _ => (intOf m).toNat)
          case atStart => exact ⟨n, 0, rfl, hn1, Nat.le_refl _, by omega, by unfold Hid; omega, HS.out, rfl⟩
          case round =>
            obtain ⟨m, e, rfl, hm1, hmn, he24, HB, HR2, rfl⟩ := hrel
            have e1 : (m : Int).tmod (d : Int) = ((m % d : Nat) : Int) := by rw [Int.tmod_eq_emod_of_nonneg (by omega), Int.natCast_emod]
            have e2 : (m : Int) % (d : Int) = ((m % d : Nat) : Int) := by rw [← Int.natCast_emod]
            obtain ⟨r, hr⟩ : ∃ r, m % d = r := ⟨_, rfl⟩
            rw [hr] at e1 e2
            by_cases h0 : r = 0
            · have e3 : (m : Int).tdiv (d : Int) = ((m / d : Nat) : Int) := by rw [Int.tdiv_eq_ediv_of_nonneg (by omega), Int.natCast_ediv]
              have e4 : (m : Int) / (d : Int) = ((m / d : Nat) : Int) := by rw [← Int.natCast_ediv]
              have hst := strip_step hd1 (by rw [hr]; exact h0) hm1 HB.out
              have hlt : m / d < m := Nat.div_lt_self (by omega) (by omega)
              have hfew := strip_few hst.1 hst.2.1
              obtain ⟨p, hp⟩ : ∃ p, m / d = p := ⟨_, rfl⟩
              have HR3 : Hid (stripF (25 - (e + 1)) d p (e + 1) = (M, E)) := by
                unfold Hid
                have := HR2.out
                rw [show 25 - e = (25 - (e + 1)) + 1 by omega, stripF, if_pos (by rw [hr]; exact h0), hp] at this
                exact this
              rw [hp] at e3 e4 hst hlt
              obtain ⟨g1, g2, g3⟩ := hst
              have G2 := Lib.hid g2
              clear hr hp g2
              subst h0
              go_wp2_with fail
              go_roundw
              case rel => exact ⟨p, e + 1, rfl, g1, by omega, by omega, G2.out, HR3.out, by first | rfl | trivial⟩
              case measure => simp [intOf]; omega
            · have hME : (m, e) = (M, E) := by
                have := HR2.out
                rw [show 25 - e = (24 - e) + 1 by omega, stripF, if_neg (by rw [hr]; exact h0)] at this
                exact this
              simp only [Prod.mk.injEq] at hME
              obtain ⟨rfl, rfl⟩ := hME
              have h0' : ((r : Int) == 0) = false := bno (by omega)
              clear hr
              go_wp2_with fail
              go_roundw
              case rel => exact ⟨m, d + 1, acc2, hm1, by omega, by omega, by omega, rfl, by go_num, hlen, HF2.out, HOW.out, HB4.out⟩
              case measure => simp [intOf]; omega
        · have h0' : ((r : Int) == 0) = false := bno (by omega)
          subst hE0
          obtain rfl : M = n := by
            have := HS.out
            rw [stripF, if_neg (by rw [HR.out]; exact h0)] at this
            exact (Prod.mk.inj this).1.symm
          have HF2 : Hid (acc ++ prs (facF (5000 - (d + 1)) (d + 1) M) = PS) := by
            unfold Hid; have := HF.out; rw [HUN.out, if_pos rfl] at this; exact this
          go_wp2_with fail
          go_loopw [0] (fun m wi => m = .int .i64 M ∧ wi = wr) (fun _ _ => 0)
          case atStart => exact ⟨rfl, rfl⟩
          case round =>
            obtain ⟨rfl, rfl⟩ := hrel
            go_wp2_with fail
            go_roundw
            case rel => exact ⟨M, d + 1, acc, hn1, hn2, by omega, by omega, rfl, by go_num, by omega, HF2.out, HO.out, hbel⟩
            case measure => simp [intOf]; omega
      · have HUN := Lib.hid (fac_unfold_gt (n := n) hd2 (by rw [hq]; exact hle))
        clear hq
        have hown := HO.out
        have HN := Lib.hid hn
        go_wp2_with (at_builtin; refine wpList_append_own _ rfl _ _ 25 rfl w.heap.size 3 i0 (.int .i64 0) 1 8 Try.underlying25 hi hz0 hz1 hz2 rfl (by decide) _ acc.length (cellsNt acc) rfl (hown.alloc _) ⟨wr.heap.size, 0, none⟩ 1 1 [.int .i64 n] rfl rfl (cell_one_new _ _ _) (one_cell _ _) (by unfold maxLen; omega) (by omega) (by simp; omega) ?_)
        intro v' w2 hown2 hgrow _
        have HPE : Hid (acc ++ [n] = PS) := by have := HF.out; rw [HUN.out, if_pos hn] at this; exact this
        have HOW : Hid (w2.ownsRow w.heap.size 3 1 v' PS.length (cellsNt PS)) := by unfold Hid; rw [← HPE.out, cellsNt_snoc, List.length_append, List.length_singleton]; exact hown2
        have hb4 : Below w.heap.size w w2 := below_grown hbel hbs (own_lt3 hown) hgrow
        clear hown hown2 hgrow
        go_wp2_with fail
        go_ret
        exact ⟨_, rfl, HOW.out, hb4⟩
    · obtain rfl : n = 1 := by omega
      have HUN := Lib.hid (fac_unfold_gt (n := 1) hd2 (by rw [hq]; omega))
      have HPE : Hid (acc = PS) := by unfold Hid; have := HF.out; rw [HUN.out, if_neg (by omega)] at this; simpa [prs] using this
      have HOW := HO.out
      rw [HPE.out] at HOW
      have HOW := Lib.hid HOW
      clear hq
      go_wp2_with fail
      go_ret
      exact ⟨_, rfl, HOW.out, hbel⟩


set_option maxHeartbeats 1000000 in
/-- How often d divides n. -/
theorem ref03_Times (d n : Nat) (w : World) (hd : 2 ≤ d) (hd2 : d ≤ 16777216) (h1 : 1 ≤ n) (h2 : n ≤ 16777216) :
    Calls Try.prog 82 #[.int .i64 d, .int .i64 n] w fun e w' => e = .returned (.int .i64 ((stripF 25 d n 0).2 : Nat)) ∧ w = w' := by
  have hS : Hid (∃ m e, stripF 25 d n 0 = (m, e)) := ⟨_, _, rfl⟩
  obtain ⟨M, E, hs⟩ := hS.out
  rw [hs]
  have HS := Lib.hid hs
  clear hs hS
  have z1 : ((d : Int) == 0) = false := bno (by omega)
  have z2 : ¬ (d : Int) = 0 := by omega
  go_enter Try.func82, Try.ntmps82
  go_wp2_with fail
  go_loopw [1, 5] (fun m k wi => ∃ (m0 e0 : Nat), m = .int .i64 m0 ∧ k = .int .i64 e0 ∧ 1 ≤ m0 ∧ m0 ≤ n ∧ e0 ≤ 24 ∧ Hid (m0 * 2 ^ e0 ≤ 16777216) ∧ Hid (stripF (25 - e0) d m0 e0 = (M, E)) ∧ wi = w) (fun m _ _ => (intOf m).toNat)
  case atStart => exact ⟨n, 0, rfl, rfl, h1, Nat.le_refl _, by omega, by unfold Hid; omega, HS.out, rfl⟩
  case round =>
    obtain ⟨m, e, rfl, rfl, hm1, hmn, he24, HB, HR2, rfl⟩ := hrel
    have e1 : (m : Int).tmod (d : Int) = ((m % d : Nat) : Int) := by rw [Int.tmod_eq_emod_of_nonneg (by omega), Int.natCast_emod]
    have e2 : (m : Int) % (d : Int) = ((m % d : Nat) : Int) := by rw [← Int.natCast_emod]
    obtain ⟨r, hr⟩ : ∃ r, m % d = r := ⟨_, rfl⟩
    rw [hr] at e1 e2
    by_cases h0 : r = 0
    · have e3 : (m : Int).tdiv (d : Int) = ((m / d : Nat) : Int) := by rw [Int.tdiv_eq_ediv_of_nonneg (by omega), Int.natCast_ediv]
      have e4 : (m : Int) / (d : Int) = ((m / d : Nat) : Int) := by rw [← Int.natCast_ediv]
      have hst := strip_step hd (by rw [hr]; exact h0) hm1 HB.out
      have hlt : m / d < m := Nat.div_lt_self (by omega) (by omega)
      have hfew := strip_few hst.1 hst.2.1
      obtain ⟨p, hp⟩ : ∃ p, m / d = p := ⟨_, rfl⟩
      have HR3 : Hid (stripF (25 - (e + 1)) d p (e + 1) = (M, E)) := by
        unfold Hid
        have := HR2.out
        rw [show 25 - e = (25 - (e + 1)) + 1 by omega, stripF, if_pos (by rw [hr]; exact h0), hp] at this
        exact this
      rw [hp] at e3 e4 hst hlt
      obtain ⟨g1, g2, g3⟩ := hst
      have G2 := Lib.hid g2
      clear hr hp g2
      subst h0
      go_wp2_with fail
      go_roundw
      case rel => exact ⟨p, e + 1, rfl, by go_num, g1, by omega, by omega, G2.out, HR3.out, by first | rfl | trivial⟩
      case measure => simp [intOf]; omega
    · have hME : (m, e) = (M, E) := by
        have := HR2.out
        rw [show 25 - e = (24 - e) + 1 by omega, stripF, if_neg (by rw [hr]; exact h0)] at this
        exact this
      simp only [Prod.mk.injEq] at hME
      obtain ⟨rfl, rfl⟩ := hME
      have h0' : ((r : Int) == 0) = false := bno (by omega)
      clear hr
      go_wp2_with fail
      go_ret
      exact ⟨rfl, by first | rfl | trivial⟩
end Go.Proofs.Ytncikklhchimdaa
