/- Contracts: the primes that divide a number; is it a prime. -/
import Derived.Test.YtncikklhchimdaaFactL
import Derived.Test.YtncikklhchimdaaSzC
import Derived.Test.YtncikklhchimdaaTreeE
namespace Go.Proofs.Ytncikklhchimdaa
open Go.RowKit
set_option linter.unusedVariables false
set_option linter.unusedSimpArgs false
set_option maxRecDepth 100000

theorem there_yes (n : Nat) (w : World) (h1 : 1 ≤ n) (h2 : n ≤ 16777216) :
    Calls Try.prog 111 #[.int .i64 n] w fun e w' => e = .returned (.bool true) ∧ w = w' := by
  go_enter Try.func111, Try.ntmps111
  go_wp2_with fail
  go_ret
  exact ⟨ret_bool (by simp; omega), rfl⟩
theorem there_no (n : Int) (w : World) (h : n < 1 ∨ 16777216 < n) :
    Calls Try.prog 111 #[.int .i64 n] w fun e w' => e = .returned (.bool false) ∧ w = w' := by
  by_cases h1 : n < 1
  · clear h
    go_enter Try.func111, Try.ntmps111
    go_wp2_with fail
    go_ret
    exact ⟨ret_bool (by simp; try omega), rfl⟩
  · have h2 : 16777216 < n := by omega
    clear h
    go_enter Try.func111, Try.ntmps111
    go_wp2_with fail
    go_ret
    exact ⟨ret_bool (by simp; try omega), rfl⟩

theorem info_power : (Try.prog.info? 103).map (fun i => (i.zero, i.size, i.bytes)) = some (some (.agg #[.int .i64 0, .int .i64 0]), 2, 16) := by kernel_rfl
theorem cell_two_new (w : World) (x y : Value) (t : TypeId) : ∀ j u, [x, y][j]? = some u → (w.alloc (.cells #[x, y] t)).cell? ((⟨w.heap.size, 0, none⟩ : Addr).add j) = some u := by
  intro j u hj
  match j, hj with
  | 0, hj => simp at hj; subst hj; simp [Addr.add]
  | 1, hj => simp at hj; subst hj; simp [Addr.add]
theorem one_two (x y : Int) : ∀ u ∈ [Value.int .i64 x, Value.int .i64 y], u.oneCell' = true := by
  intro u hu
  simp at hu
  rcases hu with rfl | rfl <;> rfl

/-- A result: a new row that reads as the pairs; no error. -/
def GivesP (ps : List (Nat × Nat)) (w : World) (e : Ending) (w' : World) : Prop :=
  ∃ v, e = .returned (.tuple #[v, .int .i64 0]) ∧ w'.ownsRow w.heap.size 103 2 v ps.length (cellsP ps) ∧ Below w.heap.size w w'

theorem fac_unfold_le {d n m e : Nat} (hd : d ≤ 4097) (h : d * d ≤ n) (hs : stripF 25 d n 0 = (m, e)) : facF (5000 - d) d n = if e = 0 then facF (5000 - (d + 1)) (d + 1) m else (d, e) :: facF (5000 - (d + 1)) (d + 1) m := by
  rw [show 5000 - d = (5000 - (d + 1)) + 1 by omega, facF, if_pos h, hs]
theorem fac_unfold_gt {d n : Nat} (hd : d ≤ 4097) (h : ¬ d * d ≤ n) : facF (5000 - d) d n = if 1 < n then [(n, 1)] else [] := by
  rw [show 5000 - d = (5000 - (d + 1)) + 1 by omega, facF, if_neg h]

set_option maxHeartbeats 4000000 in
theorem fact_Factors (N : Nat) (w : World) (h1 : 1 ≤ N) (h2 : N ≤ 16777216) :
    Calls Try.prog 101 #[.int .i64 N] w (GivesP (facL N) w) := by
  obtain ⟨i0, hi, hz0, hz1, hz2⟩ := info_parts info_power
  obtain ⟨PS, hPS⟩ : ∃ PS, facL N = PS := ⟨_, rfl⟩
  rw [hPS]
  have HPS := Lib.hid hPS
  clear hPS
  go_enter Try.func101, Try.ntmps101
  go_wp2_with fail
  go_step3
  go_wp2_with fail
  refine (there_yes N _ h1 h2).mono ?_; rintro e w' ⟨rfl, rfl⟩
  go_wp2_with fail
  go_step3
  go_wp2_with fail
  go_loopw [0, 4, 5] (fun n v d wr => ∃ (n0 d0 : Nat) (acc : List (Nat × Nat)), 1 ≤ n0 ∧ n0 ≤ 16777216 ∧ 2 ≤ d0 ∧ d0 ≤ 4097 ∧ n = .int .i64 n0 ∧ d = .int .i64 d0 ∧ acc.length ≤ d0 ∧ Hid (acc ++ facF (5000 - d0) d0 n0 = PS) ∧ Hid (wr.ownsRow w.heap.size 103 2 v acc.length (cellsP acc)) ∧ Below w.heap.size w wr) (fun _ _ d _ => 5000 - (intOf d).toNat)
  case atStart => exact ⟨N, 2, [], h1, h2, by omega, by omega, rfl, rfl, by simp, HPS.out, World.ownsRow_nil _ _ _ _, Below.refl _ _⟩
  case round =>
    obtain ⟨n, d, acc, hn1, hn2, hd1, hd2, rfl, rfl, hal, HF, HO, hbel⟩ := hrel
    obtain ⟨q, hq⟩ : ∃ q, d * d = q := ⟨_, rfl⟩
    have eq1 : (d : Int) * (d : Int) = (q : Int) := by rw [← hq]; simp
    have hq9 : q ≤ 4097 * 4097 := by rw [← hq]; exact Nat.mul_le_mul hd2 hd2
    by_cases hle : q ≤ n
    · have hd3 : d ≤ 4096 := by
        by_cases h : d ≤ 4096
        · exact h
        · have := Nat.mul_le_mul (show 4097 ≤ d by omega) (show 4097 ≤ d by omega)
          omega
      have HQ := Lib.hid hq
      clear hq
      obtain ⟨wo, rfl⟩ : ∃ wo : World, wo = wr := ⟨_, rfl⟩
      have hS : Hid (∃ m e, stripF 25 d n 0 = (m, e)) := ⟨_, _, rfl⟩
      obtain ⟨M, E, hs⟩ := hS.out
      have HS := Lib.hid hs
      clear hs hS
      have hbs := hbel.size
      go_wp2_with fail
      clear eq1
      go_loopw [0] (fun m wi => ∃ (m0 e0 : Nat), m = .int .i64 m0 ∧ 1 ≤ m0 ∧ m0 ≤ n ∧ e0 ≤ 24 ∧ Hid (m0 * 2 ^ e0 ≤ 16777216) ∧ Hid (stripF (25 - e0) d m0 e0 = (M, E)) ∧ Hid (wi.heap[wo.heap.size]? = some (.cells #[.int .i64 d, .int .i64 e0] 103 (0, 0))) ∧ Below wo.heap.size wo wi) (fun m _ => (intOf m).toNat)
      case atStart => exact ⟨n, 0, rfl, hn1, Nat.le_refl _, by omega, by unfold Hid; omega, HS.out, block_new rfl, (Below.refl _ _).alloc (Nat.le_refl _) _⟩
      case round =>
        obtain ⟨m, e, rfl, hm1, hmn, he24, HB, HR, HX, hbi⟩ := hrel
        have e1 : (m : Int).tmod (d : Int) = ((m % d : Nat) : Int) := by rw [Int.tmod_eq_emod_of_nonneg (by omega), Int.natCast_emod]
        have e2 : (m : Int) % (d : Int) = ((m % d : Nat) : Int) := by rw [← Int.natCast_emod]
        obtain ⟨r, hr⟩ : ∃ r, m % d = r := ⟨_, rfl⟩
        rw [hr] at e1 e2
        have z1 : ((d : Int) == 0) = false := bno (by omega)
        have z2 : ¬ (d : Int) = 0 := by omega
        by_cases h0 : r = 0
        · have HR0 := Lib.hid hr
          have e3 : (m : Int).tdiv (d : Int) = ((m / d : Nat) : Int) := by rw [Int.tdiv_eq_ediv_of_nonneg (by omega), Int.natCast_ediv]
          have e4 : (m : Int) / (d : Int) = ((m / d : Nat) : Int) := by rw [← Int.natCast_ediv]
          have hst := strip_step hd1 (by rw [hr]; exact h0) hm1 HB.out
          have hlt : m / d < m := Nat.div_lt_self (by omega) (by omega)
          have hfew := strip_few hst.1 hst.2.1
          obtain ⟨p, hp⟩ : ∃ p, m / d = p := ⟨_, rfl⟩
          have HR2 : Hid (stripF (25 - (e + 1)) d p (e + 1) = (M, E)) := by
            unfold Hid
            have := HR.out
            rw [show 25 - e = (25 - (e + 1)) + 1 by omega, stripF, if_pos (by rw [hr]; exact h0), hp] at this
            exact this
          rw [hp] at e3 e4 hst hlt
          obtain ⟨g1, g2, g3⟩ := hst
          have G2 := Lib.hid g2
          clear hr hp g2
          subst h0
          have c1 : wr.cell? ⟨wo.heap.size, 1, none⟩ = some (.int .i64 (e : Int)) := block_cell HX.out 1
          have f1 : wr.frozen? ⟨wo.heap.size, 1, none⟩ = false := block_free HX.out 1
          have hset : (wr.setCell ⟨wo.heap.size, 1, none⟩ (.int .i64 ((e : Int) + 1))).heap[wo.heap.size]? = some (.cells #[.int .i64 d, .int .i64 ((e : Int) + 1)] 103 (0, 0)) := block_set HX.out 1 _
          have HSET := Lib.hid hset
          have hbi2 := Lib.hid (hbi.setCell (p := ⟨wo.heap.size, 1, none⟩) (Nat.le_refl _) (.int .i64 ((e : Int) + 1)))
          clear hset
          go_wp2_with fail
          go_roundw
          case rel => exact ⟨p, e + 1, rfl, g1, by omega, by omega, G2.out, HR2.out, HSET.out, hbi2.out⟩
          case measure => simp [intOf]; omega
        · have hME : (m, e) = (M, E) := by
            have := HR.out
            rw [show 25 - e = (24 - e) + 1 by omega, stripF, if_neg (by rw [hr]; exact h0)] at this
            exact this
          simp only [Prod.mk.injEq] at hME
          obtain ⟨rfl, rfl⟩ := hME
          have h0' : ((r : Int) == 0) = false := bno (by omega)
          have HUN := Lib.hid (fac_unfold_le (n := n) hd2 (by rw [HQ.out]; exact hle) HS.out)
          have hown := own_later3 HO.out hbi
          have c0 : wr.cell? ⟨wo.heap.size, 0, none⟩ = some (.int .i64 (d : Int)) := block_cell HX.out 0
          have c1 : wr.cell? ⟨wo.heap.size, 1, none⟩ = some (.int .i64 (e : Int)) := block_cell HX.out 1
          have hb3 := chain hbel hbi
          have hbs3 := hb3.size
          have HME : Hid (m % d ≠ 0) := by unfold Hid; rw [hr]; exact h0
          clear hr
          by_cases he : e = 0
          · have t1 : ((e : Int) == 0) = true := btrue (by omega)
            have HE := Lib.hid he
            have HOW := Lib.hid hown
            clear he hown
            go_wp2_with fail
            go_roundw
            case rel => exact ⟨m, d + 1, acc, hm1, by omega, by omega, by omega, rfl, by go_num, by omega, by have := HF.out; rw [HUN.out, if_pos HE.out] at this; exact this, HOW.out, hb3⟩
            case measure => simp [intOf]; omega
          · have t1 : ((e : Int) == 0) = false := bno (by omega)
            have HE := Lib.hid he
            clear he
            go_wp2_with (at_builtin; refine wpList_append_own _ rfl _ _ 99 rfl w.heap.size 103 i0 (.agg #[.int .i64 0, .int .i64 0]) 2 16 Try.underlying99 hi hz0 hz1 hz2 rfl (by decide) _ acc.length (cellsP acc) rfl (hown.alloc _) ⟨wr.heap.size, 0, none⟩ 1 1 [.int .i64 d, .int .i64 e] rfl rfl (cell_two_new _ _ _ _) (one_two _ _) (by unfold maxLen; omega) (by omega) (by simp; omega) ?_)
            intro v' w2 hown2 hgrow _
            have HOW : Hid (w2.ownsRow w.heap.size 103 2 v' (acc ++ [(d, e)]).length (cellsP (acc ++ [(d, e)]))) := by unfold Hid; rw [cellsP_snoc, List.length_append, List.length_singleton]; exact hown2
            have hb4 : Below w.heap.size w w2 := below_grown hb3 hbs3 (own_lt3 hown) hgrow
            have hlen : (acc ++ [(d, e)]).length ≤ d + 1 := by simp; omega
            clear hown hown2 hgrow
            go_wp2_with fail
            go_roundw
            case rel => exact ⟨m, d + 1, acc ++ [(d, e)], hm1, by omega, by omega, by omega, rfl, by go_num, hlen, by have := HF.out; rw [HUN.out, if_neg HE.out] at this; unfold Hid; rw [List.append_assoc]; exact this, HOW.out, hb4⟩
            case measure => simp [intOf]; omega
    · have HUN := Lib.hid (fac_unfold_gt (n := n) hd2 (by rw [hq]; exact hle))
      have hbs := hbel.size
      clear hq
      by_cases hn : 1 < n
      · have hown := HO.out
        have HN := Lib.hid hn
        go_wp2_with (at_builtin; refine wpList_append_own _ rfl _ _ 99 rfl w.heap.size 103 i0 (.agg #[.int .i64 0, .int .i64 0]) 2 16 Try.underlying99 hi hz0 hz1 hz2 rfl (by decide) _ acc.length (cellsP acc) rfl (hown.alloc _) ⟨wr.heap.size, 0, none⟩ 1 1 [.int .i64 n, .int .i64 1] rfl rfl (cell_two_new _ _ _ _) (one_two _ _) (by unfold maxLen; omega) (by omega) (by simp; omega) ?_)
        intro v' w2 hown2 hgrow _
        have HPE : Hid (acc ++ [(n, 1)] = PS) := by have := HF.out; rw [HUN.out, if_pos hn] at this; exact this
        have HOW : Hid (w2.ownsRow w.heap.size 103 2 v' PS.length (cellsP PS)) := by unfold Hid; rw [← HPE.out, cellsP_snoc, List.length_append, List.length_singleton]; exact hown2
        have hb4 : Below w.heap.size w w2 := below_grown hbel hbs (own_lt3 hown) hgrow
        clear hown hown2 hgrow
        go_wp2_with fail
        rw [Exit.noGoto_ret]
        go_ret2
        exact ⟨v', rfl, HOW.out, hb4⟩
      · have HPE : Hid (acc = PS) := by have := HF.out; rw [HUN.out, if_neg hn, List.append_nil] at this; exact this
        have HOW := HO.out
        rw [HPE.out] at HOW
        have HOW := Lib.hid HOW
        go_wp2_with fail
        rw [Exit.noGoto_ret]
        go_ret2
        exact ⟨_, rfl, HOW.out, hbel⟩
theorem fact_Factors_no (n : Int) (w : World) (h : n < 1 ∨ 16777216 < n) :
    Calls Try.prog 101 #[.int .i64 n] w fun e w' => e = .returned (.tuple #[.slice none 0 0, .int .i64 3]) ∧ w = w' := by
  have C1 : Hid (∀ W, Calls Try.prog 111 #[.int .i64 n] W fun e w' => e = .returned (.bool false) ∧ W = w') := fun W => there_no n W h
  clear h
  go_enter Try.func101, Try.ntmps101
  go_wp2_with fail
  go_step3
  go_wp2_with fail
  refine (C1.out _).mono ?_; rintro e w' ⟨rfl, rfl⟩
  go_wp2_with fail
  rw [Exit.noGoto_ret]
  go_ret2
  exact ⟨rfl, rfl⟩

theorem own_slice2 {w : World} {B : Nat} {e : TypeId} {v : Value} {n s : Nat} {xs : List Value} (h : w.ownsRow B e s v n xs) : ∃ a cap, v = .slice a n cap ∧ OkCap a n cap ∧ (0 < n → ∃ g, a = some ⟨g, 0, none⟩) := by
  rcases h.2 with ⟨rfl, h0⟩ | ⟨g, cap, cur, rfl, _, _, hc, _⟩
  · exact ⟨none, 0, by rw [h0], ⟨by omega, fun _ => rfl⟩, fun h => by omega⟩
  · exact ⟨_, _, rfl, ⟨hc, fun h => by cases h⟩, fun _ => ⟨g, rfl⟩⟩

set_option maxHeartbeats 1000000 in
theorem fact_Prime (n : Int) (w : World) (hn : -9223372036854775808 ≤ n ∧ n < 9223372036854775808) :
    Calls Try.prog 64 #[.int .i64 n] w fun e w' => e = .returned (.bool (isPr n)) ∧ Below w.heap.size w w' := by
  by_cases h : n < 1 ∨ 16777216 < n
  · have C1 : Hid (∀ W, Calls Try.prog 101 #[.int .i64 n] W fun e w' => e = .returned (.tuple #[.slice none 0 0, .int .i64 3]) ∧ W = w') := fun W => fact_Factors_no n W h
    have HP : Hid (isPr n = false) := by unfold Hid isPr; rw [show decide (1 ≤ n ∧ n ≤ 16777216) = false by simp; omega, Bool.false_and]
    clear h
    go_enter Try.func64, Try.ntmps64
    go_wp2_with fail
    refine (C1.out _).mono ?_; rintro e w' ⟨rfl, rfl⟩
    go_wp2_with fail
    go_ret
    exact ⟨ret_bool HP.out.symm, Below.refl _ _⟩
  · obtain ⟨N, rfl⟩ := Int.eq_ofNat_of_zero_le (show 0 ≤ n by omega)
    have C1 := Lib.hid (fact_Factors N w (by omega) (by omega))
    have HP := Lib.hid (isPr_nat N (by omega) (by omega))
    obtain ⟨ps, hps⟩ : ∃ ps, facL N = ps := ⟨_, rfl⟩
    rw [hps] at C1 HP
    clear hps h hn
    go_enter Try.func64, Try.ntmps64
    go_wp2_with fail
    refine C1.out.mono ?_; rintro e w1 ⟨v, rfl, hown, hb⟩
    obtain ⟨a, cap, rfl, hcap, hg⟩ := own_slice2 hown
    match ps, hg, hown, HP with
    | [], hg, hown, HP =>
      clear hown hg
      go_wp2_with fail
      go_ret
      exact ⟨ret_bool (by rw [HP.out]; rfl), hb⟩
    | [(p, x)], hg, hown, HP =>
      obtain ⟨g, rfl⟩ := hg (by simp)
      have hc : w1.cell? ⟨g, 1, none⟩ = some (.int .i64 (x : Int)) := hown.cellAt 1 (by simp)
      clear hown hg hcap
      by_cases hx : x = 1
      · have t1 : ((x : Int) == 1) = true := btrue (by omega)
        have HX := Lib.hid hx
        clear hx
        go_wp2_with fail
        go_ret
        exact ⟨ret_bool (by rw [HP.out, HX.out]; rfl), hb⟩
      · have t1 : ((x : Int) == 1) = false := bno (by omega)
        have HX := Lib.hid hx
        clear hx
        go_wp2_with fail
        go_ret
        exact ⟨ret_bool (by rw [HP.out]; simp only [prB]; split <;> simp_all [Hid]), hb⟩
    | p :: q :: r, hg, hown, HP =>
      have t1 : ((((p :: q :: r).length : Nat) : Int) == 1) = false := bno (by simp; omega)
      obtain ⟨L, hL⟩ : ∃ L, (p :: q :: r).length = L := ⟨_, rfl⟩
      rw [hL] at t1 ⊢
      clear hown hg hL hcap
      go_wp2_with fail
      go_ret
      exact ⟨ret_bool (by rw [HP.out]; obtain ⟨a, b⟩ := p; simp [prB]), hb⟩

set_option maxHeartbeats 1000000 in
theorem ref03_Prime (N : Nat) (w : World) (h1 : 1 ≤ N) (h2 : N ≤ 16777216) :
    Calls Try.prog 70 #[.int .i64 N] w fun e w' => e = .returned (.bool (isPr N)) ∧ w = w' := by
  obtain ⟨B, hB⟩ : ∃ B, isPr N = B := ⟨_, rfl⟩
  rw [hB]
  have HI1 : Hid (B = true → NoDiv 2 N) := by unfold Hid; rw [← hB]; exact (isPr_iff N h1 h2).1
  have HI2 : Hid (NoDiv 2 N → B = true) := by unfold Hid; rw [← hB]; exact (isPr_iff N h1 h2).2
  clear hB
  go_enter Try.func70, Try.ntmps70
  go_wp2_with fail
  go_loopw [3] (fun d wr => ∃ d0 : Nat, 2 ≤ d0 ∧ d0 ≤ 4097 ∧ d = .int .i64 d0 ∧ Hid (∀ k, 2 ≤ k → k < d0 → N % k ≠ 0) ∧ w = wr) (fun d _ => 5000 - (intOf d).toNat)
  case atStart => exact ⟨2, by omega, by omega, rfl, fun k hk hk2 => by omega, rfl⟩
  case round =>
    obtain ⟨d, hd1, hd2, rfl, HD, rfl⟩ := hrel
    obtain ⟨q, hq⟩ : ∃ q, d * d = q := ⟨_, rfl⟩
    have eq1 : (d : Int) * (d : Int) = (q : Int) := by rw [← hq]; simp
    have hq9 : q ≤ 4097 * 4097 := by rw [← hq]; exact Nat.mul_le_mul hd2 hd2
    by_cases hle : q ≤ N
    · have hd3 : d ≤ 4096 := by
        by_cases h : d ≤ 4096
        · exact h
        · have := Nat.mul_le_mul (show 4097 ≤ d by omega) (show 4097 ≤ d by omega)
          omega
      obtain ⟨r, hr⟩ : ∃ r, N % d = r := ⟨_, rfl⟩
      have e1 : (N : Int).tmod (d : Int) = (r : Int) := by rw [Int.tmod_eq_emod_of_nonneg (by omega), ← Int.natCast_emod, hr]
      have e2 : (N : Int) % (d : Int) = (r : Int) := by rw [← Int.natCast_emod, hr]
      have z1 : ((d : Int) == 0) = false := bno (by omega)
      have z2 : ¬ (d : Int) = 0 := by omega
      have HR := Lib.hid hr
      have HQ := Lib.hid hq
      clear hr hq
      by_cases h0 : r = 0
      · subst h0
        have HB : Hid (B = false) := Bool.eq_false_iff.2 fun h => (HI1.out h).2 d hd1 (by rw [HQ.out]; exact hle) HR.out
        go_wp2_with fail
        go_ret
        exact ⟨ret_bool HB.out.symm, by first | rfl | trivial⟩
      · have h0' : ((r : Int) == 0) = false := bno (by omega)
        go_wp2_with fail
        go_roundw
        case rel => exact ⟨d + 1, by omega, by omega, by go_num, fun k hk hk2 => by
          by_cases e : k = d
          · subst e; rw [HR.out]; exact h0
          · exact HD.out k hk (by omega), by first | rfl | trivial⟩
        case measure => simp [intOf]; omega
    · have HND : Hid (1 < N → NoDiv 2 N) := fun h => ⟨h, fun k hk hkk => HD.out k hk (by
        by_cases hkd : k < d
        · exact hkd
        · have := Nat.mul_le_mul (show d ≤ k by omega) (show d ≤ k by omega)
          omega)⟩
      clear hq
      by_cases hN : 2 ≤ N
      · have HB : Hid (B = true) := HI2.out (HND.out (by omega))
        go_wp2_with fail
        go_ret
        exact ⟨ret_bool (by rw [HB.out]; simp; omega), by first | rfl | trivial⟩
      · have HB : Hid (B = false) := Bool.eq_false_iff.2 fun h => by have := (HI1.out h).1; omega
        go_wp2_with fail
        go_ret
        exact ⟨ret_bool HB.out.symm, by first | rfl | trivial⟩
end Go.Proofs.Ytncikklhchimdaa
