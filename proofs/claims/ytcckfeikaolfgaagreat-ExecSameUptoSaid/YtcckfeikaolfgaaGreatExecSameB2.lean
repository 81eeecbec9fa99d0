/- The contracts and plain laws that the statement ExecSame needs, part 2 of 8: FactA ValA ValB ValD TreeK TreeM ValE CandL Gold Field GoldB GoldR GoldLaws Vec VecB VecC. -/
import Derived.Test.YtcckfeikaolfgaaGreatExecSameB1
namespace Go.Proofs.YtcckfeikaolfgaaGreat
open Go.RowKit
set_option linter.unusedVariables false
set_option linter.unusedSimpArgs false
set_option maxRecDepth 100000
theorem there_yes (n : Nat) (w : World) (h1 : 1 ≤ n) (h2 : n ≤ 16777216) :
    Calls Tryz.prog 90 #[.int .i64 n] w fun e w' => e = .returned (.bool true) ∧ w = w' := by
  go_enter Tryz.func90, Tryz.ntmps90
  go_wp2_with fail
  go_ret
  exact ⟨ret_bool (by simp; omega), rfl⟩
theorem there_no (n : Int) (w : World) (h : n < 1 ∨ 16777216 < n) :
    Calls Tryz.prog 90 #[.int .i64 n] w fun e w' => e = .returned (.bool false) ∧ w = w' := by
  by_cases h1 : n < 1
  · clear h
    go_enter Tryz.func90, Tryz.ntmps90
    go_wp2_with fail
    go_ret
    exact ⟨ret_bool (by simp; try omega), rfl⟩
  · have h2 : 16777216 < n := by omega
    clear h
    go_enter Tryz.func90, Tryz.ntmps90
    go_wp2_with fail
    go_ret
    exact ⟨ret_bool (by simp; try omega), rfl⟩
theorem info_power : (Tryz.prog.info? 84).map (fun i => (i.zero, i.size, i.bytes)) = some (some (.agg #[.int .i64 0, .int .i64 0]), 2, 16) := by kernel_rfl
theorem cell_two_new (w : World) (x y : Value) (t : TypeId) : ∀ j u, [x, y][j]? = some u → (w.alloc (.cells #[x, y] t)).cell? ((⟨w.heap.size, 0, none⟩ : Addr).add j) = some u := by
  intro j u hj
  match j, hj with
  | 0, hj => simp at hj; subst hj; simp [Addr.add]
  | 1, hj => simp at hj; subst hj; simp [Addr.add]
theorem one_two (x y : Int) : ∀ u ∈ [Value.int .i64 x, Value.int .i64 y], u.oneCell' = true := by
  intro u hu
  simp at hu
  rcases hu with rfl | rfl <;> rfl
/-- A result: a new row that reads as the pairs; no error. -/
def GivesP (ps : List (Nat × Nat)) (w : World) (e : Ending) (w' : World) : Prop :=
  ∃ v, e = .returned (.tuple #[v, .int .i64 0]) ∧ w'.ownsRow w.heap.size 84 2 v ps.length (cellsP ps) ∧ Below w.heap.size w w'
theorem fac_unfold_le {d n m e : Nat} (hd : d ≤ 4097) (h : d * d ≤ n) (hs : stripF 25 d n 0 = (m, e)) : facF (5000 - d) d n = if e = 0 then facF (5000 - (d + 1)) (d + 1) m else (d, e) :: facF (5000 - (d + 1)) (d + 1) m := by
  rw [show 5000 - d = (5000 - (d + 1)) + 1 by omega, facF, if_pos h, hs]
theorem fac_unfold_gt {d n : Nat} (hd : d ≤ 4097) (h : ¬ d * d ≤ n) : facF (5000 - d) d n = if 1 < n then [(n, 1)] else [] := by
  rw [show 5000 - d = (5000 - (d + 1)) + 1 by omega, facF, if_neg h]
set_option maxHeartbeats 4000000 in
theorem fact_Factors (N : Nat) (w : World) (h1 : 1 ≤ N) (h2 : N ≤ 16777216) :
    Calls Tryz.prog 66 #[.int .i64 N] w (GivesP (facL N) w) := by
  obtain ⟨i0, hi, hz0, hz1, hz2⟩ := info_parts info_power
  obtain ⟨PS, hPS⟩ : ∃ PS, facL N = PS := ⟨_, rfl⟩
  rw [hPS]
  have HPS := Lib.hid hPS
  clear hPS
  go_enter Tryz.func66, Tryz.ntmps66
  go_wp2_with fail
  go_step3
  go_wp2_with fail
  refine (there_yes N _ h1 h2).mono ?_; rintro e w' ⟨rfl, rfl⟩
  go_wp2_with fail
  go_step3
  go_wp2_with fail
  go_loopw [0, 4, 5] (fun n v d wr => ∃ (n0 d0 : Nat) (acc : List (Nat × Nat)), 1 ≤ n0 ∧ n0 ≤ 16777216 ∧ 2 ≤ d0 ∧ d0 ≤ 4097 ∧ n = .int .i64 n0 ∧ d = .int .i64 d0 ∧ acc.length ≤ d0 ∧ Hid (acc ++ facF (5000 - d0) d0 n0 = PS) ∧ Hid (wr.ownsRow w.heap.size 84 2 v acc.length (cellsP acc)) ∧ Below w.heap.size w wr) (fun _ _ d _ => 5000 - (intOf d).toNat)
  case atStart => exact ⟨N, 2, [], h1, h2, by omega, by omega, rfl, rfl, by simp, HPS.out, World.ownsRow_nil _ _ _ _, Below.refl _ _⟩
  case round =>
    obtain ⟨n, d, acc, hn1, hn2, hd1, hd2, rfl, rfl, hal, HF, HO, hbel⟩ := hrel
    obtain ⟨q, hq⟩ : ∃ q, d * d = q := ⟨_, rfl⟩
    have eq1 : (d : Int) * (d : Int) = (q : Int) := by rw [← hq]; simp
    have hq9 : q ≤ 4097 * 4097 := by rw [← hq]; exact Nat.mul_le_mul hd2 hd2
    by_cases hle : q ≤ n
    · have hd3 : d ≤ 4096 := by
        by_cases h : d ≤ 4096
        · exact h
        · have := Nat.mul_le_mul (show 4097 ≤ d by omega) (show 4097 ≤ d by omega)
          omega
      have HQ := Lib.hid hq
      clear hq
      obtain ⟨wo, rfl⟩ : ∃ wo : World, wo = wr := ⟨_, rfl⟩
      have hS : Hid (∃ m e, stripF 25 d n 0 = (m, e)) := ⟨_, _, rfl⟩
      obtain ⟨M, E, hs⟩ := hS.out
      have HS := Lib.hid hs
      clear hs hS
      have hbs := hbel.size
      go_wp2_with fail
      clear eq1
      go_loopw [0] (fun m wi => ∃ (m0 e0 : Nat), m = .int .i64 m0 ∧ 1 ≤ m0 ∧ m0 ≤ n ∧ e0 ≤ 24 ∧ Hid (m0 * 2 ^ e0 ≤ 16777216) ∧ Hid (stripF (25 - e0) d m0 e0 = (M, E)) ∧ Hid (wi.heap[wo.heap.size]? = some (.cells #[.int .i64 d, .int .i64 e0] 84 (0, 0))) ∧ Below wo.heap.size wo wi) (fun m _ => (intOf m).toNat)
      case atStart => exact ⟨n, 0, rfl, hn1, Nat.le_refl _, by omega, by unfold Hid; omega, HS.out, block_new rfl, (Below.refl _ _).alloc (Nat.le_refl _) _⟩
      case round =>
        obtain ⟨m, e, rfl, hm1, hmn, he24, HB, HR, HX, hbi⟩ := hrel
        have e1 : (m : Int).tmod (d : Int) = ((m % d : Nat) : Int) := by rw [Int.tmod_eq_emod_of_nonneg (by omega), Int.natCast_emod]
        have e2 : (m : Int) % (d : Int) = ((m % d : Nat) : Int) := by rw [← Int.natCast_emod]
        obtain ⟨r, hr⟩ : ∃ r, m % d = r := ⟨_, rfl⟩
        rw [hr] at e1 e2
        have z1 : ((d : Int) == 0) = false := bno (by omega)
        have z2 : ¬ (d : Int) = 0 := by omega
        by_cases h0 : r = 0
        · have HR0 := Lib.hid hr
          have e3 : (m : Int).tdiv (d : Int) = ((m / d : Nat) : Int) := by rw [Int.tdiv_eq_ediv_of_nonneg (by omega), Int.natCast_ediv]
          have e4 : (m : Int) / (d : Int) = ((m / d : Nat) : Int) := by rw [← Int.natCast_ediv]
          have hst := strip_step hd1 (by rw [hr]; exact h0) hm1 HB.out
          have hlt : m / d < m := Nat.div_lt_self (by omega) (by omega)
          have hfew := strip_few hst.1 hst.2.1
          obtain ⟨p, hp⟩ : ∃ p, m / d = p := ⟨_, rfl⟩
          have HR2 : Hid (stripF (25 - (e + 1)) d p (e + 1) = (M, E)) := by
            unfold Hid
            have := HR.out
            rw [show 25 - e = (25 - (e + 1)) + 1 by omega, stripF, if_pos (by rw [hr]; exact h0), hp] at this
            exact this
          rw [hp] at e3 e4 hst hlt
          obtain ⟨g1, g2, g3⟩ := hst
          have G2 := Lib.hid g2
          clear hr hp g2
          subst h0
          have c1 : wr.cell? ⟨wo.heap.size, 1, none⟩ = some (.int .i64 (e : Int)) := block_cell HX.out 1
          have f1 : wr.frozen? ⟨wo.heap.size, 1, none⟩ = false := block_free HX.out 1
          have hset : (wr.setCell ⟨wo.heap.size, 1, none⟩ (.int .i64 ((e : Int) + 1))).heap[wo.heap.size]? = some (.cells #[.int .i64 d, .int .i64 ((e : Int) + 1)] 84 (0, 0)) := block_set HX.out 1 _
          have HSET := Lib.hid hset
          have hbi2 := Lib.hid (hbi.setCell (p := ⟨wo.heap.size, 1, none⟩) (Nat.le_refl _) (.int .i64 ((e : Int) + 1)))
          clear hset
          go_wp2_with fail
          go_roundw
          case rel => exact ⟨p, e + 1, rfl, g1, by omega, by omega, G2.out, HR2.out, HSET.out, hbi2.out⟩
          case measure => simp [intOf]; omega
        · have hME : (m, e) = (M, E) := by
            have := HR.out
            rw [show 25 - e = (24 - e) + 1 by omega, stripF, if_neg (by rw [hr]; exact h0)] at this
            exact this
          simp only [Prod.mk.injEq] at hME
          obtain ⟨rfl, rfl⟩ := hME
          have h0' : ((r : Int) == 0) = false := bno (by omega)
          have HUN := Lib.hid (fac_unfold_le (n := n) hd2 (by rw [HQ.out]; exact hle) HS.out)
          have hown := own_later3 HO.out hbi
          have c0 : wr.cell? ⟨wo.heap.size, 0, none⟩ = some (.int .i64 (d : Int)) := block_cell HX.out 0
          have c1 : wr.cell? ⟨wo.heap.size, 1, none⟩ = some (.int .i64 (e : Int)) := block_cell HX.out 1
          have hb3 := chain hbel hbi
          have hbs3 := hb3.size
          have HME : Hid (m % d ≠ 0) := by unfold Hid; rw [hr]; exact h0
          clear hr
          by_cases he : e = 0
          · have t1 : ((e : Int) == 0) = true := btrue (by omega)
            have HE := Lib.hid he
            have HOW := Lib.hid hown
            clear he hown
            go_wp2_with fail
            go_roundw
            case rel => exact ⟨m, d + 1, acc, hm1, by omega, by omega, by omega, rfl, by go_num, by omega, by have := HF.out; rw [HUN.out, if_pos HE.out] at this; exact this, HOW.out, hb3⟩
            case measure => simp [intOf]; omega
          · have t1 : ((e : Int) == 0) = false := bno (by omega)
            have HE := Lib.hid he
            clear he
            go_wp2_with (at_builtin; refine wpList_append_own _ rfl _ _ 80 rfl w.heap.size 84 i0 (.agg #[.int .i64 0, .int .i64 0]) 2 16 Tryz.underlying80 hi hz0 hz1 hz2 rfl (by decide) _ acc.length (cellsP acc) rfl (hown.alloc _) ⟨wr.heap.size, 0, none⟩ 1 1 [.int .i64 d, .int .i64 e] rfl rfl (cell_two_new _ _ _ _) (one_two _ _) (by unfold maxLen; omega) (by omega) (by simp; omega) ?_)
            intro v' w2 hown2 hgrow _
            have HOW : Hid (w2.ownsRow w.heap.size 84 2 v' (acc ++ [(d, e)]).length (cellsP (acc ++ [(d, e)]))) := by unfold Hid; rw [cellsP_snoc, List.length_append, List.length_singleton]; exact hown2
            have hb4 : Below w.heap.size w w2 := below_grown hb3 hbs3 (own_lt3 hown) hgrow
            have hlen : (acc ++ [(d, e)]).length ≤ d + 1 := by simp; omega
            clear hown hown2 hgrow
            go_wp2_with fail
            go_roundw
            case rel => exact ⟨m, d + 1, acc ++ [(d, e)], hm1, by omega, by omega, by omega, rfl, by go_num, hlen, by have := HF.out; rw [HUN.out, if_neg HE.out] at this; unfold Hid; rw [List.append_assoc]; exact this, HOW.out, hb4⟩
            case measure => simp [intOf]; omega
    · have HUN := Lib.hid (fac_unfold_gt (n := n) hd2 (by rw [hq]; exact hle))
      have hbs := hbel.size
      clear hq
      by_cases hn : 1 < n
      · have hown := HO.out
        have HN := Lib.hid hn
        go_wp2_with (at_builtin; refine wpList_append_own _ rfl _ _ 80 rfl w.heap.size 84 i0 (.agg #[.int .i64 0, .int .i64 0]) 2 16 Tryz.underlying80 hi hz0 hz1 hz2 rfl (by decide) _ acc.length (cellsP acc) rfl (hown.alloc _) ⟨wr.heap.size, 0, none⟩ 1 1 [.int .i64 n, .int .i64 1] rfl rfl (cell_two_new _ _ _ _) (one_two _ _) (by unfold maxLen; omega) (by omega) (by simp; omega) ?_)
        intro v' w2 hown2 hgrow _
        have HPE : Hid (acc ++ [(n, 1)] = PS) := by have := HF.out; rw [HUN.out, if_pos hn] at this; exact this
        have HOW : Hid (w2.ownsRow w.heap.size 84 2 v' PS.length (cellsP PS)) := by unfold Hid; rw [← HPE.out, cellsP_snoc, List.length_append, List.length_singleton]; exact hown2
        have hb4 : Below w.heap.size w w2 := below_grown hbel hbs (own_lt3 hown) hgrow
        clear hown hown2 hgrow
        go_wp2_with fail
        rw [Exit.noGoto_ret]
        go_ret2
        exact ⟨v', rfl, HOW.out, hb4⟩
      · have HPE : Hid (acc = PS) := by have := HF.out; rw [HUN.out, if_neg hn, List.append_nil] at this; exact this
        have HOW := HO.out
        rw [HPE.out] at HOW
        have HOW := Lib.hid HOW
        go_wp2_with fail
        rw [Exit.noGoto_ret]
        go_ret2
        exact ⟨_, rfl, HOW.out, hbel⟩
theorem fact_Factors_no (n : Int) (w : World) (h : n < 1 ∨ 16777216 < n) :
    Calls Tryz.prog 66 #[.int .i64 n] w fun e w' => e = .returned (.tuple #[.slice none 0 0, .int .i64 3]) ∧ w = w' := by
  have C1 : Hid (∀ W, Calls Tryz.prog 90 #[.int .i64 n] W fun e w' => e = .returned (.bool false) ∧ W = w') := fun W => there_no n W h
  clear h
  go_enter Tryz.func66, Tryz.ntmps66
  go_wp2_with fail
  go_step3
  go_wp2_with fail
  refine (C1.out _).mono ?_; rintro e w' ⟨rfl, rfl⟩
  go_wp2_with fail
  rw [Exit.noGoto_ret]
  go_ret2
  exact ⟨rfl, rfl⟩
theorem own_slice2 {w : World} {B : Nat} {e : TypeId} {v : Value} {n s : Nat} {xs : List Value} (h : w.ownsRow B e s v n xs) : ∃ a cap, v = .slice a n cap ∧ OkCap a n cap ∧ (0 < n → ∃ g, a = some ⟨g, 0, none⟩) := by
  rcases h.2 with ⟨rfl, h0⟩ | ⟨g, cap, cur, rfl, _, _, hc, _⟩
  · exact ⟨none, 0, by rw [h0], ⟨by omega, fun _ => rfl⟩, fun h => by omega⟩
  · exact ⟨_, _, rfl, ⟨hc, fun h => by cases h⟩, fun _ => ⟨g, rfl⟩⟩
set_option maxHeartbeats 1000000 in
theorem fact_Prime (n : Int) (w : World) (hn : -9223372036854775808 ≤ n ∧ n < 9223372036854775808) :
    Calls Tryz.prog 43 #[.int .i64 n] w fun e w' => e = .returned (.bool (isPr n)) ∧ Below w.heap.size w w' := by
  by_cases h : n < 1 ∨ 16777216 < n
  · have C1 : Hid (∀ W, Calls Tryz.prog 66 #[.int .i64 n] W fun e w' => e = .returned (.tuple #[.slice none 0 0, .int .i64 3]) ∧ W = w') := fun W => fact_Factors_no n W h
    have HP : Hid (isPr n = false) := by unfold Hid isPr; rw [show decide (1 ≤ n ∧ n ≤ 16777216) = false by simp; omega, Bool.false_and]
    clear h
    go_enter Tryz.func43, Tryz.ntmps43
    go_wp2_with fail
    refine (C1.out _).mono ?_; rintro e w' ⟨rfl, rfl⟩
    go_wp2_with fail
    go_ret
    exact ⟨ret_bool HP.out.symm, Below.refl _ _⟩
  · obtain ⟨N, rfl⟩ := Int.eq_ofNat_of_zero_le (show 0 ≤ n by omega)
    have C1 := Lib.hid (fact_Factors N w (by omega) (by omega))
    have HP := Lib.hid (isPr_nat N (by omega) (by omega))
    obtain ⟨ps, hps⟩ : ∃ ps, facL N = ps := ⟨_, rfl⟩
    rw [hps] at C1 HP
    clear hps h hn
    go_enter Tryz.func43, Tryz.ntmps43
    go_wp2_with fail
    refine C1.out.mono ?_; rintro e w1 ⟨v, rfl, hown, hb⟩
    obtain ⟨a, cap, rfl, hcap, hg⟩ := own_slice2 hown
    match ps, hg, hown, HP with
    | [], hg, hown, HP =>
      clear hown hg
      go_wp2_with fail
      go_ret
      exact ⟨ret_bool (by rw [HP.out]; rfl), hb⟩
    | [(p, x)], hg, hown, HP =>
      obtain ⟨g, rfl⟩ := hg (by simp)
      have hc : w1.cell? ⟨g, 1, none⟩ = some (.int .i64 (x : Int)) := hown.cellAt 1 (by simp)
      clear hown hg hcap
      by_cases hx : x = 1
      · have t1 : ((x : Int) == 1) = true := btrue (by omega)
        have HX := Lib.hid hx
        clear hx
        go_wp2_with fail
        go_ret
        exact ⟨ret_bool (by rw [HP.out, HX.out]; rfl), hb⟩
      · have t1 : ((x : Int) == 1) = false := bno (by omega)
        have HX := Lib.hid hx
        clear hx
        go_wp2_with fail
        go_ret
        exact ⟨ret_bool (by rw [HP.out]; simp only [prB]; split <;> simp_all [Hid]), hb⟩
    | p :: q :: r, hg, hown, HP =>
      have t1 : ((((p :: q :: r).length : Nat) : Int) == 1) = false := bno (by simp; omega)
      obtain ⟨L, hL⟩ : ∃ L, (p :: q :: r).length = L := ⟨_, rfl⟩
      rw [hL] at t1 ⊢
      clear hown hg hL hcap
      go_wp2_with fail
      go_ret
      exact ⟨ret_bool (by rw [HP.out]; obtain ⟨a, b⟩ := p; simp [prB]), hb⟩
set_option maxHeartbeats 1000000 in
theorem ref03_Prime (N : Nat) (w : World) (h1 : 1 ≤ N) (h2 : N ≤ 16777216) :
    Calls Tryz.prog 40 #[.int .i64 N] w fun e w' => e = .returned (.bool (isPr N)) ∧ w = w' := by
  obtain ⟨B, hB⟩ : ∃ B, isPr N = B := ⟨_, rfl⟩
  rw [hB]
  have HI1 : Hid (B = true → NoDiv 2 N) := by unfold Hid; rw [← hB]; exact (isPr_iff N h1 h2).1
  have HI2 : Hid (NoDiv 2 N → B = true) := by unfold Hid; rw [← hB]; exact (isPr_iff N h1 h2).2
  clear hB
  go_enter Tryz.func40, Tryz.ntmps40
  go_wp2_with fail
  go_loopw [3] (fun d wr => ∃ d0 : Nat, 2 ≤ d0 ∧ d0 ≤ 4097 ∧ d = .int .i64 d0 ∧ Hid (∀ k, 2 ≤ k → k < d0 → N % k ≠ 0) ∧ w = wr) (fun d _ => 5000 - (intOf d).toNat)
  case atStart => exact ⟨2, by omega, by omega, rfl, fun k hk hk2 => by omega, rfl⟩
  case round =>
    obtain ⟨d, hd1, hd2, rfl, HD, rfl⟩ := hrel
    obtain ⟨q, hq⟩ : ∃ q, d * d = q := ⟨_, rfl⟩
    have eq1 : (d : Int) * (d : Int) = (q : Int) := by rw [← hq]; simp
    have hq9 : q ≤ 4097 * 4097 := by rw [← hq]; exact Nat.mul_le_mul hd2 hd2
    by_cases hle : q ≤ N
    · have hd3 : d ≤ 4096 := by
        by_cases h : d ≤ 4096
        · exact h
        · have := Nat.mul_le_mul (show 4097 ≤ d by omega) (show 4097 ≤ d by omega)
          omega
      obtain ⟨r, hr⟩ : ∃ r, N % d = r := ⟨_, rfl⟩
      have e1 : (N : Int).tmod (d : Int) = (r : Int) := by rw [Int.tmod_eq_emod_of_nonneg (by omega), ← Int.natCast_emod, hr]
      have e2 : (N : Int) % (d : Int) = (r : Int) := by rw [← Int.natCast_emod, hr]
      have z1 : ((d : Int) == 0) = false := bno (by omega)
      have z2 : ¬ (d : Int) = 0 := by omega
      have HR := Lib.hid hr
      have HQ := Lib.hid hq
      clear hr hq
      by_cases h0 : r = 0
      · subst h0
        have HB : Hid (B = false) := Bool.eq_false_iff.2 fun h => (HI1.out h).2 d hd1 (by rw [HQ.out]; exact hle) HR.out
        go_wp2_with fail
        go_ret
        exact ⟨ret_bool HB.out.symm, by first | rfl | trivial⟩
      · have h0' : ((r : Int) == 0) = false := bno (by omega)
        go_wp2_with fail
        go_roundw
        case rel => exact ⟨d + 1, by omega, by omega, by go_num, fun k hk hk2 => by
          by_cases e : k = d
          · subst e; rw [HR.out]; exact h0
          · exact HD.out k hk (by omega), by first | rfl | trivial⟩
        case measure => simp [intOf]; omega
    · have HND : Hid (1 < N → NoDiv 2 N) := fun h => ⟨h, fun k hk hkk => HD.out k hk (by
        by_cases hkd : k < d
        · exact hkd
        · have := Nat.mul_le_mul (show d ≤ k by omega) (show d ≤ k by omega)
          omega)⟩
      clear hq
      by_cases hN : 2 ≤ N
      · have HB : Hid (B = true) := HI2.out (HND.out (by omega))
        go_wp2_with fail
        go_ret
        exact ⟨ret_bool (by rw [HB.out]; simp; omega), by first | rfl | trivial⟩
      · have HB : Hid (B = false) := Bool.eq_false_iff.2 fun h => by have := (HI1.out h).1; omega
        go_wp2_with fail
        go_ret
        exact ⟨ret_bool HB.out.symm, by first | rfl | trivial⟩
end Go.Proofs.YtcckfeikaolfgaaGreat

namespace Go.Proofs.YtcckfeikaolfgaaGreat
open Go.RowKit
set_option linter.unusedVariables false
set_option linter.unusedSimpArgs false
set_option maxRecDepth 100000
theorem IsT.knum {w : World} {F : Nat → Prop} {k n : Int} {a : Option Addr} {m cap : Nat} {t : Tr} (h : IsT w F k n a m cap t) (i : Nat) (hi : i < m) :
    ∃ b off, a = some ⟨b, off, none⟩ ∧ b < w.heap.size ∧ w.cell? ⟨b, off + i * 3 + 1, none⟩ = some (.int .i64 (Tr.kid t.kids i).num) ∧ -9223372036854775808 ≤ (Tr.kid t.kids i).num ∧ (Tr.kid t.kids i).num < 9223372036854775808 := by
  obtain ⟨b, off, k', n', a', m', c', ha, hF, hlt, h0, h1, h2, hT⟩ := h.kid i hi
  have e := hT.en
  subst e
  exact ⟨b, off, ha, hlt, h1, hT.fn⟩
theorem ref14_power (n : Int) (w : World) (hn : -9223372036854775808 ≤ n ∧ n < 9223372036854775808) :
    Calls Tryz.prog 64 #[.int .i64 n] w fun e w' => e = .returned (.bool (hasP2 n)) ∧ w = w' := by
  have C1 : Hid (∀ w : World, Calls Tryz.prog 41 #[.int .i64 n] w fun e w' => e = .returned (.bool (isP2 n)) ∧ w = w') := fun w => refPower n w ⟨hn.1, by omega⟩
  by_cases h0 : n < 1
  · have HF : Hid (hasP2 n = false) := by unfold Hid hasP2; rw [isP2_neg n (by omega)]; rfl
    go_enter Tryz.func64, Tryz.ntmps64
    go_wp2_with fail
    go_ret
    exact ⟨ret_bool HF.out.symm, rfl⟩
  · by_cases h1 : 16777216 < n
    · have HF : Hid (hasP2 n = false) := by unfold Hid hasP2; rw [show decide (n ≤ 16777216) = false by simp; omega, Bool.and_false]
      go_enter Tryz.func64, Tryz.ntmps64
      go_wp2_with fail
      go_ret
      exact ⟨ret_bool HF.out.symm, rfl⟩
    · have HF : Hid (hasP2 n = isP2 n) := by unfold Hid hasP2; rw [show decide (n ≤ 16777216) = true by simp; omega, Bool.and_true]
      rw [HF.out]
      obtain ⟨B, hB⟩ : ∃ B, isP2 n = B := ⟨_, rfl⟩
      rw [hB] at C1 ⊢
      clear hB HF
      go_enter Tryz.func64, Tryz.ntmps64
      go_wp2_with fail
      refine (C1.out _).mono ?_; rintro e w' ⟨rfl, rfl⟩
      go_wp2_with fail
      go_ret
      exact ⟨rfl, rfl⟩
set_option maxHeartbeats 4000000 in
theorem valid_sides (t : Tr) (k n : Int) (a : Option Addr) (m cap : Nat) (w : World) (F : Nat → Prop) (hT : IsT w F k n a m cap t) :
    Calls Tryz.prog 139 #[.agg #[.int .i64 k, .int .i64 n, .slice a m cap]] w fun e w' => e = .returned (.bool (sidesB t.num t.kids.length (Tr.kid t.kids 0).num (Tr.kid t.kids 1).num)) ∧ Below w.heap.size w w' := by
  have hn := hT.fn
  have en := hT.en
  have em := hT.em
  by_cases hm : m = 2
  · by_cases hs : hasSz n = true
    · obtain ⟨b, off, rfl, hbl, c0, d0⟩ := hT.knum 0 (by omega)
      obtain ⟨b', off', ha, _, c1, d1⟩ := hT.knum 1 (by omega)
      simp only [Option.some.injEq, Addr.mk.injEq, and_true] at ha
      obtain ⟨rfl, rfl⟩ := ha
      have hb := hasSz_bd hs
      have HS : Hid (∀ W, Calls Tryz.prog 42 #[.int .i64 n] W fun e w' => e = .returned (.bool true) ∧ W = w') := fun W => rootHas_yes n W hs
      have HB : Hid (sidesB t.num t.kids.length (Tr.kid t.kids 0).num (Tr.kid t.kids 1).num = decide (2 ≤ (Tr.kid t.kids 0).num ∧ 2 ≤ (Tr.kid t.kids 1).num ∧ (Tr.kid t.kids 0).num ≤ n ∧ (Tr.kid t.kids 1).num ≤ n ∧ (Tr.kid t.kids 0).num * (Tr.kid t.kids 1).num = n)) := by
        unfold Hid sidesB
        rw [← en, ← em, hs, Bool.and_true, hm]
        simp
      rw [HB.out]
      clear HB
      obtain ⟨k0, hk0⟩ : ∃ x, (Tr.kid t.kids 0).num = x := ⟨_, rfl⟩
      obtain ⟨k1, hk1⟩ : ∃ x, (Tr.kid t.kids 1).num = x := ⟨_, rfl⟩
      rw [hk0] at c0 d0 ⊢
      rw [hk1] at c1 d1 ⊢
      clear hk0 hk1 en em hT hs
      subst hm
      rw [Nat.zero_mul, Nat.add_zero] at c0
      rw [Nat.one_mul] at c1
      have c0' := (cell_past w (.cells #[.int .i64 k, .int .i64 n, .slice (some ⟨b, off, none⟩) 2 cap] 24) ⟨b, off + 1, none⟩ hbl).trans c0
      have c1' := (cell_past w (.cells #[.int .i64 k, .int .i64 n, .slice (some ⟨b, off, none⟩) 2 cap] 24) ⟨b, off + 3 + 1, none⟩ hbl).trans c1
      rcases (show ¬ 2 ≤ k0 ∨ (2 ≤ k0 ∧ ¬ 2 ≤ k1) ∨ (2 ≤ k0 ∧ 2 ≤ k1 ∧ ¬ k0 ≤ n) ∨ (2 ≤ k0 ∧ 2 ≤ k1 ∧ k0 ≤ n ∧ ¬ k1 ≤ n) ∨ (2 ≤ k0 ∧ 2 ≤ k1 ∧ k0 ≤ n ∧ k1 ≤ n) by omega) with h | ⟨h, h2⟩ | ⟨h, h2, h3⟩ | ⟨h, h2, h3, h4⟩ | ⟨h, h2, h3, h4⟩
      case' inr.inr.inr.inr =>
        obtain ⟨P, hP⟩ : ∃ P, k0 * k1 = P := ⟨_, rfl⟩
        have p1 : 0 ≤ P := by rw [← hP]; exact Int.mul_nonneg (by omega) (by omega)
        have p2 : P ≤ 16777216 * 16777216 := by rw [← hP]; exact Int.mul_le_mul (by omega) (by omega) (by omega) (by omega)
        rw [hP]
      all_goals
        go_enter Tryz.func139, Tryz.ntmps139
        go_wp2_with fail
        refine (HS.out _).mono ?_; rintro e w1 ⟨rfl, rfl⟩
        go_wp2_with fail
        go_quiet (fail)
        go_wp2_with fail
        go_ret
        exact ⟨ret_bool (by first | (simp; omega) | (simp; done) | (rw [Bool.eq_iff_iff]; simp [h, h2, h3, h4])), below_drewN ((Below.refl _ _).alloc (Nat.le_refl _) _) _⟩
    · have HS : Hid (∀ W, Calls Tryz.prog 42 #[.int .i64 n] W fun e w' => e = .returned (.bool false) ∧ W = w') := fun W => rootHas_no n W (by simpa using hs) hn
      have HB : Hid (sidesB t.num t.kids.length (Tr.kid t.kids 0).num (Tr.kid t.kids 1).num = false) := by
        unfold Hid sidesB
        rw [← en, show hasSz n = false by simpa using hs, Bool.and_false]
      rw [HB.out]
      subst hm
      clear HB hT en em hs
      go_enter Tryz.func139, Tryz.ntmps139
      go_wp2_with fail
      refine (HS.out _).mono ?_; rintro e w1 ⟨rfl, rfl⟩
      go_wp2_with fail
      go_ret
      exact ⟨rfl, (Below.refl _ _).alloc (Nat.le_refl _) _⟩
  · have HB : Hid (sidesB t.num t.kids.length (Tr.kid t.kids 0).num (Tr.kid t.kids 1).num = false) := by
      unfold Hid sidesB
      rw [← em, decide_eq_false (by intro h; exact hm h.1), Bool.false_and]
    rw [HB.out]
    have h2 : ((m : Int) != 2) = true := bdiff (by omega)
    clear HB hT en em hm
    go_enter Tryz.func139, Tryz.ntmps139
    go_wp2_with fail
    go_ret
    exact ⟨rfl, (Below.refl _ _).alloc (Nat.le_refl _) _⟩
/-- The two tests that a single child is put to. -/
theorem valid_Node1 (bd : Nat) (k n x : Int) (a : Option Addr) (m cap : Nat) (w : World) (hb : w.heap[bd]? = some (.cells #[.int .i64 k, .int .i64 n, .slice a m cap] 24 (0, 0))) (hn : 1 ≤ n ∧ n ≤ 16777216) :
    Calls Tryz.prog 141 #[.int .i64 x, .pointer (some ⟨bd, 0, none⟩)] w fun e w' => e = .returned (.bool (decide (x = n - 1))) ∧ w = w' := by
  have c1 := block_cell hb 1
  simp at c1
  clear hb
  by_cases h : x = n - 1
  · have h' : (x == n - 1) = true := btrue h
    go_enter Tryz.func141, Tryz.ntmps141
    go_wp2_with fail
    go_ret
    exact ⟨ret_bool (by simp; try omega), rfl⟩
  · have h' : (x == n - 1) = false := bno h
    go_enter Tryz.func141, Tryz.ntmps141
    go_wp2_with fail
    go_ret
    exact ⟨ret_bool (by simp; try omega), rfl⟩
theorem valid_Node2 (bd : Nat) (k n x : Int) (a : Option Addr) (m cap : Nat) (w : World) (hb : w.heap[bd]? = some (.cells #[.int .i64 k, .int .i64 n, .slice a m cap] 24 (0, 0))) (hn : 1 ≤ n ∧ n ≤ 16777216) (hx : -9223372036854775808 ≤ x ∧ x < 9223372036854775808) :
    Calls Tryz.prog 142 #[.int .i64 x, .pointer (some ⟨bd, 0, none⟩)] w fun e w' => e = .returned (.bool (decide (2 * n - 1 ≤ x) && hasP2 x)) ∧ w = w' := by
  have c1 := block_cell hb 1
  simp at c1
  have HS : Hid (∀ W, Calls Tryz.prog 44 #[.int .i64 x] W fun e w' => e = .returned (.bool (hasP2 x)) ∧ W = w') := fun W => stock_Has x W ⟨hx.1, by omega⟩
  obtain ⟨B, hB⟩ : ∃ B, hasP2 x = B := ⟨_, rfl⟩
  rw [hB] at HS ⊢
  clear hb hB
  by_cases h : 2 * n - 1 ≤ x
  · have h' : decide (x ≥ 2 * n - 1) = true := by simp; omega
    have h'' : decide (2 * n - 1 ≤ x) = true := by simp; omega
    go_enter Tryz.func142, Tryz.ntmps142
    go_wp2_with fail
    refine (HS.out _).mono ?_; rintro e w1 ⟨rfl, rfl⟩
    go_wp2_with fail
    go_ret
    exact ⟨ret_bool (by first | rfl | (rw [h'']; simp)), rfl⟩
  · have h' : decide (x ≥ 2 * n - 1) = false := by simp; omega
    have h'' : decide (2 * n - 1 ≤ x) = false := by simp; omega
    go_enter Tryz.func142, Tryz.ntmps142
    go_wp2_with fail
    go_ret
    exact ⟨ret_bool (by first | rfl | (rw [h'']; simp)), rfl⟩
/-- What the one child is asked. -/
def oneB (n : Int) (m : Nat) (P : Bool) : Bool := decide (m = 1) && hasSz n && P
set_option maxHeartbeats 2000000 in
theorem valid_single (f : Nat) (bd : Nat) (t : Tr) (k n : Int) (a : Option Addr) (m cap : Nat) (w : World) (F : Nat → Prop) (P : Bool) (hT : IsT w F k n a m cap t)
    (hf : m = 1 → hasSz n = true → ∀ W, Below w.heap.size w W → Calls Tryz.prog f #[.int .i64 (Tr.kid t.kids 0).num, .pointer (some ⟨bd, 0, none⟩)] W fun e w' => e = .returned (.bool P) ∧ W = w')
    (eg : ∀ args w, (callFunc f args).run Tryz.prog w = .ok (.enter f args) w) :
    Calls Tryz.prog 140 #[.agg #[.int .i64 k, .int .i64 n, .slice a m cap], .func (.func f) #[] #[.pointer (some ⟨bd, 0, none⟩)]] w fun e w' => e = .returned (.bool (oneB n m P)) ∧ Below w.heap.size w w' := by
  have hn := hT.fn
  by_cases hm : m = 1
  · by_cases hs : hasSz n = true
    · obtain ⟨b, off, rfl, hbl, c0, d0⟩ := hT.knum 0 (by omega)
      have HS : Hid (∀ W, Calls Tryz.prog 42 #[.int .i64 n] W fun e w' => e = .returned (.bool true) ∧ W = w') := fun W => rootHas_yes n W hs
      have HF := Lib.hid (hf hm hs)
      have HB : Hid (oneB n m P = P) := by unfold Hid oneB; rw [hs, hm]; simp
      rw [HB.out]
      obtain ⟨k0, hk0⟩ : ∃ x, (Tr.kid t.kids 0).num = x := ⟨_, rfl⟩
      rw [hk0] at c0 d0 HF
      subst hm
      rw [Nat.zero_mul, Nat.add_zero] at c0
      have c0' := (cell_past w (.cells #[.int .i64 k, .int .i64 n, .slice (some ⟨b, off, none⟩) 1 cap] 24) ⟨b, off + 1, none⟩ hbl).trans c0
      clear hf hT hs HB hk0 c0
      go_enter Tryz.func140, Tryz.ntmps140
      go_wp2_with fail
      refine (HS.out _).mono ?_; rintro e w1 ⟨rfl, rfl⟩
      go_wp2_with fail
      refine (HF.out _ ((Below.refl _ _).alloc (Nat.le_refl _) _)).mono ?_; rintro e w1 ⟨rfl, rfl⟩
      go_wp2_with fail
      go_ret
      exact ⟨rfl, (Below.refl _ _).alloc (Nat.le_refl _) _⟩
    · have HS : Hid (∀ W, Calls Tryz.prog 42 #[.int .i64 n] W fun e w' => e = .returned (.bool false) ∧ W = w') := fun W => rootHas_no n W (by simpa using hs) hn
      have HB : Hid (oneB n m P = false) := by unfold Hid oneB; rw [show hasSz n = false by simpa using hs]; simp
      rw [HB.out]
      subst hm
      clear HB hT hs hf
      go_enter Tryz.func140, Tryz.ntmps140
      go_wp2_with fail
      refine (HS.out _).mono ?_; rintro e w1 ⟨rfl, rfl⟩
      go_wp2_with fail
      go_ret
      exact ⟨rfl, (Below.refl _ _).alloc (Nat.le_refl _) _⟩
  · have HB : Hid (oneB n m P = false) := by unfold Hid oneB; rw [decide_eq_false hm]; rfl
    rw [HB.out]
    have h2 : ((m : Int) == 1) = false := bno (by omega)
    clear HB hT hm hf
    go_enter Tryz.func140, Tryz.ntmps140
    go_wp2_with fail
    go_ret
    exact ⟨rfl, (Below.refl _ _).alloc (Nat.le_refl _) _⟩
end Go.Proofs.YtcckfeikaolfgaaGreat

namespace Go.Proofs.YtcckfeikaolfgaaGreat
open Go.RowKit
set_option linter.unusedVariables false
set_option linter.unusedSimpArgs false
set_option maxRecDepth 100000
set_option maxRecDepth 20000
set_option maxHeartbeats 4000000 in
theorem valid_Node_leaf (t : Tr) (n : Int) (a : Option Addr) (m cap : Nat) (w : World) (F : Nat → Prop) (k : Int) (hk : k = 1 ∨ k = 2 ∨ k = 3) (hT : IsT w F k n a m cap t) :
    Calls Tryz.prog 136 #[.agg #[.int .i64 k, .int .i64 n, .slice a m cap]] w fun e w' => e = .returned (.bool (nodeOk t)) ∧ Below w.heap.size w w' := by
  have hn := hT.fn
  have en := hT.en
  have em := hT.em
  have ek := hT.ek
  obtain ⟨B, hB⟩ : ∃ B, hasSz n = B := ⟨_, rfl⟩
  have HS : Hid (∀ W, Calls Tryz.prog 42 #[.int .i64 n] W fun e w' => e = .returned (.bool B) ∧ W = w') := fun W => by
    cases B with
    | true => exact rootHas_yes n W hB
    | false => exact rootHas_no n W hB hn
  have HSM : Hid (∀ W, Calls Tryz.prog 100 #[.int .i64 n] W fun e w' => e = .returned (.bool (decide (1 ≤ n ∧ n ≤ 5))) ∧ W = w') := fun W => small_Has n W
  obtain ⟨C, hC⟩ : ∃ C, hasP2 n = C := ⟨_, rfl⟩
  have HST : Hid (∀ W, Calls Tryz.prog 44 #[.int .i64 n] W fun e w' => e = .returned (.bool C) ∧ W = w') := fun W => by rw [← hC]; exact stock_Has n W ⟨hn.1, by omega⟩
  have HN : Hid (nodeOk t = nodeB k n m (Tr.kid t.kids 0).num (Tr.kid t.kids 1).num) := by unfold Hid nodeOk; rw [ek, en, em]
  rw [HN.out]
  clear HN hT en em ek
  rcases hk with rfl | rfl | rfl
  · have HN : Hid (nodeB 1 n m (Tr.kid t.kids 0).num (Tr.kid t.kids 1).num = (decide (m = 0 ∧ n ≤ 64) && B)) := by unfold Hid nodeB; rw [if_pos rfl, hB]
    rw [HN.out]
    clear HN hB hC
    by_cases hm : m = 0
    · subst hm
      cases B with
      | true =>
        by_cases h : n ≤ 64
        all_goals
          go_enter Tryz.func136, Tryz.ntmps136
          go_wp2_with fail
          refine (HS.out _).mono ?_; rintro e w1 ⟨rfl, rfl⟩
          go_wp2_with fail
          go_ret
          exact ⟨ret_bool (by simp [h]), (Below.refl _ _).alloc (Nat.le_refl _) _⟩
      | false =>
        go_enter Tryz.func136, Tryz.ntmps136
        go_wp2_with fail
        refine (HS.out _).mono ?_; rintro e w1 ⟨rfl, rfl⟩
        go_wp2_with fail
        go_ret
        exact ⟨ret_bool (by simp), (Below.refl _ _).alloc (Nat.le_refl _) _⟩
    · have hm' : ((m : Int) == 0) = false := bno (by omega)
      go_enter Tryz.func136, Tryz.ntmps136
      go_wp2_with fail
      go_ret
      exact ⟨ret_bool (by simp [hm]), (Below.refl _ _).alloc (Nat.le_refl _) _⟩
  · have HN : Hid (nodeB 2 n m (Tr.kid t.kids 0).num (Tr.kid t.kids 1).num = decide (m = 0 ∧ 2 ≤ n ∧ n ≤ 5)) := by unfold Hid nodeB; simp
    rw [HN.out]
    clear HN hB hC
    rcases (show (n < 1 ∨ 5 < n) ∨ (1 ≤ n ∧ n ≤ 5) by omega) with h5 | h5
    · have hd : decide (1 ≤ n ∧ n ≤ 5) = false := by simp; omega
      rw [hd] at HSM
      clear hd
      go_enter Tryz.func136, Tryz.ntmps136
      go_wp2_with fail
      refine (HSM.out _).mono ?_; rintro e w1 ⟨rfl, rfl⟩
      go_wp2_with fail
      go_ret
      exact ⟨ret_bool (by simp; omega), (Below.refl _ _).alloc (Nat.le_refl _) _⟩
    · have hd : decide (1 ≤ n ∧ n ≤ 5) = true := by simp; omega
      rw [hd] at HSM
      clear hd
      by_cases hm : m = 0
      · subst hm
        by_cases h2 : 2 ≤ n
        all_goals
          go_enter Tryz.func136, Tryz.ntmps136
          go_wp2_with fail
          refine (HSM.out _).mono ?_; rintro e w1 ⟨rfl, rfl⟩
          go_wp2_with fail
          go_ret
          exact ⟨ret_bool (by simp; try omega), (Below.refl _ _).alloc (Nat.le_refl _) _⟩
      · have hm' : ((m : Int) == 0) = false := bno (by omega)
        go_enter Tryz.func136, Tryz.ntmps136
        go_wp2_with fail
        refine (HSM.out _).mono ?_; rintro e w1 ⟨rfl, rfl⟩
        go_wp2_with fail
        go_ret
        exact ⟨ret_bool (by simp [hm]), (Below.refl _ _).alloc (Nat.le_refl _) _⟩
  · have HN : Hid (nodeB 3 n m (Tr.kid t.kids 0).num (Tr.kid t.kids 1).num = (decide (m = 0 ∧ 2 ≤ n) && C)) := by unfold Hid nodeB; simp [hC]
    rw [HN.out]
    clear HN hB hC
    by_cases hm : m = 0
    · subst hm
      by_cases h2 : 2 ≤ n
      · go_enter Tryz.func136, Tryz.ntmps136
        go_wp2_with fail
        refine (HST.out _).mono ?_; rintro e w1 ⟨rfl, rfl⟩
        go_wp2_with fail
        go_ret
        exact ⟨ret_bool (by first | (simp [h2]; done) | (simp; intros; omega)), (Below.refl _ _).alloc (Nat.le_refl _) _⟩
      · go_enter Tryz.func136, Tryz.ntmps136
        go_wp2_with fail
        go_ret
        exact ⟨ret_bool (by first | (simp [h2]; done) | (simp; intros; omega)), (Below.refl _ _).alloc (Nat.le_refl _) _⟩
    · have hm' : ((m : Int) == 0) = false := bno (by omega)
      go_enter Tryz.func136, Tryz.ntmps136
      go_wp2_with fail
      go_ret
      exact ⟨ret_bool (by simp [hm]), (Below.refl _ _).alloc (Nat.le_refl _) _⟩
set_option maxHeartbeats 4000000 in
theorem valid_Node_4 (t : Tr) (n : Int) (a : Option Addr) (m cap : Nat) (w : World) (F : Nat → Prop) (hT : IsT w F 4 n a m cap t) :
    Calls Tryz.prog 136 #[.agg #[.int .i64 4, .int .i64 n, .slice a m cap]] w fun e w' => e = .returned (.bool (nodeOk t)) ∧ Below w.heap.size w w' := by
  have HV : Hid (∀ W, Below w.heap.size w W → Calls Tryz.prog 139 #[.agg #[.int .i64 4, .int .i64 n, .slice a m cap]] W fun e w' => e = .returned (.bool (sidesB t.num t.kids.length (Tr.kid t.kids 0).num (Tr.kid t.kids 1).num)) ∧ Below W.heap.size W w') := fun W hb => valid_sides t 4 n a m cap W F (hT.below hb)
  have HN : Hid (nodeOk t = sidesB t.num t.kids.length (Tr.kid t.kids 0).num (Tr.kid t.kids 1).num) := by unfold Hid nodeOk nodeB; rw [← hT.ek]; simp
  rw [HN.out]
  clear HN hT
  go_enter Tryz.func136, Tryz.ntmps136
  go_wp2_with fail
  refine (HV.out _ ((Below.refl _ _).alloc (Nat.le_refl _) _)).mono ?_; rintro e w1 ⟨rfl, hb⟩
  go_wp2_with fail
  go_ret
  exact ⟨rfl, chainA (Below.refl _ _) hb⟩
set_option maxHeartbeats 4000000 in
theorem valid_Node_5 (t : Tr) (n : Int) (a : Option Addr) (m cap : Nat) (w : World) (F : Nat → Prop) (hT : IsT w F 5 n a m cap t) :
    Calls Tryz.prog 136 #[.agg #[.int .i64 5, .int .i64 n, .slice a m cap]] w fun e w' => e = .returned (.bool (nodeOk t)) ∧ Below w.heap.size w w' := by
  have HN : Hid (nodeOk t = (sidesB t.num t.kids.length (Tr.kid t.kids 0).num (Tr.kid t.kids 1).num && decide (gcdI (Tr.kid t.kids 0).num (Tr.kid t.kids 1).num = 1))) := by unfold Hid nodeOk nodeB; rw [← hT.ek]; simp
  rw [HN.out]
  clear HN
  by_cases hm : m = 2
  · have HV : Hid (∀ W, Below w.heap.size w W → Calls Tryz.prog 139 #[.agg #[.int .i64 5, .int .i64 n, .slice a m cap]] W fun e w' => e = .returned (.bool (sidesB t.num t.kids.length (Tr.kid t.kids 0).num (Tr.kid t.kids 1).num)) ∧ Below W.heap.size W w') := fun W hb => valid_sides t 5 n a m cap W F (hT.below hb)
    obtain ⟨b, off, rfl, hbl, c0, d0⟩ := hT.knum 0 (by omega)
    obtain ⟨b', off', ha, _, c1, d1⟩ := hT.knum 1 (by omega)
    simp only [Option.some.injEq, Addr.mk.injEq, and_true] at ha
    obtain ⟨rfl, rfl⟩ := ha
    obtain ⟨S, hS⟩ : ∃ S, sidesB t.num t.kids.length (Tr.kid t.kids 0).num (Tr.kid t.kids 1).num = S := ⟨_, rfl⟩
    rw [hS] at HV ⊢
    obtain ⟨k0, hk0⟩ : ∃ x, (Tr.kid t.kids 0).num = x := ⟨_, rfl⟩
    obtain ⟨k1, hk1⟩ : ∃ x, (Tr.kid t.kids 1).num = x := ⟨_, rfl⟩
    rw [hk0] at c0 d0 ⊢
    rw [hk1] at c1 d1 ⊢
    have HG : Hid (∀ W, Calls Tryz.prog 122 #[.int .i64 k0, .int .i64 k1] W fun e w' => e = .returned (.int .i64 (gcdI k0 k1)) ∧ Below W.heap.size W w') := fun W => factGcdI k0 k1 W d0 d1
    obtain ⟨G, hG⟩ : ∃ G, gcdI k0 k1 = G := ⟨_, rfl⟩
    rw [hG] at HG ⊢
    clear hk0 hk1 hS hG hT
    subst hm
    rw [Nat.zero_mul, Nat.add_zero] at c0
    rw [Nat.one_mul] at c1
    have c0' := (cell_past w (.cells #[.int .i64 5, .int .i64 n, .slice (some ⟨b, off, none⟩) 2 cap] 24) ⟨b, off + 1, none⟩ hbl).trans c0
    have c1' := (cell_past w (.cells #[.int .i64 5, .int .i64 n, .slice (some ⟨b, off, none⟩) 2 cap] 24) ⟨b, off + 3 + 1, none⟩ hbl).trans c1
    have hx : (w.alloc (.cells #[.int .i64 5, .int .i64 n, .slice (some ⟨b, off, none⟩) 2 cap] 24)).heap[w.heap.size]? = some (.cells #[.int .i64 5, .int .i64 n, .slice (some ⟨b, off, none⟩) 2 cap] 24 (0, 0)) := block_new rfl
    have hbw : Below w.heap.size w (w.alloc (.cells #[.int .i64 5, .int .i64 n, .slice (some ⟨b, off, none⟩) 2 cap] 24)) := (Below.refl _ _).alloc (Nat.le_refl _) _
    obtain ⟨W0, hW0⟩ : ∃ W0, w.alloc (.cells #[.int .i64 5, .int .i64 n, .slice (some ⟨b, off, none⟩) 2 cap] 24) = W0 := ⟨_, rfl⟩
    rw [hW0] at hx c0' c1' hbw
    have y0 := block_cell hx 0
    have y1 := block_cell hx 1
    have y2 := block_cell hx 2
    simp at y0 y1 y2
    have HBW := Lib.hid hbw
    have HW0 := Lib.hid hW0
    have HX := Lib.hid hx
    clear hx hbw hW0 c0 c1
    by_cases hg : G = 1
    · have hg1 : (G == 1) = true := btrue hg
      have HGG := Lib.hid hg
      clear hg
      go_enter Tryz.func136, Tryz.ntmps136
      go_wp2_with fail
      rw [HW0.out]
      go_still_tail 15, (by kernel_rfl)
      go_wp2_with fail
      refine (HG.out _).mono ?_; rintro e w1 ⟨rfl, hb⟩
      have hb1 : Below w.heap.size w w1 := chain HBW.out.drew hb
      have hx1 := (hb.block _ (block_lt HX.out)).trans HX.out
      have x0 := block_cell hx1 0
      have x1 := block_cell hx1 1
      have x2 := block_cell hx1 2
      simp at x0 x1 x2
      have HB1 := Lib.hid hb1
      clear hx1 hb hb1 c0' c1' y0 y1 y2
      go_wp2_with fail
      refine (HV.out _ HB1.out).mono ?_; rintro e w2 ⟨rfl, hb⟩
      have hb2 := chain HB1.out hb
      clear hb
      go_wp2_with fail
      go_ret
      exact ⟨ret_bool (by simp [HGG.out]), hb2⟩
    · have hg1 : (G == 1) = false := bno hg
      have HGG := Lib.hid hg
      clear hg
      go_enter Tryz.func136, Tryz.ntmps136
      go_wp2_with fail
      rw [HW0.out]
      go_still_tail 15, (by kernel_rfl)
      go_wp2_with fail
      refine (HG.out _).mono ?_; rintro e w1 ⟨rfl, hb⟩
      have hb1 : Below w.heap.size w w1 := chain HBW.out.drew hb
      clear hb c0' c1' y0 y1 y2
      go_wp2_with fail
      go_ret
      exact ⟨ret_bool (by simp [HGG.out]), hb1⟩
  · have HB : Hid (sidesB t.num t.kids.length (Tr.kid t.kids 0).num (Tr.kid t.kids 1).num = false) := by
      unfold Hid sidesB
      rw [← hT.em, decide_eq_false (by intro h; exact hm h.1), Bool.false_and]
    rw [HB.out, Bool.false_and]
    have h2 : ((m : Int) == 2) = false := bno (by omega)
    clear HB hT hm
    go_enter Tryz.func136, Tryz.ntmps136
    go_wp2_with fail
    go_quiet (fail)
    go_wp2_with fail
    go_ret
    exact ⟨rfl, below_drewN ((Below.refl _ _).alloc (Nat.le_refl _) _) _⟩
set_option maxHeartbeats 4000000 in
theorem valid_Node_6 (t : Tr) (n : Int) (a : Option Addr) (m cap : Nat) (w : World) (F : Nat → Prop) (hT : IsT w F 6 n a m cap t) :
    Calls Tryz.prog 136 #[.agg #[.int .i64 6, .int .i64 n, .slice a m cap]] w fun e w' => e = .returned (.bool (nodeOk t)) ∧ Below w.heap.size w w' := by
  have hn := hT.fn
  have HN : Hid (nodeOk t = (decide (3 ≤ n) && isPr n && oneB n m (decide ((Tr.kid t.kids 0).num = n - 1)))) := by
    unfold Hid nodeOk nodeB oneB
    rw [← hT.ek, ← hT.en, ← hT.em]
    simp only [if_true, Int.reduceEq, if_false]
    generalize (Tr.kid t.kids 0).num = k0
    cases hasSz n <;> cases isPr n <;> simp only [Bool.and_true, Bool.and_false, Bool.true_and, Bool.false_and] <;> (rw [Bool.eq_iff_iff]; simp only [Bool.and_eq_true, decide_eq_true_eq]; constructor <;> (intro h; omega))
  rw [HN.out]
  have HV : Hid (∀ W, Below w.heap.size w W → W.heap[w.heap.size]? = some (.cells #[.int .i64 6, .int .i64 n, .slice a m cap] 24 (0, 0)) → Calls Tryz.prog 140 #[.agg #[.int .i64 6, .int .i64 n, .slice a m cap], .func (.func 141) #[] #[.pointer (some ⟨w.heap.size, 0, none⟩)]] W fun e w' => e = .returned (.bool (oneB n m (decide ((Tr.kid t.kids 0).num = n - 1)))) ∧ Below W.heap.size W w') := fun W hb hx =>
    valid_single 141 w.heap.size t 6 n a m cap W F _ (hT.below hb) (fun _ hs W' hb' => valid_Node1 w.heap.size 6 n _ a m cap W' ((hb'.block _ (block_lt hx)).trans hx) (hasSz_bd hs)) (enters_of Tryz.func141 (by kernel_rfl) rfl)
  obtain ⟨O, hO⟩ : ∃ O, oneB n m (decide ((Tr.kid t.kids 0).num = n - 1)) = O := ⟨_, rfl⟩
  obtain ⟨P, hP⟩ : ∃ P, isPr n = P := ⟨_, rfl⟩
  have HP : Hid (∀ W, Calls Tryz.prog 43 #[.int .i64 n] W fun e w' => e = .returned (.bool P) ∧ Below W.heap.size W w') := fun W => by rw [← hP]; exact fact_Prime n W hn
  rw [hO] at HV ⊢
  rw [hP]
  clear HN hT hO hP
  have hx : (w.alloc (.cells #[.int .i64 6, .int .i64 n, .slice a m cap] 24)).heap[w.heap.size]? = some (.cells #[.int .i64 6, .int .i64 n, .slice a m cap] 24 (0, 0)) := block_new rfl
  have HX := Lib.hid hx
  clear hx
  by_cases h3 : 3 ≤ n
  · cases P with
    | true =>
      go_enter Tryz.func136, Tryz.ntmps136
      go_wp2_with fail
      refine (HP.out _).mono ?_; rintro e w1 ⟨rfl, hb⟩
      have hb1 : Below w.heap.size w w1 := chainA (Below.refl _ _) hb
      have hx1 := (hb.block _ (block_lt HX.out)).trans HX.out
      have HX1 := Lib.hid hx1
      have x0 := block_cell hx1 0
      have x1 := block_cell hx1 1
      have x2 := block_cell hx1 2
      simp at x0 x1 x2
      have HB1 := Lib.hid hb1
      clear hx1 hb hb1
      go_wp2_with fail
      refine (HV.out _ HB1.out HX1.out).mono ?_; rintro e w2 ⟨rfl, hb⟩
      have hb2 := chain HB1.out hb
      clear hb
      go_wp2_with fail
      go_ret
      exact ⟨ret_bool (by simp [h3]), hb2⟩
    | false =>
      go_enter Tryz.func136, Tryz.ntmps136
      go_wp2_with fail
      refine (HP.out _).mono ?_; rintro e w1 ⟨rfl, hb⟩
      have hb1 : Below w.heap.size w w1 := chainA (Below.refl _ _) hb
      clear hb
      go_wp2_with fail
      go_ret
      exact ⟨ret_bool (by simp), hb1⟩
  · have h3' : n < 3 := by omega
    go_enter Tryz.func136, Tryz.ntmps136
    go_wp2_with fail
    go_ret
    exact ⟨ret_bool (by rw [decide_eq_false (by omega)]; simp), (Below.refl _ _).alloc (Nat.le_refl _) _⟩
set_option maxHeartbeats 4000000 in
theorem valid_Node_7 (t : Tr) (n : Int) (a : Option Addr) (m cap : Nat) (w : World) (F : Nat → Prop) (hT : IsT w F 7 n a m cap t) :
    Calls Tryz.prog 136 #[.agg #[.int .i64 7, .int .i64 n, .slice a m cap]] w fun e w' => e = .returned (.bool (nodeOk t)) ∧ Below w.heap.size w w' := by
  have hn := hT.fn
  have HN : Hid (nodeOk t = (decide (2 ≤ n) && oneB n m (decide (2 * n - 1 ≤ (Tr.kid t.kids 0).num) && hasP2 (Tr.kid t.kids 0).num))) := by
    unfold Hid nodeOk nodeB oneB
    rw [← hT.ek, ← hT.en, ← hT.em]
    simp only [if_true, Int.reduceEq, if_false]
    generalize hasP2 (Tr.kid t.kids 0).num = H
    generalize (Tr.kid t.kids 0).num = k0
    cases hasSz n <;> cases H <;> simp only [Bool.and_true, Bool.and_false, Bool.true_and, Bool.false_and] <;> (rw [Bool.eq_iff_iff]; simp only [Bool.and_eq_true, decide_eq_true_eq]; constructor <;> (intro h; omega))
  rw [HN.out]
  have HV : Hid (∀ W, Below w.heap.size w W → W.heap[w.heap.size]? = some (.cells #[.int .i64 7, .int .i64 n, .slice a m cap] 24 (0, 0)) → Calls Tryz.prog 140 #[.agg #[.int .i64 7, .int .i64 n, .slice a m cap], .func (.func 142) #[] #[.pointer (some ⟨w.heap.size, 0, none⟩)]] W fun e w' => e = .returned (.bool (oneB n m (decide (2 * n - 1 ≤ (Tr.kid t.kids 0).num) && hasP2 (Tr.kid t.kids 0).num))) ∧ Below W.heap.size W w') := fun W hb hx =>
    valid_single 142 w.heap.size t 7 n a m cap W F _ (hT.below hb) (fun hm hs W' hb' => by
      obtain ⟨_, _, _, _, _, d0⟩ := hT.knum 0 (by omega)
      exact valid_Node2 w.heap.size 7 n _ a m cap W' ((hb'.block _ (block_lt hx)).trans hx) (hasSz_bd hs) d0) (enters_of Tryz.func142 (by kernel_rfl) rfl)
  obtain ⟨O, hO⟩ : ∃ O, oneB n m (decide (2 * n - 1 ≤ (Tr.kid t.kids 0).num) && hasP2 (Tr.kid t.kids 0).num) = O := ⟨_, rfl⟩
  rw [hO] at HV ⊢
  clear HN hT hO
  have hx : (w.alloc (.cells #[.int .i64 7, .int .i64 n, .slice a m cap] 24)).heap[w.heap.size]? = some (.cells #[.int .i64 7, .int .i64 n, .slice a m cap] 24 (0, 0)) := block_new rfl
  have HX := Lib.hid hx
  clear hx
  by_cases h3 : 2 ≤ n
  · skip
    go_enter Tryz.func136, Tryz.ntmps136
    go_wp2_with fail
    refine (HV.out _ ((Below.refl _ _).alloc (Nat.le_refl _) _) HX.out).mono ?_; rintro e w2 ⟨rfl, hb⟩
    have hb2 := chainA (Below.refl w.heap.size w) hb
    clear hb
    go_wp2_with fail
    go_ret
    exact ⟨ret_bool (by simp [h3]), hb2⟩
  · have h3' : n < 2 := by omega
    go_enter Tryz.func136, Tryz.ntmps136
    go_wp2_with fail
    go_ret
    exact ⟨ret_bool (by rw [decide_eq_false (by omega)]; simp), (Below.refl _ _).alloc (Nat.le_refl _) _⟩
set_option maxHeartbeats 4000000 in
theorem valid_Node_0 (t : Tr) (k n : Int) (a : Option Addr) (m cap : Nat) (w : World) (F : Nat → Prop) (hT : IsT w F k n a m cap t) (h : k < 1 ∨ 7 < k) :
    Calls Tryz.prog 136 #[.agg #[.int .i64 k, .int .i64 n, .slice a m cap]] w fun e w' => e = .returned (.bool (nodeOk t)) ∧ Below w.heap.size w w' := by
  have HN : Hid (nodeOk t = false) := by
    unfold Hid nodeOk nodeB
    rw [← hT.ek, if_neg (by omega), if_neg (by omega), if_neg (by omega), if_neg (by omega), if_neg (by omega), if_neg (by omega), if_neg (by omega)]
  rw [HN.out]
  have e1 : (k == 1) = false := bno (by omega)
  have e2 : (k == 2) = false := bno (by omega)
  have e3 : (k == 3) = false := bno (by omega)
  have e4 : (k == 4) = false := bno (by omega)
  have e5 : (k == 5) = false := bno (by omega)
  have e6 : (k == 6) = false := bno (by omega)
  have e7 : (k == 7) = false := bno (by omega)
  clear HN hT h
  go_enter Tryz.func136, Tryz.ntmps136
  go_wp2_with fail
  go_ret
  exact ⟨rfl, (Below.refl _ _).alloc (Nat.le_refl _) _⟩
theorem valid_Node (t : Tr) (k n : Int) (a : Option Addr) (m cap : Nat) (w : World) (F : Nat → Prop) (hT : IsT w F k n a m cap t) :
    Calls Tryz.prog 136 #[.agg #[.int .i64 k, .int .i64 n, .slice a m cap]] w fun e w' => e = .returned (.bool (nodeOk t)) ∧ Below w.heap.size w w' := by
  by_cases h : k < 1 ∨ 7 < k
  · exact valid_Node_0 t k n a m cap w F hT h
  · rcases (show k = 1 ∨ k = 2 ∨ k = 3 ∨ k = 4 ∨ k = 5 ∨ k = 6 ∨ k = 7 by omega) with h | h | h | rfl | rfl | rfl | rfl
    · exact valid_Node_leaf t n a m cap w F k (.inl h) hT
    · exact valid_Node_leaf t n a m cap w F k (.inr (.inl h)) hT
    · exact valid_Node_leaf t n a m cap w F k (.inr (.inr h)) hT
    · exact valid_Node_4 t n a m cap w F hT
    · exact valid_Node_5 t n a m cap w F hT
    · exact valid_Node_6 t n a m cap w F hT
    · exact valid_Node_7 t n a m cap w F hT
end Go.Proofs.YtcckfeikaolfgaaGreat

namespace Go.Proofs.YtcckfeikaolfgaaGreat
open Go.RowKit
set_option linter.unusedVariables false
set_option linter.unusedSimpArgs false
set_option maxRecDepth 100000
set_option maxRecDepth 20000
theorem box_any (W : World) (cs : Array Value) (T : TypeId) : ∃ W', W.alloc (.cells cs T) = W' ∧ Below W.heap.size W W' ∧ W'.heap[W.heap.size]? = some (.cells cs T (0, 0)) :=
  ⟨_, rfl, (Below.refl _ _).alloc (Nat.le_refl _) _, block_new rfl⟩
/-- append of one number to a row of which nothing but its numbers is known, cut to its length: always a new row. -/
theorem wp_append_int {P : Program} {w : World} {o : Oper} {a : Act} {K : Act → World → Prop} {Q : Exit → Act → World → Prop} (s x : Operand) (t : TypeId) (hop : o.op = Op.call { callee := Callee.builtin Builtin.append, args := #[s, x], argTypes := #[t, t] })
    (e : TypeId) (i : TypeInfo) (h1 : P.underlying t = some (.slice e)) (h2 : P.info? e = some i) (h3 : i.zero = some (.int .i64 0)) (h4 : i.size = 1) (h5 : i.bytes = 8)
    (ao : Option Addr) (n : Nat) (xs : List Int) (hs : a.eval s = .slice ao n n) (hrow : Row .i64 w ao xs) (hn : xs.length = n) (hnone : ao = none → n = 0)
    (ad : Addr) (y : Int) (hy : fits .i64 y) (hx : a.eval x = .slice (some ad) 1 1) (hc : w.cell? ad = some (.int .i64 y)) (hl : n ≤ 16777216)
    (hK : ∀ g cap w', Row .i64 w' (some ⟨g, 0, none⟩) (xs ++ [y]) → n + 1 ≤ cap → Below w.heap.size w w' → K (a.put o.dst (.slice (some ⟨g, 0, none⟩) (n + 1) cap)) w') : o.wp P a w K Q := by
  have hwf : ∀ u ∈ xs ++ [y], fits .i64 u := fun u hu => by
    rcases List.mem_append.1 hu with h | h
    · exact hrow.wf u h
    · rw [List.mem_singleton.1 h]; exact hy
  have fin : ∀ v' w', w'.ownsRow w.heap.size e 1 v' (n + 1) (xs.map (Value.int .i64) ++ [.int .i64 y]) → w.grownBy w' none → ∃ g cap, v' = .slice (some ⟨g, 0, none⟩) (n + 1) cap ∧ Row .i64 w' (some ⟨g, 0, none⟩) (xs ++ [y]) ∧ n + 1 ≤ cap ∧ Below w.heap.size w w' := fun v' w' ho hg => by
    obtain ⟨a', cap, rfl, hcap, hga⟩ := own_slice2 ho
    obtain ⟨g, rfl⟩ := hga (by omega)
    refine ⟨g, cap, rfl, Row.of_own (n := n + 1) (base := w.heap.size) (e := e) (cap := cap) (by simp [hn]) (by omega) hwf ?_, hcap.1, ⟨hg.os, hg.tape, hg.output, hg.size, fun k hk => hg.block k hk (by simp)⟩⟩
    rw [List.map_append]; exact ho
  have hnew : ∀ j u, [Value.int .i64 y][j]? = some u → w.cell? (ad.add j) = some u := fun j u hj => by
    match j, hj with
    | 0, hj => simp at hj; subst hj; rw [show ad.add 0 = ad by simp [Addr.add]]; exact hc
  cases ao with
  | some b =>
    have holds : ∀ j u, (xs.map (Value.int .i64))[j]? = some u → w.cell? (b.add j) = some u := fun j u hj => by
      have hjl : j < xs.length := by simpa using (List.getElem?_eq_some_iff.1 hj).1
      obtain ⟨bb, off, hb, hcell⟩ := hrow.at (by omega)
      cases hb
      have h4 : u = .int .i64 (nth xs j) := by
        simp [hjl] at hj
        rw [← hj]; simp [nth, hjl]
      rw [h4, ← hcell j hjl]
      by_cases hj0 : j = 0
      · subst hj0; simp [Addr.add]
      · simp [Addr.add, hj0]
    obtain ⟨v', w', hrun, r1, r2⟩ := run_append_arg_grows (P := P) w t o.type e i (.int .i64 0) 1 8 h1 h2 h3 h4 h5 rfl (by omega) b n n (xs.map (Value.int .i64)) (by simp [hn]) holds ad 1 1 [.int .i64 y] rfl hnew (by omega) (by unfold maxLen; omega) (by omega)
    obtain ⟨g, cap, rfl, q1, q2, q3⟩ := fin v' w' r1 r2
    unfold Oper.wp
    simp [execOp, hop, resolve, invoke, builtin, hs, hx, hrun, Result.andThen]
    exact hK _ _ _ q1 q2 q3
  | none =>
    obtain rfl := hnone rfl
    obtain rfl : xs = [] := List.eq_nil_of_length_eq_zero hn
    obtain ⟨v', w', hrun, r1, r2, _⟩ := run_append_own (P := P) w w.heap.size t o.type e i (.int .i64 0) 1 8 h1 h2 h3 h4 h5 rfl (by omega) (.slice none 0 0) 0 [] (World.ownsRow_nil w _ e 1) ad 1 1 [.int .i64 y] rfl hnew (by intro u hu; simp at hu; subst hu; rfl) (by unfold maxLen; omega) (by omega) (Nat.le_refl _)
    obtain ⟨g, cap, rfl, q1, q2, q3⟩ := fin v' w' r1 r2
    unfold Oper.wp
    simp [execOp, hop, resolve, invoke, builtin, hs, hx, hrun, Result.andThen]
    exact hK _ _ _ q1 q2 q3
theorem step_append_int {P : Program} {w : World} {ops : Array Oper} {o : Oper} {a : Act} {K : Act → World → Prop} {Q : Exit → Act → World → Prop} {E : Prop} (hgd : o.guard = none) (s x : Operand) (t : TypeId) (hop : o.op = Op.call { callee := Callee.builtin Builtin.append, args := #[s, x], argTypes := #[t, t] })
    (e : TypeId) (i : TypeInfo) (h1 : P.underlying t = some (.slice e)) (h2 : P.info? e = some i) (h3 : i.zero = some (.int .i64 0)) (h4 : i.size = 1) (h5 : i.bytes = 8)
    (ao : Option Addr) (n : Nat) (xs : List Int) (hs : a.eval s = .slice ao n n) (hrow : Row .i64 w ao xs) (hn : xs.length = n) (hnone : ao = none → n = 0)
    (ad : Addr) (y : Int) (hy : fits .i64 y) (hx : a.eval x = .slice (some ad) 1 1) (hc : w.cell? ad = some (.int .i64 y)) (hl : n ≤ 16777216)
    (hK : ∀ g cap w', Row .i64 w' (some ⟨g, 0, none⟩) (xs ++ [y]) → n + 1 ≤ cap → Below w.heap.size w w' → K (a.put o.dst (.slice (some ⟨g, 0, none⟩) (n + 1) cap)) w') :
    if Region.wanted o (yielded ops a.tmps) = true then Oper.wp P o a w K Q else E := by
  have hw : Region.wanted o (yielded ops a.tmps) = true := by simp [Region.wanted, hgd]
  rw [if_pos hw]
  exact wp_append_int s x t hop e i h1 h2 h3 h4 h5 ao n xs hs hrow hn hnone ad y hy hx hc hl hK
/-- A result: a path (from ps on) and whether there is one. -/
def GivesWr (ps : List Int) (r : Option (List Int)) (w : World) (e : Ending) (w' : World) : Prop :=
  match r with
  | none => e = .returned (.tuple #[.slice none 0 0, .bool false]) ∧ Below w.heap.size w w'
  | some q => ∃ a l c, e = .returned (.tuple #[.slice a l c, .bool true]) ∧ (ps ++ q).length = l ∧ Row .i64 w' a (ps ++ q) ∧ OkCap a l c ∧ Below w.heap.size w w'
theorem GivesWr.from {ps : List Int} {r : Option (List Int)} {w wr : World} {e : Ending} {w' : World} (h : GivesWr ps r wr e w') (hb : Below w.heap.size w wr) : GivesWr ps r w e w' := by
  cases r with
  | none => exact ⟨h.1, chain hb h.2⟩
  | some q =>
    obtain ⟨a, l, c, h1, h2, h3, h4, h5⟩ := h
    exact ⟨a, l, c, h1, h2, h3, h4, chain hb h5⟩
namespace Tr
theorem wrongL_some {ks : List Tr} {j : Nat} {p : List Int} (h : j < ks.length) (hw : wrong (kid ks j) = some p) : wrongL j (ks.drop j) = some ((j : Int) :: p) := by
  rw [drop_kid h]; simp only [wrongL, hw]
theorem wrongL_none {ks : List Tr} {j : Nat} (h : j < ks.length) (hw : wrong (kid ks j) = none) : wrongL j (ks.drop j) = wrongL (j + 1) (ks.drop (j + 1)) := by
  rw [drop_kid h]; simp only [wrongL, hw]
theorem wrongL_end {ks : List Tr} {j : Nat} (h : ks.length ≤ j) : wrongL j (ks.drop j) = none := by
  rw [List.drop_of_length_le h]; simp only [wrongL]
end Tr
set_option maxHeartbeats 4000000 in
theorem valid_wrong (N : Nat) (hN : N ≤ 4194304) : ∀ (t : Tr) (k n : Int) (a : Option Addr) (m cap : Nat) (pa : Option Addr) (pn pc : Nat) (ps : List Int) (w : World) (F : Nat → Prop), t.size ≤ N → IsT w F k n a m cap t → Row .i64 w pa ps → ps.length = pn → OkCap pa pn pc → pn + t.size ≤ 8388608 →
    Calls Tryz.prog 129 #[.agg #[.int .i64 k, .int .i64 n, .slice a m cap], .slice pa pn pc] w (GivesWr ps t.wrong w) := by
  induction N with
  | zero => intro t k n a m cap pa pn pc ps w F h; have := Tr.size_pos t; omega
  | succ N ih =>
    intro t k n a m cap pa pn pc ps w F hs hT hp hpn hpc hpb
    obtain ⟨i0, hi, hz0, hz1, hz2⟩ := info_parts info_int
    have IH := Lib.hid (ih (by omega))
    clear ih
    have HT := Lib.hid hT
    have hm : m ≤ N := by
      have := Tr.len_le_sizeL t.kids
      rw [Tr.size_kids] at hs
      rw [hT.em]; omega
    have HS := Lib.hid hs
    have HP := Lib.hid hp
    have HPN := Lib.hid hpn
    have HPB := Lib.hid hpb
    have HPC := Lib.hid hpc
    obtain ⟨B, hB⟩ : ∃ B, nodeOk t = B := ⟨_, rfl⟩
    have HV : Hid (∀ W, Below w.heap.size w W → Calls Tryz.prog 136 #[.agg #[.int .i64 k, .int .i64 n, .slice a m cap]] W fun e w' => e = .returned (.bool B) ∧ Below W.heap.size W w') := fun W hb => by rw [← hB]; exact valid_Node t k n a m cap W F (hT.below hb)
    have HW : Hid (t.wrong = if B then Tr.wrongL 0 t.kids else some []) := by unfold Hid; rw [Tr.wrong_kids, hB]
    rw [HW.out]
    clear hT hs hp hpn hpb hpc hB HW
    cases B with
    | false =>
      rw [if_neg (by simp)]
      go_enter Tryz.func129, Tryz.ntmps129
      go_wp2_with fail
      refine (HV.out _ ((Below.refl _ _).alloc (Nat.le_refl _) _)).mono ?_; rintro e w1 ⟨rfl, hb1⟩
      have hb2 := chainA (Below.refl w.heap.size w) hb1
      have HB2 := Lib.hid hb2
      clear hb1 hb2
      go_wp2_with fail
      go_ret2
      exact ⟨pa, pn, pc, rfl, by rw [List.append_nil]; exact HPN.out, by rw [List.append_nil]; exact HP.out.below HB2.out, HPC.out, HB2.out⟩
    | true =>
      rw [if_pos rfl]
      obtain ⟨R, hR⟩ : ∃ R, Tr.wrongL 0 t.kids = R := ⟨_, rfl⟩
      rw [hR]
      have HR : Hid (Tr.wrongL 0 (t.kids.drop 0) = R) := hR
      clear hR
      go_enter Tryz.func129, Tryz.ntmps129
      go_wp2_with fail
      refine (HV.out _ ((Below.refl _ _).alloc (Nat.le_refl _) _)).mono ?_; rintro e w1 ⟨rfl, hb1⟩
      have hb2 := chainA (Below.refl w.heap.size w) hb1
      have hx := (hb1.block w.heap.size (by simp)).trans (block_new rfl)
      have x2 : w1.cell? ⟨w.heap.size, 2, none⟩ = some (.slice a m cap) := block_cell hx 2
      have HB2 := Lib.hid hb2
      clear hb1 hb2 hx
      go_wp2_with fail
      go_loopw [17] (fun i wr => ∃ j : Nat, j ≤ m ∧ i = .int .i64 j ∧ Hid (Tr.wrongL j (t.kids.drop j) = R) ∧ Below w.heap.size w wr) (fun i _ => m - (intOf i).toNat)
      case atStart => exact ⟨0, Nat.zero_le _, rfl, HR.out, HB2.out⟩
      case round =>
        obtain ⟨j, hj, rfl, HD, hbel⟩ := hrel
        by_cases hlt : j < m
        · obtain ⟨b, off, k', n', a', m', c', rfl, hF, hbl, h0, h1, h2, hT'⟩ := (HT.out.below hbel).kid j hlt
          have hj2 : j < t.kids.length := by rw [← HT.out.em]; exact hlt
          have hsz := Tr.size_kid t j hj2
          have hs1 : (Tr.kid t.kids j).size ≤ N := by have := HS.out; omega
          have hst0 := fun h => (Tr.wrongL_none hj2 h).symm.trans HD.out
          have hst1 := fun p h => HD.out.symm.trans (Tr.wrongL_some (p := p) hj2 h)
          obtain ⟨t', ht'⟩ : ∃ t', Tr.kid t.kids j = t' := ⟨_, rfl⟩
          rw [ht'] at hT' hs1 hst0 hst1 hsz
          have hpb' : pn + 1 + t'.size ≤ 8388608 := by have := HPB.out; omega
          have hjf : fits .i64 (j : Int) := fits_i64.2 (by omega)
          have CK : Hid (∀ W g c, Below wr.heap.size wr W → Row .i64 W (some ⟨g, 0, none⟩) (ps ++ [(j : Int)]) → pn + 1 ≤ c → Calls Tryz.prog 129 #[.agg #[.int .i64 k', .int .i64 n', .slice a' m' c'], .slice (some ⟨g, 0, none⟩) (pn + 1) c] W (GivesWr (ps ++ [(j : Int)]) t'.wrong W)) :=
            fun W g c hb hr hc => IH.out t' k' n' a' m' c' _ _ _ (ps ++ [(j : Int)]) W F hs1 (hT'.below hb) hr (by rw [List.length_append, HPN.out]; rfl) ⟨hc, fun h => by cases h⟩ hpb'
          have HJF := Lib.hid hjf
          have hpn8 : pn ≤ 16777216 := by omega
          have hsl : ∀ W, (Instr.slice 71 (.slice pa pn pc) none (some (.int .i64 (pn : Int))) (some (.int .i64 (pn : Int)))).run Tryz.prog W = .ok (.slice pa pn pn) W := fun W => by
            have hc := HPC.out.1
            rw [run_slice_hm W 71 pa pn pc (by kernel_rfl) .i64 .i64 (pn : Int) (pn : Int) (by omega) (by omega) (by omega)]
            cases pa <;> simp [go_sem, sliced, Addr.add]
          have HPW := Lib.hid (HP.out.below hbel)
          clear hT' hs1 hsz hj2 ht' hpb' hjf HD
          have HST0 := Lib.hid hst0
          have HST1 := Lib.hid hst1
          clear hst0 hst1
          have g1 : (0 : Int) ≤ (j : Int) := by omega
          have g2 : (j : Int) < (m : Int) := by omega
          obtain ⟨r, hwr⟩ : ∃ r, Tr.wrong t' = r := ⟨_, rfl⟩
          rw [hwr] at CK HST0 HST1
          clear hwr
          cases r with
          | none =>
            go_wp2_with fail
            obtain ⟨y, hW, hbx, hx⟩ := box_any wr #[.int .i64 k', .int .i64 n', .slice a' m' c'] 24
            rw [hW]
            have c0 : y.cell? ⟨wr.heap.size, 0, none⟩ = some (.int .i64 k') := block_cell hx 0
            have c1 : y.cell? ⟨wr.heap.size, 1, none⟩ = some (.int .i64 n') := block_cell hx 1
            have c2 : y.cell? ⟨wr.heap.size, 2, none⟩ = some (.slice a' m' c') := block_cell hx 2
            have HX := Lib.hid hx
            have HBX := Lib.hid hbx
            have hwl := block_lt hx
            have hb : Below y.heap.size y y.drew := (Below.refl _ _).drew
            clear hW hx hbx h0 h1 h2
            go_region_held3 (fun w' => w'.cell? ⟨wr.heap.size, 0, none⟩ = some (.int .i64 k') ∧ w'.cell? ⟨wr.heap.size, 1, none⟩ = some (.int .i64 n') ∧ w'.cell? ⟨wr.heap.size, 2, none⟩ = some (.slice a' m' c')) (first | exact ⟨c0, c1, c2⟩ | exact ⟨(hb.cell (p := ⟨wr.heap.size, 0, none⟩) hwl).trans c0, (hb.cell (p := ⟨wr.heap.size, 1, none⟩) hwl).trans c1, (hb.cell (p := ⟨wr.heap.size, 2, none⟩) hwl).trans c2⟩ | go_keep) ((first | (go_at_call 129; ((with_reducible refine (CK.out _ _ _ (chain HBX.out hb) hr hc).mono ?_); rintro e z ⟨rfl, hc2⟩; have hb := chain hb hc2)) | (refine step_append_int (by rfl) _ _ 71 (by rfl) 3 i0 Tryz.underlying71 hi hz0 hz1 hz2 pa pn ps (by rfl) (HPW.out.below (chain HBX.out ((Below.refl _ _).alloc (Nat.le_refl _) _).drew)) HPN.out (fun h => by have := HPC.out.2 h; have := HPC.out.1; omega) ⟨y.heap.size, 0, none⟩ (j : Int) HJF.out (by rfl) (one_new _ _ _) hpn8 ?_; intro g c w' hr hc hbw; have hb := chain ((Below.refl _ _).alloc (Nat.le_refl _) _).drew hbw)))
            have hbe : Below w.heap.size w z := chain (chain hbel HBX.out) hb
            have HBE := Lib.hid hbe
            clear hbe hb c0 c1 c2
            go_wp2_with fail
            go_roundw
            case rel => exact ⟨j + 1, by omega, by go_num, by first | exact HST0.out rfl | exact HST0.out trivial, HBE.out⟩
            case measure => simp [intOf]; omega
          | some q =>
            go_wp2_with fail
            obtain ⟨y, hW, hbx, hx⟩ := box_any wr #[.int .i64 k', .int .i64 n', .slice a' m' c'] 24
            rw [hW]
            have c0 : y.cell? ⟨wr.heap.size, 0, none⟩ = some (.int .i64 k') := block_cell hx 0
            have c1 : y.cell? ⟨wr.heap.size, 1, none⟩ = some (.int .i64 n') := block_cell hx 1
            have c2 : y.cell? ⟨wr.heap.size, 2, none⟩ = some (.slice a' m' c') := block_cell hx 2
            have HX := Lib.hid hx
            have HBX := Lib.hid hbx
            have hwl := block_lt hx
            have hb : Below y.heap.size y y.drew := (Below.refl _ _).drew
            clear hW hx hbx h0 h1 h2
            go_region_held3 (fun w' => w'.cell? ⟨wr.heap.size, 0, none⟩ = some (.int .i64 k') ∧ w'.cell? ⟨wr.heap.size, 1, none⟩ = some (.int .i64 n') ∧ w'.cell? ⟨wr.heap.size, 2, none⟩ = some (.slice a' m' c')) (first | exact ⟨c0, c1, c2⟩ | exact ⟨(hb.cell (p := ⟨wr.heap.size, 0, none⟩) hwl).trans c0, (hb.cell (p := ⟨wr.heap.size, 1, none⟩) hwl).trans c1, (hb.cell (p := ⟨wr.heap.size, 2, none⟩) hwl).trans c2⟩ | go_keep) ((first | (go_at_call 129; ((with_reducible refine (CK.out _ _ _ (chain HBX.out hb) hr hc).mono ?_); rintro e z ⟨a3, l3, c3, rfl, hl3, hr3, hc3, hc2⟩; have hb := chain hb hc2)) | (refine step_append_int (by rfl) _ _ 71 (by rfl) 3 i0 Tryz.underlying71 hi hz0 hz1 hz2 pa pn ps (by rfl) (HPW.out.below (chain HBX.out ((Below.refl _ _).alloc (Nat.le_refl _) _).drew)) HPN.out (fun h => by have := HPC.out.2 h; have := HPC.out.1; omega) ⟨y.heap.size, 0, none⟩ (j : Int) HJF.out (by rfl) (one_new _ _ _) hpn8 ?_; intro g c w' hr hc hbw; have hb := chain ((Below.refl _ _).alloc (Nat.le_refl _) _).drew hbw)))
            have hbe : Below w.heap.size w z := chain (chain hbel HBX.out) hb
            have HBE := Lib.hid hbe
            have HL3 := Lib.hid hl3
            have HR3 := Lib.hid hr3
            have HC3 := Lib.hid hc3
            clear hbe hb c0 c1 c2 hl3 hr3 hc3 hr hc
            go_wp2_with fail
            go_ret2
            rw [HST1.out q rfl]
            have e1 : ps ++ ((j : Int) :: q) = (ps ++ [(j : Int)]) ++ q := by simp
            exact ⟨a3, l3, c3, rfl, by rw [e1]; exact HL3.out, by rw [e1]; exact HR3.out, HC3.out, HBE.out⟩
        · have hjm : j = m := by omega
          have HE : Hid (R = none) := by unfold Hid; rw [← HD.out]; exact Tr.wrongL_end (by rw [← HT.out.em]; omega)
          clear HD
          go_wp2_with fail
          go_ret2
          show GivesWr ps R w _ _
          rw [HE.out]
          exact ⟨rfl, hbel⟩
theorem valid_Wrong (t : Tr) (k n : Int) (a : Option Addr) (m cap : Nat) (w : World) (F : Nat → Prop) (hs : t.size ≤ 4194304) (hT : IsT w F k n a m cap t) :
    Calls Tryz.prog 116 #[.agg #[.int .i64 k, .int .i64 n, .slice a m cap]] w (GivesWr [] t.wrong w) := by
  have CK : Hid (∀ W, Below w.heap.size w W → Calls Tryz.prog 129 #[.agg #[.int .i64 k, .int .i64 n, .slice a m cap], .slice none 0 0] W (GivesWr [] t.wrong W)) :=
    fun W hb => valid_wrong 4194304 (by omega) t k n a m cap none 0 0 [] W F hs (hT.below hb) (Row.nil _ _ _) rfl ⟨Nat.le_refl _, fun _ => rfl⟩ (by omega)
  obtain ⟨r, hr⟩ : ∃ r, t.wrong = r := ⟨_, rfl⟩
  rw [hr] at CK ⊢
  clear hT hs hr
  cases r with
  | none =>
    go_enter Tryz.func116, Tryz.ntmps116
    go_wp2_with fail
    refine (CK.out _ ((Below.refl _ _).alloc (Nat.le_refl _) _)).mono ?_; rintro e w1 ⟨rfl, hb1⟩
    go_wp2_with fail
    go_ret2
    exact ⟨rfl, chainA (Below.refl _ _) hb1⟩
  | some q =>
    go_enter Tryz.func116, Tryz.ntmps116
    go_wp2_with fail
    refine (CK.out _ ((Below.refl _ _).alloc (Nat.le_refl _) _)).mono ?_; rintro e w1 ⟨a1, l1, c1, rfl, hl1, hr1, hc1, hb1⟩
    have HL1 := Lib.hid hl1
    have HR1 := Lib.hid hr1
    have HC1 := Lib.hid hc1
    clear hl1 hr1 hc1
    go_wp2_with fail
    go_ret2
    exact ⟨a1, l1, c1, rfl, HL1.out, HR1.out, HC1.out, chainA (Below.refl _ _) hb1⟩
end Go.Proofs.YtcckfeikaolfgaaGreat

namespace Go.Proofs.YtcckfeikaolfgaaGreat
open Go.RowKit Go.Shelf
set_option linter.unusedVariables false
set_option linter.unusedSimpArgs false
set_option maxRecDepth 100000
/-- How a round may be left: what is no cells stays (from B on), and the caller's word holds. -/
def roundWord (B b0 : Nat) (I : List Value → World → Prop) (Ix : Code → List Value → World → Prop) (xs : List Value) (W : World) : Exit → Act → World → Prop
  | .normal, _, W' => KeepsFrom B W W' ∧ KeepsBut b0 W W' ∧ I xs W'
  | .ret, _, W' => KeepsFrom B W W' ∧ Ix .ret xs W'
  | .exit id, _, W' => KeepsFrom B W W' ∧ Ix (.exit id) xs W'
  | _, _, _ => False
/-- The record of the loop. -/
def recOf (fn : FuncId) (a : Act) (p : Tmp) (assign body : Code) (D : Nat) (s : LoopState) (c : Option Code) : Loop :=
  { state := s, pending := c, fn, tmps := a.tmps, params := #[p], assign, body, defers := D }
/-- What the loop's own two blocks hold ahead of a round; and when a round has left the loop by c. -/
def Ready (R : LoopState → Option Code → Loop) (D : Nat) (W : World) : Prop := W.heap[D + 1]? = some (.loop (R .ready none)) ∧ W.heap[D]? = some (.deferred (some []))
def Left (R : LoopState → Option Code → Loop) (D : Nat) (c : Code) (W : World) : Prop := W.heap[D + 1]? = some (.loop (R .done (some c))) ∧ W.heap[D]? = some (.deferred (some []))
theorem two_grown {A B : World} {row : Option Nat} {k : Nat} {o : Obj} (hg : A.grownBy B row) (hr : ∀ r, row = some r → ∃ o : Obj, A.heap[r]? = some o ∧ o.isWalk = true) (h : A.heap[k]? = some o) (ho : o.isWalk = false) : B.heap[k]? = some o :=
  (grownBy_keeps hg hr h ho).trans h
/-- One round's end, by the jump that it leaves. -/
theorem round_end {P : Program} {R : LoopState → Option Code → Loop} (hR : ∀ s c s' c', ({ R s c with state := s', pending := c' } : Loop) = R s' c') {D : Nat} {W2 W3 : World} (hl2 : W2.heap[D + 1]? = some (.loop (R .busy none))) (hk2 : W2.heap[D]? = some (.deferred (some []))) (hk : KeepsFrom D W2 W3) (jump : Option Code) :
    ∃ W4, (Instr.endRound (D + 1) jump).run P W3 = .ok (.bool jump.isNone) W4 ∧ W4 = W3.putObj (D + 1) (.loop (R (if jump.isNone then .ready else .done) jump)) ∧ W3.heap[D + 1]? = some (.loop (R .busy none)) ∧
      W4.heap[D + 1]? = some (.loop (R (if jump.isNone then .ready else .done) jump)) ∧ W4.heap[D]? = some (.deferred (some [])) := by
  have hl3 := hk.same _ _ (by omega) hl2 rfl
  have hk3 := hk.same _ _ (Nat.le_refl _) hk2 rfl
  have hrun := run_endRound (P := P) jump hl3
  rw [hR] at hrun
  exact ⟨_, hrun, rfl, hl3, World.putObj_heap_same (Array.getElem?_eq_some_iff.1 hl3).1, (World.putObj_heap_other (by omega)).trans hk3⟩
/-- The iterator's contract: it yields N values; of each the word G holds. -/
def SeqTells (P : Program) (n gf : Nat) (lb : Array Value) (b0 N : Nat) (G : List Value → Value → World → Prop) (w : World) : Prop :=
  ∀ (l : Nat) (J Jx : List Value → World → Prop) (W : World), Below w.heap.size w W → AbidesFrom W.heap.size J →
    (∀ pre x W1, J pre W1 → pre.length < N → G pre x W1 → YieldAt Fence.wide 0 P l #[x] W1 fun e W' => (e = .returned (.bool true) ∧ J (pre ++ [x]) W' ∧ KeepsBut b0 W1 W') ∨ (e = .returned (.bool false) ∧ Jx (pre ++ [x]) W')) →
    J [] W → CallsIn Fence.wide n P gf (#[.func (.yield l) #[] #[]] ++ lb) W fun e W' => (∃ v, e = .returned v) ∧ ((∃ xs, xs.length = N ∧ J xs W') ∨ (∃ pre, Jx pre W'))
theorem wp_range_tells {P : Program} {n : Nat} {g : Operand} {p : Tmp} {assign body : Code} {Q : Exit → Act → World → Prop} {a : Act} {w : World} {gf : Nat} {lb : Array Value} (hg : a.eval g = .func (.func gf) #[] lb)
    (eg : ∀ args w, (callFunc gf args).run P w = .ok (.enter gf args) w) (b0 N : Nat) (G : List Value → Value → World → Prop) (hG : ∀ pre x W l o o', G pre x W → W.heap[l]? = some o → o.isCells = false → G pre x (W.putObj l o'))
    (hseq : SeqTells P (n - 1) gf lb b0 N G w) (I : List Value → World → Prop) (Ix : Code → List Value → World → Prop) (hI : OwnFrom w.heap.size I) (hIx : ∀ c, OwnFrom w.heap.size (Ix c)) (h0 : I [] w) (a₁ : Value → Act)
    (hassign : ∀ (l : Nat) (x : Value) (W : World) (K : Act → World → Prop), K (a₁ x) W → assign.wpIn (Fence.wide.inRound l) 0 P (Exit.then K (fun _ _ _ => False)) { tmps := a.tmps.setIfInBounds p x, defers := [] } W)
    (hbody : ∀ (l : Nat) (pre : List Value) (x : Value) (W : World), I pre W → pre.length < N → G pre x W → body.wpIn (Fence.wide.inRound l) 0 P (roundWord w.heap.size b0 I Ix (pre ++ [x]) W) (a₁ x) W)
    (hdone : ∀ (D : Nat) (xs : List Value) (W : World), w.heap.size ≤ D → xs.length = N → I xs W → W.heap[D]? = some (.deferred (some [])) → Q .normal { a with defers := { target := .collected D, args := #[] } :: a.defers } W)
    (hstop : ∀ (D : Nat) (c : Code) (pre : List Value) (W : World), w.heap.size ≤ D → Ix c pre W → W.heap[D]? = some (.deferred (some [])) → c.wpIn Fence.wide n P Q { a with defers := { target := .collected D, args := #[] } :: a.defers } W) :
    (Code.rangeFunc g #[p] assign body).wpIn Fence.wide n P Q a w := by
  refine wpIn_rangeFunc fun fn hfn => ?_
  obtain ⟨D, hD⟩ : ∃ D, w.heap.size = D := ⟨_, rfl⟩
  obtain ⟨R, hR⟩ : ∃ R, recOf fn a p assign body D = R := ⟨_, rfl⟩
  have hRs : ∀ s c s' c', ({ R s c with state := s', pending := c' } : Loop) = R s' c' := fun s c s' c' => by rw [← hR]; rfl
  obtain ⟨W1, hW1⟩ : ∃ W1, (w.alloc (.deferred (some []))).alloc (.loop (R .ready none)) = W1 := ⟨_, rfl⟩
  have hb1 : Below w.heap.size w W1 := by rw [← hW1]; exact ((Below.refl _ w).alloc (Nat.le_refl _) _).alloc (by simp) _
  have hs1 : W1.heap.size = D + 2 := by rw [← hW1, ← hD]; simp
  have hready : Ready R D W1 := by
    rw [← hW1, ← hD]
    exact ⟨block_new (by simp), block_old (by simp) (block_new rfl)⟩
  rw [hD] at hI hIx hbody hdone hstop
  have hI1 : I [] W1 := by rw [← hW1]; exact hI.alloc _ (hI.alloc _ h0)
  refine ⟨D + 1, [{ target := .collected D, args := #[] }], W1, { target := .fn (.func gf) lb, args := #[.func (.yield (D + 1)) #[] #[]] }, W1, gf, #[.func (.yield (D + 1)) #[] #[]] ++ lb, W1, ?_, ?_, fun _ _ => trivial, ?_, (fun h => by cases h), ?_⟩
  · have h := run_enterLoop_outer (P := P) fn a.tmps #[p] assign body (w := w)
    rw [← hW1, ← hR, ← hD]
    exact h
  · simp only [resolve, hg]
    simp [go_sem]
  · simp [invoke, go_sem, eg]
  have hD1 : ∀ {A : World} {row : Option Nat}, (∀ r, row = some r → W1.heap.size ≤ r ∧ ∃ o : Obj, A.heap[r]? = some o ∧ o.isWalk = true) → (∀ r, row = some r → D ≤ r ∧ ∃ o : Obj, A.heap[r]? = some o ∧ o.isCells = false) := fun hr r e => by
    obtain ⟨h1, o, h2, h3⟩ := hr r e
    exact ⟨by omega, o, h2, Obj.not_cells_of_walk h3⟩
  refine (hseq (D + 1) (fun pre W => I pre W ∧ Ready R D W) (fun pre W => ∃ c, Ix c pre W ∧ Left R D c W) W1 hb1 (fun s A B row hs hgr hr => ?_) (fun pre x W hJ hlen hGx => ?_) ⟨hI1, hready⟩).mono ?_
  · exact ⟨hI s A B row hs.1 hgr (hD1 hr), two_grown hgr (fun r e => (hr r e).2) hs.2.1 rfl, two_grown hgr (fun r e => (hr r e).2) hs.2.2 rfl⟩
  · -- a round
    obtain ⟨hi, hl, hk⟩ := hJ
    have hlt := (Array.getElem?_eq_some_iff.1 hl).1
    have hy := run_yield (P := P) (args := #[x]) hl (by rw [← hR]; rfl)
    have hbeg := run_beginRound (P := P) hl (by rw [← hR]; rfl)
    have hRb : ({ R .ready none with state := .busy } : Loop) = R .busy none := by rw [← hR]; rfl
    rw [hRb] at hbeg
    have hl2 : (W.putObj (D + 1) (.loop (R .busy none))).heap[D + 1]? = some (.loop (R .busy none)) := World.putObj_heap_same hlt
    have hk2 : (W.putObj (D + 1) (.loop (R .busy none))).heap[D]? = some (.deferred (some [])) := (World.putObj_heap_other (by omega)).trans hk
    have hkb : KeepsBut b0 W (W.putObj (D + 1) (.loop (R .busy none))) := KeepsBut.putObj W _ _ _ hl rfl
    refine ⟨fn, a.tmps.setIfInBounds p x, assign, body, ?_, roundIn_of_wpIn trivial (hassign _ x W _ ⟨_, hbeg, wpIn_mono (hbody _ pre x _ (hI.putObj _ hi (by omega) hl rfl) hlen (hG _ _ _ _ _ _ hGx hl rfl)) ?_⟩)⟩
    · rw [← hR] at hy
      simpa [recOf] using hy
    · rintro e a3 W3 hp
      cases e with
      | normal =>
        obtain ⟨hk3, hkb3, hi3⟩ := hp
        obtain ⟨W4, hr, rfl, hl3, hl4, hk4⟩ := round_end (P := P) hRs hl2 hk2 hk3 none
        exact ⟨_, _, hr, .inl ⟨rfl, ⟨hI.putObj _ hi3 (by omega) hl3 rfl, hl4, hk4⟩, (hkb.trans hkb3).trans (KeepsBut.putObj _ _ _ _ hl3 rfl)⟩⟩
      | ret =>
        obtain ⟨hk3, hi3⟩ := hp
        obtain ⟨W4, hr, rfl, hl3, hl4, hk4⟩ := round_end (P := P) hRs hl2 hk2 hk3 (some .ret)
        exact ⟨_, _, hr, .inr ⟨rfl, .ret, (hIx _).putObj _ hi3 (by omega) hl3 rfl, hl4, hk4⟩⟩
      | exit id =>
        obtain ⟨hk3, hi3⟩ := hp
        obtain ⟨W4, hr, rfl, hl3, hl4, hk4⟩ := round_end (P := P) hRs hl2 hk2 hk3 (some (.exit id))
        exact ⟨_, _, hr, .inr ⟨rfl, .exit id, (hIx _).putObj _ hi3 (by omega) hl3 rfl, hl4, hk4⟩⟩
      | goto t => exact hp.elim
      | panic ch => exact hp.elim
      | outgrown => exact hp.elim
  · -- behind it
    rintro e W2 ⟨⟨v, rfl⟩, ⟨xs, hxl, hi, hl, hk⟩ | ⟨pre, c, hi, hl, hk⟩⟩
    · have hr := run_endLoop (P := P) hl (by rw [← hR]; simp [recOf])
      rw [← hR] at hr hl
      exact ⟨none, _, hr, hdone D xs _ (Nat.le_refl _) hxl (hI.putObj _ hi (by omega) hl rfl) ((World.putObj_heap_other (by omega)).trans hk)⟩
    · have hr := run_endLoop (P := P) hl (by rw [← hR]; simp [recOf])
      rw [← hR] at hr hl
      exact ⟨some c, _, hr, hstop D c pre _ (Nat.le_refl _) ((hIx c).putObj _ hi (by omega) hl rfl) ((World.putObj_heap_other (by omega)).trans hk)⟩
end Go.Proofs.YtcckfeikaolfgaaGreat

namespace Go.Proofs.YtcckfeikaolfgaaGreat
open Go.RowKit Go.Shelf
set_option linter.unusedVariables false
set_option linter.unusedSimpArgs false
set_option maxRecDepth 100000
attribute [local go_sem] Oper.semAt_some
theorem nextT_putObj (b0 : Nat) (L : List Tr) : ∀ pre x W l o o', NextT b0 L pre x W → W.heap[l]? = some o → o.isCells = false → NextT b0 L pre x (W.putObj l o') := by
  rintro pre x W l o o' ⟨k, n, a, m, c, t, rfl, hT, hL⟩ ho hc
  exact ⟨k, n, a, m, c, t, rfl, hT.keeps (KeepsBut.putObj W l o o' ho hc), hL⟩
set_option maxHeartbeats 1000000 in
theorem all1_tells (q b0 bd : Nat) (t : Tr) (k n : Int) (a : Option Addr) (m cap : Nat) (w : World) (hs : t.size ≤ 4194304) (hT : IsT w (fun b => b ≠ b0) k n a m cap t) (hb0 : b0 < w.heap.size)
    (hbd : w.heap[bd]? = some (.cells #[.int .i64 k, .int .i64 n, .slice a m cap] 24 (0, 0))) :
    SeqTells Tryz.prog q 134 #[.pointer (some ⟨bd, 0, none⟩)] b0 t.size (NextT b0 t.nodes) w := by
  intro l J Jx W hb hJ hY h0
  have hlt := block_lt hbd
  have hbx := (hb.block bd hlt).trans hbd
  have CA : Hid (CallsIn Fence.wide (q - 1) Tryz.prog 135 #[.agg #[.int .i64 k, .int .i64 n, .slice a m cap], .func (.yield l) #[] #[]] W (AllEnds b0 J Jx [] t.size W)) :=
    all_in b0 W.heap.size t.size l t.nodes J Jx hJ hY 4194304 (by omega) (q - 1) t k n a m cap [] W hs (hT.below hb) (Nat.lt_of_lt_of_le hb0 hb.size) h0 (by simp) (fun i _ => by simp)
  have c0 := block_cell hbx 0
  have c1 := block_cell hbx 1
  have c2 := block_cell hbx 2
  simp at c0 c1 c2
  clear hbx hb hJ hY h0 hT hbd hs
  refine callsIn_of_wp Tryz.func134 rfl trivial ?_ rfl
  simp only [Tryz.ntmps134, List.size_toArray, List.length_cons, List.length_nil, Nat.reduceAdd, Nat.reduceSub, Array.replicate_succ, Array.replicate_zero, List.push_toArray, List.append_toArray, List.nil_append, List.cons_append]
  gi_wp2
  refine ⟨trivial, (fun h => by cases h), CA.out.mono ?_⟩
  rintro e W3 (⟨rfl, xs, hxl, hJ3, hk3⟩ | ⟨rfl, hJx3⟩)
  · gi_wp2
    go_end0
    rw [List.nil_append] at hJ3
    exact ⟨⟨_, rfl⟩, .inl ⟨xs, hxl, hJ3⟩⟩
  · gi_wp2
    go_end0
    exact ⟨⟨_, rfl⟩, .inr hJx3⟩
theorem desc_All (q : Nat) (v : Value) (k n : Int) (a : Option Addr) (m cap : Nat) (w : World) :
    CallsIn Fence.wide q Tryz.prog 127 #[.agg #[.int .i64 k, .int .i64 n, .slice a m cap]] w fun e w' => e = .returned (.func (.func 134) #[] #[.pointer (some ⟨w.heap.size, 0, none⟩)]) ∧ w' = w.alloc (.cells #[.int .i64 k, .int .i64 n, .slice a m cap] 24) := by
  refine callsIn_of_wp Tryz.func127 rfl trivial ?_ rfl
  simp only [Tryz.ntmps127, List.size_toArray, List.length_cons, List.length_nil, Nat.reduceAdd, Nat.reduceSub, Array.replicate_succ, Array.replicate_zero, List.push_toArray, List.append_toArray, List.nil_append, List.cons_append]
  gi_wp2
  go_ret
  exact ⟨rfl, rfl⟩
theorem block_from {β : Type} (B b : Nat) (o : β → Obj) (ho : ∀ s, (o s).isCells = true) : OwnFrom B (fun s W => W.heap[b]? = some (o s)) :=
  fun s A C row hs hg hr => (grownBy_keeps_cells hg (fun r e => (hr r e).2) hs (ho s)).trans hs
end Go.Proofs.YtcckfeikaolfgaaGreat

namespace Go.Proofs.YtcckfeikaolfgaaGreat
open Go.RowKit Go.Shelf
set_option linter.unusedVariables false
set_option linter.unusedSimpArgs false
set_option maxRecDepth 100000
set_option maxRecDepth 20000
attribute [local go_sem] Oper.semAt_some
/-- Is a tree too big? -/
def bigB (t : Tr) : Bool := decide (60 < t.size) || decide (12 < t.depth)
theorem big_boxes (w : World) (k n : Int) (a : Option Addr) (m c : Nat) (T U V : TypeId) :
    ∃ W0, (((w.alloc (.cells #[.int .i64 k, .int .i64 n, .slice a m c] T)).alloc (.cells #[.bool false] U)).alloc (.cells #[.int .i64 0] V)).alloc (.cells #[.int .i64 k, .int .i64 n, .slice a m c] T) = W0 ∧ Below w.heap.size w W0 ∧ W0.heap.size = w.heap.size + 4 ∧
      W0.heap[w.heap.size]? = some (.cells #[.int .i64 k, .int .i64 n, .slice a m c] T (0, 0)) ∧ W0.heap[w.heap.size + 1]? = some (.cells #[.bool false] U (0, 0)) ∧ W0.heap[w.heap.size + 1 + 1]? = some (.cells #[.int .i64 0] V (0, 0)) ∧ W0.heap[w.heap.size + 1 + 1 + 1]? = some (.cells #[.int .i64 k, .int .i64 n, .slice a m c] T (0, 0)) :=
  ⟨_, rfl, ((((Below.refl _ _).alloc (Nat.le_refl _) _).alloc (by simp) _).alloc (by simp <;> omega) _).alloc (by simp <;> omega) _, by simp, block_old (by simp <;> omega) (block_old (by simp <;> omega) (block_old (by simp) (block_new rfl))), block_old (by simp <;> omega) (block_old (by simp) (block_new (by simp))), block_old (by simp) (block_new (by simp)), block_new (by simp)⟩
set_option maxHeartbeats 4000000 in
theorem valid_big (t : Tr) (k n : Int) (a : Option Addr) (m cap : Nat) (w : World) (F : Nat → Prop) (hs : t.size ≤ 4194304) (hT : IsT w F k n a m cap t) :
    Calls Tryz.prog 115 #[.agg #[.int .i64 k, .int .i64 n, .slice a m cap]] w fun e w' => e = .returned (.bool (bigB t)) ∧ Below w.heap.size w w' := by
  have HT := Lib.hid hT.lt
  have HS := Lib.hid hs
  have HD : Hid (∀ W, Below w.heap.size w W → Calls Tryz.prog 128 #[.agg #[.int .i64 k, .int .i64 n, .slice a m cap]] W fun e w' => e = .returned (.int .i64 (t.depth : Nat)) ∧ Below W.heap.size W w') := fun W hb => desc_Depth 4194304 (by omega) t k n a m cap W _ hs (hT.below hb)
  clear hT hs
  obtain ⟨W0, hW0, hb0, hsz, x0, x1, x2, x3⟩ := big_boxes w k n a m cap 24 4 3
  refine (callsIn_wide (n := 8)).1 ?_
  refine callsIn_of_wp_marks Tryz.func115 rfl trivial ?_ rfl
  simp only [Tryz.ntmps115, List.size_toArray, List.length_cons, List.length_nil, Nat.reduceAdd, Nat.reduceSub, Array.replicate_succ, Array.replicate_zero, List.push_toArray, List.append_toArray, List.nil_append, List.cons_append]
  gi_wp2_with (refine ⟨trivial, ?_⟩; gi_at_call 127; refine (desc_All _ (.bool true) _ _ _ _ _ _).mono ?_; rintro e w' ⟨rfl, rfl⟩)
  try rw [hW0]
  clear hW0
  have HB0 := Lib.hid hb0
  have X0 := Lib.hid x0
  have X1 := Lib.hid x1
  have X2 := Lib.hid x2
  have X3 := Lib.hid x3
  have hT0 : IsT W0 (fun b => b ≠ w.heap.size + 1 + 1) k n a m cap t := (HT.out.below hb0).mono fun b hb => by unfold Lt at hb; omega
  have HSZ := Lib.hid hsz
  clear hb0 x0 x1 x2 x3 hsz
  refine wp_range_tells (gf := 134) (lb := #[.pointer (some ⟨w.heap.size + 1 + 1 + 1, 0, none⟩)]) rfl (enters_of Tryz.func134 (by kernel_rfl) rfl) (w.heap.size + 1 + 1) t.size (NextT (w.heap.size + 1 + 1) t.nodes) (nextT_putObj _ _)
    (all1_tells _ _ _ t k n a m cap W0 HS.out hT0 (by have := HSZ.out; omega) X3.out)
    (fun pre W => (W.heap[w.heap.size + 1 + 1]? = some (.cells #[.int .i64 (pre.length : Nat)] 3 (0, 0)) ∧ Below (w.heap.size + 1 + 1) W0 W) ∧ pre.length ≤ 60)
    (fun c pre W => (W.heap[w.heap.size + 1]? = some (.cells #[.bool true] 4 (0, 0)) ∧ Below w.heap.size w W) ∧ (c = .ret ∧ 60 < t.size))
    (OwnFrom.and (OwnFrom.and (block_from _ _ (fun pre : List Value => .cells #[.int .i64 (pre.length : Nat)] 3 (0, 0)) (fun _ => rfl)) (ownFrom_below (by have := HSZ.out; omega) (by have := HSZ.out; omega))) (fun _ _ _ _ h _ _ => h))
    (fun c => OwnFrom.and (OwnFrom.and (block_from _ _ (fun pre : List Value => .cells #[.bool true] 4 (0, 0)) (fun _ => rfl)) (ownFrom_below (Nat.le_refl _) (by have := HSZ.out; omega))) (fun _ _ _ _ h _ _ => h)) ⟨⟨X2.out, Below.refl _ _⟩, Nat.zero_le _⟩
    (fun x => { tmps := #[.agg #[.int .i64 k, .int .i64 n, .slice a m cap], .pointer (some ⟨w.heap.size, 0, none⟩), .pointer (some ⟨w.heap.size + 1, 0, none⟩), .pointer (some ⟨w.heap.size + 1 + 1, 0, none⟩), .agg #[.int .i64 k, .int .i64 n, .slice a m cap], .func (.func 134) #[] #[.pointer (some ⟨w.heap.size + 1 + 1 + 1, 0, none⟩)], x, undef, undef, undef, undef, undef, undef, undef], defers := [] }) ?assign ?body ?done ?stop
  case assign =>
    intro l x W K hK
    gi_wp2
    exact hK
  case body =>
    rintro l pre x W ⟨⟨hn, hbel⟩, hle⟩ hlen hG
    have h0 := block_cell hn 0
    have hf := block_free hn 0
    simp at h0
    have HN := Lib.hid hn
    have hst : (W.setCell ⟨w.heap.size + 1 + 1, 0, none⟩ (.int .i64 ((pre.length : Int) + 1))).heap[w.heap.size + 1 + 1]? = some (.cells #[.int .i64 ((pre ++ [x]).length : Nat)] 3 (0, 0)) := by
      rw [block_set hn 0 _, List.length_append, List.length_singleton]; simp
    have hv := block_cell hst 0
    simp only [List.length_append, List.length_singleton] at hv
    have HST := Lib.hid hst
    have hbe : Below (w.heap.size + 1 + 1) W0 (W.setCell ⟨w.heap.size + 1 + 1, 0, none⟩ (.int .i64 ((pre.length : Int) + 1))) := hbel.setCell (p := ⟨w.heap.size + 1 + 1, 0, none⟩) (Nat.le_refl _) _
    have HBE := Lib.hid hbe
    have hx1 := (hbe.block (w.heap.size + 1) (by omega)).trans X1.out
    have HX1 := Lib.hid hx1
    have HLEN := Lib.hid hlen
    have hpl : (pre ++ [x]).length = pre.length + 1 := by simp
    have HPL := Lib.hid hpl
    clear hpl
    obtain ⟨q, hq⟩ : ∃ q, pre.length = q := ⟨_, rfl⟩
    rw [hq] at h0 hle HST HBE hv HLEN HPL hx1 HX1
    clear hn hst hbe hG hlen hq hbel
    have hf3 : (W.setCell ⟨w.heap.size + 1 + 1, 0, none⟩ (.int .i64 ((q : Int) + 1))).frozen? ⟨w.heap.size + 1, 0, none⟩ = false := block_free HX1.out 0
    have hc3 : (W.setCell ⟨w.heap.size + 1 + 1, 0, none⟩ (.int .i64 ((q : Int) + 1))).cell? ⟨w.heap.size + 1, 0, none⟩ = some (.bool false) := block_cell HX1.out 0
    have hkf : KeepsFrom W0.heap.size W (W.setCell ⟨w.heap.size + 1 + 1, 0, none⟩ (.int .i64 ((q : Int) + 1))) := (KeepsOthers.setCell _ _ _).from _
    have hkb : KeepsBut (w.heap.size + 1 + 1) W (W.setCell ⟨w.heap.size + 1 + 1, 0, none⟩ (.int .i64 ((q : Int) + 1))) := KeepsBut.setCell _ _ _
    have HKF := Lib.hid hkf
    have HKB := Lib.hid hkb
    clear hkf hkb
    by_cases h60 : q + 1 ≤ 60
    · have d1 : decide (((q + 1 : Nat) : Int) > 60) = false := by simp; omega
      have d2 : ¬ ((60 : Int) < (q : Int) + 1) := by omega
      have d3 : ¬ (60 < q + 1) := by omega
      gi_wp2
      exact ⟨HKF.out, HKB.out, ⟨HST.out, HBE.out⟩, by rw [HPL.out]; omega⟩
    · have d1 : decide (((q + 1 : Nat) : Int) > 60) = true := by simp; omega
      have d2 : ((60 : Int) < (q : Int) + 1) := by omega
      have d3 : (60 < q + 1) := by omega
      have hfin : Below w.heap.size w ((W.setCell ⟨w.heap.size + 1 + 1, 0, none⟩ (.int .i64 ((q : Int) + 1))).setCell ⟨w.heap.size + 1, 0, none⟩ (.bool true)) := (HB0.out.trans (HBE.out.mono (by omega))).setCell (p := ⟨w.heap.size + 1, 0, none⟩) (by show w.heap.size ≤ w.heap.size + 1; omega) _
      have hset := block_set HX1.out 0 (.bool true)
      have HFIN := Lib.hid hfin
      have HSET := Lib.hid hset
      clear hfin hset
      gi_wp2
      exact ⟨HKF.out.trans ((KeepsOthers.setCell _ _ _).from _), ⟨HSET.out, HFIN.out⟩, rfl, by have := HLEN.out; omega⟩
  case done =>
    rintro D xs W hD hxl ⟨⟨hn, hbel⟩, hle⟩ hK
    rw [hxl] at hn hle
    have hbw : Below w.heap.size w W := HB0.out.trans (hbel.mono (by omega))
    have hDs : w.heap.size ≤ D := by have := HSZ.out; omega
    have hx0 := (hbel.block w.heap.size (by omega)).trans X0.out
    have hx1 := (hbel.block (w.heap.size + 1) (by omega)).trans X1.out
    have HK := Lib.hid hK
    have HBW := Lib.hid hbw
    have HX1 := Lib.hid hx1
    have c0 : W.cell? ⟨w.heap.size, 0, none⟩ = some (.int .i64 k) := block_cell hx0 0
    have c1 : W.cell? ⟨w.heap.size, 1, none⟩ = some (.int .i64 n) := block_cell hx0 1
    have c2 : W.cell? ⟨w.heap.size, 2, none⟩ = some (.slice a m cap) := block_cell hx0 2
    have HB : Hid (bigB t = decide (12 < t.depth)) := by unfold Hid bigB; rw [decide_eq_false (by omega), Bool.false_or]
    obtain ⟨d, hd⟩ : ∃ d, t.depth = d := ⟨_, rfl⟩
    rw [hd] at HD HB
    clear hn hbel hK hbw hx0 hx1 hle hd
    gi_wp2
    refine ⟨trivial, (callsIn_wide.2 (HD.out _ HBW.out)).mono ?_⟩
    rintro e w2 ⟨rfl, hb2⟩
    have hx1 := (hb2.block _ (block_lt HX1.out)).trans HX1.out
    have hk2 := (hb2.block _ (block_lt HK.out)).trans HK.out
    have c1' : w2.cell? ⟨w.heap.size + 1, 0, none⟩ = some (.bool false) := block_cell hx1 0
    have f1' : w2.frozen? ⟨w.heap.size + 1, 0, none⟩ = false := block_free hx1 0
    have hne : D ≠ w.heap.size + 1 := by have := HSZ.out; omega
    have hbw2 := chain HBW.out hb2
    have HK2 := Lib.hid hk2
    have HBW2 := Lib.hid hbw2
    clear hx1 hk2 hbw2 hb2 c0 c1 c2
    have fin : ∀ v : Bool, ((w2.setCell ⟨w.heap.size + 1, 0, none⟩ (.bool v)).heap[D]? = some (.deferred (some []))) ∧ Below w.heap.size w ((w2.setCell ⟨w.heap.size + 1, 0, none⟩ (.bool v)).putObj D (.deferred none)) ∧ ((w2.setCell ⟨w.heap.size + 1, 0, none⟩ (.bool v)).putObj D (.deferred none)).cell? ⟨w.heap.size + 1, 0, none⟩ = some (.bool v) := fun v => by
      have hke := (set_far w2 ⟨w.heap.size + 1, 0, none⟩ (.bool v) D (by show D ≠ w.heap.size + 1; omega)).trans HK2.out
      have hbe := HBW2.out.setCell (p := ⟨w.heap.size + 1, 0, none⟩) (by show w.heap.size ≤ w.heap.size + 1; omega) (.bool v)
      exact ⟨hke, hbe.trans (belowK_b (w := w) (Nat.le_refl _) _ D _ _ hDs hke rfl rfl), (World.cell?_of_block (World.putObj_heap_other (by first | exact hne | exact Ne.symm hne))).trans (World.cell?_setCell_same w2 ⟨w.heap.size + 1, 0, none⟩ (.bool v) c1')⟩
    have FIN := Lib.hid fin
    clear fin
    by_cases h12 : 12 < d
    · have d1 : decide ((d : Int) > 12) = true := by simp; omega
      have d2 : (12 : Int) < (d : Int) := by omega
      have HB12 : Hid (bigB t = true) := by rw [HB.out]; unfold Hid; simp; omega
      clear h12
      gi_wp2
      refine ⟨by simp, .inl ⟨_, _, rfl, run_takeDeferred (FIN.out true).1, ?_⟩⟩
      have hcl := (FIN.out true).2.2
      refine ⟨.bool true, ?_, by rw [HB12.out], (FIN.out true).2.1⟩
      simp [results, Tryz.results115, go_sem, hcl]
    · have d1 : decide ((d : Int) > 12) = false := by simp; omega
      have d2 : ¬ (12 : Int) < (d : Int) := by omega
      have HB12 : Hid (bigB t = false) := by rw [HB.out]; unfold Hid; simp; omega
      clear h12
      gi_wp2
      refine ⟨by simp, .inl ⟨_, _, rfl, run_takeDeferred (FIN.out false).1, ?_⟩⟩
      have hcl := (FIN.out false).2.2
      refine ⟨.bool false, ?_, by rw [HB12.out], (FIN.out false).2.1⟩
      simp [results, Tryz.results115, go_sem, hcl]
  case stop =>
    rintro D c pre W hD ⟨⟨hx1, hbel⟩, rfl, h60⟩ hK
    have HK := Lib.hid hK
    have HBW := Lib.hid hbel
    have c1 : W.cell? ⟨w.heap.size + 1, 0, none⟩ = some (.bool true) := block_cell hx1 0
    have HB : Hid (bigB t = true) := by unfold Hid bigB; rw [decide_eq_true h60, Bool.true_or]
    have hne : D ≠ w.heap.size + 1 := by have := HSZ.out; omega
    have hDs : w.heap.size ≤ D := by have := HSZ.out; omega
    have hcl : (W.putObj D (.deferred none)).cell? ⟨w.heap.size + 1, 0, none⟩ = some (.bool true) := (World.cell?_of_block (World.putObj_heap_other (by first | exact hne | exact Ne.symm hne))).trans c1
    have hbe2 : Below w.heap.size w (W.putObj D (.deferred none)) := hbel.trans (belowK_b (w := w) (Nat.le_refl _) _ D _ _ hDs hK rfl rfl)
    have HBE2 := Lib.hid hbe2
    clear hx1 hbel hK hbe2 h60
    gi_wp2
    refine ⟨by simp, .inl ⟨_, _, rfl, run_takeDeferred HK.out, ?_⟩⟩
    refine ⟨.bool true, ?_, by rw [HB.out], HBE2.out⟩
    simp [results, Tryz.results115, go_sem, hcl]
/-- Is it a plan: the error's number. -/
def chk (t : Tr) : Int := if bigB t then 12 else if t.wrong.isSome then 8 else 0
theorem GivesWr.any {ps : List Int} {r : Option (List Int)} {w : World} {e : Ending} {w' : World} (h : GivesWr ps r w e w') : ∃ a l c, e = .returned (.tuple #[.slice a l c, .bool r.isSome]) ∧ Below w.heap.size w w' := by
  cases r with
  | none => exact ⟨none, 0, 0, h.1, h.2⟩
  | some q =>
    obtain ⟨a, l, c, h1, _, _, _, h5⟩ := h
    exact ⟨a, l, c, h1, h5⟩
set_option maxHeartbeats 1000000 in
theorem valid_Check (t : Tr) (k n : Int) (a : Option Addr) (m cap : Nat) (w : World) (F : Nat → Prop) (hs : t.size ≤ 4194304) (hT : IsT w F k n a m cap t) :
    Calls Tryz.prog 98 #[.agg #[.int .i64 k, .int .i64 n, .slice a m cap]] w fun e w' => e = .returned (.int .i64 (chk t)) ∧ Below w.heap.size w w' := by
  have CB : Hid (∀ W, Below w.heap.size w W → Calls Tryz.prog 115 #[.agg #[.int .i64 k, .int .i64 n, .slice a m cap]] W fun e w' => e = .returned (.bool (bigB t)) ∧ Below W.heap.size W w') := fun W hb => valid_big t k n a m cap W F hs (hT.below hb)
  have CW : Hid (∀ W, Below w.heap.size w W → Calls Tryz.prog 116 #[.agg #[.int .i64 k, .int .i64 n, .slice a m cap]] W fun e w' => ∃ a l c, e = .returned (.tuple #[.slice a l c, .bool t.wrong.isSome]) ∧ Below W.heap.size W w') := fun W hb => (valid_Wrong t k n a m cap W F hs (hT.below hb)).mono fun e w' h => h.any
  have HC : Hid (chk t = if bigB t then 12 else if t.wrong.isSome then 8 else 0) := rfl
  obtain ⟨B, hB⟩ : ∃ B, bigB t = B := ⟨_, rfl⟩
  obtain ⟨R, hR⟩ : ∃ R, t.wrong.isSome = R := ⟨_, rfl⟩
  rw [hB] at CB HC
  rw [hR] at CW HC
  rw [HC.out]
  clear hB hR HC hT hs
  cases B with
  | true =>
    go_enter Tryz.func98, Tryz.ntmps98
    go_wp2_with fail
    refine (CB.out _ ((Below.refl _ _).alloc (Nat.le_refl _) _)).mono ?_; rintro e w1 ⟨rfl, hb1⟩
    have hb := chainA (Below.refl w.heap.size w) hb1
    clear hb1
    go_wp2_with fail
    go_ret
    exact ⟨rfl, hb⟩
  | false =>
    cases R
    all_goals
      go_enter Tryz.func98, Tryz.ntmps98
      go_wp2_with fail
      refine (CB.out _ ((Below.refl _ _).alloc (Nat.le_refl _) _)).mono ?_; rintro e w1 ⟨rfl, hb1⟩
      have hb := chainA (Below.refl w.heap.size w) hb1
      have hx := (hb1.block w.heap.size (by simp)).trans (block_new rfl)
      have x0 : w1.cell? ⟨w.heap.size, 0, none⟩ = some (.int .i64 k) := block_cell hx 0
      have x1 : w1.cell? ⟨w.heap.size, 1, none⟩ = some (.int .i64 n) := block_cell hx 1
      have x2 : w1.cell? ⟨w.heap.size, 2, none⟩ = some (.slice a m cap) := block_cell hx 2
      have HB := Lib.hid hb
      clear hb1 hx hb
      go_wp2_with fail
      refine (CW.out _ HB.out).mono ?_; rintro e w2 ⟨a2, l2, c2, rfl, hb2⟩
      have hb := chain HB.out hb2
      clear hb2 x0 x1 x2
      go_wp2_with fail
      go_ret
      exact ⟨rfl, hb⟩
end Go.Proofs.YtcckfeikaolfgaaGreat

namespace Go.Proofs.YtcckfeikaolfgaaGreat
open Go.RowKit
set_option linter.unusedVariables false
set_option linter.unusedSimpArgs false
set_option maxRecDepth 100000
def oddL : List Nat := [1, 3, 5, 15, 17, 51, 85, 255].flatMap fun a => [a, a * 257, a * 65537, a * 257 * 65537]
theorem dvd_two (k : Nat) : ∀ d, d ∣ 2 ^ k → ∃ j, d = 2 ^ j := by
  induction k with
  | zero => intro d h; exact ⟨0, by simpa using h⟩
  | succ k ih =>
    intro d h
    by_cases h2 : d % 2 = 0
    · obtain ⟨e, rfl⟩ := Nat.dvd_of_mod_eq_zero h2
      rw [Nat.pow_succ, Nat.mul_comm (2 ^ k) 2] at h
      obtain ⟨j, rfl⟩ := ih e (Nat.dvd_of_mul_dvd_mul_left (by omega) h)
      exact ⟨j + 1, by rw [Nat.pow_succ]; omega⟩
    · have hc : Nat.Coprime d 2 := by
        unfold Nat.Coprime
        rw [Nat.gcd_comm, Nat.gcd_rec, show d % 2 = 1 by omega]
        rfl
      rw [Nat.pow_succ] at h
      exact ih d (hc.dvd_of_dvd_mul_right h)
theorem dvd_fewer {p s : Nat} (hp : 0 < p) (hs : p < (s + 1) * (s + 1)) (h : ∀ k, k < s + 1 → 2 ≤ k → p % k ≠ 0) (d : Nat) (hd : d ∣ p) : d = 1 ∨ d = p := by
  obtain ⟨e, rfl⟩ := hd
  have hd0 : d ≠ 0 := by rintro rfl; simp at hp
  have he0 : e ≠ 0 := by rintro rfl; simp at hp
  by_cases h1 : d = 1
  · exact .inl h1
  by_cases h2 : e = 1
  · exact .inr (by rw [h2, Nat.mul_one])
  exfalso
  by_cases hk : d < s + 1
  · exact h d hk (by omega) (Nat.mul_mod_right d e)
  · by_cases hk2 : e < s + 1
    · exact h e hk2 (by omega) (Nat.mul_mod_left d e)
    · have := Nat.mul_le_mul (show s + 1 ≤ d by omega) (show s + 1 ≤ e by omega)
      omega
theorem gcd_split {n a b : Nat} (hc : Nat.Coprime a b) (h : n ∣ a * b) : n = Nat.gcd n a * Nat.gcd n b := by
  rw [← hc.gcd_mul, Nat.gcd_eq_left h]
theorem size_form (n : Nat) (h1 : 1 ≤ n) (h2 : n ≤ 16777216) (h : n ∣ 18446744069414584320) : ∃ g ∈ oddL, ∃ j, j < 25 ∧ n = 2 ^ j * g := by
  have e : 18446744069414584320 = 2 ^ 32 * (3 * (5 * (17 * (257 * 65537)))) := by decide
  rw [e] at h
  obtain ⟨j, hj⟩ := dvd_two 32 (Nat.gcd n (2 ^ 32)) (Nat.gcd_dvd_right _ _)
  have s0 := gcd_split (by decide) h
  have f0 : Nat.gcd n (3 * (5 * (17 * (257 * 65537)))) ∣ 3 * (5 * (17 * (257 * 65537))) := Nat.gcd_dvd_right _ _
  rw [hj] at s0
  obtain ⟨m, hm⟩ : ∃ m, Nat.gcd n (3 * (5 * (17 * (257 * 65537)))) = m := ⟨_, rfl⟩
  rw [hm] at s0 f0
  have s1 := gcd_split (by decide) f0
  have f1 : Nat.gcd m (5 * (17 * (257 * 65537))) ∣ 5 * (17 * (257 * 65537)) := Nat.gcd_dvd_right _ _
  have g3 := dvd_fewer (p := 3) (s := 1) (by omega) (by omega) (by decide) _ (Nat.gcd_dvd_right m 3)
  obtain ⟨m1, hm1⟩ : ∃ x, Nat.gcd m (5 * (17 * (257 * 65537))) = x := ⟨_, rfl⟩
  obtain ⟨a3, ha3⟩ : ∃ x, Nat.gcd m 3 = x := ⟨_, rfl⟩
  rw [hm1] at s1 f1; rw [ha3] at s1 g3
  have s2 := gcd_split (by decide) f1
  have f2 : Nat.gcd m1 (17 * (257 * 65537)) ∣ 17 * (257 * 65537) := Nat.gcd_dvd_right _ _
  have g5 := dvd_fewer (p := 5) (s := 2) (by omega) (by omega) (by decide) _ (Nat.gcd_dvd_right m1 5)
  obtain ⟨m2, hm2⟩ : ∃ x, Nat.gcd m1 (17 * (257 * 65537)) = x := ⟨_, rfl⟩
  obtain ⟨a5, ha5⟩ : ∃ x, Nat.gcd m1 5 = x := ⟨_, rfl⟩
  rw [hm2] at s2 f2; rw [ha5] at s2 g5
  have s3 := gcd_split (by decide) f2
  have f3 : Nat.gcd m2 (257 * 65537) ∣ 257 * 65537 := Nat.gcd_dvd_right _ _
  have g17 := dvd_fewer (p := 17) (s := 4) (by omega) (by omega) (by decide) _ (Nat.gcd_dvd_right m2 17)
  obtain ⟨m3, hm3⟩ : ∃ x, Nat.gcd m2 (257 * 65537) = x := ⟨_, rfl⟩
  obtain ⟨a17, ha17⟩ : ∃ x, Nat.gcd m2 17 = x := ⟨_, rfl⟩
  rw [hm3] at s3 f3; rw [ha17] at s3 g17
  have s4 := gcd_split (by decide) f3
  have g257 := dvd_fewer (p := 257) (s := 16) (by omega) (by omega) (by decide) _ (Nat.gcd_dvd_right m3 257)
  have g655 := dvd_fewer (p := 65537) (s := 256) (by omega) (by omega) (by decide +kernel) _ (Nat.gcd_dvd_right m3 65537)
  obtain ⟨a257, ha257⟩ : ∃ x, Nat.gcd m3 257 = x := ⟨_, rfl⟩
  obtain ⟨a655, ha655⟩ : ∃ x, Nat.gcd m3 65537 = x := ⟨_, rfl⟩
  rw [ha257] at s4 g257; rw [ha655] at s4 g655
  have hmo : m ∈ oddL := by
    rw [s1, s2, s3, s4]
    clear s0 s1 s2 s3 s4 f0 f1 f2 f3 hm hm1 hm2 hm3 ha3 ha5 ha17 ha257 ha655 e h hj
    rcases g3 with rfl | rfl <;> rcases g5 with rfl | rfl <;> rcases g17 with rfl | rfl <;> rcases g257 with rfl | rfl <;> rcases g655 with rfl | rfl <;> decide
  refine ⟨m, hmo, j, ?_, s0⟩
  by_cases hj25 : j < 25
  · exact hj25
  · exfalso
    have h25 : 2 ^ 25 ≤ 2 ^ j := Nat.pow_le_pow_right (by omega) (by omega)
    have e2 : (2 : Nat) ^ 25 = 33554432 := by decide
    have hm0 : 1 ≤ m := by
      rcases Nat.eq_zero_or_pos m with h0 | h0
      · rw [h0] at s0; omega
      · exact h0
    have := Nat.mul_le_mul h25 hm0
    omega
end Go.Proofs.YtcckfeikaolfgaaGreat

namespace Go.Proofs.YtcckfeikaolfgaaGreat
open Go.RowKit
set_option linter.unusedVariables false
set_option linter.unusedSimpArgs false
set_option maxRecDepth 100000
set_option maxHeartbeats 400000 in
theorem gold_Red (a : Int) (w : World) (h0 : 0 ≤ a) (h1 : a < 18446744073709551616) :
    Calls Tryz.prog 53 #[.int .u64 a] w fun e w' => e = .returned (.int .u64 (a % 18446744069414584321)) ∧ w = w' := by
  by_cases h : 18446744069414584321 ≤ a
  all_goals
    go_enter Tryz.func53, Tryz.ntmps53
    go_wp2
    go_ret
    exact ⟨ret_int (by omega), rfl⟩
theorem add64 (x y : Int) (hx0 : 0 ≤ x) (hx : x < 18446744073709551616) (hy0 : 0 ≤ y) (hy : y < 18446744073709551616) (w : World) :
    (callFunc 99 #[.int .u64 x, .int .u64 y, .int .u64 0]).run Tryz.prog w = .ok (.value (.tuple #[.int .u64 ((x + y) % 18446744073709551616), .int .u64 ((x + y) / 18446744073709551616)])) w := by
  rw [run_callFunc_extern Tryz.func99 (by kernel_rfl) (by kernel_rfl) (by kernel_rfl) (e := add64Entry) (by kernel_rfl), run_add64 x y 0 (by omega) (by omega) (by omega) (by omega)]
  simp
theorem sub64 (x y : Int) (hx0 : 0 ≤ x) (hx : x < 18446744073709551616) (hy0 : 0 ≤ y) (hy : y < 18446744073709551616) (w : World) :
    (callFunc 111 #[.int .u64 x, .int .u64 y, .int .u64 0]).run Tryz.prog w = .ok (.value (.tuple #[.int .u64 ((x - y) % 18446744073709551616), .int .u64 (if x < y then 1 else 0)])) w := by
  obtain ⟨a, rfl⟩ := Int.eq_ofNat_of_zero_le hx0
  obtain ⟨b, rfl⟩ := Int.eq_ofNat_of_zero_le hy0
  have h := Go.Proofs.run_sub64 (P := Tryz.prog) a b 0 (by omega) w
  have e1 : (((a + 18446744073709551616 - b - 0) % 18446744073709551616 : Nat) : Int) = ((a : Int) - b) % 18446744073709551616 := by omega
  have e2 : ((if a < b + 0 then 1 else 0 : Nat) : Int) = if (a : Int) < b then 1 else 0 := by
    by_cases hab : a < b
    · rw [if_pos (by omega), if_pos (by omega)]; rfl
    · rw [if_neg (by omega), if_neg (by omega)]; rfl
  rw [e1, e2] at h
  rw [run_callFunc_extern Tryz.func111 (by kernel_rfl) (by kernel_rfl) (by kernel_rfl) (e := Go.Proofs.sub64Entry) (by kernel_rfl)]
  have h' : (Go.Proofs.sub64Entry #[.int .u64 (a : Int), .int .u64 (b : Int), .int .u64 0]).run Tryz.prog w = _ := h
  rw [h']
  rfl
set_option maxHeartbeats 400000 in
theorem gold_Add (a b : Int) (w : World) (ha0 : 0 ≤ a) (ha : a < 18446744073709551616) (hb0 : 0 ≤ b) (hb : b < 18446744073709551616) :
    Calls Tryz.prog 80 #[.int .u64 a, .int .u64 b] w fun e w' => e = .returned (.int .u64 ((a + b) % 18446744069414584321)) ∧ w = w' := by
  have e1 := add64 (a % 18446744069414584321) (b % 18446744069414584321) (by omega) (by omega) (by omega) (by omega) w
  go_enter Tryz.func80, Tryz.ntmps80
  go_wp2_with fail
  refine (gold_Red a _ ha0 ha).mono ?_; rintro e w' ⟨rfl, rfl⟩
  go_wp2_with fail
  refine (gold_Red b _ hb0 hb).mono ?_; rintro e w' ⟨rfl, rfl⟩
  go_wp2_with fail
  all_goals
    go_ret
    refine ⟨ret_int ?_, rfl⟩
    simp only [beq_iff_eq, beq_eq_false_iff_ne, IntKind.wrap_u64] at *
    omega
set_option maxHeartbeats 400000 in
theorem gold_Neg (a : Int) (w : World) (ha0 : 0 ≤ a) (ha : a < 18446744073709551616) :
    Calls Tryz.prog 126 #[.int .u64 a] w fun e w' => e = .returned (.int .u64 ((-a) % 18446744069414584321)) ∧ w = w' := by
  go_enter Tryz.func126, Tryz.ntmps126
  go_wp2_with fail
  refine (gold_Red a _ ha0 ha).mono ?_; rintro e w' ⟨rfl, rfl⟩
  go_wp2_with fail
  all_goals
    go_ret
    refine ⟨ret_int ?_, rfl⟩
    try simp only [bne_iff_ne, bne_eq_false_iff_eq] at *
    omega
set_option maxHeartbeats 400000 in
theorem gold_Sub (a b : Int) (w : World) (ha0 : 0 ≤ a) (ha : a < 18446744073709551616) (hb0 : 0 ≤ b) (hb : b < 18446744073709551616) :
    Calls Tryz.prog 113 #[.int .u64 a, .int .u64 b] w fun e w' => e = .returned (.int .u64 ((a - b) % 18446744069414584321)) ∧ w = w' := by
  go_enter Tryz.func113, Tryz.ntmps113
  go_wp2_with fail
  refine (gold_Neg b _ hb0 hb).mono ?_; rintro e w' ⟨rfl, rfl⟩
  go_wp2_with fail
  refine (gold_Add a _ _ ha0 ha (by omega) (by omega)).mono ?_; rintro e w' ⟨rfl, rfl⟩
  go_wp2_with fail
  go_ret
  exact ⟨ret_int (by omega), rfl⟩
theorem add64_lt (x y : Int) (hx0 : 0 ≤ x) (hy0 : 0 ≤ y) (h : x + y < 18446744073709551616) (w : World) :
    (callFunc 99 #[.int .u64 x, .int .u64 y, .int .u64 0]).run Tryz.prog w = .ok (.value (.tuple #[.int .u64 (x + y), .int .u64 0])) w := by
  rw [add64 x y hx0 (by omega) hy0 (by omega) w, Int.emod_eq_of_lt (by omega) h, Int.ediv_eq_zero_of_lt (by omega) h]
theorem add64_ge (x y : Int) (hx0 : 0 ≤ x) (hx : x < 18446744073709551616) (hy0 : 0 ≤ y) (hy : y < 18446744073709551616) (h : 18446744073709551616 ≤ x + y) (w : World) :
    (callFunc 99 #[.int .u64 x, .int .u64 y, .int .u64 0]).run Tryz.prog w = .ok (.value (.tuple #[.int .u64 (x + y - 18446744073709551616), .int .u64 1])) w := by
  rw [add64 x y hx0 hx hy0 hy w, show (x + y) % 18446744073709551616 = x + y - 18446744073709551616 from by omega, show (x + y) / 18446744073709551616 = 1 from by omega]
theorem sub64_ge (x y : Int) (hx : x < 18446744073709551616) (hy0 : 0 ≤ y) (h : y ≤ x) (w : World) :
    (callFunc 111 #[.int .u64 x, .int .u64 y, .int .u64 0]).run Tryz.prog w = .ok (.value (.tuple #[.int .u64 (x - y), .int .u64 0])) w := by
  rw [sub64 x y (by omega) hx hy0 (by omega) w, show (x - y) % 18446744073709551616 = x - y from by omega, if_neg (by omega)]
theorem sub64_lt (x y : Int) (hx0 : 0 ≤ x) (hy : y < 18446744073709551616) (h : x < y) (w : World) :
    (callFunc 111 #[.int .u64 x, .int .u64 y, .int .u64 0]).run Tryz.prog w = .ok (.value (.tuple #[.int .u64 (x - y + 18446744073709551616), .int .u64 1])) w := by
  rw [sub64 x y hx0 (by omega) (by omega) hy w, show (x - y) % 18446744073709551616 = x - y + 18446744073709551616 from by omega, if_pos h]
set_option maxHeartbeats 800000 in
theorem gold_fold (hi lo : Int) (w : World) (ha0 : 0 ≤ hi) (ha : hi < 18446744073709551616) (hb0 : 0 ≤ lo) (hb : lo < 18446744073709551616) :
    Calls Tryz.prog 92 #[.int .u64 hi, .int .u64 lo] w fun e w' => e = .returned (.int .u64 ((hi * 18446744073709551616 + lo) % 18446744069414584321)) ∧ w = w' := by
  have m1 := and_low32 hi ha0 ha
  by_cases h1 : lo < hi / 4294967296
  · have e1 := sub64_lt lo (hi / 4294967296) hb0 (by omega) h1 w
    by_cases h2 : lo - hi / 4294967296 + 18446744073709551616 - 4294967295 + hi % 4294967296 * 4294967295 < 18446744073709551616
    · have e2 := add64_lt (lo - hi / 4294967296 + 18446744073709551616 - 4294967295) (hi % 4294967296 * 4294967295) (by omega) (by omega) h2 w
      go_enter Tryz.func92, Tryz.ntmps92
      go_wp2_with fail
      refine (gold_Red _ _ (by omega) (by omega)).mono ?_; rintro e w' ⟨rfl, rfl⟩
      go_wp2_with fail
      go_ret
      exact ⟨ret_int (by omega), rfl⟩
    · have e2 := add64_ge (lo - hi / 4294967296 + 18446744073709551616 - 4294967295) (hi % 4294967296 * 4294967295) (by omega) (by omega) (by omega) (by omega) (by omega) w
      go_enter Tryz.func92, Tryz.ntmps92
      go_wp2_with fail
      refine (gold_Red _ _ (by omega) (by omega)).mono ?_; rintro e w' ⟨rfl, rfl⟩
      go_wp2_with fail
      go_ret
      exact ⟨ret_int (by omega), rfl⟩
  · have e1 := sub64_ge lo (hi / 4294967296) hb (by omega) (by omega) w
    by_cases h2 : lo - hi / 4294967296 + hi % 4294967296 * 4294967295 < 18446744073709551616
    · have e2 := add64_lt (lo - hi / 4294967296) (hi % 4294967296 * 4294967295) (by omega) (by omega) h2 w
      go_enter Tryz.func92, Tryz.ntmps92
      go_wp2_with fail
      refine (gold_Red _ _ (by omega) (by omega)).mono ?_; rintro e w' ⟨rfl, rfl⟩
      go_wp2_with fail
      go_ret
      exact ⟨ret_int (by omega), rfl⟩
    · have e2 := add64_ge (lo - hi / 4294967296) (hi % 4294967296 * 4294967295) (by omega) (by omega) (by omega) (by omega) (by omega) w
      go_enter Tryz.func92, Tryz.ntmps92
      go_wp2_with fail
      refine (gold_Red _ _ (by omega) (by omega)).mono ?_; rintro e w' ⟨rfl, rfl⟩
      go_wp2_with fail
      go_ret
      exact ⟨ret_int (by omega), rfl⟩
end Go.Proofs.YtcckfeikaolfgaaGreat

namespace Go.Proofs.YtcckfeikaolfgaaGreat.Fld
/-- The prime. -/
def pn : Nat := 18446744069414584321
theorem pn_pos : 0 < pn := by decide
theorem pow_add_mod (a m n p : Nat) : a ^ (m + n) % p = (a ^ m % p) * (a ^ n % p) % p := by
  rw [Nat.pow_add, Nat.mul_mod]
theorem pow_mul_one (a b q p : Nat) (hp : 1 < p) (h : a ^ b % p = 1) : a ^ (b * q) % p = 1 := by
  rw [Nat.pow_mul, Nat.pow_mod, h]
  simp [Nat.mod_eq_of_lt hp]
theorem pow_mod_one (a m b p : Nat) (hp : 1 < p) (hb : a ^ b % p = 1) : a ^ (m % b) % p = a ^ m % p := by
  have e : m = b * (m / b) + m % b := (Nat.div_add_mod m b).symm
  have h : a ^ m % p = (a ^ (b * (m / b)) % p) * (a ^ (m % b) % p) % p := by
    rw [← pow_add_mod, ← e]
  rw [h, pow_mul_one a b _ p hp hb, Nat.one_mul, Nat.mod_mod]
theorem pow_gcd_one (a p : Nat) (hp : 1 < p) (m n : Nat) : a ^ m % p = 1 → a ^ n % p = 1 → a ^ (Nat.gcd m n) % p = 1 := by
  induction m, n using Nat.gcd.induction with
  | H0 n => intro _ h; simpa using h
  | H1 m n hm ih =>
    intro h1 h2
    rw [Nat.gcd_rec]
    exact ih (by rw [pow_mod_one a n m p hp h1]; exact h2) h1
/-- A power modulo p, by squares. -/
def pm (p : Nat) : Nat → Nat → Nat → Nat
  | 0, _, _ => 1 % p
  | f + 1, a, n => if n % 2 = 1 then (a * pm p f (a * a % p) (n / 2)) % p else pm p f (a * a % p) (n / 2)
theorem pm_eq (p : Nat) (f : Nat) : ∀ a n, n < 2 ^ f → pm p f a n = a ^ n % p := by
  induction f with
  | zero => intro a n h; have : n = 0 := by simpa using h
            subst this; simp [pm]
  | succ f ih =>
    intro a n h
    have h2 : n / 2 < 2 ^ f := by rw [Nat.pow_succ] at h; omega
    have e : (a * a % p) ^ (n / 2) % p = a ^ (2 * (n / 2)) % p := by
      rw [← Nat.pow_mod, Nat.pow_mul, Nat.pow_two]
    simp only [pm, ih _ _ h2, e]
    split
    · rename_i h1
      have e2 : n = 2 * (n / 2) + 1 := by omega
      rw [Nat.mul_mod_mod, ← Nat.pow_succ', Nat.succ_eq_add_one, ← e2]
    · rename_i h1
      have e2 : n = 2 * (n / 2) := by omega
      rw [← e2]
theorem dvd_small (q : Nat) (hq : q = 2 ∨ q = 3 ∨ q = 5 ∨ q = 17 ∨ q = 257 ∨ q = 65537) (m : Nat) : q ∣ m ∨ Nat.gcd m q = 1 := by
  have hd : Nat.gcd m q ∣ q := Nat.gcd_dvd_right m q
  have key : ∀ d, d ∣ q → d = 1 ∨ d = q := by
    intro d ⟨e, he⟩
    have hall : ∀ q ∈ [2, 3, 5, 17, 257, 65537], ∀ d ∈ List.range 257, d ≤ 1 ∨ d = q ∨ q % d ≠ 0 := by decide +kernel
    have hq' : q ∈ [2, 3, 5, 17, 257, 65537] := by simp; exact hq
    have hpos : 0 < q := by rcases hq with h | h | h | h | h | h <;> omega
    have d0 : d ≠ 0 := by rintro rfl; simp at he; omega
    have e0 : e ≠ 0 := by rintro rfl; simp at he; omega
    by_cases hd : d ≤ 256
    · rcases hall q hq' d (by simp; omega) with h | h | h
      · left; omega
      · right; exact h
      · exfalso; apply h; rw [he]; simp
    · by_cases he' : e ≤ 256
      · rcases hall q hq' e (by simp; omega) with h | h | h
        · have : e = 1 := by omega
          subst this; right; omega
        · have h3 : q * d = q * 1 := by rw [Nat.mul_comm q d, ← h, ← he]; omega
          have := Nat.eq_of_mul_eq_mul_left hpos h3
          left; exact this
        · exfalso; apply h; rw [he]; simp
      · exfalso
        have : 257 * 257 ≤ d * e := Nat.mul_le_mul (by omega) (by omega)
        rcases hq with h | h | h | h | h | h <;> omega
  rcases key _ hd with h | h
  · exact Or.inr h
  · exact Or.inl (h ▸ Nat.gcd_dvd_left m q)
theorem split_off (m a b : Nat) (h : m ∣ a * b) (hc : Nat.gcd m a = 1) : m ∣ b :=
  Nat.Coprime.dvd_of_dvd_mul_left (k := m) (m := a) (n := b) hc h
theorem gcd_pow_one (m a n : Nat) (h : Nat.gcd m a = 1) : Nat.gcd m (a ^ n) = 1 :=
  Nat.Coprime.pow_right n h
theorem seven (k : Nat) (h : 7 ^ k % pn = 1) : pn - 1 ∣ k := by
  have hp : 1 < pn := by decide
  have h1 : 7 ^ (pn - 1) % pn = 1 := by rw [← pm_eq pn 64 7 _ (by decide)]; decide +kernel
  have hg := pow_gcd_one 7 pn hp k (pn - 1) h h1
  obtain ⟨m, hm⟩ := Nat.gcd_dvd_right k (pn - 1)
  have hmd : m ∣ pn - 1 := ⟨Nat.gcd k (pn - 1), by rw [Nat.mul_comm]; exact hm⟩
  have no : ∀ q, (q = 2 ∨ q = 3 ∨ q = 5 ∨ q = 17 ∨ q = 257 ∨ q = 65537) → Nat.gcd m q = 1 := by
    intro q hq
    rcases dvd_small q hq m with ⟨c, hc⟩ | h'
    · exfalso
      have hq0 : 0 < q := by omega
      have e1 : (pn - 1) / q = Nat.gcd k (pn - 1) * c := by
        have : pn - 1 = q * (Nat.gcd k (pn - 1) * c) := by rw [← Nat.mul_assoc, Nat.mul_comm q, Nat.mul_assoc, ← hc]; exact hm
        rw [this, Nat.mul_div_cancel_left _ hq0, ← this]
      have e2 : 7 ^ ((pn - 1) / q) % pn = 1 := by rw [e1]; exact pow_mul_one _ _ _ _ hp hg
      rw [← pm_eq pn 64 7 _ (Nat.lt_of_le_of_lt (Nat.div_le_self _ _) (by decide))] at e2
      revert e2
      rcases hq with h | h | h | h | h | h <;> subst h <;> decide +kernel
    · exact h'
  have f : pn - 1 = 2 ^ 32 * (3 * (5 * (17 * (257 * (65537 * 1))))) := by decide +kernel
  rw [f] at hmd
  have m1 := split_off _ _ _ hmd (gcd_pow_one _ _ _ (no 2 (by simp)))
  have m2 := split_off _ _ _ m1 (no 3 (by simp))
  have m3 := split_off _ _ _ m2 (no 5 (by simp))
  have m4 := split_off _ _ _ m3 (no 17 (by simp))
  have m5 := split_off _ _ _ m4 (no 257 (by simp))
  have m6 := split_off _ _ _ m5 (no 65537 (by simp))
  have : m = 1 := Nat.dvd_one.1 m6
  rw [this, Nat.mul_one] at hm
  rw [hm]
  exact Nat.gcd_dvd_left k (pn - 1)
/-- Pigeons: what takes n places to n places, no two to one, meets each. -/
theorem onto (n : Nat) : ∀ f : Nat → Nat, (∀ i, i < n → f i < n) → (∀ i j, i < j → j < n → f i ≠ f j) → ∀ b, b < n → ∃ i, i < n ∧ f i = b := by
  induction n with
  | zero => intro f _ _ b hb; omega
  | succ n ih =>
    intro f hf hi b hb
    by_cases hlast : f n = b
    · exact ⟨n, by omega, hlast⟩
    · -- strike f n out of the places
      let t : Nat := f n
      let g : Nat → Nat := fun i => if f i < t then f i else f i - 1
      have ht : t < n + 1 := hf n (by omega)
      have hg : ∀ i, i < n → g i < n := by
        intro i hi'
        have h1 := hf i (by omega)
        have h2 := hi i n hi' (by omega)
        show (if f i < t then f i else f i - 1) < n
        have h3 : f i ≠ t := h2
        split <;> omega
      have hinj : ∀ i j, i < j → j < n → g i ≠ g j := by
        intro i j hij hj
        have h1 := hi i j hij (by omega)
        have h2 : f i ≠ t := hi i n (by omega) (by omega)
        have h3 : f j ≠ t := hi j n (by omega) (by omega)
        show (if f i < t then f i else f i - 1) ≠ (if f j < t then f j else f j - 1)
        split <;> split <;> omega
      have hbt : b ≠ t := fun e => hlast e.symm
      obtain ⟨i, hi1, hi2⟩ := ih g hg hinj (if b < t then b else b - 1) (by split <;> omega)
      refine ⟨i, by omega, ?_⟩
      have h2 : f i ≠ t := hi i n (by omega) (by omega)
      have h3 : (if f i < t then f i else f i - 1) = (if b < t then b else b - 1) := hi2
      revert h3
      split <;> split <;> omega
theorem seven_pow_ne_zero (k : Nat) : 7 ^ k % pn ≠ 0 := by
  have hp : 1 < pn := by decide
  have h1 : 7 ^ (pn - 1) % pn = 1 := by rw [← pm_eq pn 64 7 _ (by decide)]; decide +kernel
  intro h
  have h2 : 7 ^ ((pn - 1) * k) % pn = 1 := pow_mul_one _ _ _ _ hp h1
  have e : (pn - 1) * k = k + (pn - 2) * k := by
    have : pn - 1 = 1 + (pn - 2) := by decide
    rw [this, Nat.add_mul, Nat.one_mul]
  rw [e, pow_add_mod, h] at h2
  simp at h2
/-- Each number that P does not divide is a power of 7. -/
theorem power (a : Nat) (h : a % pn ≠ 0) : ∃ i, 7 ^ i % pn = a % pn := by
  have hp : 1 < pn := by decide
  have key := onto (pn - 1) (fun i => 7 ^ i % pn - 1) (fun i _ => by
      have := Nat.mod_lt (7 ^ i) pn_pos
      have := seven_pow_ne_zero i
      show 7 ^ i % pn - 1 < pn - 1
      omega) (fun i j hij hj => by
      show 7 ^ i % pn - 1 ≠ 7 ^ j % pn - 1
      have h1 := seven_pow_ne_zero i
      have h2 := seven_pow_ne_zero j
      intro e
      have e' : 7 ^ i % pn = 7 ^ j % pn := by omega
      -- 7 ^ (j - i) leaves 1
      have hone : 7 ^ (pn - 1) % pn = 1 := by rw [← pm_eq pn 64 7 _ (by decide)]; decide +kernel
      have c : 7 ^ (j - i) % pn = 1 := by
        have hA : 7 ^ ((pn - 1) * i - i + j) % pn = 7 ^ ((pn - 1) * i - i + i) % pn := by
          rw [pow_add_mod, ← e', ← pow_add_mod]
        have hle : i ≤ (pn - 1) * i := Nat.le_mul_of_pos_left i (by decide)
        have e1 : (pn - 1) * i - i + i = (pn - 1) * i := by omega
        have e2 : (pn - 1) * i - i + j = (pn - 1) * i + (j - i) := by omega
        rw [e1, e2, pow_add_mod, pow_mul_one _ _ _ _ hp hone, Nat.one_mul, Nat.mod_mod] at hA
        exact hA
      have hd := seven (j - i) c
      have := Nat.le_of_dvd (by omega) hd
      omega) (a % pn - 1) (by have := Nat.mod_lt a pn_pos; omega)
  obtain ⟨i, _, hi⟩ := key
  refine ⟨i, ?_⟩
  have := seven_pow_ne_zero i
  have hi' : 7 ^ i % pn - 1 = a % pn - 1 := hi
  omega
/-- Fermat's theorem at P. -/
theorem fermat (a : Nat) (h : a % pn ≠ 0) : a ^ (pn - 1) % pn = 1 := by
  have hp : 1 < pn := by decide
  have hone : 7 ^ (pn - 1) % pn = 1 := by rw [← pm_eq pn 64 7 _ (by decide)]; decide +kernel
  obtain ⟨i, hi⟩ := power a h
  rw [Nat.pow_mod, ← hi, ← Nat.pow_mod, ← Nat.pow_mul, Nat.mul_comm]
  exact pow_mul_one _ _ _ _ hp hone
end Go.Proofs.YtcckfeikaolfgaaGreat.Fld

namespace Go.Proofs.YtcckfeikaolfgaaGreat
open Go.RowKit
set_option linter.unusedVariables false
set_option linter.unusedSimpArgs false
set_option maxRecDepth 100000
set_option maxHeartbeats 1000000 in
theorem bits_Mul64 (x y : Nat) (hx : x < 18446744073709551616) (hy : y < 18446744073709551616) (w : World) :
    Calls Tryz.prog 91 #[.int .u64 x, .int .u64 y] w fun e w' => e = .returned (.tuple #[.int .u64 ((x * y / 18446744073709551616 : Nat) : Int), .int .u64 ((x * y % 18446744073709551616 : Nat) : Int)]) ∧ w = w' := by
  obtain ⟨bd, bt, bw, hhi⟩ := Lib.mul64_hi x y hx hy
  have ba := Lib.half_mul_le (a := x / 4294967296) (b := y / 4294967296) (by omega) (by omega)
  have bb := Lib.half_mul_le (a := x / 4294967296) (b := y % 4294967296) (by omega) (by omega)
  have bc := Lib.half_mul_le (a := x % 4294967296) (b := y / 4294967296) (by omega) (by omega)
  have ba' : x / 4294967296 * (y / 4294967296) < 18446744073709551616 := by omega
  have bb' : x / 4294967296 * (y % 4294967296) < 18446744073709551616 := by omega
  have bc' : x % 4294967296 * (y / 4294967296) < 18446744073709551616 := by omega
  have bh1 : x / 4294967296 * (y / 4294967296) + (x / 4294967296 * (y % 4294967296) + x % 4294967296 * (y % 4294967296) / 4294967296) / 4294967296 < 18446744073709551616 := by omega
  have bh : x / 4294967296 * (y / 4294967296) + (x / 4294967296 * (y % 4294967296) + x % 4294967296 * (y % 4294967296) / 4294967296) / 4294967296 + ((x / 4294967296 * (y % 4294967296) + x % 4294967296 * (y % 4294967296) / 4294967296) % 4294967296 + x % 4294967296 * (y / 4294967296)) / 4294967296 < 18446744073709551616 := by omega
  go_enter Tryz.func91, Tryz.ntmps91
  go_wp2
  simp only [Go.Proofs.Mul64.maskN x hx, Go.Proofs.Mul64.maskN y hy, Go.Proofs.Mul64.divN, Go.Proofs.Mul64.mulN, Go.Proofs.Mul64.addN, Go.Proofs.Mul64.wrapN _ bd, Go.Proofs.Mul64.wrapN _ bb', Go.Proofs.Mul64.wrapN _ bt, Go.Proofs.Mul64.maskN _ bt, Go.Proofs.Mul64.wrapN _ bc', Go.Proofs.Mul64.wrapN _ bw, Go.Proofs.Mul64.wrapN _ ba', Go.Proofs.Mul64.wrapN _ bh1, Go.Proofs.Mul64.wrapN _ bh, Go.Proofs.Mul64.wrapM (x * y)]
  rw [hhi]
  go_ret2
  exact ⟨rfl, rfl⟩
theorem mul64_any (x y : Int) (w : World) (hx0 : 0 ≤ x) (hx : x < 18446744073709551616) (hy0 : 0 ≤ y) (hy : y < 18446744073709551616) :
    Calls Tryz.prog 91 #[.int .u64 x, .int .u64 y] w fun e w' => e = .returned (.tuple #[.int .u64 (x * y / 18446744073709551616), .int .u64 (x * y % 18446744073709551616)]) ∧ w = w' := by
  obtain ⟨a, rfl⟩ := Int.eq_ofNat_of_zero_le hx0
  obtain ⟨b, rfl⟩ := Int.eq_ofNat_of_zero_le hy0
  refine (bits_Mul64 a b (by omega) (by omega) w).mono fun e w' ⟨he, hw⟩ => ⟨?_, hw⟩
  rw [he]
  simp only [Int.natCast_ediv, Int.natCast_emod, Int.natCast_mul]
  rfl
theorem mul_lt (x y : Int) (hx0 : 0 ≤ x) (hx : x < 18446744073709551616) (hy0 : 0 ≤ y) (hy : y < 18446744073709551616) : 0 ≤ x * y ∧ x * y < 18446744073709551616 * 18446744073709551616 :=
  ⟨Int.mul_nonneg hx0 hy0, Int.lt_of_le_of_lt (Int.mul_le_mul_of_nonneg_right (by omega : x ≤ 18446744073709551616) hy0) (Int.mul_lt_mul_of_pos_left hy (by omega))⟩
set_option maxHeartbeats 400000 in
theorem gold_Mul (a b : Int) (w : World) (ha0 : 0 ≤ a) (ha : a < 18446744073709551616) (hb0 : 0 ≤ b) (hb : b < 18446744073709551616) :
    Calls Tryz.prog 68 #[.int .u64 a, .int .u64 b] w fun e w' => e = .returned (.int .u64 (a * b % 18446744069414584321)) ∧ w = w' := by
  obtain ⟨m0, m1⟩ := mul_lt a b ha0 ha hb0 hb
  go_enter Tryz.func68, Tryz.ntmps68
  go_wp2_with fail
  refine (mul64_any a b _ ha0 ha hb0 hb).mono ?_; rintro e w' ⟨rfl, rfl⟩
  go_wp2_with fail
  refine (gold_fold _ _ _ (by omega) (by omega) (by omega) (by omega)).mono ?_; rintro e w' ⟨rfl, rfl⟩
  go_wp2_with fail
  go_ret
  exact ⟨ret_int (by omega), rfl⟩
set_option maxHeartbeats 400000 in
theorem gold_Half (a : Int) (w : World) (ha0 : 0 ≤ a) (ha : a < 18446744073709551616) :
    Calls Tryz.prog 137 #[.int .u64 a] w fun e w' => e = .returned (.int .u64 (a * 9223372034707292161 % 18446744069414584321)) ∧ w = w' := by
  go_enter Tryz.func137, Tryz.ntmps137
  go_wp2_with fail
  refine (gold_Red a _ ha0 ha).mono ?_; rintro e w' ⟨rfl, rfl⟩
  have hm := and_one_u64 (a % 18446744069414584321) (by omega) (by omega)
  go_wp2_with fail
  all_goals
    go_ret
    refine ⟨ret_int ?_, rfl⟩
    simp only [beq_iff_eq, beq_eq_false_iff_ne] at *
    omega
/-- A power, modulo P. (Irreducible: else a tactic that brings terms to head form would reckon it.) -/
@[irreducible] def pw (a : Int) (n : Nat) : Int := a ^ n % 18446744069414584321
theorem pw_range (a : Int) (n : Nat) : 0 ≤ pw a n ∧ pw a n < 18446744069414584321 := by
  unfold pw; omega
theorem modmul_l (a b p : Int) : (a % p) * b % p = a * b % p := by rw [Int.mul_emod, Int.emod_emod, ← Int.mul_emod]
theorem modmul_r (a b p : Int) : a * (b % p) % p = a * b % p := by rw [Int.mul_emod, Int.emod_emod, ← Int.mul_emod]
theorem modpow (a p : Int) (n : Nat) : (a % p) ^ n % p = a ^ n % p := by
  induction n with
  | zero => simp
  | succ n ih => rw [Int.pow_succ, Int.pow_succ, modmul_r, ← modmul_l, ih, modmul_l]
theorem pow_step0 (p a : Int) (m : Nat) (h : m % 2 = 0) : p * (a * a % 18446744069414584321) ^ (m / 2) % 18446744069414584321 = p * a ^ m % 18446744069414584321 := by
  have e : a ^ m = (a * a) ^ (m / 2) := by
    rw [show a * a = a ^ 2 from by rw [Int.pow_succ, Int.pow_succ, Int.pow_zero, Int.one_mul], ← Int.pow_mul, show 2 * (m / 2) = m from by omega]
  rw [e, ← modmul_r, modpow, modmul_r]
theorem pow_step1 (p a : Int) (m : Nat) (h : m % 2 = 1) : (p * a % 18446744069414584321) * (a * a % 18446744069414584321) ^ (m / 2) % 18446744069414584321 = p * a ^ m % 18446744069414584321 := by
  have h2 := pow_step0 (p * a % 18446744069414584321) a (m - 1) (by omega)
  rw [show (m - 1) / 2 = m / 2 from by omega] at h2
  rw [h2, modmul_l]
  rw [Int.mul_assoc, ← Int.pow_succ', show m - 1 + 1 = m from by omega]
set_option maxHeartbeats 400000 in
theorem gold_Pow (a n : Int) (w : World) (ha0 : 0 ≤ a) (ha : a < 18446744073709551616) (hn0 : 0 ≤ n) (hn : n < 18446744073709551616) :
    Calls Tryz.prog 93 #[.int .u64 a, .int .u64 n] w fun e w' => e = .returned (.int .u64 (pw a n.toNat)) ∧ w = w' := by
  go_enter Tryz.func93, Tryz.ntmps93
  go_wp2_with fail
  refine (gold_Red a _ ha0 ha).mono ?_; rintro e w' ⟨rfl, rfl⟩
  go_wp2_with fail
  go_loop [5, 0, 1] (fun v5 v0 v1 => ∃ p b m : Int, v5 = .int .u64 p ∧ v0 = .int .u64 b ∧ v1 = .int .u64 m ∧ 0 ≤ p ∧ p < 18446744069414584321 ∧ 0 ≤ b ∧ b < 18446744069414584321 ∧ 0 ≤ m ∧ m < 18446744073709551616 ∧ Hid (p * b ^ m.toNat % 18446744069414584321 = pw a n.toNat)) (fun v5 v0 v1 => (intOf v1).toNat)
  case atStart =>
    refine ⟨1, a % 18446744069414584321, n, rfl, rfl, rfl, by omega, by omega, by omega, by omega, hn0, hn, ?_⟩
    unfold Hid pw
    rw [Int.one_mul, modpow]
  case round =>
    obtain ⟨p, b, m, rfl, rfl, rfl, hp0, hp, hb0, hb, hm0, hm, H⟩ := hrel
    by_cases h0 : 0 < m
    · have ha := and_one_u64 m (by omega) (by omega)
      have hs : IntKind.u64.wrap (m / 2) = m / 2 := by rw [IntKind.wrap_u64]; omega
      by_cases h1 : m % 2 = 1
      · have hb1 : (m % 2 == 1) = true := by rw [beq_iff_eq]; exact h1
        have H1 := Lib.hid h1; clear h1
        go_wp2_with fail
        refine (gold_Mul p b _ (by omega) (by omega) (by omega) (by omega)).mono ?_; rintro e w' ⟨rfl, rfl⟩
        go_wp2_with fail
        refine (gold_Mul b b _ (by omega) (by omega) (by omega) (by omega)).mono ?_; rintro e w' ⟨rfl, rfl⟩
        go_wp2_with fail
        go_round
        case rel =>
          refine ⟨p * b % 18446744069414584321, b * b % 18446744069414584321, m / 2, rfl, rfl, rfl, by omega, by omega, by omega, by omega, by omega, by omega, ?_⟩
          unfold Hid
          have e1 : (m / 2).toNat = m.toNat / 2 := by omega
          have h1 := H1.out
          rw [e1, pow_step1 _ _ _ (by omega)]; exact H.out
        case measure => simp [intOf]; omega
      · have hb1 : (m % 2 == 1) = false := by rw [beq_eq_false_iff_ne]; exact h1
        have H1 := Lib.hid h1; clear h1
        go_wp2_with fail
        refine (gold_Mul b b _ (by omega) (by omega) (by omega) (by omega)).mono ?_; rintro e w' ⟨rfl, rfl⟩
        go_wp2_with fail
        go_round
        case rel =>
          refine ⟨p, b * b % 18446744069414584321, m / 2, rfl, rfl, rfl, by omega, by omega, by omega, by omega, by omega, by omega, ?_⟩
          unfold Hid
          have e1 : (m / 2).toNat = m.toNat / 2 := by omega
          have h1 := H1.out
          rw [e1, pow_step0 _ _ _ (by omega)]; exact H.out
        case measure => simp [intOf]; omega
    · go_wp2_with fail
      go_ret
      refine ⟨ret_int ?_, rfl⟩
      have h := H.out
      rw [show m.toNat = 0 from by omega, Int.pow_zero, Int.mul_one] at h
      omega
theorem gold_Inv (a : Int) (w : World) (ha0 : 0 ≤ a) (ha : a < 18446744073709551616) :
    Calls Tryz.prog 94 #[.int .u64 a] w fun e w' => e = .returned (.int .u64 (pw a 18446744069414584319)) ∧ w = w' := by
  go_enter Tryz.func94, Tryz.ntmps94
  go_wp2_with fail
  refine (gold_Pow a _ _ ha0 ha (by omega) (by omega)).mono ?_; rintro e w' ⟨rfl, rfl⟩
  go_wp2_with fail
  go_ret
  exact ⟨rfl, rfl⟩
/-- The sum of all, modulo P. -/
def sumP (xs : List Int) : Int := xs.foldl (fun s x => (s + x) % 18446744069414584321) 0
theorem sumP_snoc (xs : List Int) (x : Int) : sumP (xs ++ [x]) = (sumP xs + x) % 18446744069414584321 := by
  simp [sumP, List.foldl_append]
theorem sumP_range (xs : List Int) : 0 ≤ sumP xs ∧ sumP xs < 18446744069414584321 := by
  rcases List.eq_nil_or_concat xs with rfl | ⟨l, b, rfl⟩
  · simp [sumP]
  · rw [List.concat_eq_append, sumP_snoc]; omega
set_option maxHeartbeats 400000 in
theorem gold_Sum (a : Option Addr) (cap : Nat) (xs : List Int) (w : World) (hx : Row .u64 w a xs) :
    Calls Tryz.prog 89 #[.slice a xs.length cap] w fun e w' => e = .returned (.int .u64 (sumP xs)) ∧ w = w' := by
  have hlen := hx.len
  have HX : Hid (Row .u64 w a xs) := hx
  clear hx
  go_enter Tryz.func89, Tryz.ntmps89
  go_wp2_with fail
  go_loop [3, 8] (fun s i => ∃ k : Nat, k ≤ xs.length ∧ i = .int .i64 k ∧ s = .int .u64 (sumP (xs.take k))) (fun _ i => xs.length - (intOf i).toNat)
  case atStart => exact ⟨0, Nat.zero_le _, rfl, rfl⟩
  case round =>
    obtain ⟨k, hk, rfl, rfl⟩ := hrel
    have hs := sumP_range (xs.take k)
    by_cases hlt : k < xs.length
    · obtain ⟨b, off, rfl, hc⟩ := HX.out.at (by omega)
      have hck := hc k hlt
      have hf := fits_u64.1 (HX.out.wf _ (nth_mem hlt))
      clear hc
      go_wp2_with fail
      refine (gold_Add _ _ _ (by omega) (by omega) (by omega) (by omega)).mono ?_; rintro e w' ⟨rfl, rfl⟩
      go_wp2_with fail
      go_round
      case rel => exact ⟨k + 1, by omega, by go_num, by rw [take_succ_nth hlt, sumP_snoc]⟩
      case measure => simp [intOf]; omega
    · go_wp2_with fail
      go_ret
      exact ⟨ret_int (by rw [List.take_of_length_le (by omega)]), rfl⟩
end Go.Proofs.YtcckfeikaolfgaaGreat

namespace Go.Proofs.YtcckfeikaolfgaaGreat
open Go.RowKit
set_option linter.unusedVariables false
set_option linter.unusedSimpArgs false
set_option maxRecDepth 100000
set_option maxHeartbeats 400000 in
/-- Two rows: are they the same? -/
theorem ref_Same (a b : Option Addr) (ca cb : Nat) (xs ys : List Int) (w : World) (hx : Row .u64 w a xs) (hy : Row .u64 w b ys) :
    Calls Tryz.prog 10 #[.slice a xs.length ca, .slice b ys.length cb] w fun e w' => e = .returned (.bool (decide (xs = ys))) ∧ Below w.heap.size w w' := by
  have hlx := hx.len
  have hly := hy.len
  by_cases hl : xs.length = ys.length
  · have HL := Lib.hid hl
    have HX := Lib.hid hx
    have HY := Lib.hid hy
    have hne : ((xs.length : Int) != (ys.length : Int)) = false := by simp [hl]
    clear hx hy hl
    go_enter Tryz.func10, Tryz.ntmps10
    go_wp2_with fail
    go_loopw [5] (fun i wr => ∃ k : Nat, k ≤ xs.length ∧ i = .int .i64 k ∧ Below w.heap.size w wr ∧ Hid (∀ j, j < k → nth xs j = nth ys j)) (fun i _ => xs.length - (intOf i).toNat)
    case atStart => exact ⟨0, Nat.zero_le _, rfl, Below.refl _ _, fun j hj => by omega⟩
    case round =>
      obtain ⟨k, hk, rfl, hb, H⟩ := hrel
      by_cases hlt : k < xs.length
      · have hlt' : k < ys.length := by have := HL.out; omega
        have i1 : (0 : Int) ≤ (k : Int) := by omega
        have i2 : (k : Int) < (xs.length : Int) := by omega
        have i3 : (k : Int) < (ys.length : Int) := by omega
        obtain ⟨b1, o1, rfl, hc1⟩ := (HX.out.below hb).at (by omega)
        obtain ⟨b2, o2, rfl, hc2⟩ := (HY.out.below hb).at (by omega)
        have h1 := hc1 k hlt
        have h2 := hc2 k hlt'
        clear hc1 hc2
        by_cases he : nth xs k = nth ys k
        · have hbe : (nth xs k != nth ys k) = false := by simp [he]
          have HE := Lib.hid he
          clear he
          go_wp2_with fail
          go_quiet (fail)
          go_wp2_with fail
          go_roundw
          case rel =>
            refine ⟨k + 1, by omega, by go_num, by first | exact below_drewN hb _ | exact hb.drew, ?_⟩
            intro j hj
            by_cases hjk : j < k
            · exact H.out j hjk
            · obtain rfl : j = k := by omega
              exact HE.out
          case measure => simp [intOf]; omega
        · have hbe : (nth xs k != nth ys k) = true := by simp [he]
          have HE : Hid (xs ≠ ys) := by
            intro h; apply he; rw [h]
          clear he
          go_wp2_with fail
          go_quiet (fail)
          go_wp2_with fail
          go_ret
          exact ⟨ret_bool (by have := HE.out; simp [this]), by first | exact below_drewN hb _ | exact hb.drew⟩
      · go_wp2_with fail
        go_ret
        have : xs = ys := ext_nth HL.out (fun i hi => H.out i (by omega))
        exact ⟨ret_bool (by simp [this]), hb⟩
  · have HL := Lib.hid hl
    have hne : ((xs.length : Int) != (ys.length : Int)) = true := by simp; omega
    have : xs ≠ ys := fun h => hl (by rw [h])
    have HE := Lib.hid this
    clear this hl hx hy
    go_enter Tryz.func10, Tryz.ntmps10
    go_wp2_with fail
    go_ret
    exact ⟨ret_bool (by have := HE.out; simp [this]), Below.refl _ _⟩
end Go.Proofs.YtcckfeikaolfgaaGreat

namespace Go.Proofs.YtcckfeikaolfgaaGreat
open Go.RowKit
set_option linter.unusedVariables false
set_option linter.unusedSimpArgs false
set_option maxRecDepth 100000
theorem fermat_int (n e p : Nat) (q : Int) (hq : (p : Int) = q) (h : n ^ e % p = 1) : (n : Int) ^ e % q = 1 := by
  have h3 : ((n ^ e % p : Nat) : Int) = 1 := by rw [h]; rfl
  rw [Int.natCast_emod, Int.natCast_pow, hq] at h3
  exact h3
theorem pn_sub : Fld.pn - 1 = 18446744069414584320 := rfl
/-- Fermat's theorem over the integers. -/
theorem fermatZ (a : Int) (h0 : 0 ≤ a) (h : a % 18446744069414584321 ≠ 0) : pw a 18446744069414584320 = 1 := by
  obtain ⟨n, rfl⟩ := Int.eq_ofNat_of_zero_le h0
  have h1 : n % Fld.pn ≠ 0 := by
    unfold Fld.pn; omega
  have h2 := Fld.fermat n h1
  rw [pn_sub] at h2
  unfold pw
  exact fermat_int n _ Fld.pn _ rfl h2
theorem pw_inv (a : Int) (h0 : 0 ≤ a) (h : a % 18446744069414584321 ≠ 0) : a * pw a 18446744069414584319 % 18446744069414584321 = 1 := by
  have h1 := fermatZ a h0 h
  unfold pw at *
  rw [modmul_r, ← Int.pow_succ']
  exact h1
end Go.Proofs.YtcckfeikaolfgaaGreat

namespace Go.Proofs.YtcckfeikaolfgaaGreat
open Go.RowKit
set_option linter.unusedVariables false
set_option linter.unusedSimpArgs false
set_option maxRecDepth 100000
set_option maxHeartbeats 400000 in
theorem vec_each (n : Nat) (g : Nat → Int) (fid : Nat) (caps : Array Value) (w : World) (hn : n ≤ 16777216) (hg : ∀ i, i < n → fits .u64 (g i)) 
    (hent : ∀ args w, (callFunc fid args).run Tryz.prog w = .ok (.enter fid args) w)
    (hf : ∀ (i : Nat) (wr : World), i < n → Below w.heap.size w wr → Calls Tryz.prog fid (#[.int .i64 i] ++ caps) wr fun e w' => e = .returned (.int .u64 (g i)) ∧ Below wr.heap.size wr w') :
    Calls Tryz.prog 51 #[.int .i64 n, .func (.func fid) #[] caps] w (GivesRow .u64 ((List.range n).map g) w) := by
  obtain ⟨i0, hi, hz0, hz1, hz2⟩ := info_parts info_u64
  have HF := Lib.hid hf
  have HG := Lib.hid hg
  clear hf hg
  go_enter Tryz.func51, Tryz.ntmps51
  go_wp2_with (at_make; refine wpList_make_full _ rfl _ _ 25 rfl w.heap.size 38 i0 (.int .u64 0) 1 Tryz.underlying25 hi hz0 hz1 .i64 .i64 n n n rfl rfl rfl rfl (by rw [hz2]; omega) (by unfold maxLen; omega) (Nat.le_refl _) ?_)
  intro w1 hown0 hgrow0
  have hown := Own.made hown0 hgrow0
  clear hown0 hgrow0
  go_wp2_with fail
  go_loopw [11] (fun i wr => ∃ k : Nat, k ≤ n ∧ i = .int .i64 k ∧ OwnAt .u64 38 w wr w.heap.size n (fun j => if j < k then g j else 0)) (fun i _ => n - (intOf i).toNat)
  case atStart => exact ⟨0, Nat.zero_le _, rfl, by simpa using hown⟩
  case round =>
    obtain ⟨k, hk, rfl, hown⟩ := hrel
    by_cases hlt : k < n
    · have hcall := HF.out k wr hlt hown.below
      go_wp2_with fail
      refine hcall.mono ?_
      rintro e w' ⟨rfl, hb'⟩
      have hown2 := hown.later hb'
      have hc := hown2.cell k hlt
      rw [if_neg (Nat.lt_irrefl k)] at hc
      have hfz := hown2.free k
      have hnext := hown2.store k hlt (g k) (f' := fun j => if j < k + 1 then g j else 0) (by simp) (fun j _ hj => by
        by_cases h1 : j < k
        · simp [h1, show j < k + 1 by omega]
        · simp [h1, show ¬ j < k + 1 by omega])
      have HN := Lib.hid hnext
      clear hnext hcall hown hown2 hb'
      go_wp2_with fail
      go_roundw
      case rel => exact ⟨k + 1, by omega, by go_num, HN.out⟩
      case measure => simp [intOf]; omega
    · have hres := hown.gives (xs := (List.range n).map g) (by simp) (fun x hx => by obtain ⟨i, hi, rfl⟩ := List.mem_map.1 hx; exact HG.out i (by simpa using hi)) (fun i hi => by rw [nth_ofFn _ _ _ hi, if_pos (by omega)]) hn
      clear hown
      go_wp2_with fail
      go_ret
      exact hres
theorem modfits (f : Nat → Int) {n : Nat} : ∀ i, i < n → fits .u64 (f i % 18446744069414584321) := fun i _ => fits_u64.2 (by omega)
set_option maxHeartbeats 400000 in
theorem vec_Red1 (i : Nat) (a : Option Addr) (cap : Nat) (xs : List Int) (p : Nat) (w : World) (hi : i < xs.length) (hc : w.cell? ⟨p, 0, none⟩ = some (.slice a xs.length cap)) (hx : Row .u64 w a xs) :
    Calls Tryz.prog 52 #[.int .i64 i, .pointer (some ⟨p, 0, none⟩)] w fun e w' => e = .returned (.int .u64 (nth xs i % 18446744069414584321)) ∧ w = w' := by
  have hl := hx.len
  obtain ⟨b, off, rfl, hcs⟩ := hx.at (by omega)
  have hck := hcs i hi
  have hf := fits_u64.1 (hx.wf _ (nth_mem hi))
  clear hcs hx
  go_enter Tryz.func52, Tryz.ntmps52
  go_wp2_with (first | (go_at_call 53; refine (gold_Red _ _ (by omega) (by omega)).mono ?_; rintro e w' ⟨rfl, rfl⟩))
  go_ret
  exact ⟨rfl, rfl⟩
set_option maxHeartbeats 400000 in
theorem vec_Red (a : Option Addr) (cap : Nat) (xs : List Int) (w : World) (hx : Row .u64 w a xs) (hl : xs.length ≤ 16777216) :
    Calls Tryz.prog 31 #[.slice a xs.length cap] w (GivesRow .u64 (xs.map (· % 18446744069414584321)) w) := by
  have hent : ∀ args w, (callFunc 52 args).run Tryz.prog w = .ok (.enter 52 args) w := enters_of Tryz.func52 (by kernel_rfl) rfl
  have HX : Hid (Row .u64 w a xs) := hx
  clear hx
  have hc0 := one_new w (.slice a xs.length cap) 25
  have hf : ∀ (i : Nat) (wr : World), i < xs.length → Below (w.alloc (.cells #[.slice a xs.length cap] 25)).heap.size (w.alloc (.cells #[.slice a xs.length cap] 25)) wr →
      Calls Tryz.prog 52 (#[.int .i64 i] ++ #[.pointer (some ⟨w.heap.size, 0, none⟩)]) wr fun e w' => e = .returned (.int .u64 (nth xs i % 18446744069414584321)) ∧ Below wr.heap.size wr w' :=
    fun i wr hi hb => (vec_Red1 i a cap xs w.heap.size wr hi (by rw [hb.cell (by simp)]; exact hc0) ((HX.out.below ((Below.refl _ _).alloc (Nat.le_refl _) _)).below hb)).mono fun e w' ⟨he, hw⟩ => ⟨he, hw ▸ Below.refl _ _⟩
  have HF := Lib.hid hf
  clear hf
  go_enter Tryz.func31, Tryz.ntmps31
  go_wp2_with fail
  refine (vec_each xs.length (fun i => nth xs i % 18446744069414584321) _ _ _ hl (modfits _) hent (HF.out)).mono ?_
  rintro e w' ⟨a', cap', rfl, hr, hnil, hb⟩
  go_wp2_with fail
  go_ret
  exact ⟨a', cap', by simp, by rw [map_nth]; exact hr, by simpa using hnil, ((Below.refl _ _).alloc (Nat.le_refl _) _).trans (hb.mono (by simp))⟩
/-- gold.Red inside a region that draws. -/
theorem red_quiet (a : Int) (w : World) (n : Nat) (h0 : 0 ≤ a) (h1 : a < 18446744073709551616) :
    Calls Tryz.prog 53 #[.int .u64 a] (w.drewN n) fun e w' => e = .returned (.int .u64 (a % 18446744069414584321)) ∧ ∃ m, w' = w.drewN m :=
  Calls.quiet_of_same ((gold_Red a _ h0 h1).mono fun e w' ⟨x, y⟩ => ⟨x, y.symm⟩)
/-- Place i of a row of n, backwards. -/
def revAt (n i : Nat) : Nat := (n - i) % n
theorem revAt_lt {n i : Nat} (h : i < n) : revAt n i < n := Nat.mod_lt _ (by omega)
theorem revAt_int {n i : Nat} (h : i < n) : ((n : Int) - (i : Int)).tmod (n : Int) = (revAt n i : Nat) := by
  unfold revAt
  rw [Int.tmod_eq_emod_of_nonneg (by omega), Int.natCast_emod]
  congr 1
  omega
set_option maxHeartbeats 400000 in
theorem vec_Rev1 (i : Nat) (a : Option Addr) (cap : Nat) (xs : List Int) (p q : Nat) (w : World) (hi : i < xs.length) (hc : w.cell? ⟨p, 0, none⟩ = some (.slice a xs.length cap)) (hc2 : w.cell? ⟨q, 0, none⟩ = some (.int .i64 xs.length)) (hx : Row .u64 w a xs) :
    Calls Tryz.prog 125 #[.int .i64 i, .pointer (some ⟨p, 0, none⟩), .pointer (some ⟨q, 0, none⟩)] w fun e w' => e = .returned (.int .u64 (nth xs (revAt xs.length i) % 18446744069414584321)) ∧ Below w.heap.size w w' := by
  have hl := hx.len
  obtain ⟨b, off, rfl, hcs⟩ := hx.at (by omega)
  have hj := revAt_lt hi
  have hck := hcs _ hj
  have hf := fits_u64.1 (hx.wf _ (nth_mem hj))
  have e1 : IntKind.i64.wrap ((xs.length : Int) - (i : Int)) = (xs.length : Int) - (i : Int) := IntWalk.i64_in _ (by omega)
  have e2 := revAt_int hi
  generalize revAt xs.length i = j at *
  have j0 : (0 : Int) ≤ (j : Int) := by omega
  have j1 : (j : Int) < (xs.length : Int) := by omega
  have hn0 : ((xs.length : Int) == 0) = false := by simp; intro h; subst h; simp at hi
  clear hcs hx
  go_enter Tryz.func125, Tryz.ntmps125
  go_wp2_with fail
  go_quiet ((go_at_call 53; exact red_quiet _ _ _ (by omega) (by omega)))
  go_wp2_with fail
  go_ret
  exact ⟨rfl, below_drewN (Below.refl _ _) _⟩
end Go.Proofs.YtcckfeikaolfgaaGreat

namespace Go.Proofs.YtcckfeikaolfgaaGreat
open Go.RowKit
set_option linter.unusedVariables false
set_option linter.unusedSimpArgs false
set_option maxRecDepth 100000
def revL (xs : List Int) : List Int := (List.range xs.length).map fun i => nth xs (revAt xs.length i) % 18446744069414584321
theorem revL_len (xs : List Int) : (revL xs).length = xs.length := by simp [revL]
set_option maxHeartbeats 400000 in
theorem vec_Rev (a : Option Addr) (cap : Nat) (xs : List Int) (w : World) (hx : Row .u64 w a xs) (hl : xs.length ≤ 16777216) :
    Calls Tryz.prog 110 #[.slice a xs.length cap] w (GivesRow .u64 (revL xs) w) := by
  have hent : ∀ args w, (callFunc 125 args).run Tryz.prog w = .ok (.enter 125 args) w := enters_of Tryz.func125 (by kernel_rfl) rfl
  obtain ⟨W, hW⟩ : ∃ W : World, W = (w.alloc (.cells #[.slice a xs.length cap] 25)).alloc (.cells #[.int .i64 xs.length] 3) := ⟨_, rfl⟩
  have hWb : Below w.heap.size w W := hW ▸ ((Below.refl _ _).alloc (Nat.le_refl _) _).alloc (by simp) _
  have hc0 : W.cell? ⟨w.heap.size, 0, none⟩ = some (.slice a xs.length cap) := by subst hW; simp
  have hc1 : W.cell? ⟨w.heap.size + 1, 0, none⟩ = some (.int .i64 xs.length) := by subst hW; simp
  have hsz : w.heap.size + 2 = W.heap.size := by subst hW; simp
  have hf : ∀ (i : Nat) (wr : World), i < xs.length → Below W.heap.size W wr →
      Calls Tryz.prog 125 (#[.int .i64 i] ++ #[.pointer (some ⟨w.heap.size, 0, none⟩), .pointer (some ⟨w.heap.size + 1, 0, none⟩)]) wr fun e w' => e = .returned (.int .u64 (nth xs (revAt xs.length i) % 18446744069414584321)) ∧ Below wr.heap.size wr w' :=
    fun i wr hi hb => vec_Rev1 i a cap xs w.heap.size (w.heap.size + 1) wr hi (by rw [hb.cell (by show w.heap.size < W.heap.size; omega)]; exact hc0) (by rw [hb.cell (by show w.heap.size + 1 < W.heap.size; omega)]; exact hc1) ((hx.below hWb).below hb)
  have HF := Lib.hid hf
  have HW := Lib.hid hW
  have HB := Lib.hid hWb
  clear hf hx hWb hc0 hc1 hsz
  subst hW
  go_enter Tryz.func110, Tryz.ntmps110
  go_wp2_with fail
  refine (vec_each xs.length (fun i => nth xs (revAt xs.length i) % 18446744069414584321) _ _ _ hl (modfits _) hent HF.out).mono ?_
  rintro e w' ⟨a', cap', rfl, hr, hnil, hb⟩
  go_wp2_with fail
  go_ret
  exact ⟨a', cap', by simp [revL], hr, hnil, HB.out.trans (hb.mono HB.out.size)⟩
theorem ref_SameN (a b : Option Addr) (n m ca cb : Nat) (xs ys : List Int) (w : World) (hx : Row .u64 w a xs) (hy : Row .u64 w b ys) (hn : xs.length = n) (hm : ys.length = m) :
    Calls Tryz.prog 10 #[.slice a n ca, .slice b m cb] w fun e w' => e = .returned (.bool (decide (xs = ys))) ∧ Below w.heap.size w w' := by
  subst hn hm; exact ref_Same a b ca cb xs ys w hx hy
/-- Two rows that are the same. -/
theorem ref_SameT (a b : Option Addr) (n m ca cb : Nat) (xs ys : List Int) (w : World) (hx : Row .u64 w a xs) (hy : Row .u64 w b ys) (hn : xs.length = n) (hm : ys.length = m) (h : xs = ys) :
    Calls Tryz.prog 10 #[.slice a n ca, .slice b m cb] w fun e w' => e = .returned (.bool true) ∧ Below w.heap.size w w' :=
  (ref_SameN a b n m ca cb xs ys w hx hy hn hm).mono fun e w' ⟨he, hb⟩ => ⟨by rw [he]; simp [h], hb⟩
theorem vec_RevN (a : Option Addr) (n cap : Nat) (xs : List Int) (w : World) (hx : Row .u64 w a xs) (hn : xs.length = n) (hl : xs.length ≤ 16777216) :
    Calls Tryz.prog 110 #[.slice a n cap] w (GivesRow .u64 (revL xs) w) := by
  subst hn; exact vec_Rev a cap xs w hx hl
end Go.Proofs.YtcckfeikaolfgaaGreat

namespace Go.Proofs.YtcckfeikaolfgaaGreat
open Go.RowKit
set_option linter.unusedVariables false
set_option linter.unusedSimpArgs false
set_option maxRecDepth 100000
def zipL (op : Int → Int → Int) (xs ys : List Int) : List Int := (List.range xs.length).map fun i => op (nth xs i) (nth ys i) % 18446744069414584321
def mulL (xs ys : List Int) : List Int := zipL (fun x y => x * y) xs ys
theorem zipL_len (op : Int → Int → Int) (xs ys : List Int) : (zipL op xs ys).length = xs.length := by simp [zipL]
theorem modL_fits {l : List Nat} (f : Nat → Int) : ∀ x ∈ l.map (fun i => f i % 18446744069414584321), fits .u64 x := by
  intro x hx; obtain ⟨i, _, rfl⟩ := List.mem_map.1 hx; exact fits_u64.2 (by omega)
/-- What a function value answers of two numbers: op, modulo P. -/
def IsOp (fid : Nat) (op : Int → Int → Int) : Prop := ∀ (a b : Int) (w : World), 0 ≤ a → a < 18446744073709551616 → 0 ≤ b → b < 18446744073709551616 →
  Calls Tryz.prog fid #[.int .u64 a, .int .u64 b] w fun e w' => e = .returned (.int .u64 (op a b % 18446744069414584321)) ∧ w = w'
set_option maxHeartbeats 400000 in
theorem vec_both1 (fid : Nat) (op : Int → Int → Int) (hent : ∀ args w, (callFunc fid args).run Tryz.prog w = .ok (.enter fid args) w) (hop : IsOp fid op) (i : Nat) (a b : Option Addr) (ca cb : Nat) (xs ys : List Int) (p q r : Nat) (w : World) (hi : i < xs.length) (hi2 : i < ys.length)
    (hc : w.cell? ⟨p, 0, none⟩ = some (.func (.func fid) #[] #[])) (hc1 : w.cell? ⟨q, 0, none⟩ = some (.slice a xs.length ca)) (hc2 : w.cell? ⟨r, 0, none⟩ = some (.slice b ys.length cb)) (hx : Row .u64 w a xs) (hy : Row .u64 w b ys) :
    Calls Tryz.prog 133 #[.int .i64 i, .pointer (some ⟨p, 0, none⟩), .pointer (some ⟨q, 0, none⟩), .pointer (some ⟨r, 0, none⟩)] w fun e w' => e = .returned (.int .u64 (op (nth xs i) (nth ys i) % 18446744069414584321)) ∧ Below w.heap.size w w' := by
  obtain ⟨b1, o1, rfl, hcx⟩ := hx.at (by omega)
  obtain ⟨b2, o2, rfl, hcy⟩ := hy.at (by omega)
  have h1 := hcx i hi
  have h2 := hcy i hi2
  have f1 := fits_u64.1 (hx.wf _ (nth_mem hi))
  have f2 := fits_u64.1 (hy.wf _ (nth_mem hi2))
  have j0 : (0 : Int) ≤ (i : Int) := by omega
  have j1 : (i : Int) < (xs.length : Int) := by omega
  have j2 : (i : Int) < (ys.length : Int) := by omega
  have HOP := Lib.hid hop
  clear hcx hcy hx hy hop
  go_enter Tryz.func133, Tryz.ntmps133
  go_wp2_with fail
  go_quiet ((exact Calls.quiet_of_same ((HOP.out _ _ _ f1.1 f1.2 f2.1 f2.2).mono fun e w' ⟨x, y⟩ => ⟨x, y.symm⟩)))
  go_wp2_with fail
  go_ret
  exact ⟨rfl, below_drewN (Below.refl _ _) _⟩
/-- A result: a new row, and an error's number. -/
def GivesRowE (k : IntKind) (xs : List Int) (err : Int) (w : World) (e : Ending) (w' : World) : Prop :=
  ∃ a cap, e = .returned (.tuple #[.slice a xs.length cap, .int .i64 err]) ∧ Row k w' a xs ∧ OkCap a xs.length cap ∧ Below w.heap.size w w'
set_option maxHeartbeats 400000 in
theorem vec_both (fid : Nat) (op : Int → Int → Int) (hent : ∀ args w, (callFunc fid args).run Tryz.prog w = .ok (.enter fid args) w) (hop : IsOp fid op) (a b : Option Addr) (ca cb : Nat) (xs ys : List Int) (w : World) (hx : Row .u64 w a xs) (hy : Row .u64 w b ys) (hl : xs.length = ys.length) (hm : xs.length ≤ 16777216) :
    Calls Tryz.prog 123 #[.slice a xs.length ca, .slice b ys.length cb, .func (.func fid) #[] #[]] w (GivesRowE .u64 (zipL op xs ys) 0 w) := by
  have hent2 : ∀ args w, (callFunc 133 args).run Tryz.prog w = .ok (.enter 133 args) w := enters_of Tryz.func133 (by kernel_rfl) rfl
  obtain ⟨W, hW⟩ : ∃ W : World, W = ((w.alloc (.cells #[.slice a xs.length ca] 25)).alloc (.cells #[.slice b ys.length cb] 25)).alloc (.cells #[.func (.func fid) #[] #[]] 52) := ⟨_, rfl⟩
  have hWb : Below w.heap.size w W := hW ▸ (((Below.refl _ _).alloc (Nat.le_refl _) _).alloc (by simp) _).alloc (by simp; omega) _
  have hc0 : W.cell? ⟨w.heap.size, 0, none⟩ = some (.slice a xs.length ca) := by subst hW; rw [cell_past _ _ _ (by simp; omega), cell_past _ _ _ (by simp), one_new]
  have hc1 : W.cell? ⟨w.heap.size + 1, 0, none⟩ = some (.slice b ys.length cb) := by subst hW; rw [cell_past _ _ _ (by simp)]; exact cell_new (by simp)
  have hc2 : W.cell? ⟨w.heap.size + 2, 0, none⟩ = some (.func (.func fid) #[] #[]) := by subst hW; exact cell_new (by simp)
  have hsz : w.heap.size + 3 = W.heap.size := by subst hW; simp
  have hf : ∀ (i : Nat) (wr : World), i < xs.length → Below W.heap.size W wr →
      Calls Tryz.prog 133 (#[.int .i64 i] ++ #[.pointer (some ⟨w.heap.size + 2, 0, none⟩), .pointer (some ⟨w.heap.size, 0, none⟩), .pointer (some ⟨w.heap.size + 1, 0, none⟩)]) wr fun e w' => e = .returned (.int .u64 (op (nth xs i) (nth ys i) % 18446744069414584321)) ∧ Below wr.heap.size wr w' :=
    fun i wr hi hb => vec_both1 fid op hent hop i a b ca cb xs ys (w.heap.size + 2) w.heap.size (w.heap.size + 1) wr hi (by omega) (by rw [hb.cell (by show w.heap.size + 2 < W.heap.size; omega)]; exact hc2) (by rw [hb.cell (by show w.heap.size < W.heap.size; omega)]; exact hc0) (by rw [hb.cell (by show w.heap.size + 1 < W.heap.size; omega)]; exact hc1) ((hx.below hWb).below hb) ((hy.below hWb).below hb)
  have HF := Lib.hid hf
  have HB := Lib.hid hWb
  have hne : ((xs.length : Int) != (ys.length : Int)) = false := by simp [hl]
  clear hf hx hy hWb hc0 hc1 hc2 hsz hl
  subst hW
  go_enter Tryz.func123, Tryz.ntmps123
  go_wp2_with fail
  refine (vec_each xs.length (fun i => op (nth xs i) (nth ys i) % 18446744069414584321) _ _ _ hm (modfits _) hent2 HF.out).mono ?_
  rintro e w' ⟨a', cap', rfl, hr, hnil, hb⟩
  go_wp2_with fail
  go_ret2
  exact ⟨a', cap', by simp [zipL], hr, hnil, HB.out.trans (hb.mono HB.out.size)⟩
end Go.Proofs.YtcckfeikaolfgaaGreat

