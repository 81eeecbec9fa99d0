/- Plans that are worth a trial: all of them, by the reference. -/
import Derived.Test.YtncikklhchimdaaCandF
import Derived.Test.YtncikklhchimdaaCandC
namespace Go.Proofs.Ytncikklhchimdaa
open Go.RowKit
set_option linter.unusedVariables false
set_option linter.unusedSimpArgs false
set_option maxRecDepth 100000
set_option maxRecDepth 20000

theorem stL_mem (n p e : Nat) (l : List Nat) : (p, e) ∈ stL n l → p ∈ l ∧ e = (stripF 25 p n 0).2 := by
  induction l with
  | nil => intro h; cases h
  | cons q l ih =>
    intro h
    rw [stL] at h
    rcases List.mem_append.1 h with h | h
    · by_cases hq : n % q = 0
      · rw [if_pos hq] at h
        have := List.mem_singleton.1 h
        injection this with h1 h2
        subst h1
        exact ⟨by simp, h2⟩
      · rw [if_neg hq] at h; cases h
    · exact ⟨List.mem_cons_of_mem _ (ih h).1, (ih h).2⟩
theorem entry_sz (n j : Nat) (hj : j < (facS n).length) (p e : Nat) (hp : (facS n).getD j (0, 0) = (p, e)) : 2 ≤ p ∧ e = (stripF 25 p n 0).2 := by
  have hm : (p, e) ∈ facS n := by
    have e : (facS n).getD j (0, 0) = (facS n)[j] := by simp [hj]
    rw [← hp, e]; exact List.getElem_mem hj
  obtain ⟨h1, h2⟩ := stL_mem n p e _ hm
  exact ⟨by simp at h1; omega, h2⟩
theorem node_one' {w2 wa w4 : World} {b : Nat} {ka na : Int} {aa : Option Addr} {ma ca : Nat} {T : TypeId} {t : Tr} (K n : Nat) (hK : K ≤ 7) (hn : n ≤ 16777216) (hba : Below w2.heap.size w2 wa) (hTa : IsT wa (Since w2.heap.size) ka na aa ma ca t)
    (hb4 : Below wa.heap.size wa w4) (hb : wa.heap.size ≤ b) (hx : w4.heap[b]? = some (.cells #[.int .i64 ka, .int .i64 na, .slice aa ma ca] T (0, 0))) :
    Below w2.heap.size w2 w4 ∧ IsT w4 (Since w2.heap.size) K n (some ⟨b, 0, none⟩) 1 1 (.node K n [t]) := by
  have hTA := hTa.below hb4
  exact ⟨chain hba hb4, isT_node (k := K) (n := n) (by rw [fits_i64]; omega) (by rw [fits_i64]; omega) (by intro x hx; rw [List.mem_singleton.1 hx]; exact hTA.ok) (kids_one (Nat.le_trans hba.size hb) hx hTA)⟩
theorem cellsNt_at (ps : List (Nat × Nat)) (j : Nat) (h : j < ps.length) : (cellsNt (prs ps))[j]? = some (.int .i64 ((ps.getD j (0, 0)).1 : Nat)) := by
  simp [cellsNt, prs, h]

set_option maxHeartbeats 6000000 in
theorem ref19_List (n : Nat) (w : World) (hsz : hasSz n = true) : Calls Try.prog 32 #[.int .i64 n] w (GivesTs (listT n) w) := by
  obtain ⟨i1, i2, _⟩ := hasSz_iff.1 hsz
  have h1 : 1 ≤ n := by omega
  have h2 : n ≤ 16777216 := by omega
  clear i1 i2
  obtain ⟨P, hP⟩ : ∃ P, hasP2 (n : Int) = P := ⟨_, rfl⟩
  have hP2 : isP2 (n : Int) = P := by rw [← hP]; unfold hasP2; rw [decide_eq_true (show (n : Int) ≤ 16777216 by omega), Bool.and_true]
  have CP : Hid (∀ W, Calls Try.prog 79 #[.int .i64 n] W fun e w' => e = .returned (.bool P) ∧ W = w') := fun W => by rw [← hP2]; exact refPower n W (by omega)
  clear hP2
  have HLT : Hid (listT n = ((leavesT n ++ (splitsT n (facS n) ++ goodsT n (facS n))) ++ raderT n) ++ blueT n) := rfl
  obtain ⟨L1, hL1⟩ : ∃ x, (if n ≤ 64 then [Tr.node 1 n []] else []) = x := ⟨_, rfl⟩
  obtain ⟨L2, hL2⟩ : ∃ x, (if 2 ≤ n ∧ n ≤ 5 then [Tr.node 2 n []] else []) = x := ⟨_, rfl⟩
  obtain ⟨L3, hL3⟩ : ∃ x, (if 2 ≤ n ∧ P = true then [Tr.node 3 n []] else []) = x := ⟨_, rfl⟩
  have HLL : Hid (leavesT n = (L1 ++ L2) ++ L3) := by unfold Hid leavesT; rw [hP, hL1, hL2, hL3]
  have hl1 : L1.length ≤ 1 := by rw [← hL1]; split <;> simp
  have hl2 : L2.length ≤ 1 := by rw [← hL2]; split <;> simp
  have hl3 : L3.length ≤ 1 := by rw [← hL3]; split <;> simp
  obtain ⟨L12, hL12⟩ : ∃ x, L1 ++ L2 = x := ⟨_, rfl⟩
  obtain ⟨L123, hL123⟩ : ∃ x, L12 ++ L3 = x := ⟨_, rfl⟩
  rw [hL12, hL123] at HLL
  have hl12 : L12.length ≤ 2 := by rw [← hL12, List.length_append]; omega
  have hl123 : L123.length ≤ 3 := by rw [← hL123, List.length_append]; omega
  have A1 : Hid (n ≤ 64 → L1 = [.node 1 n []]) := fun h => by rw [← hL1, if_pos h]
  have B1 : Hid (¬ n ≤ 64 → L1 = []) := fun h => by rw [← hL1, if_neg h]
  have A2 : Hid (decide (2 ≤ n ∧ n ≤ 5) = true → L12 = L1 ++ [.node 2 n []]) := fun h => by rw [← hL12, ← hL2, if_pos (of_decide_eq_true h)]
  have B2 : Hid (decide (2 ≤ n ∧ n ≤ 5) = false → L12 = L1) := fun h => by rw [← hL12, ← hL2, if_neg (of_decide_eq_false h), List.append_nil]
  have A3 : Hid ((decide (2 ≤ n) && P) = true → L123 = L12 ++ [.node 3 n []]) := fun h => by
    rw [Bool.and_eq_true, decide_eq_true_eq] at h
    rw [← hL123, ← hL3, if_pos h]
  have B3 : Hid ((decide (2 ≤ n) && P) = false → L123 = L12) := fun h => by
    rw [← hL123, ← hL3, if_neg (fun h2 => by rw [h2.2, decide_eq_true h2.1] at h; cases h), List.append_nil]
  clear hL1 hL2 hL3 hL12 hL123 hP
  have CR : Hid (∀ W, Calls Try.prog 80 #[.int .i64 n] W fun e w' => ∃ v, e = .returned v ∧ w'.ownsRow W.heap.size 3 1 v (prs (facS n)).length (cellsNt (prs (facS n))) ∧ Below W.heap.size W w') := fun W => by
    have := ref03_Primes n W h1 h2
    rwa [fac_sz hsz] at this
  have HPZ := Lib.hid (prime_sz hsz)
  have HTS := Lib.hid (tail_sz hsz)
  have HEN := Lib.hid (entry_sz n)
  have HSZ := Lib.hid hsz
  have hM6 := fac_few hsz
  have CFp : Hid (∀ W, Calls Try.prog 70 #[.int .i64 n] W fun e w' => e = .returned (.bool (prB (facS n))) ∧ W = w') := fun W => by
    have := ref03_Prime n W h1 h2
    rwa [own_of_facts h1 h2 hsz] at this
  obtain ⟨ps, hps⟩ : ∃ ps, facS n = ps := ⟨_, rfl⟩
  rw [hps] at CR HPZ hM6 HLT HTS CFp HEN
  obtain ⟨M, hM⟩ : ∃ M, ps.length = M := ⟨_, rfl⟩
  have hM' : (prs ps).length = M := by rw [← hM]; simp [prs]
  rw [hM] at HPZ hM6 HEN
  rw [hM'] at CR
  have HM := Lib.hid hM
  clear hps hM hM' hsz
  go_enter Try.func32, Try.ntmps32
  go_upto_if 10 with fail
  go_cut [3] from 9 (fun l wx => Hid (TwoT wx w.heap.size l noRow L1 []) ∧ Hid (Below w.heap.size w wx))
  case first =>
    by_cases h64 : n ≤ 64
    · go_wp2_with fail
      refine (ref19_leaf _ _ _).mono ?_; rintro e n1 ⟨rfl, hn1⟩
      go_wp2_with (at_builtin; refine wpList_push rfl _ _ rfl n1 w.heap.size noRow noRow [] [] 1 n none 0 0 (.node 1 n []) rfl rfl (TwoT.none n1 w.heap.size) (isT_none _ _ (by rw [fits_i64]; omega) (by rw [fits_i64]; omega)) (by simp) hn1.size ?_)
      intro v1 w1 hR1 hg1 hl1'
      have HB1 := Lib.hid (below_grown hn1 hn1.size hl1' hg1)
      have HR1 : Hid (TwoT w1 w.heap.size v1 noRow L1 []) := by unfold Hid; rw [A1.out h64]; exact hR1
      clear hR1 hg1 hl1' hn1
      go_wp2_with fail
      go_meet
      case rel => exact ⟨HR1.out, HB1.out⟩
    · have HR1 : Hid (TwoT w w.heap.size noRow noRow L1 []) := by unfold Hid; rw [B1.out h64]; exact TwoT.none _ _
      go_wp2_with fail
      go_meet
      case rel => exact ⟨HR1.out, Below.refl _ _⟩
  case rest =>
    obtain ⟨HR1, HB1⟩ := hcut
    obtain ⟨w1, rfl⟩ : ∃ x : World, x = wc := ⟨_, rfl⟩
    go_upto_region 4 with fail
    go_cut [21] from 16 to 21 (fun c wx => c = .bool (decide (2 ≤ n ∧ n ≤ 5)) ∧ wx = w1)
    case first =>
      rcases (show n < 2 ∨ (2 ≤ n ∧ n ≤ 5) ∨ 6 ≤ n by omega) with h | ⟨h, h'⟩ | h
      all_goals
        go_wp2_with fail
        go_meet
        case rel => first | exact ⟨congrArg Value.bool (decide_eq_false (by omega)).symm, rfl⟩ | exact ⟨congrArg Value.bool (decide_eq_true (by omega)).symm, rfl⟩ | exact ⟨congrArg Value.bool (decide_eq_decide.2 (by omega)), rfl⟩
    case rest =>
      obtain ⟨hc, hw⟩ := hcut
      obtain rfl : w1 = wc := hw.symm
      obtain ⟨b2, hb2⟩ : ∃ b, decide (2 ≤ n ∧ n ≤ 5) = b := ⟨_, rfl⟩
      rw [hb2] at hc A2 B2
      subst hc
      clear hb2
      go_upto_if 21 with fail
      go_cut [3] from 22 to 26 (fun l wx => Hid (TwoT wx w.heap.size l noRow L12 []) ∧ Hid (Below w.heap.size w wx))
      case first =>
        cases b2 with
        | true =>
          go_wp2_with fail
          refine (ref19_leaf _ _ _).mono ?_; rintro e n2 ⟨rfl, hn2⟩
          have hbx := chain HB1.out hn2
          go_wp2_with (at_builtin; refine wpList_push rfl _ _ rfl n2 w.heap.size u3 noRow L1 [] 2 n none 0 0 (.node 2 n []) rfl rfl (TwoT.below HR1.out hn2) (isT_none _ _ (by rw [fits_i64]; omega) (by rw [fits_i64]; omega)) (by omega) hbx.size ?_)
          intro vv ww hRx hgx hlx
          have HBx := Lib.hid (below_grown hbx hbx.size hlx hgx)
          have HRx : Hid (TwoT ww w.heap.size vv noRow L12 []) := by unfold Hid; rw [A2.out (by first | rfl | trivial)]; exact hRx
          clear hRx hgx hlx hbx hn2
          go_wp2_with fail
          go_meet
          case rel => exact ⟨HRx.out, HBx.out⟩
        | false =>
          have HRx : Hid (TwoT w1 w.heap.size u3 noRow L12 []) := by unfold Hid; rw [B2.out (by first | rfl | trivial)]; exact HR1.out
          go_wp2_with fail
          go_meet
          case rel => exact ⟨HRx.out, HB1.out⟩
      case rest =>
        obtain ⟨HR2, HB2⟩ := hcut
        obtain ⟨w2, rfl⟩ : ∃ x : World, x = wc := ⟨_, rfl⟩
        clear HR1 HB1 A1 B1 A2 B2
        go_upto_region 6 with fail
        go_cut [32] from 27 to 32 (fun c wx => c = .bool (decide (2 ≤ n) && P) ∧ wx = w2)
        case first =>
          by_cases h : 2 ≤ n
          · go_wp2_with fail
            refine (CP.out _).mono ?_; rintro e s1 ⟨rfl, rfl⟩
            go_wp2_with fail
            go_meet
            case rel => exact ⟨congrArg Value.bool (by rw [decide_eq_true h, Bool.true_and]), rfl⟩
          · go_wp2_with fail
            go_meet
            case rel => exact ⟨congrArg Value.bool (by rw [decide_eq_false h, Bool.false_and]), rfl⟩
        case rest =>
          obtain ⟨hc, hw⟩ := hcut
          obtain rfl : w2 = wc := hw.symm
          obtain ⟨b3, hb3⟩ : ∃ b, (decide (2 ≤ n) && P) = b := ⟨_, rfl⟩
          rw [hb3] at hc A3 B3
          subst hc
          clear hb3 CP
          go_upto_if 32 with fail
          go_cut [3] from 33 to 37 (fun l wx => Hid (TwoT wx w.heap.size l noRow L123 []) ∧ Hid (Below w.heap.size w wx))
          case first =>
            cases b3 with
            | true =>
              go_wp2_with fail
              refine (ref19_leaf _ _ _).mono ?_; rintro e n3 ⟨rfl, hn3⟩
              have hbx := chain HB2.out hn3
              go_wp2_with (at_builtin; refine wpList_push rfl _ _ rfl n3 w.heap.size u3 noRow L12 [] 3 n none 0 0 (.node 3 n []) rfl rfl (TwoT.below HR2.out hn3) (isT_none _ _ (by rw [fits_i64]; omega) (by rw [fits_i64]; omega)) (by omega) hbx.size ?_)
              intro vv ww hRx hgx hlx
              have HBx := Lib.hid (below_grown hbx hbx.size hlx hgx)
              have HRx : Hid (TwoT ww w.heap.size vv noRow L123 []) := by unfold Hid; rw [A3.out (by first | rfl | trivial)]; exact hRx
              clear hRx hgx hlx hbx hn3
              go_wp2_with fail
              go_meet
              case rel => exact ⟨HRx.out, HBx.out⟩
            | false =>
              have HRx : Hid (TwoT w2 w.heap.size u3 noRow L123 []) := by unfold Hid; rw [B3.out (by first | rfl | trivial)]; exact HR2.out
              go_wp2_with fail
              go_meet
              case rel => exact ⟨HRx.out, HB2.out⟩
          case rest =>
            obtain ⟨HR3, HB3⟩ := hcut
            obtain ⟨w3, rfl⟩ : ∃ x : World, x = wc := ⟨_, rfl⟩
            clear HR2 HB2 A3 B3
            go_wp2_with fail
            refine (CR.out _).mono ?_; rintro e w4 ⟨v, rfl, hown, hb4⟩
            obtain ⟨a, cap, rfl, hcap, hg⟩ := own_slice2 hown
            have HO4 := Lib.hid (own_mono (show w.heap.size ≤ w3.heap.size from HB3.out.size) hown)
            have HR4 := Lib.hid (HR3.out.below hb4)
            have HB4 := Lib.hid (chain HB3.out hb4)
            clear hown hb4 HR3 HB3
            go_wp2_with fail
            go_loopw [3, 5] (fun l i wr => ∃ j : Nat, j ≤ M ∧ i = .int .i64 j ∧ Hid (TwoT wr w.heap.size l noRow (L123 ++ splitsT n (ps.take j)) []) ∧ Hid (wr.ownsRow w.heap.size 3 1 (.slice a M cap) M (cellsNt (prs ps))) ∧ Hid (Below w.heap.size w wr)) (fun _ i _ => M - (intOf i).toNat)
            case atStart => exact ⟨0, Nat.zero_le _, rfl, by unfold Hid; simpa [splitsT] using HR4.out, HO4.out, HB4.out⟩
            case round =>
              obtain ⟨j, hj, rfl, HR, HO, HB⟩ := hrel
              by_cases hjm : j < M
              · obtain ⟨g, rfl⟩ := hg (by omega)
                obtain ⟨⟨p, x⟩, hpe⟩ : ∃ pe : Nat × Nat, ps.getD j (0, 0) = pe := ⟨_, rfl⟩
                obtain ⟨hp1, hpn, he24, hq1, hqn, ok1, ok2, ok3, ok4⟩ := HPZ.out j hjm p x hpe
                have c0 : wr.cell? ⟨g, j, none⟩ = some (.int .i64 (p : Int)) := (HO.out.cellAt j (by omega)).trans (by rw [cellsNt_at ps j (by rw [HM.out]; exact hjm), hpe])
                have hS := splitsT_step n ps j (by rw [HM.out]; exact hjm)
                rw [hpe] at hS
                have hSl := splitsT_len n (ps.take j)
                rw [List.length_take] at hSl
                have HS := Lib.hid hS
                have HSp : Hid (p ≠ n → splitT n (p, x) = [.node 4 n [pl p, pl (n / p)]]) := fun h => by unfold splitT; rw [if_neg h]
                have HSn : Hid (p = n → splitT n (p, x) = []) := fun h => by unfold splitT; rw [if_pos h]
                have CT : Hid (∀ W, Calls Try.prog 81 #[.int .i64 4, .int .i64 n, .int .i64 p] W (GivesD (.node 4 n [pl p, pl (n / p)]) W)) := fun W => ref19_two 4 n p (n / p) W _ _ (by omega) h2 hp1 (by omega) rfl (fun W => ref19_Plain 10 p W ok1) (fun W => ref19_Plain 10 (n / p) W ok2)
                clear hS hpe hq1 hqn ok1 ok2 ok3 ok4
                obtain ⟨S, hSS⟩ : ∃ S, splitsT n (ps.take j) = S := ⟨_, rfl⟩
                rw [hSS] at hSl
                have HR := HR.out
                rw [hSS] at HR
                have HR := Lib.hid HR
                obtain ⟨AC, hAC⟩ : ∃ x, L123 ++ S = x := ⟨_, rfl⟩
                have hACl : AC.length ≤ 12 := by rw [← hAC, List.length_append]; omega
                have HSS := Lib.hid hSS
                have HAC := Lib.hid hAC
                have HR2 : Hid (TwoT wr w.heap.size u3 noRow AC []) := by unfold Hid; rw [← hAC]; exact HR.out
                clear hSS hAC HR
                by_cases hpn0 : p = n
                · have t1 : ((p : Int) != (n : Int)) = false := bfalse' (by omega)
                  have HE : Hid (L123 ++ splitsT n (ps.take (j + 1)) = AC) := by unfold Hid; rw [HS.out, HSn.out hpn0, List.append_nil, HSS.out, HAC.out]
                  go_wp2_with fail
                  go_roundw
                  case rel => exact ⟨j + 1, by omega, by go_num, by unfold Hid; rw [HE.out]; exact HR2.out, HO.out, HB.out⟩
                  case measure => simp [intOf]; omega
                · have t1 : ((p : Int) != (n : Int)) = true := bdiff (by omega)
                  have t0 : ((p : Int) == (n : Int)) = false := bno (by omega)
                  obtain ⟨ND, hND⟩ : ∃ t, Tr.node 4 n [pl p, pl (n / p)] = t := ⟨_, rfl⟩
                  rw [hND] at CT
                  have HE : Hid (L123 ++ splitsT n (ps.take (j + 1)) = AC ++ [ND]) := by unfold Hid; rw [HS.out, HSp.out hpn0, hND, HSS.out, ← List.append_assoc, HAC.out]
                  clear hND HSp HSn HS
                  go_wp2_with fail
                  refine (CT.out _).mono ?_; rintro e n1 ⟨k1, m1, a1, l1, c1, rfl, hT, hn1⟩
                  have hbx := chain HB.out hn1
                  have hBs := HB.out.size
                  have hRy := HR2.out.below hn1
                  have hOy := own_later3 HO.out hn1
                  go_wp2_with (at_builtin; refine wpList_push rfl _ _ rfl n1 w.heap.size u3 noRow AC [] k1 m1 a1 l1 c1 ND rfl rfl hRy (hT.mono (HR2.out.off hBs)) (by omega) hbx.size ?_)
                  intro vv ww hRx hgx hlx
                  have HBx := Lib.hid (below_grown hbx hbx.size hlx hgx)
                  have HRx := Lib.hid hRx
                  have HOx := Lib.hid (other_stays hRy hOy hgx (by decide))
                  clear hRx hgx hlx hbx hn1 hT hRy hOy
                  go_wp2_with fail
                  go_roundw
                  case rel => exact ⟨j + 1, by omega, by go_num, by unfold Hid; rw [HE.out]; exact HRx.out, HOx.out, HBx.out⟩
                  case measure => simp [intOf]; omega
              · obtain rfl : M = j := by omega
                have HE1 : Hid (ps.take M = ps) := by unfold Hid; rw [← HM.out]; exact List.take_length
                have hSl := splitsT_len n ps
                rw [HM.out] at hSl
                obtain ⟨SA, hSA⟩ : ∃ x, L123 ++ splitsT n ps = x := ⟨_, rfl⟩
                have hSAl : SA.length ≤ 12 := by rw [← hSA, List.length_append]; omega
                have HR5 : Hid (TwoT wr w.heap.size u3 noRow SA []) := by unfold Hid; have := HR.out; rw [HE1.out, hSA] at this; exact this
                have HSA := Lib.hid hSA
                obtain ⟨w5, rfl⟩ : ∃ x : World, x = wr := ⟨_, rfl⟩
                have HO5 := Lib.hid HO.out
                have HB5 := Lib.hid HB.out
                clear hSA HR HO HB HR4 HO4 HB4 hjm
                go_wp2_with fail
                go_loopw [3, 6] (fun l i wr => ∃ j : Nat, j ≤ M ∧ i = .int .i64 j ∧ Hid (TwoT wr w.heap.size l noRow (SA ++ goodsT n (ps.take j)) []) ∧ Hid (wr.ownsRow w.heap.size 3 1 (.slice a M cap) M (cellsNt (prs ps))) ∧ Hid (Below w.heap.size w wr)) (fun _ i _ => M - (intOf i).toNat)
                case atStart => exact ⟨0, Nat.zero_le _, rfl, by unfold Hid; simpa [goodsT] using HR5.out, HO5.out, HB5.out⟩
                case round =>
                  obtain ⟨j, hj, rfl, HR, HO, HB⟩ := hrel
                  by_cases hjm : j < M
                  · obtain ⟨g, rfl⟩ := hg (by omega)
                    obtain ⟨⟨p, x⟩, hpe⟩ : ∃ pe : Nat × Nat, ps.getD j (0, 0) = pe := ⟨_, rfl⟩
                    obtain ⟨hp1, hpn, he24, hq1, hqn, ok1, ok2, ok3, ok4⟩ := HPZ.out j hjm p x hpe
                    obtain ⟨hp2, hx⟩ := HEN.out j hjm p x hpe
                    have c0 : wr.cell? ⟨g, j, none⟩ = some (.int .i64 (p : Int)) := (HO.out.cellAt j (by omega)).trans (by rw [cellsNt_at ps j (by rw [HM.out]; exact hjm), hpe])
                    have hS := goodsT_step n ps j (by rw [HM.out]; exact hjm)
                    rw [hpe] at hS
                    have hSl := goodsT_len n (ps.take j)
                    rw [List.length_take] at hSl
                    have HS := Lib.hid hS
                    obtain ⟨Q, hQ⟩ : ∃ Q, p ^ x = Q := ⟨_, rfl⟩
                    rw [hQ] at hq1 hqn ok3 ok4
                    have HQ := Lib.hid hQ
                    have HSp : Hid (Q ≠ n → goodT n (p, x) = [.node 5 n [pl Q, pl (n / Q)]]) := fun h => by unfold goodT; rw [hQ, if_neg h]
                    have HSn : Hid (Q = n → goodT n (p, x) = []) := fun h => by unfold goodT; rw [hQ, if_pos h]
                    have CT : Hid (∀ W, Calls Try.prog 81 #[.int .i64 5, .int .i64 n, .int .i64 Q] W (GivesD (.node 5 n [pl Q, pl (n / Q)]) W)) := fun W => ref19_two 5 n Q (n / Q) W _ _ (by omega) h2 hq1 (by omega) rfl (fun W => ref19_Plain 10 Q W ok3) (fun W => ref19_Plain 10 (n / Q) W ok4)
                    have CX : Hid (∀ W, Calls Try.prog 82 #[.int .i64 p, .int .i64 n] W fun e w' => e = .returned (.int .i64 (x : Nat)) ∧ W = w') := fun W => by
                      have := ref03_Times p n W hp2 (by omega) h1 h2
                      rwa [← hx] at this
                    clear hS hpe ok1 ok2 ok3 ok4 hQ hx
                    obtain ⟨S, hSS⟩ : ∃ S, goodsT n (ps.take j) = S := ⟨_, rfl⟩
                    rw [hSS] at hSl
                    have HR := HR.out
                    rw [hSS] at HR
                    have HR := Lib.hid HR
                    obtain ⟨AC, hAC⟩ : ∃ x, SA ++ S = x := ⟨_, rfl⟩
                    have hACl : AC.length ≤ 22 := by rw [← hAC, List.length_append]; omega
                    have HSS := Lib.hid hSS
                    have HAC := Lib.hid hAC
                    have HR2 : Hid (TwoT wr w.heap.size u3 noRow AC []) := by unfold Hid; rw [← hAC]; exact HR.out
                    clear hSS hAC HR
                    obtain ⟨wo, rfl⟩ : ∃ wo : World, wo = wr := ⟨_, rfl⟩
                    go_wp2_with fail
                    go_loopw [7, 8] (fun q i wi => ∃ k R : Nat, k ≤ x ∧ i = .int .i64 k ∧ q = .int .i64 R ∧ Hid (R = p ^ k) ∧ wi = wo) (fun _ i _ => x - (intOf i).toNat)
                    case atStart => exact ⟨0, 1, Nat.zero_le _, rfl, rfl, by unfold Hid; rw [Nat.pow_zero], rfl⟩
                    case round =>
                      obtain ⟨k, R, hk, rfl, rfl, HRk, hwi⟩ := hrel
                      obtain rfl : wo = wr := hwi.symm
                      by_cases hke : k < x
                      · obtain ⟨R2, hR2⟩ : ∃ R2, R * p = R2 := ⟨_, rfl⟩
                        have hR2p : R2 = p ^ (k + 1) := by rw [← hR2, HRk.out, Nat.pow_succ]
                        have hR2n : R2 ≤ n := by rw [hR2p]; exact Nat.le_trans (Nat.pow_le_pow_right hp1 (show k + 1 ≤ x by omega)) (by rw [HQ.out]; exact hqn)
                        have g1 : (R : Int) * (p : Int) = (R2 : Int) := by rw [← hR2]; simp
                        have HR2p := Lib.hid hR2p
                        clear hR2 hR2p
                        go_wp2_with fail
                        refine (CX.out _).mono ?_; rintro e s1 ⟨rfl, rfl⟩
                        go_wp2_with fail
                        go_roundw
                        case rel => exact ⟨k + 1, R2, by omega, by go_num, by first | rfl | go_num, HR2p.out, by first | rfl | trivial⟩
                        case measure => simp [intOf]; omega
                      · obtain rfl : R = Q := by rw [HRk.out, ← HQ.out, show k = x by omega]
                        obtain rfl : k = x := by omega
                        clear HRk hke
                        by_cases hpn0 : R = n
                        · have t1 : ((R : Int) != (n : Int)) = false := bfalse' (by omega)
                          have HE : Hid (SA ++ goodsT n (ps.take (j + 1)) = AC) := by unfold Hid; rw [HS.out, HSn.out hpn0, List.append_nil, HSS.out, HAC.out]
                          go_wp2_with fail
                          refine (CX.out _).mono ?_; rintro e s1 ⟨rfl, rfl⟩
                          go_wp2_with fail
                          go_roundw
                          case rel => exact ⟨j + 1, by omega, by go_num, by unfold Hid; rw [HE.out]; exact HR2.out, HO.out, HB.out⟩
                          case measure => simp [intOf]; omega
                        · have t1 : ((R : Int) != (n : Int)) = true := bdiff (by omega)
                          have t0 : ((R : Int) == (n : Int)) = false := bno (by omega)
                          obtain ⟨ND, hND⟩ : ∃ t, Tr.node 5 n [pl R, pl (n / R)] = t := ⟨_, rfl⟩
                          rw [hND] at CT
                          have HE : Hid (SA ++ goodsT n (ps.take (j + 1)) = AC ++ [ND]) := by unfold Hid; rw [HS.out, HSp.out hpn0, hND, HSS.out, ← List.append_assoc, HAC.out]
                          clear hND HSp HSn HS
                          go_wp2_with fail
                          refine (CX.out _).mono ?_; rintro e s1 ⟨rfl, rfl⟩
                          go_wp2_with fail
                          refine (CT.out _).mono ?_; rintro e n1 ⟨k1, m1, a1, l1, c1, rfl, hT, hn1⟩
                          have hbx := chain HB.out hn1
                          have hBs := HB.out.size
                          have hRy := HR2.out.below hn1
                          have hOy := own_later3 HO.out hn1
                          go_wp2_with (at_builtin; refine wpList_push rfl _ _ rfl n1 w.heap.size u3 noRow AC [] k1 m1 a1 l1 c1 ND rfl rfl hRy (hT.mono (HR2.out.off hBs)) (by omega) hbx.size ?_)
                          intro vv ww hRx hgx hlx
                          have HBx := Lib.hid (below_grown hbx hbx.size hlx hgx)
                          have HRx := Lib.hid hRx
                          have HOx := Lib.hid (other_stays hRy hOy hgx (by decide))
                          clear hRx hgx hlx hbx hn1 hT hRy hOy
                          go_wp2_with fail
                          go_roundw
                          case rel => exact ⟨j + 1, by omega, by go_num, by unfold Hid; rw [HE.out]; exact HRx.out, HOx.out, HBx.out⟩
                          case measure => simp [intOf]; omega
                  · obtain rfl : M = j := by omega
                    have HE1 : Hid (ps.take M = ps) := by unfold Hid; rw [← HM.out]; exact List.take_length
                    have hGl := goodsT_len n ps
                    rw [HM.out] at hGl
                    obtain ⟨AC3, hAC3⟩ : ∃ x, SA ++ goodsT n ps = x := ⟨_, rfl⟩
                    have hA3 : AC3.length ≤ 20 := by rw [← hAC3, List.length_append]; omega
                    have HR3 : Hid (TwoT wr w.heap.size u3 noRow AC3 []) := by unfold Hid; have := HR.out; rw [HE1.out, hAC3] at this; exact this
                    have HL : Hid (listT n = (AC3 ++ raderT n) ++ blueT n) := by unfold Hid; rw [HLT.out, HLL.out, ← List.append_assoc L123, HSA.out, hAC3]
                    have CO6 : Hid (∀ (k' n' : Int) (a' : Option Addr) (m' c' : Nat) (w : World), Calls Try.prog 83 #[.int .i64 6, .int .i64 n, .agg #[.int .i64 k', .int .i64 n', .slice a' m' c']] w fun e w' => ∃ b T, e = .returned (.agg #[.int .i64 6, .int .i64 n, .slice (some ⟨b, 0, none⟩) 1 1]) ∧ w.heap.size ≤ b ∧ w'.heap[b]? = some (.cells #[.int .i64 k', .int .i64 n', .slice a' m' c'] T (0, 0)) ∧ Below w.heap.size w w') := fun k' n' a' m' c' w => ref19_one 6 n k' n' a' m' c' w
                    have CO7 : Hid (∀ (k' n' : Int) (a' : Option Addr) (m' c' : Nat) (w : World), Calls Try.prog 83 #[.int .i64 7, .int .i64 n, .agg #[.int .i64 k', .int .i64 n', .slice a' m' c']] w fun e w' => ∃ b T, e = .returned (.agg #[.int .i64 7, .int .i64 n, .slice (some ⟨b, 0, none⟩) 1 1]) ∧ w.heap.size ≤ b ∧ w'.heap[b]? = some (.cells #[.int .i64 k', .int .i64 n', .slice a' m' c'] T (0, 0)) ∧ Below w.heap.size w w') := fun k' n' a' m' c' w => ref19_one 7 n k' n' a' m' c' w
                    have hts := HTS.out
                    clear hAC3 HR HE1 HR5 HO5 HB5 HO HLT HLL HSA HTS HPZ HEN hjm
                    rcases hts with ⟨hn, hr, hb⟩ | ⟨hn, hr, A, hA, hok, hb⟩ | ⟨hn, Y, hY, hr, hb⟩
                    · have HE : Hid (listT n = AC3) := by unfold Hid; rw [HL.out, hr, hb, List.append_nil, List.append_nil]
                      subst hn
                      clear hr hb HL
                      go_wp2_with fail
                      go_ret
                      exact ⟨_, rfl, by rw [HE.out]; exact HR3.out, HB.out⟩
                    · subst hn
                      have HE : Hid (listT 2 = AC3 ++ [.node 7 2 [pl A]]) := by unfold Hid; rw [HL.out, hr, hb, List.append_nil]; rfl
                      clear hr hb HL
                      have hm1 : 2 * ((2 : Nat) : Int) = ((2 * 2 : Nat) : Int) := by omega
                      obtain ⟨m2, hm2⟩ : ∃ m2, 2 * 2 - 1 = m2 := ⟨_, rfl⟩
                      have hm3 : 2 * ((2 : Nat) : Int) - 1 = (m2 : Nat) := by omega
                      have CV : Hid (∀ W, Calls Try.prog 84 #[.int .i64 (3)] W fun e w' => e = .returned (.int .i64 (A : Nat)) ∧ W = w') := fun W => by
                        have := ref_Above m2 W (by omega) (by omega)
                        rw [← hm3, ← hm2, hA] at this
                        exact this
                      have CI7 : Hid (∀ W, Calls Try.prog 33 #[.int .i64 A] W (GivesD (pl A) W)) := fun W => ref19_Plain 10 A W hok
                      clear hA hok hm1 hm2
                      go_wp2_with fail
                      refine (CV.out _).mono ?_; rintro e s2 ⟨rfl, rfl⟩
                      go_wp2_with fail
                      refine (CI7.out _).mono ?_; rintro e p7 ⟨k7, n7, a7, m7, c7, rfl, hT7, hp7⟩
                      go_wp2_with fail
                      refine (CO7.out _ _ _ _ _ _).mono ?_; rintro e q7 ⟨b7, T7, rfl, hbb7, hxx7, hq7⟩
                      have hn7 := node_one' 7 2 (by omega) h2 hp7 hT7 hq7 hbb7 hxx7
                      have hb7a := chain HB.out hn7.1
                      have hB7 := Below.size HB.out
                      go_wp2_with (at_builtin; refine wpList_push rfl _ _ rfl q7 w.heap.size u3 noRow AC3 [] 7 2 _ 1 1 _ rfl rfl (TwoT.below HR3.out hn7.1) (hn7.2.mono (TwoT.off HR3.out hB7)) (by omega) hb7a.size ?_)
                      intro v7 w7 hR7 hg7 hl7
                      have HB7 := Lib.hid (below_grown hb7a hb7a.size hl7 hg7)
                      obtain ⟨AC7, hAC7⟩ : ∃ x, AC3 ++ [.node 7 2 [pl A]] = x := ⟨_, rfl⟩
                      rw [hAC7] at hR7
                      have hA7 : AC7.length ≤ 27 := by rw [← hAC7, List.length_append, List.length_singleton]; omega
                      have HA7 := Lib.hid hAC7
                      have HR7 := Lib.hid hR7
                      clear hAC7 hR7 hg7 hl7 hb7a hn7 hq7 hT7 hp7 hB7 hbb7 hxx7
                      go_wp2_with fail
                      go_ret
                      exact ⟨_, rfl, by rw [HE.out]; first | (rw [HA7.out]; exact HR7.out) | (rw [HA6.out, HA7.out]; exact HR7.out), HB7.out⟩
                    · rw [hY] at CFp
                      clear hY
                      cases Y with
                      | true =>
                        obtain ⟨hok6, hr⟩ := (show okF 10 (n - 1) = true ∧ raderT n = [.node 6 n [pl (n - 1)]] by simpa using hr)
                        obtain ⟨m, hm⟩ : ∃ m, n - 1 = m := ⟨_, rfl⟩
                        rw [hm] at hok6 hr
                        have e1 : (n : Int) - 1 = (m : Nat) := by omega
                        have CI6 : Hid (∀ W, Calls Try.prog 33 #[.int .i64 m] W (GivesD (pl m) W)) := fun W => ref19_Plain 10 m W hok6
                        clear hok6 hm
                        rcases hb with ⟨h8, A, hA, hok, hb⟩ | ⟨h8, hb⟩
                        · have HE : Hid (listT n = (AC3 ++ [.node 6 n [pl m]]) ++ [.node 7 n [pl A]]) := by unfold Hid; rw [HL.out, hr, hb]
                          clear hr hb HL
                          go_wp2_with fail
                          refine (CFp.out _).mono ?_; rintro e s1 ⟨rfl, rfl⟩
                          go_wp2_with fail
                          refine (CI6.out _).mono ?_; rintro e p6 ⟨k6, n6, a6, m6, c6, rfl, hT6, hp6⟩
                          go_wp2_with fail
                          refine (CO6.out _ _ _ _ _ _).mono ?_; rintro e q6 ⟨b6, T6, rfl, hbb6, hxx6, hq6⟩
                          have hn6 := node_one' 6 n (by omega) h2 hp6 hT6 hq6 hbb6 hxx6
                          have hb6a := chain HB.out hn6.1
                          have hB6 := Below.size HB.out
                          go_wp2_with (at_builtin; refine wpList_push rfl _ _ rfl q6 w.heap.size u3 noRow AC3 [] 6 n _ 1 1 _ rfl rfl (TwoT.below HR3.out hn6.1) (hn6.2.mono (TwoT.off HR3.out hB6)) (by omega) hb6a.size ?_)
                          intro v6 w6 hR6 hg6 hl6
                          have HB6 := Lib.hid (below_grown hb6a hb6a.size hl6 hg6)
                          obtain ⟨AC6, hAC6⟩ : ∃ x, AC3 ++ [.node 6 n [pl m]] = x := ⟨_, rfl⟩
                          rw [hAC6] at hR6
                          have hA6 : AC6.length ≤ 26 := by rw [← hAC6, List.length_append, List.length_singleton]; omega
                          have HA6 := Lib.hid hAC6
                          have HR6 := Lib.hid hR6
                          clear hAC6 hR6 hg6 hl6 hb6a hn6 hq6 hT6 hp6 hB6 hbb6 hxx6
                          go_wp2_with fail
                          have hm1 : 2 * (n : Int) = ((2 * n : Nat) : Int) := by omega
                          obtain ⟨m2, hm2⟩ : ∃ m2, 2 * n - 1 = m2 := ⟨_, rfl⟩
                          have hm3 : 2 * (n : Int) - 1 = (m2 : Nat) := by omega
                          have CV : Hid (∀ W, Calls Try.prog 84 #[.int .i64 (2 * (n : Int) - 1)] W fun e w' => e = .returned (.int .i64 (A : Nat)) ∧ W = w') := fun W => by
                            have := ref_Above m2 W (by omega) (by omega)
                            rw [← hm3, ← hm2, hA] at this
                            exact this
                          have CI7 : Hid (∀ W, Calls Try.prog 33 #[.int .i64 A] W (GivesD (pl A) W)) := fun W => ref19_Plain 10 A W hok
                          clear hA hok hm1 hm2
                          refine (CV.out _).mono ?_; rintro e s2 ⟨rfl, rfl⟩
                          go_wp2_with fail
                          refine (CI7.out _).mono ?_; rintro e p7 ⟨k7, n7, a7, m7, c7, rfl, hT7, hp7⟩
                          go_wp2_with fail
                          refine (CO7.out _ _ _ _ _ _).mono ?_; rintro e q7 ⟨b7, T7, rfl, hbb7, hxx7, hq7⟩
                          have hn7 := node_one' 7 n (by omega) h2 hp7 hT7 hq7 hbb7 hxx7
                          have hb7a := chain HB6.out hn7.1
                          have hB7 := Below.size HB6.out
                          go_wp2_with (at_builtin; refine wpList_push rfl _ _ rfl q7 w.heap.size v6 noRow AC6 [] 7 n _ 1 1 _ rfl rfl (TwoT.below HR6.out hn7.1) (hn7.2.mono (TwoT.off HR6.out hB7)) (by omega) hb7a.size ?_)
                          intro v7 w7 hR7 hg7 hl7
                          have HB7 := Lib.hid (below_grown hb7a hb7a.size hl7 hg7)
                          obtain ⟨AC7, hAC7⟩ : ∃ x, AC6 ++ [.node 7 n [pl A]] = x := ⟨_, rfl⟩
                          rw [hAC7] at hR7
                          have hA7 : AC7.length ≤ 27 := by rw [← hAC7, List.length_append, List.length_singleton]; omega
                          have HA7 := Lib.hid hAC7
                          have HR7 := Lib.hid hR7
                          clear hAC7 hR7 hg7 hl7 hb7a hn7 hq7 hT7 hp7 hB7 hbb7 hxx7
                          go_wp2_with fail
                          go_ret
                          exact ⟨_, rfl, by rw [HE.out]; first | (rw [HA7.out]; exact HR7.out) | (rw [HA6.out, HA7.out]; exact HR7.out), HB7.out⟩
                        · have HE : Hid (listT n = AC3 ++ [.node 6 n [pl m]]) := by unfold Hid; rw [HL.out, hr, hb, List.append_nil]
                          clear hr hb HL
                          go_wp2_with fail
                          refine (CFp.out _).mono ?_; rintro e s1 ⟨rfl, rfl⟩
                          go_wp2_with fail
                          refine (CI6.out _).mono ?_; rintro e p6 ⟨k6, n6, a6, m6, c6, rfl, hT6, hp6⟩
                          go_wp2_with fail
                          refine (CO6.out _ _ _ _ _ _).mono ?_; rintro e q6 ⟨b6, T6, rfl, hbb6, hxx6, hq6⟩
                          have hn6 := node_one' 6 n (by omega) h2 hp6 hT6 hq6 hbb6 hxx6
                          have hb6a := chain HB.out hn6.1
                          have hB6 := Below.size HB.out
                          go_wp2_with (at_builtin; refine wpList_push rfl _ _ rfl q6 w.heap.size u3 noRow AC3 [] 6 n _ 1 1 _ rfl rfl (TwoT.below HR3.out hn6.1) (hn6.2.mono (TwoT.off HR3.out hB6)) (by omega) hb6a.size ?_)
                          intro v6 w6 hR6 hg6 hl6
                          have HB6 := Lib.hid (below_grown hb6a hb6a.size hl6 hg6)
                          obtain ⟨AC6, hAC6⟩ : ∃ x, AC3 ++ [.node 6 n [pl m]] = x := ⟨_, rfl⟩
                          rw [hAC6] at hR6
                          have hA6 : AC6.length ≤ 26 := by rw [← hAC6, List.length_append, List.length_singleton]; omega
                          have HA6 := Lib.hid hAC6
                          have HR6 := Lib.hid hR6
                          clear hAC6 hR6 hg6 hl6 hb6a hn6 hq6 hT6 hp6 hB6 hbb6 hxx6
                          go_wp2_with fail
                          go_ret
                          exact ⟨_, rfl, by rw [HE.out, HA6.out]; exact HR6.out, HB6.out⟩
                      | false =>
                        have hr : raderT n = [] := by simpa using hr
                        rcases hb with ⟨h8, A, hA, hok, hb⟩ | ⟨h8, hb⟩
                        · have HE : Hid (listT n = AC3 ++ [.node 7 n [pl A]]) := by unfold Hid; rw [HL.out, hr, hb, List.append_nil]
                          clear hr hb HL
                          go_wp2_with fail
                          refine (CFp.out _).mono ?_; rintro e s1 ⟨rfl, rfl⟩
                          go_wp2_with fail
                          have hm1 : 2 * (n : Int) = ((2 * n : Nat) : Int) := by omega
                          obtain ⟨m2, hm2⟩ : ∃ m2, 2 * n - 1 = m2 := ⟨_, rfl⟩
                          have hm3 : 2 * (n : Int) - 1 = (m2 : Nat) := by omega
                          have CV : Hid (∀ W, Calls Try.prog 84 #[.int .i64 (2 * (n : Int) - 1)] W fun e w' => e = .returned (.int .i64 (A : Nat)) ∧ W = w') := fun W => by
                            have := ref_Above m2 W (by omega) (by omega)
                            rw [← hm3, ← hm2, hA] at this
                            exact this
                          have CI7 : Hid (∀ W, Calls Try.prog 33 #[.int .i64 A] W (GivesD (pl A) W)) := fun W => ref19_Plain 10 A W hok
                          clear hA hok hm1 hm2
                          refine (CV.out _).mono ?_; rintro e s2 ⟨rfl, rfl⟩
                          go_wp2_with fail
                          refine (CI7.out _).mono ?_; rintro e p7 ⟨k7, n7, a7, m7, c7, rfl, hT7, hp7⟩
                          go_wp2_with fail
                          refine (CO7.out _ _ _ _ _ _).mono ?_; rintro e q7 ⟨b7, T7, rfl, hbb7, hxx7, hq7⟩
                          have hn7 := node_one' 7 n (by omega) h2 hp7 hT7 hq7 hbb7 hxx7
                          have hb7a := chain HB.out hn7.1
                          have hB7 := Below.size HB.out
                          go_wp2_with (at_builtin; refine wpList_push rfl _ _ rfl q7 w.heap.size u3 noRow AC3 [] 7 n _ 1 1 _ rfl rfl (TwoT.below HR3.out hn7.1) (hn7.2.mono (TwoT.off HR3.out hB7)) (by omega) hb7a.size ?_)
                          intro v7 w7 hR7 hg7 hl7
                          have HB7 := Lib.hid (below_grown hb7a hb7a.size hl7 hg7)
                          obtain ⟨AC7, hAC7⟩ : ∃ x, AC3 ++ [.node 7 n [pl A]] = x := ⟨_, rfl⟩
                          rw [hAC7] at hR7
                          have hA7 : AC7.length ≤ 27 := by rw [← hAC7, List.length_append, List.length_singleton]; omega
                          have HA7 := Lib.hid hAC7
                          have HR7 := Lib.hid hR7
                          clear hAC7 hR7 hg7 hl7 hb7a hn7 hq7 hT7 hp7 hB7 hbb7 hxx7
                          go_wp2_with fail
                          go_ret
                          exact ⟨_, rfl, by rw [HE.out]; first | (rw [HA7.out]; exact HR7.out) | (rw [HA6.out, HA7.out]; exact HR7.out), HB7.out⟩
                        · have HE : Hid (listT n = AC3) := by unfold Hid; rw [HL.out, hr, hb, List.append_nil, List.append_nil]
                          clear hr hb HL
                          go_wp2_with fail
                          refine (CFp.out _).mono ?_; rintro e s1 ⟨rfl, rfl⟩
                          go_wp2_with fail
                          go_ret
                          exact ⟨_, rfl, by rw [HE.out]; exact HR3.out, HB.out⟩

end Go.Proofs.Ytncikklhchimdaa
