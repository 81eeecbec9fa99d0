/- The contracts and plain laws that the statements PolyMuls PolySizes PolyPowers PolyBig need, part 9 of 9: PolyE PolyG PolyD PolyF PolyH. -/
import Derived.Test.YtlnlijeamflpiaaGreatPlB8
namespace Go.Proofs.YtlnlijeamflpiaaGreat
open Go.RowKit Sm
set_option linter.unusedVariables false
set_option linter.unusedSimpArgs false
set_option maxRecDepth 100000
set_option maxRecDepth 20000
theorem ln_12 : lnL [1, 2] [3, 4] = [3, 10, 8] := by decide +kernel
theorem pt_21 : pt [3, 10, 8] 1 = 21 := by decide +kernel
set_option maxHeartbeats 2000000 in
theorem live44 (w : World) : Calls Tryz.prog 10 #[] w fun e w' => e = .returned (.bool true) ∧ Below w.heap.size w w' := by
  have r1 : ∀ (w : World) (n : Nat), n = w.heap.size → Row .u64 (w.alloc (.cells #[.int .u64 1, .int .u64 2] 23)) (some ⟨n, 0, none⟩) [1, 2] := fun w n hn => litRow w _ n [1, 2] hn (by decide) (by simp)
  have r2 : ∀ (w : World) (n : Nat), n = w.heap.size → Row .u64 (w.alloc (.cells #[.int .u64 3, .int .u64 4] 23)) (some ⟨n, 0, none⟩) [3, 4] := fun w n hn => litRow w _ n [3, 4] hn (by decide) (by simp)
  have r3 : ∀ (w : World) (n : Nat), n = w.heap.size → Row .u64 (w.alloc (.cells #[.int .u64 3, .int .u64 10, .int .u64 8] 23)) (some ⟨n, 0, none⟩) [3, 10, 8] := fun w n hn => litRow w _ n [3, 10, 8] hn (by decide) (by simp)
  have C0 : Hid (∀ (W V : World) (n m : Nat), n = W.heap.size → V = (W.alloc (.cells #[.int .u64 1, .int .u64 2] 23)) → m = V.heap.size → Calls Tryz.prog 11 #[.slice (some ⟨n, 0, none⟩) 2 2, .slice (some ⟨m, 0, none⟩) 2 2] (V.alloc (.cells #[.int .u64 3, .int .u64 4] 23)) (GivesRowE .u64 [3, 10, 8] 0 (V.alloc (.cells #[.int .u64 3, .int .u64 4] 23)))) := fun W V n m hn hV hm => by
    have := poly_Mul (some ⟨n, 0, none⟩) (some ⟨m, 0, none⟩) 2 2 2 2 [1, 2] [3, 4] (V.alloc (.cells #[.int .u64 3, .int .u64 4] 23)) (by rw [hV]; exact (r1 W n hn).below ((Below.refl _ _).alloc (Nat.le_refl _) _)) (r2 V m hm) rfl rfl (by omega) (by omega)
    rwa [ln_12] at this
  have R3 := Lib.hid r3
  clear r1 r2 r3
  go_enter Tryz.func10, Tryz.ntmps10
  go_wp2_with fail
  refine (C0.out w _ _ _ rfl rfl (by first | rfl | simp)).mono ?_; rintro e w1 ⟨a1, cap1, rfl, hr1, hcap1, hb1⟩
  simp only [List.length_cons, List.length_nil]
  have HR1 := Lib.hid hr1
  have HB1 := Lib.hid (chainA (o := Obj.cells #[.int .u64 3, .int .u64 4] 23) (w1 := w.alloc (Obj.cells #[.int .u64 1, .int .u64 2] 23)) ((Below.refl _ _).alloc (Nat.le_refl _) _) hb1)
  clear hr1 hb1
  go_wp2_with fail
  refine (ref_SameT _ _ _ _ _ _ [3, 10, 8] [3, 10, 8] _ (HR1.out.below ((Below.refl _ _).alloc (Nat.le_refl _) _)) (R3.out _ _ rfl) rfl rfl rfl).mono ?_
  rintro e w3 ⟨rfl, hb3⟩
  have HR3 := Lib.hid ((HR1.out.below ((Below.refl _ _).alloc (Nat.le_refl _) (Obj.cells #[.int .u64 3, .int .u64 10, .int .u64 8] 23))).below hb3)
  have HB3 := Lib.hid (chainA HB1.out hb3)
  clear hb3
  go_wp2_with fail
  refine (poly_Eval _ 3 _ [3, 10, 8] 1 _ HR3.out rfl (by omega) (by omega) (by omega)).mono ?_
  rintro e w4 ⟨rfl, hb4⟩
  rw [pt_21]
  have HB4 := Lib.hid (chain HB3.out hb4)
  clear hb4
  go_wp2_with fail
  go_ret
  exact ⟨rfl, HB4.out⟩
set_option maxHeartbeats 2000000 in
theorem ref44_Pow (a : Option Addr) (N c n : Nat) (xs : List Int) (w : World) (hx : Row .u64 w a xs) (hxl : xs.length = N) (hN : N ≤ 4096) (hB : ∀ k, k ≤ n → (pwR xs k).length ≤ 4096) (hn : n ≤ 4096) :
    Calls Tryz.prog 26 #[.slice a N c, .int .i64 n] w (GivesRow .u64 (pwR xs n) w) := by
  have HX := Lib.hid hx
  have HXL := Lib.hid hxl
  have HBN := Lib.hid hB
  clear hx hxl hB
  go_enter Tryz.func26, Tryz.ntmps26
  go_wp2_with fail
  obtain ⟨W1, hW1⟩ : ∃ W1, w.alloc (.cells #[.int .u64 1] 23) = W1 := ⟨_, rfl⟩
  rw [hW1]
  have hb1 : Below w.heap.size w W1 := by rw [← hW1]; exact (Below.refl _ _).alloc (Nat.le_refl _) _
  have HO1 : Hid (Row .u64 W1 (some ⟨w.heap.size, 0, none⟩) (pwR xs 0)) := row_one _ _ (by rw [← hW1]; exact block_cell (block_new rfl) 0)
  have HB1 := Lib.hid hb1
  clear hb1 hW1
  go_loopw [5, 6] (fun io i wr => ∃ (j : Nat) (ao : Option Addr) (no co : Nat), j ≤ n ∧ i = .int .i64 j ∧ io = .slice ao no co ∧ Hid (Row .u64 wr ao (pwR xs j)) ∧ Hid ((pwR xs j).length = no) ∧ Hid (OkCap ao no co) ∧ Hid (Below w.heap.size w wr)) (fun _ i _ => n - (intOf i).toNat)
  case atStart => exact ⟨0, _, 1, 1, Nat.zero_le _, rfl, rfl, HO1.out, rfl, ⟨Nat.le_refl _, fun e => by cases e⟩, HB1.out⟩
  case round =>
    obtain ⟨j, ao, no, co, hj, rfl, rfl, HR, HL, HO, HBl⟩ := hrel
    by_cases hlt : j < n
    · have hno := HBN.out j hj
      rw [HL.out] at hno
      go_wp2_with fail
      refine (convRef_LinearL ao a no N co c (pwR xs j) xs _ HR.out (HX.out.below HBl.out) HL.out HXL.out hno hN).mono ?_
      rintro e w2 ⟨a2, c2, rfl, hr2, ho2, hb2⟩
      have HR2 : Hid (Row .u64 w2 a2 (pwR xs (j + 1))) := hr2
      have HO2 : Hid (OkCap a2 (pwR xs (j + 1)).length c2) := ho2
      have hLL : (lnL (pwR xs j) xs).length = (pwR xs (j + 1)).length := rfl
      rw [hLL]
      obtain ⟨L, hL⟩ : ∃ L, (pwR xs (j + 1)).length = L := ⟨_, rfl⟩
      rw [hL] at HO2 ⊢
      have HL2 := Lib.hid hL
      have HB2 := Lib.hid (chain HBl.out hb2)
      clear hr2 ho2 hb2 hL hLL
      go_wp2_with fail
      go_roundw
      case rel => exact ⟨j + 1, a2, L, c2, by omega, by go_num, rfl, HR2.out, HL2.out, HO2.out, HB2.out⟩
      case measure => simp [intOf]; omega
    · obtain rfl : j = n := by omega
      go_wp2_with fail
      go_ret
      exact ⟨ao, co, by rw [HL.out]; rfl, HR.out, by rw [HL.out]; exact HO.out, HBl.out⟩
set_option maxHeartbeats 16000000 in
theorem polyMulsW (a0 : Option Addr) (c0 : Nat) (x0 : List Int) (a1 : Option Addr) (c1 : Nat) (x1 : List Int) (z : Int) (w : World) (h0 : Row .u64 w a0 x0) (k0 : OkCap a0 x0.length c0) (h1 : Row .u64 w a1 x1) (k1 : OkCap a1 x1.length c1) (hz : fits .u64 z) :
    Calls Tryz.prog 3 #[.slice a0 x0.length c0, .slice a1 x1.length c1, .int .u64 z] w fun e w' => e = .returned (.bool true) ∧ Below w.heap.size w w' := by
  have hz2 := fits_u64.1 hz
  obtain ⟨n, hn⟩ : ∃ n, x0.length = n := ⟨_, rfl⟩
  obtain ⟨m, hm⟩ : ∃ m, x1.length = m := ⟨_, rfl⟩
  have CM : Hid (n ≤ 60 → m ≤ 60 → ∀ V, Below w.heap.size w V → Calls Tryz.prog 11 #[.slice a0 n c0, .slice a1 m c1] V (GivesRowE .u64 (lnL x0 x1) 0 V)) := fun e1 e2 V hV => poly_Mul a0 a1 n m c0 c1 x0 x1 V (h0.below hV) (h1.below hV) hn hm (by omega) (by omega)
  have CL : Hid (n ≤ 60 → m ≤ 60 → ∀ V, Below w.heap.size w V → Calls Tryz.prog 14 #[.slice a0 n c0, .slice a1 m c1] V (GivesRow .u64 (lnL x0 x1) V)) := fun e1 e2 V hV => convRef_LinearL a0 a1 n m c0 c1 x0 x1 V (h0.below hV) (h1.below hV) hn hm (by omega) (by omega)
  have CA : Hid (n ≤ 60 → n = m → hasSz (n : Int) = true → ∀ V, Below w.heap.size w V → Calls Tryz.prog 12 #[.slice a0 n c0, .slice a1 m c1] V (GivesRowE .u64 (cvL x0 x1 n) 0 V)) := fun e1 e2 e3 V hV => by
    subst e2
    exact poly_Around a0 a1 n c0 c1 x0 x1 V (h0.below hV) (h1.below hV) hn hm e3 (by omega)
  have CC : Hid (n ≤ 60 → n = m → ∀ V, Below w.heap.size w V → Calls Tryz.prog 19 #[.slice a0 n c0, .slice a1 m c1] V (GivesRow .u64 (cvL x0 x1 n) V)) := fun e1 e2 V hV => by
    subst e2
    exact convRef_Cyclic a0 a1 n c0 c1 x0 x1 V (h0.below hV) (h1.below hV) hn hm (by omega)
  have CE0 : Hid (n ≤ 60 → ∀ V, Below w.heap.size w V → Calls Tryz.prog 15 #[.slice a0 n c0, .int .u64 z] V fun e w' => e = .returned (.int .u64 (pt x0 z)) ∧ Below V.heap.size V w') := fun e1 V hV => poly_Eval a0 n c0 x0 z V (h0.below hV) hn (by omega) hz2.1 hz2.2
  have CR0 : Hid (n ≤ 60 → ∀ V, Below w.heap.size w V → Calls Tryz.prog 16 #[.slice a0 n c0, .int .u64 z] V fun e w' => e = .returned (.int .u64 (pt x0 z)) ∧ V = w') := fun e1 V hV => ref44_Eval a0 n c0 x0 z V (h0.below hV) hn (by omega) hz2.1 hz2.2
  have CR1 : Hid (m ≤ 60 → ∀ V, Below w.heap.size w V → Calls Tryz.prog 16 #[.slice a1 m c1, .int .u64 z] V fun e w' => e = .returned (.int .u64 (pt x1 z)) ∧ V = w') := fun e1 V hV => ref44_Eval a1 m c1 x1 z V (h1.below hV) hm (by omega) hz2.1 hz2.2
  have HPL : Hid (pt (lnL x0 x1) z = pt x0 z * pt x1 z % 18446744069414584321) := pt_ln x0 x1 z
  have HQL : Hid ((lnL x0 x1).length ≤ 16777216 ∨ 60 < n ∨ 60 < m) := by
    unfold Hid
    by_cases hb : 60 < n ∨ 60 < m
    · exact .inr hb
    · left
      by_cases he : x0.length = 0 ∨ x1.length = 0
      · rw [lnL_nil _ _ he]; simp
      · rw [lnL_len _ _ he]; omega
  have hp0 := pt_range x0 z
  have hp1 := pt_range x1 z
  have HCL : Hid ((cvL x0 x1 n).length = n) := cvL_len _ _ _
  obtain ⟨P0, hP0⟩ : ∃ P, pt x0 z = P := ⟨_, rfl⟩
  obtain ⟨P1, hP1⟩ : ∃ P, pt x1 z = P := ⟨_, rfl⟩
  obtain ⟨Q, hQ⟩ : ∃ Q, lnL x0 x1 = Q := ⟨_, rfl⟩
  obtain ⟨K, hK⟩ : ∃ K, cvL x0 x1 n = K := ⟨_, rfl⟩
  obtain ⟨L, hL⟩ : ∃ L, Q.length = L := ⟨_, rfl⟩
  rw [hP0] at CE0 CR0 HPL hp0
  rw [hP1] at CR1 HPL hp1
  rw [hQ] at CM CL HPL HQL
  rw [hK] at CA CC HCL
  rw [hL] at HQL
  have HL := Lib.hid hL
  rw [hn, hm]
  clear h0 h1 k0 k1 hz hn hm hP0 hP1 hQ hK hL
  have HB : Hid (Below w.heap.size w w) := Below.refl _ _
  by_cases hn60 : n ≤ 60
  case neg =>
    have t1 : decide ((n : Int) > 60) = true := decide_eq_true (by omega)
    clear hn60
    go_enter Tryz.func3, Tryz.ntmps3
    go_wp2_with fail
    refine (live44 _).mono ?_; rintro e vl ⟨rfl, hbl⟩
    have hbe := chain HB.out hbl
    clear hbl
    go_wp2_with fail
    go_ret
    exact ⟨rfl, hbe⟩
  have t1 : decide ((n : Int) > 60) = false := decide_eq_false (by omega)
  by_cases hm60 : m ≤ 60
  case neg =>
    have t2 : decide ((m : Int) > 60) = true := decide_eq_true (by omega)
    clear hn60 hm60
    go_enter Tryz.func3, Tryz.ntmps3
    go_wp2_with fail
    refine (live44 _).mono ?_; rintro e vl ⟨rfl, hbl⟩
    have hbe := chain HB.out hbl
    clear hbl
    go_wp2_with fail
    go_ret
    exact ⟨rfl, hbe⟩
  have t2 : decide ((m : Int) > 60) = false := decide_eq_false (by omega)
  have CM1 := Lib.hid (CM.out hn60 hm60)
  have CL1 := Lib.hid (CL.out hn60 hm60)
  have CE1 := Lib.hid (CE0.out hn60)
  have CR01 := Lib.hid (CR0.out hn60)
  have CR11 := Lib.hid (CR1.out hm60)
  have hLb : L ≤ 16777216 := by have := HQL.out; omega
  have CEQ : Hid (∀ V (a : Option Addr) (c : Nat), Row .u64 V a Q → Calls Tryz.prog 15 #[.slice a L c, .int .u64 z] V fun e w' => e = .returned (.int .u64 (P0 * P1 % 18446744069414584321)) ∧ Below V.heap.size V w') := fun V a c hr => by rw [← HPL.out]; exact poly_Eval a L c Q z V hr HL.out hLb hz2.1 hz2.2
  have hAr : (n ≠ m ∨ (n = m ∧ hasSz (n : Int) = false) ∨ (n = m ∧ hasSz (n : Int) = true)) := by
    by_cases h : n = m
    · cases hs : hasSz (n : Int)
      · exact .inr (.inl ⟨h, rfl⟩)
      · exact .inr (.inr ⟨h, rfl⟩)
    · exact .inl h
  have u1 : ((0 : Int) != 0) = false := bfalse' rfl
  have u2 : (P0 != P0) = false := bfalse' rfl
  have u3 : ((P0 * P1 % 18446744069414584321) != (P0 * P1 % 18446744069414584321)) = false := bfalse' rfl
  have hpq : 0 ≤ P0 * P1 % 18446744069414584321 ∧ P0 * P1 % 18446744069414584321 < 18446744069414584321 := by omega
  obtain ⟨PQ, hPQ⟩ : ∃ x, P0 * P1 % 18446744069414584321 = x := ⟨_, rfl⟩
  rw [hPQ] at CEQ u3 hpq
  have HPQ := Lib.hid hPQ
  have CMu : Hid (∀ V : World, Calls Tryz.prog 17 #[.int .u64 P0, .int .u64 P1] V fun e w' => e = .returned (.int .u64 PQ) ∧ V = w') := fun V => by rw [← hPQ]; exact ref_Mul P0 P1 V (by omega) (by omega) (by omega) (by omega)
  clear hPQ HPL HQL CM CL CE0 CR0 CR1 hn60 hm60
  rcases hAr with hnm | ⟨hnm, hs⟩ | ⟨hnm, hs⟩
  · have HNM := Lib.hid hnm
    have t3 : ((n : Int) != (m : Int)) = true := bdiff (by omega)
    clear hnm CA CC
    go_enter Tryz.func3, Tryz.ntmps3
    go_wp2_with fail
    refine (CM1.out _ HB.out).mono ?_; rintro e w1 ⟨a2, c2, rfl, hr1, _, hb1⟩
    rw [HL.out]
    have HR1 := Lib.hid hr1
    have HB1 := Lib.hid hb1
    clear hr1 hb1
    go_wp2_with fail
    refine (poly_Around_len a0 a1 n m c0 c1 _ HNM.out).mono ?_; rintro e w2 ⟨rfl, rfl⟩
    have HR2 := HR1
    have HB2 := HB1
    go_wp2_with fail
    refine (CL1.out _ HB2.out).mono ?_; rintro e w3 ⟨a4, c4, rfl, hr3, _, hb3⟩
    rw [HL.out]
    have HR3 := Lib.hid (HR2.out.below hb3)
    have HQ3 := Lib.hid hr3
    have HB3 := Lib.hid (chain HB2.out hb3)
    clear hr3 hb3
    go_wp2_with fail
    refine (ref_SameT _ _ _ _ _ _ Q Q _ HR3.out HQ3.out HL.out HL.out rfl).mono ?_
    rintro e w4 ⟨rfl, hb4⟩
    have HR4 := Lib.hid (HR3.out.below hb4)
    have HB4 := Lib.hid (chain HB3.out hb4)
    clear hb4
    go_wp2_with fail
    refine (CE1.out _ HB4.out).mono ?_; rintro e w5 ⟨rfl, hb5⟩
    have HR5 := Lib.hid (HR4.out.below hb5)
    have HB5 := Lib.hid (chain HB4.out hb5)
    clear hb5
    go_wp2_with fail
    refine (CR01.out _ HB5.out).mono ?_; rintro e w6 ⟨rfl, rfl⟩

    by_cases hne : 0 < n
    case neg =>
      have e1 : decide ((n : Int) > 0) = false := decide_eq_false (by omega)
      have e1b : decide (0 < n) = false := decide_eq_false (by omega)
      have e1c : ¬ (0 : Int) < (n : Int) := by omega
      have HB7 := HB5
      go_wp2_with fail
      refine (live44 _).mono ?_; rintro e vl ⟨rfl, hbl⟩
      have hbe := chain HB7.out hbl
      clear hbl
      go_wp2_with fail
      go_ret
      exact ⟨rfl, hbe⟩
    have e1 : decide ((n : Int) > 0) = true := decide_eq_true (by omega)
    have e1b : decide (0 < n) = true := decide_eq_true (by omega)
    have e1c : (0 : Int) < (n : Int) := by omega
    by_cases hne2 : 0 < m
    case neg =>
      have e2 : decide ((m : Int) > 0) = false := decide_eq_false (by omega)
      have e2b : decide (0 < m) = false := decide_eq_false (by omega)
      have e2c : ¬ (0 : Int) < (m : Int) := by omega
      have HB7 := HB5
      go_wp2_with fail
      refine (live44 _).mono ?_; rintro e vl ⟨rfl, hbl⟩
      have hbe := chain HB7.out hbl
      clear hbl
      go_wp2_with fail
      go_ret
      exact ⟨rfl, hbe⟩
    case pos =>
      have e2 : decide ((m : Int) > 0) = true := decide_eq_true (by omega)
      have e2b : decide (0 < m) = true := decide_eq_true (by omega)
      have e2c : (0 : Int) < (m : Int) := by omega
      go_wp2_with fail
      refine (CEQ.out _ _ _ HR5.out).mono ?_; rintro e w7 ⟨rfl, hb7⟩
      have HB7 := Lib.hid (chain HB5.out hb7)
      clear hb7
      go_wp2_with fail
      refine (CR01.out _ HB7.out).mono ?_; rintro e w8 ⟨rfl, rfl⟩
      go_wp2_with fail
      refine (CR11.out _ HB7.out).mono ?_; rintro e w8 ⟨rfl, rfl⟩
      go_wp2_with fail
      refine (CMu.out _).mono ?_; rintro e w8 ⟨rfl, rfl⟩
      go_wp2_with fail
      refine (live44 _).mono ?_; rintro e vl ⟨rfl, hbl⟩
      have hbe := chain HB7.out hbl
      clear hbl
      go_wp2_with fail
      go_ret
      exact ⟨rfl, hbe⟩
  · subst hnm
    have HS := Lib.hid hs
    have t3 : ((n : Int) != (n : Int)) = false := bfalse' rfl
    have hn6 : n ≤ 60 := by have := of_decide_eq_false t1; omega
    clear hs CA CC
    go_enter Tryz.func3, Tryz.ntmps3
    go_wp2_with fail
    refine (CM1.out _ HB.out).mono ?_; rintro e w1 ⟨a2, c2, rfl, hr1, _, hb1⟩
    rw [HL.out]
    have HR1 := Lib.hid hr1
    have HB1 := Lib.hid hb1
    clear hr1 hb1
    go_wp2_with fail
    refine (poly_Around_no a0 a1 n c0 c1 _ HS.out (by omega)).mono ?_; rintro e w2 ⟨rfl, rfl⟩
    have HR2 := HR1
    have HB2 := HB1
    go_wp2_with fail
    refine (CL1.out _ HB2.out).mono ?_; rintro e w3 ⟨a4, c4, rfl, hr3, _, hb3⟩
    rw [HL.out]
    have HR3 := Lib.hid (HR2.out.below hb3)
    have HQ3 := Lib.hid hr3
    have HB3 := Lib.hid (chain HB2.out hb3)
    clear hr3 hb3
    go_wp2_with fail
    refine (ref_SameT _ _ _ _ _ _ Q Q _ HR3.out HQ3.out HL.out HL.out rfl).mono ?_
    rintro e w4 ⟨rfl, hb4⟩
    have HR4 := Lib.hid (HR3.out.below hb4)
    have HB4 := Lib.hid (chain HB3.out hb4)
    clear hb4
    go_wp2_with fail
    refine (CE1.out _ HB4.out).mono ?_; rintro e w5 ⟨rfl, hb5⟩
    have HR5 := Lib.hid (HR4.out.below hb5)
    have HB5 := Lib.hid (chain HB4.out hb5)
    clear hb5
    go_wp2_with fail
    refine (CR01.out _ HB5.out).mono ?_; rintro e w6 ⟨rfl, rfl⟩

    by_cases hne : 0 < n
    case neg =>
      have e1 : decide ((n : Int) > 0) = false := decide_eq_false (by omega)
      have e1b : decide (0 < n) = false := decide_eq_false (by omega)
      have e1c : ¬ (0 : Int) < (n : Int) := by omega
      have HB7 := HB5
      go_wp2_with fail
      refine (refHas_no _ _ HS.out (by omega)).mono ?_; rintro e w9 ⟨rfl, rfl⟩
      go_wp2_with fail
      refine (live44 _).mono ?_; rintro e vl ⟨rfl, hbl⟩
      have hbe := chain HB7.out hbl
      clear hbl
      go_wp2_with fail
      go_ret
      exact ⟨rfl, hbe⟩
    have e1 : decide ((n : Int) > 0) = true := decide_eq_true (by omega)
    have e1b : decide (0 < n) = true := decide_eq_true (by omega)
    have e1c : (0 : Int) < (n : Int) := by omega
    by_cases hne2 : 0 < n
    case neg => exact absurd hne hne2
    case pos =>
      have e2 : decide ((n : Int) > 0) = true := decide_eq_true (by omega)
      have e2b : decide (0 < n) = true := decide_eq_true (by omega)
      have e2c : (0 : Int) < (n : Int) := by omega
      go_wp2_with fail
      refine (CEQ.out _ _ _ HR5.out).mono ?_; rintro e w7 ⟨rfl, hb7⟩
      have HB7 := Lib.hid (chain HB5.out hb7)
      clear hb7
      go_wp2_with fail
      refine (CR01.out _ HB7.out).mono ?_; rintro e w8 ⟨rfl, rfl⟩
      go_wp2_with fail
      refine (CR11.out _ HB7.out).mono ?_; rintro e w8 ⟨rfl, rfl⟩
      go_wp2_with fail
      refine (CMu.out _).mono ?_; rintro e w8 ⟨rfl, rfl⟩
      go_wp2_with fail
      refine (refHas_no _ _ HS.out (by omega)).mono ?_; rintro e w9 ⟨rfl, rfl⟩
      go_wp2_with fail
      refine (live44 _).mono ?_; rintro e vl ⟨rfl, hbl⟩
      have hbe := chain HB7.out hbl
      clear hbl
      go_wp2_with fail
      go_ret
      exact ⟨rfl, hbe⟩
  · subst hnm
    have HS := Lib.hid hs
    have t3 : ((n : Int) != (n : Int)) = false := bfalse' rfl
    have hn6 : n ≤ 60 := by have := of_decide_eq_false t1; omega
    have CA1 := Lib.hid (CA.out hn6 rfl hs)
    have CC1 := Lib.hid (CC.out hn6 rfl)
    clear hs CA CC
    go_enter Tryz.func3, Tryz.ntmps3
    go_wp2_with fail
    refine (CM1.out _ HB.out).mono ?_; rintro e w1 ⟨a2, c2, rfl, hr1, _, hb1⟩
    rw [HL.out]
    have HR1 := Lib.hid hr1
    have HB1 := Lib.hid hb1
    clear hr1 hb1
    go_wp2_with fail
    refine (CA1.out _ HB1.out).mono ?_; rintro e w2 ⟨a3, c3, rfl, hr2, _, hb2⟩
    rw [HCL.out]
    have HK2 := Lib.hid hr2
    have HR2 := Lib.hid (HR1.out.below hb2)
    have HB2 := Lib.hid (chain HB1.out hb2)
    clear hr2 hb2
    go_wp2_with fail
    refine (CL1.out _ HB2.out).mono ?_; rintro e w3 ⟨a4, c4, rfl, hr3, _, hb3⟩
    rw [HL.out]
    have HR3 := Lib.hid (HR2.out.below hb3)
    have HQ3 := Lib.hid hr3
    have HB3 := Lib.hid (chain HB2.out hb3)
    have HK3 := Lib.hid (HK2.out.below hb3)
    clear hr3 hb3
    go_wp2_with fail
    refine (ref_SameT _ _ _ _ _ _ Q Q _ HR3.out HQ3.out HL.out HL.out rfl).mono ?_
    rintro e w4 ⟨rfl, hb4⟩
    have HR4 := Lib.hid (HR3.out.below hb4)
    have HB4 := Lib.hid (chain HB3.out hb4)
    have HK4 := Lib.hid (HK3.out.below hb4)
    clear hb4
    go_wp2_with fail
    refine (CE1.out _ HB4.out).mono ?_; rintro e w5 ⟨rfl, hb5⟩
    have HR5 := Lib.hid (HR4.out.below hb5)
    have HB5 := Lib.hid (chain HB4.out hb5)
    have HK5 := Lib.hid (HK4.out.below hb5)
    clear hb5
    go_wp2_with fail
    refine (CR01.out _ HB5.out).mono ?_; rintro e w6 ⟨rfl, rfl⟩

    by_cases hne : 0 < n
    case neg =>
      have e1 : decide ((n : Int) > 0) = false := decide_eq_false (by omega)
      have e1b : decide (0 < n) = false := decide_eq_false (by omega)
      have e1c : ¬ (0 : Int) < (n : Int) := by omega
      have HB7 := HB5
      have HK7 := HK5
      go_wp2_with fail
      refine (refHas_yes _ _ HS.out).mono ?_; rintro e w9 ⟨rfl, rfl⟩
      go_wp2_with fail
      refine (CC1.out _ HB7.out).mono ?_; rintro e w10 ⟨a5, c5, rfl, hr10, _, hb10⟩
      rw [HCL.out]
      have HK10 := Lib.hid (HK7.out.below hb10)
      have HQ10 := Lib.hid hr10
      have HB10 := Lib.hid (chain HB7.out hb10)
      clear hr10 hb10
      go_wp2_with fail
      refine (ref_SameT _ _ _ _ _ _ K K _ HK10.out HQ10.out HCL.out HCL.out rfl).mono ?_
      rintro e w11 ⟨rfl, hb11⟩
      have HB11 := Lib.hid (chain HB10.out hb11)
      clear hb11
      go_wp2_with fail
      refine (live44 _).mono ?_; rintro e vl ⟨rfl, hbl⟩
      have hbe := chain HB11.out hbl
      clear hbl
      go_wp2_with fail
      go_ret
      exact ⟨rfl, hbe⟩
    have e1 : decide ((n : Int) > 0) = true := decide_eq_true (by omega)
    have e1b : decide (0 < n) = true := decide_eq_true (by omega)
    have e1c : (0 : Int) < (n : Int) := by omega
    by_cases hne2 : 0 < n
    case neg => exact absurd hne hne2
    case pos =>
      have e2 : decide ((n : Int) > 0) = true := decide_eq_true (by omega)
      have e2b : decide (0 < n) = true := decide_eq_true (by omega)
      have e2c : (0 : Int) < (n : Int) := by omega
      go_wp2_with fail
      refine (CEQ.out _ _ _ HR5.out).mono ?_; rintro e w7 ⟨rfl, hb7⟩
      have HB7 := Lib.hid (chain HB5.out hb7)
      have HK7 := Lib.hid (HK5.out.below hb7)
      clear hb7
      go_wp2_with fail
      refine (CR01.out _ HB7.out).mono ?_; rintro e w8 ⟨rfl, rfl⟩
      go_wp2_with fail
      refine (CR11.out _ HB7.out).mono ?_; rintro e w8 ⟨rfl, rfl⟩
      go_wp2_with fail
      refine (CMu.out _).mono ?_; rintro e w8 ⟨rfl, rfl⟩
      go_wp2_with fail
      refine (refHas_yes _ _ HS.out).mono ?_; rintro e w9 ⟨rfl, rfl⟩
      go_wp2_with fail
      refine (CC1.out _ HB7.out).mono ?_; rintro e w10 ⟨a5, c5, rfl, hr10, _, hb10⟩
      rw [HCL.out]
      have HK10 := Lib.hid (HK7.out.below hb10)
      have HQ10 := Lib.hid hr10
      have HB10 := Lib.hid (chain HB7.out hb10)
      clear hr10 hb10
      go_wp2_with fail
      refine (ref_SameT _ _ _ _ _ _ K K _ HK10.out HQ10.out HCL.out HCL.out rfl).mono ?_
      rintro e w11 ⟨rfl, hb11⟩
      have HB11 := Lib.hid (chain HB10.out hb11)
      clear hb11
      go_wp2_with fail
      refine (live44 _).mono ?_; rintro e vl ⟨rfl, hbl⟩
      have hbe := chain HB11.out hbl
      clear hbl
      go_wp2_with fail
      go_ret
      exact ⟨rfl, hbe⟩
end Go.Proofs.YtlnlijeamflpiaaGreat

namespace Go.Proofs.YtlnlijeamflpiaaGreat
open Go.RowKit Sm
set_option linter.unusedVariables false
set_option linter.unusedSimpArgs false
set_option maxRecDepth 100000
set_option maxRecDepth 20000
/-- A row's values at the powers of a root, by the transform of what is wrapped. -/
theorem val_root (xs : List Int) (m k : Nat) (hs : hasSz (m : Int) = true) (hk : k < m) : nth (dftL (wrL xs m) (dirRt m 0)) k = pt xs (pw (rt m) k) := by
  rw [nth_dftL _ _ _ (by rw [wrL_len]; exact hk), dirRt_zero]
  refine pt_wr xs m _ (by omega) fun i => ?_
  have hr := isRoot_rt m hs
  have h1 : ∀ j, Eqm (pw (rt m) k ^ j) ((rt m ^ j) ^ k) := fun j => by
    rw [← Int.pow_mul, Nat.mul_comm, Int.pow_mul]
    exact (pw_eqm (rt m) k).pow j
  exact (h1 _).trans (((hr.pow_mod i).pow k).trans (h1 i).symm)
set_option maxHeartbeats 16000000 in
theorem polySizesW (a0 : Option Addr) (c0 : Nat) (x0 : List Int) (n : Int) (w : World) (h0 : Row .u64 w a0 x0) (k0 : OkCap a0 x0.length c0) (hn' : fits .i64 n) :
    Calls Tryz.prog 4 #[.slice a0 x0.length c0, .int .i64 n] w fun e w' => e = .returned (.bool true) ∧ Below w.heap.size w w' := by
  have hn2 := fits_i64.1 hn'
  obtain ⟨N, hN⟩ : ∃ N, x0.length = N := ⟨_, rfl⟩
  rw [hN]
  have HB : Hid (Below w.heap.size w w) := Below.refl _ _
  by_cases hr : n < 1 ∨ 16777216 < n
  case pos =>
    have CS := Lib.hid (poly_Size_no n w hr (by omega))
    have hsz : hasSz n = false := by
      cases h : hasSz n
      · rfl
      · have := hasSz_bd h; omega
    have CE := Lib.hid (poly_Eval2_no a0 N c0 n w hsz (by omega))
    have t2 : decide (n < 1) = true ∨ (decide (n < 1) = false ∧ decide (n > 16777216) = true) := by
      by_cases h : n < 1
      · exact .inl (decide_eq_true h)
      · exact .inr ⟨decide_eq_false h, decide_eq_true (by omega)⟩
    clear h0 k0 hn' hN hr hsz
    rcases t2 with t2 | ⟨t2, t3⟩
    all_goals
      go_enter Tryz.func4, Tryz.ntmps4
      go_wp2_with fail
      refine CS.out.mono ?_; rintro e w1 ⟨rfl, rfl⟩
      go_wp2_with fail
      refine CE.out.mono ?_; rintro e w1 ⟨rfl, rfl⟩
      go_wp2_with fail
      refine (live44 _).mono ?_; rintro e vl ⟨rfl, hbl⟩
      have hbe := chain HB.out hbl
      clear hbl
      go_wp2_with fail
      go_ret
      exact ⟨rfl, hbe⟩
  obtain ⟨k, rfl⟩ := Int.eq_ofNat_of_zero_le (show 0 ≤ n by omega)
  have t2 : decide ((k : Int) < 1) = false := decide_eq_false (by omega)
  have t3 : decide ((k : Int) > 16777216) = false := decide_eq_false (by omega)
  have CS := Lib.hid (poly_Size k w (by omega) (by omega))
  have CT : Hid (∀ V, Calls Tryz.prog 22 #[.int .i64 k] V fun e w' => e = .returned (.int .i64 (szN k)) ∧ V = w') := fun V => ref44_Size k V (by omega)
  obtain ⟨M, hM⟩ : ∃ M, szN k = M := ⟨_, rfl⟩
  rw [hM] at CS CT
  have u1 : ((0 : Int) != 0) = false := bfalse' rfl
  have u2 : ((M : Int) != (M : Int)) = false := bfalse' rfl
  clear hM
  by_cases hl : 100 < N ∨ (64 < k ∧ k ≤ 4096)
  case pos =>
    have t4 : decide ((N : Int) > 100) = true ∨ (decide ((N : Int) > 100) = false ∧ decide ((k : Int) > 64) = true ∧ decide ((k : Int) ≤ 4096) = true) := by
      by_cases h : 100 < N
      · exact .inl (decide_eq_true (by omega))
      · exact .inr ⟨decide_eq_false (by omega), decide_eq_true (by omega), decide_eq_true (by omega)⟩
    clear h0 k0 hn' hN hr hl
    rcases t4 with t4 | ⟨t4, t5, t6⟩
    all_goals
      go_enter Tryz.func4, Tryz.ntmps4
      go_wp2_with fail
      refine CS.out.mono ?_; rintro e w1 ⟨rfl, rfl⟩
      go_wp2_with fail
      refine (CT.out _).mono ?_; rintro e w1 ⟨rfl, rfl⟩
      go_wp2_with fail
      refine (live44 _).mono ?_; rintro e vl ⟨rfl, hbl⟩
      have hbe := chain HB.out hbl
      clear hbl
      go_wp2_with fail
      go_ret
      exact ⟨rfl, hbe⟩
  have t4 : decide ((N : Int) > 100) = false := decide_eq_false (by omega)
  have t5 : decide ((k : Int) > 64) = false ∨ (decide ((k : Int) > 64) = true ∧ decide ((k : Int) ≤ 4096) = false) := by
    by_cases h : k ≤ 64
    · exact .inl (decide_eq_false (by omega))
    · exact .inr ⟨decide_eq_true (by omega), decide_eq_false (by omega)⟩
  by_cases hs : hasSz (k : Int) = true
  case neg =>
    have hs : hasSz (k : Int) = false := by simpa using hs
    have HS := Lib.hid hs
    have CE := Lib.hid (poly_Eval2_no a0 N c0 k w hs (by omega))
    have hkb : k ≤ 16777216 := by omega
    clear h0 k0 hn' hN hr hl hs
    rcases t5 with t5 | ⟨t5, t6⟩
    all_goals
      go_enter Tryz.func4, Tryz.ntmps4
      go_wp2_with fail
      refine CS.out.mono ?_; rintro e w1 ⟨rfl, rfl⟩
      go_wp2_with fail
      refine (CT.out _).mono ?_; rintro e w1 ⟨rfl, rfl⟩
      go_wp2_with fail
      refine CE.out.mono ?_; rintro e w1 ⟨rfl, rfl⟩
      go_wp2_with fail
      refine (refHas_no _ _ HS.out (by omega)).mono ?_; rintro e w1 ⟨rfl, rfl⟩
      go_wp2_with fail
      refine (live44 _).mono ?_; rintro e vl ⟨rfl, hbl⟩
      have hbe := chain HB.out hbl
      clear hbl
      go_wp2_with fail
      go_ret
      exact ⟨rfl, hbe⟩
  have HS := Lib.hid hs
  by_cases hk : k ≤ 64
  case neg =>
    have t6 : decide ((k : Int) > 64) = true := decide_eq_true (by omega)
    have t7 : decide ((k : Int) ≤ 4096) = false := decide_eq_false (by omega)
    have t8 : decide ((k : Int) > 4096) = true := decide_eq_true (by omega)
    have CE := Lib.hid (poly_Eval2_big a0 N c0 k w hs (by omega))
    clear h0 k0 hn' hN hr hl hs t5 hk
    go_enter Tryz.func4, Tryz.ntmps4
    go_wp2_with fail
    refine CS.out.mono ?_; rintro e w1 ⟨rfl, rfl⟩
    go_wp2_with fail
    refine (CT.out _).mono ?_; rintro e w1 ⟨rfl, rfl⟩
    go_wp2_with fail
    refine CE.out.mono ?_; rintro e w1 ⟨rfl, rfl⟩
    go_wp2_with fail
    refine (refHas_yes _ _ HS.out).mono ?_; rintro e w1 ⟨rfl, rfl⟩
    go_wp2_with fail
    refine (live44 _).mono ?_; rintro e vl ⟨rfl, hbl⟩
    have hbe := chain HB.out hbl
    clear hbl
    go_wp2_with fail
    go_ret
    exact ⟨rfl, hbe⟩
  have t6 : decide ((k : Int) > 64) = false := decide_eq_false (by omega)
  have t8 : decide ((k : Int) > 4096) = false := decide_eq_false (by omega)
  have CE := Lib.hid (poly_Eval2 a0 N c0 k x0 w h0 hN (by omega) hs (by omega))
  have HV : Hid (∀ j, j < k → nth (dftL (wrL x0 k) (dirRt k 0)) j = pt x0 (pw (rt k) j)) := fun j hj => val_root x0 k j hs hj
  have HL : Hid ((dftL (wrL x0 k) (dirRt k 0)).length = k) := (dftL_len _ _).trans (wrL_len _ _)
  obtain ⟨Y, hY⟩ : ∃ Y, dftL (wrL x0 k) (dirRt k 0) = Y := ⟨_, rfl⟩
  rw [hY] at CE HV HL
  have HX := Lib.hid h0
  have HN := Lib.hid hN
  have hrt := rt_range k
  have CRt : Hid (∀ V : World, Calls Tryz.prog 24 #[.int .i64 k] V fun e w' => e = .returned (.int .u64 (rt k)) ∧ V = w') := fun V => refRoot k V (by omega) (by omega)
  have CPw : Hid (∀ (j : Nat) (V : World), j < 64 → Calls Tryz.prog 23 #[.int .u64 (rt k), .int .u64 j] V fun e w' => e = .returned (.int .u64 (pw (rt k) j)) ∧ V = w') := fun j V hj => by
    have := ref_Pow (rt k) (j : Int) V (by omega) (by omega) (by omega) (by omega)
    rwa [Int.toNat_natCast] at this
  obtain ⟨Z, hZ⟩ : ∃ Z, rt k = Z := ⟨_, rfl⟩
  rw [hZ] at HV hrt CRt CPw
  have u3 : ((k : Int) != (k : Int)) = false := bfalse' rfl
  have hN2 : N ≤ 100 := by omega
  clear h0 k0 hn' hN hr hl hs t5 hY hZ
  go_enter Tryz.func4, Tryz.ntmps4
  go_wp2_with fail
  refine CS.out.mono ?_; rintro e w1 ⟨rfl, rfl⟩
  go_wp2_with fail
  refine (CT.out _).mono ?_; rintro e w1 ⟨rfl, rfl⟩
  go_wp2_with fail
  refine CE.out.mono ?_; rintro e w2 ⟨a2, c2, rfl, hr2, _, hb2⟩
  rw [HL.out]
  have HY2 := Lib.hid hr2
  have HB2 := Lib.hid hb2
  clear hr2 hb2
  go_wp2_with fail
  refine (refHas_yes _ _ HS.out).mono ?_; rintro e w3 ⟨rfl, rfl⟩
  go_wp2_with fail
  go_loopw [11] (fun i wr => ∃ j : Nat, j ≤ k ∧ i = .int .i64 j ∧ Hid (Below w.heap.size w wr) ∧ Hid (Row .u64 wr a2 Y)) (fun i _ => k - (intOf i).toNat)
  case atStart => exact ⟨0, Nat.zero_le _, rfl, HB2.out, HY2.out⟩
  case round =>
    obtain ⟨j, hj, rfl, HBr, HYr⟩ := hrel
    by_cases hlt : j < k
    · obtain ⟨b, off, rfl, hc⟩ := HYr.out.at (by rw [HL.out]; omega)
      have hck := hc j (by rw [HL.out]; exact hlt)
      rw [HV.out j hlt] at hck
      have g1 : (0 : Int) ≤ (j : Int) := by omega
      have g2 : (j : Int) < (k : Int) := by omega
      have hwj : IntKind.u64.wrap (j : Int) = (j : Int) := IntWalk.u64_in _ (by omega)
      have hpr := pw_range Z j
      have CPj := Lib.hid (fun V => CPw.out j V (by omega))
      have CEv : Hid (∀ V, Below wr.heap.size wr V → Calls Tryz.prog 16 #[.slice a0 N c0, .int .u64 (pw Z j)] V fun e w' => e = .returned (.int .u64 (pt x0 (pw Z j))) ∧ V = w') := fun V hV => ref44_Eval a0 N c0 x0 (pw Z j) V ((HX.out.below HBr.out).below hV) HN.out (by omega) (by omega) (by omega)
      obtain ⟨R, hR⟩ : ∃ R, pt x0 (pw Z j) = R := ⟨_, rfl⟩
      obtain ⟨X, hX⟩ : ∃ X, pw Z j = X := ⟨_, rfl⟩
      rw [hR] at CEv hck
      rw [hX] at CEv CPj hpr
      have u5 : (R != R) = false := bfalse' rfl
      clear hc hR hX
      go_wp2_with fail
      go_quiet ((first | (go_at_call 24; exact Calls.quiet_of_same ((CRt.out _).mono fun e w' ⟨x, y⟩ => ⟨x, y.symm⟩)) | (go_at_call 23; exact Calls.quiet_of_same ((CPj.out _).mono fun e w' ⟨x, y⟩ => ⟨x, y.symm⟩)) | (go_at_call 16; exact Calls.quiet_of_same ((CEv.out _ (below_drewN (Below.refl _ _) _)).mono fun e w' ⟨x, y⟩ => ⟨x, y.symm⟩)) | fail))
      have hb := below_drewN (Below.refl wr.heap.size wr) nq
      have HBE := Lib.hid (chain HBr.out hb)
      have HYE := Lib.hid (HYr.out.below hb)
      clear hb hck
      go_wp2_with fail
      go_roundw
      case rel => exact ⟨j + 1, by omega, by go_num, HBE.out, HYE.out⟩
      case measure => simp [intOf]; omega
    · go_wp2_with fail
      refine (live44 _).mono ?_; rintro e vl ⟨rfl, hbl⟩
      have hbe := chain HBr.out hbl
      clear hbl
      go_wp2_with fail
      go_ret
      exact ⟨rfl, hbe⟩
end Go.Proofs.YtlnlijeamflpiaaGreat

namespace Go.Proofs.YtlnlijeamflpiaaGreat
open Go.RowKit Sm
set_option linter.unusedVariables false
set_option linter.unusedSimpArgs false
set_option maxRecDepth 100000
set_option maxRecDepth 20000
/-- A store of another kind of value leaves a row. -/
theorem Row.set_slice {k : IntKind} {w : World} {a a' : Option Addr} {n c : Nat} {xs : List Int} {p : Addr} (h : Row k w a xs) (hp : w.cell? p = some (.slice a' n c)) (v : Value) : Row k (w.setCell p v) a xs := by
  refine ⟨h.len, h.wf, ?_⟩
  rcases h.lies with h1 | ⟨b, off, h1, h2⟩
  · exact Or.inl h1
  · refine Or.inr ⟨b, off, h1, fun i hi => ?_⟩
    have h3 := h2 i hi
    rw [World.cell?_setCell_other _ _ _ _ (fun e => by subst e; rw [hp] at h3; cases h3)]
    exact h3
theorem by_enters : ∀ args w, (callFunc 50 args).run Tryz.prog w = .ok (.enter 50 args) w := enters_of Tryz.func50 (by kernel_rfl) rfl
set_option maxHeartbeats 1000000 in
theorem poly_by (q : Nat) (ao : Option Addr) (no co : Nat) (ay : Option Addr) (ny cy : Nat) (xs ys : List Int) (W : World) (hc : W.heap[q]? = some (.cells #[.slice ao no co] 22 (0, 0))) (hx : Row .u64 W ao xs) (hy : Row .u64 W ay ys) (hxl : xs.length = no) (hyl : ys.length = ny) (h0 : 0 < no) (h1 : 0 < ny) (hl : no + ny ≤ 16777216) :
    Calls Tryz.prog 50 #[.slice ay ny cy, .pointer (some ⟨q, 0, none⟩)] W fun e w' => ∃ (z : World) (a : Option Addr) (c : Nat), e = .returned (.tuple #[]) ∧ w' = z.setCell ⟨q, 0, none⟩ (.slice a (lnL xs ys).length c) ∧ Row .u64 z a (lnL xs ys) ∧ OkCap a (lnL xs ys).length c ∧ Below W.heap.size W z := by
  have CM : Hid (Calls Tryz.prog 40 #[.slice ao no co, .slice ay ny cy] W (GivesRow .u64 (lnL xs ys) W)) := poly_mul ao ay no ny co cy xs ys W hx hy hxl hyl h0 h1 hl
  have hq := block_lt hc
  have d0 : W.cell? ⟨q, 0, none⟩ = some (.slice ao no co) := block_cell hc 0
  have HC := Lib.hid hc
  obtain ⟨Q, hQ⟩ : ∃ Q, lnL xs ys = Q := ⟨_, rfl⟩
  rw [hQ] at CM ⊢
  clear hx hy hxl hyl hQ hc
  go_enter Tryz.func50, Tryz.ntmps50
  go_wp2_with fail
  refine CM.out.mono ?_; rintro e w1 ⟨a1, c1, rfl, hr1, ho1, hb1⟩
  have hb9 := (hb1.block q hq).trans HC.out
  have d1 : w1.cell? ⟨q, 0, none⟩ = some (.slice ao no co) := block_cell hb9 0
  have lf : w1.frozen? ⟨q, 0, none⟩ = false := block_free hb9 0
  clear hb9
  have HR := Lib.hid hr1
  have HB := Lib.hid hb1
  have HO := Lib.hid ho1
  clear hr1 hb1 ho1
  go_wp2_with fail
  go_end0
  exact ⟨w1, a1, c1, rfl, rfl, HR.out, HO.out, HB.out⟩
theorem poly_Pow_arg (a : Option Addr) (N c : Nat) (n : Int) (w : World) (h : n < 0 ∨ 64 < n) :
    Calls Tryz.prog 25 #[.slice a N c, .int .i64 n] w fun e w' => e = .returned (.tuple #[.slice none 0 0, .int .i64 2]) ∧ w = w' := by
  by_cases h1 : n < 0
  · have t1 : decide (n < 0) = true := decide_eq_true h1
    clear h h1
    go_enter Tryz.func25, Tryz.ntmps25
    go_wp2_with fail
    refine wp_scope_jumps 0 (fun _ _ => False) (fun _ _ => 0) rfl ?_ ?_
    · go_wp2_with fail
      simp only [Exit.jump]
      go_ret2
      exact ⟨rfl, rfl⟩
    · intro a' w' h
      exact h.elim
  · have t1 : decide (n < 0) = false := decide_eq_false h1
    have t2 : decide (n > 64) = true := decide_eq_true (by omega)
    clear h h1
    go_enter Tryz.func25, Tryz.ntmps25
    go_wp2_with fail
    refine wp_scope_jumps 0 (fun _ _ => False) (fun _ _ => 0) rfl ?_ ?_
    · go_wp2_with fail
      simp only [Exit.jump]
      go_ret2
      exact ⟨rfl, rfl⟩
    · intro a' w' h
      exact h.elim
/-- The length that a power would have. -/
theorem pow_len (N n : Nat) (hN : N ≤ 16777216) (hn : n ≤ 64) : ∃ D Q : Int, IntKind.i64.wrap ((N : Int) - 1) = D ∧ IntKind.i64.wrap (D * (n : Int)) = Q ∧ IntKind.i64.wrap (Q + 1) = Q + 1 ∧ Q = ((N : Int) - 1) * n ∧ D = (N : Int) - 1 := by
  have h1 : IntKind.i64.wrap ((N : Int) - 1) = (N : Int) - 1 := IntWalk.i64_in _ (by omega)
  have hb : -64 ≤ ((N : Int) - 1) * n ∧ ((N : Int) - 1) * n ≤ 16777216 * 64 := by
    rcases Nat.eq_zero_or_pos N with h | h
    · subst h; simp; omega
    · obtain ⟨M, rfl⟩ : ∃ M, N = M + 1 := ⟨N - 1, by omega⟩
      have e : ((M + 1 : Nat) : Int) - 1 = (M : Int) := by omega
      rw [e]
      have h2 : M * n ≤ 16777216 * 64 := Nat.mul_le_mul (by omega) hn
      have e2 : (M : Int) * (n : Int) = ((M * n : Nat) : Int) := by simp
      rw [e2]; omega
  exact ⟨_, _, h1, IntWalk.i64_in _ (by omega), IntWalk.i64_in _ (by omega), rfl, rfl⟩
set_option maxHeartbeats 1000000 in
theorem poly_Pow_big (a : Option Addr) (N c n : Nat) (w : World) (hN : N ≤ 16777216) (hn : n ≤ 64) (h : 4096 < ((N : Int) - 1) * n + 1) :
    Calls Tryz.prog 25 #[.slice a N c, .int .i64 n] w fun e w' => e = .returned (.tuple #[.slice none 0 0, .int .i64 12]) ∧ w = w' := by
  obtain ⟨D, Q, h1, h2, h3, h4, h5⟩ := pow_len N n hN hn
  rw [← h4] at h
  have t1 : decide ((n : Int) < 0) = false := decide_eq_false (by omega)
  have t2 : decide ((n : Int) > 64) = false := decide_eq_false (by omega)
  have t3 : decide (Q + 1 > 4096) = true := decide_eq_true (by omega)
  clear h h4 h5
  go_enter Tryz.func25, Tryz.ntmps25
  go_wp2_with fail
  refine wp_scope_jumps 0 (fun _ _ => False) (fun _ _ => 0) rfl ?_ ?_
  · go_wp2_with fail
    simp only [Exit.jump]
    go_ret2
    exact ⟨rfl, rfl⟩
  · intro a' w' h
    exact h.elim
set_option maxHeartbeats 8000000 in
theorem poly_Pow (a : Option Addr) (N c n : Nat) (xs : List Int) (w : World) (hx : Row .u64 w a xs) (hxl : xs.length = N) (hN : N ≤ 16777216) (hn : n ≤ 64) (h : ((N : Int) - 1) * n + 1 ≤ 4096) :
    Calls Tryz.prog 25 #[.slice a N c, .int .i64 n] w (GivesRowE .u64 (pwR xs n) 0 w) := by
  obtain ⟨D, Q, h1, h2, h3, h4, h5⟩ := pow_len N n hN hn
  rw [← h4] at h
  have t1 : decide ((n : Int) < 0) = false := decide_eq_false (by omega)
  have t2 : decide ((n : Int) > 64) = false := decide_eq_false (by omega)
  have t3 : decide (Q + 1 > 4096) = false := decide_eq_false (by omega)
  by_cases h0 : n = 0
  · subst h0
    have t4 : (((0 : Nat) : Int) == 0) = true := rfl
    clear hx h h4 h5
    go_enter Tryz.func25, Tryz.ntmps25
    go_wp2_with fail
    refine wp_scope_jumps 0 (fun _ _ => False) (fun _ _ => 0) rfl ?_ ?_
    · go_wp2_with fail
      simp only [Exit.jump]
      go_ret2
      exact ⟨some ⟨w.heap.size, 0, none⟩, 1, rfl, row_one _ _ (block_cell (block_new rfl) 0), ⟨by simp [pwR], fun e => by cases e⟩, (Below.refl _ _).alloc (Nat.le_refl _) _⟩
    · intro a' w' h
      exact h.elim
  have t4 : ((n : Int) == 0) = false := bno (by omega)
  by_cases hN0 : N = 0
  · subst hN0
    obtain ⟨n', rfl⟩ : ∃ n', n = n' + 1 := ⟨n - 1, by omega⟩
    have hxe : xs = [] := List.length_eq_zero_iff.1 hxl
    subst hxe
    rw [pwR_nil]
    clear hx h h4 h5
    go_enter Tryz.func25, Tryz.ntmps25
    go_wp2_with fail
    refine wp_scope_jumps 0 (fun _ _ => False) (fun _ _ => 0) rfl ?_ ?_
    · go_wp2_with fail
      simp only [Exit.jump]
      go_ret2
      exact ⟨none, 0, rfl, Row.nil _ _ _, ⟨Nat.le_refl _, by simp⟩, Below.refl _ _⟩
    · intro a' w' h
      exact h.elim
  have t5 : ((N : Int) == 0) = false := bno (by omega)
  obtain ⟨B, hB⟩ : ∃ B, N - 1 = B := ⟨_, rfl⟩
  have hbn : B * n + 1 ≤ 4096 := by
    have e : ((N : Int) - 1) * n = ((B * n : Nat) : Int) := by rw [show (N : Int) - 1 = (B : Int) by omega]; simp
    rw [h4, e] at h; omega
  have HLEN : Hid (∀ k, k ≤ n → 1 ≤ (pwR xs k).length ∧ (pwR xs k).length ≤ 4096) := fun k hk => by
    rw [pwR_len xs k (by omega), hxl, hB]
    have := Nat.mul_le_mul_left B hk
    omega
  have HOUT : Hid (pwR xs 1 = xs.map (· % 18446744069414584321)) := pwR_one xs
  have HX := Lib.hid hx
  have HXL := Lib.hid hxl
  have HADD : Hid (∀ a b, lnL (pwR xs a) (pwR xs b) = pwR xs (a + b)) := pwR_add xs
  have hn1 : 1 ≤ n := by omega
  have hby := by_enters
  clear hx h h4 h5 hbn hB hxl
  go_enter Tryz.func25, Tryz.ntmps25
  go_wp2_with fail
  refine wp_scope_jumps 0 (fun _ _ => False) (fun _ _ => 0) rfl ?_ (fun a' w' h => h.elim)
  go_wp2_with fail
  obtain ⟨W1, hW1⟩ : ∃ W1, w.alloc (.cells #[.int .u64 1] 23) = W1 := ⟨_, rfl⟩
  rw [hW1]
  have hb1 : Below w.heap.size w W1 := by rw [← hW1]; exact (Below.refl _ _).alloc (Nat.le_refl _) _
  have c1 : W1.cell? ⟨w.heap.size, 0, none⟩ = some (.int .u64 1) := by rw [← hW1]; exact block_cell (block_new rfl) 0
  have HB1 := Lib.hid hb1
  have HC1 := Lib.hid c1
  clear hb1 c1 hW1
  refine (vec_RedN2 a N c xs _ (HX.out.below HB1.out) HXL.out hN).mono ?_; rintro e w2 ⟨a2, cap2, rfl, hr2, ho2, hb2⟩
  have HB2 := Lib.hid (chain HB1.out hb2)
  have HR2 : Hid (Row .u64 w2 a2 (pwR xs 1)) := by unfold Hid; rw [HOUT.out]; exact hr2
  have HC2 := Lib.hid ((hb2.cell (p := ⟨w.heap.size, 0, none⟩) (World.block_lt_of_cell? _ _ HC1.out)).trans HC1.out)
  have hl2 : (xs.map (· % 18446744069414584321)).length = N := by rw [List.length_map]; exact HXL.out
  rw [hl2]
  have HL1 : Hid ((pwR xs 1).length = N) := by unfold Hid; rw [HOUT.out]; exact hl2
  clear hr2 ho2 hb2 hl2
  go_wp2_with fail
  obtain ⟨q, hq⟩ : ∃ q, w2.heap.size = q := ⟨_, rfl⟩
  obtain ⟨W3, hW3⟩ : ∃ W3, w2.alloc (.cells #[.slice (some ⟨w.heap.size, 0, none⟩) 1 1] 22) = W3 := ⟨_, rfl⟩
  have hb3 : Below w2.heap.size w2 W3 := by rw [← hW3]; exact (Below.refl _ _).alloc (Nat.le_refl _) _
  have hcq : W3.heap[q]? = some (.cells #[.slice (some ⟨w.heap.size, 0, none⟩) 1 1] 22 (0, 0)) := by rw [← hW3, ← hq]; exact block_new rfl
  have HB3 := Lib.hid (chain HB2.out hb3)
  have HR3 := Lib.hid (HR2.out.below hb3)
  have HO3 : Hid (Row .u64 W3 (some ⟨w.heap.size, 0, none⟩) (pwR xs 0)) := row_one _ _ ((hb3.cell (p := ⟨w.heap.size, 0, none⟩) (World.block_lt_of_cell? _ _ HC2.out)).trans HC2.out)
  have HCQ := Lib.hid hcq
  have hqw : w.heap.size ≤ q := by rw [← hq]; exact HB2.out.size
  rw [hW3, hq]
  clear hW3 hb3 hcq hq
  go_step3
  go_wp2_with fail
  go_loopw [1, 7] (fun im isq wr => ∃ (e s m : Nat) (ao ab : Option Addr) (no co ns cs : Nat), im = .int .i64 m ∧ isq = .slice ab ns cs ∧ 1 ≤ m ∧ m ≤ 64 ∧ Hid (e + m * s = n) ∧ Hid (wr.heap[q]? = some (.cells #[.slice ao no co] 22 (0, 0))) ∧ Hid (Row .u64 wr ao (pwR xs e)) ∧ Hid ((pwR xs e).length = no) ∧ Hid (OkCap ao no co) ∧ Hid (Row .u64 wr ab (pwR xs s)) ∧ Hid ((pwR xs s).length = ns) ∧ Hid (Below w.heap.size w wr)) (fun im _ _ => (intOf im).toNat)
  case atStart => exact ⟨0, 1, n, _, a2, 1, 1, N, cap2, rfl, rfl, hn1, hn, by unfold Hid; omega, HCQ.out, HO3.out, rfl, ⟨Nat.le_refl _, fun e => by cases e⟩, HR3.out, HL1.out, HB3.out⟩
  case round =>
    obtain ⟨e, s, m, ao, ab, no, co, ns, cs, rfl, rfl, hm1, hm64, HE, HCell, HRo, HLo, HOo, HRs, HLs, HBl⟩ := hrel
    obtain ⟨m2, hm2⟩ : ∃ m2, m / 2 = m2 := ⟨_, rfl⟩
    have d1 : (m : Int).tdiv 2 = (m2 : Int) := by rw [Int.tdiv_eq_ediv_of_nonneg (by omega)]; omega
    have d2 : (m : Int) / 2 = (m2 : Int) := by rw [← hm2]; omega
    have d3 : IntKind.i64.wrap (m2 : Int) = (m2 : Int) := IntWalk.i64_in _ (by omega)
    have hes : e + s ≤ n := by
      have h7 : e + m * s = n := HE.out
      have h8 : 1 * s ≤ m * s := Nat.mul_le_mul_right s hm1
      omega
    by_cases hodd : m % 2 = 1
    · have r1 : (m : Int).tmod 2 = 1 := by rw [Int.tmod_eq_emod_of_nonneg (by omega)]; omega
      have r2 : (m : Int) % 2 = 1 := by omega
      have hlo := HLEN.out e (by omega)
      have hls := HLEN.out s (by omega)
      rw [HLo.out] at hlo
      rw [HLs.out] at hls
      have hm2e : 2 * m2 + 1 = m := by omega
      have HM := Lib.hid hm2e
      clear hm2 hodd
      go_wp2_with fail
      refine (poly_by q ao no co ab ns cs (pwR xs e) (pwR xs s) wr HCell.out HRo.out HRs.out HLo.out HLs.out (by omega) (by omega) (by omega)).mono ?_
      rintro e9 w9 ⟨z, az, cz, rfl, rfl, hrz, hoz, hbz⟩
      rw [HADD.out] at hrz hoz ⊢
      have hbq : z.heap[q]? = some (.cells #[.slice ao no co] 22 (0, 0)) := (hbz.block q (block_lt HCell.out)).trans HCell.out
      have hcz : z.cell? ⟨q, 0, none⟩ = some (.slice ao no co) := block_cell hbq 0
      obtain ⟨V, hV⟩ : ∃ V, z.setCell ⟨q, 0, none⟩ (.slice az (pwR xs (e + s)).length cz) = V := ⟨_, rfl⟩
      have HRV : Hid (Row .u64 V az (pwR xs (e + s))) := by unfold Hid; rw [← hV]; exact hrz.set_slice hcz _
      have HSV : Hid (Row .u64 V ab (pwR xs s)) := by unfold Hid; rw [← hV]; exact (HRs.out.below hbz).set_slice hcz _
      have HBV : Hid (Below w.heap.size w V) := by unfold Hid; rw [← hV]; exact (chain HBl.out hbz).setCell (p := ⟨q, 0, none⟩) hqw _
      have HCV : Hid (V.heap[q]? = some (.cells #[.slice az (pwR xs (e + s)).length cz] 22 (0, 0))) := by unfold Hid; rw [← hV, block_set hbq 0 _]; simp
      have HOZ := Lib.hid hoz
      rw [hV]
      obtain ⟨L, hL⟩ : ∃ L, (pwR xs (e + s)).length = L := ⟨_, rfl⟩
      rw [hL] at HCV HOZ
      have HLL := Lib.hid hL
      clear hrz hoz hbz hcz hbq hV hL
      by_cases hz : m2 = 0
      · have t6 : ((m2 : Int) == 0) = true := btrue (by omega)
        have hcell : V.cell? ⟨q, 0, none⟩ = some (.slice az L cz) := block_cell HCV.out 0
        have HEN : Hid (e + s = n) := by
          unfold Hid
          have h8 : m = 1 := by have := HM.out; omega
          have h7 := HE.out
          rw [h8, Nat.one_mul] at h7
          exact h7
        clear hz
        go_wp2_with fail
        simp only [Exit.jump]
        go_ret2
        refine ⟨az, cz, by rw [← HEN.out, HLL.out]; rfl, by rw [← HEN.out]; exact HRV.out, by rw [← HEN.out, HLL.out]; exact HOZ.out, HBV.out⟩
      · have t6 : ((m2 : Int) == 0) = false := bno (by omega)
        have HEN : Hid (e + s + m2 * (s + s) = n) := by
          unfold Hid
          have h7 := HE.out
          rw [← HM.out, Nat.add_mul, Nat.one_mul, Nat.mul_comm 2 m2, Nat.mul_assoc, Nat.two_mul] at h7
          omega
        have h2s : s + s ≤ n := by
          have h7 := HEN.out
          have := Nat.mul_le_mul_right (s + s) (show 1 ≤ m2 by omega)
          omega
        have HM2 : Hid (1 ≤ m2 ∧ m2 ≤ 64 ∧ m2 < m) := by unfold Hid; omega
        clear hz
        go_wp2_with fail
        refine (poly_mul ab ab ns ns cs cs (pwR xs s) (pwR xs s) _ HSV.out HSV.out HLs.out HLs.out (by omega) (by omega) (by omega)).mono ?_
        rintro e5 w5 ⟨a5, c5, rfl, hr5, ho5, hb5⟩
        rw [HADD.out] at hr5 ho5 ⊢
        obtain ⟨L5, hL5⟩ : ∃ L, (pwR xs (s + s)).length = L := ⟨_, rfl⟩
        rw [hL5]
        have HL5 := Lib.hid hL5
        have HR5 := Lib.hid hr5
        have HRO5 := Lib.hid (HRV.out.below hb5)
        have HB5 := Lib.hid (chain HBV.out hb5)
        have HC5 := Lib.hid ((hb5.block q (block_lt HCV.out)).trans HCV.out)
        clear hr5 hb5 hL5 ho5
        go_wp2_with fail
        go_roundw
        case rel => exact ⟨e + s, s + s, m2, az, a5, L, cz, L5, c5, by go_num, rfl, HM2.out.1, HM2.out.2.1, HEN.out, HC5.out, HRO5.out, HLL.out, HOZ.out, HR5.out, HL5.out, HB5.out⟩
        case measure => have := HM2.out; simp [intOf]; omega
    · have r1 : (m : Int).tmod 2 = 0 := by rw [Int.tmod_eq_emod_of_nonneg (by omega)]; omega
      have r2 : (m : Int) % 2 = 0 := by omega
      have hls := HLEN.out s (by omega)
      rw [HLs.out] at hls
      have hm2e : 2 * m2 = m := by omega
      have t6 : ((m2 : Int) == 0) = false := bno (by omega)
      have HEN : Hid (e + m2 * (s + s) = n) := by
        unfold Hid
        have h7 := HE.out
        rw [← hm2e, Nat.mul_comm 2 m2, Nat.mul_assoc, Nat.two_mul] at h7
        exact h7
      have h2s : s + s ≤ n := by
        have h7 := HEN.out
        have := Nat.mul_le_mul_right (s + s) (show 1 ≤ m2 by omega)
        omega
      have HM2 : Hid (1 ≤ m2 ∧ m2 ≤ 64 ∧ m2 < m) := by unfold Hid; omega
      clear hm2 hodd hm2e
      go_wp2_with fail
      refine (poly_mul ab ab ns ns cs cs (pwR xs s) (pwR xs s) _ HRs.out HRs.out HLs.out HLs.out (by omega) (by omega) (by omega)).mono ?_
      rintro e5 w5 ⟨a5, c5, rfl, hr5, ho5, hb5⟩
      rw [HADD.out] at hr5 ho5 ⊢
      obtain ⟨L5, hL5⟩ : ∃ L, (pwR xs (s + s)).length = L := ⟨_, rfl⟩
      rw [hL5]
      have HL5 := Lib.hid hL5
      have HR5 := Lib.hid hr5
      have HRO5 := Lib.hid (HRo.out.below hb5)
      have HB5 := Lib.hid (chain HBl.out hb5)
      have HC5 := Lib.hid ((hb5.block q (block_lt HCell.out)).trans HCell.out)
      clear hr5 hb5 hL5 ho5
      go_wp2_with fail
      go_roundw
      case rel => exact ⟨e, s + s, m2, ao, a5, no, co, L5, c5, by go_num, rfl, HM2.out.1, HM2.out.2.1, HEN.out, HC5.out, HRO5.out, HLo.out, HOo.out, HR5.out, HL5.out, HB5.out⟩
      case measure => have := HM2.out; simp [intOf]; omega
end Go.Proofs.YtlnlijeamflpiaaGreat

namespace Go.Proofs.YtlnlijeamflpiaaGreat
open Go.RowKit Sm
set_option linter.unusedVariables false
set_option linter.unusedSimpArgs false
set_option maxRecDepth 100000
set_option maxRecDepth 20000
set_option maxHeartbeats 16000000 in
theorem polyPowersW (a0 : Option Addr) (c0 : Nat) (x0 : List Int) (n m : Int) (w : World) (h0 : Row .u64 w a0 x0) (k0 : OkCap a0 x0.length c0) (hn' : fits .i64 n) (hm' : fits .i64 m) :
    Calls Tryz.prog 5 #[.slice a0 x0.length c0, .int .i64 n, .int .i64 m] w fun e w' => e = .returned (.bool true) ∧ Below w.heap.size w w' := by
  have hn2 := fits_i64.1 hn'
  have hm2 := fits_i64.1 hm'
  obtain ⟨N, hN⟩ : ∃ N, x0.length = N := ⟨_, rfl⟩
  rw [hN]
  have HB : Hid (Below w.heap.size w w) := Below.refl _ _
  by_cases hb : N ≤ 12
  case neg =>
    have t1 : decide ((N : Int) > 12) = true := decide_eq_true (by omega)
    clear hb h0 k0 hn' hm' hN
    go_enter Tryz.func5, Tryz.ntmps5
    go_wp2_with fail
    refine (live44 _).mono ?_; rintro e vl ⟨rfl, hbl⟩
    have hbe := chain HB.out hbl
    clear hbl
    go_wp2_with fail
    go_ret
    exact ⟨rfl, hbe⟩
  have t1 : decide ((N : Int) > 12) = false := decide_eq_false (by omega)
  by_cases hna : n < 0 ∨ 64 < n
  case pos =>
    have CA := Lib.hid (poly_Pow_arg a0 N c0 n w hna)
    have t2 : decide (n < 0) = true ∨ (decide (n < 0) = false ∧ decide (n > 64) = true) := by
      by_cases h : n < 0
      · exact .inl (decide_eq_true h)
      · exact .inr ⟨decide_eq_false h, decide_eq_true (by omega)⟩
    clear hb h0 k0 hn' hm' hN hna
    rcases t2 with t2 | ⟨t2, t3⟩
    all_goals
      go_enter Tryz.func5, Tryz.ntmps5
      go_wp2_with fail
      refine CA.out.mono ?_; rintro e w1 ⟨rfl, rfl⟩
      go_wp2_with fail
      refine (live44 _).mono ?_; rintro e vl ⟨rfl, hbl⟩
      have hbe := chain HB.out hbl
      clear hbl
      go_wp2_with fail
      go_ret
      exact ⟨rfl, hbe⟩
  obtain ⟨k, rfl⟩ := Int.eq_ofNat_of_zero_le (show 0 ≤ n by omega)
  have hk : k ≤ 64 := by omega
  have t2 : decide ((k : Int) < 0) = false := decide_eq_false (by omega)
  have t3 : decide ((k : Int) > 64) = false := decide_eq_false (by omega)
  have HLN : Hid (∀ j : Nat, j ≤ 64 → ((N : Int) - 1) * (j : Int) + 1 ≤ 4096) := fun j hj => by
    rcases Nat.eq_zero_or_pos N with h | h
    · subst h; simp; omega
    · obtain ⟨M, rfl⟩ : ∃ M, N = M + 1 := ⟨N - 1, by omega⟩
      have e : ((M + 1 : Nat) : Int) - 1 = (M : Int) := by omega
      rw [e]
      have h2 : M * j ≤ 11 * 64 := Nat.mul_le_mul (by omega) hj
      have e2 : (M : Int) * (j : Int) = ((M * j : Nat) : Int) := by simp
      rw [e2]; omega
  have HLL : Hid (∀ j, j ≤ 64 → (pwR x0 j).length ≤ 4096) := fun j hj => by
    by_cases h : x0.length = 0
    · have hx : x0 = [] := List.length_eq_zero_iff.1 h
      subst hx
      cases j with
      | zero => simp [pwR]
      | succ j => rw [pwR_nil]; simp
    · rw [pwR_len x0 j h, hN]
      have h2 : (N - 1) * j ≤ 11 * 64 := Nat.mul_le_mul (by omega) hj
      omega
  have CP : Hid (∀ j : Nat, j ≤ 64 → ∀ V, Below w.heap.size w V → Calls Tryz.prog 25 #[.slice a0 N c0, .int .i64 j] V (GivesRowE .u64 (pwR x0 j) 0 V)) := fun j hj V hV => poly_Pow a0 N c0 j x0 V (h0.below hV) hN (by omega) hj (HLN.out j hj)
  have CQ : Hid (∀ j : Nat, j ≤ 64 → ∀ V, Below w.heap.size w V → Calls Tryz.prog 26 #[.slice a0 N c0, .int .i64 j] V (GivesRow .u64 (pwR x0 j) V)) := fun j hj V hV => ref44_Pow a0 N c0 j x0 V (h0.below hV) hN (by omega) (fun i hi => HLL.out i (by omega)) (by omega)
  have CR : Hid (∀ V, Below w.heap.size w V → Calls Tryz.prog 16 #[.slice a0 N c0, .int .u64 3] V fun e w' => e = .returned (.int .u64 (pt x0 3)) ∧ V = w') := fun V hV => ref44_Eval a0 N c0 x0 3 V (h0.below hV) hN (by omega) (by omega) (by omega)
  have HPW := Lib.hid (pt_pw x0 3 k)
  have HADD := Lib.hid (pwR_add x0 k)
  have hp3 := pt_range x0 3
  have hu : IntKind.u64.wrap (k : Int) = (k : Int) := IntWalk.u64_in _ (by omega)
  have hlk := HLL.out k hk
  obtain ⟨P, hP⟩ : ∃ P, pwR x0 k = P := ⟨_, rfl⟩
  have HPP := Lib.hid hP
  obtain ⟨L, hL⟩ : ∃ L, P.length = L := ⟨_, rfl⟩
  have HL := Lib.hid hL
  have CPk : Hid (∀ V, Below w.heap.size w V → Calls Tryz.prog 25 #[.slice a0 N c0, .int .i64 k] V (GivesRowE .u64 P 0 V)) := fun V hV => by rw [← hP]; exact CP.out k hk V hV
  have CQk : Hid (∀ V, Below w.heap.size w V → Calls Tryz.prog 26 #[.slice a0 N c0, .int .i64 k] V (GivesRow .u64 P V)) := fun V hV => by rw [← hP]; exact CQ.out k hk V hV
  rw [hP, hL] at hlk
  rw [hP] at HPW HADD
  obtain ⟨E3, hE3⟩ : ∃ E, pt x0 3 = E := ⟨_, rfl⟩
  rw [hE3] at CR HPW hp3
  have u1 : ((0 : Int) != 0) = false := bfalse' rfl
  clear hb h0 k0 hn' hm' hN hna hP hL hE3
  by_cases hk12 : k ≤ 12
  case neg =>
    have t4 : decide ((k : Int) > 12) = true := decide_eq_true (by omega)
    have hpr := pw_range E3 k
    have CPw : Hid (∀ V : World, Calls Tryz.prog 23 #[.int .u64 E3, .int .u64 k] V fun e w' => e = .returned (.int .u64 (pw E3 k)) ∧ V = w') := fun V => by
      have := ref_Pow E3 (k : Int) V (by omega) (by omega) (by omega) (by omega)
      rwa [Int.toNat_natCast] at this
    obtain ⟨R, hR⟩ : ∃ R, pw E3 k = R := ⟨_, rfl⟩
    rw [hR] at CPw HPW hpr
    have u4 : (R == R) = true := btrue rfl
    clear hk12 hR
    go_enter Tryz.func5, Tryz.ntmps5
    go_wp2_with fail
    refine (CPk.out _ HB.out).mono ?_; rintro e w1 ⟨a2, c2, rfl, hr1, _, hb1⟩
    rw [HL.out]
    have HR1 := Lib.hid hr1
    have HB1 := Lib.hid hb1
    clear hr1 hb1
    go_wp2_with fail
    refine (poly_Eval a2 L c2 P 3 _ HR1.out HL.out (by omega) (by omega) (by omega)).mono ?_; rintro e w2 ⟨rfl, hb2⟩
    rw [HPW.out]
    have HB2 := Lib.hid (chain HB1.out hb2)
    clear hb2
    go_wp2_with fail
    refine (CR.out _ HB2.out).mono ?_; rintro e w3 ⟨rfl, rfl⟩
    go_wp2_with fail
    refine (CPw.out _).mono ?_; rintro e w3 ⟨rfl, rfl⟩
    go_wp2_with fail
    refine (live44 _).mono ?_; rintro e vl ⟨rfl, hbl⟩
    have hbe := chain HB2.out hbl
    clear hbl
    go_wp2_with fail
    go_ret
    exact ⟨rfl, hbe⟩
  have t4 : decide ((k : Int) > 12) = false := decide_eq_false (by omega)
  go_enter Tryz.func5, Tryz.ntmps5
  go_wp2_with fail
  refine (CPk.out _ HB.out).mono ?_; rintro e w1 ⟨a2, c2, rfl, hr1, _, hb1⟩
  rw [HL.out]
  have HR1 := Lib.hid hr1
  have HB1 := Lib.hid hb1
  clear hr1 hb1
  go_wp2_with fail
  refine (CQk.out _ HB1.out).mono ?_; rintro e w2 ⟨a3, c3, rfl, hr2, _, hb2⟩
  rw [HL.out]
  have HR2 := Lib.hid hr2
  have HP2 := Lib.hid (HR1.out.below hb2)
  have HB2 := Lib.hid (chain HB1.out hb2)
  clear hr2 hb2
  go_wp2_with fail
  refine (ref_SameT _ _ _ _ _ _ P P _ HP2.out HR2.out HL.out HL.out rfl).mono ?_
  rintro e w3 ⟨rfl, hb3⟩
  have HP3 := Lib.hid (HP2.out.below hb3)
  have HB3 := Lib.hid (chain HB2.out hb3)
  clear hb3
  by_cases hma : m < 0 ∨ 8 < m
  case pos =>
    have t5 : decide (m < 0) = true ∨ (decide (m < 0) = false ∧ decide (m > 8) = true) := by
      by_cases h : m < 0
      · exact .inl (decide_eq_true h)
      · exact .inr ⟨decide_eq_false h, decide_eq_true (by omega)⟩
    clear hma
    rcases t5 with t5 | ⟨t5, t6⟩
    all_goals
      go_wp2_with fail
      refine (live44 _).mono ?_; rintro e vl ⟨rfl, hbl⟩
      have hbe := chain HB3.out hbl
      clear hbl
      go_wp2_with fail
      go_ret
      exact ⟨rfl, hbe⟩
  obtain ⟨j, rfl⟩ := Int.eq_ofNat_of_zero_le (show 0 ≤ m by omega)
  have hj : j ≤ 8 := by omega
  have t5 : decide ((j : Int) < 0) = false := decide_eq_false (by omega)
  have t6 : decide ((j : Int) > 8) = false := decide_eq_false (by omega)
  obtain ⟨s, hs⟩ : ∃ s, k + j = s := ⟨_, rfl⟩
  have hkj : IntKind.i64.wrap ((k : Int) + (j : Int)) = (s : Int) := by rw [IntWalk.i64_in _ (by omega)]; omega
  have CPj := Lib.hid (CP.out j (by omega))
  have CPs := Lib.hid (CP.out s (by omega))
  have HAD := Lib.hid (HADD.out j)
  rw [hs] at HAD
  have hlj := HLL.out j (by omega)
  have hls := HLL.out s (by omega)
  obtain ⟨Q, hQ⟩ : ∃ P, pwR x0 j = P := ⟨_, rfl⟩
  obtain ⟨R, hR⟩ : ∃ P, pwR x0 s = P := ⟨_, rfl⟩
  obtain ⟨LQ, hLQ⟩ : ∃ L, Q.length = L := ⟨_, rfl⟩
  obtain ⟨LR, hLR⟩ : ∃ L, R.length = L := ⟨_, rfl⟩
  rw [hQ] at CPj HAD hlj
  rw [hR] at CPs HAD hls
  rw [hLQ] at hlj
  rw [hLR] at hls
  have HLQ := Lib.hid hLQ
  have HLR := Lib.hid hLR
  have u0 : IntKind.i64.wrap ((0 : Int) + 0) = 0 := rfl
  clear hma hs hQ hR hLQ hLR
  go_wp2_with fail
  refine (CPj.out _ HB3.out).mono ?_; rintro e w4 ⟨a4, c4, rfl, hr4, _, hb4⟩
  rw [HLQ.out]
  have HQ4 := Lib.hid hr4
  have HP4 := Lib.hid (HP3.out.below hb4)
  have HB4 := Lib.hid (chain HB3.out hb4)
  clear hr4 hb4
  go_wp2_with fail
  refine (CPs.out _ HB4.out).mono ?_; rintro e w5 ⟨a5, c5, rfl, hr5, _, hb5⟩
  rw [HLR.out]
  have HR5 := Lib.hid hr5
  have HQ5 := Lib.hid (HQ4.out.below hb5)
  have HP5 := Lib.hid (HP4.out.below hb5)
  have HB5 := Lib.hid (chain HB4.out hb5)
  clear hr5 hb5
  go_wp2_with fail
  refine (convRef_LinearL a2 a4 L LQ c2 c4 P Q _ HP5.out HQ5.out HL.out HLQ.out hlk hlj).mono ?_; rintro e w6 ⟨a6, c6, rfl, hr6, _, hb6⟩
  rw [HAD.out] at hr6 ⊢
  rw [HLR.out]
  have HL6 := Lib.hid hr6
  have HR6 := Lib.hid (HR5.out.below hb6)
  have HB6 := Lib.hid (chain HB5.out hb6)
  clear hr6 hb6
  go_wp2_with fail
  refine (ref_SameT _ _ _ _ _ _ R R _ HL6.out HR6.out HLR.out HLR.out rfl).mono ?_
  rintro e w7 ⟨rfl, hb7⟩
  have HB7 := Lib.hid (chain HB6.out hb7)
  clear hb7
  go_wp2_with fail
  refine (live44 _).mono ?_; rintro e vl ⟨rfl, hbl⟩
  have hbe := chain HB7.out hbl
  clear hbl
  go_wp2_with fail
  go_ret
  exact ⟨rfl, hbe⟩
end Go.Proofs.YtlnlijeamflpiaaGreat

namespace Go.Proofs.YtlnlijeamflpiaaGreat
open Go.RowKit Sm
set_option linter.unusedVariables false
set_option linter.unusedSimpArgs false
set_option maxRecDepth 100000
set_option maxRecDepth 20000
theorem big_six (N : Nat) (h : 1 ≤ N) : nth (lnL ((List.range N).map fun j => if j = 0 then (2 : Int) else 0) [3]) 0 = 6 := by
  have h1 := lnL_fc ((List.range N).map fun j => if j = 0 then (2 : Int) else 0) [3] 0
  have h2 := lnL_rng ((List.range N).map fun j => if j = 0 then (2 : Int) else 0) [3] 0
  have e : fc (nth ((List.range N).map fun j => if j = 0 then (2 : Int) else 0)) (nth [3]) 0 = 6 := by
    unfold fc
    show 0 + nth ((List.range N).map fun j => if j = 0 then (2 : Int) else 0) 0 * nth [3] (0 - 0) = 6
    rw [nth_ofFn _ _ _ (by omega)]
    rfl
  rw [e] at h1
  unfold Eqm at h1
  omega
theorem fitsP_u8 {x : Int} : fits .u8 x ↔ 0 ≤ x ∧ x < 256 := by
  unfold fits
  simp only [Lit.wf, Bool.and_eq_true, decide_eq_true_eq, show IntKind.u8.min = 0 from rfl, show IntKind.u8.max = 255 from rfl]
  omega
set_option maxHeartbeats 16000000 in
theorem polyBig_any (k b r s N K D T G : Nat) (w : World) (hk : k < 256) (hb : b < 256) (hr : k % 3 = r) (hs : k % 2 = s) (hN : r + 4095 = N) (hK : 2 + b % 60 = K) (hD : 4095 / K = D) (hT : D + s = T) (hG : T * K = G) :
    Calls Tryz.prog 6 #[.int .u8 k, .int .u8 b] w fun e w' => e = .returned (.bool true) ∧ Below w.heap.size w w' := by
  obtain ⟨i0, hi, hz0, hz1, hz2⟩ := info_parts info_u64
  obtain ⟨q, hq⟩ : ∃ q, b % 60 = q := ⟨_, rfl⟩
  rw [hq] at hK
  have hK2 : 2 ≤ K ∧ K ≤ 61 := by omega
  have hD2 : D ≤ 2047 := by rw [← hD]; have := Nat.div_le_div_left hK2.1 (show 0 < 2 by omega) (a := 4095); omega
  have hT2 : T ≤ 2048 := by omega
  have hG2 : G ≤ 124928 := by rw [← hG]; have := Nat.mul_le_mul hT2 hK2.2; omega
  have hN2 : N ≤ 4097 := by omega
  have hN3 : 4095 ≤ N := by omega
  have e1 : (k : Int) % 3 = (r : Int) := by omega
  have e1t : (k : Int).tmod 3 = (r : Int) := by rw [Int.tmod_eq_emod_of_nonneg (by omega)]; omega
  have e2 : (r : Int) + 4095 = (N : Int) := by omega
  have e3 : (b : Int) % 60 = (q : Int) := by omega
  have e3t : (b : Int).tmod 60 = (q : Int) := by rw [Int.tmod_eq_emod_of_nonneg (by omega)]; omega
  have e4 : 2 + (q : Int) = (K : Int) := by omega
  have e5 : (k : Int) % 2 = (s : Int) := by omega
  have e5t : (k : Int).tmod 2 = (s : Int) := by rw [Int.tmod_eq_emod_of_nonneg (by omega)]; omega
  have f0 : ¬ (K : Int) = 0 := by omega
  have f2 : (4095 : Int) / (K : Int) = (D : Int) := by rw [← hD]; rfl
  have f1 : Int.tdiv (4095 : Int) (K : Int) = (D : Int) := by rw [Int.tdiv_eq_ediv_of_nonneg (by omega)]; exact f2
  obtain ⟨D1, hD1⟩ : ∃ D1, D + 1 = D1 := ⟨_, rfl⟩
  obtain ⟨X, hX⟩ : ∃ X, D1 + s = X := ⟨_, rfl⟩
  have f3 : (D : Int) + 1 = (D1 : Int) := by omega
  have f4 : (D1 : Int) + (s : Int) = (X : Int) := by omega
  have f5 : (D : Int) + (s : Int) = (T : Int) := by omega
  have f6 : (T : Int) * (K : Int) = (G : Int) := by rw [← hG]; simp
  have g1 : (0 : Int) < (N : Int) := by omega
  have w1 : IntKind.i64.wrap (k : Int) = (k : Int) := IntWalk.i64_in _ (by omega)
  have w2 : IntKind.i64.wrap (b : Int) = (b : Int) := IntWalk.i64_in _ (by omega)
  have w3 : IntKind.i64.wrap (K : Int) = (K : Int) := IntWalk.i64_in _ (by omega)
  have w4 : IntKind.i64.wrap (D : Int) = (D : Int) := IntWalk.i64_in _ (by omega)
  have w5 : IntKind.i64.wrap (D1 : Int) = (D1 : Int) := IntWalk.i64_in _ (by omega)
  have w6 : IntKind.i64.wrap (X : Int) = (X : Int) := IntWalk.i64_in _ (by omega)
  have w7 : IntKind.i64.wrap (T : Int) = (T : Int) := IntWalk.i64_in _ (by omega)
  have w8 : IntKind.i64.wrap (G : Int) = (G : Int) := IntWalk.i64_in _ (by omega)
  have w9 : IntKind.i64.wrap ((G : Int) + 1) = (G : Int) + 1 := IntWalk.i64_in _ (by omega)
  have hXN : X ≤ N := by omega
  have hXn : ¬ X = N := by omega
  have hX1 : ((X : Int) - 1) * (K : Int) = (G : Int) := by rw [show (X : Int) - 1 = (T : Int) by omega]; exact f6
  have hrow3 : ∀ (w : World) (n : Nat), n = w.heap.size → Row .u64 (w.alloc (.cells #[.int .u64 3] 23)) (some ⟨n, 0, none⟩) [3] := fun w n hn => litRow w _ n [3] hn (by decide) (by simp)
  have R3 := Lib.hid hrow3
  have HSIX := Lib.hid (big_six N (by omega))
  clear hrow3 hr hN hq hD hT hG hD1 hX
  go_enter Tryz.func6, Tryz.ntmps6
  go_wp2_with (at_make; refine wpList_make_full _ rfl _ _ 22 rfl w.heap.size 23 i0 (.int .u64 0) 1 Tryz.underlying22 hi hz0 hz1 .i64 .i64 N N N rfl rfl rfl rfl (by rw [hz2]; omega) (by unfold maxLen; omega) (Nat.le_refl _) ?_)
  intro w1' hown0 hgrow0
  have hown := Own.made hown0 hgrow0
  clear hown0 hgrow0
  have hcell := hown.cell 0 (by omega)
  have hfz := hown.free 0
  have hnext := hown.store 0 (by omega) 2 (f' := fun j => if j = 0 then 2 else 0) (if_pos rfl) (fun j _ hj => if_neg hj)
  have hrow := hnext.row (xs := (List.range N).map fun j => if j = 0 then (2 : Int) else 0) (by simp) (fun x hx => by
    obtain ⟨j, _, rfl⟩ := List.mem_map.1 hx
    split <;> exact fits_u64.2 (by omega)) (fun i hi => nth_ofFn _ _ _ hi) (by omega)
  have HLN : Hid (((List.range N).map fun j => if j = 0 then (2 : Int) else 0).length = N) := by unfold Hid; simp
  obtain ⟨xs, hxs⟩ : ∃ xs, ((List.range N).map fun j => if j = 0 then (2 : Int) else 0) = xs := ⟨_, rfl⟩
  rw [hxs] at hrow HLN HSIX
  have HR := Lib.hid hrow
  have HB := Lib.hid hnext.below
  have g2 : 0 < N := by omega
  clear hown hnext hrow hxs
  by_cases hbig : 4096 < N
  · have t1 : decide ((N : Int) > 4096) = true := decide_eq_true (by omega)
    have HBIG := Lib.hid hbig
    clear hbig
    go_wp2_with fail
    refine (poly_Mul_big _ _ N 1 _ _ _ (by have := HBIG.out; omega) (by omega) (by omega)).mono ?_; rintro e w2 ⟨rfl, rfl⟩
    go_wp2_with fail
    refine (live44 _).mono ?_; rintro e vl ⟨rfl, hbl⟩
    have hbe := chainA HB.out hbl
    clear hbl
    go_wp2_with fail
    go_ret
    exact ⟨rfl, hbe⟩
  have t1 : decide ((N : Int) > 4096) = false := decide_eq_false (by omega)
  have hN4 : N ≤ 4096 := by omega
  clear hbig
  go_wp2_with fail
  refine (poly_Mul _ _ N 1 _ _ xs [3] _ (HR.out.below ((Below.refl _ _).alloc (Nat.le_refl _) _)) (R3.out _ _ (by simp)) HLN.out rfl hN4 (by omega)).mono ?_
  rintro e w2 ⟨a2, c2, rfl, hr2, _, hb2⟩
  have hlq : (lnL xs [3]).length = N := by rw [lnL_len _ _ (by rw [HLN.out]; simp; omega), HLN.out]; simp
  rw [hlq]
  obtain ⟨bq, off, rfl, hcq⟩ := hr2.at (by rw [hlq]; omega)
  have hc6 := hcq 0 (by rw [hlq]; omega)
  rw [HSIX.out, Nat.add_zero] at hc6
  have HR2 := Lib.hid (HR.out.below (chainA (Below.refl _ _) hb2))
  have HB2 := Lib.hid (chainA HB.out hb2)
  have u2 : ((N : Int) != (N : Int)) = false := bfalse' rfl
  clear hr2 hb2 hlq hcq
  have hcut := HR2.out.cut 0 X
  rw [List.drop_zero, Nat.add_zero] at hcut
  have hlt : (xs.take X).length = X := by rw [List.length_take, HLN.out]; omega
  have HCUT := Lib.hid hcut
  have HLT := Lib.hid hlt
  clear hcut hlt
  by_cases hG3 : 4096 < G + 1
  · have t3 : decide ((G : Int) + 1 > 4096) = true := decide_eq_true (by omega)
    have HPow : Hid (∀ V (a : Option Addr) (c : Nat), Calls Tryz.prog 25 #[.slice a X c, .int .i64 K] V fun e w' => e = .returned (.tuple #[.slice none 0 0, .int .i64 12]) ∧ V = w') := fun V a c => poly_Pow_big a X c K V (by omega) (by omega) (by rw [hX1]; omega)
    clear hG3
    go_wp2_with fail
    refine (HPow.out _ _ _).mono ?_; rintro e w3 ⟨rfl, rfl⟩
    go_wp2_with fail
    refine (live44 _).mono ?_; rintro e vl ⟨rfl, hbl⟩
    have hbe := chain HB2.out hbl
    clear hbl
    go_wp2_with fail
    go_ret
    exact ⟨rfl, hbe⟩
  · have t3 : decide ((G : Int) + 1 > 4096) = false := decide_eq_false (by omega)
    have HPow : Hid (∀ V (a : Option Addr) (c : Nat), Row .u64 V a (xs.take X) → Calls Tryz.prog 25 #[.slice a X c, .int .i64 K] V (GivesRowE .u64 (pwR (xs.take X) K) 0 V)) := fun V a c hr => poly_Pow a X c K (xs.take X) V hr HLT.out (by omega) (by omega) (by rw [hX1]; omega)
    clear hG3
    go_wp2_with fail
    refine (HPow.out _ _ _ HCUT.out).mono ?_; rintro e w3 ⟨a3, c3, rfl, _, _, hb3⟩
    have HB3 := Lib.hid (chain HB2.out hb3)
    obtain ⟨L, hL⟩ : ∃ L, (pwR (xs.take X) K).length = L := ⟨_, rfl⟩
    rw [hL]
    clear hb3 hL
    go_wp2_with fail
    refine (live44 _).mono ?_; rintro e vl ⟨rfl, hbl⟩
    have hbe := chain HB3.out hbl
    clear hbl
    go_wp2_with fail
    go_ret
    exact ⟨rfl, hbe⟩
theorem polyBigW (n b : Int) (w : World) (hn : fits .u8 n) (hb : fits .u8 b) :
    Calls Tryz.prog 6 #[.int .u8 n, .int .u8 b] w fun e w' => e = .returned (.bool true) ∧ Below w.heap.size w w' := by
  obtain ⟨h0, h1⟩ := fitsP_u8.1 hn
  obtain ⟨h2, h3⟩ := fitsP_u8.1 hb
  obtain ⟨k, rfl⟩ := Int.eq_ofNat_of_zero_le h0
  obtain ⟨j, rfl⟩ := Int.eq_ofNat_of_zero_le h2
  exact polyBig_any k j _ _ _ _ _ _ _ w (by omega) (by omega) rfl rfl rfl rfl rfl rfl rfl
end Go.Proofs.YtlnlijeamflpiaaGreat

