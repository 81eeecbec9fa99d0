/- Contracts: is a tree a plan; where it is wrong. The reference. -/
import Derived.Test.YtncikklhchimdaaValE
import Derived.Test.YtncikklhchimdaaValC
namespace Go.Proofs.Ytncikklhchimdaa
open Go.RowKit
set_option linter.unusedVariables false
set_option linter.unusedSimpArgs false
set_option maxRecDepth 100000
set_option maxRecDepth 20000

namespace Tr
/-- The first node that is not right is there just where not all nodes are right. -/
theorem wrong_all' (N : Nat) : ∀ t : Tr, t.size ≤ N → (t.wrong.isSome = false ↔ ∀ u ∈ t.nodes, nodeOk u = true) := by
  induction N with
  | zero => intro t h; have := size_pos t; omega
  | succ N ih =>
    intro t h
    rw [size_kids] at h
    have hL : ∀ (ks : List Tr) (i : Nat), sizeL ks ≤ N → ((wrongL i ks).isSome = false ↔ ∀ u ∈ nodesL ks, nodeOk u = true) := by
      intro ks
      induction ks with
      | nil => intro i _; simp [wrongL, nodesL]
      | cons x r ih2 =>
        intro i hs
        simp only [sizeL] at hs
        have hx := ih x (by omega)
        simp only [wrongL, nodesL, List.mem_append]
        cases hw : wrong x with
        | none =>
          rw [hw] at hx
          simp only []
          rw [ih2 (i + 1) (by omega)]
          constructor
          · intro h u hu
            rcases hu with hu | hu
            · exact hx.1 rfl u hu
            · exact h u hu
          · intro h u hu; exact h u (.inr hu)
        | some p =>
          rw [hw] at hx
          simp only [Option.isSome_some, Bool.true_eq_false, false_iff]
          intro h
          have := hx.2 (fun u hu => h u (.inl hu))
          simp at this
    rw [wrong_kids, nodes_kids]
    by_cases hn : nodeOk t = true
    · rw [if_pos hn, hL t.kids 0 (by omega)]
      constructor
      · intro h u hu
        rcases List.mem_cons.1 hu with rfl | hu
        · exact hn
        · exact h u hu
      · intro h u hu; exact h u (List.mem_cons.2 (.inr hu))
    · rw [if_neg hn]
      simp only [Option.isSome_some, Bool.true_eq_false, false_iff]
      intro h; exact hn (h t (by simp))
theorem wrong_all (t : Tr) : t.wrong.isSome = false ↔ ∀ u ∈ t.nodes, nodeOk u = true := wrong_all' _ t (Nat.le_refl _)
theorem nodes_le' (N : Nat) : ∀ t : Tr, t.size ≤ N → ∀ u ∈ t.nodes, u.size ≤ t.size := by
  induction N with
  | zero => intro t h; have := size_pos t; omega
  | succ N ih =>
    intro t h u hu
    rw [nodes_kids] at hu
    rcases List.mem_cons.1 hu with rfl | hu
    · exact Nat.le_refl _
    · have hk : ∀ ks : List Tr, sizeL ks ≤ N → u ∈ nodesL ks → u.size ≤ sizeL ks := by
        intro ks
        induction ks with
        | nil => intro _ h; simp [nodesL] at h
        | cons x r ih2 =>
          intro hs hu
          simp only [nodesL, List.mem_append] at hu
          simp only [sizeL] at hs ⊢
          rcases hu with hu | hu
          · have := ih x (by omega) u hu; omega
          · have := ih2 (by omega) hu; omega
      rw [size_kids t] at h ⊢
      have := hk t.kids (by omega) hu
      omega
theorem nodes_le (t : Tr) : ∀ u ∈ t.nodes, u.size ≤ t.size := nodes_le' _ t (Nat.le_refl _)
end Tr

set_option maxHeartbeats 4000000 in
theorem ref14_Check (t : Tr) (k n : Int) (a : Option Addr) (m cap : Nat) (w : World) (B : Nat) (hB : B ≤ w.heap.size) (hs : t.size ≤ 4194304) (hT : IsT w (Lt B) k n a m cap t) :
    Calls Try.prog 23 #[.agg #[.int .i64 k, .int .i64 n, .slice a m cap]] w fun e w' => e = .returned (.int .i64 (chk t)) ∧ Below w.heap.size w w' := by
  obtain ⟨q, hq⟩ : ∃ q, t.size = q := ⟨_, rfl⟩
  have hnl : t.nodes.length = q := by rw [Tr.nodes_len _ t (Nat.le_refl _), hq]
  have CL : Hid (∀ W, Below w.heap.size w W → Calls Try.prog 56 #[.agg #[.int .i64 k, .int .i64 n, .slice a m cap]] W fun e w' => ∃ g cp xs, e = .returned (.slice (some ⟨g, 0, none⟩) q cp) ∧ w'.ownsRow W.heap.size 24 3 (.slice (some ⟨g, 0, none⟩) q cp) q xs ∧ CellsT w' (Lt B) xs t.nodes ∧ Below W.heap.size W w') := fun W hb => by
    have := ref_List 4194304 B (by omega) t k n a m cap W (by omega) (hT.below hb) (Nat.le_trans hB hb.size)
    unfold GivesT at this
    rw [hnl] at this
    exact this
  have CD : Hid (∀ W, Below w.heap.size w W → Calls Try.prog 71 #[.agg #[.int .i64 k, .int .i64 n, .slice a m cap]] W fun e w' => e = .returned (.int .i64 (t.depth : Nat)) ∧ Below W.heap.size W w') := fun W hb => ref13_Depth 4194304 (by omega) t k n a m cap W _ (by omega) (hT.below hb)
  have HC : Hid (chk t = if decide (60 < q) || decide (12 < t.depth) then 12 else if t.wrong.isSome then 8 else 0) := by unfold Hid chk bigB; rw [hq]
  have hsz : ∀ u ∈ t.nodes, u.size ≤ 4194304 := fun u hu => Nat.le_trans (Tr.nodes_le t u hu) hs
  have HSZ := Lib.hid hsz
  obtain ⟨d, hd⟩ : ∃ d, t.depth = d := ⟨_, rfl⟩
  rw [hd] at CD HC
  rw [HC.out]
  have HNL := Lib.hid hnl
  have HWA := Lib.hid (Tr.wrong_all t)
  obtain ⟨R, hR⟩ : ∃ R, t.wrong.isSome = R := ⟨_, rfl⟩
  rw [hR] at HWA ⊢
  obtain ⟨ns, hns⟩ : ∃ ns, t.nodes = ns := ⟨_, rfl⟩
  rw [hns] at CL HNL HWA HSZ
  clear hsz hR hd hnl HC hT hns hs hq
  by_cases h60 : 60 < q
  · have t1 : decide ((q : Int) > 60) = true := by simp; omega
    have t2 : (60 : Int) < (q : Int) := by omega
    rw [if_pos (by simp [h60])]
    go_enter Try.func23, Try.ntmps23
    go_wp2_with fail
    refine (CL.out _ ((Below.refl _ _).alloc (Nat.le_refl _) _)).mono ?_; rintro e w1 ⟨g, cp, xs, rfl, ho, hct, hb1⟩
    have hb := chainA (Below.refl w.heap.size w) hb1
    clear ho hct hb1
    go_wp2_with fail
    go_ret
    exact ⟨rfl, hb⟩
  · have t1 : decide ((q : Int) > 60) = false := by simp; omega
    have t2 : ¬ (60 : Int) < (q : Int) := by omega
    rw [show decide (60 < q) = false by simp; omega, Bool.false_or]
    by_cases h12 : 12 < d
    · have t3 : decide ((d : Int) > 12) = true := by simp; omega
      have t4 : (12 : Int) < (d : Int) := by omega
      rw [if_pos (by simp [h12])]
      go_enter Try.func23, Try.ntmps23
      go_wp2_with fail
      refine (CL.out _ ((Below.refl _ _).alloc (Nat.le_refl _) _)).mono ?_; rintro e w1 ⟨g, cp, xs, rfl, ho, hct, hb1⟩
      have hb := chainA (Below.refl w.heap.size w) hb1
      have hx := (hb1.block w.heap.size (by simp)).trans (block_new rfl)
      have x0 : w1.cell? ⟨w.heap.size, 0, none⟩ = some (.int .i64 k) := block_cell hx 0
      have x1 : w1.cell? ⟨w.heap.size, 1, none⟩ = some (.int .i64 n) := block_cell hx 1
      have x2 : w1.cell? ⟨w.heap.size, 2, none⟩ = some (.slice a m cap) := block_cell hx 2
      have HBL := Lib.hid hb
      clear ho hct hb1 hx hb
      go_wp2_with fail
      refine (CD.out _ HBL.out).mono ?_; rintro e w2 ⟨rfl, hb2⟩
      have hb := chain HBL.out hb2
      clear hb2 x0 x1 x2
      go_wp2_with fail
      go_ret
      exact ⟨rfl, hb⟩
    · have t3 : decide ((d : Int) > 12) = false := by simp; omega
      have t4 : ¬ (12 : Int) < (d : Int) := by omega
      rw [if_neg (by simp; omega)]
      obtain ⟨V, hV⟩ : ∃ V : Int, (if R = true then (8 : Int) else 0) = V := ⟨_, rfl⟩
      rw [hV]
      have HVV := Lib.hid hV
      clear hV
      go_enter Try.func23, Try.ntmps23
      go_wp2_with fail
      refine (CL.out _ ((Below.refl _ _).alloc (Nat.le_refl _) _)).mono ?_; rintro e w1 ⟨g, cp, xs, rfl, ho, hct, hb1⟩
      have hb := chainA (Below.refl w.heap.size w) hb1
      have hx := (hb1.block w.heap.size (by simp)).trans (block_new rfl)
      have x0 : w1.cell? ⟨w.heap.size, 0, none⟩ = some (.int .i64 k) := block_cell hx 0
      have x1 : w1.cell? ⟨w.heap.size, 1, none⟩ = some (.int .i64 n) := block_cell hx 1
      have x2 : w1.cell? ⟨w.heap.size, 2, none⟩ = some (.slice a m cap) := block_cell hx 2
      have HBL := Lib.hid hb
      have OW := Lib.hid ho
      have CT := Lib.hid hct
      clear ho hct hb1 hx hb
      go_wp2_with fail
      refine (CD.out _ HBL.out).mono ?_; rintro e w2 ⟨rfl, hb2⟩
      have HBL := Lib.hid (chain HBL.out hb2)
      have OW := Lib.hid (own_later3 OW.out hb2)
      have CT := Lib.hid (CT.out.later hb2)
      clear hb2 x0 x1 x2
      go_wp2_with fail
      go_loopw [4] (fun i wr => ∃ j : Nat, j ≤ q ∧ i = .int .i64 j ∧ Below w2.heap.size w2 wr ∧ Hid (∀ i, i < j → nodeOk (Tr.kid ns i) = true)) (fun i _ => q - (intOf i).toNat)
      case atStart => exact ⟨0, Nat.zero_le _, rfl, Below.refl _ _, fun i hi => by omega⟩
      case round =>
        obtain ⟨j, hj, rfl, hbel, HA⟩ := hrel
        by_cases hlt : j < q
        · obtain ⟨k2, n2, a2, m2, c2, e0, e1, e2, hT2⟩ := own_cells (own_later3 OW.out hbel) (CT.out.later hbel) HNL.out j hlt
          simp only [Nat.zero_add] at e0 e1 e2
          have hmem : Tr.kid ns j ∈ ns := Tr.kid_mem (by rw [HNL.out]; exact hlt)
          obtain ⟨B2, hB2⟩ : ∃ B2, nodeOk (Tr.kid ns j) = B2 := ⟨_, rfl⟩
          have CN : Hid (∀ W, Below wr.heap.size wr W → Calls Try.prog 22 #[.agg #[.int .i64 k2, .int .i64 n2, .slice a2 m2 c2]] W fun e w' => e = .returned (.bool B2) ∧ Below W.heap.size W w') := fun W hb => by
            rw [← hB2]; exact ref14_Node _ k2 n2 a2 m2 c2 W _ (HSZ.out _ hmem) (hT2.below hb)
          have HB2 := Lib.hid hB2
          have HMEM := Lib.hid hmem
          have g1 : (0 : Int) ≤ (j : Int) := by omega
          have g2 : (j : Int) < (q : Int) := by omega
          clear hT2 hmem hB2
          cases B2 with
          | true =>
            go_wp2_with fail
            refine (CN.out _ (Below.refl _ _)).mono ?_; rintro e w3 ⟨rfl, hb3⟩
            have HBB := Lib.hid (chain hbel hb3)
            clear hb3 e0 e1 e2
            go_wp2_with fail
            go_roundw
            case rel =>
              refine ⟨j + 1, by omega, by go_num, HBB.out, fun i hi => ?_⟩
              by_cases hij : i < j
              · exact HA.out i hij
              · obtain rfl : i = j := by omega
                exact HB2.out
            case measure => simp [intOf]; omega
          | false =>
            go_wp2_with fail
            refine (CN.out _ (Below.refl _ _)).mono ?_; rintro e w3 ⟨rfl, hb3⟩
            have HBB := Lib.hid (chain HBL.out (chain hbel hb3))
            clear hb3 e0 e1 e2
            have HRR : Hid (R = true) := by
              unfold Hid
              cases R with
              | true => rfl
              | false => have := HWA.out.1 rfl _ HMEM.out; rw [HB2.out] at this; cases this
            go_wp2_with fail
            go_ret
            exact ⟨ret_int (by rw [← HVV.out, HRR.out]; rfl), HBB.out⟩
        · have hjq : j = q := by omega
          have HRR : Hid (R = false) := by
            unfold Hid
            rw [HWA.out]
            intro u hu
            obtain ⟨i, hi, rfl⟩ := List.getElem_of_mem hu
            have := HA.out i (by have := HNL.out; omega)
            rwa [Tr.kid_get hi] at this
          have HBB := Lib.hid (chain HBL.out hbel)
          clear HA hbel
          go_wp2_with fail
          go_ret
          exact ⟨ret_int (by rw [← HVV.out, HRR.out]; rfl), HBB.out⟩

set_option maxHeartbeats 4000000 in
theorem ref14_Wrong (N : Nat) (hN : N ≤ 4194304) : ∀ (t : Tr) (k n : Int) (a : Option Addr) (m cap : Nat) (w : World) (F : Nat → Prop), t.size ≤ N → IsT w F k n a m cap t →
    Calls Try.prog 20 #[.agg #[.int .i64 k, .int .i64 n, .slice a m cap]] w fun e w' => GivesWr [] t.wrong w e w' ∧ ∀ q, t.wrong = some q → q.length ≤ t.size := by
  induction N with
  | zero => intro t k n a m cap w F h; have := Tr.size_pos t; omega
  | succ N ih =>
    intro t k n a m cap w F hs hT
    obtain ⟨i0, hi, hz0, hz1, hz2⟩ := info_parts info_int
    have IH := Lib.hid (ih (by omega))
    clear ih
    have HT := Lib.hid hT
    have hm : m ≤ N := by
      have := Tr.len_le_sizeL t.kids
      rw [Tr.size_kids] at hs
      rw [hT.em]; omega
    have HS := Lib.hid hs
    obtain ⟨B, hB⟩ : ∃ B, nodeOk t = B := ⟨_, rfl⟩
    have HV : Hid (∀ W, Below w.heap.size w W → Calls Try.prog 22 #[.agg #[.int .i64 k, .int .i64 n, .slice a m cap]] W fun e w' => e = .returned (.bool B) ∧ Below W.heap.size W w') := fun W hb => by rw [← hB]; exact ref14_Node t k n a m cap W F (by omega) (hT.below hb)
    have HW : Hid (t.wrong = if B then Tr.wrongL 0 t.kids else some []) := by unfold Hid; rw [Tr.wrong_kids, hB]
    rw [HW.out]
    clear hT hs hB HW
    cases B with
    | false =>
      rw [if_neg (by simp)]
      go_enter Try.func20, Try.ntmps20
      go_wp2_with fail
      refine (HV.out _ ((Below.refl _ _).alloc (Nat.le_refl _) _)).mono ?_; rintro e w1 ⟨rfl, hb1⟩
      have hb2 := chainA (Below.refl w.heap.size w) hb1
      have HB2 := Lib.hid hb2
      clear hb1 hb2
      go_wp2_with fail
      go_ret2
      exact ⟨⟨none, 0, 0, rfl, rfl, Row.nil _ _ _, ⟨Nat.le_refl _, fun _ => rfl⟩, HB2.out⟩, fun q hq => by cases hq; simp⟩
    | true =>
      rw [if_pos rfl]
      obtain ⟨R, hR⟩ : ∃ R, Tr.wrongL 0 t.kids = R := ⟨_, rfl⟩
      rw [hR]
      have HR : Hid (Tr.wrongL 0 (t.kids.drop 0) = R) := hR
      clear hR
      go_enter Try.func20, Try.ntmps20
      go_wp2_with fail
      refine (HV.out _ ((Below.refl _ _).alloc (Nat.le_refl _) _)).mono ?_; rintro e w1 ⟨rfl, hb1⟩
      have hb2 := chainA (Below.refl w.heap.size w) hb1
      have hx := (hb1.block w.heap.size (by simp)).trans (block_new rfl)
      have HB2 := Lib.hid hb2
      have HX := Lib.hid hx
      clear hb1 hb2 hx
      go_wp2_with fail
      go_loopw [4] (fun i wr => ∃ j : Nat, j ≤ m ∧ i = .int .i64 j ∧ Hid (Tr.wrongL j (t.kids.drop j) = R) ∧ Below w1.heap.size w1 wr) (fun i _ => m - (intOf i).toNat)
      case atStart => exact ⟨0, Nat.zero_le _, rfl, HR.out, Below.refl _ _⟩
      case round =>
        obtain ⟨j, hj, rfl, HD, hbel⟩ := hrel
        have hx := (hbel.block _ (block_lt HX.out)).trans HX.out
        have x2 : wr.cell? ⟨w.heap.size, 2, none⟩ = some (.slice a m cap) := block_cell hx 2
        have hbw := chain HB2.out hbel
        have HBW := Lib.hid hbw
        clear hx hbw
        by_cases hlt : j < m
        · obtain ⟨b, off, k', n', a', m', c', rfl, hF, hbl, h0, h1, h2, hT'⟩ := (HT.out.below HBW.out).kid j hlt
          have hj2 : j < t.kids.length := by rw [← HT.out.em]; exact hlt
          have hsz := Tr.size_kid t j hj2
          have hs1 : (Tr.kid t.kids j).size ≤ N := by have := HS.out; omega
          have hst0 := fun h => (Tr.wrongL_none hj2 h).symm.trans HD.out
          have hst1 := fun p h => HD.out.symm.trans (Tr.wrongL_some (p := p) hj2 h)
          obtain ⟨t', ht'⟩ : ∃ t', Tr.kid t.kids j = t' := ⟨_, rfl⟩
          rw [ht'] at hT' hs1 hst0 hst1 hsz
          have hjf : fits .i64 (j : Int) := fits_i64.2 (by omega)
          have CK : Hid (Calls Try.prog 20 #[.agg #[.int .i64 k', .int .i64 n', .slice a' m' c']] wr fun e w' => GivesWr [] t'.wrong wr e w' ∧ ∀ q, t'.wrong = some q → q.length ≤ t'.size) := IH.out t' k' n' a' m' c' wr F hs1 hT'
          have HJF := Lib.hid hjf
          have HST0 := Lib.hid hst0
          have HST1 := Lib.hid hst1
          have HSZ := Lib.hid hsz
          clear hT' hs1 hsz hj2 ht' hjf HD hst0 hst1
          have g1 : (0 : Int) ≤ (j : Int) := by omega
          have g2 : (j : Int) < (m : Int) := by omega
          obtain ⟨r, hwr⟩ : ∃ r, Tr.wrong t' = r := ⟨_, rfl⟩
          rw [hwr] at CK HST0 HST1
          clear hwr
          cases r with
          | none =>
            go_wp2_with fail
            refine CK.out.mono ?_; rintro e z ⟨⟨rfl, hb⟩, -⟩
            have hbe := chain hbel hb
            have HBE := Lib.hid hbe
            clear hbe hb h0 h1 h2 x2
            go_wp2_with fail
            go_roundw
            case rel => exact ⟨j + 1, by omega, by go_num, by first | exact HST0.out rfl | exact HST0.out trivial, HBE.out⟩
            case measure => simp [intOf]; omega
          | some q =>
            have hcs := HS.out
            go_wp2_with fail
            refine CK.out.mono ?_; rintro e z ⟨⟨a3, l3, c3, rfl, hl3, hr3, hc3, hb⟩, hql⟩
            have hbe : Below w.heap.size w z := chain HBW.out hb
            have hql' := hql q rfl
            rw [List.nil_append] at hl3 hr3
            have hl9 : l3 ≤ 4194304 := by have := HSZ.out; omega
            have HQL : Hid (((j : Int) :: q).length ≤ t.size) := by have := HSZ.out; unfold Hid; rw [List.length_cons]; omega
            have HBE := Lib.hid hbe
            have HL3 := Lib.hid hl3
            have HR3 := Lib.hid hr3
            have HC3 := Lib.hid hc3
            clear hbe hb hl3 hr3 hc3 hql hql' h0 h1 h2 x2
            have hown1 : (z.alloc (.cells #[.int .i64 (j : Int)] 3)).ownsRow z.heap.size 3 1 (.slice (some ⟨z.heap.size, 0, none⟩) 1 1) 1 [.int .i64 (j : Int)] := by
              have := World.ownsRow_lit (base := z.heap.size) (e := 3) (size := 1) z #[.int .i64 (j : Int)] 1 (Nat.le_refl _) (by unfold maxLen; omega) (by simp)
              simpa using this
            go_wp2_with (at_builtin; refine wpList_append_row rfl _ _ 25 rfl .i64 z.heap.size 3 i0 (.int .i64 0) Try.underlying25 hi hz0 hz1 hz2 rfl _ 1 [.int .i64 (j : Int)] rfl hown1 a3 l3 c3 q rfl HL3.out (HR3.out.below ((Below.refl _ _).alloc (Nat.le_refl _) _)) HC3.out.2 (by omega) (by simp) ?_)
            intro v' w2 ho2 hg2
            have hbz : Below z.heap.size z w2 := ((Below.refl _ _).alloc (Nat.le_refl _) _).grown hg2 (by simp) (fun k hk => by simp [Value.ownBlock] at hk; omega)
            obtain ⟨a4, c4, rfl, hca4, hg4⟩ := own_slice2 ho2
            have hr4 : Row .i64 w2 a4 ((j : Int) :: q) := Row.of_own (n := 1 + l3) (base := z.heap.size) (e := 3) (cap := c4) (by rw [List.length_cons, HL3.out]; omega) (by omega) (fun u hu => by
              rcases List.mem_cons.1 hu with rfl | hu
              · exact HJF.out
              · exact HR3.out.wf u hu) ho2
            have HR4 := Lib.hid hr4
            have HBZ := Lib.hid (chain HBE.out hbz)
            have HCA := Lib.hid hca4
            clear ho2 hg2 hbz hr4 hca4 hg4
            go_wp2_with fail
            go_ret2
            rw [HST1.out q rfl]
            exact ⟨⟨a4, 1 + l3, c4, rfl, by rw [List.nil_append, List.length_cons, HL3.out]; omega, by rw [List.nil_append]; exact HR4.out, HCA.out, HBZ.out⟩, fun q' hq => by cases hq; exact HQL.out⟩
        · have hjm : j = m := by omega
          have HE : Hid (R = none) := by unfold Hid; rw [← HD.out]; exact Tr.wrongL_end (by rw [← HT.out.em]; omega)
          clear HD
          go_wp2_with fail
          go_ret2
          show GivesWr [] R w _ _ ∧ _
          rw [HE.out]
          exact ⟨⟨rfl, HBW.out⟩, fun q hq => by cases hq⟩
end Go.Proofs.Ytncikklhchimdaa
