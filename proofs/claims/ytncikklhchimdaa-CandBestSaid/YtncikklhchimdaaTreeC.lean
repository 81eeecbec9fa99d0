/- Trees: all nodes, by the reference; are there too many? -/
import Derived.Test.YtncikklhchimdaaTreeB
namespace Go.Proofs.Ytncikklhchimdaa
open Go.RowKit
set_option linter.unusedVariables false
set_option linter.unusedSimpArgs false
set_option maxRecDepth 100000

def Lt (B : Nat) (b : Nat) : Prop := b < B

theorem own_new3 (w : World) (B : Nat) (e : TypeId) (x y z : Value) (hB : B ≤ w.heap.size) : (w.alloc (.cells #[x, y, z] e)).ownsRow B e 3 (.slice (some ⟨w.heap.size, 0, none⟩) 1 1) 1 [x, y, z] :=
  World.ownsRow_lit w #[x, y, z] 1 hB (by unfold maxLen; omega) rfl

set_option maxHeartbeats 2000000 in
theorem ref_List (N B : Nat) (hN : N ≤ 4194304) : ∀ (t : Tr) (k n : Int) (a : Option Addr) (m cap : Nat) (w : World), t.size ≤ N → IsT w (Lt B) k n a m cap t → B ≤ w.heap.size →
    Calls Try.prog 56 #[.agg #[.int .i64 k, .int .i64 n, .slice a m cap]] w (GivesT (Lt B) t.nodes w) := by
  obtain ⟨i0, hi, hz0, hz1, hz2⟩ := info_parts info_desc
  induction N with
  | zero => intro t k n a m cap w h; have := Tr.size_pos t; omega
  | succ N ih =>
    intro t k n a m cap w hs hT hB
    have IH := Lib.hid (ih (by omega))
    clear ih
    have HT := Lib.hid hT
    have hm : m ≤ N := by
      have := Tr.len_le_sizeL t.kids
      rw [Tr.size_kids] at hs
      rw [hT.em]; omega
    have HS := Lib.hid hs
    clear hT hs
    go_enter Try.func56, Try.ntmps56
    go_wp2_with fail
    go_loopw [3, 4] (fun v i wr => ∃ (j L g c : Nat) (xs : List Value), j ≤ m ∧ i = .int .i64 j ∧ v = .slice (some ⟨g, 0, none⟩) L c ∧ L ≤ N + 1 ∧ Hid (L = (t :: Tr.nodesL (t.kids.take j)).length) ∧ wr.ownsRow w.heap.size 24 3 v L xs ∧ Hid (CellsT wr (Lt B) xs (t :: Tr.nodesL (t.kids.take j))) ∧
      Below w.heap.size w wr ∧ w.heap.size < g ∧ g < wr.heap.size ∧ wr.cell? ⟨w.heap.size, 2, none⟩ = some (.slice a m cap)) (fun _ i _ => m - (intOf i).toNat)
    case atStart =>
      have hb0 : Below w.heap.size w ((w.alloc (.cells #[.int .i64 k, .int .i64 n, .slice a m cap] 24)).alloc (.cells #[.int .i64 k, .int .i64 n, .slice a m cap] 24)) := ((Below.refl _ _).alloc (Nat.le_refl _) _).alloc (by simp) _
      refine ⟨0, 1, w.heap.size + 1, 1, [.int .i64 k, .int .i64 n, .slice a m cap], Nat.zero_le _, rfl, rfl, by omega, rfl, ?_, ?_, hb0, by omega, by simp, ?_⟩
      · have := own_new3 (w.alloc (.cells #[.int .i64 k, .int .i64 n, .slice a m cap] 24)) w.heap.size 24 (.int .i64 k) (.int .i64 n) (.slice a m cap) (by simp)
        simpa using this
      · exact CellsT.one (HT.out.below hb0)
      · rw [cell_past _ _ _ (by simp)]; simp
    case round =>
      obtain ⟨j, L, g, c, xs, hj, rfl, rfl, hL, HL, hown, HC, hbel, hg1, hg2, hcl⟩ := hrel
      by_cases hlt : j < m
      · obtain ⟨b, off, k', n', a', m', c', rfl, hF, hbl, h0, h1, h2, hT'⟩ := (HT.out.below hbel).kid j hlt
        have hj2 : j < t.kids.length := by rw [← HT.out.em]; exact hlt
        have hsz := Tr.size_kid t j hj2
        have hst := Tr.take_kid hj2
        have hs1 : (Tr.kid t.kids j).size ≤ N := by have := HS.out; omega
        have hs2 := Tr.sizeL_take t.kids (j + 1)
        obtain ⟨t', ht'⟩ : ∃ t', Tr.kid t.kids j = t' := ⟨_, rfl⟩
        rw [ht'] at hT' hst hs1
        rw [hst] at hs2
        have hLn : L + t'.nodes.length = (t :: Tr.nodesL (t.kids.take (j + 1))).length := by
          rw [HL.out, hst, Tr.nodesL_snoc]; simp only [List.length_cons, List.length_append]; omega
        have hLb : L + t'.nodes.length ≤ N + 1 := by
          rw [hLn, hst]; simp only [List.length_cons, Tr.nodesL_len]
          have := HS.out; rw [Tr.size_kids] at this; omega
        have HLN := Lib.hid hLn
        have CK : Hid (Calls Try.prog 56 #[.agg #[.int .i64 k', .int .i64 n', .slice a' m' c']] wr (GivesT (Lt B) t'.nodes wr)) := IH.out t' k' n' a' m' c' wr hs1 hT' (Nat.le_trans hB hbel.size)
        have HST := Lib.hid hst
        obtain ⟨M, hM⟩ : ∃ M, t'.nodes.length = M := ⟨_, rfl⟩
        have HM := Lib.hid hM
        have hM1 : 1 ≤ M := by rw [← hM, Tr.nodes_kids]; simp
        rw [hM] at hLb
        clear hT' hst hsz hj2 ht' hs2 hLn hM
        have hgs : w.heap.size ≤ wr.heap.size := hbel.size
        go_wp2_with fail
        refine CK.out.mono ?_; rintro e1 w1 ⟨g2, c2, ys, rfl, hown2, hc2, hb1⟩
        rw [HM.out] at hown2 ⊢
        have hcl1 := (hb1.cell (p := ⟨w.heap.size, 2, none⟩) (by show w.heap.size < wr.heap.size; omega)).trans hcl
        have hb1s := hb1.size
        have hown1 := own_later3 hown hb1
        have hCL1 := hown2.cells (g := g2) rfl
        have hyl : ys.length = M * 3 := hc2.len.trans (by rw [HM.out])
        have hone := hc2.oneCell
        have HC1 : Hid (CellsT w1 (Lt B) xs (t :: Tr.nodesL (t.kids.take j))) := HC.out.later hb1
        have HC2 := Lib.hid hc2
        have HYL := Lib.hid hyl
        have HCL1 := Lib.hid hCL1
        have HONE := Lib.hid hone
        have HOWN1 := Lib.hid hown1
        have hg2l := (hown2.lt g2 rfl).1
        clear hown2 hc2 hyl hCL1 hone hown1 hown h0 h1 h2 hcl
        go_wp2_with (at_builtin; refine wpList_append_lies _ rfl _ _ 22 rfl w.heap.size 24 i0 _ 3 40 Try.underlying22 hi hz0 hz1 hz2 rfl (by decide) _ L xs rfl HOWN1.out _ M c2 ys rfl HYL.out HCL1.out HONE.out (by omega) (by unfold maxLen; omega) (by omega) (by omega) _ rfl ?_)
        intro g3 c3 w2 hown3 hgrow hat hlt3
        simp only [Value.ownBlock, Option.some.injEq] at hat hgrow
        have hb2 : Below w.heap.size w w2 := (chain hbel hb1).grown hgrow (by omega) (fun k hk => by cases hk; omega)
        have hg3 : w.heap.size < g3 := by rcases hat with rfl | rfl <;> omega
        have hC3 : Hid (CellsT w2 (Lt B) (xs ++ ys) (t :: Tr.nodesL (t.kids.take (j + 1)))) := by
          have h1 := HC1.out.append HC2.out
          rw [List.cons_append, ← Tr.nodesL_snoc, ← HST.out] at h1
          exact h1.stay fun b hb hlt => hgrow.block b hlt (by simp only [ne_eq, Option.some.injEq]; unfold Lt at hb; omega)
        have hcl2 := hgrow.cell (a := ⟨w.heap.size, 2, none⟩) hcl1 (by simp; omega)
        clear hcl1 hgrow
        go_wp2_with fail
        go_roundw
        case rel => exact ⟨j + 1, L + M, g3, c3, xs ++ ys, by omega, by go_num, rfl, hLb, by rw [← HM.out]; exact HLN.out, hown3, hC3.out, hb2, hg3, hlt3, hcl2⟩
        case measure => simp [intOf]; omega
      · have hjm : j = m := by omega
        have hE : t.kids.take j = t.kids := List.take_of_length_le (by rw [← HT.out.em]; omega)
        have HL' : Hid (t.nodes.length = L) := by unfold Hid; rw [HL.out, hE, Tr.nodes_kids]
        have HC' : Hid (CellsT wr (Lt B) xs t.nodes) := by unfold Hid; rw [Tr.nodes_kids]; have := HC.out; rw [hE] at this; exact this
        have HO := Lib.hid hown
        clear hE HC HL hown
        go_wp2_with fail
        go_ret
        exact ⟨g, c, xs, by simp [HL'.out], by rw [HL'.out]; exact HO.out, HC'.out, hbel⟩

theorem ref_Much (t : Tr) (k n : Int) (a : Option Addr) (m cap : Nat) (w : World) (B : Nat) (hs : t.size ≤ 4194304) (hT : IsT w (Lt B) k n a m cap t) (hB : B ≤ w.heap.size) :
    Calls Try.prog 14 #[.agg #[.int .i64 k, .int .i64 n, .slice a m cap]] w fun e w' => e = .returned (.bool (decide (80 < t.size))) ∧ Below w.heap.size w w' := by
  have C1 : Hid (∀ W, Below w.heap.size w W → Calls Try.prog 56 #[.agg #[.int .i64 k, .int .i64 n, .slice a m cap]] W (GivesT (Lt B) t.nodes W)) := fun W hb => ref_List 4194304 B (by omega) t k n a m cap W hs (hT.below hb) (Nat.le_trans hB hb.size)
  have HL := Lib.hid (Tr.nodes_len _ t (Nat.le_refl _))
  clear hT
  obtain ⟨S, hS⟩ : ∃ S, t.size = S := ⟨_, rfl⟩
  rw [hS] at HL hs ⊢
  clear hS
  go_enter Try.func14, Try.ntmps14
  go_wp2_with fail
  refine (C1.out _ ((Below.refl _ _).alloc (Nat.le_refl _) _)).mono ?_; rintro e1 w1 ⟨g2, c2, ys, rfl, hown2, hc2, hb1⟩
  rw [HL.out] at hown2 ⊢
  have hb := chainA (Below.refl _ _) hb1
  clear hown2 hc2 hb1
  by_cases h : 80 < S
  · have h1 : decide (80 < S) = true := by simp; omega
    have h2 : decide ((S : Int) > 80) = true := by simp; omega
    go_wp2_with fail
    go_ret
    exact ⟨by simp [h1, h2, h], hb⟩
  · have h1 : decide (80 < S) = false := by simp; omega
    have h2 : decide ((S : Int) > 80) = false := by simp; omega
    go_wp2_with fail
    go_ret
    exact ⟨by simp [h1, h2, h], hb⟩
end Go.Proofs.Ytncikklhchimdaa
