/- Trees: how deep. -/
import Derived.Test.YtncikklhchimdaaTree
namespace Go.Proofs.Ytncikklhchimdaa
open Go.RowKit
set_option linter.unusedVariables false
set_option linter.unusedSimpArgs false
set_option maxRecDepth 100000

namespace Tr
mutual
def depth : Tr → Nat
  | node _ _ ks => depthL ks + 1
def depthL : List Tr → Nat
  | [] => 0
  | t :: ts => max (depth t) (depthL ts)
end
theorem depth_kids (t : Tr) : t.depth = depthL t.kids + 1 := by cases t; simp [depth, kids]
theorem depthL_append (l r : List Tr) : depthL (l ++ r) = max (depthL l) (depthL r) := by
  induction l with
  | nil => simp [depthL]
  | cons t ts ih => simp only [List.cons_append, depthL, ih]; omega
theorem depthL_snoc (l : List Tr) (t : Tr) : depthL (l ++ [t]) = max (depthL l) t.depth := by rw [depthL_append]; simp [depthL]
theorem depth_le (N : Nat) : ∀ t : Tr, t.size ≤ N → t.depth ≤ t.size := by
  induction N with
  | zero => intro t h; have := size_pos t; omega
  | succ N ih =>
    intro t h
    rw [size_kids] at h ⊢
    rw [depth_kids]
    have h2 : ∀ ks : List Tr, sizeL ks ≤ N → depthL ks ≤ sizeL ks := by
      intro ks
      induction ks with
      | nil => intro _; simp [depthL]
      | cons t ts ih2 => intro hk; simp only [sizeL] at hk; simp only [depthL, sizeL]; have := ih t (by omega); have := ih2 (by omega); omega
    have := h2 t.kids (by omega)
    omega
end Tr

set_option maxHeartbeats 1000000 in
theorem desc_Depth (N : Nat) (hN : N ≤ 4194304) : ∀ (t : Tr) (k n : Int) (a : Option Addr) (m cap : Nat) (w : World) (F : Nat → Prop), t.size ≤ N → IsT w F k n a m cap t →
    Calls Try.prog 99 #[.agg #[.int .i64 k, .int .i64 n, .slice a m cap]] w fun e w' => e = .returned (.int .i64 (t.depth : Nat)) ∧ Below w.heap.size w w' := by
  induction N with
  | zero => intro t k n a m cap w F h; have := Tr.size_pos t; omega
  | succ N ih =>
    intro t k n a m cap w F hs hT
    have IH := Lib.hid (ih (by omega))
    clear ih
    have HT := Lib.hid hT
    have hm : m ≤ N := by
      have := Tr.len_le_sizeL t.kids
      rw [Tr.size_kids] at hs
      rw [hT.em]; omega
    have HS := Lib.hid hs
    clear hT hs
    go_enter Try.func99, Try.ntmps99
    go_wp2_with fail
    go_loopw [3, 9] (fun v i wr => ∃ j d : Nat, j ≤ m ∧ i = .int .i64 j ∧ v = .int .i64 d ∧ d ≤ 4194304 ∧ Hid (d = Tr.depthL (t.kids.take j)) ∧ Below w.heap.size w wr) (fun _ i _ => m - (intOf i).toNat)
    case atStart => exact ⟨0, 0, Nat.zero_le _, rfl, rfl, by omega, by simp [Hid, Tr.depthL], (Below.refl _ _).alloc (Nat.le_refl _) _⟩
    case round =>
      obtain ⟨j, d, hj, rfl, rfl, hd, HD, hbel⟩ := hrel
      by_cases hlt : j < m
      · obtain ⟨b, off, k', n', a', m', c', rfl, hF, hbl, h0, h1, h2, hT'⟩ := (HT.out.below hbel).kid j hlt
        have hj2 : j < t.kids.length := by rw [← HT.out.em]; exact hlt
        have hsz := Tr.size_kid t j hj2
        have hd1 := Tr.depth_le _ (Tr.kid t.kids j) (Nat.le_refl _)
        have hst := Tr.take_kid hj2
        have hs1 : (Tr.kid t.kids j).size ≤ N := by have := HS.out; omega
        obtain ⟨t', ht'⟩ : ∃ t', Tr.kid t.kids j = t' := ⟨_, rfl⟩
        rw [ht'] at hT' hd1 hst hs1
        have CK : Hid (∀ W, Below wr.heap.size wr W → Calls Try.prog 99 #[.agg #[.int .i64 k', .int .i64 n', .slice a' m' c']] W fun e w' => e = .returned (.int .i64 (t'.depth : Nat)) ∧ Below W.heap.size W w') := fun W hb => IH.out t' k' n' a' m' c' W F hs1 (hT'.below hb)
        have HN : Hid (max d t'.depth = Tr.depthL (t.kids.take (j + 1))) := by unfold Hid; rw [hst, Tr.depthL_snoc, ← HD.out]
        obtain ⟨e, he⟩ : ∃ e, t'.depth = e := ⟨_, rfl⟩
        rw [he] at CK HN hd1
        have hmx : max d e ≤ 4194304 := by omega
        clear hT' hst hd1 hsz hj2 ht' he HD
        go_wp2_with fail
        refine (CK.out _ ((Below.refl _ _).alloc (Nat.le_refl _) _)).mono ?_; rintro e1 w1 ⟨rfl, hb1⟩
        go_wp2_with fail
        go_roundw
        case rel => exact ⟨j + 1, max d e, by omega, by go_num, by split <;> (congr 1; omega), hmx, HN.out, chainA hbel hb1⟩
        case measure => simp [intOf]; omega
      · have hjm : j = m := by omega
        have HE : Hid (t.depth = d + 1) := by unfold Hid; rw [Tr.depth_kids, HD.out, List.take_of_length_le (by rw [← HT.out.em]; omega)]
        clear HD
        go_wp2_with fail
        go_ret
        exact ⟨by rw [HE.out]; go_num, hbel⟩
end Go.Proofs.Ytncikklhchimdaa
