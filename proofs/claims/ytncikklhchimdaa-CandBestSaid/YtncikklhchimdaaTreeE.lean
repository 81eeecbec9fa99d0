/- Trees: the copy. -/
import Derived.Test.YtncikklhchimdaaTreeD
import Derived.Deep.RegionHeld3
import Derived.Deep.RegionLaw
import Derived.Deep.AppendLies
namespace Go.Proofs.Ytncikklhchimdaa
open Go.RowKit
set_option linter.unusedVariables false
set_option linter.unusedSimpArgs false
set_option maxRecDepth 100000

def Iv (lo hi : Nat) (b : Nat) : Prop := lo ≤ b ∧ b < hi

/-- A result: a new tree that shares nothing. -/
def GivesS (t : Tr) (w : World) (e : Ending) (w' : World) : Prop :=
  ∃ k n a m c, e = .returned (.agg #[.int .i64 k, .int .i64 n, .slice a m c]) ∧ IsS w' (Iv w.heap.size w'.heap.size) k n a m c t ∧ Below w.heap.size w w'

theorem cell_three_new (w : World) (x y z : Value) (t : TypeId) : ∀ j u, [x, y, z][j]? = some u → (w.alloc (.cells #[x, y, z] t)).cell? ((⟨w.heap.size, 0, none⟩ : Addr).add j) = some u := by
  intro j u hj
  match j, hj with
  | 0, hj => simp at hj; subst hj; simp [Addr.add]
  | 1, hj => simp at hj; subst hj; simp [Addr.add]
  | 2, hj => simp at hj; subst hj; simp [Addr.add]
theorem one_three (k n : Int) (a : Option Addr) (m c : Nat) : ∀ u ∈ [Value.int .i64 k, Value.int .i64 n, Value.slice a m c], u.oneCell' = true := by
  intro u hu
  simp only [List.mem_cons, List.not_mem_nil, or_false] at hu
  rcases hu with rfl | rfl | rfl <;> rfl

theorem block_cell {w : World} {b : Nat} {cs : Array Value} {t : TypeId} (h : w.heap[b]? = some (.cells cs t (0, 0))) (i : Nat) : w.cell? ⟨b, i, none⟩ = cs[i]? := cell_of_row w b i cs t (0, 0) h
theorem block_free {w : World} {b : Nat} {cs : Array Value} {t : TypeId} (h : w.heap[b]? = some (.cells cs t (0, 0))) (i : Nat) : w.frozen? ⟨b, i, none⟩ = false := by simp [World.frozen?, h]
theorem block_lt {w : World} {b : Nat} {o : Obj} (h : w.heap[b]? = some o) : b < w.heap.size := by
  rcases Nat.lt_or_ge b w.heap.size with h' | h'
  · exact h'
  · simp [Array.getElem?_eq_none h'] at h
theorem block_set {w : World} {b : Nat} {cs : Array Value} {t : TypeId} (h : w.heap[b]? = some (.cells cs t (0, 0))) (i : Nat) (u : Value) : (w.setCell ⟨b, i, none⟩ u).heap[b]? = some (.cells (cs.setIfInBounds i u) t (0, 0)) := by
  have hlt := block_lt h
  have h' : w.heap[b] = .cells cs t (0, 0) := by simpa [Array.getElem?_eq_getElem hlt] using h
  show (w.heap.modify b _)[b]? = _
  rw [Array.getElem?_eq_getElem (by simpa using hlt), Array.getElem_modify_self, h']
  rfl
theorem block_new {w : World} {o : Obj} {n : Nat} (h : n = w.heap.size) : (w.alloc o).heap[n]? = some o := by subst h; exact heap_alloc_new _ _
theorem block_old {w : World} {o p : Obj} {n : Nat} (hn : n < w.heap.size) (h : w.heap[n]? = some p) : (w.alloc o).heap[n]? = some p := (heap_alloc_old w o hn).trans h
theorem frozen_past (w : World) (o : Obj) (a : Addr) (h : a.block < w.heap.size) : (w.alloc o).frozen? a = w.frozen? a := World.frozen?_of_block (heap_alloc_old w o h)
theorem set_size (w : World) (a : Addr) (u : Value) : (w.setCell a u).heap.size = w.heap.size := by simp
theorem set_far (w : World) (a : Addr) (u : Value) (b : Nat) (h : b ≠ a.block) : (w.setCell a u).heap[b]? = w.heap[b]? := Below.heap_setCell _ _ _ _ (by first | exact h | exact Ne.symm h)

/-- The blocks from B on, but the one that the row v lies in. -/
def Fr (B : Nat) (w : World) (v : Value) (b : Nat) : Prop := B ≤ b ∧ b < w.heap.size ∧ v.ownBlock ≠ some b

theorem clone_step {wr w1 w2 : World} {B : Nat} {e : TypeId} {v u : Value} {j g3 c3 lo hi bo off : Nat} {xs : List Value} {ts : List Tr} {k n : Int} {a : Option Addr} {m c : Nat} {t : Tr} {o : Obj} (hown : wr.ownsRow B e 3 v j xs)
    (hF : CellsS wr (Fr B wr v) xs ts) (hw1 : ∀ b, b < wr.heap.size → w1.heap[b]? = wr.heap[b]?) (hS : IsS w1 (Iv lo hi) k n a m c t) (hlo : wr.heap.size ≤ lo) (hhi : hi ≤ w1.heap.size) (hsz : wr.heap.size ≤ w1.heap.size) (hB : B ≤ wr.heap.size)
    (hgrow : (w1.alloc o).grownBy w2 v.ownBlock) (hat : v.ownBlock = some g3 ∨ g3 = w1.heap.size + 1) (hbo : bo < B) :
    CellsS (w2.setCell ⟨bo, off, none⟩ u) (Fr B (w2.setCell ⟨bo, off, none⟩ u) (.slice (some ⟨g3, 0, none⟩) (j + 1) c3)) (xs ++ [.int .i64 k, .int .i64 n, .slice a m c]) (ts ++ [t]) := by
  have hgs : (w1.alloc o).heap.size ≤ w2.heap.size := hgrow.size
  have hal : (w1.alloc o).heap.size = w1.heap.size + 1 := by simp
  have hst : ∀ b, b < w1.heap.size → v.ownBlock ≠ some b → b ≠ bo → (w2.setCell ⟨bo, off, none⟩ u).heap[b]? = w1.heap[b]? := fun b hb hne hbb => by
    rw [set_far _ _ _ _ hbb, hgrow.block b (by omega) (Ne.symm hne)]
    exact heap_alloc_old w1 o hb
  have hv : ∀ g, v.ownBlock = some g → B ≤ g ∧ g < wr.heap.size := fun g hg => hown.lt g hg
  have h1 : CellsS (w2.setCell ⟨bo, off, none⟩ u) (Fr B wr v) xs ts := hF.stay fun b hb hlt => by
    obtain ⟨b1, b2, b3⟩ := hb
    rw [hst b (by omega) b3 (by omega), hw1 b b2]
  have h2 : IsS (w2.setCell ⟨bo, off, none⟩ u) (Iv lo hi) k n a m c t := hS.stay fun b hb hlt => by
    obtain ⟨b1, b2⟩ := hb
    exact hst b (by omega) (fun e => by have := (hv b e).2; omega) (by omega)
  refine h1.snoc h2 _ (fun x hx => ?_) (fun x hx => ?_) (fun x hx hy => ?_)
  · obtain ⟨x1, x2, x3⟩ := hx
    refine ⟨x1, by rw [set_size]; omega, fun e => ?_⟩
    simp only [Value.ownBlock, Option.some.injEq] at e
    rcases hat with h | h
    · exact x3 (by rw [h, e])
    · omega
  · obtain ⟨x1, x2⟩ := hx
    refine ⟨by omega, by rw [set_size]; omega, fun e => ?_⟩
    simp only [Value.ownBlock, Option.some.injEq] at e
    rcases hat with h | h
    · have := (hv _ h).2; omega
    · omega
  · have := hx.2.1; have := hy.1; omega

theorem clone_round {w wr W0 w1 w2 : World} {T : TypeId} {v : Value} {j g3 c3 : Nat} {xs : List Value} {ts : List Tr} {k n k2 n2 : Int} {a2 : Option Addr} {m2 c2 : Nat} {t' : Tr} {o : Obj}
    (HO : wr.heap[w.heap.size + 2]? = some (.cells #[.int .i64 k, .int .i64 n, v] T (0, 0))) (HR : wr.heap[w.heap.size + 1]? = some (.cells #[.int .i64 0, .int .i64 0, .slice none 0 0] T (0, 0)))
    (hown : wr.ownsRow (w.heap.size + 3) T 3 v j xs) (HC : CellsS wr (Fr (w.heap.size + 3) wr v) xs ts) (hbel : Below w.heap.size w wr) (hbW : Below wr.heap.size wr W0) (hs0 : W0.heap.size = wr.heap.size + 1)
    (hS : IsS w1 (Iv W0.drew.heap.size w1.heap.size) k2 n2 a2 m2 c2 t') (hb1 : Below W0.drew.heap.size W0.drew w1)
    (hown3 : w2.ownsRow (w.heap.size + 3) T 3 (.slice (some ⟨g3, 0, none⟩) (j + 1) c3) (j + 1) (xs ++ [.int .i64 k2, .int .i64 n2, .slice a2 m2 c2])) (hgrow : (w1.alloc o).grownBy w2 v.ownBlock) (hat : v.ownBlock = some g3 ∨ g3 = w1.heap.size + 1) :
    (w2.setCell ⟨w.heap.size + 1 + 1, 2, none⟩ (.slice (some ⟨g3, 0, none⟩) (j + 1) c3)).heap[w.heap.size + 2]? = some (.cells #[.int .i64 k, .int .i64 n, .slice (some ⟨g3, 0, none⟩) (j + 1) c3] T (0, 0)) ∧
    (w2.setCell ⟨w.heap.size + 1 + 1, 2, none⟩ (.slice (some ⟨g3, 0, none⟩) (j + 1) c3)).heap[w.heap.size + 1]? = some (.cells #[.int .i64 0, .int .i64 0, .slice none 0 0] T (0, 0)) ∧
    (w2.setCell ⟨w.heap.size + 1 + 1, 2, none⟩ (.slice (some ⟨g3, 0, none⟩) (j + 1) c3)).ownsRow (w.heap.size + 3) T 3 (.slice (some ⟨g3, 0, none⟩) (j + 1) c3) (j + 1) (xs ++ [.int .i64 k2, .int .i64 n2, .slice a2 m2 c2]) ∧
    CellsS (w2.setCell ⟨w.heap.size + 1 + 1, 2, none⟩ (.slice (some ⟨g3, 0, none⟩) (j + 1) c3)) (Fr (w.heap.size + 3) (w2.setCell ⟨w.heap.size + 1 + 1, 2, none⟩ (.slice (some ⟨g3, 0, none⟩) (j + 1) c3)) (.slice (some ⟨g3, 0, none⟩) (j + 1) c3)) (xs ++ [.int .i64 k2, .int .i64 n2, .slice a2 m2 c2]) (ts ++ [t']) ∧
    Below w.heap.size w (w2.setCell ⟨w.heap.size + 1 + 1, 2, none⟩ (.slice (some ⟨g3, 0, none⟩) (j + 1) c3)) := by
  have hl2 := block_lt HO
  have hd : W0.drew.heap.size = W0.heap.size := rfl
  have hs1 := hb1.size
  have hw1 : ∀ b, b < wr.heap.size → w1.heap[b]? = wr.heap[b]? := fun b hb => (hb1.block b (by omega)).trans (hbW.block b hb)
  have hbb : Below wr.heap.size wr w1 := chain (w1 := W0) hbW ⟨hb1.os, hb1.tape, hb1.output, hb1.size, hb1.block⟩
  have hv : ∀ g, v.ownBlock = some g → w.heap.size + 3 ≤ g ∧ g < wr.heap.size := fun g hg => hown.lt g hg
  have hw2 : ∀ b, b < wr.heap.size → v.ownBlock ≠ some b → w2.heap[b]? = wr.heap[b]? := fun b hb hne => by
    rw [hgrow.block b (by simp; omega) (Ne.symm hne), heap_alloc_old w1 o (show b < w1.heap.size by omega)]
    exact hw1 b hb
  refine ⟨?_, ?_, ?_, ?_, ?_⟩
  · have h2 : w2.heap[w.heap.size + 2]? = some (.cells #[.int .i64 k, .int .i64 n, v] T (0, 0)) := (hw2 _ hl2 (fun e => by have := (hv _ e).1; omega)).trans HO
    exact block_set h2 2 _
  · rw [set_far _ _ _ _ (by show w.heap.size + 1 ≠ w.heap.size + 1 + 1; omega)]
    exact (hw2 _ (by omega) (fun e => by have := (hv _ e).1; omega)).trans HR
  · exact ownsRow_setCell_other (a := ⟨w.heap.size + 1 + 1, 2, none⟩) hown3 (by
      intro e
      simp only [Value.ownBlock, Option.some.injEq] at e
      have := (hown3.lt g3 rfl).1
      omega) _
  · exact clone_step (bo := w.heap.size + 1 + 1) hown HC hw1 hS (by omega) (Nat.le_refl _) (by omega) (by omega) hgrow hat (by omega)
  · have h1 : Below w.heap.size w w1 := chain hbel hbb
    have h1s := h1.size
    exact ((h1.alloc h1.size o).grown hgrow (by show w.heap.size ≤ (w1.alloc o).heap.size; simp; omega) (fun k hk => by have := (hv k hk).1; omega)).setCell (by show w.heap.size ≤ w.heap.size + 1 + 1; omega) _

set_option maxHeartbeats 2000000 in
theorem desc_Clone (N : Nat) (hN : N ≤ 4194304) : ∀ (t : Tr) (k n : Int) (a : Option Addr) (m cap : Nat) (w : World) (F : Nat → Prop), t.size ≤ N → IsT w F k n a m cap t →
    Calls Try.prog 114 #[.agg #[.int .i64 k, .int .i64 n, .slice a m cap]] w (GivesS t w) := by
  obtain ⟨i0, hi, hz0, hz1, hz2⟩ := info_parts info_desc
  induction N with
  | zero => intro t k n a m cap w F h; have := Tr.size_pos t; omega
  | succ N ih =>
    intro t k n a m cap w F hs hT
    have IH := Lib.hid (ih (by omega))
    clear ih
    have HT := Lib.hid hT
    have hm : m ≤ N := by
      have := Tr.len_le_sizeL t.kids
      rw [Tr.size_kids] at hs
      rw [hT.em]; omega
    have HS := Lib.hid hs
    clear hT hs
    go_enter Try.func114, Try.ntmps114
    go_wp2_with fail
    go_loopw [14] (fun i wr => ∃ (j : Nat) (v : Value) (xs : List Value), j ≤ m ∧ i = .int .i64 j ∧ Hid (wr.heap[w.heap.size + 2]? = some (.cells #[.int .i64 k, .int .i64 n, v] 24 (0, 0))) ∧
      Hid (wr.heap[w.heap.size + 1]? = some (.cells #[.int .i64 0, .int .i64 0, .slice none 0 0] 24 (0, 0))) ∧ wr.ownsRow (w.heap.size + 3) 24 3 v j xs ∧ Hid (CellsS wr (Fr (w.heap.size + 3) wr v) xs (t.kids.take j)) ∧ Below w.heap.size w wr) (fun i _ => m - (intOf i).toNat)
    case atStart =>
      refine ⟨0, .slice none 0 0, [], Nat.zero_le _, rfl, ?_, ?_, World.ownsRow_nil _ _ _ _, CellsS.nil _, (((Below.refl _ _).alloc (Nat.le_refl _) _).alloc (by simp) _).alloc (by simp; omega) _⟩
      · unfold Hid; exact block_new (by simp)
      · unfold Hid; exact block_old (by simp) (block_new (by simp))
    case round =>
      obtain ⟨j, v, xs, hj, rfl, HO, HR, hown, HC, hbel⟩ := hrel
      by_cases hlt : j < m
      · obtain ⟨b, off, k', n', a', m', c', rfl, hF, hbl, h0, h1, h2, hT'⟩ := (HT.out.below hbel).kid j hlt
        have hj2 : j < t.kids.length := by rw [← HT.out.em]; exact hlt
        have hsz := Tr.size_kid t j hj2
        have hst := Tr.take_kid hj2
        have hs1 : (Tr.kid t.kids j).size ≤ N := by have := HS.out; omega
        obtain ⟨t', ht'⟩ : ∃ t', Tr.kid t.kids j = t' := ⟨_, rfl⟩
        rw [ht'] at hT' hst hs1
        have HST := Lib.hid hst
        have CK : Hid (∀ W, Below wr.heap.size wr W → Calls Try.prog 114 #[.agg #[.int .i64 k', .int .i64 n', .slice a' m' c']] W (GivesS t' W)) := fun W hb => IH.out t' k' n' a' m' c' W F hs1 (hT'.below hb)
        have hob := block_lt HO.out
        have o2 := block_cell HO.out 2
        have of := block_free HO.out 2
        simp at o2
        have HOWN := Lib.hid hown
        have of3 := (frozen_past wr (.cells #[.int .i64 k', .int .i64 n', .slice a' m' c'] 24) ⟨w.heap.size + 2, 2, none⟩ hob).trans of
        clear hT' hst hsz hj2 ht' hown
        go_wp2_with fail
        obtain ⟨W0, hW0⟩ : ∃ W0, wr.alloc (.cells #[.int .i64 k', .int .i64 n', .slice a' m' c'] 24) = W0 := ⟨_, rfl⟩
        have hbW : Below wr.heap.size wr W0 := by rw [← hW0]; exact (Below.refl _ _).alloc (Nat.le_refl _) _
        have HK : Hid (W0.heap[wr.heap.size]? = some (.cells #[.int .i64 k', .int .i64 n', .slice a' m' c'] 24 (0, 0))) := by unfold Hid; rw [← hW0]; exact block_new rfl
        have hs0 : W0.heap.size = wr.heap.size + 1 := by rw [← hW0]; simp
        rw [hW0]
        clear hW0 of3
        have p0 : W0.cell? ⟨w.heap.size + 1 + 1, 2, none⟩ = some v := (hbW.cell (p := ⟨w.heap.size + 1 + 1, 2, none⟩) hob).trans o2
        have p1 : W0.frozen? ⟨w.heap.size + 1 + 1, 2, none⟩ = false := (hbW.frozen (p := ⟨w.heap.size + 1 + 1, 2, none⟩) hob).trans of
        have p2 := block_cell HK.out 0
        have p3 := block_cell HK.out 1
        have p4 := block_cell HK.out 2
        simp at p2 p3 p4
        have l0 : w.heap.size + 1 + 1 < W0.heap.size := by omega
        have l1 : wr.heap.size < W0.heap.size := by omega
        have HOWN0 := Lib.hid (own_later3 HOWN.out hbW)
        have HBW := Lib.hid hbW
        have HS0 := Lib.hid hs0
        have ne1 : some (w.heap.size + 1 + 1) ≠ v.ownBlock := fun e => by have := (HOWN.out.lt _ e.symm).1; omega
        have ne2 : some wr.heap.size ≠ v.ownBlock := fun e => by have := (HOWN.out.lt _ e.symm).2; omega
        clear o2 of hs0 hbW
        go_region_law ((first | (refine step_append_lies _ (by rfl) _ _ 22 (by rfl) (w.heap.size + 3) 24 i0 _ 3 40 Try.underlying22 hi hz0 hz1 hz2 rfl (by omega) _ j xs (by rfl) ((own_later3 HOWN0.out.drew hb1).alloc _) ⟨w1.heap.size, 0, none⟩ 1 1 [.int .i64 k2, .int .i64 n2, .slice a2 m2 c2] (by rfl) (by rfl) (cell_three_new _ _ _ _ _) (one_three _ _ _ _ _) (by omega) (by unfold maxLen; omega) (by omega) (by simp; omega) (w1.heap.size + 1) (by simp) ?_; intro g3 c3 w2 hown3 hgrow hat hlt3; have r0 := hgrow.cell (a := ⟨w.heap.size + 1 + 1, 2, none⟩) ((cell_past _ _ _ (by show w.heap.size + 1 + 1 < w1.heap.size; omega)).trans q0) ne1; have r1 := (hgrow.frozen_far ⟨w.heap.size + 1 + 1, 2, none⟩ (by simp; omega) ne1).trans ((frozen_past _ _ _ (by show w.heap.size + 1 + 1 < w1.heap.size; omega)).trans q1); have r2 := hgrow.cell (a := ⟨wr.heap.size, 0, none⟩) ((cell_past _ _ _ z2).trans q2) ne2; have r3 := hgrow.cell (a := ⟨wr.heap.size, 1, none⟩) ((cell_past _ _ _ z2).trans q3) ne2; have r4 := hgrow.cell (a := ⟨wr.heap.size, 2, none⟩) ((cell_past _ _ _ z2).trans q4) ne2) | (go_simp; go_at_call 114; refine (CK.out _ HBW.out.drew).mono ?_; rintro e1 w1 ⟨k2, n2, a2, m2, c2, rfl, hS2, hb1⟩; have q0 := (hb1.cell (p := ⟨w.heap.size + 1 + 1, 2, none⟩) l0).trans p0; have q1 := (hb1.frozen (p := ⟨w.heap.size + 1 + 1, 2, none⟩) l0).trans p1; have q2 := (hb1.cell (p := ⟨wr.heap.size, 0, none⟩) l1).trans p2; have q3 := (hb1.cell (p := ⟨wr.heap.size, 1, none⟩) l1).trans p3; have q4 := (hb1.cell (p := ⟨wr.heap.size, 2, none⟩) l1).trans p4; have z1 : w.heap.size + 3 ≤ w1.heap.size := Nat.le_trans l0 hb1.size; have z2 : wr.heap.size < w1.heap.size := Nat.lt_of_lt_of_le l1 hb1.size; have s0 := (cell_past w1 (.cells #[.int .i64 k2, .int .i64 n2, .slice a2 m2 c2] 24) ⟨w.heap.size + 1 + 1, 2, none⟩ z1).trans q0)))
        all_goals
          obtain ⟨c1, c2', c3', c4, c5⟩ := clone_round HO.out HR.out HOWN.out HC.out hbel HBW.out HS0.out hS2 hb1 hown3 hgrow hat
          rw [← HST.out] at c4
          have K1 := Lib.hid c1
          have K2 := Lib.hid c2'
          have K4 := Lib.hid c4
          clear c1 c2' c4 hgrow hat hown3 hS2 hb1 r0 r1 r2 r3 r4 q0 q1 q2 q3 q4
          obtain ⟨w3, hw3⟩ : ∃ w3, w2.setCell ⟨w.heap.size + 1 + 1, 2, none⟩ (.slice (some ⟨g3, 0, none⟩) (j + 1) c3) = w3 := ⟨_, rfl⟩
          rw [hw3] at K1 K2 K4 c3' c5 ⊢
          clear hw3
          go_wp2_with fail
          go_roundw
          case rel => exact ⟨j + 1, _, _, by omega, by go_num, K1.out, K2.out, c3', K4.out, c5⟩
          case measure => simp [intOf]; omega
      · have hjm : j = m := by omega
        have hE : t.kids.take j = t.kids := List.take_of_length_le (by rw [← HT.out.em]; omega)
        have hc := HC.out
        rw [hE] at hc
        have hok := hc.cells.ok
        obtain ⟨a3, c3, rfl, hcap⟩ : ∃ a3 c3, v = .slice a3 m c3 ∧ OkCap a3 m c3 := by
          rcases hown.2 with ⟨rfl, h0⟩ | ⟨g, cap', cur, rfl, _, _, hnc, _⟩
          · exact ⟨none, 0, by rw [← hjm, h0], by omega, fun _ => rfl⟩
          · exact ⟨_, _, by rw [hjm], by omega, fun h => by cases h⟩
        have hsep : Sep wr (Iv (w.heap.size + 3) wr.heap.size) a3 c3 t.kids := by
          rw [← hjm] at hown
          refine sep_of_own hown hc (by rw [← HT.out.em]; omega) (fun b hb => ⟨hb.1, hb.2.1⟩) (fun g hg => ?_)
          have h1 := hown.lt g (by rw [hg]; rfl)
          exact ⟨⟨by omega, h1.2⟩, fun h => h.2.2 (by rw [hg]; rfl)⟩
        have hres : IsS wr (Iv (w.heap.size + 3) wr.heap.size) k n a3 m c3 t := ⟨HT.out.ek, HT.out.en, HT.out.em, HT.out.ok, hsep⟩
        have o0 := block_cell HO.out 0
        have o1 := block_cell HO.out 1
        have o2 := block_cell HO.out 2
        have p0 := block_cell HR.out 0
        have p1 := block_cell HR.out 1
        have p2 := block_cell HR.out 2
        have pf0 := block_free HR.out 0
        have pf1 := block_free HR.out 1
        have pf2 := block_free HR.out 2
        have hl1 := block_lt HR.out
        have hl2 := block_lt HO.out
        simp at o0 o1 o2 p0 p1 p2
        have HRES := Lib.hid hres
        clear hres hsep hok hc hE HC hown
        go_wp2_with fail
        obtain ⟨w3, hw3⟩ : ∃ w3, ((wr.setCell ⟨w.heap.size + 1, 0, none⟩ (.int .i64 k)).setCell ⟨w.heap.size + 1, 1, none⟩ (.int .i64 n)).setCell ⟨w.heap.size + 1, 2, none⟩ (.slice a3 m c3) = w3 := ⟨_, rfl⟩
        have hbl : w3.heap[w.heap.size + 1]? = some (.cells #[.int .i64 k, .int .i64 n, .slice a3 m c3] 24 (0, 0)) := by
          rw [← hw3]; exact block_set (block_set (block_set HR.out 0 _) 1 _) 2 _
        have hfar : ∀ b, b ≠ w.heap.size + 1 → w3.heap[b]? = wr.heap[b]? := fun b hb => by rw [← hw3, set_far _ _ _ _ hb, set_far _ _ _ _ hb, set_far _ _ _ _ hb]
        have hsz3 : w3.heap.size = wr.heap.size := by rw [← hw3, set_size, set_size, set_size]
        have hb3 : Below w.heap.size w w3 := by rw [← hw3]; exact ((hbel.setCell (by show w.heap.size ≤ w.heap.size + 1; omega) _).setCell (by show w.heap.size ≤ w.heap.size + 1; omega) _).setCell (by show w.heap.size ≤ w.heap.size + 1; omega) _
        have h3 : IsS w3 (Iv w.heap.size w3.heap.size) k n a3 m c3 t := (HRES.out.stay fun b hb _ => hfar b (by have := hb.1; omega)).mono fun b hb => ⟨by have := hb.1; omega, by have := hb.2; omega⟩
        rw [hw3]
        have r0 := block_cell hbl 0
        have r1 := block_cell hbl 1
        have r2 := block_cell hbl 2
        simp at r0 r1 r2
        refine bodyPost_ret (v := .agg #[.int .i64 k, .int .i64 n, .slice a3 m c3]) (by simp [results, Try.results114, go_sem, r0, r1, r2]) rfl ⟨k, n, a3, m, c3, rfl, h3, hb3⟩
end Go.Proofs.Ytncikklhchimdaa
