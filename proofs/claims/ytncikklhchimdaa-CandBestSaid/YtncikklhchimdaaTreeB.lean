/- Trees: rows of trees in cells; how deep, and all nodes, by the reference. -/
import Derived.Test.YtncikklhchimdaaTreeA
import Derived.Deep.AppendLies
namespace Go.Proofs.Ytncikklhchimdaa
open Go.RowKit
set_option linter.unusedVariables false
set_option linter.unusedSimpArgs false
set_option maxRecDepth 100000

/-- Cells that read as trees, three a tree; what is below lies in F. -/
inductive CellsT (w : World) (F : Nat → Prop) : List Value → List Tr → Prop
  | nil : CellsT w F [] []
  | cons {k n : Int} {a : Option Addr} {m c : Nat} {t : Tr} {xs : List Value} {ts : List Tr} (h : IsT w F k n a m c t) (hs : CellsT w F xs ts) : CellsT w F (.int .i64 k :: .int .i64 n :: .slice a m c :: xs) (t :: ts)

theorem CellsT.len {w : World} {F : Nat → Prop} {xs : List Value} {ts : List Tr} (h : CellsT w F xs ts) : xs.length = ts.length * 3 := by
  induction h with
  | nil => rfl
  | cons _ _ ih => simp only [List.length_cons, ih]; omega
theorem CellsT.append {w : World} {F : Nat → Prop} {xs ys : List Value} {ts us : List Tr} (h : CellsT w F xs ts) (h2 : CellsT w F ys us) : CellsT w F (xs ++ ys) (ts ++ us) := by
  induction h with
  | nil => exact h2
  | cons h _ ih => exact .cons h ih
theorem CellsT.one {w : World} {F : Nat → Prop} {k n : Int} {a : Option Addr} {m c : Nat} {t : Tr} (h : IsT w F k n a m c t) : CellsT w F [.int .i64 k, .int .i64 n, .slice a m c] [t] := .cons h .nil
theorem CellsT.mono {w : World} {F G : Nat → Prop} {xs : List Value} {ts : List Tr} (h : CellsT w F xs ts) (hs : ∀ b, F b → G b) : CellsT w G xs ts := by
  induction h with
  | nil => exact .nil
  | cons h _ ih => exact .cons (h.mono hs) ih
theorem CellsT.stay {w w' : World} {F : Nat → Prop} {xs : List Value} {ts : List Tr} (h : CellsT w F xs ts) (hs : ∀ b, F b → b < w.heap.size → w'.heap[b]? = w.heap[b]?) : CellsT w' F xs ts := by
  induction h with
  | nil => exact .nil
  | cons h _ ih => exact .cons (h.stay hs) ih
theorem CellsT.later {w w' : World} {F : Nat → Prop} {xs : List Value} {ts : List Tr} (h : CellsT w F xs ts) (hb : Below w.heap.size w w') : CellsT w' F xs ts := h.stay fun b _ hlt => hb.block b hlt
theorem CellsT.oneCell {w : World} {F : Nat → Prop} {xs : List Value} {ts : List Tr} (h : CellsT w F xs ts) : ∀ u ∈ xs, u.oneCell' = true := by
  induction h with
  | nil => intro u hu; cases hu
  | cons _ _ ih =>
    intro u hu
    simp only [List.mem_cons] at hu
    rcases hu with rfl | rfl | rfl | hu
    · rfl
    · rfl
    · rfl
    · exact ih u hu
theorem CellsT.ok {w : World} {F : Nat → Prop} {xs : List Value} {ts : List Tr} (h : CellsT w F xs ts) : ∀ t ∈ ts, t.Ok := by
  induction h with
  | nil => intro t ht; cases ht
  | cons h _ ih =>
    intro t ht
    rcases List.mem_cons.1 ht with rfl | ht
    · exact h.ok
    · exact ih t ht
theorem CellsT.at {w : World} {F : Nat → Prop} {xs : List Value} {ts : List Tr} (h : CellsT w F xs ts) : ∀ i, i < ts.length → ∃ k n a m c, xs[i * 3]? = some (.int .i64 k) ∧ xs[i * 3 + 1]? = some (.int .i64 n) ∧ xs[i * 3 + 2]? = some (.slice a m c) ∧ IsT w F k n a m c (Tr.kid ts i) := by
  induction h with
  | nil => intro i hi; simp at hi
  | cons h hs ih =>
    intro i hi
    cases i with
    | zero => exact ⟨_, _, _, _, _, rfl, rfl, rfl, h⟩
    | succ i =>
      obtain ⟨k, n, a, m, c, h0, h1, h2, h3⟩ := ih i (by simpa using hi)
      refine ⟨k, n, a, m, c, ?_, ?_, ?_, h3⟩
      · rw [show (i + 1) * 3 = i * 3 + 3 by omega]; exact h0
      · rw [show (i + 1) * 3 + 1 = i * 3 + 1 + 3 by omega]; exact h1
      · rw [show (i + 1) * 3 + 2 = i * 3 + 2 + 3 by omega]; exact h2

/-- A row of trees that the call owns, as kids that read. -/
theorem kids_of_own {w : World} {base : Nat} {e : TypeId} {a : Option Addr} {n cap : Nat} {xs : List Value} {F G : Nat → Prop} {ts : List Tr} (h : w.ownsRow base e 3 (.slice a n cap) n xs) (hc : CellsT w F xs ts) (hn : ts.length = n)
    (hF : ∀ b, F b → G b) (hG : ∀ g, a = some ⟨g, 0, none⟩ → G g) : Kids w G a cap ts := by
  rcases h.2 with ⟨hv, h0⟩ | ⟨g, cap', cur, hv, hb, hg, hnc, hcm, hcs, htake⟩
  · simp only [Value.slice.injEq] at hv
    obtain ⟨rfl, _, rfl⟩ := hv
    obtain rfl : ts = [] := List.length_eq_zero_iff.1 (by omega)
    exact .nil
  · simp only [Value.slice.injEq, true_and] at hv
    obtain ⟨rfl, rfl⟩ := hv
    rcases Nat.eq_zero_or_pos n with h0 | hpos
    · obtain rfl : ts = [] := List.length_eq_zero_iff.1 (by omega)
      exact .empty _ _
    · have hat := hc.at
      have hA : ∃ A : Nat → Option Addr × Nat, ∀ i, i < ts.length → ∃ k n, xs[i * 3]? = some (.int .i64 k) ∧ xs[i * 3 + 1]? = some (.int .i64 n) ∧ ∃ m, xs[i * 3 + 2]? = some (.slice (A i).1 m (A i).2) ∧ IsT w F k n (A i).1 m (A i).2 (Tr.kid ts i) := by
        have hp : ∀ i, ∃ p : Option Addr × Nat, i < ts.length → ∃ k n, xs[i * 3]? = some (.int .i64 k) ∧ xs[i * 3 + 1]? = some (.int .i64 n) ∧ ∃ m, xs[i * 3 + 2]? = some (.slice p.1 m p.2) ∧ IsT w F k n p.1 m p.2 (Tr.kid ts i) := fun i => by
          by_cases hi : i < ts.length
          · obtain ⟨k, n, a, m, c, h0, h1, h2, h3⟩ := hat i hi
            exact ⟨(a, c), fun _ => ⟨k, n, h0, h1, m, h2, h3⟩⟩
          · exact ⟨(none, 0), fun h => absurd h hi⟩
        exact ⟨fun i => Classical.choose (hp i), fun i hi => Classical.choose_spec (hp i) hi⟩
      obtain ⟨A, hA⟩ := hA
      have hcell : ∀ j, j < n * 3 → w.cell? ⟨g, j, none⟩ = xs[j]? := fun j hj => World.ownsRow.cellAt ⟨h.1, .inr ⟨g, cap, cur, rfl, hb, hg, hnc, hcm, hcs, htake⟩⟩ j hj
      refine .row g 0 cap ts (fun i => (A i).1) (fun i => (A i).2) (by omega) (by omega) (hG g rfl) (fun i hi => ?_) (fun i hi => ?_) (fun i hi => ?_) (fun i hi => ?_)
      · obtain ⟨k, n', h0, h1, m, h2, h3⟩ := hA i hi
        rw [Nat.zero_add, hcell _ (by omega), h0, h3.ek]
      · obtain ⟨k, n', h0, h1, m, h2, h3⟩ := hA i hi
        rw [Nat.zero_add, hcell _ (by omega), h1, h3.en]
      · obtain ⟨k, n', h0, h1, m, h2, h3⟩ := hA i hi
        rw [Nat.zero_add, hcell _ (by omega), h2, h3.em]
      · obtain ⟨k, n', h0, h1, m, h2, h3⟩ := hA i hi
        exact h3.kids.mono hF

/-- Of the row of trees: the i-th tree's cells. -/
theorem own_cells {w : World} {base : Nat} {e : TypeId} {g n cap : Nat} {xs : List Value} {F : Nat → Prop} {ts : List Tr} (h : w.ownsRow base e 3 (.slice (some ⟨g, 0, none⟩) n cap) n xs) (hc : CellsT w F xs ts) (hn : ts.length = n) (i : Nat) (hi : i < n) :
    ∃ k' n' a' m' c', w.cell? ⟨g, 0 + i * 3, none⟩ = some (.int .i64 k') ∧ w.cell? ⟨g, 0 + i * 3 + 1, none⟩ = some (.int .i64 n') ∧ w.cell? ⟨g, 0 + i * 3 + 2, none⟩ = some (.slice a' m' c') ∧ IsT w F k' n' a' m' c' (Tr.kid ts i) := by
  obtain ⟨k, n', a, m, c, h0, h1, h2, h3⟩ := hc.at i (by omega)
  refine ⟨k, n', a, m, c, ?_, ?_, ?_, h3⟩
  · rw [Nat.zero_add, h.cellAt _ (by omega), h0]
  · rw [Nat.zero_add, h.cellAt _ (by omega), h1]
  · rw [Nat.zero_add, h.cellAt _ (by omega), h2]

theorem own_later3 {w w' : World} {B : Nat} {e : TypeId} {s : Nat} {v : Value} {n : Nat} {xs : List Value} (h : w.ownsRow B e s v n xs) (hb : Below w.heap.size w w') : w'.ownsRow B e s v n xs :=
  h.kept (row := none) ⟨hb.os, hb.tape, hb.output, hb.size, fun j hj _ => hb.block j hj⟩ (by cases v.ownBlock <;> simp)
theorem own_lt3 {wr : World} {e : TypeId} {s : Nat} {v : Value} {n : Nat} {xs : List Value} {B : Nat} (h : wr.ownsRow B e s v n xs) : ∀ k, v.ownBlock = some k → B ≤ k := fun k hk => (h.lt k hk).1

theorem info_desc : (Try.prog.info? 24).map (fun i => (i.zero, i.size, i.bytes)) = some (some (.agg #[.int .i64 0, .int .i64 0, .slice none 0 0]), 3, 40) := by kernel_rfl

namespace Tr
mutual
/-- All nodes, a node ahead of those below it. -/
def nodes : Tr → List Tr
  | node k n ks => node k n ks :: nodesL ks
def nodesL : List Tr → List Tr
  | [] => []
  | t :: ts => nodes t ++ nodesL ts
end
theorem nodes_kids (t : Tr) : t.nodes = t :: nodesL t.kids := by cases t; simp [nodes, kids]
theorem nodesL_append (l r : List Tr) : nodesL (l ++ r) = nodesL l ++ nodesL r := by
  induction l with
  | nil => simp [nodesL]
  | cons t ts ih => simp only [List.cons_append, nodesL, ih, List.append_assoc]
theorem nodesL_snoc (l : List Tr) (t : Tr) : nodesL (l ++ [t]) = nodesL l ++ t.nodes := by rw [nodesL_append]; simp [nodesL]
theorem nodes_len (N : Nat) : ∀ t : Tr, t.size ≤ N → t.nodes.length = t.size := by
  induction N with
  | zero => intro t h; have := size_pos t; omega
  | succ N ih =>
    intro t h
    rw [size_kids] at h ⊢
    rw [nodes_kids, List.length_cons]
    have h2 : ∀ ks : List Tr, sizeL ks ≤ N → (nodesL ks).length = sizeL ks := by
      intro ks
      induction ks with
      | nil => intro _; simp [nodesL, sizeL]
      | cons t ts ih2 => intro hk; simp only [sizeL] at hk; simp only [nodesL, sizeL, List.length_append]; rw [ih t (by omega), ih2 (by omega)]
    rw [h2 t.kids (by omega)]
theorem nodesL_len (ks : List Tr) : (nodesL ks).length = sizeL ks := by
  induction ks with
  | nil => simp [nodesL, sizeL]
  | cons t ts ih => simp only [nodesL, sizeL, List.length_append]; rw [nodes_len _ t (Nat.le_refl _), ih]
theorem sizeL_take (ks : List Tr) (j : Nat) : sizeL (ks.take j) ≤ sizeL ks := by
  have h := sizeL_append (ks.take j) (ks.drop j)
  rw [List.take_append_drop] at h
  omega
end Tr

set_option maxHeartbeats 1000000 in
theorem ref13_Depth (N : Nat) (hN : N ≤ 4194304) : ∀ (t : Tr) (k n : Int) (a : Option Addr) (m cap : Nat) (w : World) (F : Nat → Prop), t.size ≤ N → IsT w F k n a m cap t →
    Calls Try.prog 71 #[.agg #[.int .i64 k, .int .i64 n, .slice a m cap]] w fun e w' => e = .returned (.int .i64 (t.depth : Nat)) ∧ Below w.heap.size w w' := by
  induction N with
  | zero => intro t k n a m cap w F h; have := Tr.size_pos t; omega
  | succ N ih =>
    intro t k n a m cap w F hs hT
    have IH := Lib.hid (ih (by omega))
    clear ih
    have HT := Lib.hid hT
    have hm : m ≤ N := by
      have := Tr.len_le_sizeL t.kids
      rw [Tr.size_kids] at hs
      rw [hT.em]; omega
    have HS := Lib.hid hs
    clear hT hs
    go_enter Try.func71, Try.ntmps71
    go_wp2_with fail
    go_loopw [3, 4] (fun v i wr => ∃ j d : Nat, j ≤ m ∧ i = .int .i64 j ∧ v = .int .i64 d ∧ d ≤ 4194304 ∧ Hid (d = Tr.depthL (t.kids.take j)) ∧ Below w.heap.size w wr ∧ w.heap.size < wr.heap.size ∧ wr.cell? ⟨w.heap.size, 2, none⟩ = some (.slice a m cap)) (fun _ i _ => m - (intOf i).toNat)
    case atStart => exact ⟨0, 0, Nat.zero_le _, rfl, rfl, by omega, by simp [Hid, Tr.depthL], (Below.refl _ _).alloc (Nat.le_refl _) _, by simp, by simp⟩
    case round =>
      obtain ⟨j, d, hj, rfl, rfl, hd, HD, hbel, hsz0, hcl⟩ := hrel
      by_cases hlt : j < m
      · obtain ⟨b, off, k', n', a', m', c', rfl, hF, hbl, h0, h1, h2, hT'⟩ := (HT.out.below hbel).kid j hlt
        have hj2 : j < t.kids.length := by rw [← HT.out.em]; exact hlt
        have hsz := Tr.size_kid t j hj2
        have hd1 := Tr.depth_le _ (Tr.kid t.kids j) (Nat.le_refl _)
        have hst := Tr.take_kid hj2
        have hs1 : (Tr.kid t.kids j).size ≤ N := by have := HS.out; omega
        obtain ⟨t', ht'⟩ : ∃ t', Tr.kid t.kids j = t' := ⟨_, rfl⟩
        rw [ht'] at hT' hd1 hst hs1
        have CK : Hid (Calls Try.prog 71 #[.agg #[.int .i64 k', .int .i64 n', .slice a' m' c']] wr fun e w' => e = .returned (.int .i64 (t'.depth : Nat)) ∧ Below wr.heap.size wr w') := IH.out t' k' n' a' m' c' wr F hs1 hT'
        have HN : Hid (max d t'.depth = Tr.depthL (t.kids.take (j + 1))) := by unfold Hid; rw [hst, Tr.depthL_snoc, ← HD.out]
        obtain ⟨e, he⟩ : ∃ e, t'.depth = e := ⟨_, rfl⟩
        rw [he] at CK HN hd1
        have hmx : max d e ≤ 4194304 := by omega
        clear hT' hst hd1 hsz hj2 ht' he HD
        go_wp2_with fail
        refine CK.out.mono ?_; rintro e1 w1 ⟨rfl, hb1⟩
        have hcl1 := (hb1.cell (p := ⟨w.heap.size, 2, none⟩) hsz0).trans hcl
        have hsz1 : w.heap.size < w1.heap.size := Nat.lt_of_lt_of_le hsz0 hb1.size
        by_cases hde : d < e
        · have hgt : decide ((e : Int) > (d : Int)) = true := by simp; omega
          go_wp2_with fail
          go_roundw
          case rel => exact ⟨j + 1, e, by omega, by go_num, rfl, by omega, by rw [← HN.out]; show e = max d e; omega, chain hbel hb1, hsz1, hcl1⟩
          case measure => simp [intOf]; omega
        · have hgt : decide ((e : Int) > (d : Int)) = false := by simp; omega
          go_wp2_with fail
          go_roundw
          case rel => exact ⟨j + 1, d, by omega, by go_num, rfl, by omega, by rw [← HN.out]; show d = max d e; omega, chain hbel hb1, hsz1, hcl1⟩
          case measure => simp [intOf]; omega
      · have hjm : j = m := by omega
        have HE : Hid (t.depth = d + 1) := by unfold Hid; rw [Tr.depth_kids, HD.out, List.take_of_length_le (by rw [← HT.out.em]; omega)]
        clear HD
        go_wp2_with fail
        go_ret
        exact ⟨by rw [HE.out]; go_num, hbel⟩

/-- A result: a new row that reads as the trees; what is below them lies in F. -/
def GivesT (F : Nat → Prop) (ts : List Tr) (w : World) (e : Ending) (w' : World) : Prop :=
  ∃ g cap xs, e = .returned (.slice (some ⟨g, 0, none⟩) ts.length cap) ∧ w'.ownsRow w.heap.size 24 3 (.slice (some ⟨g, 0, none⟩) ts.length cap) ts.length xs ∧ CellsT w' F xs ts ∧ Below w.heap.size w w'
end Go.Proofs.Ytncikklhchimdaa
