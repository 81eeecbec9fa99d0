/- Trees: all nodes, as an iterator. -/
import Derived.Test.YtncikklhchimdaaTreeI
import Derived.RangeFuncNested
import Derived.RangeFuncBound
import Derived.RangeFuncCalls
import Derived.RangeFuncLeaves
import Derived.RangeFuncBox
import Derived.RangeFuncWrites
import Derived.Shelf.Abstract
import Derived.Shelf.RegionOpen
import Derived.OwnWalkIn
import Derived.TacticsInMore
import Derived.LoopNIn
import Derived.LoopIn
namespace Go.Proofs.Ytncikklhchimdaa
open Go.RowKit Go.Shelf
set_option linter.unusedVariables false
set_option linter.unusedSimpArgs false
set_option maxRecDepth 100000
attribute [local go_sem] Oper.semAt_some

/-- All cells but those of the block b0 are as they were. -/
structure KeepsBut (b0 : Nat) (A B : World) : Prop where
  size : A.heap.size ≤ B.heap.size
  cell : ∀ (a : Addr) (v : Value), a.block ≠ b0 → A.cell? a = some v → B.cell? a = some v
theorem KeepsBut.refl (b0 : Nat) (A : World) : KeepsBut b0 A A := ⟨Nat.le_refl _, fun _ _ _ h => h⟩
theorem KeepsBut.trans {b0 : Nat} {A B C : World} (h : KeepsBut b0 A B) (k : KeepsBut b0 B C) : KeepsBut b0 A C := ⟨Nat.le_trans h.size k.size, fun a v hb hv => k.cell a v hb (h.cell a v hb hv)⟩
theorem KeepsBut.of_below {b0 : Nat} {A B : World} (h : Below A.heap.size A B) : KeepsBut b0 A B := ⟨h.size, fun a v _ hv => (h.cell (World.block_lt_of_cell? A a hv)).trans hv⟩
theorem KeepsBut.putObj {b0 : Nat} (W : World) (l : Nat) (o o' : Obj) (h : W.heap[l]? = some o) (hc : o.isCells = false) : KeepsBut b0 W (W.putObj l o') :=
  ⟨(grownBy_putObj' W l o').size, fun a v _ hv => by
    refine (World.cell?_of_block ((grownBy_putObj' W l o').block a.block (World.block_lt_of_cell? W a hv) ?_)).trans hv
    intro e
    cases e
    rw [show W.cell? a = none from ?_] at hv
    · cases hv
    · unfold World.cell?
      rw [h]
      cases o <;> simp_all [Obj.isCells]⟩
theorem KeepsBut.setCell {b0 : Nat} (W : World) (o : Nat) (v : Value) : KeepsBut b0 W (W.setCell ⟨b0, o, none⟩ v) :=
  ⟨by simp, fun a u hb hu => (World.cell?_of_block (set_far W _ v a.block hb)).trans hu⟩

theorem Kids.stayC {w w' : World} {F : Nat → Prop} {a : Option Addr} {cap : Nat} {ks : List Tr} (h : Kids w F a cap ks) (hs : ∀ (a : Addr) v, F a.block → w.cell? a = some v → w'.cell? a = some v) : Kids w' F a cap ks := by
  induction h with
  | nil => exact .nil
  | empty a cap => exact .empty a cap
  | row b off cap ks A C hpos hl hF h0 h1 h2 _ ih =>
    exact .row b off cap ks A C hpos hl hF (fun i hi => hs _ _ hF (h0 i hi)) (fun i hi => hs _ _ hF (h1 i hi)) (fun i hi => hs _ _ hF (h2 i hi)) ih
theorem IsT.keeps {w w' : World} {b0 : Nat} {k n : Int} {a : Option Addr} {m cap : Nat} {t : Tr} (h : IsT w (fun b => b ≠ b0) k n a m cap t) (hk : KeepsBut b0 w w') : IsT w' (fun b => b ≠ b0) k n a m cap t :=
  ⟨h.ek, h.en, h.em, h.ok, h.kids.stayC fun a v hb hv => hk.cell a v hb hv⟩

theorem abides_below {β : Type} {B : Nat} {J : β → World → Prop} {s : β} {W W' : World} (h : AbidesFrom B J) (hs : J s W) (hb : Below W.heap.size W W') : J s W' :=
  h s W W' none hs ⟨hb.os, hb.tape, hb.output, hb.size, fun k hk _ => hb.block k hk⟩ (fun r e => by cases e)
theorem yieldAt_wide {m m' : Nat} {P : Program} {l : Nat} {args : Array Value} {W : World} {R : Ending → World → Prop} (h : YieldAt Fence.wide m P l args W R) : YieldAt Fence.wide m' P l args W R := by
  obtain ⟨fn, tmps, assign, body, hy, hR⟩ := h
  exact ⟨fn, tmps, assign, body, hy, hR.1, fun c cs _ => hR.2 c cs (room_wide _)⟩

/-- The value x reads as the tree that comes behind pre in L. -/
def NextT (b0 : Nat) (L : List Tr) (pre : List Value) (x : Value) (W : World) : Prop :=
  ∃ k n a m c t, x = .agg #[.int .i64 k, .int .i64 n, .slice a m c] ∧ IsT W (fun b => b ≠ b0) k n a m c t ∧ L[pre.length]? = some t

/-- How the iterator may be left. -/
def AllEnds (b0 : Nat) (J Jx : List Value → World → Prop) (pre : List Value) (s : Nat) (W : World) (e : Ending) (W' : World) : Prop :=
  (e = .returned (.bool true) ∧ ∃ xs, xs.length = s ∧ J (pre ++ xs) W' ∧ KeepsBut b0 W W') ∨ (e = .returned (.bool false) ∧ ∃ pre', Jx pre' W')

set_option maxRecDepth 100000 in
set_option maxHeartbeats 4000000 in
theorem all_in (b0 B N l : Nat) (L : List Tr) (J Jx : List Value → World → Prop) (hJ : AbidesFrom B J)
    (hY : ∀ pre x W, J pre W → pre.length < N → NextT b0 L pre x W → YieldAt Fence.wide 0 Try.prog l #[x] W fun e W' => (e = .returned (.bool true) ∧ J (pre ++ [x]) W' ∧ KeepsBut b0 W W') ∨ (e = .returned (.bool false) ∧ Jx (pre ++ [x]) W'))
    (K : Nat) (hK : K ≤ 4194304) : ∀ (q : Nat) (t : Tr) (k n : Int) (a : Option Addr) (m cap : Nat) (pre : List Value) (W : World), t.size ≤ K → IsT W (fun b => b ≠ b0) k n a m cap t → b0 < W.heap.size → J pre W → pre.length + t.size ≤ N → (∀ i, i < t.size → L[pre.length + i]? = t.nodes[i]?) →
    CallsIn Fence.wide q Try.prog 110 #[.agg #[.int .i64 k, .int .i64 n, .slice a m cap], .func (.yield l) #[] #[]] W (AllEnds b0 J Jx pre t.size W) := by
  have HJ := Lib.hid hJ
  have HYY := Lib.hid hY
  clear hJ hY
  induction K with
  | zero => intro q t k n a m cap pre W h; have := Tr.size_pos t; omega
  | succ K ih =>
    intro q t k n a m cap pre W hs hT hb0 hJ0 hN hL
    have IH := Lib.hid (ih (by omega))
    have hm : m ≤ K := by
      have := Tr.len_le_sizeL t.kids
      rw [Tr.size_kids] at hs
      rw [hT.em]; omega
    have HS := Lib.hid hs
    have HT := Lib.hid hT
    have HL := Lib.hid hL
    have HN := Lib.hid hN
    have HJ0 := Lib.hid hJ0
    have HSK := Lib.hid (Tr.size_kids t)
    have CC : Hid (∀ W', Below W.heap.size W W' → Calls Try.prog 114 #[.agg #[.int .i64 k, .int .i64 n, .slice a m cap]] W' (GivesS t W')) := fun W' hb => desc_Clone 4194304 (by omega) t k n a m cap W' _ (by have := HS.out; omega) (HT.out.below hb)
    clear ih hs hT hL hN hJ0
    refine callsIn_of_wp Try.func110 rfl trivial ?_ rfl
    simp only [Try.ntmps110, List.size_toArray, List.length_cons, List.length_nil, Nat.reduceAdd, Nat.reduceSub, Array.replicate_succ, Array.replicate_zero, List.push_toArray, List.append_toArray, List.nil_append, List.cons_append]
    gi_wp2
    refine ⟨trivial, (fun h => by cases h), (callsIn_wide.2 (CC.out _ ((Below.refl _ _).alloc (Nat.le_refl _) _))).mono ?_⟩
    rintro e w1 ⟨k1, n1, a1, m1, c1, rfl, hS1, hb1⟩
    have hbl : Below W.heap.size W w1 := chainA (Below.refl _ _) hb1
    have hbs := hbl.size
    have hsz1 : W.heap.size < w1.heap.size := by have := hb1.size; simp at this; omega
    have hbx : w1.heap[W.heap.size]? = some (.cells #[.int .i64 k, .int .i64 n, .slice a m cap] 24 (0, 0)) := (hb1.block _ (by simp)).trans (block_new rfl)
    have HT1 : Hid (IsT w1 (fun b => b ≠ b0) k n a m cap t) := HT.out.below hbl
    have hnx : NextT b0 L pre (.agg #[.int .i64 k1, .int .i64 n1, .slice a1 m1 c1]) w1 := by
      refine ⟨k1, n1, a1, m1, c1, t, rfl, hS1.tree.mono fun b hb => ?_, ?_⟩
      · have h1 : W.heap.size + 1 ≤ b := by have := hb.1; simpa using this
        omega
      · have := HL.out 0 (Tr.size_pos t)
        rw [Nat.add_zero] at this
        rw [this, Tr.nodes_kids]; rfl
    obtain ⟨fn, tmps, assign, body, hy, hR⟩ := HYY.out pre _ w1 (abides_below HJ.out HJ0.out hbl) (by have := HN.out; have := Tr.size_pos t; omega) hnx
    have HR := Lib.hid hR
    have HBX := Lib.hid hbx
    have HBL := Lib.hid hbl
    clear hnx hS1 hb1 hR hbx hbl
    gi_wp2
    refine ⟨(fun h => by cases h), RoundIn.mono ⟨HR.out.1, fun c cs _ => HR.out.2 c cs (room_wide _)⟩ ?_⟩
    rintro e W3 (⟨rfl, hJ3, hk3⟩ | ⟨rfl, hJx3⟩)
    · have hbn : W.heap.size ≠ b0 := by omega
      have hbox := hk3.cell ⟨W.heap.size, 2, none⟩ (.slice a m cap) hbn (block_cell HBX.out 2)
      have HT3 : Hid (IsT W3 (fun b => b ≠ b0) k n a m cap t) := HT1.out.keeps hk3
      have hK3 : KeepsBut b0 W W3 := (KeepsBut.of_below HBL.out).trans hk3
      have hW3 : b0 < W3.heap.size := by have := hK3.size; omega
      have HK3 := Lib.hid hK3
      have HJ3 := Lib.hid hJ3
      have hlx := Tr.nodesL_len t.kids
      clear hk3 hJ3 hK3 hlx
      gi_wp2
      obtain ⟨wo, hwo⟩ : ∃ wo : World, wo = W3 := ⟨_, rfl⟩
      subst hwo
      gi_loopw [15] (fun v wr => ∃ (j : Nat) (xs : List Value), j ≤ m ∧ v = .int .i64 j ∧ Hid (xs.length = 1 + Tr.sizeL (t.kids.take j)) ∧ Hid (J (pre ++ xs) wr) ∧ Hid (KeepsBut b0 wo wr)) (fun v _ => m - (intOf v).toNat)
      case atStart => exact ⟨0, [.agg #[.int .i64 k1, .int .i64 n1, .slice a1 m1 c1]], Nat.zero_le _, rfl, by simp [Hid, Tr.sizeL], HJ3.out, KeepsBut.refl _ _⟩
      case round =>
        obtain ⟨j, xs, hj, rfl, HXL, HJJ, HKK⟩ := hrel
        by_cases hlt : j < m
        · obtain ⟨b, off, k2, n2, a2, m2, c2, rfl, hF, hbl, g0, g1, g2, hT'⟩ := (HT3.out.keeps HKK.out).kid j hlt
          have hj2 : j < t.kids.length := by rw [← HT.out.em]; exact hlt
          have hsz := Tr.size_kid t j hj2
          have hst := Tr.take_kid hj2
          have hs1 : (Tr.kid t.kids j).size ≤ K := by have := HS.out; omega
          have hdr := Tr.drop_kid hj2
          have htd : t.kids = t.kids.take j ++ (Tr.kid t.kids j :: t.kids.drop (j + 1)) := by rw [← hdr, List.take_append_drop]
          have htake : Tr.sizeL (t.kids.take (j + 1)) ≤ Tr.sizeL t.kids := Tr.sizeL_take _ _
          have hsnoc : Tr.sizeL (t.kids.take (j + 1)) = Tr.sizeL (t.kids.take j) + (Tr.kid t.kids j).size := by rw [hst, Tr.sizeL_append]; simp [Tr.sizeL]
          have hnd : t.nodes = t :: (Tr.nodesL (t.kids.take j) ++ ((Tr.kid t.kids j).nodes ++ Tr.nodesL (t.kids.drop (j + 1)))) := by
            rw [Tr.nodes_kids]
            conv => lhs; rw [htd]
            rw [Tr.nodesL_append]; rfl
          have hLk : ∀ i, i < (Tr.kid t.kids j).size → L[(pre ++ xs).length + i]? = (Tr.kid t.kids j).nodes[i]? := fun i hi => by
            have h1 := HL.out (1 + Tr.sizeL (t.kids.take j) + i) (by rw [HSK.out]; omega)
            rw [List.length_append, HXL.out, Nat.add_assoc, Nat.add_assoc, ← Nat.add_assoc 1, h1, hnd, show 1 + Tr.sizeL (t.kids.take j) + i = (Tr.sizeL (t.kids.take j) + i) + 1 by omega, List.getElem?_cons_succ,
              List.getElem?_append_right (by rw [Tr.nodesL_len]; omega), Tr.nodesL_len, Nat.add_sub_cancel_left, List.getElem?_append_left (by rw [Tr.nodes_len _ _ (Nat.le_refl _)]; exact hi)]
          have hNk : (pre ++ xs).length + (Tr.kid t.kids j).size ≤ N := by
            rw [List.length_append, HXL.out]
            have := HN.out; rw [HSK.out] at this; omega
          obtain ⟨t', ht'⟩ : ∃ t', Tr.kid t.kids j = t' := ⟨_, rfl⟩
          rw [ht'] at hT' hs1 hsnoc hLk hNk
          have hwr : b0 < wr.heap.size := by have := HKK.out.size; omega
          have CK : Hid (∀ W', Below wr.heap.size wr W' → CallsIn Fence.wide (q - 1) Try.prog 110 #[.agg #[.int .i64 k2, .int .i64 n2, .slice a2 m2 c2], .func (.yield l) #[] #[]] W' (AllEnds b0 J Jx (pre ++ xs) t'.size W')) :=
            fun W' hb => IH.out (q - 1) t' k2 n2 a2 m2 c2 (pre ++ xs) W' hs1 (hT'.below hb) (Nat.lt_of_lt_of_le hwr hb.size) (abides_below HJ.out HJJ.out hb) hNk hLk
          have HSN := Lib.hid hsnoc
          clear hT' hsz hst hs1 hdr htd htake hsnoc hnd hLk hNk ht' hj2
          gi_wp2
          refine ⟨trivial, (fun h => by cases h), (CK.out _ ((Below.refl _ _).alloc (Nat.le_refl _) _)).mono ?_⟩
          rintro e W4 (⟨rfl, ys, hyl, hJ4, hk4⟩ | ⟨rfl, hJx4⟩)
          · have HY4 : Hid ((xs ++ ys).length = 1 + Tr.sizeL (t.kids.take (j + 1))) := by unfold Hid; rw [List.length_append, HXL.out, hyl, HSN.out]; omega
            have HJ4 : Hid (J (pre ++ (xs ++ ys)) W4) := by unfold Hid; rw [← List.append_assoc]; exact hJ4
            have HK4 : Hid (KeepsBut b0 wo W4) := (HKK.out.trans (KeepsBut.of_below ((Below.refl _ _).alloc (Nat.le_refl _) _))).trans hk4
            clear hyl hJ4 hk4
            gi_wp2
            go_roundw
            case rel => exact ⟨j + 1, xs ++ ys, by omega, by go_num, HY4.out, HJ4.out, HK4.out⟩
            case measure => simp [intOf]; omega
          · gi_wp2
            go_ret
            exact .inr ⟨rfl, hJx4⟩
        · have hjm : j = m := by omega
          have HY4 : Hid (xs.length = t.size) := by
            unfold Hid
            rw [HXL.out, HSK.out, List.take_of_length_le (by rw [← HT.out.em]; omega)]; omega
          gi_wp2
          go_ret
          exact .inl ⟨rfl, xs, HY4.out, HJJ.out, HK3.out.trans HKK.out⟩
    · gi_wp2
      go_ret
      exact .inr ⟨rfl, _, hJx3⟩
end Go.Proofs.Ytncikklhchimdaa
