/- The contracts and plain laws that the statements WmapPuts WmapMerges WmapNils need, part 2 of 5: SrtW TreeJ TreeS Bool0 SzA Pow SzB SzC FactL ValL FactA ValA ValB ValD TreeK TreeM ValE. -/
import Derived.Test.YtonffapiamhdbaaWmB1
namespace Go.Proofs.Ytonffapiamhdbaa
open Go.RowKit
set_option linter.unusedVariables false
set_option linter.unusedSimpArgs false
set_option maxRecDepth 100000
/-- An entry's five cells, and the tree that they read as. -/
structure Rec5 where
  x : Int
  y : Int
  k : Int
  n : Int
  a : Option Addr
  m : Nat
  c : Nat
  t : Tr
namespace Rec5
def val (r : Rec5) : Value := .agg #[.int .i64 r.x, .int .i64 r.y, .int .i64 r.k, .int .i64 r.n, .slice r.a r.m r.c]
def ent (r : Rec5) : Ent := ⟨r.x, r.y, r.t⟩
/-- Is one's key ahead of another one's? -/
def Lt (r s : Rec5) : Prop := r.x < s.x ∨ r.x = s.x ∧ r.y < s.y
instance (r s : Rec5) : Decidable (Lt r s) := by unfold Lt; infer_instance
end Rec5
/-- n entries lie in block g, from the place o on. -/
def SrtAt (w : World) (T : TypeId) (g o n : Nat) (f : Nat → Rec5) : Prop :=
  ∃ cs : Array Value, w.heap[g]? = some (.cells cs T (0, 0)) ∧ ∀ i, i < n → cs[o + i * 5]? = some (.int .i64 (f i).x) ∧ cs[o + i * 5 + 1]? = some (.int .i64 (f i).y) ∧ cs[o + i * 5 + 2]? = some (.int .i64 (f i).k) ∧ cs[o + i * 5 + 3]? = some (.int .i64 (f i).n) ∧ cs[o + i * 5 + 4]? = some (.slice (f i).a (f i).m (f i).c)
theorem SrtAt.at {w : World} {T : TypeId} {g o n : Nat} {f : Nat → Rec5} (h : SrtAt w T g o n f) (i : Nat) (hi : i < n) :
    w.cell? ⟨g, o + i * 5, none⟩ = some (.int .i64 (f i).x) ∧ w.cell? ⟨g, o + i * 5 + 1, none⟩ = some (.int .i64 (f i).y) ∧ w.cell? ⟨g, o + i * 5 + 2, none⟩ = some (.int .i64 (f i).k) ∧ w.cell? ⟨g, o + i * 5 + 3, none⟩ = some (.int .i64 (f i).n) ∧ w.cell? ⟨g, o + i * 5 + 4, none⟩ = some (.slice (f i).a (f i).m (f i).c) := by
  obtain ⟨cs, h1, h2⟩ := h
  obtain ⟨k0, k1, k2, k3, k4⟩ := h2 i hi
  exact ⟨(block_cell h1 _).trans k0, (block_cell h1 _).trans k1, (block_cell h1 _).trans k2, (block_cell h1 _).trans k3, (block_cell h1 _).trans k4⟩
theorem SrtAt.free {w : World} {T : TypeId} {g o n : Nat} {f : Nat → Rec5} (h : SrtAt w T g o n f) (i : Nat) : w.frozen? ⟨g, i, none⟩ = false := by
  obtain ⟨cs, h1, h2⟩ := h
  exact block_free h1 i
theorem SrtAt.lt {w : World} {T : TypeId} {g o n : Nat} {f : Nat → Rec5} (h : SrtAt w T g o n f) : g < w.heap.size := by
  obtain ⟨cs, h1, h2⟩ := h
  exact block_lt h1
theorem SrtAt.below {w w' : World} {T : TypeId} {g o n : Nat} {f : Nat → Rec5} (h : SrtAt w T g o n f) (hb : Below w.heap.size w w') : SrtAt w' T g o n f := by
  obtain ⟨cs, h1, h2⟩ := h
  exact ⟨cs, (hb.block _ (block_lt h1)).trans h1, h2⟩
theorem SrtAt.congr {w : World} {T : TypeId} {g o n : Nat} {f f' : Nat → Rec5} (h : SrtAt w T g o n f) (he : ∀ i, i < n → f' i = f i) : SrtAt w T g o n f' := by
  obtain ⟨cs, h1, h2⟩ := h
  exact ⟨cs, h1, fun i hi => by rw [he i hi]; exact h2 i hi⟩
/-- An entry is stored. -/
def set5 (w : World) (g p : Nat) (r : Rec5) : World := ((((w.setCell ⟨g, p, none⟩ (.int .i64 r.x)).setCell ⟨g, p + 1, none⟩ (.int .i64 r.y)).setCell ⟨g, p + 2, none⟩ (.int .i64 r.k)).setCell ⟨g, p + 3, none⟩ (.int .i64 r.n)).setCell ⟨g, p + 4, none⟩ (.slice r.a r.m r.c)
theorem grown_set {w w' : World} {g : Nat} (h : w.grownBy w' (some g)) (i : Nat) (v : Value) : w.grownBy (w'.setCell ⟨g, i, none⟩ v) (some g) :=
  ⟨h.os, h.tape, h.output, by rw [set_size]; exact h.size, fun k hk hne => (set_far _ _ _ _ (fun e => hne (by rw [e]))).trans (h.block k hk hne)⟩
theorem set5_grown (w : World) (g p : Nat) (r : Rec5) : w.grownBy (set5 w g p r) (some g) :=
  grown_set (grown_set (grown_set (grown_set (grown_set (World.grownBy.refl w (some g)) p _) (p + 1) _) (p + 2) _) (p + 3) _) (p + 4) _
theorem SrtAt.set {w : World} {T : TypeId} {g o n : Nat} {f : Nat → Rec5} (h : SrtAt w T g o n f) (i : Nat) (hi : i < n) (r : Rec5) : SrtAt (set5 w g (o + i * 5) r) T g o n (fun x => if x = i then r else f x) := by
  obtain ⟨cs, h1, h2⟩ := h
  obtain ⟨k0, k1, k2, k3, k4⟩ := h2 i hi
  have hs : o + i * 5 + 4 < cs.size := (Array.getElem?_eq_some_iff.1 k4).1
  refine ⟨_, block_set (block_set (block_set (block_set (block_set h1 (o + i * 5) (.int .i64 r.x)) (o + i * 5 + 1) (.int .i64 r.y)) (o + i * 5 + 2) (.int .i64 r.k)) (o + i * 5 + 3) (.int .i64 r.n)) (o + i * 5 + 4) (.slice r.a r.m r.c), fun x hx => ?_⟩
  by_cases hxi : x = i
  · subst hxi
    dsimp only
    rw [if_pos rfl]
    refine ⟨?_, ?_, ?_, ?_, ?_⟩ <;> simp only [Array.getElem?_setIfInBounds, Array.size_setIfInBounds] <;> (repeat rw [if_neg (by omega)]) <;> simp <;> omega
  · dsimp only
    rw [if_neg hxi]
    obtain ⟨q0, q1, q2, q3, q4⟩ := h2 x hx
    refine ⟨?_, ?_, ?_, ?_, ?_⟩ <;> simp only [Array.getElem?_setIfInBounds, Array.size_setIfInBounds] <;> (repeat rw [if_neg (by omega)]) <;> assumption
/-- Two entries change places. -/
theorem SrtAt.swap {w : World} {T : TypeId} {g o n : Nat} {f : Nat → Rec5} (h : SrtAt w T g o n f) (i j : Nat) (hi : i < n) (hj : j < n) : SrtAt (set5 (set5 w g (o + i * 5) (f j)) g (o + j * 5) (f i)) T g o n (swapF f i j) := by
  refine ((h.set i hi (f j)).set j hj (f i)).congr fun x hx => ?_
  unfold swapF
  by_cases h1 : x = i
  · subst h1
    rw [if_pos rfl]
    by_cases h2 : x = j
    · rw [if_pos h2, h2]
    · rw [if_neg h2, if_pos rfl]
  · rw [if_neg h1]
    by_cases h2 : x = j
    · rw [if_pos h2, if_pos h2]
    · rw [if_neg h2, if_neg h2, if_neg h1]
end Go.Proofs.Ytonffapiamhdbaa

namespace Go.Proofs.Ytonffapiamhdbaa
open Go.RowKit Go.Shelf
set_option linter.unusedVariables false
set_option linter.unusedSimpArgs false
set_option maxRecDepth 100000
attribute [local go_sem] Oper.semAt_some
/-- All cells but those of the block b0 are as they were. -/
structure KeepsBut (b0 : Nat) (A B : World) : Prop where
  size : A.heap.size ≤ B.heap.size
  cell : ∀ (a : Addr) (v : Value), a.block ≠ b0 → A.cell? a = some v → B.cell? a = some v
theorem KeepsBut.refl (b0 : Nat) (A : World) : KeepsBut b0 A A := ⟨Nat.le_refl _, fun _ _ _ h => h⟩
theorem KeepsBut.trans {b0 : Nat} {A B C : World} (h : KeepsBut b0 A B) (k : KeepsBut b0 B C) : KeepsBut b0 A C := ⟨Nat.le_trans h.size k.size, fun a v hb hv => k.cell a v hb (h.cell a v hb hv)⟩
theorem KeepsBut.of_below {b0 : Nat} {A B : World} (h : Below A.heap.size A B) : KeepsBut b0 A B := ⟨h.size, fun a v _ hv => (h.cell (World.block_lt_of_cell? A a hv)).trans hv⟩
theorem KeepsBut.putObj {b0 : Nat} (W : World) (l : Nat) (o o' : Obj) (h : W.heap[l]? = some o) (hc : o.isCells = false) : KeepsBut b0 W (W.putObj l o') :=
  ⟨(grownBy_putObj' W l o').size, fun a v _ hv => by
    refine (World.cell?_of_block ((grownBy_putObj' W l o').block a.block (World.block_lt_of_cell? W a hv) ?_)).trans hv
    intro e
    cases e
    rw [show W.cell? a = none from ?_] at hv
    · cases hv
    · unfold World.cell?
      rw [h]
      cases o <;> simp_all [Obj.isCells]⟩
theorem KeepsBut.setCell {b0 : Nat} (W : World) (o : Nat) (v : Value) : KeepsBut b0 W (W.setCell ⟨b0, o, none⟩ v) :=
  ⟨by simp, fun a u hb hu => (World.cell?_of_block (set_far W _ v a.block hb)).trans hu⟩
theorem Kids.stayC {w w' : World} {F : Nat → Prop} {a : Option Addr} {cap : Nat} {ks : List Tr} (h : Kids w F a cap ks) (hs : ∀ (a : Addr) v, F a.block → w.cell? a = some v → w'.cell? a = some v) : Kids w' F a cap ks := by
  induction h with
  | nil => exact .nil
  | empty a cap => exact .empty a cap
  | row b off cap ks A C hpos hl hF h0 h1 h2 _ ih =>
    exact .row b off cap ks A C hpos hl hF (fun i hi => hs _ _ hF (h0 i hi)) (fun i hi => hs _ _ hF (h1 i hi)) (fun i hi => hs _ _ hF (h2 i hi)) ih
theorem IsT.keeps {w w' : World} {b0 : Nat} {k n : Int} {a : Option Addr} {m cap : Nat} {t : Tr} (h : IsT w (fun b => b ≠ b0) k n a m cap t) (hk : KeepsBut b0 w w') : IsT w' (fun b => b ≠ b0) k n a m cap t :=
  ⟨h.ek, h.en, h.em, h.ok, h.kids.stayC fun a v hb hv => hk.cell a v hb hv⟩
theorem abides_below {β : Type} {B : Nat} {J : β → World → Prop} {s : β} {W W' : World} (h : AbidesFrom B J) (hs : J s W) (hb : Below W.heap.size W W') : J s W' :=
  h s W W' none hs ⟨hb.os, hb.tape, hb.output, hb.size, fun k hk _ => hb.block k hk⟩ (fun r e => by cases e)
/-- The value x reads as the tree that comes behind pre in L. -/
def NextT (b0 : Nat) (L : List Tr) (pre : List Value) (x : Value) (W : World) : Prop :=
  ∃ k n a m c t, x = .agg #[.int .i64 k, .int .i64 n, .slice a m c] ∧ IsT W (fun b => b ≠ b0) k n a m c t ∧ L[pre.length]? = some t
/-- How the iterator may be left. -/
def AllEnds (b0 : Nat) (J Jx : List Value → World → Prop) (pre : List Value) (s : Nat) (W : World) (e : Ending) (W' : World) : Prop :=
  (e = .returned (.bool true) ∧ ∃ xs, xs.length = s ∧ J (pre ++ xs) W' ∧ KeepsBut b0 W W') ∨ (e = .returned (.bool false) ∧ ∃ pre', Jx pre' W')
set_option maxRecDepth 100000 in
set_option maxHeartbeats 4000000 in
theorem all_in (b0 B N l : Nat) (L : List Tr) (J Jx : List Value → World → Prop) (hJ : AbidesFrom B J)
    (hY : ∀ pre x W, J pre W → pre.length < N → NextT b0 L pre x W → YieldAt Fence.wide 0 Try.prog l #[x] W fun e W' => (e = .returned (.bool true) ∧ J (pre ++ [x]) W' ∧ KeepsBut b0 W W') ∨ (e = .returned (.bool false) ∧ Jx (pre ++ [x]) W'))
    (K : Nat) (hK : K ≤ 4194304) : ∀ (q : Nat) (t : Tr) (k n : Int) (a : Option Addr) (m cap : Nat) (pre : List Value) (W : World), t.size ≤ K → IsT W (fun b => b ≠ b0) k n a m cap t → b0 < W.heap.size → J pre W → pre.length + t.size ≤ N → (∀ i, i < t.size → L[pre.length + i]? = t.nodes[i]?) →
    CallsIn Fence.wide q Try.prog 59 #[.agg #[.int .i64 k, .int .i64 n, .slice a m cap], .func (.yield l) #[] #[]] W (AllEnds b0 J Jx pre t.size W) := by
  have HJ := Lib.hid hJ
  have HYY := Lib.hid hY
  clear hJ hY
  induction K with
  | zero => intro q t k n a m cap pre W h; have := Tr.size_pos t; omega
  | succ K ih =>
    intro q t k n a m cap pre W hs hT hb0 hJ0 hN hL
    have IH := Lib.hid (ih (by omega))
    have hm : m ≤ K := by
      have := Tr.len_le_sizeL t.kids
      rw [Tr.size_kids] at hs
      rw [hT.em]; omega
    have HS := Lib.hid hs
    have HT := Lib.hid hT
    have HL := Lib.hid hL
    have HN := Lib.hid hN
    have HJ0 := Lib.hid hJ0
    have HSK := Lib.hid (Tr.size_kids t)
    have CC : Hid (∀ W', Below W.heap.size W W' → Calls Try.prog 26 #[.agg #[.int .i64 k, .int .i64 n, .slice a m cap]] W' (GivesS t W')) := fun W' hb => desc_Clone 4194304 (by omega) t k n a m cap W' _ (by have := HS.out; omega) (HT.out.below hb)
    clear ih hs hT hL hN hJ0
    refine callsIn_of_wp Try.func59 rfl trivial ?_ rfl
    simp only [Try.ntmps59, List.size_toArray, List.length_cons, List.length_nil, Nat.reduceAdd, Nat.reduceSub, Array.replicate_succ, Array.replicate_zero, List.push_toArray, List.append_toArray, List.nil_append, List.cons_append]
    gi_wp2
    refine ⟨trivial, (fun h => by cases h), (callsIn_wide.2 (CC.out _ ((Below.refl _ _).alloc (Nat.le_refl _) _))).mono ?_⟩
    rintro e w1 ⟨k1, n1, a1, m1, c1, rfl, hS1, hb1⟩
    have hbl : Below W.heap.size W w1 := chainA (Below.refl _ _) hb1
    have hbs := hbl.size
    have hsz1 : W.heap.size < w1.heap.size := by have := hb1.size; simp at this; omega
    have hbx : w1.heap[W.heap.size]? = some (.cells #[.int .i64 k, .int .i64 n, .slice a m cap] 34 (0, 0)) := (hb1.block _ (by simp)).trans (block_new rfl)
    have HT1 : Hid (IsT w1 (fun b => b ≠ b0) k n a m cap t) := HT.out.below hbl
    have hnx : NextT b0 L pre (.agg #[.int .i64 k1, .int .i64 n1, .slice a1 m1 c1]) w1 := by
      refine ⟨k1, n1, a1, m1, c1, t, rfl, hS1.tree.mono fun b hb => ?_, ?_⟩
      · have h1 : W.heap.size + 1 ≤ b := by have := hb.1; simpa using this
        omega
      · have := HL.out 0 (Tr.size_pos t)
        rw [Nat.add_zero] at this
        rw [this, Tr.nodes_kids]; rfl
    obtain ⟨fn, tmps, assign, body, hy, hR⟩ := HYY.out pre _ w1 (abides_below HJ.out HJ0.out hbl) (by have := HN.out; have := Tr.size_pos t; omega) hnx
    have HR := Lib.hid hR
    have HBX := Lib.hid hbx
    have HBL := Lib.hid hbl
    clear hnx hS1 hb1 hR hbx hbl
    gi_wp2
    refine ⟨(fun h => by cases h), RoundIn.mono ⟨HR.out.1, fun c cs _ => HR.out.2 c cs (room_wide _)⟩ ?_⟩
    rintro e W3 (⟨rfl, hJ3, hk3⟩ | ⟨rfl, hJx3⟩)
    · have hbn : W.heap.size ≠ b0 := by omega
      have hbox := hk3.cell ⟨W.heap.size, 2, none⟩ (.slice a m cap) hbn (block_cell HBX.out 2)
      have HT3 : Hid (IsT W3 (fun b => b ≠ b0) k n a m cap t) := HT1.out.keeps hk3
      have hK3 : KeepsBut b0 W W3 := (KeepsBut.of_below HBL.out).trans hk3
      have hW3 : b0 < W3.heap.size := by have := hK3.size; omega
      have HK3 := Lib.hid hK3
      have HJ3 := Lib.hid hJ3
      have hlx := Tr.nodesL_len t.kids
      clear hk3 hJ3 hK3 hlx
      gi_wp2
      obtain ⟨wo, hwo⟩ : ∃ wo : World, wo = W3 := ⟨_, rfl⟩
      subst hwo
      gi_loopw [15] (fun v wr => ∃ (j : Nat) (xs : List Value), j ≤ m ∧ v = .int .i64 j ∧ Hid (xs.length = 1 + Tr.sizeL (t.kids.take j)) ∧ Hid (J (pre ++ xs) wr) ∧ Hid (KeepsBut b0 wo wr)) (fun v _ => m - (intOf v).toNat)
      case atStart => exact ⟨0, [.agg #[.int .i64 k1, .int .i64 n1, .slice a1 m1 c1]], Nat.zero_le _, rfl, by simp [Hid, Tr.sizeL], HJ3.out, KeepsBut.refl _ _⟩
      case round =>
        obtain ⟨j, xs, hj, rfl, HXL, HJJ, HKK⟩ := hrel
        by_cases hlt : j < m
        · obtain ⟨b, off, k2, n2, a2, m2, c2, rfl, hF, hbl, g0, g1, g2, hT'⟩ := (HT3.out.keeps HKK.out).kid j hlt
          have hj2 : j < t.kids.length := by rw [← HT.out.em]; exact hlt
          have hsz := Tr.size_kid t j hj2
          have hst := Tr.take_kid hj2
          have hs1 : (Tr.kid t.kids j).size ≤ K := by have := HS.out; omega
          have hdr := Tr.drop_kid hj2
          have htd : t.kids = t.kids.take j ++ (Tr.kid t.kids j :: t.kids.drop (j + 1)) := by rw [← hdr, List.take_append_drop]
          have htake : Tr.sizeL (t.kids.take (j + 1)) ≤ Tr.sizeL t.kids := Tr.sizeL_take _ _
          have hsnoc : Tr.sizeL (t.kids.take (j + 1)) = Tr.sizeL (t.kids.take j) + (Tr.kid t.kids j).size := by rw [hst, Tr.sizeL_append]; simp [Tr.sizeL]
          have hnd : t.nodes = t :: (Tr.nodesL (t.kids.take j) ++ ((Tr.kid t.kids j).nodes ++ Tr.nodesL (t.kids.drop (j + 1)))) := by
            rw [Tr.nodes_kids]
            conv => lhs; rw [htd]
            rw [Tr.nodesL_append]; rfl
          have hLk : ∀ i, i < (Tr.kid t.kids j).size → L[(pre ++ xs).length + i]? = (Tr.kid t.kids j).nodes[i]? := fun i hi => by
            have h1 := HL.out (1 + Tr.sizeL (t.kids.take j) + i) (by rw [HSK.out]; omega)
            rw [List.length_append, HXL.out, Nat.add_assoc, Nat.add_assoc, ← Nat.add_assoc 1, h1, hnd, show 1 + Tr.sizeL (t.kids.take j) + i = (Tr.sizeL (t.kids.take j) + i) + 1 by omega, List.getElem?_cons_succ,
              List.getElem?_append_right (by rw [Tr.nodesL_len]; omega), Tr.nodesL_len, Nat.add_sub_cancel_left, List.getElem?_append_left (by rw [Tr.nodes_len _ _ (Nat.le_refl _)]; exact hi)]
          have hNk : (pre ++ xs).length + (Tr.kid t.kids j).size ≤ N := by
            rw [List.length_append, HXL.out]
            have := HN.out; rw [HSK.out] at this; omega
          obtain ⟨t', ht'⟩ : ∃ t', Tr.kid t.kids j = t' := ⟨_, rfl⟩
          rw [ht'] at hT' hs1 hsnoc hLk hNk
          have hwr : b0 < wr.heap.size := by have := HKK.out.size; omega
          have CK : Hid (∀ W', Below wr.heap.size wr W' → CallsIn Fence.wide (q - 1) Try.prog 59 #[.agg #[.int .i64 k2, .int .i64 n2, .slice a2 m2 c2], .func (.yield l) #[] #[]] W' (AllEnds b0 J Jx (pre ++ xs) t'.size W')) :=
            fun W' hb => IH.out (q - 1) t' k2 n2 a2 m2 c2 (pre ++ xs) W' hs1 (hT'.below hb) (Nat.lt_of_lt_of_le hwr hb.size) (abides_below HJ.out HJJ.out hb) hNk hLk
          have HSN := Lib.hid hsnoc
          clear hT' hsz hst hs1 hdr htd htake hsnoc hnd hLk hNk ht' hj2
          gi_wp2
          refine ⟨trivial, (fun h => by cases h), (CK.out _ ((Below.refl _ _).alloc (Nat.le_refl _) _)).mono ?_⟩
          rintro e W4 (⟨rfl, ys, hyl, hJ4, hk4⟩ | ⟨rfl, hJx4⟩)
          · have HY4 : Hid ((xs ++ ys).length = 1 + Tr.sizeL (t.kids.take (j + 1))) := by unfold Hid; rw [List.length_append, HXL.out, hyl, HSN.out]; omega
            have HJ4 : Hid (J (pre ++ (xs ++ ys)) W4) := by unfold Hid; rw [← List.append_assoc]; exact hJ4
            have HK4 : Hid (KeepsBut b0 wo W4) := (HKK.out.trans (KeepsBut.of_below ((Below.refl _ _).alloc (Nat.le_refl _) _))).trans hk4
            clear hyl hJ4 hk4
            gi_wp2
            go_roundw
            case rel => exact ⟨j + 1, xs ++ ys, by omega, by go_num, HY4.out, HJ4.out, HK4.out⟩
            case measure => simp [intOf]; omega
          · gi_wp2
            go_ret
            exact .inr ⟨rfl, hJx4⟩
        · have hjm : j = m := by omega
          have HY4 : Hid (xs.length = t.size) := by
            unfold Hid
            rw [HXL.out, HSK.out, List.take_of_length_le (by rw [← HT.out.em]; omega)]; omega
          gi_wp2
          go_ret
          exact .inl ⟨rfl, xs, HY4.out, HJJ.out, HK3.out.trans HKK.out⟩
    · gi_wp2
      go_ret
      exact .inr ⟨rfl, _, hJx3⟩
end Go.Proofs.Ytonffapiamhdbaa

namespace Go.Proofs.Ytonffapiamhdbaa
open Go.RowKit
set_option linter.unusedVariables false
set_option linter.unusedSimpArgs false
set_option maxRecDepth 100000
namespace Tr
/-- Another kid at a place. -/
def setKid (t : Tr) (i : Nat) (u : Tr) : Tr := node t.kind t.num (t.kids.set i u)
/-- Another node at a place. -/
def put (t : Tr) : List Int → Tr → Tr
  | [], u => u
  | i :: p, u => setKid t i.toNat (put (kid t.kids i.toNat) p u)
theorem kid_set (ks : List Tr) (i j : Nat) (u : Tr) (hi : i < ks.length) : kid (ks.set i u) j = if j = i then u else kid ks j := by
  unfold kid
  by_cases h : j = i
  · subst h; rw [if_pos rfl]; simp [hi]
  · rw [if_neg h]; simp [List.getD, List.getElem?_set_ne (Ne.symm h)]
theorem put_snoc {t s : Tr} : ∀ {q : List Int} (i : Int) (u : Tr), at? t q = some s → put t (q ++ [i]) u = put t q (setKid s i.toNat u) := by
  intro q
  induction q generalizing t with
  | nil => intro i u h; unfold at? at h; cases h; rfl
  | cons j q ih =>
    intro i u h
    obtain ⟨h0, h1, h2⟩ := at_yes h
    show setKid t j.toNat (put (kid t.kids j.toNat) (q ++ [i]) u) = setKid t j.toNat (put (kid t.kids j.toNat) q (setKid s i.toNat u))
    rw [ih i u h2]
theorem at_snoc {t s : Tr} : ∀ {q : List Int} (i : Nat), at? t q = some s → i < s.kids.length → at? t (q ++ [(i : Int)]) = some (kid s.kids i) := by
  intro q
  induction q generalizing t with
  | nil =>
    intro i h hi
    unfold at? at h; cases h
    show at? s [(i : Int)] = _
    rw [at_in (by omega) (by omega)]
    simp [at?]
  | cons j q ih =>
    intro i h hi
    obtain ⟨h0, h1, h2⟩ := at_yes h
    show at? t (j :: (q ++ [(i : Int)])) = _
    rw [at_in h0 h1]
    exact ih i h2 hi
theorem okL_set {ks : List Tr} (h : OkL ks) (i : Nat) {u : Tr} (hu : u.Ok) : OkL (ks.set i u) :=
  okL_of fun t ht => by
    rcases List.mem_or_eq_of_mem_set ht with h1 | rfl
    · exact ok_mem h1 h
    · exact hu
theorem setKid_ok {t u : Tr} (h : t.Ok) (i : Nat) (hu : u.Ok) : (setKid t i u).Ok := by
  unfold setKid
  simp only [Ok]
  exact ⟨ok_kind h, ok_num h, okL_set (ok_kids h) i hu⟩
end Tr
/-- The three cells at a place read as a tree; what is below lies in Z. -/
def Slot (Z : Nat → Prop) (w : World) (b o : Nat) (t : Tr) : Prop :=
  ∃ k n a m c, w.cell? ⟨b, o, none⟩ = some (.int .i64 k) ∧ w.cell? ⟨b, o + 1, none⟩ = some (.int .i64 n) ∧ w.cell? ⟨b, o + 2, none⟩ = some (.slice a m c) ∧ IsT w Z k n a m c t
/-- Cells stay, but for the blocks in F and the three cells at the place. -/
def KeepsHole (F : Nat → Prop) (b o : Nat) (w w' : World) : Prop :=
  ∀ (x y : Nat) (v : Value), ¬ F x → ¬ (x = b ∧ o ≤ y ∧ y < o + 3) → w.cell? ⟨x, y, none⟩ = some v → w'.cell? ⟨x, y, none⟩ = some v
/-- Whatever is put at the place (b', o'), the root reads as with that node at the path q. -/
def Ctx (Z : Nat → Prop) (w : World) (b o : Nat) (t : Tr) (q : List Int) (F' : Nat → Prop) (b' o' : Nat) : Prop :=
  ∀ (w' : World) (u : Tr), KeepsHole F' b' o' w w' → Slot Z w' b' o' u → Slot Z w' b o (t.put q u)
theorem Kids.stayS {w w' : World} {F : Nat → Prop} {a : Option Addr} {cap : Nat} {ks : List Tr} (h : Kids w F a cap ks) (hs : ∀ x y v, F x → w.cell? ⟨x, y, none⟩ = some v → w'.cell? ⟨x, y, none⟩ = some v) : Kids w' F a cap ks := by
  induction h with
  | nil => exact .nil
  | empty a cap => exact .empty a cap
  | row b off cap ks A C hpos hl hF h0 h1 h2 _ ih =>
    exact .row b off cap ks A C hpos hl hF (fun i hi => hs _ _ _ hF (h0 i hi)) (fun i hi => hs _ _ _ hF (h1 i hi)) (fun i hi => hs _ _ _ hF (h2 i hi)) ih
/-- One step down: the i-th kid of the node at the place. -/
theorem Ctx.step {Z : Nat → Prop} {w : World} {b o : Nat} {t s : Tr} {q : List Int} {F' : Nat → Prop} {b' o' : Nat} {k n : Int} {a : Option Addr} {m c : Nat} (h : Ctx Z w b o t q F' b' o') (hat : Tr.at? t q = some s) (hS : IsS w F' k n a m c s) (hb' : ¬ F' b') (hZ : ∀ x, F' x → Z x)
    (c0 : w.cell? ⟨b', o', none⟩ = some (.int .i64 k)) (c1 : w.cell? ⟨b', o' + 1, none⟩ = some (.int .i64 n)) (c2 : w.cell? ⟨b', o' + 2, none⟩ = some (.slice a m c)) (i : Nat) (hi : i < m) :
    ∃ g k2 n2 a2 m2 c2 G, a = some ⟨g, 0, none⟩ ∧ F' g ∧ (∀ o, w.frozen? ⟨g, o, none⟩ = false) ∧ w.cell? ⟨g, i * 3, none⟩ = some (.int .i64 k2) ∧ w.cell? ⟨g, i * 3 + 1, none⟩ = some (.int .i64 n2) ∧ w.cell? ⟨g, i * 3 + 2, none⟩ = some (.slice a2 m2 c2) ∧
      IsS w G k2 n2 a2 m2 c2 (Tr.kid s.kids i) ∧ ¬ G g ∧ (∀ x, G x → F' x) ∧ Ctx Z w b o t (q ++ [(i : Int)]) G g (i * 3) ∧ Tr.at? t (q ++ [(i : Int)]) = some (Tr.kid s.kids i) := by
  have hi' := hi
  rw [hS.em] at hi'
  obtain ⟨ek, en, em, hok, hsep⟩ := hS
  cases s with
  | node ks' kn kk =>
    simp only [Tr.kids, Tr.kind, Tr.num] at ek en em hi' hsep ⊢
    cases hsep with
    | nil => simp at hi'
    | empty => simp at hi'
    | row _ g cap _ A C G hpos hl hF hG hd hfz h0 h1 h2 hk =>
      have hokk := Tr.ok_mem (Tr.kid_mem hi') (Tr.ok_kids hok)
      refine ⟨g, _, _, _, _, _, G i, rfl, hF, hfz, h0 i hi', h1 i hi', h2 i hi', ⟨rfl, rfl, rfl, hokk, hk i hi'⟩, fun hg => (hG i g hi' hg).2 rfl, fun x hx => (hG i x hi' hx).1, ?_, Tr.at_snoc i hat hi'⟩
      intro w' u hkeep hslot
      have hne : b' ≠ g := fun e => hb' (e ▸ hF)
      rw [Tr.put_snoc (i : Int) u hat, Int.toNat_natCast]
      obtain ⟨ku, nu, au, mu, cu, u0, u1, u2, hU⟩ := hslot
      refine h w' _ (fun x y v hx hxy hv => hkeep x y v (fun hg => hx (hG i x hi' hg).1) (fun hh => hx (hh.1 ▸ hF)) hv) ⟨k, n, some ⟨g, 0, none⟩, m, c, ?_, ?_, ?_, ?_⟩
      · exact hkeep _ _ _ (fun hg => hb' (hG i b' hi' hg).1) (fun hh => hne hh.1) c0
      · exact hkeep _ _ _ (fun hg => hb' (hG i b' hi' hg).1) (fun hh => hne hh.1) c1
      · exact hkeep _ _ _ (fun hg => hb' (hG i b' hi' hg).1) (fun hh => hne hh.1) c2
      · refine ⟨ek, en, ?_, Tr.setKid_ok hok i hU.ok, ?_⟩
        · rw [em]; simp [Tr.setKid, Tr.kids]
        · show Kids w' _ (some ⟨g, 0, none⟩) c (kk.set i u)
          have hln : (kk.set i u).length = kk.length := List.length_set
          refine .row g 0 c _ (fun j => if j = i then au else A j) (fun j => if j = i then cu else C j) (by rw [hln]; exact hpos) (by rw [hln]; exact hl) (hZ g hF) (fun j hj => ?_) (fun j hj => ?_) (fun j hj => ?_) (fun j hj => ?_)
          all_goals rw [hln] at hj
          all_goals rw [Tr.kid_set kk i j u hi']
          all_goals by_cases hji : j = i
          · subst hji; rw [if_pos rfl, Nat.zero_add, ← hU.ek]; exact u0
          · rw [if_neg hji, Nat.zero_add]; exact hkeep _ _ _ (fun hg => (hG i g hi' hg).2 rfl) (fun hh => by omega) (h0 j hj)
          · subst hji; rw [if_pos rfl, Nat.zero_add, ← hU.en]; exact u1
          · rw [if_neg hji, Nat.zero_add]; exact hkeep _ _ _ (fun hg => (hG i g hi' hg).2 rfl) (fun hh => by omega) (h1 j hj)
          · subst hji; simp only [if_true]; rw [Nat.zero_add, ← hU.em]; exact u2
          · simp only [if_neg hji]; rw [Nat.zero_add]; exact hkeep _ _ _ (fun hg => (hG i g hi' hg).2 rfl) (fun hh => by omega) (h2 j hj)
          · subst hji; simp only [if_true]; exact hU.kids
          · simp only [if_neg hji]
            exact ((hk j hj).kids.stayS fun x y v hx hv => hkeep x y v (fun hg => hji (hd j i x hj hi' hx hg)) (fun hh => (hG j x hj hx).2 hh.1) hv).mono fun x hx => hZ x (hG j x hj hx).1
end Go.Proofs.Ytonffapiamhdbaa

namespace Go.Proofs.Ytonffapiamhdbaa
open Go.RowKit
set_option linter.unusedVariables false
set_option linter.unusedSimpArgs false
set_option maxRecDepth 100000
theorem btrue {a b : Int} (h : a = b) : (a == b) = true := by simp [h]
theorem bno {a b : Int} (h : a ≠ b) : (a == b) = false := by simp [h]
theorem bfalse {a b : Int} (h : a = b) : (a != b) = false := by simp [h]
theorem bdiff {a b : Int} (h : a ≠ b) : (a != b) = true := by simp [h]
theorem bfalse' {a b : Int} (h : a = b) : (a != b) = false := by simp [h]
end Go.Proofs.Ytonffapiamhdbaa

namespace Go.Proofs.Ytonffapiamhdbaa
open Go.RowKit
set_option linter.unusedVariables false
set_option linter.unusedSimpArgs false
set_option maxRecDepth 100000
/-- Is n a size? -/
def hasSz (n : Int) : Bool := decide (1 ≤ n ∧ n ≤ 16777216 ∧ 18446744069414584320 % n = 0)
theorem hasSz_iff {n : Int} : hasSz n = true ↔ 1 ≤ n ∧ n ≤ 16777216 ∧ 18446744069414584320 % n = 0 := by simp [hasSz]
theorem rootHas_yes (n : Int) (w : World) (h : hasSz n = true) :
    Calls Try.prog 37 #[.int .i64 n] w fun e w' => e = .returned (.bool true) ∧ w = w' := by
  obtain ⟨h1, h2, h3⟩ := hasSz_iff.1 h
  have hz : (18446744069414584320 % n == 0) = true := btrue h3
  have h0 : (n == 0) = false := bno (by omega)
  clear h h3
  go_enter Try.func37, Try.ntmps37
  go_wp2_with fail
  go_ret
  exact ⟨rfl, rfl⟩
theorem rootHas_no (n : Int) (w : World) (h : hasSz n = false) (hn : -9223372036854775808 ≤ n ∧ n < 9223372036854775808) :
    Calls Try.prog 37 #[.int .i64 n] w fun e w' => e = .returned (.bool false) ∧ w = w' := by
  have hd : n < 1 ∨ (1 ≤ n ∧ 16777216 < n) ∨ (1 ≤ n ∧ n ≤ 16777216 ∧ 18446744069414584320 % n ≠ 0) := by
    have h' : ¬ (1 ≤ n ∧ n ≤ 16777216 ∧ 18446744069414584320 % n = 0) := by intro e; rw [hasSz_iff.2 e] at h; cases h
    by_cases a : 1 ≤ n
    · by_cases b : n ≤ 16777216
      · exact .inr (.inr ⟨a, b, fun e => h' ⟨a, b, e⟩⟩)
      · exact .inr (.inl ⟨a, by omega⟩)
    · exact .inl (by omega)
  clear h
  rcases hd with h1 | ⟨h1, h2⟩ | ⟨h1, h2, h3⟩
  · go_enter Try.func37, Try.ntmps37
    go_wp2_with fail
    go_ret
    exact ⟨rfl, rfl⟩
  · go_enter Try.func37, Try.ntmps37
    go_wp2_with fail
    go_ret
    exact ⟨rfl, rfl⟩
  · have hz : (18446744069414584320 % n == 0) = false := bno h3
    have h0 : (n == 0) = false := bno (by omega)
    clear h3
    go_enter Try.func37, Try.ntmps37
    go_wp2_with fail
    go_ret
    exact ⟨rfl, rfl⟩
theorem refHas_yes (n : Int) (w : World) (h : hasSz n = true) :
    Calls Try.prog 33 #[.int .i64 n] w fun e w' => e = .returned (.bool true) ∧ w = w' := by
  obtain ⟨h1, h2, h3⟩ := hasSz_iff.1 h
  have hz : (18446744069414584320 % n == 0) = true := btrue h3
  have h0 : (n == 0) = false := bno (by omega)
  clear h h3
  go_enter Try.func33, Try.ntmps33
  go_wp2_with fail
  go_ret
  exact ⟨rfl, rfl⟩
theorem refHas_no (n : Int) (w : World) (h : hasSz n = false) (hn : -9223372036854775808 ≤ n ∧ n < 9223372036854775808) :
    Calls Try.prog 33 #[.int .i64 n] w fun e w' => e = .returned (.bool false) ∧ w = w' := by
  have hd : n < 1 ∨ (1 ≤ n ∧ 16777216 < n) ∨ (1 ≤ n ∧ n ≤ 16777216 ∧ 18446744069414584320 % n ≠ 0) := by
    have h' : ¬ (1 ≤ n ∧ n ≤ 16777216 ∧ 18446744069414584320 % n = 0) := by intro e; rw [hasSz_iff.2 e] at h; cases h
    by_cases a : 1 ≤ n
    · by_cases b : n ≤ 16777216
      · exact .inr (.inr ⟨a, b, fun e => h' ⟨a, b, e⟩⟩)
      · exact .inr (.inl ⟨a, by omega⟩)
    · exact .inl (by omega)
  clear h
  rcases hd with h1 | ⟨h1, h2⟩ | ⟨h1, h2, h3⟩
  · go_enter Try.func33, Try.ntmps33
    go_wp2_with fail
    go_ret
    exact ⟨rfl, rfl⟩
  · go_enter Try.func33, Try.ntmps33
    go_wp2_with fail
    go_ret
    exact ⟨rfl, rfl⟩
  · have hz : (18446744069414584320 % n == 0) = false := bno h3
    have h0 : (n == 0) = false := bno (by omega)
    clear h3
    go_enter Try.func33, Try.ntmps33
    go_wp2_with fail
    go_ret
    exact ⟨rfl, rfl⟩
end Go.Proofs.Ytonffapiamhdbaa

namespace Go.Proofs.Ytonffapiamhdbaa
open Go.RowKit
set_option linter.unusedVariables false
set_option linter.unusedSimpArgs false
set_option maxRecDepth 100000
theorem bits_and_nat (a b : Nat) (ha : a < 9223372036854775808) (hb : b < 9223372036854775808) : bits .and .i64 (a : Int) (b : Int) = ((a &&& b : Nat) : Int) := by
  have h : a &&& b ≤ a := Nat.and_le_left
  show IntKind.i64.wrap (((BitVec.ofInt 64 (a : Int)) &&& (BitVec.ofInt 64 (b : Int))).toNat : Int) = _
  rw [BitVec.ofInt_natCast, BitVec.ofInt_natCast, BitVec.toNat_and, BitVec.toNat_ofNat, BitVec.toNat_ofNat, Nat.mod_eq_of_lt (by omega), Nat.mod_eq_of_lt (by omega)]
  exact IntWalk.i64_in _ (by omega)
/-- Is it a power of two? -/
def isP2 (n : Int) : Bool := decide (0 < n) && decide (n.toNat &&& (n.toNat - 1) = 0)
theorem isP2_nat (n : Nat) : isP2 n = (decide (0 < n) && decide (n &&& (n - 1) = 0)) := by unfold isP2; simp
theorem isP2_iff (n : Nat) : isP2 n = true ↔ ∃ k, n = 2 ^ k := by
  rw [isP2_nat]
  by_cases h : n = 0
  · subst h
    simp only [Nat.lt_irrefl, decide_false, Bool.false_and, Bool.false_eq_true, false_iff]
    rintro ⟨k, hk⟩
    have : 0 < 2 ^ k := Nat.pow_pos (by omega)
    omega
  · rw [show decide (0 < n) = true by simp; omega, Bool.true_and, decide_eq_true_eq]
    exact Nat.and_sub_one_eq_zero_iff_isPowerOfTwo h
theorem isP2_neg (n : Int) (h : n ≤ 0) : isP2 n = false := by unfold isP2; rw [show decide (0 < n) = false by simp; omega]; rfl
theorem isP2_one : isP2 1 = true := by decide
theorem isP2_half (n : Nat) (h : 0 < n) : isP2 ((2 * n : Nat) : Int) = isP2 n := by
  rw [Bool.eq_iff_iff, isP2_iff, isP2_iff]
  constructor
  · rintro ⟨k, hk⟩
    cases k with
    | zero => rw [Nat.pow_zero] at hk; omega
    | succ k => exact ⟨k, by rw [Nat.pow_succ] at hk; omega⟩
  · rintro ⟨k, hk⟩
    exact ⟨k + 1, by rw [Nat.pow_succ]; omega⟩
theorem isP2_odd (n : Nat) (h : n % 2 = 1) (h1 : 1 < n) : isP2 n = false := by
  cases hb : isP2 (n : Int) with
  | false => rfl
  | true =>
    obtain ⟨k, hk⟩ := (isP2_iff n).1 hb
    cases k with
    | zero => rw [Nat.pow_zero] at hk; omega
    | succ k => rw [Nat.pow_succ] at hk; omega
theorem refPower (n : Int) (w : World) (hn : -9223372036854775808 ≤ n ∧ n ≤ 9223372036854775807) :
    Calls Try.prog 55 #[.int .i64 n] w fun e w' => e = .returned (.bool (isP2 n)) ∧ w = w' := by
  by_cases h0 : n ≤ 0
  · have HP := Lib.hid (isP2_neg n h0)
    have hb : (n == 1) = false := by simp; omega
    go_enter Try.func55, Try.ntmps55
    go_wp2_with fail
    go_loopw [0] (fun v wr => v = .int .i64 n ∧ w = wr) (fun v _ => 0)
    case atStart => exact ⟨rfl, rfl⟩
    case round =>
      obtain ⟨rfl, rfl⟩ := hrel
      go_wp2_with fail
      go_ret
      exact ⟨ret_bool HP.out.symm, rfl⟩
  · obtain ⟨N, rfl⟩ := Int.eq_ofNat_of_zero_le (show 0 ≤ n by omega)
    obtain ⟨B, hB⟩ : ∃ B, isP2 (N : Int) = B := ⟨_, rfl⟩
    rw [hB]
    have HB := Lib.hid hB
    clear hB
    go_enter Try.func55, Try.ntmps55
    go_wp2_with fail
    go_loopw [0] (fun v wr => ∃ m : Nat, 0 < m ∧ m ≤ N ∧ v = .int .i64 m ∧ Hid (isP2 (m : Int) = B) ∧ w = wr) (fun v _ => (intOf v).toNat)
    case atStart => exact ⟨N, by omega, Nat.le_refl _, rfl, HB.out, rfl⟩
    case round =>
      obtain ⟨m, hm0, hm, rfl, HM, rfl⟩ := hrel
      by_cases h1 : m = 1
      · subst h1
        have HT : Hid (B = true) := by unfold Hid; rw [← HM.out]; exact isP2_one
        go_wp2_with fail
        go_ret
        exact ⟨ret_bool (by rw [HT.out]), rfl⟩
      · by_cases h2 : m % 2 = 1
        · have HT : Hid (B = false) := by unfold Hid; rw [← HM.out]; exact isP2_odd m h2 (by omega)
          have e1 : (m : Int) % 2 = 1 := by omega
          have e2 : ((m : Int) == 1) = false := by simp; omega
          have e3 : (1 : Int) < (m : Int) := by omega
          go_wp2_with fail
          go_ret
          exact ⟨ret_bool (by rw [HT.out]), rfl⟩
        · obtain ⟨t, rfl⟩ : ∃ t, m = 2 * t := ⟨m / 2, by omega⟩
          have HT : Hid (isP2 (t : Int) = B) := by unfold Hid; rw [← HM.out]; exact (isP2_half t (by omega)).symm
          obtain ⟨m, hm'⟩ : ∃ m, 2 * t = m := ⟨_, rfl⟩
          rw [hm'] at hm hm0 h1 h2 ⊢
          have e1 : (m : Int) % 2 = 0 := by omega
          have e2 : (m : Int) / 2 = (t : Int) := by omega
          have e3 : (1 : Int) < (m : Int) := by omega
          have ht : t < m := by omega
          have ht0 : 0 < t := by omega
          have htN : t ≤ N := by omega
          clear HM hm' h1 h2
          go_wp2_with fail
          go_roundw
          case rel => exact ⟨t, ht0, htN, rfl, HT.out, trivial⟩
          case measure => simp [intOf]; omega
end Go.Proofs.Ytonffapiamhdbaa

namespace Go.Proofs.Ytonffapiamhdbaa
open Go.RowKit
set_option linter.unusedVariables false
set_option linter.unusedSimpArgs false
set_option maxRecDepth 100000
theorem stock_power (n : Int) (w : World) (hn : -9223372036854775808 ≤ n ∧ n ≤ 9223372036854775807) :
    Calls Try.prog 71 #[.int .i64 n] w fun e w' => e = .returned (.bool (isP2 n)) ∧ w = w' := by
  by_cases h0 : n ≤ 0
  · have HP := Lib.hid (isP2_neg n h0)
    go_enter Try.func71, Try.ntmps71
    go_wp2_with fail
    go_ret
    exact ⟨ret_bool HP.out.symm, rfl⟩
  · obtain ⟨N, rfl⟩ := Int.eq_ofNat_of_zero_le (show 0 ≤ n by omega)
    obtain ⟨V, hV⟩ : ∃ V, N &&& (N - 1) = V := ⟨_, rfl⟩
    have e1 : bits .and .i64 (N : Int) ((N : Int) - 1) = (V : Int) := by
      have := bits_and_nat N (N - 1) (by omega) (by omega)
      rw [hV] at this
      rw [← this]; congr 1; omega
    have hP : isP2 (N : Int) = decide (V = 0) := by
      rw [isP2_nat, hV, show decide (0 < N) = true by simp; omega, Bool.true_and]
    have HP := Lib.hid hP
    clear hV hP
    by_cases hv : V = 0
    · have e2 : ((V : Int) == 0) = true := by simp; omega
      have HV := Lib.hid hv
      clear hv
      go_enter Try.func71, Try.ntmps71
      go_wp2_with fail
      go_ret
      exact ⟨ret_bool (by rw [HP.out]; simp [HV.out]), rfl⟩
    · have e2 : ((V : Int) == 0) = false := by simp; omega
      have HV := Lib.hid hv
      clear hv
      go_enter Try.func71, Try.ntmps71
      go_wp2_with fail
      go_ret
      exact ⟨ret_bool (by rw [HP.out]; simp [HV.out]), rfl⟩
/-- May there be so many? -/
def hasP2 (n : Int) : Bool := isP2 n && decide (n ≤ 16777216)
theorem stock_Has (n : Int) (w : World) (hn : -9223372036854775808 ≤ n ∧ n ≤ 9223372036854775807) :
    Calls Try.prog 63 #[.int .i64 n] w fun e w' => e = .returned (.bool (hasP2 n)) ∧ w = w' := by
  obtain ⟨B, hB⟩ : ∃ B, isP2 n = B := ⟨_, rfl⟩
  have HP := Lib.hid hB
  have HH : Hid (hasP2 n = (B && decide (n ≤ 16777216))) := by unfold Hid hasP2; rw [hB]
  have C1 : Hid (∀ w : World, Calls Try.prog 71 #[.int .i64 n] w fun e w' => e = .returned (.bool B) ∧ w = w') := fun w => by rw [← hB]; exact stock_power n w hn
  clear hB
  cases B
  all_goals
    go_enter Try.func63, Try.ntmps63
    go_wp2_with fail
    refine (C1.out _).mono ?_; rintro e w' ⟨rfl, rfl⟩
    go_wp2_with fail
    go_ret
    exact ⟨ret_bool (by rw [HH.out]; first | rfl | simp), rfl⟩
theorem small_Has (n : Int) (w : World) :
    Calls Try.prog 62 #[.int .i64 n] w fun e w' => e = .returned (.bool (decide (1 ≤ n ∧ n ≤ 5))) ∧ w = w' := by
  rcases (show n < 1 ∨ (1 ≤ n ∧ n ≤ 5) ∨ (1 ≤ n ∧ 5 < n) by omega) with h | ⟨h1, h2⟩ | ⟨h1, h2⟩
  all_goals
    go_enter Try.func62, Try.ntmps62
    go_wp2_with fail
    go_ret
    exact ⟨ret_bool (by simp; try omega), rfl⟩
end Go.Proofs.Ytonffapiamhdbaa

namespace Go.Proofs.Ytonffapiamhdbaa
open Go.RowKit
set_option linter.unusedVariables false
set_option linter.unusedSimpArgs false
set_option maxRecDepth 100000
theorem gcd_step (a b : Nat) : Nat.gcd a b = Nat.gcd b (a % b) := by
  rw [Nat.gcd_comm a b, Nat.gcd_rec b a, Nat.gcd_comm]
set_option maxHeartbeats 400000 in
theorem factGcdL (a b : Nat) (w : World) (ha : a ≤ 9223372036854775807) (hb : b ≤ 9223372036854775807) :
    Calls Try.prog 64 #[.int .i64 a, .int .i64 b] w fun e w' => e = .returned (.int .i64 (Nat.gcd a b : Nat)) ∧ Below w.heap.size w w' := by
  obtain ⟨G, hG⟩ : ∃ G, Nat.gcd a b = G := ⟨_, rfl⟩
  rw [hG]
  have HG := Lib.hid hG
  clear hG
  go_enter Try.func64, Try.ntmps64
  go_wp2_with fail
  go_loopw [0, 1] (fun x y wr => ∃ (m n : Nat), m ≤ 9223372036854775807 ∧ n ≤ 9223372036854775807 ∧ x = .int .i64 m ∧ y = .int .i64 n ∧ Hid (Nat.gcd m n = G) ∧ Below w.heap.size w wr) (fun _ y _ => (intOf y).toNat)
  case atStart => exact ⟨a, b, ha, hb, rfl, rfl, HG, Below.refl _ _⟩
  case round =>
    obtain ⟨m, n, hm, hn, rfl, rfl, H, hbl⟩ := hrel
    by_cases h0 : n = 0
    · subst h0
      go_wp2_with fail
      go_ret
      exact ⟨ret_int (by have := H.out; rw [Nat.gcd_zero_right] at this; rw [this]), hbl⟩
    · have hz : ((n : Int) != 0) = true := bdiff (by omega)
      have hz' : ((n : Int) == 0) = false := bno (by omega)
      have hz2 : ¬ (n : Int) = 0 := by omega
      have e1 : (m : Int).tmod (n : Int) = ((m % n : Nat) : Int) := by rw [Int.tmod_eq_emod_of_nonneg (by omega), Int.natCast_emod]
      have hlt : m % n < n := Nat.mod_lt _ (by omega)
      have HS : Hid (Nat.gcd n (m % n) = G) := by have := H.out; unfold Hid; rw [← this, ← gcd_step]
      obtain ⟨r, hr⟩ : ∃ r, m % n = r := ⟨_, rfl⟩
      rw [hr] at e1 hlt HS
      have e2 : (m : Int) % (n : Int) = (r : Int) := by rw [← Int.natCast_emod, hr]
      clear hr h0
      go_wp2_with fail
      go_quiet (fail)
      go_wp2_with fail
      go_roundw
      case rel => exact ⟨n, r, by omega, by omega, rfl, rfl, HS, below_drewN hbl _⟩
      case measure => simp [intOf]; omega
/-- The greatest common divisor as the program has it: 0 where a number is below 0. -/
def gcdI (a b : Int) : Int := if a < 0 ∨ b < 0 then 0 else (Nat.gcd a.toNat b.toNat : Nat)
theorem factGcdI (a b : Int) (w : World) (ha : -9223372036854775808 ≤ a ∧ a < 9223372036854775808) (hb : -9223372036854775808 ≤ b ∧ b < 9223372036854775808) :
    Calls Try.prog 64 #[.int .i64 a, .int .i64 b] w fun e w' => e = .returned (.int .i64 (gcdI a b)) ∧ Below w.heap.size w w' := by
  by_cases h : a < 0 ∨ b < 0
  · rw [show gcdI a b = 0 by unfold gcdI; rw [if_pos h]]
    by_cases h0 : a < 0
    · clear h
      go_enter Try.func64, Try.ntmps64
      go_wp2_with fail
      go_ret
      exact ⟨rfl, Below.refl _ _⟩
    · have h1 : b < 0 := by omega
      clear h
      go_enter Try.func64, Try.ntmps64
      go_wp2_with fail
      go_ret
      exact ⟨rfl, Below.refl _ _⟩
  · obtain ⟨x, rfl⟩ := Int.eq_ofNat_of_zero_le (show 0 ≤ a by omega)
    obtain ⟨y, rfl⟩ := Int.eq_ofNat_of_zero_le (show 0 ≤ b by omega)
    rw [show gcdI (x : Int) (y : Int) = ((Nat.gcd x y : Nat) : Int) by unfold gcdI; rw [if_neg (by omega), Int.toNat_natCast, Int.toNat_natCast]]
    exact factGcdL x y w (by omega) (by omega)
theorem refGcd (k : Nat) : ∀ (a b : Nat) (w : World), a + b ≤ k → a ≤ 16777216 → b ≤ 16777216 →
    Calls Try.prog 48 #[.int .i64 a, .int .i64 b] w fun e w' => e = .returned (.int .i64 (Nat.gcd a b : Nat)) ∧ w = w' := by
  induction k with
  | zero =>
    intro a b w hk ha hb
    obtain ⟨rfl, rfl⟩ : a = 0 ∧ b = 0 := by omega
    go_enter Try.func48, Try.ntmps48
    go_wp2_with fail
    go_ret
    exact ⟨rfl, rfl⟩
  | succ k ih =>
    intro a b w hk ha hb
    have IH := Lib.hid ih
    clear ih
    by_cases h0 : a = 0
    · subst h0
      go_enter Try.func48, Try.ntmps48
      go_wp2_with fail
      go_ret
      exact ⟨ret_int (by rw [Nat.gcd_zero_left]), rfl⟩
    · have z1 : ((a : Int) == 0) = false := bno (by omega)
      by_cases h1 : b = 0
      · subst h1
        go_enter Try.func48, Try.ntmps48
        go_wp2_with fail
        go_ret
        exact ⟨ret_int (by rw [Nat.gcd_zero_right]), rfl⟩
      · have z2 : ((b : Int) == 0) = false := bno (by omega)
        have y1 : ¬ (a : Int) = 0 := by omega
        have y2 : ¬ (b : Int) = 0 := by omega
        by_cases hab : a < b
        · obtain ⟨r, hr⟩ : ∃ r, b % a = r := ⟨_, rfl⟩
          have hlt : b % a < a := Nat.mod_lt _ (by omega)
          rw [hr] at hlt
          have e1 : (b : Int).tmod (a : Int) = (r : Int) := by rw [Int.tmod_eq_emod_of_nonneg (by omega), ← Int.natCast_emod, hr]
          have e2 : (b : Int) % (a : Int) = (r : Int) := by rw [← Int.natCast_emod, hr]
          have HS : Hid (Nat.gcd r a = Nat.gcd a b) := by unfold Hid; rw [← hr, Nat.gcd_rec a b]
          clear hr h0 h1
          go_enter Try.func48, Try.ntmps48
          go_wp2_with fail
          refine (IH.out r a _ (by omega) (by omega) ha).mono ?_; rintro e w' ⟨rfl, rfl⟩
          go_wp2_with fail
          go_ret
          exact ⟨ret_int (by rw [HS.out]), rfl⟩
        · obtain ⟨r, hr⟩ : ∃ r, a % b = r := ⟨_, rfl⟩
          have hlt : a % b < b := Nat.mod_lt _ (by omega)
          rw [hr] at hlt
          have e1 : (a : Int).tmod (b : Int) = (r : Int) := by rw [Int.tmod_eq_emod_of_nonneg (by omega), ← Int.natCast_emod, hr]
          have e2 : (a : Int) % (b : Int) = (r : Int) := by rw [← Int.natCast_emod, hr]
          have HS : Hid (Nat.gcd r b = Nat.gcd a b) := by unfold Hid; rw [← hr, Nat.gcd_comm a b, Nat.gcd_rec b a]
          clear hr h0 h1
          go_enter Try.func48, Try.ntmps48
          go_wp2_with fail
          refine (IH.out r b _ (by omega) (by omega) hb).mono ?_; rintro e w' ⟨rfl, rfl⟩
          go_wp2_with fail
          go_ret
          exact ⟨ret_int (by rw [HS.out]), rfl⟩
end Go.Proofs.Ytonffapiamhdbaa

namespace Go.Proofs.Ytonffapiamhdbaa
open Go.RowKit
set_option linter.unusedVariables false
set_option linter.unusedSimpArgs false
set_option maxRecDepth 100000
/-- n without d as often as it divides; e and how often. -/
def stripF : Nat → Nat → Nat → Nat → Nat × Nat
  | 0, _, n, e => (n, e)
  | f + 1, d, n, e => if n % d = 0 then stripF f d (n / d) (e + 1) else (n, e)
/-- The primes that divide n, from d on. -/
def facF : Nat → Nat → Nat → List (Nat × Nat)
  | 0, _, _ => []
  | f + 1, d, n => if d * d ≤ n then (match stripF 25 d n 0 with | (m, e) => if e = 0 then facF f (d + 1) m else (d, e) :: facF f (d + 1) m) else if 1 < n then [(n, 1)] else []
def facL (n : Nat) : List (Nat × Nat) := facF 4998 2 n
theorem stripF_le (f : Nat) : ∀ d n e, 2 ≤ d → 1 ≤ n → 1 ≤ (stripF f d n e).1 ∧ (stripF f d n e).1 ≤ n ∧ e ≤ (stripF f d n e).2 ∧ ((stripF f d n e).2 = e → (stripF f d n e).1 = n) := by
  induction f with
  | zero => intro d n e _ h; exact ⟨h, Nat.le_refl _, Nat.le_refl _, fun _ => rfl⟩
  | succ f ih =>
    intro d n e hd hn
    simp only [stripF]
    by_cases h : n % d = 0
    · rw [if_pos h]
      have h1 : 1 ≤ n / d := Nat.div_pos (Nat.le_of_dvd hn (Nat.dvd_of_mod_eq_zero h)) (by omega)
      obtain ⟨a, b, c, _⟩ := ih d (n / d) (e + 1) hd h1
      have := Nat.div_le_self n d
      exact ⟨a, by omega, by omega, fun h => by omega⟩
    · rw [if_neg h]; exact ⟨hn, Nat.le_refl _, Nat.le_refl _, fun _ => rfl⟩
theorem strip_step {n d e : Nat} (hd : 2 ≤ d) (h : n % d = 0) (hn : 1 ≤ n) (hb : n * 2 ^ e ≤ 16777216) : 1 ≤ n / d ∧ n / d * 2 ^ (e + 1) ≤ 16777216 ∧ n / d ≤ n := by
  have hdv := Nat.dvd_of_mod_eq_zero h
  have h1 : 1 ≤ n / d := Nat.div_pos (Nat.le_of_dvd hn hdv) (by omega)
  refine ⟨h1, ?_, Nat.div_le_self _ _⟩
  have h2 : n / d * 2 ≤ n := Nat.le_trans (Nat.mul_le_mul_left _ hd) (Nat.div_mul_le_self n d)
  calc n / d * 2 ^ (e + 1) = n / d * 2 * 2 ^ e := by rw [Nat.pow_succ, Nat.mul_comm (2 ^ e) 2, Nat.mul_assoc]
    _ ≤ n * 2 ^ e := Nat.mul_le_mul_right _ h2
    _ ≤ _ := hb
theorem strip_few {n e : Nat} (hn : 1 ≤ n) (hb : n * 2 ^ e ≤ 16777216) : e ≤ 24 := by
  by_cases h : e ≤ 24
  · exact h
  · have h1 : 2 ^ 25 ≤ 2 ^ e := Nat.pow_le_pow_right (by omega) (by omega)
    have h2 : 1 * 2 ^ e ≤ n * 2 ^ e := Nat.mul_le_mul_right _ hn
    have e2 : (2 : Nat) ^ 25 = 33554432 := by decide
    omega
/-- Is it a prime, as the program has it? -/
def prB (l : List (Nat × Nat)) : Bool := match l with | [(_, 1)] => true | _ => false
theorem facF_some (f : Nat) : ∀ d n, 2 ≤ d → 1 < n → n < (f + d) * (f + d) → facF (f + 1) d n ≠ [] := by
  induction f with
  | zero =>
    intro d n hd hn hf
    rw [Nat.zero_add] at hf
    simp only [facF]
    rw [if_neg (by omega), if_pos hn]
    simp
  | succ f ih =>
    intro d n hd hn hf
    have hle := stripF_le 25 d n 0 hd (by omega)
    rw [facF]
    by_cases h : d * d ≤ n
    · rw [if_pos h]
      rcases hs : stripF 25 d n 0 with ⟨m, e⟩
      rw [hs] at hle
      simp only [] at hle ⊢
      by_cases he : e = 0
      · rw [if_pos he]
        have hm : m = n := hle.2.2.2 he
        subst hm
        exact ih (d + 1) m (by omega) hn (by rw [show f + (d + 1) = f + 1 + d by omega]; exact hf)
      · rw [if_neg he]; simp
    · rw [if_neg h, if_pos hn]; simp
/-- No number from d on whose square is not above n divides n. -/
def NoDiv (d n : Nat) : Prop := 1 < n ∧ ∀ k, d ≤ k → k * k ≤ n → n % k ≠ 0
theorem facF_prime (f : Nat) : ∀ d n, 2 ≤ d → 1 ≤ n → n < (f + d) * (f + d) → (prB (facF (f + 1) d n) = true ↔ NoDiv d n) := by
  induction f with
  | zero =>
    intro d n hd hn hf
    rw [Nat.zero_add] at hf
    simp only [facF]
    rw [if_neg (by omega)]
    by_cases h1 : 1 < n
    · rw [if_pos h1]
      simp only [prB, true_iff]
      refine ⟨h1, fun k hk hkk _ => ?_⟩
      have := Nat.mul_le_mul hk hk
      omega
    · rw [if_neg h1]
      simp only [prB, Bool.false_eq_true, false_iff]
      exact fun h => h1 h.1
  | succ f ih =>
    intro d n hd hn hf
    have hle := stripF_le 25 d n 0 hd hn
    rw [facF]
    by_cases h : d * d ≤ n
    · rw [if_pos h]
      by_cases hdv : n % d = 0
      · have hnd : n / d * d = n := Nat.div_mul_cancel (Nat.dvd_of_mod_eq_zero hdv)
        have hge : d ≤ n / d := (Nat.le_div_iff_mul_le (by omega)).2 h
        have h24 : stripF 25 d n 0 = stripF 24 d (n / d) 1 := by rw [stripF, if_pos hdv]
        have hle2 := stripF_le 24 d (n / d) 1 hd (by omega)
        rw [← h24] at hle2
        have hno : ¬ NoDiv d n := fun hN => hN.2 d (Nat.le_refl _) h hdv
        rcases hs : stripF 25 d n 0 with ⟨m, e⟩
        rw [hs] at hle hle2
        simp only [] at hle hle2 ⊢
        rw [if_neg (by omega)]
        constructor
        · intro hp
          exfalso
          have he : e = 1 := by
            by_cases he : e = 1
            · exact he
            · exfalso
              simp only [prB] at hp
              split at hp
              · rename_i heq; simp only [List.cons.injEq, Prod.mk.injEq] at heq; exact he heq.1.2
              · cases hp
          have hm : m = n / d := hle2.2.2.2 he
          have hlt : m < (f + (d + 1)) * (f + (d + 1)) := by rw [show f + (d + 1) = f + 1 + d by omega]; omega
          have hsome := facF_some f (d + 1) m (by omega) (by omega) hlt
          simp only [prB] at hp
          split at hp
          · rename_i heq
            simp only [List.cons.injEq] at heq
            exact hsome heq.2
          · cases hp
        · intro hN; exact absurd hN hno
      · have hs : stripF 25 d n 0 = (n, 0) := by rw [stripF, if_neg hdv]
        rw [hs]
        simp only [if_true]
        rw [ih (d + 1) n (by omega) hn (by rw [show f + (d + 1) = f + 1 + d by omega]; exact hf)]
        constructor
        · rintro ⟨a, b⟩
          refine ⟨a, fun k hk hkk => ?_⟩
          by_cases e : k = d
          · subst e; exact hdv
          · exact b k (by omega) hkk
        · rintro ⟨a, b⟩
          exact ⟨a, fun k hk hkk => b k (by omega) hkk⟩
    · rw [if_neg h]
      by_cases h1 : 1 < n
      · rw [if_pos h1]
        simp only [prB, true_iff]
        refine ⟨h1, fun k hk hkk _ => ?_⟩
        have := Nat.mul_le_mul hk hk
        omega
      · rw [if_neg h1]
        simp only [prB, Bool.false_eq_true, false_iff]
        exact fun h => h1 h.1
theorem facL_prime (n : Nat) (h1 : 1 ≤ n) (h2 : n ≤ 16777216) : prB (facL n) = true ↔ NoDiv 2 n := facF_prime 4997 2 n (by omega) h1 (by omega)
/-- Is it a prime? -/
def isPr (n : Int) : Bool := decide (1 ≤ n ∧ n ≤ 16777216) && prB (facL n.toNat)
theorem isPr_nat (n : Nat) (h1 : 1 ≤ n) (h2 : n ≤ 16777216) : isPr (n : Int) = prB (facL n) := by
  unfold isPr
  rw [show decide (1 ≤ (n : Int) ∧ (n : Int) ≤ 16777216) = true by simp; omega, Bool.true_and, Int.toNat_natCast]
theorem isPr_iff (n : Nat) (h1 : 1 ≤ n) (h2 : n ≤ 16777216) : isPr (n : Int) = true ↔ NoDiv 2 n := by rw [isPr_nat n h1 h2, facL_prime n h1 h2]
/-- Pairs as cells. -/
def cellsP (ps : List (Nat × Nat)) : List Value := ps.flatMap fun p => [.int .i64 p.1, .int .i64 p.2]
theorem cellsP_snoc (ps : List (Nat × Nat)) (p : Nat × Nat) : cellsP (ps ++ [p]) = cellsP ps ++ [.int .i64 p.1, .int .i64 p.2] := by simp [cellsP]
end Go.Proofs.Ytonffapiamhdbaa

namespace Go.Proofs.Ytonffapiamhdbaa
open Go.RowKit
set_option linter.unusedVariables false
set_option linter.unusedSimpArgs false
set_option maxRecDepth 100000
/-- Is it a product of two sizes? -/
def sidesB (n : Int) (m : Nat) (k0 k1 : Int) : Bool := decide (m = 2 ∧ 2 ≤ k0 ∧ 2 ≤ k1 ∧ k0 ≤ n ∧ k1 ≤ n ∧ k0 * k1 = n) && hasSz n
/-- Is a node right by itself? (Its kind, its size, how many children, and the sizes of the first two.) -/
def nodeB (k n : Int) (m : Nat) (k0 k1 : Int) : Bool :=
  if k = 1 then decide (m = 0 ∧ n ≤ 64) && hasSz n
  else if k = 2 then decide (m = 0 ∧ 2 ≤ n ∧ n ≤ 5)
  else if k = 3 then decide (m = 0 ∧ 2 ≤ n) && hasP2 n
  else if k = 4 then sidesB n m k0 k1
  else if k = 5 then sidesB n m k0 k1 && decide (gcdI k0 k1 = 1)
  else if k = 6 then decide (m = 1 ∧ 3 ≤ n ∧ k0 = n - 1) && hasSz n && isPr n
  else if k = 7 then decide (m = 1 ∧ 2 ≤ n ∧ 2 * n - 1 ≤ k0) && hasSz n && hasP2 k0
  else false
def nodeOk (t : Tr) : Bool := nodeB t.kind t.num t.kids.length (Tr.kid t.kids 0).num (Tr.kid t.kids 1).num
theorem hasSz_bd {n : Int} (h : hasSz n = true) : 1 ≤ n ∧ n ≤ 16777216 := by have := hasSz_iff.1 h; exact ⟨this.1, this.2.1⟩
/-- The test by division. -/
theorem sides_div {n k0 k1 : Int} (hn : 1 ≤ n) (h0 : 2 ≤ k0) (h1 : 2 ≤ k1) : (n % k0 = 0 ∧ n / k0 = k1) ↔ (k0 ≤ n ∧ k1 ≤ n ∧ k0 * k1 = n) := by
  constructor
  · rintro ⟨a, b⟩
    have h := Int.mul_ediv_add_emod n k0
    rw [a, b] at h
    have h2 : k0 * k1 = n := by omega
    have h3 : k0 * 1 ≤ k0 * k1 := Int.mul_le_mul_of_nonneg_left (by omega) (by omega)
    have h4 : 1 * k1 ≤ k0 * k1 := Int.mul_le_mul_of_nonneg_right (by omega) (by omega)
    omega
  · rintro ⟨_, _, c⟩
    rw [← c]
    exact ⟨Int.mul_emod_right _ _, Int.mul_ediv_cancel_left _ (by omega)⟩
namespace Tr
mutual
/-- Where the first node is that is not right. -/
def wrong : Tr → Option (List Int)
  | node k n ks => if nodeOk (node k n ks) then wrongL 0 ks else some []
def wrongL : Nat → List Tr → Option (List Int)
  | _, [] => none
  | i, t :: ts => match wrong t with
    | some p => some ((i : Int) :: p)
    | none => wrongL (i + 1) ts
end
theorem wrong_kids (t : Tr) : wrong t = if nodeOk t then wrongL 0 t.kids else some [] := by cases t; simp [wrong, kids]
end Tr
end Go.Proofs.Ytonffapiamhdbaa

namespace Go.Proofs.Ytonffapiamhdbaa
open Go.RowKit
set_option linter.unusedVariables false
set_option linter.unusedSimpArgs false
set_option maxRecDepth 100000
theorem there_yes (n : Nat) (w : World) (h1 : 1 ≤ n) (h2 : n ≤ 16777216) :
    Calls Try.prog 73 #[.int .i64 n] w fun e w' => e = .returned (.bool true) ∧ w = w' := by
  go_enter Try.func73, Try.ntmps73
  go_wp2_with fail
  go_ret
  exact ⟨ret_bool (by simp; omega), rfl⟩
theorem there_no (n : Int) (w : World) (h : n < 1 ∨ 16777216 < n) :
    Calls Try.prog 73 #[.int .i64 n] w fun e w' => e = .returned (.bool false) ∧ w = w' := by
  by_cases h1 : n < 1
  · clear h
    go_enter Try.func73, Try.ntmps73
    go_wp2_with fail
    go_ret
    exact ⟨ret_bool (by simp; try omega), rfl⟩
  · have h2 : 16777216 < n := by omega
    clear h
    go_enter Try.func73, Try.ntmps73
    go_wp2_with fail
    go_ret
    exact ⟨ret_bool (by simp; try omega), rfl⟩
theorem info_power : (Try.prog.info? 94).map (fun i => (i.zero, i.size, i.bytes)) = some (some (.agg #[.int .i64 0, .int .i64 0]), 2, 16) := by kernel_rfl
theorem cell_two_new (w : World) (x y : Value) (t : TypeId) : ∀ j u, [x, y][j]? = some u → (w.alloc (.cells #[x, y] t)).cell? ((⟨w.heap.size, 0, none⟩ : Addr).add j) = some u := by
  intro j u hj
  match j, hj with
  | 0, hj => simp at hj; subst hj; simp [Addr.add]
  | 1, hj => simp at hj; subst hj; simp [Addr.add]
theorem one_two (x y : Int) : ∀ u ∈ [Value.int .i64 x, Value.int .i64 y], u.oneCell' = true := by
  intro u hu
  simp at hu
  rcases hu with rfl | rfl <;> rfl
/-- A result: a new row that reads as the pairs; no error. -/
def GivesP (ps : List (Nat × Nat)) (w : World) (e : Ending) (w' : World) : Prop :=
  ∃ v, e = .returned (.tuple #[v, .int .i64 0]) ∧ w'.ownsRow w.heap.size 94 2 v ps.length (cellsP ps) ∧ Below w.heap.size w w'
theorem fac_unfold_le {d n m e : Nat} (hd : d ≤ 4097) (h : d * d ≤ n) (hs : stripF 25 d n 0 = (m, e)) : facF (5000 - d) d n = if e = 0 then facF (5000 - (d + 1)) (d + 1) m else (d, e) :: facF (5000 - (d + 1)) (d + 1) m := by
  rw [show 5000 - d = (5000 - (d + 1)) + 1 by omega, facF, if_pos h, hs]
theorem fac_unfold_gt {d n : Nat} (hd : d ≤ 4097) (h : ¬ d * d ≤ n) : facF (5000 - d) d n = if 1 < n then [(n, 1)] else [] := by
  rw [show 5000 - d = (5000 - (d + 1)) + 1 by omega, facF, if_neg h]
set_option maxHeartbeats 4000000 in
theorem fact_Factors (N : Nat) (w : World) (h1 : 1 ≤ N) (h2 : N ≤ 16777216) :
    Calls Try.prog 72 #[.int .i64 N] w (GivesP (facL N) w) := by
  obtain ⟨i0, hi, hz0, hz1, hz2⟩ := info_parts info_power
  obtain ⟨PS, hPS⟩ : ∃ PS, facL N = PS := ⟨_, rfl⟩
  rw [hPS]
  have HPS := Lib.hid hPS
  clear hPS
  go_enter Try.func72, Try.ntmps72
  go_wp2_with fail
  go_step3
  go_wp2_with fail
  refine (there_yes N _ h1 h2).mono ?_; rintro e w' ⟨rfl, rfl⟩
  go_wp2_with fail
  go_step3
  go_wp2_with fail
  go_loopw [0, 4, 5] (fun n v d wr => ∃ (n0 d0 : Nat) (acc : List (Nat × Nat)), 1 ≤ n0 ∧ n0 ≤ 16777216 ∧ 2 ≤ d0 ∧ d0 ≤ 4097 ∧ n = .int .i64 n0 ∧ d = .int .i64 d0 ∧ acc.length ≤ d0 ∧ Hid (acc ++ facF (5000 - d0) d0 n0 = PS) ∧ Hid (wr.ownsRow w.heap.size 94 2 v acc.length (cellsP acc)) ∧ Below w.heap.size w wr) (fun _ _ d _ => 5000 - (intOf d).toNat)
  case atStart => exact ⟨N, 2, [], h1, h2, by omega, by omega, rfl, rfl, by simp, HPS.out, World.ownsRow_nil _ _ _ _, Below.refl _ _⟩
  case round =>
    obtain ⟨n, d, acc, hn1, hn2, hd1, hd2, rfl, rfl, hal, HF, HO, hbel⟩ := hrel
    obtain ⟨q, hq⟩ : ∃ q, d * d = q := ⟨_, rfl⟩
    have eq1 : (d : Int) * (d : Int) = (q : Int) := by rw [← hq]; simp
    have hq9 : q ≤ 4097 * 4097 := by rw [← hq]; exact Nat.mul_le_mul hd2 hd2
    by_cases hle : q ≤ n
    · have hd3 : d ≤ 4096 := by
        by_cases h : d ≤ 4096
        · exact h
        · have := Nat.mul_le_mul (show 4097 ≤ d by omega) (show 4097 ≤ d by omega)
          omega
      have HQ := Lib.hid hq
      clear hq
      obtain ⟨wo, rfl⟩ : ∃ wo : World, wo = wr := ⟨_, rfl⟩
      have hS : Hid (∃ m e, stripF 25 d n 0 = (m, e)) := ⟨_, _, rfl⟩
      obtain ⟨M, E, hs⟩ := hS.out
      have HS := Lib.hid hs
      clear hs hS
      have hbs := hbel.size
      go_wp2_with fail
      clear eq1
      go_loopw [0] (fun m wi => ∃ (m0 e0 : Nat), m = .int .i64 m0 ∧ 1 ≤ m0 ∧ m0 ≤ n ∧ e0 ≤ 24 ∧ Hid (m0 * 2 ^ e0 ≤ 16777216) ∧ Hid (stripF (25 - e0) d m0 e0 = (M, E)) ∧ Hid (wi.heap[wo.heap.size]? = some (.cells #[.int .i64 d, .int .i64 e0] 94 (0, 0))) ∧ Below wo.heap.size wo wi) (fun m _ => (intOf m).toNat)
      case atStart => exact ⟨n, 0, rfl, hn1, Nat.le_refl _, by omega, by unfold Hid; omega, HS.out, block_new rfl, (Below.refl _ _).alloc (Nat.le_refl _) _⟩
      case round =>
        obtain ⟨m, e, rfl, hm1, hmn, he24, HB, HR, HX, hbi⟩ := hrel
        have e1 : (m : Int).tmod (d : Int) = ((m % d : Nat) : Int) := by rw [Int.tmod_eq_emod_of_nonneg (by omega), Int.natCast_emod]
        have e2 : (m : Int) % (d : Int) = ((m % d : Nat) : Int) := by rw [← Int.natCast_emod]
        obtain ⟨r, hr⟩ : ∃ r, m % d = r := ⟨_, rfl⟩
        rw [hr] at e1 e2
        have z1 : ((d : Int) == 0) = false := bno (by omega)
        have z2 : ¬ (d : Int) = 0 := by omega
        by_cases h0 : r = 0
        · have HR0 := Lib.hid hr
          have e3 : (m : Int).tdiv (d : Int) = ((m / d : Nat) : Int) := by rw [Int.tdiv_eq_ediv_of_nonneg (by omega), Int.natCast_ediv]
          have e4 : (m : Int) / (d : Int) = ((m / d : Nat) : Int) := by rw [← Int.natCast_ediv]
          have hst := strip_step hd1 (by rw [hr]; exact h0) hm1 HB.out
          have hlt : m / d < m := Nat.div_lt_self (by omega) (by omega)
          have hfew := strip_few hst.1 hst.2.1
          obtain ⟨p, hp⟩ : ∃ p, m / d = p := ⟨_, rfl⟩
          have HR2 : Hid (stripF (25 - (e + 1)) d p (e + 1) = (M, E)) := by
            unfold Hid
            have := HR.out
            rw [show 25 - e = (25 - (e + 1)) + 1 by omega, stripF, if_pos (by rw [hr]; exact h0), hp] at this
            exact this
          rw [hp] at e3 e4 hst hlt
          obtain ⟨g1, g2, g3⟩ := hst
          have G2 := Lib.hid g2
          clear hr hp g2
          subst h0
          have c1 : wr.cell? ⟨wo.heap.size, 1, none⟩ = some (.int .i64 (e : Int)) := block_cell HX.out 1
          have f1 : wr.frozen? ⟨wo.heap.size, 1, none⟩ = false := block_free HX.out 1
          have hset : (wr.setCell ⟨wo.heap.size, 1, none⟩ (.int .i64 ((e : Int) + 1))).heap[wo.heap.size]? = some (.cells #[.int .i64 d, .int .i64 ((e : Int) + 1)] 94 (0, 0)) := block_set HX.out 1 _
          have HSET := Lib.hid hset
          have hbi2 := Lib.hid (hbi.setCell (p := ⟨wo.heap.size, 1, none⟩) (Nat.le_refl _) (.int .i64 ((e : Int) + 1)))
          clear hset
          go_wp2_with fail
          go_roundw
          case rel => exact ⟨p, e + 1, rfl, g1, by omega, by omega, G2.out, HR2.out, HSET.out, hbi2.out⟩
          case measure => simp [intOf]; omega
        · have hME : (m, e) = (M, E) := by
            have := HR.out
            rw [show 25 - e = (24 - e) + 1 by omega, stripF, if_neg (by rw [hr]; exact h0)] at this
            exact this
          simp only [Prod.mk.injEq] at hME
          obtain ⟨rfl, rfl⟩ := hME
          have h0' : ((r : Int) == 0) = false := bno (by omega)
          have HUN := Lib.hid (fac_unfold_le (n := n) hd2 (by rw [HQ.out]; exact hle) HS.out)
          have hown := own_later3 HO.out hbi
          have c0 : wr.cell? ⟨wo.heap.size, 0, none⟩ = some (.int .i64 (d : Int)) := block_cell HX.out 0
          have c1 : wr.cell? ⟨wo.heap.size, 1, none⟩ = some (.int .i64 (e : Int)) := block_cell HX.out 1
          have hb3 := chain hbel hbi
          have hbs3 := hb3.size
          have HME : Hid (m % d ≠ 0) := by unfold Hid; rw [hr]; exact h0
          clear hr
          by_cases he : e = 0
          · have t1 : ((e : Int) == 0) = true := btrue (by omega)
            have HE := Lib.hid he
            have HOW := Lib.hid hown
            clear he hown
            go_wp2_with fail
            go_roundw
            case rel => exact ⟨m, d + 1, acc, hm1, by omega, by omega, by omega, rfl, by go_num, by omega, by have := HF.out; rw [HUN.out, if_pos HE.out] at this; exact this, HOW.out, hb3⟩
            case measure => simp [intOf]; omega
          · have t1 : ((e : Int) == 0) = false := bno (by omega)
            have HE := Lib.hid he
            clear he
            go_wp2_with (at_builtin; refine wpList_append_own _ rfl _ _ 90 rfl w.heap.size 94 i0 (.agg #[.int .i64 0, .int .i64 0]) 2 16 Try.underlying90 hi hz0 hz1 hz2 rfl (by decide) _ acc.length (cellsP acc) rfl (hown.alloc _) ⟨wr.heap.size, 0, none⟩ 1 1 [.int .i64 d, .int .i64 e] rfl rfl (cell_two_new _ _ _ _) (one_two _ _) (by unfold maxLen; omega) (by omega) (by simp; omega) ?_)
            intro v' w2 hown2 hgrow _
            have HOW : Hid (w2.ownsRow w.heap.size 94 2 v' (acc ++ [(d, e)]).length (cellsP (acc ++ [(d, e)]))) := by unfold Hid; rw [cellsP_snoc, List.length_append, List.length_singleton]; exact hown2
            have hb4 : Below w.heap.size w w2 := below_grown hb3 hbs3 (own_lt3 hown) hgrow
            have hlen : (acc ++ [(d, e)]).length ≤ d + 1 := by simp; omega
            clear hown hown2 hgrow
            go_wp2_with fail
            go_roundw
            case rel => exact ⟨m, d + 1, acc ++ [(d, e)], hm1, by omega, by omega, by omega, rfl, by go_num, hlen, by have := HF.out; rw [HUN.out, if_neg HE.out] at this; unfold Hid; rw [List.append_assoc]; exact this, HOW.out, hb4⟩
            case measure => simp [intOf]; omega
    · have HUN := Lib.hid (fac_unfold_gt (n := n) hd2 (by rw [hq]; exact hle))
      have hbs := hbel.size
      clear hq
      by_cases hn : 1 < n
      · have hown := HO.out
        have HN := Lib.hid hn
        go_wp2_with (at_builtin; refine wpList_append_own _ rfl _ _ 90 rfl w.heap.size 94 i0 (.agg #[.int .i64 0, .int .i64 0]) 2 16 Try.underlying90 hi hz0 hz1 hz2 rfl (by decide) _ acc.length (cellsP acc) rfl (hown.alloc _) ⟨wr.heap.size, 0, none⟩ 1 1 [.int .i64 n, .int .i64 1] rfl rfl (cell_two_new _ _ _ _) (one_two _ _) (by unfold maxLen; omega) (by omega) (by simp; omega) ?_)
        intro v' w2 hown2 hgrow _
        have HPE : Hid (acc ++ [(n, 1)] = PS) := by have := HF.out; rw [HUN.out, if_pos hn] at this; exact this
        have HOW : Hid (w2.ownsRow w.heap.size 94 2 v' PS.length (cellsP PS)) := by unfold Hid; rw [← HPE.out, cellsP_snoc, List.length_append, List.length_singleton]; exact hown2
        have hb4 : Below w.heap.size w w2 := below_grown hbel hbs (own_lt3 hown) hgrow
        clear hown hown2 hgrow
        go_wp2_with fail
        rw [Exit.noGoto_ret]
        go_ret2
        exact ⟨v', rfl, HOW.out, hb4⟩
      · have HPE : Hid (acc = PS) := by have := HF.out; rw [HUN.out, if_neg hn, List.append_nil] at this; exact this
        have HOW := HO.out
        rw [HPE.out] at HOW
        have HOW := Lib.hid HOW
        go_wp2_with fail
        rw [Exit.noGoto_ret]
        go_ret2
        exact ⟨_, rfl, HOW.out, hbel⟩
theorem fact_Factors_no (n : Int) (w : World) (h : n < 1 ∨ 16777216 < n) :
    Calls Try.prog 72 #[.int .i64 n] w fun e w' => e = .returned (.tuple #[.slice none 0 0, .int .i64 3]) ∧ w = w' := by
  have C1 : Hid (∀ W, Calls Try.prog 73 #[.int .i64 n] W fun e w' => e = .returned (.bool false) ∧ W = w') := fun W => there_no n W h
  clear h
  go_enter Try.func72, Try.ntmps72
  go_wp2_with fail
  go_step3
  go_wp2_with fail
  refine (C1.out _).mono ?_; rintro e w' ⟨rfl, rfl⟩
  go_wp2_with fail
  rw [Exit.noGoto_ret]
  go_ret2
  exact ⟨rfl, rfl⟩
theorem own_slice2 {w : World} {B : Nat} {e : TypeId} {v : Value} {n s : Nat} {xs : List Value} (h : w.ownsRow B e s v n xs) : ∃ a cap, v = .slice a n cap ∧ OkCap a n cap ∧ (0 < n → ∃ g, a = some ⟨g, 0, none⟩) := by
  rcases h.2 with ⟨rfl, h0⟩ | ⟨g, cap, cur, rfl, _, _, hc, _⟩
  · exact ⟨none, 0, by rw [h0], ⟨by omega, fun _ => rfl⟩, fun h => by omega⟩
  · exact ⟨_, _, rfl, ⟨hc, fun h => by cases h⟩, fun _ => ⟨g, rfl⟩⟩
set_option maxHeartbeats 1000000 in
theorem fact_Prime (n : Int) (w : World) (hn : -9223372036854775808 ≤ n ∧ n < 9223372036854775808) :
    Calls Try.prog 66 #[.int .i64 n] w fun e w' => e = .returned (.bool (isPr n)) ∧ Below w.heap.size w w' := by
  by_cases h : n < 1 ∨ 16777216 < n
  · have C1 : Hid (∀ W, Calls Try.prog 72 #[.int .i64 n] W fun e w' => e = .returned (.tuple #[.slice none 0 0, .int .i64 3]) ∧ W = w') := fun W => fact_Factors_no n W h
    have HP : Hid (isPr n = false) := by unfold Hid isPr; rw [show decide (1 ≤ n ∧ n ≤ 16777216) = false by simp; omega, Bool.false_and]
    clear h
    go_enter Try.func66, Try.ntmps66
    go_wp2_with fail
    refine (C1.out _).mono ?_; rintro e w' ⟨rfl, rfl⟩
    go_wp2_with fail
    go_ret
    exact ⟨ret_bool HP.out.symm, Below.refl _ _⟩
  · obtain ⟨N, rfl⟩ := Int.eq_ofNat_of_zero_le (show 0 ≤ n by omega)
    have C1 := Lib.hid (fact_Factors N w (by omega) (by omega))
    have HP := Lib.hid (isPr_nat N (by omega) (by omega))
    obtain ⟨ps, hps⟩ : ∃ ps, facL N = ps := ⟨_, rfl⟩
    rw [hps] at C1 HP
    clear hps h hn
    go_enter Try.func66, Try.ntmps66
    go_wp2_with fail
    refine C1.out.mono ?_; rintro e w1 ⟨v, rfl, hown, hb⟩
    obtain ⟨a, cap, rfl, hcap, hg⟩ := own_slice2 hown
    match ps, hg, hown, HP with
    | [], hg, hown, HP =>
      clear hown hg
      go_wp2_with fail
      go_ret
      exact ⟨ret_bool (by rw [HP.out]; rfl), hb⟩
    | [(p, x)], hg, hown, HP =>
      obtain ⟨g, rfl⟩ := hg (by simp)
      have hc : w1.cell? ⟨g, 1, none⟩ = some (.int .i64 (x : Int)) := hown.cellAt 1 (by simp)
      clear hown hg hcap
      by_cases hx : x = 1
      · have t1 : ((x : Int) == 1) = true := btrue (by omega)
        have HX := Lib.hid hx
        clear hx
        go_wp2_with fail
        go_ret
        exact ⟨ret_bool (by rw [HP.out, HX.out]; rfl), hb⟩
      · have t1 : ((x : Int) == 1) = false := bno (by omega)
        have HX := Lib.hid hx
        clear hx
        go_wp2_with fail
        go_ret
        exact ⟨ret_bool (by rw [HP.out]; simp only [prB]; split <;> simp_all [Hid]), hb⟩
    | p :: q :: r, hg, hown, HP =>
      have t1 : ((((p :: q :: r).length : Nat) : Int) == 1) = false := bno (by simp; omega)
      obtain ⟨L, hL⟩ : ∃ L, (p :: q :: r).length = L := ⟨_, rfl⟩
      rw [hL] at t1 ⊢
      clear hown hg hL hcap
      go_wp2_with fail
      go_ret
      exact ⟨ret_bool (by rw [HP.out]; obtain ⟨a, b⟩ := p; simp [prB]), hb⟩
set_option maxHeartbeats 1000000 in
theorem ref03_Prime (N : Nat) (w : World) (h1 : 1 ≤ N) (h2 : N ≤ 16777216) :
    Calls Try.prog 49 #[.int .i64 N] w fun e w' => e = .returned (.bool (isPr N)) ∧ w = w' := by
  obtain ⟨B, hB⟩ : ∃ B, isPr N = B := ⟨_, rfl⟩
  rw [hB]
  have HI1 : Hid (B = true → NoDiv 2 N) := by unfold Hid; rw [← hB]; exact (isPr_iff N h1 h2).1
  have HI2 : Hid (NoDiv 2 N → B = true) := by unfold Hid; rw [← hB]; exact (isPr_iff N h1 h2).2
  clear hB
  go_enter Try.func49, Try.ntmps49
  go_wp2_with fail
  go_loopw [3] (fun d wr => ∃ d0 : Nat, 2 ≤ d0 ∧ d0 ≤ 4097 ∧ d = .int .i64 d0 ∧ Hid (∀ k, 2 ≤ k → k < d0 → N % k ≠ 0) ∧ w = wr) (fun d _ => 5000 - (intOf d).toNat)
  case atStart => exact ⟨2, by omega, by omega, rfl, fun k hk hk2 => by omega, rfl⟩
  case round =>
    obtain ⟨d, hd1, hd2, rfl, HD, rfl⟩ := hrel
    obtain ⟨q, hq⟩ : ∃ q, d * d = q := ⟨_, rfl⟩
    have eq1 : (d : Int) * (d : Int) = (q : Int) := by rw [← hq]; simp
    have hq9 : q ≤ 4097 * 4097 := by rw [← hq]; exact Nat.mul_le_mul hd2 hd2
    by_cases hle : q ≤ N
    · have hd3 : d ≤ 4096 := by
        by_cases h : d ≤ 4096
        · exact h
        · have := Nat.mul_le_mul (show 4097 ≤ d by omega) (show 4097 ≤ d by omega)
          omega
      obtain ⟨r, hr⟩ : ∃ r, N % d = r := ⟨_, rfl⟩
      have e1 : (N : Int).tmod (d : Int) = (r : Int) := by rw [Int.tmod_eq_emod_of_nonneg (by omega), ← Int.natCast_emod, hr]
      have e2 : (N : Int) % (d : Int) = (r : Int) := by rw [← Int.natCast_emod, hr]
      have z1 : ((d : Int) == 0) = false := bno (by omega)
      have z2 : ¬ (d : Int) = 0 := by omega
      have HR := Lib.hid hr
      have HQ := Lib.hid hq
      clear hr hq
      by_cases h0 : r = 0
      · subst h0
        have HB : Hid (B = false) := Bool.eq_false_iff.2 fun h => (HI1.out h).2 d hd1 (by rw [HQ.out]; exact hle) HR.out
        go_wp2_with fail
        go_ret
        exact ⟨ret_bool HB.out.symm, by first | rfl | trivial⟩
      · have h0' : ((r : Int) == 0) = false := bno (by omega)
        go_wp2_with fail
        go_roundw
        case rel => exact ⟨d + 1, by omega, by omega, by go_num, fun k hk hk2 => by
          by_cases e : k = d
          · subst e; rw [HR.out]; exact h0
          · exact HD.out k hk (by omega), by first | rfl | trivial⟩
        case measure => simp [intOf]; omega
    · have HND : Hid (1 < N → NoDiv 2 N) := fun h => ⟨h, fun k hk hkk => HD.out k hk (by
        by_cases hkd : k < d
        · exact hkd
        · have := Nat.mul_le_mul (show d ≤ k by omega) (show d ≤ k by omega)
          omega)⟩
      clear hq
      by_cases hN : 2 ≤ N
      · have HB : Hid (B = true) := HI2.out (HND.out (by omega))
        go_wp2_with fail
        go_ret
        exact ⟨ret_bool (by rw [HB.out]; simp; omega), by first | rfl | trivial⟩
      · have HB : Hid (B = false) := Bool.eq_false_iff.2 fun h => by have := (HI1.out h).1; omega
        go_wp2_with fail
        go_ret
        exact ⟨ret_bool HB.out.symm, by first | rfl | trivial⟩
end Go.Proofs.Ytonffapiamhdbaa

namespace Go.Proofs.Ytonffapiamhdbaa
open Go.RowKit
set_option linter.unusedVariables false
set_option linter.unusedSimpArgs false
set_option maxRecDepth 100000
theorem IsT.knum {w : World} {F : Nat → Prop} {k n : Int} {a : Option Addr} {m cap : Nat} {t : Tr} (h : IsT w F k n a m cap t) (i : Nat) (hi : i < m) :
    ∃ b off, a = some ⟨b, off, none⟩ ∧ b < w.heap.size ∧ w.cell? ⟨b, off + i * 3 + 1, none⟩ = some (.int .i64 (Tr.kid t.kids i).num) ∧ -9223372036854775808 ≤ (Tr.kid t.kids i).num ∧ (Tr.kid t.kids i).num < 9223372036854775808 := by
  obtain ⟨b, off, k', n', a', m', c', ha, hF, hlt, h0, h1, h2, hT⟩ := h.kid i hi
  have e := hT.en
  subst e
  exact ⟨b, off, ha, hlt, h1, hT.fn⟩
theorem ref14_power (n : Int) (w : World) (hn : -9223372036854775808 ≤ n ∧ n < 9223372036854775808) :
    Calls Try.prog 47 #[.int .i64 n] w fun e w' => e = .returned (.bool (hasP2 n)) ∧ w = w' := by
  have C1 : Hid (∀ w : World, Calls Try.prog 55 #[.int .i64 n] w fun e w' => e = .returned (.bool (isP2 n)) ∧ w = w') := fun w => refPower n w ⟨hn.1, by omega⟩
  by_cases h0 : n < 1
  · have HF : Hid (hasP2 n = false) := by unfold Hid hasP2; rw [isP2_neg n (by omega)]; rfl
    go_enter Try.func47, Try.ntmps47
    go_wp2_with fail
    go_ret
    exact ⟨ret_bool HF.out.symm, rfl⟩
  · by_cases h1 : 16777216 < n
    · have HF : Hid (hasP2 n = false) := by unfold Hid hasP2; rw [show decide (n ≤ 16777216) = false by simp; omega, Bool.and_false]
      go_enter Try.func47, Try.ntmps47
      go_wp2_with fail
      go_ret
      exact ⟨ret_bool HF.out.symm, rfl⟩
    · have HF : Hid (hasP2 n = isP2 n) := by unfold Hid hasP2; rw [show decide (n ≤ 16777216) = true by simp; omega, Bool.and_true]
      rw [HF.out]
      obtain ⟨B, hB⟩ : ∃ B, isP2 n = B := ⟨_, rfl⟩
      rw [hB] at C1 ⊢
      clear hB HF
      go_enter Try.func47, Try.ntmps47
      go_wp2_with fail
      refine (C1.out _).mono ?_; rintro e w' ⟨rfl, rfl⟩
      go_wp2_with fail
      go_ret
      exact ⟨rfl, rfl⟩
set_option maxHeartbeats 4000000 in
theorem valid_sides (t : Tr) (k n : Int) (a : Option Addr) (m cap : Nat) (w : World) (F : Nat → Prop) (hT : IsT w F k n a m cap t) :
    Calls Try.prog 65 #[.agg #[.int .i64 k, .int .i64 n, .slice a m cap]] w fun e w' => e = .returned (.bool (sidesB t.num t.kids.length (Tr.kid t.kids 0).num (Tr.kid t.kids 1).num)) ∧ Below w.heap.size w w' := by
  have hn := hT.fn
  have en := hT.en
  have em := hT.em
  by_cases hm : m = 2
  · by_cases hs : hasSz n = true
    · obtain ⟨b, off, rfl, hbl, c0, d0⟩ := hT.knum 0 (by omega)
      obtain ⟨b', off', ha, _, c1, d1⟩ := hT.knum 1 (by omega)
      simp only [Option.some.injEq, Addr.mk.injEq, and_true] at ha
      obtain ⟨rfl, rfl⟩ := ha
      have hb := hasSz_bd hs
      have HS : Hid (∀ W, Calls Try.prog 37 #[.int .i64 n] W fun e w' => e = .returned (.bool true) ∧ W = w') := fun W => rootHas_yes n W hs
      have HB : Hid (sidesB t.num t.kids.length (Tr.kid t.kids 0).num (Tr.kid t.kids 1).num = decide (2 ≤ (Tr.kid t.kids 0).num ∧ 2 ≤ (Tr.kid t.kids 1).num ∧ (Tr.kid t.kids 0).num ≤ n ∧ (Tr.kid t.kids 1).num ≤ n ∧ (Tr.kid t.kids 0).num * (Tr.kid t.kids 1).num = n)) := by
        unfold Hid sidesB
        rw [← en, ← em, hs, Bool.and_true, hm]
        simp
      rw [HB.out]
      clear HB
      obtain ⟨k0, hk0⟩ : ∃ x, (Tr.kid t.kids 0).num = x := ⟨_, rfl⟩
      obtain ⟨k1, hk1⟩ : ∃ x, (Tr.kid t.kids 1).num = x := ⟨_, rfl⟩
      rw [hk0] at c0 d0 ⊢
      rw [hk1] at c1 d1 ⊢
      clear hk0 hk1 en em hT hs
      subst hm
      rw [Nat.zero_mul, Nat.add_zero] at c0
      rw [Nat.one_mul] at c1
      have c0' := (cell_past w (.cells #[.int .i64 k, .int .i64 n, .slice (some ⟨b, off, none⟩) 2 cap] 34) ⟨b, off + 1, none⟩ hbl).trans c0
      have c1' := (cell_past w (.cells #[.int .i64 k, .int .i64 n, .slice (some ⟨b, off, none⟩) 2 cap] 34) ⟨b, off + 3 + 1, none⟩ hbl).trans c1
      rcases (show ¬ 2 ≤ k0 ∨ (2 ≤ k0 ∧ ¬ 2 ≤ k1) ∨ (2 ≤ k0 ∧ 2 ≤ k1 ∧ ¬ k0 ≤ n) ∨ (2 ≤ k0 ∧ 2 ≤ k1 ∧ k0 ≤ n ∧ ¬ k1 ≤ n) ∨ (2 ≤ k0 ∧ 2 ≤ k1 ∧ k0 ≤ n ∧ k1 ≤ n) by omega) with h | ⟨h, h2⟩ | ⟨h, h2, h3⟩ | ⟨h, h2, h3, h4⟩ | ⟨h, h2, h3, h4⟩
      case' inr.inr.inr.inr =>
        obtain ⟨P, hP⟩ : ∃ P, k0 * k1 = P := ⟨_, rfl⟩
        have p1 : 0 ≤ P := by rw [← hP]; exact Int.mul_nonneg (by omega) (by omega)
        have p2 : P ≤ 16777216 * 16777216 := by rw [← hP]; exact Int.mul_le_mul (by omega) (by omega) (by omega) (by omega)
        rw [hP]
      all_goals
        go_enter Try.func65, Try.ntmps65
        go_wp2_with fail
        refine (HS.out _).mono ?_; rintro e w1 ⟨rfl, rfl⟩
        go_wp2_with fail
        go_quiet (fail)
        go_wp2_with fail
        go_ret
        exact ⟨ret_bool (by first | (simp; omega) | (simp; done) | (rw [Bool.eq_iff_iff]; simp [h, h2, h3, h4])), below_drewN ((Below.refl _ _).alloc (Nat.le_refl _) _) _⟩
    · have HS : Hid (∀ W, Calls Try.prog 37 #[.int .i64 n] W fun e w' => e = .returned (.bool false) ∧ W = w') := fun W => rootHas_no n W (by simpa using hs) hn
      have HB : Hid (sidesB t.num t.kids.length (Tr.kid t.kids 0).num (Tr.kid t.kids 1).num = false) := by
        unfold Hid sidesB
        rw [← en, show hasSz n = false by simpa using hs, Bool.and_false]
      rw [HB.out]
      subst hm
      clear HB hT en em hs
      go_enter Try.func65, Try.ntmps65
      go_wp2_with fail
      refine (HS.out _).mono ?_; rintro e w1 ⟨rfl, rfl⟩
      go_wp2_with fail
      go_ret
      exact ⟨rfl, (Below.refl _ _).alloc (Nat.le_refl _) _⟩
  · have HB : Hid (sidesB t.num t.kids.length (Tr.kid t.kids 0).num (Tr.kid t.kids 1).num = false) := by
      unfold Hid sidesB
      rw [← em, decide_eq_false (by intro h; exact hm h.1), Bool.false_and]
    rw [HB.out]
    have h2 : ((m : Int) != 2) = true := bdiff (by omega)
    clear HB hT en em hm
    go_enter Try.func65, Try.ntmps65
    go_wp2_with fail
    go_ret
    exact ⟨rfl, (Below.refl _ _).alloc (Nat.le_refl _) _⟩
/-- The two tests that a single child is put to. -/
theorem valid_Node1 (bd : Nat) (k n x : Int) (a : Option Addr) (m cap : Nat) (w : World) (hb : w.heap[bd]? = some (.cells #[.int .i64 k, .int .i64 n, .slice a m cap] 34 (0, 0))) (hn : 1 ≤ n ∧ n ≤ 16777216) :
    Calls Try.prog 68 #[.int .i64 x, .pointer (some ⟨bd, 0, none⟩)] w fun e w' => e = .returned (.bool (decide (x = n - 1))) ∧ w = w' := by
  have c1 := block_cell hb 1
  simp at c1
  clear hb
  by_cases h : x = n - 1
  · have h' : (x == n - 1) = true := btrue h
    go_enter Try.func68, Try.ntmps68
    go_wp2_with fail
    go_ret
    exact ⟨ret_bool (by simp; try omega), rfl⟩
  · have h' : (x == n - 1) = false := bno h
    go_enter Try.func68, Try.ntmps68
    go_wp2_with fail
    go_ret
    exact ⟨ret_bool (by simp; try omega), rfl⟩
theorem valid_Node2 (bd : Nat) (k n x : Int) (a : Option Addr) (m cap : Nat) (w : World) (hb : w.heap[bd]? = some (.cells #[.int .i64 k, .int .i64 n, .slice a m cap] 34 (0, 0))) (hn : 1 ≤ n ∧ n ≤ 16777216) (hx : -9223372036854775808 ≤ x ∧ x < 9223372036854775808) :
    Calls Try.prog 69 #[.int .i64 x, .pointer (some ⟨bd, 0, none⟩)] w fun e w' => e = .returned (.bool (decide (2 * n - 1 ≤ x) && hasP2 x)) ∧ w = w' := by
  have c1 := block_cell hb 1
  simp at c1
  have HS : Hid (∀ W, Calls Try.prog 63 #[.int .i64 x] W fun e w' => e = .returned (.bool (hasP2 x)) ∧ W = w') := fun W => stock_Has x W ⟨hx.1, by omega⟩
  obtain ⟨B, hB⟩ : ∃ B, hasP2 x = B := ⟨_, rfl⟩
  rw [hB] at HS ⊢
  clear hb hB
  by_cases h : 2 * n - 1 ≤ x
  · have h' : decide (x ≥ 2 * n - 1) = true := by simp; omega
    have h'' : decide (2 * n - 1 ≤ x) = true := by simp; omega
    go_enter Try.func69, Try.ntmps69
    go_wp2_with fail
    refine (HS.out _).mono ?_; rintro e w1 ⟨rfl, rfl⟩
    go_wp2_with fail
    go_ret
    exact ⟨ret_bool (by first | rfl | (rw [h'']; simp)), rfl⟩
  · have h' : decide (x ≥ 2 * n - 1) = false := by simp; omega
    have h'' : decide (2 * n - 1 ≤ x) = false := by simp; omega
    go_enter Try.func69, Try.ntmps69
    go_wp2_with fail
    go_ret
    exact ⟨ret_bool (by first | rfl | (rw [h'']; simp)), rfl⟩
/-- What the one child is asked. -/
def oneB (n : Int) (m : Nat) (P : Bool) : Bool := decide (m = 1) && hasSz n && P
set_option maxHeartbeats 2000000 in
theorem valid_single (f : Nat) (bd : Nat) (t : Tr) (k n : Int) (a : Option Addr) (m cap : Nat) (w : World) (F : Nat → Prop) (P : Bool) (hT : IsT w F k n a m cap t)
    (hf : m = 1 → hasSz n = true → ∀ W, Below w.heap.size w W → Calls Try.prog f #[.int .i64 (Tr.kid t.kids 0).num, .pointer (some ⟨bd, 0, none⟩)] W fun e w' => e = .returned (.bool P) ∧ W = w')
    (eg : ∀ args w, (callFunc f args).run Try.prog w = .ok (.enter f args) w) :
    Calls Try.prog 67 #[.agg #[.int .i64 k, .int .i64 n, .slice a m cap], .func (.func f) #[] #[.pointer (some ⟨bd, 0, none⟩)]] w fun e w' => e = .returned (.bool (oneB n m P)) ∧ Below w.heap.size w w' := by
  have hn := hT.fn
  by_cases hm : m = 1
  · by_cases hs : hasSz n = true
    · obtain ⟨b, off, rfl, hbl, c0, d0⟩ := hT.knum 0 (by omega)
      have HS : Hid (∀ W, Calls Try.prog 37 #[.int .i64 n] W fun e w' => e = .returned (.bool true) ∧ W = w') := fun W => rootHas_yes n W hs
      have HF := Lib.hid (hf hm hs)
      have HB : Hid (oneB n m P = P) := by unfold Hid oneB; rw [hs, hm]; simp
      rw [HB.out]
      obtain ⟨k0, hk0⟩ : ∃ x, (Tr.kid t.kids 0).num = x := ⟨_, rfl⟩
      rw [hk0] at c0 d0 HF
      subst hm
      rw [Nat.zero_mul, Nat.add_zero] at c0
      have c0' := (cell_past w (.cells #[.int .i64 k, .int .i64 n, .slice (some ⟨b, off, none⟩) 1 cap] 34) ⟨b, off + 1, none⟩ hbl).trans c0
      clear hf hT hs HB hk0 c0
      go_enter Try.func67, Try.ntmps67
      go_wp2_with fail
      refine (HS.out _).mono ?_; rintro e w1 ⟨rfl, rfl⟩
      go_wp2_with fail
      refine (HF.out _ ((Below.refl _ _).alloc (Nat.le_refl _) _)).mono ?_; rintro e w1 ⟨rfl, rfl⟩
      go_wp2_with fail
      go_ret
      exact ⟨rfl, (Below.refl _ _).alloc (Nat.le_refl _) _⟩
    · have HS : Hid (∀ W, Calls Try.prog 37 #[.int .i64 n] W fun e w' => e = .returned (.bool false) ∧ W = w') := fun W => rootHas_no n W (by simpa using hs) hn
      have HB : Hid (oneB n m P = false) := by unfold Hid oneB; rw [show hasSz n = false by simpa using hs]; simp
      rw [HB.out]
      subst hm
      clear HB hT hs hf
      go_enter Try.func67, Try.ntmps67
      go_wp2_with fail
      refine (HS.out _).mono ?_; rintro e w1 ⟨rfl, rfl⟩
      go_wp2_with fail
      go_ret
      exact ⟨rfl, (Below.refl _ _).alloc (Nat.le_refl _) _⟩
  · have HB : Hid (oneB n m P = false) := by unfold Hid oneB; rw [decide_eq_false hm]; rfl
    rw [HB.out]
    have h2 : ((m : Int) == 1) = false := bno (by omega)
    clear HB hT hm hf
    go_enter Try.func67, Try.ntmps67
    go_wp2_with fail
    go_ret
    exact ⟨rfl, (Below.refl _ _).alloc (Nat.le_refl _) _⟩
end Go.Proofs.Ytonffapiamhdbaa

namespace Go.Proofs.Ytonffapiamhdbaa
open Go.RowKit
set_option linter.unusedVariables false
set_option linter.unusedSimpArgs false
set_option maxRecDepth 100000
set_option maxRecDepth 20000
set_option maxHeartbeats 4000000 in
theorem valid_Node_leaf (t : Tr) (n : Int) (a : Option Addr) (m cap : Nat) (w : World) (F : Nat → Prop) (k : Int) (hk : k = 1 ∨ k = 2 ∨ k = 3) (hT : IsT w F k n a m cap t) :
    Calls Try.prog 60 #[.agg #[.int .i64 k, .int .i64 n, .slice a m cap]] w fun e w' => e = .returned (.bool (nodeOk t)) ∧ Below w.heap.size w w' := by
  have hn := hT.fn
  have en := hT.en
  have em := hT.em
  have ek := hT.ek
  obtain ⟨B, hB⟩ : ∃ B, hasSz n = B := ⟨_, rfl⟩
  have HS : Hid (∀ W, Calls Try.prog 37 #[.int .i64 n] W fun e w' => e = .returned (.bool B) ∧ W = w') := fun W => by
    cases B with
    | true => exact rootHas_yes n W hB
    | false => exact rootHas_no n W hB hn
  have HSM : Hid (∀ W, Calls Try.prog 62 #[.int .i64 n] W fun e w' => e = .returned (.bool (decide (1 ≤ n ∧ n ≤ 5))) ∧ W = w') := fun W => small_Has n W
  obtain ⟨C, hC⟩ : ∃ C, hasP2 n = C := ⟨_, rfl⟩
  have HST : Hid (∀ W, Calls Try.prog 63 #[.int .i64 n] W fun e w' => e = .returned (.bool C) ∧ W = w') := fun W => by rw [← hC]; exact stock_Has n W ⟨hn.1, by omega⟩
  have HN : Hid (nodeOk t = nodeB k n m (Tr.kid t.kids 0).num (Tr.kid t.kids 1).num) := by unfold Hid nodeOk; rw [ek, en, em]
  rw [HN.out]
  clear HN hT en em ek
  rcases hk with rfl | rfl | rfl
  · have HN : Hid (nodeB 1 n m (Tr.kid t.kids 0).num (Tr.kid t.kids 1).num = (decide (m = 0 ∧ n ≤ 64) && B)) := by unfold Hid nodeB; rw [if_pos rfl, hB]
    rw [HN.out]
    clear HN hB hC
    by_cases hm : m = 0
    · subst hm
      cases B with
      | true =>
        by_cases h : n ≤ 64
        all_goals
          go_enter Try.func60, Try.ntmps60
          go_wp2_with fail
          refine (HS.out _).mono ?_; rintro e w1 ⟨rfl, rfl⟩
          go_wp2_with fail
          go_ret
          exact ⟨ret_bool (by simp [h]), (Below.refl _ _).alloc (Nat.le_refl _) _⟩
      | false =>
        go_enter Try.func60, Try.ntmps60
        go_wp2_with fail
        refine (HS.out _).mono ?_; rintro e w1 ⟨rfl, rfl⟩
        go_wp2_with fail
        go_ret
        exact ⟨ret_bool (by simp), (Below.refl _ _).alloc (Nat.le_refl _) _⟩
    · have hm' : ((m : Int) == 0) = false := bno (by omega)
      go_enter Try.func60, Try.ntmps60
      go_wp2_with fail
      go_ret
      exact ⟨ret_bool (by simp [hm]), (Below.refl _ _).alloc (Nat.le_refl _) _⟩
  · have HN : Hid (nodeB 2 n m (Tr.kid t.kids 0).num (Tr.kid t.kids 1).num = decide (m = 0 ∧ 2 ≤ n ∧ n ≤ 5)) := by unfold Hid nodeB; simp
    rw [HN.out]
    clear HN hB hC
    rcases (show (n < 1 ∨ 5 < n) ∨ (1 ≤ n ∧ n ≤ 5) by omega) with h5 | h5
    · have hd : decide (1 ≤ n ∧ n ≤ 5) = false := by simp; omega
      rw [hd] at HSM
      clear hd
      go_enter Try.func60, Try.ntmps60
      go_wp2_with fail
      refine (HSM.out _).mono ?_; rintro e w1 ⟨rfl, rfl⟩
      go_wp2_with fail
      go_ret
      exact ⟨ret_bool (by simp; omega), (Below.refl _ _).alloc (Nat.le_refl _) _⟩
    · have hd : decide (1 ≤ n ∧ n ≤ 5) = true := by simp; omega
      rw [hd] at HSM
      clear hd
      by_cases hm : m = 0
      · subst hm
        by_cases h2 : 2 ≤ n
        all_goals
          go_enter Try.func60, Try.ntmps60
          go_wp2_with fail
          refine (HSM.out _).mono ?_; rintro e w1 ⟨rfl, rfl⟩
          go_wp2_with fail
          go_ret
          exact ⟨ret_bool (by simp; try omega), (Below.refl _ _).alloc (Nat.le_refl _) _⟩
      · have hm' : ((m : Int) == 0) = false := bno (by omega)
        go_enter Try.func60, Try.ntmps60
        go_wp2_with fail
        refine (HSM.out _).mono ?_; rintro e w1 ⟨rfl, rfl⟩
        go_wp2_with fail
        go_ret
        exact ⟨ret_bool (by simp [hm]), (Below.refl _ _).alloc (Nat.le_refl _) _⟩
  · have HN : Hid (nodeB 3 n m (Tr.kid t.kids 0).num (Tr.kid t.kids 1).num = (decide (m = 0 ∧ 2 ≤ n) && C)) := by unfold Hid nodeB; simp [hC]
    rw [HN.out]
    clear HN hB hC
    by_cases hm : m = 0
    · subst hm
      by_cases h2 : 2 ≤ n
      · go_enter Try.func60, Try.ntmps60
        go_wp2_with fail
        refine (HST.out _).mono ?_; rintro e w1 ⟨rfl, rfl⟩
        go_wp2_with fail
        go_ret
        exact ⟨ret_bool (by first | (simp [h2]; done) | (simp; intros; omega)), (Below.refl _ _).alloc (Nat.le_refl _) _⟩
      · go_enter Try.func60, Try.ntmps60
        go_wp2_with fail
        go_ret
        exact ⟨ret_bool (by first | (simp [h2]; done) | (simp; intros; omega)), (Below.refl _ _).alloc (Nat.le_refl _) _⟩
    · have hm' : ((m : Int) == 0) = false := bno (by omega)
      go_enter Try.func60, Try.ntmps60
      go_wp2_with fail
      go_ret
      exact ⟨ret_bool (by simp [hm]), (Below.refl _ _).alloc (Nat.le_refl _) _⟩
set_option maxHeartbeats 4000000 in
theorem valid_Node_4 (t : Tr) (n : Int) (a : Option Addr) (m cap : Nat) (w : World) (F : Nat → Prop) (hT : IsT w F 4 n a m cap t) :
    Calls Try.prog 60 #[.agg #[.int .i64 4, .int .i64 n, .slice a m cap]] w fun e w' => e = .returned (.bool (nodeOk t)) ∧ Below w.heap.size w w' := by
  have HV : Hid (∀ W, Below w.heap.size w W → Calls Try.prog 65 #[.agg #[.int .i64 4, .int .i64 n, .slice a m cap]] W fun e w' => e = .returned (.bool (sidesB t.num t.kids.length (Tr.kid t.kids 0).num (Tr.kid t.kids 1).num)) ∧ Below W.heap.size W w') := fun W hb => valid_sides t 4 n a m cap W F (hT.below hb)
  have HN : Hid (nodeOk t = sidesB t.num t.kids.length (Tr.kid t.kids 0).num (Tr.kid t.kids 1).num) := by unfold Hid nodeOk nodeB; rw [← hT.ek]; simp
  rw [HN.out]
  clear HN hT
  go_enter Try.func60, Try.ntmps60
  go_wp2_with fail
  refine (HV.out _ ((Below.refl _ _).alloc (Nat.le_refl _) _)).mono ?_; rintro e w1 ⟨rfl, hb⟩
  go_wp2_with fail
  go_ret
  exact ⟨rfl, chainA (Below.refl _ _) hb⟩
set_option maxHeartbeats 4000000 in
theorem valid_Node_5 (t : Tr) (n : Int) (a : Option Addr) (m cap : Nat) (w : World) (F : Nat → Prop) (hT : IsT w F 5 n a m cap t) :
    Calls Try.prog 60 #[.agg #[.int .i64 5, .int .i64 n, .slice a m cap]] w fun e w' => e = .returned (.bool (nodeOk t)) ∧ Below w.heap.size w w' := by
  have HN : Hid (nodeOk t = (sidesB t.num t.kids.length (Tr.kid t.kids 0).num (Tr.kid t.kids 1).num && decide (gcdI (Tr.kid t.kids 0).num (Tr.kid t.kids 1).num = 1))) := by unfold Hid nodeOk nodeB; rw [← hT.ek]; simp
  rw [HN.out]
  clear HN
  by_cases hm : m = 2
  · have HV : Hid (∀ W, Below w.heap.size w W → Calls Try.prog 65 #[.agg #[.int .i64 5, .int .i64 n, .slice a m cap]] W fun e w' => e = .returned (.bool (sidesB t.num t.kids.length (Tr.kid t.kids 0).num (Tr.kid t.kids 1).num)) ∧ Below W.heap.size W w') := fun W hb => valid_sides t 5 n a m cap W F (hT.below hb)
    obtain ⟨b, off, rfl, hbl, c0, d0⟩ := hT.knum 0 (by omega)
    obtain ⟨b', off', ha, _, c1, d1⟩ := hT.knum 1 (by omega)
    simp only [Option.some.injEq, Addr.mk.injEq, and_true] at ha
    obtain ⟨rfl, rfl⟩ := ha
    obtain ⟨S, hS⟩ : ∃ S, sidesB t.num t.kids.length (Tr.kid t.kids 0).num (Tr.kid t.kids 1).num = S := ⟨_, rfl⟩
    rw [hS] at HV ⊢
    obtain ⟨k0, hk0⟩ : ∃ x, (Tr.kid t.kids 0).num = x := ⟨_, rfl⟩
    obtain ⟨k1, hk1⟩ : ∃ x, (Tr.kid t.kids 1).num = x := ⟨_, rfl⟩
    rw [hk0] at c0 d0 ⊢
    rw [hk1] at c1 d1 ⊢
    have HG : Hid (∀ W, Calls Try.prog 64 #[.int .i64 k0, .int .i64 k1] W fun e w' => e = .returned (.int .i64 (gcdI k0 k1)) ∧ Below W.heap.size W w') := fun W => factGcdI k0 k1 W d0 d1
    obtain ⟨G, hG⟩ : ∃ G, gcdI k0 k1 = G := ⟨_, rfl⟩
    rw [hG] at HG ⊢
    clear hk0 hk1 hS hG hT
    subst hm
    rw [Nat.zero_mul, Nat.add_zero] at c0
    rw [Nat.one_mul] at c1
    have c0' := (cell_past w (.cells #[.int .i64 5, .int .i64 n, .slice (some ⟨b, off, none⟩) 2 cap] 34) ⟨b, off + 1, none⟩ hbl).trans c0
    have c1' := (cell_past w (.cells #[.int .i64 5, .int .i64 n, .slice (some ⟨b, off, none⟩) 2 cap] 34) ⟨b, off + 3 + 1, none⟩ hbl).trans c1
    have hx : (w.alloc (.cells #[.int .i64 5, .int .i64 n, .slice (some ⟨b, off, none⟩) 2 cap] 34)).heap[w.heap.size]? = some (.cells #[.int .i64 5, .int .i64 n, .slice (some ⟨b, off, none⟩) 2 cap] 34 (0, 0)) := block_new rfl
    have hbw : Below w.heap.size w (w.alloc (.cells #[.int .i64 5, .int .i64 n, .slice (some ⟨b, off, none⟩) 2 cap] 34)) := (Below.refl _ _).alloc (Nat.le_refl _) _
    obtain ⟨W0, hW0⟩ : ∃ W0, w.alloc (.cells #[.int .i64 5, .int .i64 n, .slice (some ⟨b, off, none⟩) 2 cap] 34) = W0 := ⟨_, rfl⟩
    rw [hW0] at hx c0' c1' hbw
    have y0 := block_cell hx 0
    have y1 := block_cell hx 1
    have y2 := block_cell hx 2
    simp at y0 y1 y2
    have HBW := Lib.hid hbw
    have HW0 := Lib.hid hW0
    have HX := Lib.hid hx
    clear hx hbw hW0 c0 c1
    by_cases hg : G = 1
    · have hg1 : (G == 1) = true := btrue hg
      have HGG := Lib.hid hg
      clear hg
      go_enter Try.func60, Try.ntmps60
      go_wp2_with fail
      rw [HW0.out]
      go_still_tail 15, (by kernel_rfl)
      go_wp2_with fail
      refine (HG.out _).mono ?_; rintro e w1 ⟨rfl, hb⟩
      have hb1 : Below w.heap.size w w1 := chain HBW.out.drew hb
      have hx1 := (hb.block _ (block_lt HX.out)).trans HX.out
      have x0 := block_cell hx1 0
      have x1 := block_cell hx1 1
      have x2 := block_cell hx1 2
      simp at x0 x1 x2
      have HB1 := Lib.hid hb1
      clear hx1 hb hb1 c0' c1' y0 y1 y2
      go_wp2_with fail
      refine (HV.out _ HB1.out).mono ?_; rintro e w2 ⟨rfl, hb⟩
      have hb2 := chain HB1.out hb
      clear hb
      go_wp2_with fail
      go_ret
      exact ⟨ret_bool (by simp [HGG.out]), hb2⟩
    · have hg1 : (G == 1) = false := bno hg
      have HGG := Lib.hid hg
      clear hg
      go_enter Try.func60, Try.ntmps60
      go_wp2_with fail
      rw [HW0.out]
      go_still_tail 15, (by kernel_rfl)
      go_wp2_with fail
      refine (HG.out _).mono ?_; rintro e w1 ⟨rfl, hb⟩
      have hb1 : Below w.heap.size w w1 := chain HBW.out.drew hb
      clear hb c0' c1' y0 y1 y2
      go_wp2_with fail
      go_ret
      exact ⟨ret_bool (by simp [HGG.out]), hb1⟩
  · have HB : Hid (sidesB t.num t.kids.length (Tr.kid t.kids 0).num (Tr.kid t.kids 1).num = false) := by
      unfold Hid sidesB
      rw [← hT.em, decide_eq_false (by intro h; exact hm h.1), Bool.false_and]
    rw [HB.out, Bool.false_and]
    have h2 : ((m : Int) == 2) = false := bno (by omega)
    clear HB hT hm
    go_enter Try.func60, Try.ntmps60
    go_wp2_with fail
    go_quiet (fail)
    go_wp2_with fail
    go_ret
    exact ⟨rfl, below_drewN ((Below.refl _ _).alloc (Nat.le_refl _) _) _⟩
set_option maxHeartbeats 4000000 in
theorem valid_Node_6 (t : Tr) (n : Int) (a : Option Addr) (m cap : Nat) (w : World) (F : Nat → Prop) (hT : IsT w F 6 n a m cap t) :
    Calls Try.prog 60 #[.agg #[.int .i64 6, .int .i64 n, .slice a m cap]] w fun e w' => e = .returned (.bool (nodeOk t)) ∧ Below w.heap.size w w' := by
  have hn := hT.fn
  have HN : Hid (nodeOk t = (decide (3 ≤ n) && isPr n && oneB n m (decide ((Tr.kid t.kids 0).num = n - 1)))) := by
    unfold Hid nodeOk nodeB oneB
    rw [← hT.ek, ← hT.en, ← hT.em]
    simp only [if_true, Int.reduceEq, if_false]
    generalize (Tr.kid t.kids 0).num = k0
    cases hasSz n <;> cases isPr n <;> simp only [Bool.and_true, Bool.and_false, Bool.true_and, Bool.false_and] <;> (rw [Bool.eq_iff_iff]; simp only [Bool.and_eq_true, decide_eq_true_eq]; constructor <;> (intro h; omega))
  rw [HN.out]
  have HV : Hid (∀ W, Below w.heap.size w W → W.heap[w.heap.size]? = some (.cells #[.int .i64 6, .int .i64 n, .slice a m cap] 34 (0, 0)) → Calls Try.prog 67 #[.agg #[.int .i64 6, .int .i64 n, .slice a m cap], .func (.func 68) #[] #[.pointer (some ⟨w.heap.size, 0, none⟩)]] W fun e w' => e = .returned (.bool (oneB n m (decide ((Tr.kid t.kids 0).num = n - 1)))) ∧ Below W.heap.size W w') := fun W hb hx =>
    valid_single 68 w.heap.size t 6 n a m cap W F _ (hT.below hb) (fun _ hs W' hb' => valid_Node1 w.heap.size 6 n _ a m cap W' ((hb'.block _ (block_lt hx)).trans hx) (hasSz_bd hs)) (enters_of Try.func68 (by kernel_rfl) rfl)
  obtain ⟨O, hO⟩ : ∃ O, oneB n m (decide ((Tr.kid t.kids 0).num = n - 1)) = O := ⟨_, rfl⟩
  obtain ⟨P, hP⟩ : ∃ P, isPr n = P := ⟨_, rfl⟩
  have HP : Hid (∀ W, Calls Try.prog 66 #[.int .i64 n] W fun e w' => e = .returned (.bool P) ∧ Below W.heap.size W w') := fun W => by rw [← hP]; exact fact_Prime n W hn
  rw [hO] at HV ⊢
  rw [hP]
  clear HN hT hO hP
  have hx : (w.alloc (.cells #[.int .i64 6, .int .i64 n, .slice a m cap] 34)).heap[w.heap.size]? = some (.cells #[.int .i64 6, .int .i64 n, .slice a m cap] 34 (0, 0)) := block_new rfl
  have HX := Lib.hid hx
  clear hx
  by_cases h3 : 3 ≤ n
  · cases P with
    | true =>
      go_enter Try.func60, Try.ntmps60
      go_wp2_with fail
      refine (HP.out _).mono ?_; rintro e w1 ⟨rfl, hb⟩
      have hb1 : Below w.heap.size w w1 := chainA (Below.refl _ _) hb
      have hx1 := (hb.block _ (block_lt HX.out)).trans HX.out
      have HX1 := Lib.hid hx1
      have x0 := block_cell hx1 0
      have x1 := block_cell hx1 1
      have x2 := block_cell hx1 2
      simp at x0 x1 x2
      have HB1 := Lib.hid hb1
      clear hx1 hb hb1
      go_wp2_with fail
      refine (HV.out _ HB1.out HX1.out).mono ?_; rintro e w2 ⟨rfl, hb⟩
      have hb2 := chain HB1.out hb
      clear hb
      go_wp2_with fail
      go_ret
      exact ⟨ret_bool (by simp [h3]), hb2⟩
    | false =>
      go_enter Try.func60, Try.ntmps60
      go_wp2_with fail
      refine (HP.out _).mono ?_; rintro e w1 ⟨rfl, hb⟩
      have hb1 : Below w.heap.size w w1 := chainA (Below.refl _ _) hb
      clear hb
      go_wp2_with fail
      go_ret
      exact ⟨ret_bool (by simp), hb1⟩
  · have h3' : n < 3 := by omega
    go_enter Try.func60, Try.ntmps60
    go_wp2_with fail
    go_ret
    exact ⟨ret_bool (by rw [decide_eq_false (by omega)]; simp), (Below.refl _ _).alloc (Nat.le_refl _) _⟩
set_option maxHeartbeats 4000000 in
theorem valid_Node_7 (t : Tr) (n : Int) (a : Option Addr) (m cap : Nat) (w : World) (F : Nat → Prop) (hT : IsT w F 7 n a m cap t) :
    Calls Try.prog 60 #[.agg #[.int .i64 7, .int .i64 n, .slice a m cap]] w fun e w' => e = .returned (.bool (nodeOk t)) ∧ Below w.heap.size w w' := by
  have hn := hT.fn
  have HN : Hid (nodeOk t = (decide (2 ≤ n) && oneB n m (decide (2 * n - 1 ≤ (Tr.kid t.kids 0).num) && hasP2 (Tr.kid t.kids 0).num))) := by
    unfold Hid nodeOk nodeB oneB
    rw [← hT.ek, ← hT.en, ← hT.em]
    simp only [if_true, Int.reduceEq, if_false]
    generalize hasP2 (Tr.kid t.kids 0).num = H
    generalize (Tr.kid t.kids 0).num = k0
    cases hasSz n <;> cases H <;> simp only [Bool.and_true, Bool.and_false, Bool.true_and, Bool.false_and] <;> (rw [Bool.eq_iff_iff]; simp only [Bool.and_eq_true, decide_eq_true_eq]; constructor <;> (intro h; omega))
  rw [HN.out]
  have HV : Hid (∀ W, Below w.heap.size w W → W.heap[w.heap.size]? = some (.cells #[.int .i64 7, .int .i64 n, .slice a m cap] 34 (0, 0)) → Calls Try.prog 67 #[.agg #[.int .i64 7, .int .i64 n, .slice a m cap], .func (.func 69) #[] #[.pointer (some ⟨w.heap.size, 0, none⟩)]] W fun e w' => e = .returned (.bool (oneB n m (decide (2 * n - 1 ≤ (Tr.kid t.kids 0).num) && hasP2 (Tr.kid t.kids 0).num))) ∧ Below W.heap.size W w') := fun W hb hx =>
    valid_single 69 w.heap.size t 7 n a m cap W F _ (hT.below hb) (fun hm hs W' hb' => by
      obtain ⟨_, _, _, _, _, d0⟩ := hT.knum 0 (by omega)
      exact valid_Node2 w.heap.size 7 n _ a m cap W' ((hb'.block _ (block_lt hx)).trans hx) (hasSz_bd hs) d0) (enters_of Try.func69 (by kernel_rfl) rfl)
  obtain ⟨O, hO⟩ : ∃ O, oneB n m (decide (2 * n - 1 ≤ (Tr.kid t.kids 0).num) && hasP2 (Tr.kid t.kids 0).num) = O := ⟨_, rfl⟩
  rw [hO] at HV ⊢
  clear HN hT hO
  have hx : (w.alloc (.cells #[.int .i64 7, .int .i64 n, .slice a m cap] 34)).heap[w.heap.size]? = some (.cells #[.int .i64 7, .int .i64 n, .slice a m cap] 34 (0, 0)) := block_new rfl
  have HX := Lib.hid hx
  clear hx
  by_cases h3 : 2 ≤ n
  · skip
    go_enter Try.func60, Try.ntmps60
    go_wp2_with fail
    refine (HV.out _ ((Below.refl _ _).alloc (Nat.le_refl _) _) HX.out).mono ?_; rintro e w2 ⟨rfl, hb⟩
    have hb2 := chainA (Below.refl w.heap.size w) hb
    clear hb
    go_wp2_with fail
    go_ret
    exact ⟨ret_bool (by simp [h3]), hb2⟩
  · have h3' : n < 2 := by omega
    go_enter Try.func60, Try.ntmps60
    go_wp2_with fail
    go_ret
    exact ⟨ret_bool (by rw [decide_eq_false (by omega)]; simp), (Below.refl _ _).alloc (Nat.le_refl _) _⟩
set_option maxHeartbeats 4000000 in
theorem valid_Node_0 (t : Tr) (k n : Int) (a : Option Addr) (m cap : Nat) (w : World) (F : Nat → Prop) (hT : IsT w F k n a m cap t) (h : k < 1 ∨ 7 < k) :
    Calls Try.prog 60 #[.agg #[.int .i64 k, .int .i64 n, .slice a m cap]] w fun e w' => e = .returned (.bool (nodeOk t)) ∧ Below w.heap.size w w' := by
  have HN : Hid (nodeOk t = false) := by
    unfold Hid nodeOk nodeB
    rw [← hT.ek, if_neg (by omega), if_neg (by omega), if_neg (by omega), if_neg (by omega), if_neg (by omega), if_neg (by omega), if_neg (by omega)]
  rw [HN.out]
  have e1 : (k == 1) = false := bno (by omega)
  have e2 : (k == 2) = false := bno (by omega)
  have e3 : (k == 3) = false := bno (by omega)
  have e4 : (k == 4) = false := bno (by omega)
  have e5 : (k == 5) = false := bno (by omega)
  have e6 : (k == 6) = false := bno (by omega)
  have e7 : (k == 7) = false := bno (by omega)
  clear HN hT h
  go_enter Try.func60, Try.ntmps60
  go_wp2_with fail
  go_ret
  exact ⟨rfl, (Below.refl _ _).alloc (Nat.le_refl _) _⟩
theorem valid_Node (t : Tr) (k n : Int) (a : Option Addr) (m cap : Nat) (w : World) (F : Nat → Prop) (hT : IsT w F k n a m cap t) :
    Calls Try.prog 60 #[.agg #[.int .i64 k, .int .i64 n, .slice a m cap]] w fun e w' => e = .returned (.bool (nodeOk t)) ∧ Below w.heap.size w w' := by
  by_cases h : k < 1 ∨ 7 < k
  · exact valid_Node_0 t k n a m cap w F hT h
  · rcases (show k = 1 ∨ k = 2 ∨ k = 3 ∨ k = 4 ∨ k = 5 ∨ k = 6 ∨ k = 7 by omega) with h | h | h | rfl | rfl | rfl | rfl
    · exact valid_Node_leaf t n a m cap w F k (.inl h) hT
    · exact valid_Node_leaf t n a m cap w F k (.inr (.inl h)) hT
    · exact valid_Node_leaf t n a m cap w F k (.inr (.inr h)) hT
    · exact valid_Node_4 t n a m cap w F hT
    · exact valid_Node_5 t n a m cap w F hT
    · exact valid_Node_6 t n a m cap w F hT
    · exact valid_Node_7 t n a m cap w F hT
end Go.Proofs.Ytonffapiamhdbaa

namespace Go.Proofs.Ytonffapiamhdbaa
open Go.RowKit
set_option linter.unusedVariables false
set_option linter.unusedSimpArgs false
set_option maxRecDepth 100000
set_option maxRecDepth 20000
theorem box_any (W : World) (cs : Array Value) (T : TypeId) : ∃ W', W.alloc (.cells cs T) = W' ∧ Below W.heap.size W W' ∧ W'.heap[W.heap.size]? = some (.cells cs T (0, 0)) :=
  ⟨_, rfl, (Below.refl _ _).alloc (Nat.le_refl _) _, block_new rfl⟩
/-- append of one number to a row of which nothing but its numbers is known, cut to its length: always a new row. -/
theorem wp_append_int {P : Program} {w : World} {o : Oper} {a : Act} {K : Act → World → Prop} {Q : Exit → Act → World → Prop} (s x : Operand) (t : TypeId) (hop : o.op = Op.call { callee := Callee.builtin Builtin.append, args := #[s, x], argTypes := #[t, t] })
    (e : TypeId) (i : TypeInfo) (h1 : P.underlying t = some (.slice e)) (h2 : P.info? e = some i) (h3 : i.zero = some (.int .i64 0)) (h4 : i.size = 1) (h5 : i.bytes = 8)
    (ao : Option Addr) (n : Nat) (xs : List Int) (hs : a.eval s = .slice ao n n) (hrow : Row .i64 w ao xs) (hn : xs.length = n) (hnone : ao = none → n = 0)
    (ad : Addr) (y : Int) (hy : fits .i64 y) (hx : a.eval x = .slice (some ad) 1 1) (hc : w.cell? ad = some (.int .i64 y)) (hl : n ≤ 16777216)
    (hK : ∀ g cap w', Row .i64 w' (some ⟨g, 0, none⟩) (xs ++ [y]) → n + 1 ≤ cap → Below w.heap.size w w' → K (a.put o.dst (.slice (some ⟨g, 0, none⟩) (n + 1) cap)) w') : o.wp P a w K Q := by
  have hwf : ∀ u ∈ xs ++ [y], fits .i64 u := fun u hu => by
    rcases List.mem_append.1 hu with h | h
    · exact hrow.wf u h
    · rw [List.mem_singleton.1 h]; exact hy
  have fin : ∀ v' w', w'.ownsRow w.heap.size e 1 v' (n + 1) (xs.map (Value.int .i64) ++ [.int .i64 y]) → w.grownBy w' none → ∃ g cap, v' = .slice (some ⟨g, 0, none⟩) (n + 1) cap ∧ Row .i64 w' (some ⟨g, 0, none⟩) (xs ++ [y]) ∧ n + 1 ≤ cap ∧ Below w.heap.size w w' := fun v' w' ho hg => by
    obtain ⟨a', cap, rfl, hcap, hga⟩ := own_slice2 ho
    obtain ⟨g, rfl⟩ := hga (by omega)
    refine ⟨g, cap, rfl, Row.of_own (n := n + 1) (base := w.heap.size) (e := e) (cap := cap) (by simp [hn]) (by omega) hwf ?_, hcap.1, ⟨hg.os, hg.tape, hg.output, hg.size, fun k hk => hg.block k hk (by simp)⟩⟩
    rw [List.map_append]; exact ho
  have hnew : ∀ j u, [Value.int .i64 y][j]? = some u → w.cell? (ad.add j) = some u := fun j u hj => by
    match j, hj with
    | 0, hj => simp at hj; subst hj; rw [show ad.add 0 = ad by simp [Addr.add]]; exact hc
  cases ao with
  | some b =>
    have holds : ∀ j u, (xs.map (Value.int .i64))[j]? = some u → w.cell? (b.add j) = some u := fun j u hj => by
      have hjl : j < xs.length := by simpa using (List.getElem?_eq_some_iff.1 hj).1
      obtain ⟨bb, off, hb, hcell⟩ := hrow.at (by omega)
      cases hb
      have h4 : u = .int .i64 (nth xs j) := by
        simp [hjl] at hj
        rw [← hj]; simp [nth, hjl]
      rw [h4, ← hcell j hjl]
      by_cases hj0 : j = 0
      · subst hj0; simp [Addr.add]
      · simp [Addr.add, hj0]
    obtain ⟨v', w', hrun, r1, r2⟩ := run_append_arg_grows (P := P) w t o.type e i (.int .i64 0) 1 8 h1 h2 h3 h4 h5 rfl (by omega) b n n (xs.map (Value.int .i64)) (by simp [hn]) holds ad 1 1 [.int .i64 y] rfl hnew (by omega) (by unfold maxLen; omega) (by omega)
    obtain ⟨g, cap, rfl, q1, q2, q3⟩ := fin v' w' r1 r2
    unfold Oper.wp
    simp [execOp, hop, resolve, invoke, builtin, hs, hx, hrun, Result.andThen]
    exact hK _ _ _ q1 q2 q3
  | none =>
    obtain rfl := hnone rfl
    obtain rfl : xs = [] := List.eq_nil_of_length_eq_zero hn
    obtain ⟨v', w', hrun, r1, r2, _⟩ := run_append_own (P := P) w w.heap.size t o.type e i (.int .i64 0) 1 8 h1 h2 h3 h4 h5 rfl (by omega) (.slice none 0 0) 0 [] (World.ownsRow_nil w _ e 1) ad 1 1 [.int .i64 y] rfl hnew (by intro u hu; simp at hu; subst hu; rfl) (by unfold maxLen; omega) (by omega) (Nat.le_refl _)
    obtain ⟨g, cap, rfl, q1, q2, q3⟩ := fin v' w' r1 r2
    unfold Oper.wp
    simp [execOp, hop, resolve, invoke, builtin, hs, hx, hrun, Result.andThen]
    exact hK _ _ _ q1 q2 q3
theorem step_append_int {P : Program} {w : World} {ops : Array Oper} {o : Oper} {a : Act} {K : Act → World → Prop} {Q : Exit → Act → World → Prop} {E : Prop} (hgd : o.guard = none) (s x : Operand) (t : TypeId) (hop : o.op = Op.call { callee := Callee.builtin Builtin.append, args := #[s, x], argTypes := #[t, t] })
    (e : TypeId) (i : TypeInfo) (h1 : P.underlying t = some (.slice e)) (h2 : P.info? e = some i) (h3 : i.zero = some (.int .i64 0)) (h4 : i.size = 1) (h5 : i.bytes = 8)
    (ao : Option Addr) (n : Nat) (xs : List Int) (hs : a.eval s = .slice ao n n) (hrow : Row .i64 w ao xs) (hn : xs.length = n) (hnone : ao = none → n = 0)
    (ad : Addr) (y : Int) (hy : fits .i64 y) (hx : a.eval x = .slice (some ad) 1 1) (hc : w.cell? ad = some (.int .i64 y)) (hl : n ≤ 16777216)
    (hK : ∀ g cap w', Row .i64 w' (some ⟨g, 0, none⟩) (xs ++ [y]) → n + 1 ≤ cap → Below w.heap.size w w' → K (a.put o.dst (.slice (some ⟨g, 0, none⟩) (n + 1) cap)) w') :
    if Region.wanted o (yielded ops a.tmps) = true then Oper.wp P o a w K Q else E := by
  have hw : Region.wanted o (yielded ops a.tmps) = true := by simp [Region.wanted, hgd]
  rw [if_pos hw]
  exact wp_append_int s x t hop e i h1 h2 h3 h4 h5 ao n xs hs hrow hn hnone ad y hy hx hc hl hK
/-- A result: a path (from ps on) and whether there is one. -/
def GivesWr (ps : List Int) (r : Option (List Int)) (w : World) (e : Ending) (w' : World) : Prop :=
  match r with
  | none => e = .returned (.tuple #[.slice none 0 0, .bool false]) ∧ Below w.heap.size w w'
  | some q => ∃ a l c, e = .returned (.tuple #[.slice a l c, .bool true]) ∧ (ps ++ q).length = l ∧ Row .i64 w' a (ps ++ q) ∧ OkCap a l c ∧ Below w.heap.size w w'
theorem GivesWr.from {ps : List Int} {r : Option (List Int)} {w wr : World} {e : Ending} {w' : World} (h : GivesWr ps r wr e w') (hb : Below w.heap.size w wr) : GivesWr ps r w e w' := by
  cases r with
  | none => exact ⟨h.1, chain hb h.2⟩
  | some q =>
    obtain ⟨a, l, c, h1, h2, h3, h4, h5⟩ := h
    exact ⟨a, l, c, h1, h2, h3, h4, chain hb h5⟩
namespace Tr
theorem wrongL_some {ks : List Tr} {j : Nat} {p : List Int} (h : j < ks.length) (hw : wrong (kid ks j) = some p) : wrongL j (ks.drop j) = some ((j : Int) :: p) := by
  rw [drop_kid h]; simp only [wrongL, hw]
theorem wrongL_none {ks : List Tr} {j : Nat} (h : j < ks.length) (hw : wrong (kid ks j) = none) : wrongL j (ks.drop j) = wrongL (j + 1) (ks.drop (j + 1)) := by
  rw [drop_kid h]; simp only [wrongL, hw]
theorem wrongL_end {ks : List Tr} {j : Nat} (h : ks.length ≤ j) : wrongL j (ks.drop j) = none := by
  rw [List.drop_of_length_le h]; simp only [wrongL]
end Tr
set_option maxHeartbeats 4000000 in
theorem valid_wrong (N : Nat) (hN : N ≤ 4194304) : ∀ (t : Tr) (k n : Int) (a : Option Addr) (m cap : Nat) (pa : Option Addr) (pn pc : Nat) (ps : List Int) (w : World) (F : Nat → Prop), t.size ≤ N → IsT w F k n a m cap t → Row .i64 w pa ps → ps.length = pn → OkCap pa pn pc → pn + t.size ≤ 8388608 →
    Calls Try.prog 54 #[.agg #[.int .i64 k, .int .i64 n, .slice a m cap], .slice pa pn pc] w (GivesWr ps t.wrong w) := by
  induction N with
  | zero => intro t k n a m cap pa pn pc ps w F h; have := Tr.size_pos t; omega
  | succ N ih =>
    intro t k n a m cap pa pn pc ps w F hs hT hp hpn hpc hpb
    obtain ⟨i0, hi, hz0, hz1, hz2⟩ := info_parts info_int
    have IH := Lib.hid (ih (by omega))
    clear ih
    have HT := Lib.hid hT
    have hm : m ≤ N := by
      have := Tr.len_le_sizeL t.kids
      rw [Tr.size_kids] at hs
      rw [hT.em]; omega
    have HS := Lib.hid hs
    have HP := Lib.hid hp
    have HPN := Lib.hid hpn
    have HPB := Lib.hid hpb
    have HPC := Lib.hid hpc
    obtain ⟨B, hB⟩ : ∃ B, nodeOk t = B := ⟨_, rfl⟩
    have HV : Hid (∀ W, Below w.heap.size w W → Calls Try.prog 60 #[.agg #[.int .i64 k, .int .i64 n, .slice a m cap]] W fun e w' => e = .returned (.bool B) ∧ Below W.heap.size W w') := fun W hb => by rw [← hB]; exact valid_Node t k n a m cap W F (hT.below hb)
    have HW : Hid (t.wrong = if B then Tr.wrongL 0 t.kids else some []) := by unfold Hid; rw [Tr.wrong_kids, hB]
    rw [HW.out]
    clear hT hs hp hpn hpb hpc hB HW
    cases B with
    | false =>
      rw [if_neg (by simp)]
      go_enter Try.func54, Try.ntmps54
      go_wp2_with fail
      refine (HV.out _ ((Below.refl _ _).alloc (Nat.le_refl _) _)).mono ?_; rintro e w1 ⟨rfl, hb1⟩
      have hb2 := chainA (Below.refl w.heap.size w) hb1
      have HB2 := Lib.hid hb2
      clear hb1 hb2
      go_wp2_with fail
      go_ret2
      exact ⟨pa, pn, pc, rfl, by rw [List.append_nil]; exact HPN.out, by rw [List.append_nil]; exact HP.out.below HB2.out, HPC.out, HB2.out⟩
    | true =>
      rw [if_pos rfl]
      obtain ⟨R, hR⟩ : ∃ R, Tr.wrongL 0 t.kids = R := ⟨_, rfl⟩
      rw [hR]
      have HR : Hid (Tr.wrongL 0 (t.kids.drop 0) = R) := hR
      clear hR
      go_enter Try.func54, Try.ntmps54
      go_wp2_with fail
      refine (HV.out _ ((Below.refl _ _).alloc (Nat.le_refl _) _)).mono ?_; rintro e w1 ⟨rfl, hb1⟩
      have hb2 := chainA (Below.refl w.heap.size w) hb1
      have hx := (hb1.block w.heap.size (by simp)).trans (block_new rfl)
      have x2 : w1.cell? ⟨w.heap.size, 2, none⟩ = some (.slice a m cap) := block_cell hx 2
      have HB2 := Lib.hid hb2
      clear hb1 hb2 hx
      go_wp2_with fail
      go_loopw [17] (fun i wr => ∃ j : Nat, j ≤ m ∧ i = .int .i64 j ∧ Hid (Tr.wrongL j (t.kids.drop j) = R) ∧ Below w.heap.size w wr) (fun i _ => m - (intOf i).toNat)
      case atStart => exact ⟨0, Nat.zero_le _, rfl, HR.out, HB2.out⟩
      case round =>
        obtain ⟨j, hj, rfl, HD, hbel⟩ := hrel
        by_cases hlt : j < m
        · obtain ⟨b, off, k', n', a', m', c', rfl, hF, hbl, h0, h1, h2, hT'⟩ := (HT.out.below hbel).kid j hlt
          have hj2 : j < t.kids.length := by rw [← HT.out.em]; exact hlt
          have hsz := Tr.size_kid t j hj2
          have hs1 : (Tr.kid t.kids j).size ≤ N := by have := HS.out; omega
          have hst0 := fun h => (Tr.wrongL_none hj2 h).symm.trans HD.out
          have hst1 := fun p h => HD.out.symm.trans (Tr.wrongL_some (p := p) hj2 h)
          obtain ⟨t', ht'⟩ : ∃ t', Tr.kid t.kids j = t' := ⟨_, rfl⟩
          rw [ht'] at hT' hs1 hst0 hst1 hsz
          have hpb' : pn + 1 + t'.size ≤ 8388608 := by have := HPB.out; omega
          have hjf : fits .i64 (j : Int) := fits_i64.2 (by omega)
          have CK : Hid (∀ W g c, Below wr.heap.size wr W → Row .i64 W (some ⟨g, 0, none⟩) (ps ++ [(j : Int)]) → pn + 1 ≤ c → Calls Try.prog 54 #[.agg #[.int .i64 k', .int .i64 n', .slice a' m' c'], .slice (some ⟨g, 0, none⟩) (pn + 1) c] W (GivesWr (ps ++ [(j : Int)]) t'.wrong W)) :=
            fun W g c hb hr hc => IH.out t' k' n' a' m' c' _ _ _ (ps ++ [(j : Int)]) W F hs1 (hT'.below hb) hr (by rw [List.length_append, HPN.out]; rfl) ⟨hc, fun h => by cases h⟩ hpb'
          have HJF := Lib.hid hjf
          have hpn8 : pn ≤ 16777216 := by omega
          have hsl : ∀ W, (Instr.slice 68 (.slice pa pn pc) none (some (.int .i64 (pn : Int))) (some (.int .i64 (pn : Int)))).run Try.prog W = .ok (.slice pa pn pn) W := fun W => by
            have hc := HPC.out.1
            rw [run_slice_hm W 68 pa pn pc (by kernel_rfl) .i64 .i64 (pn : Int) (pn : Int) (by omega) (by omega) (by omega)]
            cases pa <;> simp [go_sem, sliced, Addr.add]
          have HPW := Lib.hid (HP.out.below hbel)
          clear hT' hs1 hsz hj2 ht' hpb' hjf HD
          have HST0 := Lib.hid hst0
          have HST1 := Lib.hid hst1
          clear hst0 hst1
          have g1 : (0 : Int) ≤ (j : Int) := by omega
          have g2 : (j : Int) < (m : Int) := by omega
          obtain ⟨r, hwr⟩ : ∃ r, Tr.wrong t' = r := ⟨_, rfl⟩
          rw [hwr] at CK HST0 HST1
          clear hwr
          cases r with
          | none =>
            go_wp2_with fail
            obtain ⟨y, hW, hbx, hx⟩ := box_any wr #[.int .i64 k', .int .i64 n', .slice a' m' c'] 34
            rw [hW]
            have c0 : y.cell? ⟨wr.heap.size, 0, none⟩ = some (.int .i64 k') := block_cell hx 0
            have c1 : y.cell? ⟨wr.heap.size, 1, none⟩ = some (.int .i64 n') := block_cell hx 1
            have c2 : y.cell? ⟨wr.heap.size, 2, none⟩ = some (.slice a' m' c') := block_cell hx 2
            have HX := Lib.hid hx
            have HBX := Lib.hid hbx
            have hwl := block_lt hx
            have hb : Below y.heap.size y y.drew := (Below.refl _ _).drew
            clear hW hx hbx h0 h1 h2
            go_region_held3 (fun w' => w'.cell? ⟨wr.heap.size, 0, none⟩ = some (.int .i64 k') ∧ w'.cell? ⟨wr.heap.size, 1, none⟩ = some (.int .i64 n') ∧ w'.cell? ⟨wr.heap.size, 2, none⟩ = some (.slice a' m' c')) (first | exact ⟨c0, c1, c2⟩ | exact ⟨(hb.cell (p := ⟨wr.heap.size, 0, none⟩) hwl).trans c0, (hb.cell (p := ⟨wr.heap.size, 1, none⟩) hwl).trans c1, (hb.cell (p := ⟨wr.heap.size, 2, none⟩) hwl).trans c2⟩ | go_keep) ((first | (go_at_call 54; ((with_reducible refine (CK.out _ _ _ (chain HBX.out hb) hr hc).mono ?_); rintro e z ⟨rfl, hc2⟩; have hb := chain hb hc2)) | (refine step_append_int (by rfl) _ _ 68 (by rfl) 3 i0 Try.underlying68 hi hz0 hz1 hz2 pa pn ps (by rfl) (HPW.out.below (chain HBX.out ((Below.refl _ _).alloc (Nat.le_refl _) _).drew)) HPN.out (fun h => by have := HPC.out.2 h; have := HPC.out.1; omega) ⟨y.heap.size, 0, none⟩ (j : Int) HJF.out (by rfl) (one_new _ _ _) hpn8 ?_; intro g c w' hr hc hbw; have hb := chain ((Below.refl _ _).alloc (Nat.le_refl _) _).drew hbw)))
            have hbe : Below w.heap.size w z := chain (chain hbel HBX.out) hb
            have HBE := Lib.hid hbe
            clear hbe hb c0 c1 c2
            go_wp2_with fail
            go_roundw
            case rel => exact ⟨j + 1, by omega, by go_num, by first | exact HST0.out rfl | exact HST0.out trivial, HBE.out⟩
            case measure => simp [intOf]; omega
          | some q =>
            go_wp2_with fail
            obtain ⟨y, hW, hbx, hx⟩ := box_any wr #[.int .i64 k', .int .i64 n', .slice a' m' c'] 34
            rw [hW]
            have c0 : y.cell? ⟨wr.heap.size, 0, none⟩ = some (.int .i64 k') := block_cell hx 0
            have c1 : y.cell? ⟨wr.heap.size, 1, none⟩ = some (.int .i64 n') := block_cell hx 1
            have c2 : y.cell? ⟨wr.heap.size, 2, none⟩ = some (.slice a' m' c') := block_cell hx 2
            have HX := Lib.hid hx
            have HBX := Lib.hid hbx
            have hwl := block_lt hx
            have hb : Below y.heap.size y y.drew := (Below.refl _ _).drew
            clear hW hx hbx h0 h1 h2
            go_region_held3 (fun w' => w'.cell? ⟨wr.heap.size, 0, none⟩ = some (.int .i64 k') ∧ w'.cell? ⟨wr.heap.size, 1, none⟩ = some (.int .i64 n') ∧ w'.cell? ⟨wr.heap.size, 2, none⟩ = some (.slice a' m' c')) (first | exact ⟨c0, c1, c2⟩ | exact ⟨(hb.cell (p := ⟨wr.heap.size, 0, none⟩) hwl).trans c0, (hb.cell (p := ⟨wr.heap.size, 1, none⟩) hwl).trans c1, (hb.cell (p := ⟨wr.heap.size, 2, none⟩) hwl).trans c2⟩ | go_keep) ((first | (go_at_call 54; ((with_reducible refine (CK.out _ _ _ (chain HBX.out hb) hr hc).mono ?_); rintro e z ⟨a3, l3, c3, rfl, hl3, hr3, hc3, hc2⟩; have hb := chain hb hc2)) | (refine step_append_int (by rfl) _ _ 68 (by rfl) 3 i0 Try.underlying68 hi hz0 hz1 hz2 pa pn ps (by rfl) (HPW.out.below (chain HBX.out ((Below.refl _ _).alloc (Nat.le_refl _) _).drew)) HPN.out (fun h => by have := HPC.out.2 h; have := HPC.out.1; omega) ⟨y.heap.size, 0, none⟩ (j : Int) HJF.out (by rfl) (one_new _ _ _) hpn8 ?_; intro g c w' hr hc hbw; have hb := chain ((Below.refl _ _).alloc (Nat.le_refl _) _).drew hbw)))
            have hbe : Below w.heap.size w z := chain (chain hbel HBX.out) hb
            have HBE := Lib.hid hbe
            have HL3 := Lib.hid hl3
            have HR3 := Lib.hid hr3
            have HC3 := Lib.hid hc3
            clear hbe hb c0 c1 c2 hl3 hr3 hc3 hr hc
            go_wp2_with fail
            go_ret2
            rw [HST1.out q rfl]
            have e1 : ps ++ ((j : Int) :: q) = (ps ++ [(j : Int)]) ++ q := by simp
            exact ⟨a3, l3, c3, rfl, by rw [e1]; exact HL3.out, by rw [e1]; exact HR3.out, HC3.out, HBE.out⟩
        · have hjm : j = m := by omega
          have HE : Hid (R = none) := by unfold Hid; rw [← HD.out]; exact Tr.wrongL_end (by rw [← HT.out.em]; omega)
          clear HD
          go_wp2_with fail
          go_ret2
          show GivesWr ps R w _ _
          rw [HE.out]
          exact ⟨rfl, hbel⟩
theorem valid_Wrong (t : Tr) (k n : Int) (a : Option Addr) (m cap : Nat) (w : World) (F : Nat → Prop) (hs : t.size ≤ 4194304) (hT : IsT w F k n a m cap t) :
    Calls Try.prog 46 #[.agg #[.int .i64 k, .int .i64 n, .slice a m cap]] w (GivesWr [] t.wrong w) := by
  have CK : Hid (∀ W, Below w.heap.size w W → Calls Try.prog 54 #[.agg #[.int .i64 k, .int .i64 n, .slice a m cap], .slice none 0 0] W (GivesWr [] t.wrong W)) :=
    fun W hb => valid_wrong 4194304 (by omega) t k n a m cap none 0 0 [] W F hs (hT.below hb) (Row.nil _ _ _) rfl ⟨Nat.le_refl _, fun _ => rfl⟩ (by omega)
  obtain ⟨r, hr⟩ : ∃ r, t.wrong = r := ⟨_, rfl⟩
  rw [hr] at CK ⊢
  clear hT hs hr
  cases r with
  | none =>
    go_enter Try.func46, Try.ntmps46
    go_wp2_with fail
    refine (CK.out _ ((Below.refl _ _).alloc (Nat.le_refl _) _)).mono ?_; rintro e w1 ⟨rfl, hb1⟩
    go_wp2_with fail
    go_ret2
    exact ⟨rfl, chainA (Below.refl _ _) hb1⟩
  | some q =>
    go_enter Try.func46, Try.ntmps46
    go_wp2_with fail
    refine (CK.out _ ((Below.refl _ _).alloc (Nat.le_refl _) _)).mono ?_; rintro e w1 ⟨a1, l1, c1, rfl, hl1, hr1, hc1, hb1⟩
    have HL1 := Lib.hid hl1
    have HR1 := Lib.hid hr1
    have HC1 := Lib.hid hc1
    clear hl1 hr1 hc1
    go_wp2_with fail
    go_ret2
    exact ⟨a1, l1, c1, rfl, HL1.out, HR1.out, HC1.out, chainA (Below.refl _ _) hb1⟩
end Go.Proofs.Ytonffapiamhdbaa

namespace Go.Proofs.Ytonffapiamhdbaa
open Go.RowKit Go.Shelf
set_option linter.unusedVariables false
set_option linter.unusedSimpArgs false
set_option maxRecDepth 100000
/-- How a round may be left: what is no cells stays (from B on), and the caller's word holds. -/
def roundWord (B b0 : Nat) (I : List Value → World → Prop) (Ix : Code → List Value → World → Prop) (xs : List Value) (W : World) : Exit → Act → World → Prop
  | .normal, _, W' => KeepsFrom B W W' ∧ KeepsBut b0 W W' ∧ I xs W'
  | .ret, _, W' => KeepsFrom B W W' ∧ Ix .ret xs W'
  | .exit id, _, W' => KeepsFrom B W W' ∧ Ix (.exit id) xs W'
  | _, _, _ => False
/-- The record of the loop. -/
def recOf (fn : FuncId) (a : Act) (p : Tmp) (assign body : Code) (D : Nat) (s : LoopState) (c : Option Code) : Loop :=
  { state := s, pending := c, fn, tmps := a.tmps, params := #[p], assign, body, defers := D }
/-- What the loop's own two blocks hold ahead of a round; and when a round has left the loop by c. -/
def Ready (R : LoopState → Option Code → Loop) (D : Nat) (W : World) : Prop := W.heap[D + 1]? = some (.loop (R .ready none)) ∧ W.heap[D]? = some (.deferred (some []))
def Left (R : LoopState → Option Code → Loop) (D : Nat) (c : Code) (W : World) : Prop := W.heap[D + 1]? = some (.loop (R .done (some c))) ∧ W.heap[D]? = some (.deferred (some []))
theorem two_grown {A B : World} {row : Option Nat} {k : Nat} {o : Obj} (hg : A.grownBy B row) (hr : ∀ r, row = some r → ∃ o : Obj, A.heap[r]? = some o ∧ o.isWalk = true) (h : A.heap[k]? = some o) (ho : o.isWalk = false) : B.heap[k]? = some o :=
  (grownBy_keeps hg hr h ho).trans h
/-- One round's end, by the jump that it leaves. -/
theorem round_end {P : Program} {R : LoopState → Option Code → Loop} (hR : ∀ s c s' c', ({ R s c with state := s', pending := c' } : Loop) = R s' c') {D : Nat} {W2 W3 : World} (hl2 : W2.heap[D + 1]? = some (.loop (R .busy none))) (hk2 : W2.heap[D]? = some (.deferred (some []))) (hk : KeepsFrom D W2 W3) (jump : Option Code) :
    ∃ W4, (Instr.endRound (D + 1) jump).run P W3 = .ok (.bool jump.isNone) W4 ∧ W4 = W3.putObj (D + 1) (.loop (R (if jump.isNone then .ready else .done) jump)) ∧ W3.heap[D + 1]? = some (.loop (R .busy none)) ∧
      W4.heap[D + 1]? = some (.loop (R (if jump.isNone then .ready else .done) jump)) ∧ W4.heap[D]? = some (.deferred (some [])) := by
  have hl3 := hk.same _ _ (by omega) hl2 rfl
  have hk3 := hk.same _ _ (Nat.le_refl _) hk2 rfl
  have hrun := run_endRound (P := P) jump hl3
  rw [hR] at hrun
  exact ⟨_, hrun, rfl, hl3, World.putObj_heap_same (Array.getElem?_eq_some_iff.1 hl3).1, (World.putObj_heap_other (by omega)).trans hk3⟩
/-- The iterator's contract: it yields N values; of each the word G holds. -/
def SeqTells (P : Program) (n gf : Nat) (lb : Array Value) (b0 N : Nat) (G : List Value → Value → World → Prop) (w : World) : Prop :=
  ∀ (l : Nat) (J Jx : List Value → World → Prop) (W : World), Below w.heap.size w W → AbidesFrom W.heap.size J →
    (∀ pre x W1, J pre W1 → pre.length < N → G pre x W1 → YieldAt Fence.wide 0 P l #[x] W1 fun e W' => (e = .returned (.bool true) ∧ J (pre ++ [x]) W' ∧ KeepsBut b0 W1 W') ∨ (e = .returned (.bool false) ∧ Jx (pre ++ [x]) W')) →
    J [] W → CallsIn Fence.wide n P gf (#[.func (.yield l) #[] #[]] ++ lb) W fun e W' => (∃ v, e = .returned v) ∧ ((∃ xs, xs.length = N ∧ J xs W') ∨ (∃ pre, Jx pre W'))
theorem wp_range_tells {P : Program} {n : Nat} {g : Operand} {p : Tmp} {assign body : Code} {Q : Exit → Act → World → Prop} {a : Act} {w : World} {gf : Nat} {lb : Array Value} (hg : a.eval g = .func (.func gf) #[] lb)
    (eg : ∀ args w, (callFunc gf args).run P w = .ok (.enter gf args) w) (b0 N : Nat) (G : List Value → Value → World → Prop) (hG : ∀ pre x W l o o', G pre x W → W.heap[l]? = some o → o.isCells = false → G pre x (W.putObj l o'))
    (hseq : SeqTells P (n - 1) gf lb b0 N G w) (I : List Value → World → Prop) (Ix : Code → List Value → World → Prop) (hI : OwnFrom w.heap.size I) (hIx : ∀ c, OwnFrom w.heap.size (Ix c)) (h0 : I [] w) (a₁ : Value → Act)
    (hassign : ∀ (l : Nat) (x : Value) (W : World) (K : Act → World → Prop), K (a₁ x) W → assign.wpIn (Fence.wide.inRound l) 0 P (Exit.then K (fun _ _ _ => False)) { tmps := a.tmps.setIfInBounds p x, defers := [] } W)
    (hbody : ∀ (l : Nat) (pre : List Value) (x : Value) (W : World), I pre W → pre.length < N → G pre x W → body.wpIn (Fence.wide.inRound l) 0 P (roundWord w.heap.size b0 I Ix (pre ++ [x]) W) (a₁ x) W)
    (hdone : ∀ (D : Nat) (xs : List Value) (W : World), w.heap.size ≤ D → xs.length = N → I xs W → W.heap[D]? = some (.deferred (some [])) → Q .normal { a with defers := { target := .collected D, args := #[] } :: a.defers } W)
    (hstop : ∀ (D : Nat) (c : Code) (pre : List Value) (W : World), w.heap.size ≤ D → Ix c pre W → W.heap[D]? = some (.deferred (some [])) → c.wpIn Fence.wide n P Q { a with defers := { target := .collected D, args := #[] } :: a.defers } W) :
    (Code.rangeFunc g #[p] assign body).wpIn Fence.wide n P Q a w := by
  refine wpIn_rangeFunc fun fn hfn => ?_
  obtain ⟨D, hD⟩ : ∃ D, w.heap.size = D := ⟨_, rfl⟩
  obtain ⟨R, hR⟩ : ∃ R, recOf fn a p assign body D = R := ⟨_, rfl⟩
  have hRs : ∀ s c s' c', ({ R s c with state := s', pending := c' } : Loop) = R s' c' := fun s c s' c' => by rw [← hR]; rfl
  obtain ⟨W1, hW1⟩ : ∃ W1, (w.alloc (.deferred (some []))).alloc (.loop (R .ready none)) = W1 := ⟨_, rfl⟩
  have hb1 : Below w.heap.size w W1 := by rw [← hW1]; exact ((Below.refl _ w).alloc (Nat.le_refl _) _).alloc (by simp) _
  have hs1 : W1.heap.size = D + 2 := by rw [← hW1, ← hD]; simp
  have hready : Ready R D W1 := by
    rw [← hW1, ← hD]
    exact ⟨block_new (by simp), block_old (by simp) (block_new rfl)⟩
  rw [hD] at hI hIx hbody hdone hstop
  have hI1 : I [] W1 := by rw [← hW1]; exact hI.alloc _ (hI.alloc _ h0)
  refine ⟨D + 1, [{ target := .collected D, args := #[] }], W1, { target := .fn (.func gf) lb, args := #[.func (.yield (D + 1)) #[] #[]] }, W1, gf, #[.func (.yield (D + 1)) #[] #[]] ++ lb, W1, ?_, ?_, fun _ _ => trivial, ?_, (fun h => by cases h), ?_⟩
  · have h := run_enterLoop_outer (P := P) fn a.tmps #[p] assign body (w := w)
    rw [← hW1, ← hR, ← hD]
    exact h
  · simp only [resolve, hg]
    simp [go_sem]
  · simp [invoke, go_sem, eg]
  have hD1 : ∀ {A : World} {row : Option Nat}, (∀ r, row = some r → W1.heap.size ≤ r ∧ ∃ o : Obj, A.heap[r]? = some o ∧ o.isWalk = true) → (∀ r, row = some r → D ≤ r ∧ ∃ o : Obj, A.heap[r]? = some o ∧ o.isCells = false) := fun hr r e => by
    obtain ⟨h1, o, h2, h3⟩ := hr r e
    exact ⟨by omega, o, h2, Obj.not_cells_of_walk h3⟩
  refine (hseq (D + 1) (fun pre W => I pre W ∧ Ready R D W) (fun pre W => ∃ c, Ix c pre W ∧ Left R D c W) W1 hb1 (fun s A B row hs hgr hr => ?_) (fun pre x W hJ hlen hGx => ?_) ⟨hI1, hready⟩).mono ?_
  · exact ⟨hI s A B row hs.1 hgr (hD1 hr), two_grown hgr (fun r e => (hr r e).2) hs.2.1 rfl, two_grown hgr (fun r e => (hr r e).2) hs.2.2 rfl⟩
  · -- a round
    obtain ⟨hi, hl, hk⟩ := hJ
    have hlt := (Array.getElem?_eq_some_iff.1 hl).1
    have hy := run_yield (P := P) (args := #[x]) hl (by rw [← hR]; rfl)
    have hbeg := run_beginRound (P := P) hl (by rw [← hR]; rfl)
    have hRb : ({ R .ready none with state := .busy } : Loop) = R .busy none := by rw [← hR]; rfl
    rw [hRb] at hbeg
    have hl2 : (W.putObj (D + 1) (.loop (R .busy none))).heap[D + 1]? = some (.loop (R .busy none)) := World.putObj_heap_same hlt
    have hk2 : (W.putObj (D + 1) (.loop (R .busy none))).heap[D]? = some (.deferred (some [])) := (World.putObj_heap_other (by omega)).trans hk
    have hkb : KeepsBut b0 W (W.putObj (D + 1) (.loop (R .busy none))) := KeepsBut.putObj W _ _ _ hl rfl
    refine ⟨fn, a.tmps.setIfInBounds p x, assign, body, ?_, roundIn_of_wpIn trivial (hassign _ x W _ ⟨_, hbeg, wpIn_mono (hbody _ pre x _ (hI.putObj _ hi (by omega) hl rfl) hlen (hG _ _ _ _ _ _ hGx hl rfl)) ?_⟩)⟩
    · rw [← hR] at hy
      simpa [recOf] using hy
    · rintro e a3 W3 hp
      cases e with
      | normal =>
        obtain ⟨hk3, hkb3, hi3⟩ := hp
        obtain ⟨W4, hr, rfl, hl3, hl4, hk4⟩ := round_end (P := P) hRs hl2 hk2 hk3 none
        exact ⟨_, _, hr, .inl ⟨rfl, ⟨hI.putObj _ hi3 (by omega) hl3 rfl, hl4, hk4⟩, (hkb.trans hkb3).trans (KeepsBut.putObj _ _ _ _ hl3 rfl)⟩⟩
      | ret =>
        obtain ⟨hk3, hi3⟩ := hp
        obtain ⟨W4, hr, rfl, hl3, hl4, hk4⟩ := round_end (P := P) hRs hl2 hk2 hk3 (some .ret)
        exact ⟨_, _, hr, .inr ⟨rfl, .ret, (hIx _).putObj _ hi3 (by omega) hl3 rfl, hl4, hk4⟩⟩
      | exit id =>
        obtain ⟨hk3, hi3⟩ := hp
        obtain ⟨W4, hr, rfl, hl3, hl4, hk4⟩ := round_end (P := P) hRs hl2 hk2 hk3 (some (.exit id))
        exact ⟨_, _, hr, .inr ⟨rfl, .exit id, (hIx _).putObj _ hi3 (by omega) hl3 rfl, hl4, hk4⟩⟩
      | goto t => exact hp.elim
      | panic ch => exact hp.elim
      | outgrown => exact hp.elim
  · -- behind it
    rintro e W2 ⟨⟨v, rfl⟩, ⟨xs, hxl, hi, hl, hk⟩ | ⟨pre, c, hi, hl, hk⟩⟩
    · have hr := run_endLoop (P := P) hl (by rw [← hR]; simp [recOf])
      rw [← hR] at hr hl
      exact ⟨none, _, hr, hdone D xs _ (Nat.le_refl _) hxl (hI.putObj _ hi (by omega) hl rfl) ((World.putObj_heap_other (by omega)).trans hk)⟩
    · have hr := run_endLoop (P := P) hl (by rw [← hR]; simp [recOf])
      rw [← hR] at hr hl
      exact ⟨some c, _, hr, hstop D c pre _ (Nat.le_refl _) ((hIx c).putObj _ hi (by omega) hl rfl) ((World.putObj_heap_other (by omega)).trans hk)⟩
end Go.Proofs.Ytonffapiamhdbaa

namespace Go.Proofs.Ytonffapiamhdbaa
open Go.RowKit Go.Shelf
set_option linter.unusedVariables false
set_option linter.unusedSimpArgs false
set_option maxRecDepth 100000
attribute [local go_sem] Oper.semAt_some
theorem nextT_putObj (b0 : Nat) (L : List Tr) : ∀ pre x W l o o', NextT b0 L pre x W → W.heap[l]? = some o → o.isCells = false → NextT b0 L pre x (W.putObj l o') := by
  rintro pre x W l o o' ⟨k, n, a, m, c, t, rfl, hT, hL⟩ ho hc
  exact ⟨k, n, a, m, c, t, rfl, hT.keeps (KeepsBut.putObj W l o o' ho hc), hL⟩
set_option maxHeartbeats 1000000 in
theorem all1_tells (q b0 bd : Nat) (t : Tr) (k n : Int) (a : Option Addr) (m cap : Nat) (w : World) (hs : t.size ≤ 4194304) (hT : IsT w (fun b => b ≠ b0) k n a m cap t) (hb0 : b0 < w.heap.size)
    (hbd : w.heap[bd]? = some (.cells #[.int .i64 k, .int .i64 n, .slice a m cap] 34 (0, 0))) :
    SeqTells Try.prog q 58 #[.pointer (some ⟨bd, 0, none⟩)] b0 t.size (NextT b0 t.nodes) w := by
  intro l J Jx W hb hJ hY h0
  have hlt := block_lt hbd
  have hbx := (hb.block bd hlt).trans hbd
  have CA : Hid (CallsIn Fence.wide (q - 1) Try.prog 59 #[.agg #[.int .i64 k, .int .i64 n, .slice a m cap], .func (.yield l) #[] #[]] W (AllEnds b0 J Jx [] t.size W)) :=
    all_in b0 W.heap.size t.size l t.nodes J Jx hJ hY 4194304 (by omega) (q - 1) t k n a m cap [] W hs (hT.below hb) (Nat.lt_of_lt_of_le hb0 hb.size) h0 (by simp) (fun i _ => by simp)
  have c0 := block_cell hbx 0
  have c1 := block_cell hbx 1
  have c2 := block_cell hbx 2
  simp at c0 c1 c2
  clear hbx hb hJ hY h0 hT hbd hs
  refine callsIn_of_wp Try.func58 rfl trivial ?_ rfl
  simp only [Try.ntmps58, List.size_toArray, List.length_cons, List.length_nil, Nat.reduceAdd, Nat.reduceSub, Array.replicate_succ, Array.replicate_zero, List.push_toArray, List.append_toArray, List.nil_append, List.cons_append]
  gi_wp2
  refine ⟨trivial, (fun h => by cases h), CA.out.mono ?_⟩
  rintro e W3 (⟨rfl, xs, hxl, hJ3, hk3⟩ | ⟨rfl, hJx3⟩)
  · gi_wp2
    go_end0
    rw [List.nil_append] at hJ3
    exact ⟨⟨_, rfl⟩, .inl ⟨xs, hxl, hJ3⟩⟩
  · gi_wp2
    go_end0
    exact ⟨⟨_, rfl⟩, .inr hJx3⟩
theorem desc_All (q : Nat) (v : Value) (k n : Int) (a : Option Addr) (m cap : Nat) (w : World) :
    CallsIn Fence.wide q Try.prog 52 #[.agg #[.int .i64 k, .int .i64 n, .slice a m cap]] w fun e w' => e = .returned (.func (.func 58) #[] #[.pointer (some ⟨w.heap.size, 0, none⟩)]) ∧ w' = w.alloc (.cells #[.int .i64 k, .int .i64 n, .slice a m cap] 34) := by
  refine callsIn_of_wp Try.func52 rfl trivial ?_ rfl
  simp only [Try.ntmps52, List.size_toArray, List.length_cons, List.length_nil, Nat.reduceAdd, Nat.reduceSub, Array.replicate_succ, Array.replicate_zero, List.push_toArray, List.append_toArray, List.nil_append, List.cons_append]
  gi_wp2
  go_ret
  exact ⟨rfl, rfl⟩
theorem block_from {β : Type} (B b : Nat) (o : β → Obj) (ho : ∀ s, (o s).isCells = true) : OwnFrom B (fun s W => W.heap[b]? = some (o s)) :=
  fun s A C row hs hg hr => (grownBy_keeps_cells hg (fun r e => (hr r e).2) hs (ho s)).trans hs
end Go.Proofs.Ytonffapiamhdbaa

namespace Go.Proofs.Ytonffapiamhdbaa
open Go.RowKit Go.Shelf
set_option linter.unusedVariables false
set_option linter.unusedSimpArgs false
set_option maxRecDepth 100000
set_option maxRecDepth 20000
attribute [local go_sem] Oper.semAt_some
/-- Is a tree too big? -/
def bigB (t : Tr) : Bool := decide (60 < t.size) || decide (12 < t.depth)
theorem big_boxes (w : World) (k n : Int) (a : Option Addr) (m c : Nat) (T U V : TypeId) :
    ∃ W0, (((w.alloc (.cells #[.int .i64 k, .int .i64 n, .slice a m c] T)).alloc (.cells #[.bool false] U)).alloc (.cells #[.int .i64 0] V)).alloc (.cells #[.int .i64 k, .int .i64 n, .slice a m c] T) = W0 ∧ Below w.heap.size w W0 ∧ W0.heap.size = w.heap.size + 4 ∧
      W0.heap[w.heap.size]? = some (.cells #[.int .i64 k, .int .i64 n, .slice a m c] T (0, 0)) ∧ W0.heap[w.heap.size + 1]? = some (.cells #[.bool false] U (0, 0)) ∧ W0.heap[w.heap.size + 1 + 1]? = some (.cells #[.int .i64 0] V (0, 0)) ∧ W0.heap[w.heap.size + 1 + 1 + 1]? = some (.cells #[.int .i64 k, .int .i64 n, .slice a m c] T (0, 0)) :=
  ⟨_, rfl, ((((Below.refl _ _).alloc (Nat.le_refl _) _).alloc (by simp) _).alloc (by simp <;> omega) _).alloc (by simp <;> omega) _, by simp, block_old (by simp <;> omega) (block_old (by simp <;> omega) (block_old (by simp) (block_new rfl))), block_old (by simp <;> omega) (block_old (by simp) (block_new (by simp))), block_old (by simp) (block_new (by simp)), block_new (by simp)⟩
set_option maxHeartbeats 4000000 in
theorem valid_big (t : Tr) (k n : Int) (a : Option Addr) (m cap : Nat) (w : World) (F : Nat → Prop) (hs : t.size ≤ 4194304) (hT : IsT w F k n a m cap t) :
    Calls Try.prog 45 #[.agg #[.int .i64 k, .int .i64 n, .slice a m cap]] w fun e w' => e = .returned (.bool (bigB t)) ∧ Below w.heap.size w w' := by
  have HT := Lib.hid hT.lt
  have HS := Lib.hid hs
  have HD : Hid (∀ W, Below w.heap.size w W → Calls Try.prog 53 #[.agg #[.int .i64 k, .int .i64 n, .slice a m cap]] W fun e w' => e = .returned (.int .i64 (t.depth : Nat)) ∧ Below W.heap.size W w') := fun W hb => desc_Depth 4194304 (by omega) t k n a m cap W _ hs (hT.below hb)
  clear hT hs
  obtain ⟨W0, hW0, hb0, hsz, x0, x1, x2, x3⟩ := big_boxes w k n a m cap 34 4 3
  refine (callsIn_wide (n := 8)).1 ?_
  refine callsIn_of_wp_marks Try.func45 rfl trivial ?_ rfl
  simp only [Try.ntmps45, List.size_toArray, List.length_cons, List.length_nil, Nat.reduceAdd, Nat.reduceSub, Array.replicate_succ, Array.replicate_zero, List.push_toArray, List.append_toArray, List.nil_append, List.cons_append]
  gi_wp2_with (refine ⟨trivial, ?_⟩; gi_at_call 52; refine (desc_All _ (.bool true) _ _ _ _ _ _).mono ?_; rintro e w' ⟨rfl, rfl⟩)
  try rw [hW0]
  clear hW0
  have HB0 := Lib.hid hb0
  have X0 := Lib.hid x0
  have X1 := Lib.hid x1
  have X2 := Lib.hid x2
  have X3 := Lib.hid x3
  have hT0 : IsT W0 (fun b => b ≠ w.heap.size + 1 + 1) k n a m cap t := (HT.out.below hb0).mono fun b hb => by unfold Lt at hb; omega
  have HSZ := Lib.hid hsz
  clear hb0 x0 x1 x2 x3 hsz
  refine wp_range_tells (gf := 58) (lb := #[.pointer (some ⟨w.heap.size + 1 + 1 + 1, 0, none⟩)]) rfl (enters_of Try.func58 (by kernel_rfl) rfl) (w.heap.size + 1 + 1) t.size (NextT (w.heap.size + 1 + 1) t.nodes) (nextT_putObj _ _)
    (all1_tells _ _ _ t k n a m cap W0 HS.out hT0 (by have := HSZ.out; omega) X3.out)
    (fun pre W => (W.heap[w.heap.size + 1 + 1]? = some (.cells #[.int .i64 (pre.length : Nat)] 3 (0, 0)) ∧ Below (w.heap.size + 1 + 1) W0 W) ∧ pre.length ≤ 60)
    (fun c pre W => (W.heap[w.heap.size + 1]? = some (.cells #[.bool true] 4 (0, 0)) ∧ Below w.heap.size w W) ∧ (c = .ret ∧ 60 < t.size))
    (OwnFrom.and (OwnFrom.and (block_from _ _ (fun pre : List Value => .cells #[.int .i64 (pre.length : Nat)] 3 (0, 0)) (fun _ => rfl)) (ownFrom_below (by have := HSZ.out; omega) (by have := HSZ.out; omega))) (fun _ _ _ _ h _ _ => h))
    (fun c => OwnFrom.and (OwnFrom.and (block_from _ _ (fun pre : List Value => .cells #[.bool true] 4 (0, 0)) (fun _ => rfl)) (ownFrom_below (Nat.le_refl _) (by have := HSZ.out; omega))) (fun _ _ _ _ h _ _ => h)) ⟨⟨X2.out, Below.refl _ _⟩, Nat.zero_le _⟩
    (fun x => { tmps := #[.agg #[.int .i64 k, .int .i64 n, .slice a m cap], .pointer (some ⟨w.heap.size, 0, none⟩), .pointer (some ⟨w.heap.size + 1, 0, none⟩), .pointer (some ⟨w.heap.size + 1 + 1, 0, none⟩), .agg #[.int .i64 k, .int .i64 n, .slice a m cap], .func (.func 58) #[] #[.pointer (some ⟨w.heap.size + 1 + 1 + 1, 0, none⟩)], x, undef, undef, undef, undef, undef, undef, undef], defers := [] }) ?assign ?body ?done ?stop
  case assign =>
    intro l x W K hK
    gi_wp2
    exact hK
  case body =>
    rintro l pre x W ⟨⟨hn, hbel⟩, hle⟩ hlen hG
    have h0 := block_cell hn 0
    have hf := block_free hn 0
    simp at h0
    have HN := Lib.hid hn
    have hst : (W.setCell ⟨w.heap.size + 1 + 1, 0, none⟩ (.int .i64 ((pre.length : Int) + 1))).heap[w.heap.size + 1 + 1]? = some (.cells #[.int .i64 ((pre ++ [x]).length : Nat)] 3 (0, 0)) := by
      rw [block_set hn 0 _, List.length_append, List.length_singleton]; simp
    have hv := block_cell hst 0
    simp only [List.length_append, List.length_singleton] at hv
    have HST := Lib.hid hst
    have hbe : Below (w.heap.size + 1 + 1) W0 (W.setCell ⟨w.heap.size + 1 + 1, 0, none⟩ (.int .i64 ((pre.length : Int) + 1))) := hbel.setCell (p := ⟨w.heap.size + 1 + 1, 0, none⟩) (Nat.le_refl _) _
    have HBE := Lib.hid hbe
    have hx1 := (hbe.block (w.heap.size + 1) (by omega)).trans X1.out
    have HX1 := Lib.hid hx1
    have HLEN := Lib.hid hlen
    have hpl : (pre ++ [x]).length = pre.length + 1 := by simp
    have HPL := Lib.hid hpl
    clear hpl
    obtain ⟨q, hq⟩ : ∃ q, pre.length = q := ⟨_, rfl⟩
    rw [hq] at h0 hle HST HBE hv HLEN HPL hx1 HX1
    clear hn hst hbe hG hlen hq hbel
    have hf3 : (W.setCell ⟨w.heap.size + 1 + 1, 0, none⟩ (.int .i64 ((q : Int) + 1))).frozen? ⟨w.heap.size + 1, 0, none⟩ = false := block_free HX1.out 0
    have hc3 : (W.setCell ⟨w.heap.size + 1 + 1, 0, none⟩ (.int .i64 ((q : Int) + 1))).cell? ⟨w.heap.size + 1, 0, none⟩ = some (.bool false) := block_cell HX1.out 0
    have hkf : KeepsFrom W0.heap.size W (W.setCell ⟨w.heap.size + 1 + 1, 0, none⟩ (.int .i64 ((q : Int) + 1))) := (KeepsOthers.setCell _ _ _).from _
    have hkb : KeepsBut (w.heap.size + 1 + 1) W (W.setCell ⟨w.heap.size + 1 + 1, 0, none⟩ (.int .i64 ((q : Int) + 1))) := KeepsBut.setCell _ _ _
    have HKF := Lib.hid hkf
    have HKB := Lib.hid hkb
    clear hkf hkb
    by_cases h60 : q + 1 ≤ 60
    · have d1 : decide (((q + 1 : Nat) : Int) > 60) = false := by simp; omega
      have d2 : ¬ ((60 : Int) < (q : Int) + 1) := by omega
      have d3 : ¬ (60 < q + 1) := by omega
      gi_wp2
      exact ⟨HKF.out, HKB.out, ⟨HST.out, HBE.out⟩, by rw [HPL.out]; omega⟩
    · have d1 : decide (((q + 1 : Nat) : Int) > 60) = true := by simp; omega
      have d2 : ((60 : Int) < (q : Int) + 1) := by omega
      have d3 : (60 < q + 1) := by omega
      have hfin : Below w.heap.size w ((W.setCell ⟨w.heap.size + 1 + 1, 0, none⟩ (.int .i64 ((q : Int) + 1))).setCell ⟨w.heap.size + 1, 0, none⟩ (.bool true)) := (HB0.out.trans (HBE.out.mono (by omega))).setCell (p := ⟨w.heap.size + 1, 0, none⟩) (by show w.heap.size ≤ w.heap.size + 1; omega) _
      have hset := block_set HX1.out 0 (.bool true)
      have HFIN := Lib.hid hfin
      have HSET := Lib.hid hset
      clear hfin hset
      gi_wp2
      exact ⟨HKF.out.trans ((KeepsOthers.setCell _ _ _).from _), ⟨HSET.out, HFIN.out⟩, rfl, by have := HLEN.out; omega⟩
  case done =>
    rintro D xs W hD hxl ⟨⟨hn, hbel⟩, hle⟩ hK
    rw [hxl] at hn hle
    have hbw : Below w.heap.size w W := HB0.out.trans (hbel.mono (by omega))
    have hDs : w.heap.size ≤ D := by have := HSZ.out; omega
    have hx0 := (hbel.block w.heap.size (by omega)).trans X0.out
    have hx1 := (hbel.block (w.heap.size + 1) (by omega)).trans X1.out
    have HK := Lib.hid hK
    have HBW := Lib.hid hbw
    have HX1 := Lib.hid hx1
    have c0 : W.cell? ⟨w.heap.size, 0, none⟩ = some (.int .i64 k) := block_cell hx0 0
    have c1 : W.cell? ⟨w.heap.size, 1, none⟩ = some (.int .i64 n) := block_cell hx0 1
    have c2 : W.cell? ⟨w.heap.size, 2, none⟩ = some (.slice a m cap) := block_cell hx0 2
    have HB : Hid (bigB t = decide (12 < t.depth)) := by unfold Hid bigB; rw [decide_eq_false (by omega), Bool.false_or]
    obtain ⟨d, hd⟩ : ∃ d, t.depth = d := ⟨_, rfl⟩
    rw [hd] at HD HB
    clear hn hbel hK hbw hx0 hx1 hle hd
    gi_wp2
    refine ⟨trivial, (callsIn_wide.2 (HD.out _ HBW.out)).mono ?_⟩
    rintro e w2 ⟨rfl, hb2⟩
    have hx1 := (hb2.block _ (block_lt HX1.out)).trans HX1.out
    have hk2 := (hb2.block _ (block_lt HK.out)).trans HK.out
    have c1' : w2.cell? ⟨w.heap.size + 1, 0, none⟩ = some (.bool false) := block_cell hx1 0
    have f1' : w2.frozen? ⟨w.heap.size + 1, 0, none⟩ = false := block_free hx1 0
    have hne : D ≠ w.heap.size + 1 := by have := HSZ.out; omega
    have hbw2 := chain HBW.out hb2
    have HK2 := Lib.hid hk2
    have HBW2 := Lib.hid hbw2
    clear hx1 hk2 hbw2 hb2 c0 c1 c2
    have fin : ∀ v : Bool, ((w2.setCell ⟨w.heap.size + 1, 0, none⟩ (.bool v)).heap[D]? = some (.deferred (some []))) ∧ Below w.heap.size w ((w2.setCell ⟨w.heap.size + 1, 0, none⟩ (.bool v)).putObj D (.deferred none)) ∧ ((w2.setCell ⟨w.heap.size + 1, 0, none⟩ (.bool v)).putObj D (.deferred none)).cell? ⟨w.heap.size + 1, 0, none⟩ = some (.bool v) := fun v => by
      have hke := (set_far w2 ⟨w.heap.size + 1, 0, none⟩ (.bool v) D (by show D ≠ w.heap.size + 1; omega)).trans HK2.out
      have hbe := HBW2.out.setCell (p := ⟨w.heap.size + 1, 0, none⟩) (by show w.heap.size ≤ w.heap.size + 1; omega) (.bool v)
      exact ⟨hke, hbe.trans (belowK_b (w := w) (Nat.le_refl _) _ D _ _ hDs hke rfl rfl), (World.cell?_of_block (World.putObj_heap_other (by first | exact hne | exact Ne.symm hne))).trans (World.cell?_setCell_same w2 ⟨w.heap.size + 1, 0, none⟩ (.bool v) c1')⟩
    have FIN := Lib.hid fin
    clear fin
    by_cases h12 : 12 < d
    · have d1 : decide ((d : Int) > 12) = true := by simp; omega
      have d2 : (12 : Int) < (d : Int) := by omega
      have HB12 : Hid (bigB t = true) := by rw [HB.out]; unfold Hid; simp; omega
      clear h12
      gi_wp2
      refine ⟨by simp, .inl ⟨_, _, rfl, run_takeDeferred (FIN.out true).1, ?_⟩⟩
      have hcl := (FIN.out true).2.2
      refine ⟨.bool true, ?_, by rw [HB12.out], (FIN.out true).2.1⟩
      simp [results, Try.results45, go_sem, hcl]
    · have d1 : decide ((d : Int) > 12) = false := by simp; omega
      have d2 : ¬ (12 : Int) < (d : Int) := by omega
      have HB12 : Hid (bigB t = false) := by rw [HB.out]; unfold Hid; simp; omega
      clear h12
      gi_wp2
      refine ⟨by simp, .inl ⟨_, _, rfl, run_takeDeferred (FIN.out false).1, ?_⟩⟩
      have hcl := (FIN.out false).2.2
      refine ⟨.bool false, ?_, by rw [HB12.out], (FIN.out false).2.1⟩
      simp [results, Try.results45, go_sem, hcl]
  case stop =>
    rintro D c pre W hD ⟨⟨hx1, hbel⟩, rfl, h60⟩ hK
    have HK := Lib.hid hK
    have HBW := Lib.hid hbel
    have c1 : W.cell? ⟨w.heap.size + 1, 0, none⟩ = some (.bool true) := block_cell hx1 0
    have HB : Hid (bigB t = true) := by unfold Hid bigB; rw [decide_eq_true h60, Bool.true_or]
    have hne : D ≠ w.heap.size + 1 := by have := HSZ.out; omega
    have hDs : w.heap.size ≤ D := by have := HSZ.out; omega
    have hcl : (W.putObj D (.deferred none)).cell? ⟨w.heap.size + 1, 0, none⟩ = some (.bool true) := (World.cell?_of_block (World.putObj_heap_other (by first | exact hne | exact Ne.symm hne))).trans c1
    have hbe2 : Below w.heap.size w (W.putObj D (.deferred none)) := hbel.trans (belowK_b (w := w) (Nat.le_refl _) _ D _ _ hDs hK rfl rfl)
    have HBE2 := Lib.hid hbe2
    clear hx1 hbel hK hbe2 h60
    gi_wp2
    refine ⟨by simp, .inl ⟨_, _, rfl, run_takeDeferred HK.out, ?_⟩⟩
    refine ⟨.bool true, ?_, by rw [HB.out], HBE2.out⟩
    simp [results, Try.results45, go_sem, hcl]
/-- Is it a plan: the error's number. -/
def chk (t : Tr) : Int := if bigB t then 12 else if t.wrong.isSome then 8 else 0
theorem GivesWr.any {ps : List Int} {r : Option (List Int)} {w : World} {e : Ending} {w' : World} (h : GivesWr ps r w e w') : ∃ a l c, e = .returned (.tuple #[.slice a l c, .bool r.isSome]) ∧ Below w.heap.size w w' := by
  cases r with
  | none => exact ⟨none, 0, 0, h.1, h.2⟩
  | some q =>
    obtain ⟨a, l, c, h1, _, _, _, h5⟩ := h
    exact ⟨a, l, c, h1, h5⟩
set_option maxHeartbeats 1000000 in
theorem valid_Check (t : Tr) (k n : Int) (a : Option Addr) (m cap : Nat) (w : World) (F : Nat → Prop) (hs : t.size ≤ 4194304) (hT : IsT w F k n a m cap t) :
    Calls Try.prog 38 #[.agg #[.int .i64 k, .int .i64 n, .slice a m cap]] w fun e w' => e = .returned (.int .i64 (chk t)) ∧ Below w.heap.size w w' := by
  have CB : Hid (∀ W, Below w.heap.size w W → Calls Try.prog 45 #[.agg #[.int .i64 k, .int .i64 n, .slice a m cap]] W fun e w' => e = .returned (.bool (bigB t)) ∧ Below W.heap.size W w') := fun W hb => valid_big t k n a m cap W F hs (hT.below hb)
  have CW : Hid (∀ W, Below w.heap.size w W → Calls Try.prog 46 #[.agg #[.int .i64 k, .int .i64 n, .slice a m cap]] W fun e w' => ∃ a l c, e = .returned (.tuple #[.slice a l c, .bool t.wrong.isSome]) ∧ Below W.heap.size W w') := fun W hb => (valid_Wrong t k n a m cap W F hs (hT.below hb)).mono fun e w' h => h.any
  have HC : Hid (chk t = if bigB t then 12 else if t.wrong.isSome then 8 else 0) := rfl
  obtain ⟨B, hB⟩ : ∃ B, bigB t = B := ⟨_, rfl⟩
  obtain ⟨R, hR⟩ : ∃ R, t.wrong.isSome = R := ⟨_, rfl⟩
  rw [hB] at CB HC
  rw [hR] at CW HC
  rw [HC.out]
  clear hB hR HC hT hs
  cases B with
  | true =>
    go_enter Try.func38, Try.ntmps38
    go_wp2_with fail
    refine (CB.out _ ((Below.refl _ _).alloc (Nat.le_refl _) _)).mono ?_; rintro e w1 ⟨rfl, hb1⟩
    have hb := chainA (Below.refl w.heap.size w) hb1
    clear hb1
    go_wp2_with fail
    go_ret
    exact ⟨rfl, hb⟩
  | false =>
    cases R
    all_goals
      go_enter Try.func38, Try.ntmps38
      go_wp2_with fail
      refine (CB.out _ ((Below.refl _ _).alloc (Nat.le_refl _) _)).mono ?_; rintro e w1 ⟨rfl, hb1⟩
      have hb := chainA (Below.refl w.heap.size w) hb1
      have hx := (hb1.block w.heap.size (by simp)).trans (block_new rfl)
      have x0 : w1.cell? ⟨w.heap.size, 0, none⟩ = some (.int .i64 k) := block_cell hx 0
      have x1 : w1.cell? ⟨w.heap.size, 1, none⟩ = some (.int .i64 n) := block_cell hx 1
      have x2 : w1.cell? ⟨w.heap.size, 2, none⟩ = some (.slice a m cap) := block_cell hx 2
      have HB := Lib.hid hb
      clear hb1 hx hb
      go_wp2_with fail
      refine (CW.out _ HB.out).mono ?_; rintro e w2 ⟨a2, l2, c2, rfl, hb2⟩
      have hb := chain HB.out hb2
      clear hb2 x0 x1 x2
      go_wp2_with fail
      go_ret
      exact ⟨rfl, hb⟩
/-- The key. -/
theorem key_box (w : World) (K D k n : Int) (a : Option Addr) (m c : Nat) (T U : TypeId) :
    ∃ W0, (w.alloc (.cells #[.int .i64 K, .int .i64 D] T)).alloc (.cells #[.int .i64 k, .int .i64 n, .slice a m c] U) = W0 ∧ Below w.heap.size w W0 ∧
      W0.heap[w.heap.size]? = some (.cells #[.int .i64 K, .int .i64 D] T (0, 0)) ∧ W0.heap[w.heap.size + 1]? = some (.cells #[.int .i64 k, .int .i64 n, .slice a m c] U (0, 0)) :=
  ⟨_, rfl, ((Below.refl _ _).alloc (Nat.le_refl _) _).alloc (by simp) _, block_old (by simp) (block_new rfl), block_new (by simp)⟩
/-- Is it a plan of a key: the error's number. -/
def forK (K D : Int) (t : Tr) : Int := if hasSz K = false then 4 else if D ≠ 0 ∧ D ≠ 1 then 2 else if chk t ≠ 0 then chk t else if t.num ≠ K then 8 else 0
end Go.Proofs.Ytonffapiamhdbaa

