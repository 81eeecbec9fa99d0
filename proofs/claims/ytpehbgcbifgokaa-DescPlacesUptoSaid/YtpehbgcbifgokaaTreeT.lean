/- Trees: another node at a place, by the program. -/
import Derived.Test.YtpehbgcbifgokaaTreeS
import Derived.Test.YtpehbgcbifgokaaTreeP
import Derived.Deep.Cut
namespace Go.Proofs.Ytpehbgcbifgokaa
open Go.RowKit
set_option linter.unusedVariables false
set_option linter.unusedSimpArgs false

theorem set3o {w : World} {b o : Nat} {x y z : Value} (x' y' z' : Value) (h0 : w.cell? ⟨b, o, none⟩ = some x) (h1 : w.cell? ⟨b, o + 1, none⟩ = some y) (h2 : w.cell? ⟨b, o + 2, none⟩ = some z) :
    (((w.setCell ⟨b, o, none⟩ x').setCell ⟨b, o + 1, none⟩ y').setCell ⟨b, o + 2, none⟩ z').cell? ⟨b, o, none⟩ = some x' ∧ (((w.setCell ⟨b, o, none⟩ x').setCell ⟨b, o + 1, none⟩ y').setCell ⟨b, o + 2, none⟩ z').cell? ⟨b, o + 1, none⟩ = some y' ∧
    (((w.setCell ⟨b, o, none⟩ x').setCell ⟨b, o + 1, none⟩ y').setCell ⟨b, o + 2, none⟩ z').cell? ⟨b, o + 2, none⟩ = some z' ∧
    (∀ c e, ¬ (c = b ∧ o ≤ e ∧ e < o + 3) → (((w.setCell ⟨b, o, none⟩ x').setCell ⟨b, o + 1, none⟩ y').setCell ⟨b, o + 2, none⟩ z').cell? ⟨c, e, none⟩ = w.cell? ⟨c, e, none⟩) := by
  refine ⟨?_, ?_, ?_, fun c e hne => ?_⟩
  · rw [World.cell?_setCell_other _ _ _ _ (by simp), World.cell?_setCell_other _ _ _ _ (by simp), World.cell?_setCell_same _ _ _ h0]
  · rw [World.cell?_setCell_other _ _ _ _ (by simp), World.cell?_setCell_same (u := y) _ _ _ (by rw [World.cell?_setCell_other _ _ _ _ (by simp)]; exact h1)]
  · rw [World.cell?_setCell_same (u := z) _ _ _ (by rw [World.cell?_setCell_other _ _ _ _ (by simp), World.cell?_setCell_other _ _ _ _ (by simp)]; exact h2)]
  · rw [World.cell?_setCell_other _ _ _ _ (fun h => hne (by cases h; omega)), World.cell?_setCell_other _ _ _ _ (fun h => hne (by cases h; omega)), World.cell?_setCell_other _ _ _ _ (fun h => hne (by cases h; omega))]

def Ge (B : Nat) (b : Nat) : Prop := B ≤ b

set_option maxHeartbeats 2000000 in
theorem desc_Put_no (t u : Tr) (k n : Int) (a : Option Addr) (m cap : Nat) (pa : Option Addr) (L pc : Nat) (p : List Int) (k' n' : Int) (a' : Option Addr) (m' cap' : Nat) (w : World) (F : Nat → Prop) (hs : t.size ≤ 4194304) (hT : IsT w F k n a m cap t) (hp : Row .i64 w pa p) (hl : p.length = L) (h : Tr.at? t p = none) :
    Calls Try.prog 22 #[.agg #[.int .i64 k, .int .i64 n, .slice a m cap], .slice pa L pc, .agg #[.int .i64 k', .int .i64 n', .slice a' m' cap']] w (GivesN2 w) := by
  have CA : Hid (∀ W, Below w.heap.size w W → Calls Try.prog 21 #[.agg #[.int .i64 k, .int .i64 n, .slice a m cap], .slice pa L pc] W fun e w' => e = .returned (.tuple #[.agg #[.int .i64 0, .int .i64 0, .slice none 0 0], .bool false]) ∧ Below W.heap.size W w') :=
    fun W hb => desc_At_no t k n a m cap pa L pc p W F hs (hT.below hb) (hp.below hb) hl h
  clear hs hT hp hl h
  obtain ⟨W0, hW0, hb0, hs0, x0, x1, x2⟩ := three_boxes w k n k' n' 0 0 a a' none m cap m' cap' 0 0 24
  have HB0 := Lib.hid hb0
  have HW0 := Lib.hid hW0
  have HX2 := Lib.hid x2
  clear hb0 hW0 x0 x1 x2 hs0
  go_enter Try.func22, Try.ntmps22
  go_wp2_with fail
  rw [HW0.out]
  refine (CA.out _ HB0.out).mono ?_; rintro e w1 ⟨rfl, hb1⟩
  have HB1 := Lib.hid (chain HB0.out hb1)
  have HR := Lib.hid ((hb1.block _ (block_lt HX2.out)).trans HX2.out)
  have p0 := block_cell HR.out 0
  have p1 := block_cell HR.out 1
  have p2 := block_cell HR.out 2
  have pf0 := block_free HR.out 0
  have pf1 := block_free HR.out 1
  have pf2 := block_free HR.out 2
  simp at p0 p1 p2
  have hl1 := block_lt HR.out
  clear hb1
  go_wp2_with fail
  have hbl := block_old (o := .cells #[.int .i64 0, .int .i64 0, .slice none 0 0] 24) (by rw [set3_size]; exact hl1) (set3 (x' := .int .i64 0) (y' := .int .i64 0) (z' := .slice none 0 0) HR.out)
  have hb3 := (set3_below HB1.out (w.heap.size + 1 + 1) (by omega) (.int .i64 0) (.int .i64 0) (.slice none 0 0)).alloc (by rw [set3_size]; exact HB1.out.size) (.cells #[.int .i64 0, .int .i64 0, .slice none 0 0] 24)
  obtain ⟨w3, hw3⟩ : ∃ w3, ((((w1.setCell ⟨w.heap.size + 1 + 1, 0, none⟩ (.int .i64 0)).setCell ⟨w.heap.size + 1 + 1, 1, none⟩ (.int .i64 0)).setCell ⟨w.heap.size + 1 + 1, 2, none⟩ (.slice none 0 0)).alloc (.cells #[.int .i64 0, .int .i64 0, .slice none 0 0] 24)) = w3 := ⟨_, rfl⟩
  rw [hw3] at hbl hb3 ⊢
  have r0 := block_cell hbl 0
  have r1 := block_cell hbl 1
  have r2 := block_cell hbl 2
  simp at r0 r1 r2
  exact bodyPost_ret (v := .tuple #[.agg #[.int .i64 0, .int .i64 0, .slice none 0 0], .bool false]) (by simp [results, Try.results22, go_sem, r0, r1, r2]) rfl ⟨rfl, hb3⟩

/-- A result of two: a tree that is new, and true. -/
def GivesG2 (t : Tr) (w : World) (e : Ending) (w' : World) : Prop :=
  ∃ k n a m c, e = .returned (.tuple #[.agg #[.int .i64 k, .int .i64 n, .slice a m c], .bool true]) ∧ IsT w' (Ge w.heap.size) k n a m c t ∧ Below w.heap.size w w'

set_option maxHeartbeats 4000000 in
theorem desc_Put_yes (t u s : Tr) (k n : Int) (a : Option Addr) (m cap : Nat) (pa : Option Addr) (L pc : Nat) (p : List Int) (k' n' : Int) (a' : Option Addr) (m' cap' : Nat) (w : World) (F G : Nat → Prop) (hs : t.size ≤ 4194304) (hsu : u.size ≤ 4194304) (hT : IsT w F k n a m cap t) (hU : IsT w G k' n' a' m' cap' u) (hp : Row .i64 w pa p) (hl : p.length = L) (h : Tr.at? t p = some s) :
    Calls Try.prog 22 #[.agg #[.int .i64 k, .int .i64 n, .slice a m cap], .slice pa L pc, .agg #[.int .i64 k', .int .i64 n', .slice a' m' cap']] w (GivesG2 (t.put p u) w) := by
  have CA : Hid (∀ W, Below w.heap.size w W → Calls Try.prog 21 #[.agg #[.int .i64 k, .int .i64 n, .slice a m cap], .slice pa L pc] W (GivesS2 s W)) :=
    fun W hb => desc_At_yes t s k n a m cap pa L pc p W F hs (hT.below hb) (hp.below hb) hl h
  have CC : Hid (∀ W, Below w.heap.size w W → Calls Try.prog 20 #[.agg #[.int .i64 k, .int .i64 n, .slice a m cap]] W (GivesS t W)) := fun W hb => desc_Clone 4194304 (by omega) t k n a m cap W F hs (hT.below hb)
  have CU : Hid (∀ W, Below w.heap.size w W → Calls Try.prog 20 #[.agg #[.int .i64 k', .int .i64 n', .slice a' m' cap']] W (GivesS u W)) := fun W hb => desc_Clone 4194304 (by omega) u k' n' a' m' cap' W G hsu (hU.below hb)
  have HP := Lib.hid hp
  have HL := Lib.hid hl
  have HH := Lib.hid h
  have hlm := hp.len
  rw [hl] at hlm
  clear hs hsu hT hU hp hl h
  obtain ⟨W0, hW0, hb0, hs0, x0, x1, x2⟩ := three_boxes w k n k' n' 0 0 a a' none m cap m' cap' 0 0 24
  have HB0 := Lib.hid hb0
  have HW0 := Lib.hid hW0
  have HX0 := Lib.hid x0
  have HX1 := Lib.hid x1
  have HX2 := Lib.hid x2
  clear hb0 hW0 x0 x1 x2 hs0
  go_enter Try.func22, Try.ntmps22
  go_wp2_with fail
  rw [HW0.out]
  refine (CA.out _ HB0.out).mono ?_; rintro e w1 ⟨k1, n1, a1, m1, c1, rfl, hS1, hb1⟩
  have HB1 := Lib.hid (chain HB0.out hb1)
  have HX0' := Lib.hid ((hb1.block _ (block_lt HX0.out)).trans HX0.out)
  have HX1' := Lib.hid ((hb1.block _ (block_lt HX1.out)).trans HX1.out)
  have HX2' := Lib.hid ((hb1.block _ (block_lt HX2.out)).trans HX2.out)
  have c0 := block_cell HX0'.out 0
  have c1' := block_cell HX0'.out 1
  have c2 := block_cell HX0'.out 2
  simp at c0 c1' c2
  have hl0 := block_lt HX0'.out
  have hl1 := block_lt HX1'.out
  have hl2 := block_lt HX2'.out
  clear hb1 hS1
  go_wp2_with fail
  refine (CC.out _ (chain HB1.out ((Below.refl _ _).alloc (Nat.le_refl _) _))).mono ?_
  rintro e w2 ⟨k2, n2, a2, m2, c2', rfl, hS2, hb2⟩
  have hbb : Below w1.heap.size w1 w2 := chain ((Below.refl _ _).alloc (Nat.le_refl _) _) hb2
  have hlo : w.heap.size + 3 ≤ w1.heap.size + 1 := by omega
  have HS2 : Hid (IsS w2 (Iv (w1.heap.size + 1) w2.heap.size) k2 n2 a2 m2 c2' t) := hS2.mono fun b hb => by
    have h1 := hb.1
    simp at h1
    exact ⟨h1, hb.2⟩
  have HB2 := Lib.hid (chain HB1.out hbb)
  have HX1'' := Lib.hid ((hbb.block _ hl1).trans HX1'.out)
  have HX2'' := Lib.hid ((hbb.block _ hl2).trans HX2'.out)
  have hs2 : w1.heap.size + 1 ≤ w2.heap.size := by have := hb2.size; simpa using this
  clear hb2 hbb hS2 c0 c1' c2
  go_wp2_with fail
  obtain ⟨W5, hW5⟩ : ∃ W5, (w2.alloc (.cells #[.int .i64 k2, .int .i64 n2, .slice a2 m2 c2'] 24)).alloc (.cells #[.int .i64 0, .int .i64 0, .slice (some ⟨w2.heap.size, 0, none⟩) 1 1] 24) = W5 := ⟨_, rfl⟩
  have hb5 : Below w2.heap.size w2 W5 := by rw [← hW5]; exact ((Below.refl _ _).alloc (Nat.le_refl _) _).alloc (by simp) _
  have hg5 : W5.heap[w2.heap.size]? = some (.cells #[.int .i64 k2, .int .i64 n2, .slice a2 m2 c2'] 24 (0, 0)) := by rw [← hW5]; exact block_old (by simp) (block_new rfl)
  have ho5 : W5.heap[w2.heap.size + 1]? = some (.cells #[.int .i64 0, .int .i64 0, .slice (some ⟨w2.heap.size, 0, none⟩) 1 1] 24 (0, 0)) := by rw [← hW5]; exact block_new (by simp)
  have hs5 : W5.heap.size = w2.heap.size + 2 := by rw [← hW5]; simp
  rw [hW5]
  clear hW5
  have HB5 := Lib.hid (chain HB2.out hb5)
  have HX1 := Lib.hid ((hb5.block _ (block_lt HX1''.out)).trans HX1''.out)
  have HX2 := Lib.hid ((hb5.block _ (block_lt HX2''.out)).trans HX2''.out)
  have HS5 := Lib.hid (HS2.out.later hb5)
  have HG5 := Lib.hid hg5
  have HO5 := Lib.hid ho5
  have HZ5 := Lib.hid hs5
  clear hb5 hg5 ho5 hs5
  go_loopw [11, 32] (fun nd i wr => ∃ (j b o : Nat) (r : Tr) (k3 n3 : Int) (a3 : Option Addr) (m3 c3 : Nat) (G3 : Nat → Prop), j ≤ L ∧ i = .int .i64 j ∧ nd = .pointer (some ⟨b, o, none⟩) ∧ Hid (Tr.at? t (p.take j) = some r) ∧ Hid (W5.cell? ⟨b, o, none⟩ = some (.int .i64 k3) ∧ W5.cell? ⟨b, o + 1, none⟩ = some (.int .i64 n3) ∧ W5.cell? ⟨b, o + 2, none⟩ = some (.slice a3 m3 c3) ∧ (∀ o, W5.frozen? ⟨b, o, none⟩ = false)) ∧
    Hid (IsS W5 G3 k3 n3 a3 m3 c3 r) ∧ Hid (¬ G3 b ∧ (∀ x, G3 x → Iv (w1.heap.size + 1) w2.heap.size x)) ∧ w1.heap.size + 1 ≤ b ∧ b ≤ w2.heap.size ∧ Hid (Ctx (Ge (w1.heap.size + 1)) W5 w2.heap.size 0 t (p.take j) G3 b o) ∧ W5 = wr) (fun _ i _ => L - (intOf i).toNat)
  case atStart =>
    refine ⟨0, w2.heap.size, 0, t, k2, n2, a2, m2, c2', Iv (w1.heap.size + 1) w2.heap.size, Nat.zero_le _, rfl, rfl, ?_, ?_, HS5.out, ?_, hs2, Nat.le_refl _, Ctx.start _ _ _ _ _ _, rfl⟩
    · simp [Hid, Tr.at?]
    · exact ⟨block_cell HG5.out 0, block_cell HG5.out 1, block_cell HG5.out 2, fun o => block_free HG5.out o⟩
    · exact ⟨fun h => by have := h.2; omega, fun x hx => hx⟩
  case round =>
    obtain ⟨j, b, o, r, k3, n3, a3, m3, c3, G3, hj, rfl, rfl, HA, HC, HSR, HGG, hb1, hb2, HCT, rfl⟩ := hrel
    by_cases hlt : j < L
    · obtain ⟨pb, po, rfl, hc⟩ := (HP.out.below HB5.out).at (by rw [HL.out]; omega)
      have h1 := hc j (by rw [HL.out]; exact hlt)
      have hd := dropT' p j (by rw [HL.out]; exact hlt)
      have htk := take_succ_nth (xs := p) (k := j) (by rw [HL.out]; exact hlt)
      have hat : Tr.at? r (p.drop j) = some s := Tr.at_drop HA.out (by rw [List.take_append_drop]; exact HH.out)
      rw [hd] at hat
      obtain ⟨i0, i1, i2⟩ := Tr.at_yes hat
      obtain ⟨x, hx⟩ : ∃ x, nth p j = x := ⟨_, rfl⟩
      rw [hx] at h1 i0 i1 i2 htk
      obtain ⟨x, rfl⟩ := Int.eq_ofNat_of_zero_le i0
      have hxm : x < m3 := by rw [HSR.out.em]; omega
      obtain ⟨q0, q1, q2, q3⟩ := HC.out
      obtain ⟨g, k4, n4, a4, m4, c4, G4, rfl, hg1, hg2, u0, u1, u2, hS4, hG4, hG5, hCt4, hat4⟩ := Ctx.step HCT.out HA.out HSR.out HGG.out.1 (fun y hy => (HGG.out.2 y hy).1) q0 q1 q2 x hxm
      have hgiv := HGG.out.2 g hg1
      have HA4 : Hid (Tr.at? t (p.take (j + 1)) = some (Tr.kid r.kids x)) := by unfold Hid; rw [htk]; exact hat4
      have HCT4 : Hid (Ctx (Ge (w1.heap.size + 1)) W5 w2.heap.size 0 t (p.take (j + 1)) G4 g (x * 3)) := by unfold Hid; rw [htk]; exact hCt4
      have HS4 := Lib.hid hS4
      have HG4 : Hid (¬ G4 g ∧ (∀ x, G4 x → Iv (w1.heap.size + 1) w2.heap.size x)) := ⟨hG4, fun y hy => HGG.out.2 y (hG5 y hy)⟩
      have HC4 : Hid (W5.cell? ⟨g, x * 3, none⟩ = some (.int .i64 k4) ∧ W5.cell? ⟨g, x * 3 + 1, none⟩ = some (.int .i64 n4) ∧ W5.cell? ⟨g, x * 3 + 2, none⟩ = some (.slice a4 m4 c4) ∧ (∀ o, W5.frozen? ⟨g, o, none⟩ = false)) := ⟨u0, u1, u2, hg2⟩
      have g0 : (0 : Int) ≤ (x : Int) := by omega
      have g1 : (x : Int) < (m3 : Int) := by omega
      obtain ⟨hgv0, hgv1⟩ := hgiv
      clear hc hd htk hat i1 i2 hx hS4 hG4 hG5 hCt4 hat4 hg1 hg2 u0 u1 u2 q0 q1 q3 HC
      go_wp2_with fail
      go_roundw
      case rel => exact ⟨j + 1, g, x * 3, Tr.kid r.kids x, k4, n4, a4, m4, c4, G4, by omega, by go_num, by simp, HA4.out, HC4.out, HS4.out, HG4.out, hgv0, by omega, HCT4.out, trivial⟩
      case measure => simp [intOf]; omega
    · have hjL : j = L := by omega
      have htp : p.take j = p := List.take_of_length_le (by rw [HL.out]; omega)
      obtain ⟨q0, q1, q2, q3⟩ := HC.out
      have d0 := block_cell HX1.out 0
      have d1 := block_cell HX1.out 1
      have d2 := block_cell HX1.out 2
      simp at d0 d1 d2
      have hbl := World.block_lt_of_cell? _ _ q0
      simp only [] at hbl
      have hZ := HZ5.out
      clear q0 q1 q2 q3
      go_wp2_with fail
      refine (CU.out _ HB5.out).mono ?_
      rintro e w6 ⟨k6, n6, a6, m6, c6, rfl, hS6, hb6⟩
      obtain ⟨q0, q1, q2, q3⟩ := HC.out
      have v0 := (hb6.cell (p := ⟨b, o, none⟩) hbl).trans q0
      have v1 := (hb6.cell (p := ⟨b, o + 1, none⟩) hbl).trans q1
      have v2 := (hb6.cell (p := ⟨b, o + 2, none⟩) hbl).trans q2
      have f0 := (hb6.frozen (p := ⟨b, o, none⟩) hbl).trans (q3 o)
      have f1 := (hb6.frozen (p := ⟨b, o + 1, none⟩) hbl).trans (q3 (o + 1))
      have f2 := (hb6.frozen (p := ⟨b, o + 2, none⟩) hbl).trans (q3 (o + 2))
      have HO6 := Lib.hid ((hb6.block _ (block_lt HO5.out)).trans HO5.out)
      have HR6 := Lib.hid ((hb6.block _ (block_lt HX2.out)).trans HX2.out)
      have HB6 := Lib.hid hb6
      have HS6 := Lib.hid hS6
      have y0 : w6.cell? ⟨w2.heap.size + 1, 2, none⟩ = some (.slice (some ⟨w2.heap.size, 0, none⟩) 1 1) := block_cell HO6.out 2
      have ne1 : w2.heap.size + 1 ≠ b := by omega
      have ne2 : w.heap.size + 1 + 1 ≠ b := by omega
      obtain ⟨s0, s1, s2, s3⟩ := set3o (.int .i64 k6) (.int .i64 n6) (.slice a6 m6 c6) v0 v1 v2
      have y1 := (s3 (w2.heap.size + 1) 2 (fun h => ne1 h.1)).trans y0
      have hfar : ∀ c, c ≠ b → (((w6.setCell ⟨b, o, none⟩ (.int .i64 k6)).setCell ⟨b, o + 1, none⟩ (.int .i64 n6)).setCell ⟨b, o + 2, none⟩ (.slice a6 m6 c6)).heap[c]? = w6.heap[c]? := fun c hc => by rw [set_far _ _ _ _ hc, set_far _ _ _ _ hc, set_far _ _ _ _ hc]
      have hsz7 : (((w6.setCell ⟨b, o, none⟩ (.int .i64 k6)).setCell ⟨b, o + 1, none⟩ (.int .i64 n6)).setCell ⟨b, o + 2, none⟩ (.slice a6 m6 c6)).heap.size = w6.heap.size := by rw [set_size, set_size, set_size]
      have hb7 : Below w.heap.size w (((w6.setCell ⟨b, o, none⟩ (.int .i64 k6)).setCell ⟨b, o + 1, none⟩ (.int .i64 n6)).setCell ⟨b, o + 2, none⟩ (.slice a6 m6 c6)) :=
        (((chain HB5.out HB6.out).setCell (p := ⟨b, o, none⟩) (by show w.heap.size ≤ b; omega) _).setCell (p := ⟨b, o + 1, none⟩) (by show w.heap.size ≤ b; omega) _).setCell (p := ⟨b, o + 2, none⟩) (by show w.heap.size ≤ b; omega) _
      have hslot : Slot (Ge (w1.heap.size + 1)) (((w6.setCell ⟨b, o, none⟩ (.int .i64 k6)).setCell ⟨b, o + 1, none⟩ (.int .i64 n6)).setCell ⟨b, o + 2, none⟩ (.slice a6 m6 c6)) w2.heap.size 0 (t.put (p.take j) u) := by
        refine HCT.out _ u (fun x y v hx hxy hv => ?_) ⟨k6, n6, a6, m6, c6, s0, s1, s2, (HS6.out.tree.stay fun x hx _ => hfar x (by have := hx.1; omega)).mono fun x hx => by have := hx.1; show w1.heap.size + 1 ≤ x; omega⟩
        rw [s3 x y hxy]
        exact (HB6.out.cell (World.block_lt_of_cell? _ _ hv)).trans hv
      rw [htp] at hslot
      have HSL := Lib.hid hslot
      have hr7 := (hfar _ ne2).trans HR6.out
      have HR7 := Lib.hid hr7
      have HB7 := Lib.hid hb7
      obtain ⟨w7, hw7⟩ : ∃ w7, (((w6.setCell ⟨b, o, none⟩ (.int .i64 k6)).setCell ⟨b, o + 1, none⟩ (.int .i64 n6)).setCell ⟨b, o + 2, none⟩ (.slice a6 m6 c6)) = w7 := ⟨_, rfl⟩
      rw [hw7] at HSL HR7 HB7 y1
      have HW7 := Lib.hid hw7
      obtain ⟨k7, n7, a7, m7, c7, z0, z1, z2, hT7⟩ := HSL.out
      rw [Nat.zero_add] at z1 z2
      have HT7 := Lib.hid hT7
      have x0 := block_cell HR7.out 0
      have x1 := block_cell HR7.out 1
      have x2 := block_cell HR7.out 2
      have xf0 := block_free HR7.out 0
      have xf1 := block_free HR7.out 1
      have xf2 := block_free HR7.out 2
      simp at x0 x1 x2
      clear hT7 hw7 hb7 hr7 hslot hsz7 hfar s0 s1 s2 s3 hS6 hb6 q0 q1 q2 q3 y0 htp HC HCT d0 d1 d2
      go_upto_region 12 with fail
      rw [HW7.out]
      clear v0 v1 v2 f0 f1 f2
      go_wp2_with fail
      have hbl8 := set3 (x' := .int .i64 k7) (y' := .int .i64 n7) (z' := .slice a7 m7 c7) HR7.out
      have hfar8 := fun c hc => set3_far w7 (w.heap.size + 1 + 1) (.int .i64 k7) (.int .i64 n7) (.slice a7 m7 c7) c hc
      have hb8 := set3_below HB7.out (w.heap.size + 1 + 1) (by omega) (.int .i64 k7) (.int .i64 n7) (.slice a7 m7 c7)
      obtain ⟨w8, hw8⟩ : ∃ w8, ((w7.setCell ⟨w.heap.size + 1 + 1, 0, none⟩ (.int .i64 k7)).setCell ⟨w.heap.size + 1 + 1, 1, none⟩ (.int .i64 n7)).setCell ⟨w.heap.size + 1 + 1, 2, none⟩ (.slice a7 m7 c7) = w8 := ⟨_, rfl⟩
      rw [hw8] at hbl8 hfar8 hb8 ⊢
      have h8 : IsT w8 (Ge w.heap.size) k7 n7 a7 m7 c7 (t.put p u) := (HT7.out.stay fun x hx _ => hfar8 x (by unfold Ge at hx; omega)).mono fun x hx => by unfold Ge at hx ⊢; omega
      have r0 := block_cell hbl8 0
      have r1 := block_cell hbl8 1
      have r2 := block_cell hbl8 2
      simp at r0 r1 r2
      exact bodyPost_ret (v := .tuple #[.agg #[.int .i64 k7, .int .i64 n7, .slice a7 m7 c7], .bool true]) (by simp [results, Try.results22, go_sem, r0, r1, r2]) rfl ⟨k7, n7, a7, m7, c7, rfl, h8, hb8⟩
end Go.Proofs.Ytpehbgcbifgokaa
