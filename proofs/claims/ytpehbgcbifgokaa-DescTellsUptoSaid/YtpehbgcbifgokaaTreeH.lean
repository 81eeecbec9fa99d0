/- Trees: the node at a place, by the program. -/
import Derived.Test.YtpehbgcbifgokaaTreeG
namespace Go.Proofs.Ytpehbgcbifgokaa
open Go.RowKit
set_option linter.unusedVariables false
set_option linter.unusedSimpArgs false

theorem Kids.lt {w : World} {F : Nat → Prop} {a : Option Addr} {cap : Nat} {ks : List Tr} (h : Kids w F a cap ks) : Kids w (Lt w.heap.size) a cap ks := by
  induction h with
  | nil => exact .nil
  | empty a cap => exact .empty a cap
  | row b off cap ks A C hpos hl hF h0 h1 h2 _ ih => exact .row b off cap ks A C hpos hl (World.block_lt_of_cell? w _ (h0 0 hpos)) h0 h1 h2 ih
theorem IsT.lt {w : World} {F : Nat → Prop} {k n : Int} {a : Option Addr} {m cap : Nat} {t : Tr} (h : IsT w F k n a m cap t) : IsT w (Lt w.heap.size) k n a m cap t := ⟨h.ek, h.en, h.em, h.ok, h.kids.lt⟩

namespace Tr
/-- The node at a place. -/
def at? (t : Tr) : List Int → Option Tr
  | [] => some t
  | i :: p => if 0 ≤ i ∧ i < (t.kids.length : Int) then at? (kid t.kids i.toNat) p else none
theorem at_yes {t s : Tr} {i : Int} {p : List Int} (h : at? t (i :: p) = some s) : 0 ≤ i ∧ i < (t.kids.length : Int) ∧ at? (kid t.kids i.toNat) p = some s := by
  unfold at? at h
  split at h
  · rename_i hc; exact ⟨hc.1, hc.2, h⟩
  · cases h
theorem at_in {t : Tr} {i : Int} {p : List Int} (h0 : 0 ≤ i) (h1 : i < (t.kids.length : Int)) : at? t (i :: p) = at? (kid t.kids i.toNat) p := by
  rw [at?, if_pos ⟨h0, h1⟩]
theorem at_out {t : Tr} {i : Int} {p : List Int} (h : ¬ (0 ≤ i ∧ i < (t.kids.length : Int))) : at? t (i :: p) = none := by
  rw [at?, if_neg h]
theorem at_size {t s : Tr} : ∀ {p : List Int}, at? t p = some s → s.size ≤ t.size := by
  intro p
  induction p generalizing t with
  | nil => intro h; unfold at? at h; cases h; exact Nat.le_refl _
  | cons i p ih =>
    intro h
    obtain ⟨h0, h1, h2⟩ := at_yes h
    have := ih h2
    have := size_kid t i.toNat (by omega)
    omega
theorem at_ok {t s : Tr} : ∀ {p : List Int}, at? t p = some s → t.Ok → s.Ok := by
  intro p
  induction p generalizing t with
  | nil => intro h ho; unfold at? at h; cases h; exact ho
  | cons i p ih =>
    intro h ho
    obtain ⟨h0, h1, h2⟩ := at_yes h
    exact ih h2 (ok_mem (kid_mem (by omega)) (ok_kids ho))
/-- No tree. -/
def zero : Tr := node 0 0 []
end Tr

theorem set3 {w : World} {b : Nat} {x y z x' y' z' : Value} {T : TypeId} (h : w.heap[b]? = some (.cells #[x, y, z] T (0, 0))) :
    (((w.setCell ⟨b, 0, none⟩ x').setCell ⟨b, 1, none⟩ y').setCell ⟨b, 2, none⟩ z').heap[b]? = some (.cells #[x', y', z'] T (0, 0)) := block_set (block_set (block_set h 0 _) 1 _) 2 _
theorem set3_far (w : World) (b : Nat) (x' y' z' : Value) (c : Nat) (h : c ≠ b) : (((w.setCell ⟨b, 0, none⟩ x').setCell ⟨b, 1, none⟩ y').setCell ⟨b, 2, none⟩ z').heap[c]? = w.heap[c]? := by
  rw [set_far _ _ _ _ h, set_far _ _ _ _ h, set_far _ _ _ _ h]
theorem set3_size (w : World) (b : Nat) (x' y' z' : Value) : (((w.setCell ⟨b, 0, none⟩ x').setCell ⟨b, 1, none⟩ y').setCell ⟨b, 2, none⟩ z').heap.size = w.heap.size := by rw [set_size, set_size, set_size]
theorem set3_below {w wr : World} {B : Nat} (hb : Below B w wr) (b : Nat) (h : B ≤ b) (x' y' z' : Value) : Below B w (((wr.setCell ⟨b, 0, none⟩ x').setCell ⟨b, 1, none⟩ y').setCell ⟨b, 2, none⟩ z') :=
  ((hb.setCell (p := ⟨b, 0, none⟩) h _).setCell (p := ⟨b, 1, none⟩) h _).setCell (p := ⟨b, 2, none⟩) h _

/-- A result of two: a new tree that shares nothing, and true. -/
def GivesS2 (t : Tr) (w : World) (e : Ending) (w' : World) : Prop :=
  ∃ k n a m c, e = .returned (.tuple #[.agg #[.int .i64 k, .int .i64 n, .slice a m c], .bool true]) ∧ IsS w' (Iv w.heap.size w'.heap.size) k n a m c t ∧ Below w.heap.size w w'

theorem dropT' (xs : List Int) (k : Nat) (h : k < xs.length) : xs.drop k = nth xs k :: xs.drop (k + 1) := dropT xs k h

set_option maxHeartbeats 2000000 in
theorem desc_At_yes (t s : Tr) (k n : Int) (a : Option Addr) (m cap : Nat) (pa : Option Addr) (L pc : Nat) (p : List Int) (w : World) (F : Nat → Prop) (hs : t.size ≤ 4194304) (hT : IsT w F k n a m cap t) (hp : Row .i64 w pa p) (hl : p.length = L) (h : Tr.at? t p = some s) :
    Calls Try.prog 21 #[.agg #[.int .i64 k, .int .i64 n, .slice a m cap], .slice pa L pc] w (GivesS2 s w) := by
  have HT := Lib.hid hT.lt
  have HS := Lib.hid hs
  have HP := Lib.hid hp
  have HL := Lib.hid hl
  have HH := Lib.hid h
  have hlm := hp.len
  rw [hl] at hlm
  clear hT hs hp hl h
  go_enter Try.func21, Try.ntmps21
  go_wp2_with fail
  go_loopw [10] (fun i wr => ∃ (j : Nat) (u : Tr) (k' n' : Int) (a' : Option Addr) (m' c' : Nat), j ≤ L ∧ i = .int .i64 j ∧ Hid (wr.heap[w.heap.size]? = some (.cells #[.int .i64 k', .int .i64 n', .slice a' m' c'] 24 (0, 0))) ∧
    Hid (wr.heap[w.heap.size + 1]? = some (.cells #[.int .i64 0, .int .i64 0, .slice none 0 0] 24 (0, 0))) ∧ Hid (IsT wr (Lt w.heap.size) k' n' a' m' c' u) ∧ Hid (Tr.at? u (p.drop j) = some s) ∧ Hid (u.size ≤ 4194304) ∧ Below w.heap.size w wr) (fun i _ => L - (intOf i).toNat)
  case atStart =>
    have hb0 : Below w.heap.size w ((w.alloc (.cells #[.int .i64 k, .int .i64 n, .slice a m cap] 24)).alloc (.cells #[.int .i64 0, .int .i64 0, .slice none 0 0] 24)) := ((Below.refl _ _).alloc (Nat.le_refl _) _).alloc (by simp) _
    exact ⟨0, t, k, n, a, m, cap, Nat.zero_le _, rfl, block_old (by simp) (block_new rfl), block_new (by simp), HT.out.below hb0, HH.out, HS.out, hb0⟩
  case round =>
    obtain ⟨j, u, k', n', a', m', c', hj, rfl, HO, HR, HU, HA, HZ, hbel⟩ := hrel
    have o0 := block_cell HO.out 0
    have o1 := block_cell HO.out 1
    have o2 := block_cell HO.out 2
    have f0 := block_free HO.out 0
    have f1 := block_free HO.out 1
    have f2 := block_free HO.out 2
    have hl0 := block_lt HO.out
    simp at o0 o1 o2
    by_cases hlt : j < L
    · obtain ⟨pb, po, rfl, hc⟩ := (HP.out.below hbel).at (by rw [HL.out]; omega)
      have h1 := hc j (by rw [HL.out]; exact hlt)
      have hd := dropT' p j (by rw [HL.out]; exact hlt)
      have hat := HA.out
      rw [hd] at hat
      obtain ⟨i0, i1, i2⟩ := Tr.at_yes hat
      have fx := fits_i64.1 (HP.out.wf _ (nth_mem (show j < p.length by rw [HL.out]; exact hlt)))
      obtain ⟨x, hx⟩ : ∃ x, nth p j = x := ⟨_, rfl⟩
      rw [hx] at h1 i0 i1 i2 fx
      obtain ⟨x, rfl⟩ := Int.eq_ofNat_of_zero_le i0
      rw [Int.toNat_natCast] at i2
      have i1' : x < u.kids.length := by omega
      have hxm : x < m' := by rw [HU.out.em]; exact i1'
      have hsz := Tr.size_kid u x i1'
      have hsz' : (Tr.kid u.kids x).size ≤ 4194304 := by have := HZ.out; omega
      obtain ⟨b, off, k2, n2, a2, m2, c2, rfl, hF, hbl, g0, g1, g2, hT'⟩ := HU.out.kid x hxm
      have HZ' := Lib.hid hsz'
      have HT' := Lib.hid hT'
      have HA' := Lib.hid i2
      have q0 : (0 : Int) ≤ (x : Int) := by omega
      have q1 : (x : Int) < (m' : Int) := by omega
      have q2 : decide ((x : Int) < 0) = false := by rw [decide_eq_false_iff_not]; omega
      have q3 : decide ((x : Int) ≥ (m' : Int)) = false := by rw [decide_eq_false_iff_not]; omega
      clear hc hd hat i1 i2 hx hsz hsz' hT' i1' HA
      go_wp2_with fail
      refine ⟨⟨j + 1, Tr.kid u.kids x, k2, n2, a2, m2, c2, by omega, by go_num, set3 HO.out, ?_, ?_, HA'.out, HZ'.out, set3_below hbel _ (Nat.le_refl _) _ _ _⟩, by simp [intOf]; omega⟩
      · unfold Hid; rw [set3_far _ _ _ _ _ _ (by omega)]; exact HR.out
      · exact HT'.out.stay fun b hb _ => set3_far _ _ _ _ _ _ (by unfold Lt at hb; omega)
    · have hjL : j = L := by omega
      have hat := HA.out
      rw [List.drop_eq_nil_of_le (by rw [HL.out]; omega)] at hat
      have hus : u = s := by unfold Tr.at? at hat; exact Option.some.inj hat
      subst hus
      have CC : Hid (Calls Try.prog 20 #[.agg #[.int .i64 k', .int .i64 n', .slice a' m' c']] wr (GivesS u wr)) := desc_Clone 4194304 (by omega) u k' n' a' m' c' wr _ HZ.out HU.out
      have hl1 := block_lt HR.out
      clear hat HA
      go_wp2_with fail
      refine CC.out.mono ?_; rintro e1 w1 ⟨k3, n3, a3, m3, c3, rfl, hS, hb1⟩
      have HR1 := Lib.hid ((hb1.block _ hl1).trans HR.out)
      have p0 := block_cell HR1.out 0
      have p1 := block_cell HR1.out 1
      have p2 := block_cell HR1.out 2
      have pf0 := block_free HR1.out 0
      have pf1 := block_free HR1.out 1
      have pf2 := block_free HR1.out 2
      simp at p0 p1 p2
      have HS1 := Lib.hid hS
      have HB1 := Lib.hid hb1
      have hl2 := block_lt HR1.out
      clear hS hb1
      go_wp2_with fail
      have hbl := set3 (x' := .int .i64 k3) (y' := .int .i64 n3) (z' := .slice a3 m3 c3) HR1.out
      have hfar := fun c hc => set3_far w1 (w.heap.size + 1) (.int .i64 k3) (.int .i64 n3) (.slice a3 m3 c3) c hc
      have hsz3 := set3_size w1 (w.heap.size + 1) (.int .i64 k3) (.int .i64 n3) (.slice a3 m3 c3)
      have hb3 := set3_below (chain hbel HB1.out) (w.heap.size + 1) (by omega) (.int .i64 k3) (.int .i64 n3) (.slice a3 m3 c3)
      obtain ⟨w3, hw3⟩ : ∃ w3, ((w1.setCell ⟨w.heap.size + 1, 0, none⟩ (.int .i64 k3)).setCell ⟨w.heap.size + 1, 1, none⟩ (.int .i64 n3)).setCell ⟨w.heap.size + 1, 2, none⟩ (.slice a3 m3 c3) = w3 := ⟨_, rfl⟩
      rw [hw3] at hbl hfar hsz3 hb3 ⊢
      have h3 : IsS w3 (Iv w.heap.size w3.heap.size) k3 n3 a3 m3 c3 u := (HS1.out.stay fun b hb _ => hfar b (by have := hb.1; omega)).mono fun b hb => ⟨by have := hb.1; omega, by have := hb.2; omega⟩
      have r0 := block_cell hbl 0
      have r1 := block_cell hbl 1
      have r2 := block_cell hbl 2
      simp at r0 r1 r2
      refine bodyPost_ret (v := .tuple #[.agg #[.int .i64 k3, .int .i64 n3, .slice a3 m3 c3], .bool true]) (by simp [results, Try.results21, go_sem, r0, r1, r2]) rfl ⟨k3, n3, a3, m3, c3, rfl, h3, hb3⟩

set_option maxHeartbeats 2000000 in
theorem desc_At_no (t : Tr) (k n : Int) (a : Option Addr) (m cap : Nat) (pa : Option Addr) (L pc : Nat) (p : List Int) (w : World) (F : Nat → Prop) (hs : t.size ≤ 4194304) (hT : IsT w F k n a m cap t) (hp : Row .i64 w pa p) (hl : p.length = L) (h : Tr.at? t p = none) :
    Calls Try.prog 21 #[.agg #[.int .i64 k, .int .i64 n, .slice a m cap], .slice pa L pc] w fun e w' => e = .returned (.tuple #[.agg #[.int .i64 0, .int .i64 0, .slice none 0 0], .bool false]) ∧ Below w.heap.size w w' := by
  have HT := Lib.hid hT.lt
  have HS := Lib.hid hs
  have HP := Lib.hid hp
  have HL := Lib.hid hl
  have HH := Lib.hid h
  have hlm := hp.len
  rw [hl] at hlm
  clear hT hs hp hl h
  go_enter Try.func21, Try.ntmps21
  go_wp2_with fail
  go_loopw [10] (fun i wr => ∃ (j : Nat) (u : Tr) (k' n' : Int) (a' : Option Addr) (m' c' : Nat), j ≤ L ∧ i = .int .i64 j ∧ Hid (wr.heap[w.heap.size]? = some (.cells #[.int .i64 k', .int .i64 n', .slice a' m' c'] 24 (0, 0))) ∧
    Hid (wr.heap[w.heap.size + 1]? = some (.cells #[.int .i64 0, .int .i64 0, .slice none 0 0] 24 (0, 0))) ∧ Hid (IsT wr (Lt w.heap.size) k' n' a' m' c' u) ∧ Hid (Tr.at? u (p.drop j) = none) ∧ Hid (u.size ≤ 4194304) ∧ Below w.heap.size w wr) (fun i _ => L - (intOf i).toNat)
  case atStart =>
    have hb0 : Below w.heap.size w ((w.alloc (.cells #[.int .i64 k, .int .i64 n, .slice a m cap] 24)).alloc (.cells #[.int .i64 0, .int .i64 0, .slice none 0 0] 24)) := ((Below.refl _ _).alloc (Nat.le_refl _) _).alloc (by simp) _
    exact ⟨0, t, k, n, a, m, cap, Nat.zero_le _, rfl, block_old (by simp) (block_new rfl), block_new (by simp), HT.out.below hb0, HH.out, HS.out, hb0⟩
  case round =>
    obtain ⟨j, u, k', n', a', m', c', hj, rfl, HO, HR, HU, HA, HZ, hbel⟩ := hrel
    have o0 := block_cell HO.out 0
    have o1 := block_cell HO.out 1
    have o2 := block_cell HO.out 2
    have f0 := block_free HO.out 0
    have f1 := block_free HO.out 1
    have f2 := block_free HO.out 2
    have hl0 := block_lt HO.out
    simp at o0 o1 o2
    by_cases hlt : j < L
    · obtain ⟨pb, po, rfl, hc⟩ := (HP.out.below hbel).at (by rw [HL.out]; omega)
      have h1 := hc j (by rw [HL.out]; exact hlt)
      have hd := dropT' p j (by rw [HL.out]; exact hlt)
      have hat := HA.out
      rw [hd] at hat
      have fx := fits_i64.1 (HP.out.wf _ (nth_mem (show j < p.length by rw [HL.out]; exact hlt)))
      obtain ⟨x, hx⟩ : ∃ x, nth p j = x := ⟨_, rfl⟩
      rw [hx] at h1 hat fx
      have hum := HU.out.em
      by_cases hin : 0 ≤ x ∧ x < (u.kids.length : Int)
      · obtain ⟨i0, i1⟩ := hin
        rw [Tr.at_in i0 i1] at hat
        obtain ⟨x, rfl⟩ := Int.eq_ofNat_of_zero_le i0
        rw [Int.toNat_natCast] at hat
        have i1' : x < u.kids.length := by omega
        have hxm : x < m' := by omega
        have hsz := Tr.size_kid u x i1'
        have hsz' : (Tr.kid u.kids x).size ≤ 4194304 := by have := HZ.out; omega
        obtain ⟨b, off, k2, n2, a2, m2, c2, rfl, hF, hbl, g0, g1, g2, hT'⟩ := HU.out.kid x hxm
        have HZ' := Lib.hid hsz'
        have HT' := Lib.hid hT'
        have HA' := Lib.hid hat
        have q0 : (0 : Int) ≤ (x : Int) := by omega
        have q1 : (x : Int) < (m' : Int) := by omega
        have q2 : decide ((x : Int) < 0) = false := by rw [decide_eq_false_iff_not]; omega
        have q3 : decide ((x : Int) ≥ (m' : Int)) = false := by rw [decide_eq_false_iff_not]; omega
        clear hc hd hat i1 hx hsz hsz' hT' i1' HA hum
        go_wp2_with fail
        refine ⟨⟨j + 1, Tr.kid u.kids x, k2, n2, a2, m2, c2, by omega, by go_num, set3 HO.out, ?_, ?_, HA'.out, HZ'.out, set3_below hbel _ (Nat.le_refl _) _ _ _⟩, by simp [intOf]; omega⟩
        · unfold Hid; rw [set3_far _ _ _ _ _ _ (by omega)]; exact HR.out
        · exact HT'.out.stay fun b hb _ => set3_far _ _ _ _ _ _ (by unfold Lt at hb; omega)
      · have p0 := block_cell HR.out 0
        have p1 := block_cell HR.out 1
        have p2 := block_cell HR.out 2
        have pf0 := block_free HR.out 0
        have pf1 := block_free HR.out 1
        have pf2 := block_free HR.out 2
        simp at p0 p1 p2
        have hl1 := block_lt HR.out
        have hcase : x < 0 ∨ (¬ x < 0 ∧ (m' : Int) ≤ x) := by omega
        clear hc hd hat hx HA hum hin
        rcases hcase with hc1 | ⟨hc1, hc2⟩
        all_goals
          go_wp2_with fail
          have hbl := set3 (x' := .int .i64 0) (y' := .int .i64 0) (z' := .slice none 0 0) HR.out
          have hb3 := set3_below hbel (w.heap.size + 1) (by omega) (.int .i64 0) (.int .i64 0) (.slice none 0 0)
          obtain ⟨w3, hw3⟩ : ∃ w3, ((wr.setCell ⟨w.heap.size + 1, 0, none⟩ (.int .i64 0)).setCell ⟨w.heap.size + 1, 1, none⟩ (.int .i64 0)).setCell ⟨w.heap.size + 1, 2, none⟩ (.slice none 0 0) = w3 := ⟨_, rfl⟩
          rw [hw3] at hbl hb3 ⊢
          have r0 := block_cell hbl 0
          have r1 := block_cell hbl 1
          have r2 := block_cell hbl 2
          simp at r0 r1 r2
          exact bodyPost_ret (v := .tuple #[.agg #[.int .i64 0, .int .i64 0, .slice none 0 0], .bool false]) (by simp [results, Try.results21, go_sem, r0, r1, r2]) rfl ⟨rfl, hb3⟩
    · have hjL : j = L := by omega
      have hat := HA.out
      rw [List.drop_eq_nil_of_le (by rw [HL.out]; omega)] at hat
      exact absurd hat (by unfold Tr.at?; intro h; cases h)
end Go.Proofs.Ytpehbgcbifgokaa
