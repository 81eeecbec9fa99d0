/- Trees: another node at a place, by the reference: the walk. -/
import Derived.Test.YtncikklhchimdaaTreeU
namespace Go.Proofs.Ytncikklhchimdaa
open Go.RowKit
set_option linter.unusedVariables false
set_option linter.unusedSimpArgs false
set_option maxRecDepth 100000

theorem four_boxes (w : World) (k n k' n' : Int) (a a' : Option Addr) (m c m' c' : Nat) (T : TypeId) :
    ∃ W0, (((w.alloc (.cells #[.int .i64 k, .int .i64 n, .slice a m c] T)).alloc (.cells #[.int .i64 k', .int .i64 n', .slice a' m' c'] T)).alloc (.cells #[.int .i64 0, .int .i64 0, .slice none 0 0] T)).alloc (.cells #[.int .i64 k, .int .i64 n, .slice none 0 0] T) = W0 ∧ Below w.heap.size w W0 ∧
      W0.heap[w.heap.size]? = some (.cells #[.int .i64 k, .int .i64 n, .slice a m c] T (0, 0)) ∧ W0.heap[w.heap.size + 1]? = some (.cells #[.int .i64 k', .int .i64 n', .slice a' m' c'] T (0, 0)) ∧ W0.heap[w.heap.size + 1 + 1]? = some (.cells #[.int .i64 0, .int .i64 0, .slice none 0 0] T (0, 0)) ∧
      W0.heap[w.heap.size + 1 + 1 + 1]? = some (.cells #[.int .i64 k, .int .i64 n, .slice none 0 0] T (0, 0)) :=
  ⟨_, rfl, ((((Below.refl _ _).alloc (Nat.le_refl _) _).alloc (by simp) _).alloc (by simp; omega) _).alloc (by simp; omega) _, block_old (by simp; omega) (block_old (by simp; omega) (block_old (by simp) (block_new rfl))), block_old (by first | (simp; done) | (simp; omega)) (block_old (by simp) (block_new (by simp))), block_old (by simp) (block_new (by simp)), block_new (by simp)⟩

set_option maxHeartbeats 4000000 in
theorem ref13_Put (B : Nat) (p : List Int) : ∀ (t u s : Tr) (k n : Int) (a : Option Addr) (m cap : Nat) (pa : Option Addr) (L pc : Nat) (k' n' : Int) (a' : Option Addr) (m' cap' : Nat) (w : World), t.size ≤ 4194304 → IsT w (Lt B) k n a m cap t → IsT w (Lt B) k' n' a' m' cap' u → Row .i64 w pa p → p.length = L → L ≤ pc → B ≤ w.heap.size → Tr.at? t p = some s →
    Calls Try.prog 18 #[.agg #[.int .i64 k, .int .i64 n, .slice a m cap], .slice pa L pc, .agg #[.int .i64 k', .int .i64 n', .slice a' m' cap']] w (GivesW B (t.put p u) w) := by
  obtain ⟨i0, hi, hz0, hz1, hz2⟩ := info_parts info_desc
  induction p with
  | nil =>
    intro t u s k n a m cap pa L pc k' n' a' m' cap' w hs hT hU hp hl hc hB h
    obtain rfl : L = 0 := hl.symm
    have HU := Lib.hid hU
    clear hs hT hU hp hl hc h
    go_enter Try.func18, Try.ntmps18
    go_wp2_with fail
    refine bodyPost_ret (v := .agg #[.int .i64 k', .int .i64 n', .slice a' m' cap']) (by simp [results, Try.results18, go_sem]) rfl ?_
    refine ⟨k', n', a', m', cap', rfl, ?_, ?_⟩
    · exact (HU.out.below ((((Below.refl _ _).alloc (Nat.le_refl _) _).alloc (by simp) _).alloc (by simp; omega) _)).mono fun b hb => .inl hb
    · exact (((Below.refl _ _).alloc (Nat.le_refl _) _).alloc (by simp) _).alloc (by simp; omega) _
  | cons x p ih =>
    intro t u s k n a m cap pa L pc k' n' a' m' cap' w hs hT hU hp hl hc hB h
    obtain ⟨j0, j1, j2⟩ := Tr.at_yes h
    obtain ⟨x, rfl⟩ := Int.eq_ofNat_of_zero_le j0
    rw [Int.toNat_natCast] at j2
    have j1' : x < t.kids.length := by omega
    have hxm : x < m := by rw [hT.em]; exact j1'
    have hmm : m ≤ 4194304 := by
      have h1 := Tr.len_le_sizeL t.kids
      have h2 := hs
      rw [Tr.size_kids] at h2
      rw [hT.em]; omega
    have hsz := Tr.size_kid t x j1'
    have hlm := hp.len
    obtain ⟨q, hq⟩ : ∃ q, p.length = q := ⟨_, rfl⟩
    have hL : L = q + 1 := by rw [← hl, List.length_cons, hq]
    rw [hl] at hlm
    obtain ⟨pb, po, rfl, hcell⟩ := hp.at (by simp)
    have hc0 := hcell 0 (by simp)
    have e0 : nth ((x : Int) :: p) 0 = (x : Int) := rfl
    rw [e0, Nat.add_zero] at hc0
    have hcut : Row .i64 w (some ⟨pb, po + 1, none⟩) p := by
      have := hp.cut 1 L
      rw [List.take_of_length_le (by rw [hl]; exact Nat.le_refl _)] at this
      exact this
    obtain ⟨U, hUU⟩ : ∃ U, (Tr.kid t.kids x).put p u = U := ⟨_, rfl⟩
    have HPUT : Hid (t.put ((x : Int) :: p) u = t.setKid x U) := by unfold Hid; rw [← hUU]; rfl
    have HST : Hid (∀ j, j < t.kids.length → ((t.kids.set x U).take (j + 1)) = (t.kids.set x U).take j ++ [if j = x then U else Tr.kid t.kids j]) := fun j hj => by
      rw [Tr.take_kid (by rw [List.length_set]; exact hj), Tr.kid_set _ _ _ _ j1']
    have CR : Hid (∀ (W : World) (a2 : Option Addr) (l2 c2 : Nat) (k2 n2 : Int) (a3 : Option Addr) (m3 c3 : Nat), Below w.heap.size w W → Row .i64 w a2 p → l2 = q → q ≤ c2 → IsT W (Lt B) k2 n2 a3 m3 c3 (Tr.kid t.kids x) → Calls Try.prog 18 #[.agg #[.int .i64 k2, .int .i64 n2, .slice a3 m3 c3], .slice a2 l2 c2, .agg #[.int .i64 k', .int .i64 n', .slice a' m' cap']] W (GivesW B U W)) :=
      fun W a2 l2 c2 k2 n2 a3 m3 c3 hb hr he hq' hk => by
        rw [← hUU]
        exact ih (Tr.kid t.kids x) u s k2 n2 a3 m3 c3 a2 l2 c2 k' n' a' m' cap' W (by omega) hk (hU.below hb) (hr.below hb) (hq.trans he.symm) (by rw [he]; exact hq') (Nat.le_trans hB hb.size) j2
    have HCUT := Lib.hid hcut
    have HM0 : Hid (1 = pc → q = 0 ∧ ∀ a', Row .i64 w a' p) := fun e => by
      have hm0 : q = 0 := by omega
      refine ⟨hm0, fun a' => ?_⟩
      have ht0 : p = [] := List.length_eq_zero_iff.1 (by omega)
      rw [ht0]; exact Row.nil _ _ _
    have hmc : q ≤ pc - 1 := by omega
    have hpl := World.block_lt_of_cell? _ _ hc0
    simp only [] at hpl
    have hn0 : ((L : Int) == 0) = false := by simp; omega
    have q4 : (0 : Int) < (L : Int) := by omega
    have q5 : (1 : Int) ≤ (L : Int) := by omega
    have q6 : (L : Int) ≤ (pc : Int) := by omega
    have HT := Lib.hid hT
    have HUO : Hid (U.Ok) := by
      unfold Hid
      rw [← hUU]
      have hokk := Tr.ok_mem (Tr.kid_mem j1') (Tr.ok_kids hT.ok)
      exact Tr.put_ok j2 hokk hU.ok
    have HL := Lib.hid hL
    clear hL
    clear hs hT hU hp hl h ih j2 j1 hsz hq hcell hcut e0 hUU
    obtain ⟨W0, hW0, hb0, x0, x1, x2, x3⟩ := four_boxes w k n k' n' a a' m cap m' cap' 24
    have HB0 := Lib.hid hb0
    have HW0 := Lib.hid hW0
    have HX0 := Lib.hid x0
    have HX1 := Lib.hid x1
    have HX2 := Lib.hid x2
    have HX3 := Lib.hid x3
    clear hb0 hW0 x0 x1 x2 x3
    go_enter Try.func18, Try.ntmps18
    go_wp2_with fail
    rw [HW0.out]
    go_loopw [8] (fun i wr => ∃ (j : Nat) (v : Value) (xs : List Value), j ≤ m ∧ i = .int .i64 j ∧ Hid (wr.heap[w.heap.size]? = some (.cells #[.int .i64 k, .int .i64 n, .slice a m cap] 24 (0, 0))) ∧ Hid (wr.heap[w.heap.size + 1]? = some (.cells #[.int .i64 k', .int .i64 n', .slice a' m' cap'] 24 (0, 0))) ∧
      Hid (wr.heap[w.heap.size + 1 + 1]? = some (.cells #[.int .i64 0, .int .i64 0, .slice none 0 0] 24 (0, 0))) ∧ Hid (wr.heap[w.heap.size + 1 + 1 + 1]? = some (.cells #[.int .i64 k, .int .i64 n, v] 24 (0, 0))) ∧ Hid (wr.ownsRow (w.heap.size + 4) 24 3 v j xs) ∧
      Hid (CellsT wr (Fw B (w.heap.size + 4) wr v) xs ((t.kids.set x U).take j)) ∧ Below w.heap.size w wr) (fun i _ => m - (intOf i).toNat)
    case atStart => exact ⟨0, .slice none 0 0, [], Nat.zero_le _, rfl, HX0.out, HX1.out, HX2.out, HX3.out, World.ownsRow_nil _ _ _ _, CellsT.nil, HB0.out⟩
    case round =>
      obtain ⟨j, v, xs, hj, rfl, HD, HW, HR, HO, HOWN, HC, hbel⟩ := hrel
      have d2 : wr.cell? ⟨w.heap.size, 2, none⟩ = some (.slice a m cap) := block_cell HD.out 2
      by_cases hlt : j < m
      · have hj2 : j < t.kids.length := by rw [← HT.out.em]; exact hlt
        obtain ⟨b, off, k2, n2, a2, m2, c2, rfl, hF, hbl, h0, h1, h2, hT'⟩ := (HT.out.below hbel).kid j hlt
        have pc0 := (hbel.cell (p := ⟨pb, po, none⟩) hpl).trans hc0
        have hst := HST.out j hj2
        have hob := block_lt HO.out
        have o2 : wr.cell? ⟨w.heap.size + 1 + 1 + 1, 2, none⟩ = some v := block_cell HO.out 2
        have of : wr.frozen? ⟨w.heap.size + 1 + 1 + 1, 2, none⟩ = false := block_free HO.out 2
        have u0 : wr.cell? ⟨w.heap.size + 1, 0, none⟩ = some (.int .i64 k') := block_cell HW.out 0
        have u1 : wr.cell? ⟨w.heap.size + 1, 1, none⟩ = some (.int .i64 n') := block_cell HW.out 1
        have u2 : wr.cell? ⟨w.heap.size + 1, 2, none⟩ = some (.slice a' m' cap') := block_cell HW.out 2
        have ne1 : some (w.heap.size + 1 + 1 + 1) ≠ v.ownBlock := fun e => by have := (HOWN.out.lt _ e.symm).1; omega
        have l0 : w.heap.size + 1 + 1 + 1 < wr.heap.size := hob
        have g0 : (0 : Int) ≤ (j : Int) := by omega
        have g1 : (j : Int) < (m : Int) := by omega
        by_cases hjx : j = x
        · subst hjx
          rw [if_pos rfl] at hst
          have HS1 := Lib.hid hst
          have HTK := Lib.hid hT'
          clear hst hT'
          by_cases hpc : 1 = pc
          · obtain ⟨hm0, HM1⟩ := HM0.out hpc
            subst hpc
            have HM1 := Lib.hid HM1
            subst hm0
            go_wp2_with fail
            go_region_law ((first | (refine step_append_lies _ (by rfl) _ _ 22 (by rfl) (w.heap.size + 4) 24 i0 _ 3 40 Try.underlying22 hi hz0 hz1 hz2 rfl (by omega) _ j xs (by rfl) ((own_later3 HOWN.out.drew hb1).alloc _) ⟨w1.heap.size, 0, none⟩ 1 1 [.int .i64 k4, .int .i64 n4, .slice a4 m4 c4] (by rfl) (by rfl) (cell_three_new _ _ _ _ _) (one_three _ _ _ _ _) (by omega) (by unfold maxLen; omega) (by omega) (by simp; omega) (w1.heap.size + 1) (by simp) ?_; intro g3 c3 w2 hown3 hgrow hat hlt3; have r0 := hgrow.cell (a := ⟨w.heap.size + 1 + 1 + 1, 2, none⟩) ((cell_past _ _ _ (by show w.heap.size + 1 + 1 + 1 < w1.heap.size; omega)).trans q0) ne1; have r1 := (hgrow.frozen_far ⟨w.heap.size + 1 + 1 + 1, 2, none⟩ (by simp; omega) ne1).trans ((frozen_past _ _ _ (by show w.heap.size + 1 + 1 + 1 < w1.heap.size; omega)).trans q1)) | (go_simp; go_at_call 18; refine (CR.out _ (some ⟨pb, po, none⟩) _ 0 _ _ _ _ _ hbel.drew (HM1.out _) (by have := HL.out; omega) (Nat.le_refl _) (HTK.out.below (Below.refl _ _).drew)).mono ?_; rintro e1 w1 ⟨k4, n4, a4, m4, c4, rfl, hS2, hb1⟩; have q0 := (hb1.cell (p := ⟨w.heap.size + 1 + 1 + 1, 2, none⟩) l0).trans o2; have q1 := (hb1.frozen (p := ⟨w.heap.size + 1 + 1 + 1, 2, none⟩) l0).trans of; have z1 : w.heap.size + 1 + 1 + 1 < w1.heap.size := Nat.lt_of_lt_of_le l0 hb1.size; have s0 := (cell_past w1 (.cells #[.int .i64 k4, .int .i64 n4, .slice a4 m4 c4] 24) ⟨w.heap.size + 1 + 1 + 1, 2, none⟩ z1).trans q0)))
            all_goals
              obtain ⟨p1, p2, p3, p4, p5, p6, p7⟩ := place_round (W0 := wr) (t' := U) hB HD.out HW.out HR.out HO.out HOWN.out HC.out hbel hS2 ⟨hb1.os, hb1.tape, hb1.output, hb1.size, hb1.block⟩ hown3 hgrow hat
              rw [← HS1.out] at p6
              have K1 := Lib.hid p1
              have K2 := Lib.hid p2
              have K3 := Lib.hid p3
              have K4 := Lib.hid p4
              have K5 := Lib.hid p5
              have K6 := Lib.hid p6
              clear p1 p2 p3 p4 p5 p6 hgrow hat hown3 hS2 hb1 q0 q1 r0 r1 s0 h0 h1 h2 o2 of u0 u1 u2 d2 pc0
              obtain ⟨w3, hw3⟩ : ∃ w3, w2.setCell ⟨w.heap.size + 1 + 1 + 1, 2, none⟩ (.slice (some ⟨g3, 0, none⟩) (j + 1) c3) = w3 := ⟨_, rfl⟩
              rw [hw3] at K1 K2 K3 K4 K5 K6 p7 ⊢
              clear hw3
              go_wp2_with fail
              go_roundw
              case rel => exact ⟨j + 1, _, _, by omega, by go_num, K1.out, K2.out, K3.out, K4.out, K5.out, K6.out, p7⟩
              case measure => simp [intOf]; omega
          · have hpc2 : ¬ pc = 1 := fun e => hpc e.symm
            have hpc3 : ¬ (pc : Int) = 1 := by omega
            go_wp2_with fail
            go_region_law ((first | (refine step_append_lies _ (by rfl) _ _ 22 (by rfl) (w.heap.size + 4) 24 i0 _ 3 40 Try.underlying22 hi hz0 hz1 hz2 rfl (by omega) _ j xs (by rfl) ((own_later3 HOWN.out.drew hb1).alloc _) ⟨w1.heap.size, 0, none⟩ 1 1 [.int .i64 k4, .int .i64 n4, .slice a4 m4 c4] (by rfl) (by rfl) (cell_three_new _ _ _ _ _) (one_three _ _ _ _ _) (by omega) (by unfold maxLen; omega) (by omega) (by simp; omega) (w1.heap.size + 1) (by simp) ?_; intro g3 c3 w2 hown3 hgrow hat hlt3; have r0 := hgrow.cell (a := ⟨w.heap.size + 1 + 1 + 1, 2, none⟩) ((cell_past _ _ _ (by show w.heap.size + 1 + 1 + 1 < w1.heap.size; omega)).trans q0) ne1; have r1 := (hgrow.frozen_far ⟨w.heap.size + 1 + 1 + 1, 2, none⟩ (by simp; omega) ne1).trans ((frozen_past _ _ _ (by show w.heap.size + 1 + 1 + 1 < w1.heap.size; omega)).trans q1)) | (go_simp; go_at_call 18; refine (CR.out _ (some ⟨pb, po + 1, none⟩) _ (pc - 1) _ _ _ _ _ hbel.drew HCUT.out (by have := HL.out; omega) hmc (HTK.out.below (Below.refl _ _).drew)).mono ?_; rintro e1 w1 ⟨k4, n4, a4, m4, c4, rfl, hS2, hb1⟩; have q0 := (hb1.cell (p := ⟨w.heap.size + 1 + 1 + 1, 2, none⟩) l0).trans o2; have q1 := (hb1.frozen (p := ⟨w.heap.size + 1 + 1 + 1, 2, none⟩) l0).trans of; have z1 : w.heap.size + 1 + 1 + 1 < w1.heap.size := Nat.lt_of_lt_of_le l0 hb1.size; have s0 := (cell_past w1 (.cells #[.int .i64 k4, .int .i64 n4, .slice a4 m4 c4] 24) ⟨w.heap.size + 1 + 1 + 1, 2, none⟩ z1).trans q0)))
            all_goals
              obtain ⟨p1, p2, p3, p4, p5, p6, p7⟩ := place_round (W0 := wr) (t' := U) hB HD.out HW.out HR.out HO.out HOWN.out HC.out hbel hS2 ⟨hb1.os, hb1.tape, hb1.output, hb1.size, hb1.block⟩ hown3 hgrow hat
              rw [← HS1.out] at p6
              have K1 := Lib.hid p1
              have K2 := Lib.hid p2
              have K3 := Lib.hid p3
              have K4 := Lib.hid p4
              have K5 := Lib.hid p5
              have K6 := Lib.hid p6
              clear p1 p2 p3 p4 p5 p6 hgrow hat hown3 hS2 hb1 q0 q1 r0 r1 s0 h0 h1 h2 o2 of u0 u1 u2 d2 pc0
              obtain ⟨w3, hw3⟩ : ∃ w3, w2.setCell ⟨w.heap.size + 1 + 1 + 1, 2, none⟩ (.slice (some ⟨g3, 0, none⟩) (j + 1) c3) = w3 := ⟨_, rfl⟩
              rw [hw3] at K1 K2 K3 K4 K5 K6 p7 ⊢
              clear hw3
              go_wp2_with fail
              go_roundw
              case rel => exact ⟨j + 1, _, _, by omega, by go_num, K1.out, K2.out, K3.out, K4.out, K5.out, K6.out, p7⟩
              case measure => simp [intOf]; omega
        · rw [if_neg hjx] at hst
          have HS1 := Lib.hid hst
          have HTK := Lib.hid hT'
          have hne : ((j : Int) == (x : Int)) = false := by simp; omega
          clear hst hT'
          go_wp2_with fail
          have s0 := (cell_past wr.drew (.cells #[.int .i64 k2, .int .i64 n2, .slice a2 m2 c2] 24) ⟨w.heap.size + 1 + 1 + 1, 2, none⟩ l0).trans o2
          go_region_law ((refine step_append_lies _ (by rfl) _ _ 22 (by rfl) (w.heap.size + 4) 24 i0 _ 3 40 Try.underlying22 hi hz0 hz1 hz2 rfl (by omega) _ j xs (by rfl) ((HOWN.out.drew).alloc _) ⟨wr.heap.size, 0, none⟩ 1 1 [.int .i64 k2, .int .i64 n2, .slice a2 m2 c2] (by rfl) (by rfl) (cell_three_new _ _ _ _ _) (one_three _ _ _ _ _) (by omega) (by unfold maxLen; omega) (by omega) (by simp; omega) (wr.heap.size + 1) (by simp) ?_; intro g3 c3 w2 hown3 hgrow hat hlt3; have r0 := hgrow.cell (a := ⟨w.heap.size + 1 + 1 + 1, 2, none⟩) ((cell_past _ _ _ (by show w.heap.size + 1 + 1 + 1 < wr.heap.size; omega)).trans o2) ne1; have r1 := (hgrow.frozen_far ⟨w.heap.size + 1 + 1 + 1, 2, none⟩ (by simp; omega) ne1).trans ((frozen_past _ _ _ (by show w.heap.size + 1 + 1 + 1 < wr.heap.size; omega)).trans of)))
          all_goals
            obtain ⟨p1, p2, p3, p4, p5, p6, p7⟩ := place_round (W0 := wr) (t' := Tr.kid t.kids j) hB HD.out HW.out HR.out HO.out HOWN.out HC.out hbel (HTK.out.mono fun _ hb => .inl hb) (Below.refl _ _) hown3 (grown_of_drew hgrow) hat
            rw [← HS1.out] at p6
            have K1 := Lib.hid p1
            have K2 := Lib.hid p2
            have K3 := Lib.hid p3
            have K4 := Lib.hid p4
            have K5 := Lib.hid p5
            have K6 := Lib.hid p6
            clear p1 p2 p3 p4 p5 p6 hgrow hat hown3 r0 r1 s0 h0 h1 h2 o2 of u0 u1 u2 d2 pc0
            obtain ⟨w3, hw3⟩ : ∃ w3, w2.setCell ⟨w.heap.size + 1 + 1 + 1, 2, none⟩ (.slice (some ⟨g3, 0, none⟩) (j + 1) c3) = w3 := ⟨_, rfl⟩
            rw [hw3] at K1 K2 K3 K4 K5 K6 p7 ⊢
            clear hw3
            go_wp2_with fail
            go_roundw
            case rel => exact ⟨j + 1, _, _, by omega, by go_num, K1.out, K2.out, K3.out, K4.out, K5.out, K6.out, p7⟩
            case measure => simp [intOf]; omega
      · have hjm : j = m := by omega
        have hE : (t.kids.set x U).take j = t.kids.set x U := List.take_of_length_le (by rw [List.length_set, ← HT.out.em]; omega)
        have hcc := HC.out
        rw [hE] at hcc
        have hown := HOWN.out
        obtain ⟨a3, c3, rfl, hcap⟩ : ∃ a3 c3, v = .slice a3 m c3 ∧ OkCap a3 m c3 := by
          rcases hown.2 with ⟨rfl, h0⟩ | ⟨g, cap', cur, rfl, _, _, hnc, _⟩
          · exact ⟨none, 0, by rw [← hjm, h0], by omega, fun _ => rfl⟩
          · exact ⟨_, _, by rw [hjm], by omega, fun h => by cases h⟩
        have hkids : Kids wr (Nw B (w.heap.size + 4) wr.heap.size) a3 c3 (t.kids.set x U) := by
          rw [← hjm] at hown
          refine kids_of_own hown hcc (by rw [List.length_set, ← HT.out.em]; omega) (fun b hb => ?_) (fun g hg => ?_)
          · rcases hb with hb | ⟨b1, b2, _⟩
            · exact .inl hb
            · exact .inr ⟨b1, b2⟩
          · have h1 := hown.lt g (by rw [hg]; rfl)
            exact .inr ⟨h1.1, h1.2⟩
        have hres : IsT wr (Nw B (w.heap.size + 4) wr.heap.size) k n a3 m c3 (t.setKid x U) := ⟨HT.out.ek, HT.out.en, by rw [HT.out.em]; simp [Tr.setKid, Tr.kids], Tr.setKid_ok HT.out.ok x HUO.out, hkids⟩
        have o0 := block_cell HO.out 0
        have o1 := block_cell HO.out 1
        have o2 := block_cell HO.out 2
        have p0 := block_cell HR.out 0
        have p1 := block_cell HR.out 1
        have p2 := block_cell HR.out 2
        have pf0 := block_free HR.out 0
        have pf1 := block_free HR.out 1
        have pf2 := block_free HR.out 2
        simp at o0 o1 o2 p0 p1 p2
        have hl1 := block_lt HR.out
        have hl2 := block_lt HO.out
        have HRES := Lib.hid hres
        clear hres hkids hE HC hown hcc
        go_wp2_with fail
        have hbl := set3 (x' := .int .i64 k) (y' := .int .i64 n) (z' := .slice a3 m c3) HR.out
        have hfar := fun c hc => set3_far wr (w.heap.size + 1 + 1) (.int .i64 k) (.int .i64 n) (.slice a3 m c3) c hc
        have hsz3 := set3_size wr (w.heap.size + 1 + 1) (.int .i64 k) (.int .i64 n) (.slice a3 m c3)
        have hb3 := set3_below hbel (w.heap.size + 1 + 1) (by omega) (.int .i64 k) (.int .i64 n) (.slice a3 m c3)
        obtain ⟨w3, hw3⟩ : ∃ w3, ((wr.setCell ⟨w.heap.size + 1 + 1, 0, none⟩ (.int .i64 k)).setCell ⟨w.heap.size + 1 + 1, 1, none⟩ (.int .i64 n)).setCell ⟨w.heap.size + 1 + 1, 2, none⟩ (.slice a3 m c3) = w3 := ⟨_, rfl⟩
        rw [hw3] at hbl hfar hsz3 hb3 ⊢
        have h3 : IsT w3 (Nw B w.heap.size w3.heap.size) k n a3 m c3 (t.setKid x U) := (HRES.out.stay fun b hb _ => hfar b (by rcases hb with hb | hb <;> omega)).mono fun b hb => by
          rcases hb with hb | ⟨b1, b2⟩
          · exact .inl hb
          · exact .inr ⟨by omega, by omega⟩
        have r0 := block_cell hbl 0
        have r1 := block_cell hbl 1
        have r2 := block_cell hbl 2
        simp at r0 r1 r2
        refine bodyPost_ret (v := .agg #[.int .i64 k, .int .i64 n, .slice a3 m c3]) (by simp [results, Try.results18, go_sem, r0, r1, r2]) rfl ⟨k, n, a3, m, c3, rfl, ?_, hb3⟩
        rw [HPUT.out]; exact h3
end Go.Proofs.Ytncikklhchimdaa
