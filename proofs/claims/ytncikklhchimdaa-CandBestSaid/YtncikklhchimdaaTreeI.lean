/- Trees: the node at a place, by the reference. -/
import Derived.Test.YtncikklhchimdaaTreeH
import Derived.Deep.RegionHeld3
namespace Go.Proofs.Ytncikklhchimdaa
open Go.RowKit
set_option linter.unusedVariables false
set_option linter.unusedSimpArgs false
set_option maxRecDepth 100000

theorem cell3_far (w : World) (b : Nat) (x' y' z' : Value) (a : Addr) (h : a.block ≠ b) : (((w.setCell ⟨b, 0, none⟩ x').setCell ⟨b, 1, none⟩ y').setCell ⟨b, 2, none⟩ z').cell? a = w.cell? a :=
  World.cell?_of_block (set3_far w b x' y' z' a.block h)

/-- A result of two: a tree below B, and true. -/
def GivesT2 (B : Nat) (t : Tr) (w : World) (e : Ending) (w' : World) : Prop :=
  ∃ k n a m c, e = .returned (.tuple #[.agg #[.int .i64 k, .int .i64 n, .slice a m c], .bool true]) ∧ IsT w' (Lt B) k n a m c t ∧ Below w.heap.size w w'

set_option maxHeartbeats 2000000 in
theorem ref13_At_yes (B : Nat) (p : List Int) : ∀ (t s : Tr) (k n : Int) (a : Option Addr) (m cap : Nat) (pa : Option Addr) (L pc : Nat) (w : World), t.size ≤ 4194304 → IsT w (Lt B) k n a m cap t → Row .i64 w pa p → p.length = L → L ≤ pc → B ≤ w.heap.size → Tr.at? t p = some s →
    Calls Try.prog 16 #[.agg #[.int .i64 k, .int .i64 n, .slice a m cap], .slice pa L pc] w (GivesT2 B s w) := by
  induction p with
  | nil =>
    intro t s k n a m cap pa L pc w hs hT hp hl hc hB h
    have hts : t = s := by unfold Tr.at? at h; exact Option.some.inj h
    subst hts
    obtain rfl : L = 0 := hl.symm
    have HT := Lib.hid hT
    clear hT hs hp hl hc h
    go_enter Try.func16, Try.ntmps16
    go_wp2_with fail
    refine bodyPost_ret (v := .tuple #[.agg #[.int .i64 k, .int .i64 n, .slice a m cap], .bool true]) (by simp [results, Try.results16, go_sem]) rfl ?_
    refine ⟨k, n, a, m, cap, rfl, ?_, ?_⟩
    · exact HT.out.below (((Below.refl _ _).alloc (Nat.le_refl _) _).alloc (by simp) _)
    · exact ((Below.refl _ _).alloc (Nat.le_refl _) _).alloc (by simp) _
  | cons x p ih =>
    intro t s k n a m cap pa L pc w hs hT hp hl hc hB h
    obtain ⟨i0, i1, i2⟩ := Tr.at_yes h
    obtain ⟨x, rfl⟩ := Int.eq_ofNat_of_zero_le i0
    rw [Int.toNat_natCast] at i2
    have i1' : x < t.kids.length := by omega
    have hxm : x < m := by rw [hT.em]; exact i1'
    have hsz := Tr.size_kid t x i1'
    have hlm := hp.len
    obtain ⟨q, hq⟩ : ∃ q, p.length = q := ⟨_, rfl⟩
    have hL : L = q + 1 := by rw [← hl, List.length_cons, hq]
    subst hL
    rw [hl] at hlm
    obtain ⟨pb, po, rfl, hcell⟩ := hp.at (by simp)
    have hc0 := hcell 0 (by simp)
    have e0 : nth ((x : Int) :: p) 0 = (x : Int) := rfl
    rw [e0, Nat.add_zero] at hc0
    have hcut : Row .i64 w (some ⟨pb, po + 1, none⟩) p := by
      have := hp.cut 1 (q + 1)
      rw [List.take_of_length_le (by rw [hl]; exact Nat.le_refl _)] at this
      exact this
    obtain ⟨b, off, k2, n2, a2, m2, c2, rfl, hF, hbl, g0, g1, g2, hT'⟩ := hT.kid x hxm
    have CR : Hid (∀ (W : World) (a' : Option Addr) (c' : Nat), Below w.heap.size w W → Row .i64 w a' p → q ≤ c' → Calls Try.prog 16 #[.agg #[.int .i64 k2, .int .i64 n2, .slice a2 m2 c2], .slice a' q c'] W (GivesT2 B s W)) :=
      fun W a' c' hb hr hq' => ih (Tr.kid t.kids x) s k2 n2 a2 m2 c2 a' q c' W (by omega) (hT'.below hb) (hr.below hb) hq hq' (Nat.le_trans hB hb.size) i2
    have HCUT := Lib.hid hcut
    have HM0 : Hid (1 = pc → q = 0 ∧ ∀ a', Row .i64 w a' p) := fun e => by
      have hm0 : q = 0 := by omega
      refine ⟨hm0, fun a' => ?_⟩
      have ht0 : p = [] := List.length_eq_zero_iff.1 (by omega)
      rw [ht0]; exact Row.nil _ _ _
    have hmc : q ≤ pc - 1 := by omega
    have hqn : ((q + 1 : Nat) : Int) - 1 = (q : Int) := by omega
    have hpl := World.block_lt_of_cell? _ _ hc0
    have hn0 : (((q + 1 : Nat) : Int) == 0) = false := by simp; omega
    have q0 : (0 : Int) ≤ (x : Int) := by omega
    have q1 : (x : Int) < (m : Int) := by omega
    have q2 : decide ((x : Int) < 0) = false := by rw [decide_eq_false_iff_not]; omega
    have q3 : decide ((x : Int) ≥ (m : Int)) = false := by rw [decide_eq_false_iff_not]; omega
    have q4 : (0 : Int) < ((q + 1 : Nat) : Int) := by omega
    have q5 : (1 : Int) ≤ (q : Int) + 1 := by omega
    have q6 : (q : Int) + 1 ≤ (pc : Int) := by omega
    clear hs hT hp hl h ih i2 i1 hsz hq hcell hcut hT' i1' e0
    by_cases hpc : 1 = pc
    · obtain ⟨hm0, HM1⟩ := HM0.out hpc
      subst hpc
      have HM1 := Lib.hid HM1
      subst hm0
      go_enter Try.func16, Try.ntmps16
      go_wp2_with fail
      obtain ⟨W0, hW0⟩ : ∃ W0, (w.alloc (.cells #[.int .i64 k, .int .i64 n, .slice (some ⟨b, off, none⟩) m cap] 24)).alloc (.cells #[.int .i64 0, .int .i64 0, .slice none 0 0] 24) = W0 := ⟨_, rfl⟩
      have hb0 : Below w.heap.size w W0 := by rw [← hW0]; exact ((Below.refl _ _).alloc (Nat.le_refl _) _).alloc (by simp) _
      have HBA : Hid (W0.heap[w.heap.size]? = some (.cells #[.int .i64 k, .int .i64 n, .slice (some ⟨b, off, none⟩) m cap] 24 (0, 0))) := by rw [← hW0]; exact block_old (by simp) (block_new rfl)
      have HBB : Hid (W0.heap[w.heap.size + 1]? = some (.cells #[.int .i64 0, .int .i64 0, .slice none 0 0] 24 (0, 0))) := by rw [← hW0]; exact block_new (by simp)
      rw [hW0]
      clear hW0
      have a2' := block_cell HBA.out 2
      simp at a2'
      have u0 := (hb0.cell (p := ⟨pb, po, none⟩) hpl).trans hc0
      have u1 := (hb0.cell (p := ⟨b, off + x * 3, none⟩) hbl).trans g0
      have u2 := (hb0.cell (p := ⟨b, off + x * 3 + 1, none⟩) hbl).trans g1
      have u3 := (hb0.cell (p := ⟨b, off + x * 3 + 2, none⟩) hbl).trans g2
      clear hc0 g0 g1 g2
      go_quiet (fail)
      have hq := below_drewN hb0 nq
      have HQB : Hid ((W0.drewN nq).heap[w.heap.size + 1]? = some (.cells #[.int .i64 0, .int .i64 0, .slice none 0 0] 24 (0, 0))) := HBB.out
      have a2'' : (W0.drewN nq).cell? ⟨w.heap.size, 2, none⟩ = some (.slice (some ⟨b, off, none⟩) m cap) := a2'
      have v0 : (W0.drewN nq).cell? ⟨pb, po, none⟩ = some (.int .i64 (x : Int)) := u0
      have v1 : (W0.drewN nq).cell? ⟨b, off + x * 3, none⟩ = some (.int .i64 k2) := u1
      have v2 : (W0.drewN nq).cell? ⟨b, off + x * 3 + 1, none⟩ = some (.int .i64 n2) := u2
      have v3 : (W0.drewN nq).cell? ⟨b, off + x * 3 + 2, none⟩ = some (.slice a2 m2 c2) := u3
      obtain ⟨W1, hW1⟩ : ∃ W1, W0.drewN nq = W1 := ⟨_, rfl⟩
      rw [hW1] at hq HQB a2'' v0 v1 v2 v3 ⊢
      clear hW1 u0 u1 u2 u3 a2' HBA HBB hb0
      go_wp2_with fail
      have hl1 := block_lt HQB.out
      have y0 := World.block_lt_of_cell? _ _ a2''
      have y1 := World.block_lt_of_cell? _ _ v0
      have y2 := World.block_lt_of_cell? _ _ v1
      simp only [] at y0 y1 y2
      have n0 : w.heap.size ≠ w.heap.size + 1 := by omega
      have n1 : pb ≠ w.heap.size + 1 := by omega
      have n2' : b ≠ w.heap.size + 1 := by omega
      go_region_held3 (fun w' => w'.cell? ⟨w.heap.size, 2, none⟩ = some (.slice (some ⟨b, off, none⟩) m cap) ∧ w'.cell? ⟨pb, po, none⟩ = some (.int .i64 (x : Int)) ∧ w'.cell? ⟨b, off + x * 3, none⟩ = some (.int .i64 k2) ∧ w'.cell? ⟨b, off + x * 3 + 1, none⟩ = some (.int .i64 n2) ∧ w'.cell? ⟨b, off + x * 3 + 2, none⟩ = some (.slice a2 m2 c2)) (first | exact ⟨a2'', v0, v1, v2, v3⟩ | exact ⟨s0, s1, s2, s3, s4⟩ | exact ⟨(cell3_far _ _ _ _ _ ⟨w.heap.size, 2, none⟩ n0).trans s0, (cell3_far _ _ _ _ _ ⟨pb, po, none⟩ n1).trans s1, (cell3_far _ _ _ _ _ ⟨b, off + x * 3, none⟩ n2').trans s2, (cell3_far _ _ _ _ _ ⟨b, off + x * 3 + 1, none⟩ n2').trans s3, (cell3_far _ _ _ _ _ ⟨b, off + x * 3 + 2, none⟩ n2').trans s4⟩ | go_keep) ((first | (go_at_call 16; refine (CR.out _ (some ⟨pb, po, none⟩) 0 hq.drew (HM1.out _) (Nat.le_refl _)).mono ?_; rintro e1 w1 ⟨k3, n3, a3, m3, c3, rfl, hT3, hb1⟩; have s0 := (hb1.cell (p := ⟨w.heap.size, 2, none⟩) y0).trans a2''; have s1 := (hb1.cell (p := ⟨pb, po, none⟩) y1).trans v0; have s2 := (hb1.cell (p := ⟨b, off + x * 3, none⟩) y2).trans v1; have s3 := (hb1.cell (p := ⟨b, off + x * 3 + 1, none⟩) y2).trans v2; have s4 := (hb1.cell (p := ⟨b, off + x * 3 + 2, none⟩) y2).trans v3; have HZ := Lib.hid ((hb1.block _ hl1).trans HQB.out); have z0 : w1.cell? ⟨w.heap.size + 1, 0, none⟩ = some (.int .i64 0) := block_cell HZ.out 0; have z1 : w1.cell? ⟨w.heap.size + 1, 1, none⟩ = some (.int .i64 0) := block_cell HZ.out 1; have z2 : w1.cell? ⟨w.heap.size + 1, 2, none⟩ = some (.slice none 0 0) := block_cell HZ.out 2; have z3 := block_free HZ.out 0; have z4 := block_free HZ.out 1; have z5 := block_free HZ.out 2)))
      all_goals
        have hw1 := hb1.size
        have hbl := set3 (x' := .int .i64 k3) (y' := .int .i64 n3) (z' := .slice a3 m3 c3) HZ.out
        have hfar := fun c hc => set3_far w1 (w.heap.size + 1) (.int .i64 k3) (.int .i64 n3) (.slice a3 m3 c3) c hc
        have hb3 := set3_below (chain hq (chain (below_drewN (Below.refl _ _) 1) hb1)) (w.heap.size + 1) (by omega) (.int .i64 k3) (.int .i64 n3) (.slice a3 m3 c3)
        obtain ⟨w3, hw3⟩ : ∃ w3, ((w1.setCell ⟨w.heap.size + 1, 0, none⟩ (.int .i64 k3)).setCell ⟨w.heap.size + 1, 1, none⟩ (.int .i64 n3)).setCell ⟨w.heap.size + 1, 2, none⟩ (.slice a3 m3 c3) = w3 := ⟨_, rfl⟩
        rw [hw3] at hbl hfar hb3 ⊢
        have h3 : IsT w3 (Lt B) k3 n3 a3 m3 c3 s := hT3.stay fun c hc hlt => hfar c (by unfold Lt at hc; omega)
        have H3 := Lib.hid h3
        have r0 := block_cell hbl 0
        have r1 := block_cell hbl 1
        have r2 := block_cell hbl 2
        simp at r0 r1 r2
        clear hT3 hb1 s0 s1 s2 s3 s4 z0 z1 z2 z3 z4 z5 hfar h3 hw3
        go_wp2_with fail
        exact bodyPost_ret (v := .tuple #[.agg #[.int .i64 k3, .int .i64 n3, .slice a3 m3 c3], .bool true]) (by simp [results, Try.results16, go_sem, r0, r1, r2]) rfl ⟨k3, n3, a3, m3, c3, rfl, H3.out, hb3⟩
    · have hpc2 : ¬ pc = 1 := fun e => hpc e.symm
      have hpc3 : ¬ (pc : Int) = 1 := by omega
      go_enter Try.func16, Try.ntmps16
      go_wp2_with fail
      obtain ⟨W0, hW0⟩ : ∃ W0, (w.alloc (.cells #[.int .i64 k, .int .i64 n, .slice (some ⟨b, off, none⟩) m cap] 24)).alloc (.cells #[.int .i64 0, .int .i64 0, .slice none 0 0] 24) = W0 := ⟨_, rfl⟩
      have hb0 : Below w.heap.size w W0 := by rw [← hW0]; exact ((Below.refl _ _).alloc (Nat.le_refl _) _).alloc (by simp) _
      have HBA : Hid (W0.heap[w.heap.size]? = some (.cells #[.int .i64 k, .int .i64 n, .slice (some ⟨b, off, none⟩) m cap] 24 (0, 0))) := by rw [← hW0]; exact block_old (by simp) (block_new rfl)
      have HBB : Hid (W0.heap[w.heap.size + 1]? = some (.cells #[.int .i64 0, .int .i64 0, .slice none 0 0] 24 (0, 0))) := by rw [← hW0]; exact block_new (by simp)
      rw [hW0]
      clear hW0
      have a2' := block_cell HBA.out 2
      simp at a2'
      have u0 := (hb0.cell (p := ⟨pb, po, none⟩) hpl).trans hc0
      have u1 := (hb0.cell (p := ⟨b, off + x * 3, none⟩) hbl).trans g0
      have u2 := (hb0.cell (p := ⟨b, off + x * 3 + 1, none⟩) hbl).trans g1
      have u3 := (hb0.cell (p := ⟨b, off + x * 3 + 2, none⟩) hbl).trans g2
      clear hc0 g0 g1 g2
      go_quiet (fail)
      have hq := below_drewN hb0 nq
      have HQB : Hid ((W0.drewN nq).heap[w.heap.size + 1]? = some (.cells #[.int .i64 0, .int .i64 0, .slice none 0 0] 24 (0, 0))) := HBB.out
      have a2'' : (W0.drewN nq).cell? ⟨w.heap.size, 2, none⟩ = some (.slice (some ⟨b, off, none⟩) m cap) := a2'
      have v0 : (W0.drewN nq).cell? ⟨pb, po, none⟩ = some (.int .i64 (x : Int)) := u0
      have v1 : (W0.drewN nq).cell? ⟨b, off + x * 3, none⟩ = some (.int .i64 k2) := u1
      have v2 : (W0.drewN nq).cell? ⟨b, off + x * 3 + 1, none⟩ = some (.int .i64 n2) := u2
      have v3 : (W0.drewN nq).cell? ⟨b, off + x * 3 + 2, none⟩ = some (.slice a2 m2 c2) := u3
      obtain ⟨W1, hW1⟩ : ∃ W1, W0.drewN nq = W1 := ⟨_, rfl⟩
      rw [hW1] at hq HQB a2'' v0 v1 v2 v3 ⊢
      clear hW1 u0 u1 u2 u3 a2' HBA HBB hb0
      go_wp2_with fail
      have hl1 := block_lt HQB.out
      have y0 := World.block_lt_of_cell? _ _ a2''
      have y1 := World.block_lt_of_cell? _ _ v0
      have y2 := World.block_lt_of_cell? _ _ v1
      simp only [] at y0 y1 y2
      have n0 : w.heap.size ≠ w.heap.size + 1 := by omega
      have n1 : pb ≠ w.heap.size + 1 := by omega
      have n2' : b ≠ w.heap.size + 1 := by omega
      go_region_held3 (fun w' => w'.cell? ⟨w.heap.size, 2, none⟩ = some (.slice (some ⟨b, off, none⟩) m cap) ∧ w'.cell? ⟨pb, po, none⟩ = some (.int .i64 (x : Int)) ∧ w'.cell? ⟨b, off + x * 3, none⟩ = some (.int .i64 k2) ∧ w'.cell? ⟨b, off + x * 3 + 1, none⟩ = some (.int .i64 n2) ∧ w'.cell? ⟨b, off + x * 3 + 2, none⟩ = some (.slice a2 m2 c2)) (first | exact ⟨a2'', v0, v1, v2, v3⟩ | exact ⟨s0, s1, s2, s3, s4⟩ | exact ⟨(cell3_far _ _ _ _ _ ⟨w.heap.size, 2, none⟩ n0).trans s0, (cell3_far _ _ _ _ _ ⟨pb, po, none⟩ n1).trans s1, (cell3_far _ _ _ _ _ ⟨b, off + x * 3, none⟩ n2').trans s2, (cell3_far _ _ _ _ _ ⟨b, off + x * 3 + 1, none⟩ n2').trans s3, (cell3_far _ _ _ _ _ ⟨b, off + x * 3 + 2, none⟩ n2').trans s4⟩ | go_keep) ((first | (go_at_call 16; refine (CR.out _ (some ⟨pb, po + 1, none⟩) (pc - 1) hq.drew HCUT.out hmc).mono ?_; rintro e1 w1 ⟨k3, n3, a3, m3, c3, rfl, hT3, hb1⟩; have s0 := (hb1.cell (p := ⟨w.heap.size, 2, none⟩) y0).trans a2''; have s1 := (hb1.cell (p := ⟨pb, po, none⟩) y1).trans v0; have s2 := (hb1.cell (p := ⟨b, off + x * 3, none⟩) y2).trans v1; have s3 := (hb1.cell (p := ⟨b, off + x * 3 + 1, none⟩) y2).trans v2; have s4 := (hb1.cell (p := ⟨b, off + x * 3 + 2, none⟩) y2).trans v3; have HZ := Lib.hid ((hb1.block _ hl1).trans HQB.out); have z0 : w1.cell? ⟨w.heap.size + 1, 0, none⟩ = some (.int .i64 0) := block_cell HZ.out 0; have z1 : w1.cell? ⟨w.heap.size + 1, 1, none⟩ = some (.int .i64 0) := block_cell HZ.out 1; have z2 : w1.cell? ⟨w.heap.size + 1, 2, none⟩ = some (.slice none 0 0) := block_cell HZ.out 2; have z3 := block_free HZ.out 0; have z4 := block_free HZ.out 1; have z5 := block_free HZ.out 2)))
      all_goals
        have hw1 := hb1.size
        have hbl := set3 (x' := .int .i64 k3) (y' := .int .i64 n3) (z' := .slice a3 m3 c3) HZ.out
        have hfar := fun c hc => set3_far w1 (w.heap.size + 1) (.int .i64 k3) (.int .i64 n3) (.slice a3 m3 c3) c hc
        have hb3 := set3_below (chain hq (chain (below_drewN (Below.refl _ _) 1) hb1)) (w.heap.size + 1) (by omega) (.int .i64 k3) (.int .i64 n3) (.slice a3 m3 c3)
        obtain ⟨w3, hw3⟩ : ∃ w3, ((w1.setCell ⟨w.heap.size + 1, 0, none⟩ (.int .i64 k3)).setCell ⟨w.heap.size + 1, 1, none⟩ (.int .i64 n3)).setCell ⟨w.heap.size + 1, 2, none⟩ (.slice a3 m3 c3) = w3 := ⟨_, rfl⟩
        rw [hw3] at hbl hfar hb3 ⊢
        have h3 : IsT w3 (Lt B) k3 n3 a3 m3 c3 s := hT3.stay fun c hc hlt => hfar c (by unfold Lt at hc; omega)
        have H3 := Lib.hid h3
        have r0 := block_cell hbl 0
        have r1 := block_cell hbl 1
        have r2 := block_cell hbl 2
        simp at r0 r1 r2
        clear hT3 hb1 s0 s1 s2 s3 s4 z0 z1 z2 z3 z4 z5 hfar h3 hw3
        go_wp2_with fail
        exact bodyPost_ret (v := .tuple #[.agg #[.int .i64 k3, .int .i64 n3, .slice a3 m3 c3], .bool true]) (by simp [results, Try.results16, go_sem, r0, r1, r2]) rfl ⟨k3, n3, a3, m3, c3, rfl, H3.out, hb3⟩
/-- A result of two: nothing, and false. -/
def GivesN2 (w : World) (e : Ending) (w' : World) : Prop := e = .returned (.tuple #[.agg #[.int .i64 0, .int .i64 0, .slice none 0 0], .bool false]) ∧ Below w.heap.size w w'

set_option maxHeartbeats 1000000 in
theorem ref13_At_out (x : Int) (p : List Int) (t : Tr) (k n : Int) (a : Option Addr) (m cap : Nat) (pa : Option Addr) (L pc : Nat) (w : World) {F : Nat → Prop} (hT : IsT w F k n a m cap t) (hp : Row .i64 w pa (x :: p)) (hl : (x :: p).length = L) (hin : ¬ (0 ≤ x ∧ x < (t.kids.length : Int))) :
    Calls Try.prog 16 #[.agg #[.int .i64 k, .int .i64 n, .slice a m cap], .slice pa L pc] w (GivesN2 w) := by
  have hlm := hp.len
  rw [hl] at hlm
  have hpos : 0 < L := by rw [← hl]; simp
  obtain ⟨pb, po, rfl, hcell⟩ := hp.at (by simp)
  have hc0 := hcell 0 (by simp)
  have e0 : nth (x :: p) 0 = x := rfl
  rw [e0, Nat.add_zero] at hc0
  have hpl := World.block_lt_of_cell? _ _ hc0
  have fx := fits_i64.1 (hp.wf x (by simp))
  have hmm := hT.em
  have hcase : x < 0 ∨ (¬ x < 0 ∧ (m : Int) ≤ x) := by omega
  have hn0 : ((L : Int) == 0) = false := by simp; omega
  have q4 : (0 : Int) < (L : Int) := by omega
  have hb0 : Below w.heap.size w ((w.alloc (.cells #[.int .i64 k, .int .i64 n, .slice a m cap] 24)).alloc (.cells #[.int .i64 0, .int .i64 0, .slice none 0 0] 24)) := ((Below.refl _ _).alloc (Nat.le_refl _) _).alloc (by simp) _
  have HB0 := Lib.hid hb0
  clear hT hp hl hcell e0 hmm hin hb0
  rcases hcase with hc1 | ⟨hc1, hc2⟩
  · go_enter Try.func16, Try.ntmps16
    go_wp2_with fail
    obtain ⟨W0, hW0⟩ : ∃ W0, (w.alloc (.cells #[.int .i64 k, .int .i64 n, .slice a m cap] 24)).alloc (.cells #[.int .i64 0, .int .i64 0, .slice none 0 0] 24) = W0 := ⟨_, rfl⟩
    have HBA : Hid (W0.heap[w.heap.size]? = some (.cells #[.int .i64 k, .int .i64 n, .slice a m cap] 24 (0, 0))) := by rw [← hW0]; exact block_old (by simp) (block_new rfl)
    have HBB : Hid (W0.heap[w.heap.size + 1]? = some (.cells #[.int .i64 0, .int .i64 0, .slice none 0 0] 24 (0, 0))) := by rw [← hW0]; exact block_new (by simp)
    rw [hW0] at HB0 ⊢
    have u0 := (HB0.out.cell (p := ⟨pb, po, none⟩) hpl).trans hc0
    have a2' : W0.cell? ⟨w.heap.size, 2, none⟩ = some (.slice a m cap) := block_cell HBA.out 2
    clear hc0 hW0
    go_quiet (fail)
    have hbq := below_drewN HB0.out nq
    have HBQ := Lib.hid hbq
    have HBB' : Hid ((W0.drewN nq).heap[w.heap.size + 1]? = some (.cells #[.int .i64 0, .int .i64 0, .slice none 0 0] 24 (0, 0))) := HBB.out
    obtain ⟨W1, hW1⟩ : ∃ W1, W0.drewN nq = W1 := ⟨_, rfl⟩
    rw [hW1] at HBQ HBB' ⊢
    clear hW1 hbq u0 a2'
    have p0 := block_cell HBB'.out 0
    have p1 := block_cell HBB'.out 1
    have p2 := block_cell HBB'.out 2
    have pf0 := block_free HBB'.out 0
    have pf1 := block_free HBB'.out 1
    have pf2 := block_free HBB'.out 2
    simp at p0 p1 p2
    go_wp2_with fail
    have hbl := set3 (x' := .int .i64 0) (y' := .int .i64 0) (z' := .slice none 0 0) HBB'.out
    have hb3 := set3_below HBQ.out (w.heap.size + 1) (by omega) (.int .i64 0) (.int .i64 0) (.slice none 0 0)
    obtain ⟨w3, hw3⟩ : ∃ w3, ((W1.setCell ⟨w.heap.size + 1, 0, none⟩ (.int .i64 0)).setCell ⟨w.heap.size + 1, 1, none⟩ (.int .i64 0)).setCell ⟨w.heap.size + 1, 2, none⟩ (.slice none 0 0) = w3 := ⟨_, rfl⟩
    rw [hw3] at hbl hb3 ⊢
    have r0 := block_cell hbl 0
    have r1 := block_cell hbl 1
    have r2 := block_cell hbl 2
    simp at r0 r1 r2
    exact bodyPost_ret (v := .tuple #[.agg #[.int .i64 0, .int .i64 0, .slice none 0 0], .bool false]) (by simp [results, Try.results16, go_sem, r0, r1, r2]) rfl ⟨rfl, hb3⟩
  · have q2 : decide (x < 0) = false := by rw [decide_eq_false_iff_not]; omega
    have q3 : decide (x ≥ (m : Int)) = true := by rw [decide_eq_true_iff]; omega
    go_enter Try.func16, Try.ntmps16
    go_wp2_with fail
    obtain ⟨W0, hW0⟩ : ∃ W0, (w.alloc (.cells #[.int .i64 k, .int .i64 n, .slice a m cap] 24)).alloc (.cells #[.int .i64 0, .int .i64 0, .slice none 0 0] 24) = W0 := ⟨_, rfl⟩
    have HBA : Hid (W0.heap[w.heap.size]? = some (.cells #[.int .i64 k, .int .i64 n, .slice a m cap] 24 (0, 0))) := by rw [← hW0]; exact block_old (by simp) (block_new rfl)
    have HBB : Hid (W0.heap[w.heap.size + 1]? = some (.cells #[.int .i64 0, .int .i64 0, .slice none 0 0] 24 (0, 0))) := by rw [← hW0]; exact block_new (by simp)
    rw [hW0] at HB0 ⊢
    have u0 := (HB0.out.cell (p := ⟨pb, po, none⟩) hpl).trans hc0
    have a2' : W0.cell? ⟨w.heap.size, 2, none⟩ = some (.slice a m cap) := block_cell HBA.out 2
    clear hc0 hW0
    go_quiet (fail)
    have hbq := below_drewN HB0.out nq
    have HBQ := Lib.hid hbq
    have HBB' : Hid ((W0.drewN nq).heap[w.heap.size + 1]? = some (.cells #[.int .i64 0, .int .i64 0, .slice none 0 0] 24 (0, 0))) := HBB.out
    obtain ⟨W1, hW1⟩ : ∃ W1, W0.drewN nq = W1 := ⟨_, rfl⟩
    rw [hW1] at HBQ HBB' ⊢
    clear hW1 hbq u0 a2'
    have p0 := block_cell HBB'.out 0
    have p1 := block_cell HBB'.out 1
    have p2 := block_cell HBB'.out 2
    have pf0 := block_free HBB'.out 0
    have pf1 := block_free HBB'.out 1
    have pf2 := block_free HBB'.out 2
    simp at p0 p1 p2
    go_wp2_with fail
    have hbl := set3 (x' := .int .i64 0) (y' := .int .i64 0) (z' := .slice none 0 0) HBB'.out
    have hb3 := set3_below HBQ.out (w.heap.size + 1) (by omega) (.int .i64 0) (.int .i64 0) (.slice none 0 0)
    obtain ⟨w3, hw3⟩ : ∃ w3, ((W1.setCell ⟨w.heap.size + 1, 0, none⟩ (.int .i64 0)).setCell ⟨w.heap.size + 1, 1, none⟩ (.int .i64 0)).setCell ⟨w.heap.size + 1, 2, none⟩ (.slice none 0 0) = w3 := ⟨_, rfl⟩
    rw [hw3] at hbl hb3 ⊢
    have r0 := block_cell hbl 0
    have r1 := block_cell hbl 1
    have r2 := block_cell hbl 2
    simp at r0 r1 r2
    exact bodyPost_ret (v := .tuple #[.agg #[.int .i64 0, .int .i64 0, .slice none 0 0], .bool false]) (by simp [results, Try.results16, go_sem, r0, r1, r2]) rfl ⟨rfl, hb3⟩

set_option maxHeartbeats 2000000 in
theorem ref13_At_no (B : Nat) (p : List Int) : ∀ (t : Tr) (k n : Int) (a : Option Addr) (m cap : Nat) (pa : Option Addr) (L pc : Nat) (w : World), t.size ≤ 4194304 → IsT w (Lt B) k n a m cap t → Row .i64 w pa p → p.length = L → L ≤ pc → B ≤ w.heap.size → Tr.at? t p = none →
    Calls Try.prog 16 #[.agg #[.int .i64 k, .int .i64 n, .slice a m cap], .slice pa L pc] w (GivesN2 w) := by
  induction p with
  | nil =>
    intro t k n a m cap pa L pc w hs hT hp hl hc hB h
    exact absurd h (by unfold Tr.at?; intro h; cases h)
  | cons x p ih =>
    intro t k n a m cap pa L pc w hs hT hp hl hc hB h
    by_cases hin : 0 ≤ x ∧ x < (t.kids.length : Int)
    rotate_left
    · exact ref13_At_out x p t k n a m cap pa L pc w hT hp hl hin
    obtain ⟨i0, i1⟩ := hin
    have i2 := h
    rw [Tr.at_in i0 i1] at i2
    obtain ⟨x, rfl⟩ := Int.eq_ofNat_of_zero_le i0
    rw [Int.toNat_natCast] at i2
    have i1' : x < t.kids.length := by omega
    have hxm : x < m := by rw [hT.em]; exact i1'
    have hsz := Tr.size_kid t x i1'
    have hlm := hp.len
    obtain ⟨q, hq⟩ : ∃ q, p.length = q := ⟨_, rfl⟩
    have hL : L = q + 1 := by rw [← hl, List.length_cons, hq]
    subst hL
    rw [hl] at hlm
    obtain ⟨pb, po, rfl, hcell⟩ := hp.at (by simp)
    have hc0 := hcell 0 (by simp)
    have e0 : nth ((x : Int) :: p) 0 = (x : Int) := rfl
    rw [e0, Nat.add_zero] at hc0
    have hcut : Row .i64 w (some ⟨pb, po + 1, none⟩) p := by
      have := hp.cut 1 (q + 1)
      rw [List.take_of_length_le (by rw [hl]; exact Nat.le_refl _)] at this
      exact this
    obtain ⟨b, off, k2, n2, a2, m2, c2, rfl, hF, hbl, g0, g1, g2, hT'⟩ := hT.kid x hxm
    have CR : Hid (∀ (W : World) (a' : Option Addr) (c' : Nat), Below w.heap.size w W → Row .i64 w a' p → q ≤ c' → Calls Try.prog 16 #[.agg #[.int .i64 k2, .int .i64 n2, .slice a2 m2 c2], .slice a' q c'] W (GivesN2 W)) :=
      fun W a' c' hb hr hq' => ih (Tr.kid t.kids x) k2 n2 a2 m2 c2 a' q c' W (by omega) (hT'.below hb) (hr.below hb) hq hq' (Nat.le_trans hB hb.size) i2
    have HCUT := Lib.hid hcut
    have HM0 : Hid (1 = pc → q = 0 ∧ ∀ a', Row .i64 w a' p) := fun e => by
      have hm0 : q = 0 := by omega
      refine ⟨hm0, fun a' => ?_⟩
      have ht0 : p = [] := List.length_eq_zero_iff.1 (by omega)
      rw [ht0]; exact Row.nil _ _ _
    have hmc : q ≤ pc - 1 := by omega
    have hqn : ((q + 1 : Nat) : Int) - 1 = (q : Int) := by omega
    have hpl := World.block_lt_of_cell? _ _ hc0
    have hn0 : (((q + 1 : Nat) : Int) == 0) = false := by simp; omega
    have q0 : (0 : Int) ≤ (x : Int) := by omega
    have q1 : (x : Int) < (m : Int) := by omega
    have q2 : decide ((x : Int) < 0) = false := by rw [decide_eq_false_iff_not]; omega
    have q3 : decide ((x : Int) ≥ (m : Int)) = false := by rw [decide_eq_false_iff_not]; omega
    have q4 : (0 : Int) < ((q + 1 : Nat) : Int) := by omega
    have q5 : (1 : Int) ≤ (q : Int) + 1 := by omega
    have q6 : (q : Int) + 1 ≤ (pc : Int) := by omega
    clear hs hT hp hl h ih i2 i1 hsz hq hcell hcut hT' i1' e0
    by_cases hpc : 1 = pc
    · obtain ⟨hm0, HM1⟩ := HM0.out hpc
      subst hpc
      have HM1 := Lib.hid HM1
      subst hm0
      go_enter Try.func16, Try.ntmps16
      go_wp2_with fail
      obtain ⟨W0, hW0⟩ : ∃ W0, (w.alloc (.cells #[.int .i64 k, .int .i64 n, .slice (some ⟨b, off, none⟩) m cap] 24)).alloc (.cells #[.int .i64 0, .int .i64 0, .slice none 0 0] 24) = W0 := ⟨_, rfl⟩
      have hb0 : Below w.heap.size w W0 := by rw [← hW0]; exact ((Below.refl _ _).alloc (Nat.le_refl _) _).alloc (by simp) _
      have HBA : Hid (W0.heap[w.heap.size]? = some (.cells #[.int .i64 k, .int .i64 n, .slice (some ⟨b, off, none⟩) m cap] 24 (0, 0))) := by rw [← hW0]; exact block_old (by simp) (block_new rfl)
      have HBB : Hid (W0.heap[w.heap.size + 1]? = some (.cells #[.int .i64 0, .int .i64 0, .slice none 0 0] 24 (0, 0))) := by rw [← hW0]; exact block_new (by simp)
      rw [hW0]
      clear hW0
      have a2' := block_cell HBA.out 2
      simp at a2'
      have u0 := (hb0.cell (p := ⟨pb, po, none⟩) hpl).trans hc0
      have u1 := (hb0.cell (p := ⟨b, off + x * 3, none⟩) hbl).trans g0
      have u2 := (hb0.cell (p := ⟨b, off + x * 3 + 1, none⟩) hbl).trans g1
      have u3 := (hb0.cell (p := ⟨b, off + x * 3 + 2, none⟩) hbl).trans g2
      clear hc0 g0 g1 g2
      go_quiet (fail)
      have hq := below_drewN hb0 nq
      have HQB : Hid ((W0.drewN nq).heap[w.heap.size + 1]? = some (.cells #[.int .i64 0, .int .i64 0, .slice none 0 0] 24 (0, 0))) := HBB.out
      have a2'' : (W0.drewN nq).cell? ⟨w.heap.size, 2, none⟩ = some (.slice (some ⟨b, off, none⟩) m cap) := a2'
      have v0 : (W0.drewN nq).cell? ⟨pb, po, none⟩ = some (.int .i64 (x : Int)) := u0
      have v1 : (W0.drewN nq).cell? ⟨b, off + x * 3, none⟩ = some (.int .i64 k2) := u1
      have v2 : (W0.drewN nq).cell? ⟨b, off + x * 3 + 1, none⟩ = some (.int .i64 n2) := u2
      have v3 : (W0.drewN nq).cell? ⟨b, off + x * 3 + 2, none⟩ = some (.slice a2 m2 c2) := u3
      obtain ⟨W1, hW1⟩ : ∃ W1, W0.drewN nq = W1 := ⟨_, rfl⟩
      rw [hW1] at hq HQB a2'' v0 v1 v2 v3 ⊢
      clear hW1 u0 u1 u2 u3 a2' HBA HBB hb0
      go_wp2_with fail
      have hl1 := block_lt HQB.out
      have y0 := World.block_lt_of_cell? _ _ a2''
      have y1 := World.block_lt_of_cell? _ _ v0
      have y2 := World.block_lt_of_cell? _ _ v1
      simp only [] at y0 y1 y2
      have n0 : w.heap.size ≠ w.heap.size + 1 := by omega
      have n1 : pb ≠ w.heap.size + 1 := by omega
      have n2' : b ≠ w.heap.size + 1 := by omega
      go_region_held3 (fun w' => w'.cell? ⟨w.heap.size, 2, none⟩ = some (.slice (some ⟨b, off, none⟩) m cap) ∧ w'.cell? ⟨pb, po, none⟩ = some (.int .i64 (x : Int)) ∧ w'.cell? ⟨b, off + x * 3, none⟩ = some (.int .i64 k2) ∧ w'.cell? ⟨b, off + x * 3 + 1, none⟩ = some (.int .i64 n2) ∧ w'.cell? ⟨b, off + x * 3 + 2, none⟩ = some (.slice a2 m2 c2)) (first | exact ⟨a2'', v0, v1, v2, v3⟩ | exact ⟨s0, s1, s2, s3, s4⟩ | exact ⟨(cell3_far _ _ _ _ _ ⟨w.heap.size, 2, none⟩ n0).trans s0, (cell3_far _ _ _ _ _ ⟨pb, po, none⟩ n1).trans s1, (cell3_far _ _ _ _ _ ⟨b, off + x * 3, none⟩ n2').trans s2, (cell3_far _ _ _ _ _ ⟨b, off + x * 3 + 1, none⟩ n2').trans s3, (cell3_far _ _ _ _ _ ⟨b, off + x * 3 + 2, none⟩ n2').trans s4⟩ | go_keep) ((first | (go_at_call 16; refine (CR.out _ (some ⟨pb, po, none⟩) 0 hq.drew (HM1.out _) (Nat.le_refl _)).mono ?_; rintro e1 w1 ⟨rfl, hb1⟩; have s0 := (hb1.cell (p := ⟨w.heap.size, 2, none⟩) y0).trans a2''; have s1 := (hb1.cell (p := ⟨pb, po, none⟩) y1).trans v0; have s2 := (hb1.cell (p := ⟨b, off + x * 3, none⟩) y2).trans v1; have s3 := (hb1.cell (p := ⟨b, off + x * 3 + 1, none⟩) y2).trans v2; have s4 := (hb1.cell (p := ⟨b, off + x * 3 + 2, none⟩) y2).trans v3; have HZ := Lib.hid ((hb1.block _ hl1).trans HQB.out); have z0 : w1.cell? ⟨w.heap.size + 1, 0, none⟩ = some (.int .i64 0) := block_cell HZ.out 0; have z1 : w1.cell? ⟨w.heap.size + 1, 1, none⟩ = some (.int .i64 0) := block_cell HZ.out 1; have z2 : w1.cell? ⟨w.heap.size + 1, 2, none⟩ = some (.slice none 0 0) := block_cell HZ.out 2; have z3 := block_free HZ.out 0; have z4 := block_free HZ.out 1; have z5 := block_free HZ.out 2)))
      all_goals
        have hw1 := hb1.size
        have hbl := set3 (x' := .int .i64 0) (y' := .int .i64 0) (z' := .slice none 0 0) HZ.out
        have hfar := fun c hc => set3_far w1 (w.heap.size + 1) (.int .i64 0) (.int .i64 0) (.slice none 0 0) c hc
        have hb3 := set3_below (chain hq (chain (below_drewN (Below.refl _ _) 1) hb1)) (w.heap.size + 1) (by omega) (.int .i64 0) (.int .i64 0) (.slice none 0 0)
        obtain ⟨w3, hw3⟩ : ∃ w3, ((w1.setCell ⟨w.heap.size + 1, 0, none⟩ (.int .i64 0)).setCell ⟨w.heap.size + 1, 1, none⟩ (.int .i64 0)).setCell ⟨w.heap.size + 1, 2, none⟩ (.slice none 0 0) = w3 := ⟨_, rfl⟩
        rw [hw3] at hbl hfar hb3 ⊢
        have r0 := block_cell hbl 0
        have r1 := block_cell hbl 1
        have r2 := block_cell hbl 2
        simp at r0 r1 r2
        clear hb1 s0 s1 s2 s3 s4 z0 z1 z2 z3 z4 z5 hfar hw3
        go_wp2_with fail
        exact bodyPost_ret (v := .tuple #[.agg #[.int .i64 0, .int .i64 0, .slice none 0 0], .bool false]) (by simp [results, Try.results16, go_sem, r0, r1, r2]) rfl ⟨rfl, hb3⟩
    · have hpc2 : ¬ pc = 1 := fun e => hpc e.symm
      have hpc3 : ¬ (pc : Int) = 1 := by omega
      go_enter Try.func16, Try.ntmps16
      go_wp2_with fail
      obtain ⟨W0, hW0⟩ : ∃ W0, (w.alloc (.cells #[.int .i64 k, .int .i64 n, .slice (some ⟨b, off, none⟩) m cap] 24)).alloc (.cells #[.int .i64 0, .int .i64 0, .slice none 0 0] 24) = W0 := ⟨_, rfl⟩
      have hb0 : Below w.heap.size w W0 := by rw [← hW0]; exact ((Below.refl _ _).alloc (Nat.le_refl _) _).alloc (by simp) _
      have HBA : Hid (W0.heap[w.heap.size]? = some (.cells #[.int .i64 k, .int .i64 n, .slice (some ⟨b, off, none⟩) m cap] 24 (0, 0))) := by rw [← hW0]; exact block_old (by simp) (block_new rfl)
      have HBB : Hid (W0.heap[w.heap.size + 1]? = some (.cells #[.int .i64 0, .int .i64 0, .slice none 0 0] 24 (0, 0))) := by rw [← hW0]; exact block_new (by simp)
      rw [hW0]
      clear hW0
      have a2' := block_cell HBA.out 2
      simp at a2'
      have u0 := (hb0.cell (p := ⟨pb, po, none⟩) hpl).trans hc0
      have u1 := (hb0.cell (p := ⟨b, off + x * 3, none⟩) hbl).trans g0
      have u2 := (hb0.cell (p := ⟨b, off + x * 3 + 1, none⟩) hbl).trans g1
      have u3 := (hb0.cell (p := ⟨b, off + x * 3 + 2, none⟩) hbl).trans g2
      clear hc0 g0 g1 g2
      go_quiet (fail)
      have hq := below_drewN hb0 nq
      have HQB : Hid ((W0.drewN nq).heap[w.heap.size + 1]? = some (.cells #[.int .i64 0, .int .i64 0, .slice none 0 0] 24 (0, 0))) := HBB.out
      have a2'' : (W0.drewN nq).cell? ⟨w.heap.size, 2, none⟩ = some (.slice (some ⟨b, off, none⟩) m cap) := a2'
      have v0 : (W0.drewN nq).cell? ⟨pb, po, none⟩ = some (.int .i64 (x : Int)) := u0
      have v1 : (W0.drewN nq).cell? ⟨b, off + x * 3, none⟩ = some (.int .i64 k2) := u1
      have v2 : (W0.drewN nq).cell? ⟨b, off + x * 3 + 1, none⟩ = some (.int .i64 n2) := u2
      have v3 : (W0.drewN nq).cell? ⟨b, off + x * 3 + 2, none⟩ = some (.slice a2 m2 c2) := u3
      obtain ⟨W1, hW1⟩ : ∃ W1, W0.drewN nq = W1 := ⟨_, rfl⟩
      rw [hW1] at hq HQB a2'' v0 v1 v2 v3 ⊢
      clear hW1 u0 u1 u2 u3 a2' HBA HBB hb0
      go_wp2_with fail
      have hl1 := block_lt HQB.out
      have y0 := World.block_lt_of_cell? _ _ a2''
      have y1 := World.block_lt_of_cell? _ _ v0
      have y2 := World.block_lt_of_cell? _ _ v1
      simp only [] at y0 y1 y2
      have n0 : w.heap.size ≠ w.heap.size + 1 := by omega
      have n1 : pb ≠ w.heap.size + 1 := by omega
      have n2' : b ≠ w.heap.size + 1 := by omega
      go_region_held3 (fun w' => w'.cell? ⟨w.heap.size, 2, none⟩ = some (.slice (some ⟨b, off, none⟩) m cap) ∧ w'.cell? ⟨pb, po, none⟩ = some (.int .i64 (x : Int)) ∧ w'.cell? ⟨b, off + x * 3, none⟩ = some (.int .i64 k2) ∧ w'.cell? ⟨b, off + x * 3 + 1, none⟩ = some (.int .i64 n2) ∧ w'.cell? ⟨b, off + x * 3 + 2, none⟩ = some (.slice a2 m2 c2)) (first | exact ⟨a2'', v0, v1, v2, v3⟩ | exact ⟨s0, s1, s2, s3, s4⟩ | exact ⟨(cell3_far _ _ _ _ _ ⟨w.heap.size, 2, none⟩ n0).trans s0, (cell3_far _ _ _ _ _ ⟨pb, po, none⟩ n1).trans s1, (cell3_far _ _ _ _ _ ⟨b, off + x * 3, none⟩ n2').trans s2, (cell3_far _ _ _ _ _ ⟨b, off + x * 3 + 1, none⟩ n2').trans s3, (cell3_far _ _ _ _ _ ⟨b, off + x * 3 + 2, none⟩ n2').trans s4⟩ | go_keep) ((first | (go_at_call 16; refine (CR.out _ (some ⟨pb, po + 1, none⟩) (pc - 1) hq.drew HCUT.out hmc).mono ?_; rintro e1 w1 ⟨rfl, hb1⟩; have s0 := (hb1.cell (p := ⟨w.heap.size, 2, none⟩) y0).trans a2''; have s1 := (hb1.cell (p := ⟨pb, po, none⟩) y1).trans v0; have s2 := (hb1.cell (p := ⟨b, off + x * 3, none⟩) y2).trans v1; have s3 := (hb1.cell (p := ⟨b, off + x * 3 + 1, none⟩) y2).trans v2; have s4 := (hb1.cell (p := ⟨b, off + x * 3 + 2, none⟩) y2).trans v3; have HZ := Lib.hid ((hb1.block _ hl1).trans HQB.out); have z0 : w1.cell? ⟨w.heap.size + 1, 0, none⟩ = some (.int .i64 0) := block_cell HZ.out 0; have z1 : w1.cell? ⟨w.heap.size + 1, 1, none⟩ = some (.int .i64 0) := block_cell HZ.out 1; have z2 : w1.cell? ⟨w.heap.size + 1, 2, none⟩ = some (.slice none 0 0) := block_cell HZ.out 2; have z3 := block_free HZ.out 0; have z4 := block_free HZ.out 1; have z5 := block_free HZ.out 2)))
      all_goals
        have hw1 := hb1.size
        have hbl := set3 (x' := .int .i64 0) (y' := .int .i64 0) (z' := .slice none 0 0) HZ.out
        have hfar := fun c hc => set3_far w1 (w.heap.size + 1) (.int .i64 0) (.int .i64 0) (.slice none 0 0) c hc
        have hb3 := set3_below (chain hq (chain (below_drewN (Below.refl _ _) 1) hb1)) (w.heap.size + 1) (by omega) (.int .i64 0) (.int .i64 0) (.slice none 0 0)
        obtain ⟨w3, hw3⟩ : ∃ w3, ((w1.setCell ⟨w.heap.size + 1, 0, none⟩ (.int .i64 0)).setCell ⟨w.heap.size + 1, 1, none⟩ (.int .i64 0)).setCell ⟨w.heap.size + 1, 2, none⟩ (.slice none 0 0) = w3 := ⟨_, rfl⟩
        rw [hw3] at hbl hfar hb3 ⊢
        have r0 := block_cell hbl 0
        have r1 := block_cell hbl 1
        have r2 := block_cell hbl 2
        simp at r0 r1 r2
        clear hb1 s0 s1 s2 s3 s4 z0 z1 z2 z3 z4 z5 hfar hw3
        go_wp2_with fail
        exact bodyPost_ret (v := .tuple #[.agg #[.int .i64 0, .int .i64 0, .slice none 0 0], .bool false]) (by simp [results, Try.results16, go_sem, r0, r1, r2]) rfl ⟨rfl, hb3⟩
end Go.Proofs.Ytncikklhchimdaa
