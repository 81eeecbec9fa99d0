/- Trees: how two stand to each other, by the reference. -/
import Derived.Test.YtncikklhchimdaaTreeE
import Derived.BigQuiet
import Derived.Deep.QuietTactic
namespace Go.Proofs.Ytncikklhchimdaa
open Go.RowKit
set_option linter.unusedVariables false
set_option linter.unusedSimpArgs false
set_option maxRecDepth 100000

def cmpI (x y : Int) : Int := if x < y then -1 else if y < x then 1 else 0
theorem cmpI_bd (x y : Int) : -1 ≤ cmpI x y ∧ cmpI x y ≤ 1 := by unfold cmpI; split <;> (try split) <;> omega
theorem cmpI_eq {x y : Int} (h : x = y) : cmpI x y = 0 := by subst h; unfold cmpI; rw [if_neg (by omega), if_neg (by omega)]
theorem cmpI_zero {x y : Int} (h : cmpI x y = 0) : x = y := by unfold cmpI at h; split at h <;> (try split at h) <;> omega
theorem cmpI_neg (x y : Int) : cmpI y x = - cmpI x y := by unfold cmpI; repeat' split
                                                           all_goals omega
/-- The first one that is not 0. -/
def orI (x y : Int) : Int := if x = 0 then y else x

namespace Tr
mutual
def cmp : Tr → Tr → Int
  | node k n ks, u => orI (cmpI k u.kind) (orI (cmpI n u.num) (orI (cmpI ks.length u.kids.length) (cmpL ks u.kids)))
def cmpL : List Tr → List Tr → Int
  | [], _ => 0
  | t :: ts, us => match us with
    | [] => 1
    | u :: us => orI (cmp t u) (cmpL ts us)
end
theorem cmp_kids (t u : Tr) : cmp t u = orI (cmpI t.kind u.kind) (orI (cmpI t.num u.num) (orI (cmpI t.kids.length u.kids.length) (cmpL t.kids u.kids))) := by
  cases t; simp [cmp, kids, kind, num]
theorem orI_bd {x y : Int} (h : -1 ≤ x ∧ x ≤ 1) (h2 : -1 ≤ y ∧ y ≤ 1) : -1 ≤ orI x y ∧ orI x y ≤ 1 := by unfold orI; split <;> omega
theorem cmpL_bd (ts : List Tr) (h : ∀ t ∈ ts, ∀ u, -1 ≤ cmp t u ∧ cmp t u ≤ 1) : ∀ us, -1 ≤ cmpL ts us ∧ cmpL ts us ≤ 1 := by
  induction ts with
  | nil => intro us; simp [cmpL]
  | cons t ts ih =>
    intro us
    cases us with
    | nil => simp [cmpL]
    | cons u us => simp only [cmpL]; exact orI_bd (h t (by simp) u) (ih (fun t ht => h t (by simp [ht])) us)
theorem cmp_bd (N : Nat) : ∀ t u : Tr, t.size ≤ N → -1 ≤ cmp t u ∧ cmp t u ≤ 1 := by
  induction N with
  | zero => intro t u h; have := size_pos t; omega
  | succ N ih =>
    intro t u h
    rw [cmp_kids]
    refine orI_bd (cmpI_bd _ _) (orI_bd (cmpI_bd _ _) (orI_bd (cmpI_bd _ _) (cmpL_bd _ (fun t' ht u => ih t' u ?_) _)))
    have := size_mem ht
    rw [size_kids] at h; omega
theorem cmpL_step (ts us : List Tr) (j : Nat) (h1 : j < ts.length) (h2 : j < us.length) : cmpL (ts.drop j) (us.drop j) = orI (cmp (kid ts j) (kid us j)) (cmpL (ts.drop (j + 1)) (us.drop (j + 1))) := by
  rw [drop_kid h1, drop_kid h2]; simp only [cmpL]
end Tr

def tri (t : Tr) : List Int := [t.kind, t.num, (t.kids.length : Int)]
theorem tri_less (t u : Tr) (j : Nat) (hj : j < 3) (he : ∀ i, i < j → nth (tri t) i = nth (tri u) i) (h : nth (tri t) j < nth (tri u) j) : Tr.cmp t u = -1 := by
  rw [Tr.cmp_kids]
  match j, hj with
  | 0, _ => have h : t.kind < u.kind := h; rw [show cmpI t.kind u.kind = -1 by unfold cmpI; rw [if_pos h]]; rfl
  | 1, _ =>
    have h0 : t.kind = u.kind := he 0 (by omega)
    have h : t.num < u.num := h
    rw [cmpI_eq h0, show cmpI t.num u.num = -1 by unfold cmpI; rw [if_pos h]]; rfl
  | 2, _ =>
    have h0 : t.kind = u.kind := he 0 (by omega)
    have h1 : t.num = u.num := he 1 (by omega)
    have h : (t.kids.length : Int) < (u.kids.length : Int) := h
    rw [cmpI_eq h0, cmpI_eq h1, show cmpI (t.kids.length : Int) (u.kids.length : Int) = -1 by unfold cmpI; rw [if_pos h]]; rfl
theorem tri_more (t u : Tr) (j : Nat) (hj : j < 3) (he : ∀ i, i < j → nth (tri t) i = nth (tri u) i) (h : nth (tri u) j < nth (tri t) j) : Tr.cmp t u = 1 := by
  rw [Tr.cmp_kids]
  match j, hj with
  | 0, _ => have h : u.kind < t.kind := h; rw [show cmpI t.kind u.kind = 1 by unfold cmpI; rw [if_neg (by omega), if_pos h]]; rfl
  | 1, _ =>
    have h0 : t.kind = u.kind := he 0 (by omega)
    have h : u.num < t.num := h
    rw [cmpI_eq h0, show cmpI t.num u.num = 1 by unfold cmpI; rw [if_neg (by omega), if_pos h]]; rfl
  | 2, _ =>
    have h0 : t.kind = u.kind := he 0 (by omega)
    have h1 : t.num = u.num := he 1 (by omega)
    have h : (u.kids.length : Int) < (t.kids.length : Int) := h
    rw [cmpI_eq h0, cmpI_eq h1, show cmpI (t.kids.length : Int) (u.kids.length : Int) = 1 by unfold cmpI; rw [if_neg (by omega), if_pos h]]; rfl
theorem tri_same (t u : Tr) (he : ∀ i, i < 3 → nth (tri t) i = nth (tri u) i) : t.kids.length = u.kids.length ∧ Tr.cmp t u = Tr.cmpL t.kids u.kids := by
  have h0 : t.kind = u.kind := he 0 (by omega)
  have h1 : t.num = u.num := he 1 (by omega)
  have h2 : (t.kids.length : Int) = (u.kids.length : Int) := he 2 (by omega)
  refine ⟨by omega, ?_⟩
  rw [Tr.cmp_kids, cmpI_eq h0, cmpI_eq h1, cmpI_eq h2]; rfl

set_option maxHeartbeats 2000000 in
theorem ref13_Cmp (N : Nat) (hN : N ≤ 4194304) : ∀ (t u : Tr) (k n : Int) (a : Option Addr) (m cap : Nat) (k' n' : Int) (a' : Option Addr) (m' cap' : Nat) (w : World) (F G : Nat → Prop), t.size ≤ N → u.size ≤ 4194304 → IsT w F k n a m cap t → IsT w G k' n' a' m' cap' u →
    Calls Try.prog 77 #[.agg #[.int .i64 k, .int .i64 n, .slice a m cap], .agg #[.int .i64 k', .int .i64 n', .slice a' m' cap']] w fun e w' => e = .returned (.int .i64 (Tr.cmp t u)) ∧ Below w.heap.size w w' := by
  induction N with
  | zero => intro t u k n a m cap k' n' a' m' cap' w F G h; have := Tr.size_pos t; omega
  | succ N ih =>
    intro t u k n a m cap k' n' a' m' cap' w F G hs hsu hT hU
    have IH := Lib.hid (ih (by omega))
    clear ih
    have HT := Lib.hid hT
    have HU := Lib.hid hU
    have hm : m ≤ N := by
      have := Tr.len_le_sizeL t.kids
      rw [Tr.size_kids] at hs
      rw [hT.em]; omega
    have HS := Lib.hid hs
    have HSU := Lib.hid hsu
    have hm' : m' ≤ 4194304 := by
      have := Tr.len_le_sizeL u.kids
      rw [Tr.size_kids] at hsu
      rw [hU.em]; omega
    have fk := hT.fk
    have fn := hT.fn
    have fk' := hU.fk
    have fn' := hU.fn
    have HX : Hid (tri t = [k, n, (m : Int)]) := by unfold Hid tri; rw [hT.ek, hT.en, hT.em]
    have HY : Hid (tri u = [k', n', (m' : Int)]) := by unfold Hid tri; rw [hU.ek, hU.en, hU.em]
    have HXF : Hid (∀ x ∈ tri t, fits .i64 x) := by
      intro x hx
      rw [HX.out] at hx
      simp only [List.mem_cons, List.not_mem_nil, or_false] at hx
      rcases hx with rfl | rfl | rfl <;> exact fits_i64.2 (by omega)
    have HYF : Hid (∀ x ∈ tri u, fits .i64 x) := by
      intro x hx
      rw [HY.out] at hx
      simp only [List.mem_cons, List.not_mem_nil, or_false] at hx
      rcases hx with rfl | rfl | rfl <;> exact fits_i64.2 (by omega)
    clear hT hU hs hsu
    go_enter Try.func77, Try.ntmps77
    go_wp2_with fail
    obtain ⟨W0, hW0⟩ : ∃ W0, (((w.alloc (.cells #[.int .i64 k, .int .i64 n, .slice a m cap] 24)).alloc (.cells #[.int .i64 k', .int .i64 n', .slice a' m' cap'] 24)).alloc (.cells #[.int .i64 k, .int .i64 n, .int .i64 m] 3)).alloc (.cells #[.int .i64 k', .int .i64 n', .int .i64 m'] 3) = W0 := ⟨_, rfl⟩
    have hb0 : Below w.heap.size w W0 := by rw [← hW0]; exact ((((Below.refl _ _).alloc (Nat.le_refl _) _).alloc (by simp) _).alloc (by simp; omega) _).alloc (by simp; omega) _
    have hX : Row .i64 W0 (some ⟨w.heap.size + 1 + 1, 0, none⟩) (tri t) := by
      rw [← hW0]
      refine Row.below ?_ ((Below.refl _ _).alloc (Nat.le_refl _) _)
      have h := row_new .i64 ((w.alloc (.cells #[.int .i64 k, .int .i64 n, .slice a m cap] 24)).alloc (.cells #[.int .i64 k', .int .i64 n', .slice a' m' cap'] 24)) 3 (tri t) HXF.out (by rw [HX.out]; simp)
      rw [HX.out] at h ⊢
      simpa using h
    have hY : Row .i64 W0 (some ⟨w.heap.size + 1 + 1 + 1, 0, none⟩) (tri u) := by
      rw [← hW0]
      have h := row_new .i64 (((w.alloc (.cells #[.int .i64 k, .int .i64 n, .slice a m cap] 24)).alloc (.cells #[.int .i64 k', .int .i64 n', .slice a' m' cap'] 24)).alloc (.cells #[.int .i64 k, .int .i64 n, .int .i64 m] 3)) 3 (tri u) HYF.out (by rw [HY.out]; simp)
      rw [HY.out] at h ⊢
      simpa using h
    have hca : W0.cell? ⟨w.heap.size, 2, none⟩ = some (.slice a m cap) := by
      rw [← hW0, cell_past _ _ _ (by simp; omega), cell_past _ _ _ (by simp; omega), cell_past _ _ _ (by simp)]; simp
    have hcb : W0.cell? ⟨w.heap.size + 1, 2, none⟩ = some (.slice a' m' cap') := by
      rw [← hW0, cell_past _ _ _ (by simp), cell_past _ _ _ (by simp)]; simp
    have hsz : w.heap.size + 4 ≤ W0.heap.size := by rw [← hW0]; simp
    rw [hW0]
    clear hW0
    have HX0 := Lib.hid hX
    have HY0 := Lib.hid hY
    have HCA := Lib.hid hca
    have HCB := Lib.hid hcb
    clear hX hY hca hcb
    go_loopw [7] (fun i wr => ∃ j : Nat, j ≤ 3 ∧ i = .int .i64 j ∧ Hid (∀ i, i < j → nth (tri t) i = nth (tri u) i) ∧ Below W0.heap.size W0 wr) (fun i _ => 3 - (intOf i).toNat)
    case atStart => exact ⟨0, by omega, rfl, fun i hi => absurd hi (by omega), Below.refl _ _⟩
    case round =>
      obtain ⟨j, hj, rfl, HE, hbel⟩ := hrel
      by_cases hlt : j < 3
      · obtain ⟨b1, o1, e1, hc1⟩ := (HX0.out.below hbel).at (by simp [tri])
        obtain ⟨b2, o2, e2, hc2⟩ := (HY0.out.below hbel).at (by simp [tri])
        have h1 := hc1 j hlt
        have h2 := hc2 j hlt
        simp only [Option.some.injEq, Addr.mk.injEq, and_true] at e1 e2
        obtain ⟨rfl, rfl⟩ := e1
        obtain ⟨rfl, rfl⟩ := e2
        have fx := fits_i64.1 (HXF.out _ (nth_mem (show j < (tri t).length from hlt)))
        have fy := fits_i64.1 (HYF.out _ (nth_mem (show j < (tri u).length from hlt)))
        have HL : Hid (nth (tri t) j < nth (tri u) j → Tr.cmp t u = -1) := tri_less t u j hlt HE.out
        have HM : Hid (nth (tri u) j < nth (tri t) j → Tr.cmp t u = 1) := tri_more t u j hlt HE.out
        have HEQ : Hid (nth (tri t) j = nth (tri u) j → ∀ i, i < j + 1 → nth (tri t) i = nth (tri u) i) := fun h i hi => by
          rcases Nat.lt_succ_iff_lt_or_eq.1 hi with h' | rfl
          · exact HE.out i h'
          · exact h
        obtain ⟨x, hx⟩ : ∃ x, nth (tri t) j = x := ⟨_, rfl⟩
        obtain ⟨y, hy⟩ : ∃ y, nth (tri u) j = y := ⟨_, rfl⟩
        rw [hx] at h1 fx HL HM HEQ
        rw [hy] at h2 fy HL HM HEQ
        rw [Nat.zero_add] at h1 h2
        have g1 : (0 : Int) ≤ (j : Int) := by omega
        have g2 : (j : Int) < 3 := by omega
        clear hc1 hc2 hx hy HE
        have hh1 := World.block_lt_of_cell? _ _ h1
        have hh2 := World.block_lt_of_cell? _ _ h2
        by_cases hxy : x < y
        · have HR := Lib.hid (HL.out hxy)
          clear HL HM HEQ
          go_wp2_with fail
          go_quiet (fail)
          have hb := below_drewN (Below.refl wr.heap.size wr) nq
          obtain ⟨w1, hw1⟩ : ∃ w1, wr.drewN nq = w1 := ⟨_, rfl⟩
          rw [hw1] at hb ⊢
          clear hw1
          go_wp2_with fail
          go_ret
          exact ⟨by simp [HR.out], chain hb0 (chain hbel hb)⟩
        · by_cases hyx : y < x
          · have HR := Lib.hid (HM.out hyx)
            have q1 : decide (x < y) = false := by simp; omega
            have q2 : decide (x > y) = true := by simp; omega
            clear HL HM HEQ
            go_wp2_with fail
            go_quiet (fail)
            have hb := below_drewN (Below.refl wr.heap.size wr) nq
            have h1' := (hb.cell (p := ⟨w.heap.size + 1 + 1, j, none⟩) hh1).trans h1
            have h2' := (hb.cell (p := ⟨w.heap.size + 1 + 1 + 1, j, none⟩) hh2).trans h2
            obtain ⟨w1, hw1⟩ : ∃ w1, wr.drewN nq = w1 := ⟨_, rfl⟩
            rw [hw1] at hb h1' h2' ⊢
            clear hw1
            go_wp2_with fail
            go_quiet (fail)
            have hb2 := below_drewN (Below.refl w1.heap.size w1) nq
            obtain ⟨w2, hw2⟩ : ∃ w2, w1.drewN nq = w2 := ⟨_, rfl⟩
            rw [hw2] at hb2 ⊢
            clear hw2
            go_wp2_with fail
            go_ret
            exact ⟨by simp [HR.out], chain hb0 (chain (chain hbel hb) hb2)⟩
          · have HR := Lib.hid (HEQ.out (by omega))
            have q1 : decide (x < y) = false := by simp; omega
            have q2 : decide (x > y) = false := by simp; omega
            clear HL HM HEQ
            go_wp2_with fail
            go_quiet (fail)
            have hb := below_drewN (Below.refl wr.heap.size wr) nq
            have h1' := (hb.cell (p := ⟨w.heap.size + 1 + 1, j, none⟩) hh1).trans h1
            have h2' := (hb.cell (p := ⟨w.heap.size + 1 + 1 + 1, j, none⟩) hh2).trans h2
            obtain ⟨w1, hw1⟩ : ∃ w1, wr.drewN nq = w1 := ⟨_, rfl⟩
            rw [hw1] at hb h1' h2' ⊢
            clear hw1
            go_wp2_with fail
            go_quiet (fail)
            have hb2 := below_drewN (Below.refl w1.heap.size w1) nq
            obtain ⟨w2, hw2⟩ : ∃ w2, w1.drewN nq = w2 := ⟨_, rfl⟩
            rw [hw2] at hb2 ⊢
            clear hw2
            go_wp2_with fail
            go_roundw
            case rel => exact ⟨j + 1, by omega, by go_num, HR.out, chain (chain hbel hb) hb2⟩
            case measure => simp [intOf]; omega
      · have hj3 : j = 3 := by omega
        subst hj3
        rw [show ((3 : Nat) : Int) = 3 from rfl]
        obtain ⟨hlen, hcmp⟩ := tri_same t u HE.out
        have hmm : m = m' := by rw [HT.out.em, HU.out.em]; exact hlen
        subst hmm
        have HC := Lib.hid hcmp
        have HLEN := Lib.hid hlen
        clear hlen hcmp HE
        go_wp2_with fail
        obtain ⟨wo, hwo⟩ : ∃ wo : World, wo = wr := ⟨_, rfl⟩
        subst hwo
        go_loopw [8] (fun i wq => ∃ j : Nat, j ≤ m ∧ i = .int .i64 j ∧ Hid (Tr.cmpL (t.kids.drop j) (u.kids.drop j) = Tr.cmp t u) ∧ Below W0.heap.size W0 wq) (fun i _ => m - (intOf i).toNat)
        case atStart => exact ⟨0, by omega, rfl, by unfold Hid; rw [HC.out]; rfl, hbel⟩
        case round =>
          clear hbel
          obtain ⟨j, hj, rfl, HE, hbel⟩ := hrel
          have hca := (hbel.cell (p := ⟨w.heap.size, 2, none⟩) (by show w.heap.size < W0.heap.size; omega)).trans HCA.out
          have hcb := (hbel.cell (p := ⟨w.heap.size + 1, 2, none⟩) (by show w.heap.size + 1 < W0.heap.size; omega)).trans HCB.out
          by_cases hlt : j < m
          · obtain ⟨b, off, k2, n2, a2, m2, c2, rfl, hF, hbl, h0, h1, h2, hT'⟩ := ((HT.out.below hb0).below hbel).kid j hlt
            obtain ⟨b', off', k3, n3, a3, m3, c3, rfl, hF', hbl', h0', h1', h2', hU'⟩ := ((HU.out.below hb0).below hbel).kid j hlt
            have hj2 : j < t.kids.length := by rw [← HT.out.em]; exact hlt
            have hj3 : j < u.kids.length := by rw [← HU.out.em]; exact hlt
            have hst := Tr.cmpL_step t.kids u.kids j hj2 hj3
            have hsz' := Tr.size_kid t j hj2
            have hs1 : (Tr.kid t.kids j).size ≤ N := by have := HS.out; omega
            rw [HE.out] at hst
            obtain ⟨t', ht'⟩ : ∃ t', Tr.kid t.kids j = t' := ⟨_, rfl⟩
            obtain ⟨u', hu'⟩ : ∃ u', Tr.kid u.kids j = u' := ⟨_, rfl⟩
            rw [ht'] at hT' hst hs1
            rw [hu'] at hU' hst
            have hsu1 : (Tr.kid u.kids j).size ≤ 4194304 := by have := HSU.out; have := Tr.size_kid u j hj3; omega
            rw [hu'] at hsu1
            have HST := Lib.hid hst
            have CK : Hid (∀ W, Below wr.heap.size wr W → Calls Try.prog 77 #[.agg #[.int .i64 k2, .int .i64 n2, .slice a2 m2 c2], .agg #[.int .i64 k3, .int .i64 n3, .slice a3 m3 c3]] W fun e w' => e = .returned (.int .i64 (Tr.cmp t' u')) ∧ Below W.heap.size W w') :=
              fun W hb => IH.out t' u' k2 n2 a2 m2 c2 k3 n3 a3 m3 c3 W F G hs1 hsu1 (hT'.below hb) (hU'.below hb)
            have hcb1 := Tr.cmp_bd _ t' u' (Nat.le_refl _)
            have hla := World.block_lt_of_cell? _ _ hca
            have hlb := World.block_lt_of_cell? _ _ hcb
            simp only [] at hla hlb
            have g1 : (0 : Int) ≤ (j : Int) := by omega
            have g2 : (j : Int) < (m : Int) := by omega
            obtain ⟨C, hC⟩ : ∃ C, Tr.cmp t' u' = C := ⟨_, rfl⟩
            rw [hC] at CK hcb1 HST
            clear hT' hU' hst ht' hu' hC hs1 hsu1 hsz' hj2 hj3 hF hF' HE
            go_wp2_with fail
            go_region_held3 (fun w' => w'.cell? ⟨w.heap.size, 2, none⟩ = some (.slice (some ⟨b, off, none⟩) m cap) ∧ w'.cell? ⟨w.heap.size + 1, 2, none⟩ = some (.slice (some ⟨b', off', none⟩) m cap') ∧ w'.cell? ⟨b, off + j * 3, none⟩ = some (.int .i64 k2) ∧ w'.cell? ⟨b, off + j * 3 + 1, none⟩ = some (.int .i64 n2) ∧ w'.cell? ⟨b, off + j * 3 + 2, none⟩ = some (.slice a2 m2 c2) ∧ w'.cell? ⟨b', off' + j * 3, none⟩ = some (.int .i64 k3) ∧ w'.cell? ⟨b', off' + j * 3 + 1, none⟩ = some (.int .i64 n3) ∧ w'.cell? ⟨b', off' + j * 3 + 2, none⟩ = some (.slice a3 m3 c3)) (first | go_keep | exact ⟨q0, q1, q2, q3, q4, q5, q6, q7⟩) ((first | (go_at_call 77; refine (CK.out _ (Below.refl _ _).drew).mono ?_; rintro e1 w1 ⟨rfl, hb1⟩; have q0 := (hb1.cell (p := ⟨w.heap.size, 2, none⟩) hla).trans hca; have q1 := (hb1.cell (p := ⟨w.heap.size + 1, 2, none⟩) hlb).trans hcb; have q2 := (hb1.cell (p := ⟨b, off + j * 3, none⟩) hbl).trans h0; have q3 := (hb1.cell (p := ⟨b, off + j * 3 + 1, none⟩) hbl).trans h1; have q4 := (hb1.cell (p := ⟨b, off + j * 3 + 2, none⟩) hbl).trans h2; have q5 := (hb1.cell (p := ⟨b', off' + j * 3, none⟩) hbl').trans h0'; have q6 := (hb1.cell (p := ⟨b', off' + j * 3 + 1, none⟩) hbl').trans h1'; have q7 := (hb1.cell (p := ⟨b', off' + j * 3 + 2, none⟩) hbl').trans h2')))
            have hb1' := chain (below_drewN (Below.refl wr.heap.size wr) 1) hb1
            clear hb1 h0 h1 h2 h0' h1' h2' hca hcb
            by_cases hC0 : C = 0
            · subst hC0
              have HQ : Hid (Tr.cmpL (t.kids.drop (j + 1)) (u.kids.drop (j + 1)) = Tr.cmp t u) := by unfold Hid; rw [HST.out]; rfl
              go_wp2_with fail
              go_roundw
              case rel => exact ⟨j + 1, by omega, by go_num, HQ.out, chain hbel hb1'⟩
              case measure => simp [intOf]; omega
            · have HQ : Hid (Tr.cmp t u = C) := by unfold Hid; rw [HST.out]; unfold orI; rw [if_neg hC0]
              have hne : (C != 0) = true := by simp; omega
              go_wp2_with fail
              go_ret
              exact ⟨by simp [HQ.out], chain hb0 (chain hbel hb1')⟩
          · have hjm : j = m := by omega
            have hz : Tr.cmp t u = 0 := by
              rw [← HE.out, List.drop_eq_nil_of_le (by rw [← HT.out.em]; omega)]; simp [Tr.cmpL]
            have HZ := Lib.hid hz
            clear hz HE
            go_wp2_with fail
            go_ret
            exact ⟨by simp [HZ.out], chain hb0 hbel⟩
end Go.Proofs.Ytncikklhchimdaa
