/- The contracts and plain laws that the statements WmapPuts WmapMerges WmapNils need, part 5 of 5: WmJ WmK WmM WmP WmQ WmR WmS WmT WmU WmV WmW WmX WmY WmZ. -/
import Derived.Test.YtonffapiamhdbaaWmB4
namespace Go.Proofs.Ytonffapiamhdbaa
open Go.RowKit
set_option linter.unusedVariables false
set_option linter.unusedSimpArgs false
set_option maxRecDepth 100000
set_option maxRecDepth 20000
/-- The first error of some entries. -/
def chkE : List Ent → Int
  | [] => 0
  | x :: l => if forK x.n x.d x.t = 0 then chkE l else forK x.n x.d x.t
/-- All of them, one by one. -/
def putsE (l r : List Ent) : List Ent := r.foldl Ent.put l
theorem putsE_snoc (l r : List Ent) (x : Ent) : putsE l (r ++ [x]) = Ent.put (putsE l r) x := by simp [putsE]
theorem putsE_len (l r : List Ent) : l.length ≤ (putsE l r).length ∧ (putsE l r).length ≤ l.length + r.length := by
  induction r generalizing l with
  | nil => simp [putsE]
  | cons x r ih =>
    have h1 := ih (Ent.put l x)
    have h2 := Ent.put_len l x
    simp only [putsE, List.foldl_cons, List.length_cons] at h1 ⊢
    omega
theorem drop_at {l : List Ent} {j : Nat} (h : j < l.length) : l.drop j = Ent.at_ l j :: l.drop (j + 1) := by
  rw [List.drop_eq_getElem_cons h]
  simp [Ent.at_, h]
theorem chkE_ok {l : List Ent} {j : Nat} (h : j < l.length) (h0 : forK (Ent.at_ l j).n (Ent.at_ l j).d (Ent.at_ l j).t = 0) : chkE (l.drop j) = chkE (l.drop (j + 1)) := by rw [drop_at h, chkE, if_pos h0]
theorem chkE_bad {l : List Ent} {j : Nat} (h : j < l.length) (h0 : forK (Ent.at_ l j).n (Ent.at_ l j).d (Ent.at_ l j).t ≠ 0) : chkE (l.drop j) = forK (Ent.at_ l j).n (Ent.at_ l j).d (Ent.at_ l j).t := by rw [drop_at h, chkE, if_neg h0]
/-- An entry's box, made anew. -/
theorem box_below (wr : World) (x y k n : Int) (a : Option Addr) (m c : Nat) : ∃ W1, wr.alloc (.cells #[.int .i64 x, .int .i64 y, .int .i64 k, .int .i64 n, .slice a m c] 36) = W1 ∧ Below wr.heap.size wr W1 ∧ (W1.cell? ⟨wr.heap.size, 0, none⟩ = some (.int .i64 x) ∧ W1.cell? ⟨wr.heap.size, 1, none⟩ = some (.int .i64 y) ∧ W1.cell? ⟨wr.heap.size, 2, none⟩ = some (.int .i64 k) ∧ W1.cell? ⟨wr.heap.size, 3, none⟩ = some (.int .i64 n) ∧ W1.cell? ⟨wr.heap.size, 4, none⟩ = some (.slice a m c)) := by
  obtain ⟨W0, hW0, hb0, x0⟩ := box_any wr #[.int .i64 x, .int .i64 y, .int .i64 k, .int .i64 n, .slice a m c] 36
  exact ⟨W0, hW0, hb0, block_cell x0 0, block_cell x0 1, block_cell x0 2, block_cell x0 3, block_cell x0 4⟩
theorem IsE.grown {w w' : World} {F : Nat → Prop} {a : Option Addr} {m c mb : Nat} {l : List Ent} (h : IsE w F a m c l) (hg : w.grownBy w' (some mb)) (hF : ∀ b, F b → b ≠ mb) : IsE w' F a m c l :=
  h.stay (fun b hb hlt => hg.block b hlt (fun e => hF b hb (by injection e))) hg.size
set_option maxHeartbeats 4000000 in
theorem wmap_Merge (B p mb : Nat) (l r : List Ent) (a : Option Addr) (m c : Nat) (w : World) (F : Nat → Prop) (h : IsM w (fun b => B ≤ b) p mb l) (hB : B ≤ w.heap.size) (hI : IsE w F a m c r) (hF : ∀ b, F b → b ≠ mb) (hs : ∀ x ∈ r, x.t.size ≤ 4194304) (hm : m ≤ 1048576) (hll : l.length ≤ 1048576) :
    Calls Try.prog 19 #[.pointer (some ⟨p, 0, none⟩), .slice a m c] w fun e w' => e = .returned (.tuple #[.int .i64 (if chkE r = 0 then ((putsE l r).length : Int) - l.length else 0), .int .i64 (chkE r)]) ∧ IsM w' (fun b => B ≤ b) p mb (if chkE r = 0 then putsE l r else l) ∧ w.grownBy w' (some mb) := by
  obtain ⟨Z, hZ⟩ : ∃ Z, chkE r = Z := ⟨_, rfl⟩
  rw [hZ]
  obtain ⟨N, hN⟩ : ∃ N : Int, (if Z = 0 then ((putsE l r).length : Int) - l.length else 0) = N := ⟨_, rfl⟩
  obtain ⟨L, hL⟩ : ∃ L, (if Z = 0 then putsE l r else l) = L := ⟨_, rfl⟩
  rw [hN, hL]
  have HZ := Lib.hid hZ
  have HOKZ : Hid (Z = 0 → N = ((putsE l r).length : Int) - l.length ∧ L = putsE l r) := fun e => ⟨by rw [← hN, if_pos e], by rw [← hL, if_pos e]⟩
  have HNOZ : Hid (Z ≠ 0 → N = 0 ∧ L = l) := fun e => ⟨by rw [← hN, if_neg e], by rw [← hL, if_neg e]⟩
  clear hZ hN hL
  have H0 := Lib.hid h
  have HI := Lib.hid hI
  have HS := Lib.hid hs
  clear h hI hs
  go_enter Try.func19, Try.ntmps19
  go_wp2_with fail
  go_loopw [16] (fun i wr => ∃ j : Nat, j ≤ m ∧ i = .int .i64 j ∧ Hid (chkE (r.drop j) = Z) ∧ Below w.heap.size w wr) (fun i _ => m - (intOf i).toNat)
  case atStart => exact ⟨0, Nat.zero_le _, rfl, HZ, Below.refl _ _⟩
  case round =>
    obtain ⟨j, hj, rfl, HC, hbel⟩ := hrel
    have hsz := hbel.size
    by_cases hlt : j < m
    · obtain ⟨b, off, k', n', a', m', c', rfl, hF', hbl, ⟨h0, h1, h2, h3, h4⟩, hT'⟩ := (HI.out.below hbel).at_ j hlt
      have hjl : j < r.length := by rw [HI.out.len]; exact hlt
      have hsz1 := HS.out _ (Ent.at_mem hjl)
      have hfit := HI.out.fitAt hlt
      have HOK := Lib.hid (chkE_ok hjl)
      have HBAD := Lib.hid (chkE_bad hjl)
      obtain ⟨e, he⟩ : ∃ e, Ent.at_ r j = e := ⟨_, rfl⟩
      rw [he] at hT' hsz1 h0 h1 hfit HOK HBAD
      have CC0 : ∀ W, Below wr.heap.size wr W → Calls Try.prog 22 #[.agg #[.int .i64 e.n, .int .i64 e.d, .int .i64 k', .int .i64 n', .slice a' m' c']] W fun r w' => r = .returned (.int .i64 (forK e.n e.d e.t)) ∧ Below W.heap.size W w' := fun W hb => entry_Check e k' n' a' m' c' W F hsz1 hfit.1 (hT'.below hb)
      obtain ⟨C, hC⟩ : ∃ C, forK e.n e.d e.t = C := ⟨_, rfl⟩
      rw [hC] at CC0 HOK HBAD
      obtain ⟨y0, hy0⟩ : ∃ y0, e.n = y0 := ⟨_, rfl⟩
      obtain ⟨y1, hy1⟩ : ∃ y1, e.d = y1 := ⟨_, rfl⟩
      rw [hy0] at h0 CC0
      rw [hy1] at h1 CC0
      have CC := Lib.hid CC0
      obtain ⟨W1, hW1, hbW, p0, p1, p2, p3, p4⟩ := box_below wr y0 y1 k' n' a' m' c'
      have HBW := Lib.hid hbW
      have HW1 := Lib.hid hW1
      clear hT' hsz1 hfit he hC hy0 hy1 hbW CC0 hF' hjl
      go_wp2_with fail
      refine (CC.out _ HBW.out).mono ?_; rintro rr w1 ⟨rfl, hb1⟩
      have HB1 := Lib.hid (chain (chain hbel HBW.out) hb1)
      clear hb1 p0 p1 p2 p3 p4 h0 h1 h2 h3 h4
      by_cases hC0 : C = 0
      · subst hC0
        have HC2 : Hid (chkE (r.drop (j + 1)) = Z) := (HOK.out rfl).symm.trans HC.out
        go_wp2_with fail
        go_roundw
        case rel => exact ⟨j + 1, by omega, by go_num, HC2.out, HB1.out⟩
        case measure => simp [intOf]; omega
      · have t1 : (C != 0) = true := by simp [hC0]
        have hE : Z = C := HC.out.symm.trans (HBAD.out hC0)
        obtain ⟨e1, e2⟩ := HNOZ.out (by rw [hE]; exact hC0)
        have HE := Lib.hid (And.intro hE (And.intro e1 e2))
        clear hE e1 e2
        go_wp2_with fail
        go_ret2
        obtain ⟨e0, e1, e2⟩ := HE.out
        rw [e0, e1, e2]
        exact ⟨rfl, H0.out.below HB1.out, grown_of_belowS HB1.out _⟩
    · have hjm : j = m := by omega
      have hE : Z = 0 := by rw [← HC.out, List.drop_of_length_le (by rw [HI.out.len]; omega)]; rfl
      obtain ⟨e1, e2⟩ := HOKZ.out hE
      have HE := Lib.hid (And.intro hE (And.intro e1 e2))
      clear hE e1 e2
      have HMR := Lib.hid (H0.out.below hbel)
      have HGR := Lib.hid (grown_of_belowS hbel (some mb))
      clear HC hbel
      rw [hjm]
      clear hjm hlt hj
      go_wp2_with fail
      go_loopw [9, 28] (fun v i wr => ∃ j : Nat, j ≤ m ∧ i = .int .i64 j ∧ v = .int .i64 ((putsE l (r.take j)).length - l.length) ∧ Hid (IsM wr (fun b => B ≤ b) p mb (putsE l (r.take j))) ∧ Hid (w.grownBy wr (some mb)) ∧ w.heap.size ≤ wr.heap.size) (fun _ i _ => m - (intOf i).toNat)
      case atStart => exact ⟨0, Nat.zero_le _, rfl, by simp [putsE], HMR, HGR, hsz⟩
      case round =>
        obtain ⟨j, hj, rfl, rfl, HM, HG, hsz2⟩ := hrel
        by_cases hlt : j < m
        · obtain ⟨b, off, k', n', a', m', c', rfl, hF', hbl, ⟨h0, h1, h2, h3, h4⟩, hT'⟩ := (HI.out.grown HG.out hF).at_ j hlt
          have hjl : j < r.length := by rw [HI.out.len]; exact hlt
          have hsz1 := HS.out _ (Ent.at_mem hjl)
          have hfit := HI.out.fitAt hlt
          have HPS : Hid (putsE l (r.take (j + 1)) = Ent.put (putsE l (r.take j)) (Ent.at_ r j)) := by unfold Hid; rw [Ent.take_at hjl, putsE_snoc]
          obtain ⟨e, he⟩ : ∃ e, Ent.at_ r j = e := ⟨_, rfl⟩
          rw [he] at hT' hsz1 h0 h1 hfit HPS
          obtain ⟨L1, hL1⟩ : ∃ L1, putsE l (r.take j) = L1 := ⟨_, rfl⟩
          have hll1 := putsE_len l (r.take j)
          rw [List.length_take, hL1] at hll1
          rw [hL1] at HM HPS
          have CP0 : ∀ W, Below wr.heap.size wr W → Calls Try.prog 23 #[.pointer (some ⟨p, 0, none⟩), .agg #[.int .i64 e.n, .int .i64 e.d, .int .i64 k', .int .i64 n', .slice a' m' c']] W fun r w' => r = .returned (.bool (!Ent.has L1 e.n e.d)) ∧ IsM w' (fun b => B ≤ b) p mb (Ent.put L1 e) ∧ W.grownBy w' (some mb) := fun W hb => wmap_put B p mb L1 e k' n' a' m' c' W F (HM.out.below hb) (by have := hb.size; omega) hfit hsz1 (hT'.below hb)
          obtain ⟨bh, hbh⟩ : ∃ bh, Ent.has L1 e.n e.d = bh := ⟨_, rfl⟩
          have HPL : Hid ((putsE l (r.take (j + 1))).length = if bh then L1.length else L1.length + 1) := by
            unfold Hid
            rw [HPS.out]
            unfold Ent.put
            rw [hbh]
            cases bh <;> simp
          rw [hbh] at CP0
          obtain ⟨y0, hy0⟩ : ∃ y0, e.n = y0 := ⟨_, rfl⟩
          obtain ⟨y1, hy1⟩ : ∃ y1, e.d = y1 := ⟨_, rfl⟩
          rw [hy0] at h0 CP0
          rw [hy1] at h1 CP0
          rw [hL1]
          have CP := Lib.hid CP0
          obtain ⟨W1, hW1, hbW, p0, p1, p2, p3, p4⟩ := box_below wr y0 y1 k' n' a' m' c'
          have HBW := Lib.hid hbW
          clear hT' hsz1 hfit he hbh hy0 hy1 hbW CP0 hF' hL1
          go_wp2_with fail
          refine (CP.out _ HBW.out).mono ?_; rintro rr w2 ⟨rfl, hM2, hG2⟩
          have HM2 := Lib.hid hM2
          have HG2 := Lib.hid (HG.out.trans ((grown_of_belowS HBW.out (some mb)).trans hG2))
          have hz2 := HG2.out.size
          clear hM2 hG2 p0 p1 p2 p3 p4 h0 h1 h2 h3 h4
          cases bh with
          | true =>
            have hq := HPL.out
            simp only [if_true] at hq
            go_wp2_with fail
            go_roundw
            case rel => exact ⟨j + 1, by omega, by go_num, by rw [hq], by rw [HPS.out]; exact HM2, HG2, hz2⟩
            case measure => simp [intOf]; omega
          | false =>
            have hq := HPL.out
            simp only [Bool.false_eq_true, if_false] at hq
            go_wp2_with fail
            go_roundw
            case rel => exact ⟨j + 1, by omega, by go_num, by rw [hq]; go_num, by rw [HPS.out]; exact HM2, HG2, hz2⟩
            case measure => simp [intOf]; omega
        · have hjm2 : j = m := by omega
          have hE2 : r.take j = r := List.take_of_length_le (by rw [HI.out.len]; omega)
          rw [hE2] at HM
          rw [hE2]
          obtain ⟨e0, e1, e2⟩ := HE.out
          rw [← e2] at HM
          rw [← e1]
          have HE0 := Lib.hid e0
          clear hE2 e0 e1 e2 HE
          go_wp2_with fail
          go_ret2
          rw [HE0.out]
          exact ⟨rfl, HM.out, HG.out⟩
end Go.Proofs.Ytonffapiamhdbaa

namespace Go.Proofs.Ytonffapiamhdbaa
open Go.RowKit
set_option linter.unusedVariables false
set_option linter.unusedSimpArgs false
set_option maxRecDepth 100000
set_option maxRecDepth 20000
theorem key_guard : Try.prog.eqGuardType Try.prog.depth 24 = false := by kernel_rfl
theorem key_same (x1 x2 y1 y2 : Int) (w : World) : (Op.equalIn 10000 24 (.agg #[.int .i64 x1, .int .i64 x2]) (.agg #[.int .i64 y1, .int .i64 y2])).run Try.prog w = .ok (x1 == y1 && x2 == y2) w := key_eq x1 x2 y1 y2 w
theorem IsE.inn {w : World} {F : Nat → Prop} {a : Option Addr} {m cap : Nat} {l : List Ent} (h : IsE w F a m cap l) : IsE w (fun b => F b ∧ b < w.heap.size) a m cap l := by
  refine ⟨h.len, h.cap, h.fit, fun i hi => ?_⟩
  obtain ⟨b, off, k, n, a', m', c', e, hF, hb, hc, hT⟩ := h.at_ i hi
  exact ⟨b, off, k, n, a', m', c', e, ⟨hF, hb⟩, hb, hc, hT.inn⟩
/-- A box of three cells is stored into. -/
theorem three_set {w w1 : World} {q B : Nat} {T : TypeId} {a0 a1 a2 : Value} (v0 v1 v2 : Value) (hx : w1.heap[q]? = some (.cells #[a0, a1, a2] T (0, 0))) (hb : Below B w w1) (hq : B ≤ q) :
    ∃ w3, ((w1.setCell ⟨q, 0, none⟩ v0).setCell ⟨q, 1, none⟩ v1).setCell ⟨q, 2, none⟩ v2 = w3 ∧ w3.heap[q]? = some (.cells #[v0, v1, v2] T (0, 0)) ∧ (∀ b, b ≠ q → w3.heap[b]? = w1.heap[b]?) ∧ Below B w w3 :=
  ⟨_, rfl, block_set (block_set (block_set hx 0 _) 1 _) 2 _, fun b hb => by rw [set_far _ _ _ _ hb, set_far _ _ _ _ hb, set_far _ _ _ _ hb], ((hb.setCell hq _).setCell hq _).setCell hq _⟩
theorem has_snoc (l : List Ent) (x : Ent) (n d : Int) : Ent.has (l ++ [x]) n d = (Ent.has l n d || (x.n == n && x.d == d)) := by simp [Ent.has]
theorem has_here {l : List Ent} {j : Nat} (hj : j < l.length) {n d : Int} (h : (Ent.at_ l j).n = n ∧ (Ent.at_ l j).d = d) : Ent.has l n d = true := Ent.has_iff.2 ⟨_, Ent.at_mem hj, h.1, h.2⟩
set_option maxHeartbeats 1000000 in
theorem ref25_Has (l : List Ent) (n d : Int) (a : Option Addr) (m c : Nat) (w : World) (F : Nat → Prop) (hI : IsE w F a m c l) (hm : m ≤ 1048576) :
    Calls Try.prog 25 #[.slice a m c, .agg #[.int .i64 n, .int .i64 d]] w fun r w' => r = .returned (.bool (Ent.has l n d)) ∧ Below w.heap.size w w' := by
  obtain ⟨W0, hW0, hb0, x0⟩ := box_any w #[.int .i64 n, .int .i64 d] 24
  have HI := Lib.hid (hI.below hb0)
  have HB0 := Lib.hid hb0
  have D0 : W0.cell? ⟨w.heap.size, 0, none⟩ = some (.int .i64 n) := block_cell x0 0
  have D1 : W0.cell? ⟨w.heap.size, 1, none⟩ = some (.int .i64 d) := block_cell x0 1
  have hlt0 := block_lt x0
  clear hI hb0 x0
  go_enter Try.func25, Try.ntmps25
  go_wp2_with fail
  go_loopw [5] (fun i wr => ∃ j : Nat, j ≤ m ∧ i = .int .i64 j ∧ Hid (Ent.has (l.take j) n d = false) ∧ Below W0.heap.size W0 wr) (fun i _ => m - (intOf i).toNat)
  case atStart => exact ⟨0, Nat.zero_le _, rfl, rfl, Below.refl _ _⟩
  case round =>
    obtain ⟨j, hj, rfl, HH, hbel⟩ := hrel
    have E0 := (hbel.cell (p := ⟨w.heap.size, 0, none⟩) hlt0).trans D0
    have E1 := (hbel.cell (p := ⟨w.heap.size, 1, none⟩) hlt0).trans D1
    have HBE := Lib.hid (chain HB0.out hbel)
    by_cases hlt : j < m
    · obtain ⟨b, off, k', n', a', m', c', rfl, hF, hbl, ⟨h0, h1, h2, h3, h4⟩, hT'⟩ := (HI.out.below hbel).at_ j hlt
      have hjl : j < l.length := by rw [HI.out.len]; exact hlt
      obtain ⟨x0, hx0⟩ : ∃ x, (Ent.at_ l j).n = x := ⟨_, rfl⟩
      obtain ⟨x1, hx1⟩ : ∃ x, (Ent.at_ l j).d = x := ⟨_, rfl⟩
      rw [hx0] at h0
      rw [hx1] at h1
      have HS : Hid (Ent.has (l.take (j + 1)) n d = (x0 == n && x1 == d)) := by unfold Hid; rw [Ent.take_at hjl, has_snoc, HH.out, hx0, hx1, Bool.false_or]
      have HT : Hid (x0 = n ∧ x1 = d → Ent.has l n d = true) := fun e => has_here hjl (by rw [hx0, hx1]; exact e)
      have hkg := key_guard
      obtain ⟨BB, hBB⟩ : ∃ BB, (x0 == n && x1 == d) = BB := ⟨_, rfl⟩
      have hke : ∀ W, (Op.equalIn 10000 24 (.agg #[.int .i64 x0, .int .i64 x1]) (.agg #[.int .i64 n, .int .i64 d])).run Try.prog W = .ok BB W := fun W => by rw [key_same, hBB]
      have HBB := Lib.hid hBB
      clear hT' hx0 hx1 h2 h3 h4 hF hBB
      go_wp2_with fail
      go_quiet (fail)
      cases BB with
      | true =>
        have hbb : x0 = n ∧ x1 = d := by have := HBB.out; rwa [Bool.and_eq_true, beq_iff_eq, beq_iff_eq] at this
        have HT2 := Lib.hid (HT.out hbb)
        have HBE2 : Hid (Below w.heap.size w (wr.drewN nq)) := below_drewN HBE.out nq
        clear hke hbb h0 h1 E0 E1
        go_wp2_with fail
        go_ret
        exact ⟨by rw [HT2.out]; rfl, HBE2.out⟩
      | false =>
        have HS2 : Hid (Ent.has (l.take (j + 1)) n d = false) := HS.out.trans HBB.out
        have hbel2 : Below W0.heap.size W0 (wr.drewN nq) := below_drewN hbel nq
        clear hke h0 h1 E0 E1 hbel
        go_wp2_with fail
        go_roundw
        case rel => exact ⟨j + 1, by omega, by go_num, HS2.out, hbel2⟩
        case measure => simp [intOf]; omega
    · have hE : Ent.has l n d = false := by have := HH.out; rw [List.take_of_length_le (by rw [HI.out.len]; omega)] at this; exact this
      have HE := Lib.hid hE
      clear hE
      go_wp2_with fail
      go_ret
      exact ⟨by rw [HE.out]; rfl, HBE.out⟩
theorem get_first {l : List Ent} {j : Nat} (hj : j < l.length) {n d : Int} (h0 : Ent.has (l.take j) n d = false) (h : (Ent.at_ l j).n = n ∧ (Ent.at_ l j).d = d) : Ent.get l n d = (Ent.at_ l j).t := by
  have h1 : (l.take j).find? (fun x => x.n == n && x.d == d) = none := by
    rw [List.find?_eq_none]
    intro x hx hc
    simp only [Bool.and_eq_true, beq_iff_eq] at hc
    rw [Ent.has_iff.2 ⟨x, hx, hc.1, hc.2⟩] at h0
    cases h0
  have e : l = l.take j ++ (Ent.at_ l j :: l.drop (j + 1)) := by
    rw [← List.singleton_append, ← List.append_assoc, ← Ent.take_at hj, List.take_append_drop]
  unfold Ent.get
  rw [e, List.find?_append, h1]
  rw [← e]
  simp [h.1, h.2]
set_option maxHeartbeats 2000000 in
theorem ref26_Get (l : List Ent) (n d : Int) (a : Option Addr) (m c : Nat) (w : World) (F : Nat → Prop) (hI : IsE w F a m c l) (hm : m ≤ 1048576) :
    Calls Try.prog 14 #[.slice a m c, .agg #[.int .i64 n, .int .i64 d]] w fun r w' => ∃ k nn a' m' c', r = .returned (.tuple #[.agg #[.int .i64 k, .int .i64 nn, .slice a' m' c'], .bool (Ent.has l n d)]) ∧ IsT w' F k nn a' m' c' (Ent.get l n d) ∧ Below w.heap.size w w' := by
  obtain ⟨W0, hW0, hb0, x0, x1⟩ := two_boxesS w #[.int .i64 n, .int .i64 d] #[.int .i64 0, .int .i64 0, .slice none 0 0] 24 34
  have HI := Lib.hid (hI.inn.below hb0)
  have HB0 := Lib.hid hb0
  have D0 : W0.cell? ⟨w.heap.size, 0, none⟩ = some (.int .i64 n) := block_cell x0 0
  have D1 : W0.cell? ⟨w.heap.size, 1, none⟩ = some (.int .i64 d) := block_cell x0 1
  have hlt0 := block_lt x0
  have hlt1 := block_lt x1
  have HX1 := Lib.hid x1
  clear hI hb0 x0 x1
  go_enter Try.func14, Try.ntmps14
  go_wp2_with fail
  go_loopw [6] (fun i wr => ∃ j : Nat, j ≤ m ∧ i = .int .i64 j ∧ Hid (Ent.has (l.take j) n d = false) ∧ Below W0.heap.size W0 wr) (fun i _ => m - (intOf i).toNat)
  case atStart => exact ⟨0, Nat.zero_le _, rfl, rfl, Below.refl _ _⟩
  case round =>
    obtain ⟨j, hj, rfl, HH, hbel⟩ := hrel
    have E0 := (hbel.cell (p := ⟨w.heap.size, 0, none⟩) hlt0).trans D0
    have E1 := (hbel.cell (p := ⟨w.heap.size, 1, none⟩) hlt0).trans D1
    have HBE := Lib.hid (chain HB0.out hbel)
    have x2 := (hbel.block _ hlt1).trans HX1.out
    have HX2 := Lib.hid x2
    by_cases hlt : j < m
    · obtain ⟨b, off, k', n', a', m', c', rfl, hF, hbl, ⟨h0, h1, h2, h3, h4⟩, hT'⟩ := (HI.out.below hbel).at_ j hlt
      have hjl : j < l.length := by rw [HI.out.len]; exact hlt
      have HTR := Lib.hid hT'
      obtain ⟨x0, hx0⟩ : ∃ x, (Ent.at_ l j).n = x := ⟨_, rfl⟩
      obtain ⟨x1, hx1⟩ : ∃ x, (Ent.at_ l j).d = x := ⟨_, rfl⟩
      rw [hx0] at h0
      rw [hx1] at h1
      have HS : Hid (Ent.has (l.take (j + 1)) n d = (x0 == n && x1 == d)) := by unfold Hid; rw [Ent.take_at hjl, has_snoc, HH.out, hx0, hx1, Bool.false_or]
      have HT : Hid (x0 = n ∧ x1 = d → Ent.has l n d = true ∧ Ent.get l n d = (Ent.at_ l j).t) := fun e => ⟨has_here hjl (by rw [hx0, hx1]; exact e), get_first hjl HH.out (by rw [hx0, hx1]; exact e)⟩
      have hkg := key_guard
      obtain ⟨BB, hBB⟩ : ∃ BB, (x0 == n && x1 == d) = BB := ⟨_, rfl⟩
      have hke : ∀ W, (Op.equalIn 10000 24 (.agg #[.int .i64 x0, .int .i64 x1]) (.agg #[.int .i64 n, .int .i64 d])).run Try.prog W = .ok BB W := fun W => by rw [key_same, hBB]
      have HBB := Lib.hid hBB
      clear hT' hx0 hx1 hF hBB x2
      go_wp2_with fail
      go_quiet (fail)
      cases BB with
      | true =>
        have hbb : x0 = n ∧ x1 = d := by have := HBB.out; rwa [Bool.and_eq_true, beq_iff_eq, beq_iff_eq] at this
        have HT2 := Lib.hid (HT.out hbb)
        obtain ⟨w1, hw1⟩ : ∃ w1, wr.drewN nq = w1 := ⟨_, rfl⟩
        have hbw : Below wr.heap.size wr w1 := by rw [← hw1]; exact below_drewN (Below.refl _ _) nq
        have HBE2 := Lib.hid (chain HBE.out hbw)
        have hx3 := (hbw.block _ (block_lt HX2.out)).trans HX2.out
        have HX3 := Lib.hid hx3
        have HTR2 := Lib.hid (HTR.out.below hbw)
        have f0 := block_free hx3 0
        have f1 := block_free hx3 1
        have f2 := block_free hx3 2
        have g0 := block_cell hx3 0
        have g1 := block_cell hx3 1
        have g2 := block_cell hx3 2
        simp at g0 g1 g2
        obtain ⟨r0, r1, r2, r3, r4⟩ := five_at ⟨h0, h1, h2, h3, h4⟩ hbw
        rw [hw1]
        clear hke hbb h0 h1 h2 h3 h4 E0 E1 hbw hx3 hw1 HTR HX2 HBE
        go_wp2_with fail
        obtain ⟨w3, hw3, hbl, hfar, hb3⟩ := three_set (.int .i64 k') (.int .i64 n') (.slice a' m' c') HX3.out HBE2.out (by omega)
        rw [hw3]
        have hT3 : IsT w3 F k' n' a' m' c' (Ent.get l n d) := by
          rw [HT2.out.2]
          exact (HTR2.out.stay fun b hb _ => hfar b (by have := hb.2; omega)).mono fun b hb => hb.1
        have r0 := block_cell hbl 0
        have r1 := block_cell hbl 1
        have r2 := block_cell hbl 2
        simp at r0 r1 r2
        refine bodyPost_ret (v := .tuple #[.agg #[.int .i64 k', .int .i64 n', .slice a' m' c'], .bool true]) (by simp [results, Try.results14, go_sem, r0, r1, r2]) rfl ⟨k', n', a', m', c', by rw [HT2.out.1], hT3, hb3⟩
      | false =>
        have HS2 : Hid (Ent.has (l.take (j + 1)) n d = false) := HS.out.trans HBB.out
        have hbel2 : Below W0.heap.size W0 (wr.drewN nq) := below_drewN hbel nq
        clear hke h0 h1 E0 E1 hbel
        go_wp2_with fail
        go_roundw
        case rel => exact ⟨j + 1, by omega, by go_num, HS2.out, hbel2⟩
        case measure => simp [intOf]; omega
    · have hE : Ent.has l n d = false := by have := HH.out; rw [List.take_of_length_le (by rw [HI.out.len]; omega)] at this; exact this
      have HE := Lib.hid hE
      have f0 := block_free x2 0
      have f1 := block_free x2 1
      have f2 := block_free x2 2
      have g0 := block_cell x2 0
      have g1 := block_cell x2 1
      have g2 := block_cell x2 2
      simp at g0 g1 g2
      clear hE x2
      go_wp2_with fail
      obtain ⟨w3, hw3, hbl, hfar, hb3⟩ := three_set (.int .i64 0) (.int .i64 0) (.slice none 0 0) HX2.out HBE.out (by omega)
      rw [hw3]
      have r0 := block_cell hbl 0
      have r1 := block_cell hbl 1
      have r2 := block_cell hbl 2
      simp at r0 r1 r2
      refine bodyPost_ret (v := .tuple #[.agg #[.int .i64 0, .int .i64 0, .slice none 0 0], .bool false]) (by simp [results, Try.results14, go_sem, r0, r1, r2]) rfl ⟨0, 0, none, 0, 0, by rw [HE.out], by rw [get_no HE.out]; exact zero_isW _ _, hb3⟩
end Go.Proofs.Ytonffapiamhdbaa

namespace Go.Proofs.Ytonffapiamhdbaa
open Go.RowKit
set_option linter.unusedVariables false
set_option linter.unusedSimpArgs false
set_option maxRecDepth 100000
set_option maxRecDepth 20000
theorem wmap_Len (B p mb : Nat) (l : List Ent) (w : World) (h : IsM w (fun b => B ≤ b) p mb l) (hB : B ≤ w.heap.size) (hz : entNodes l ≤ 1048576) :
    Calls Try.prog 12 #[.pointer (some ⟨p, 0, none⟩)] w fun e w' => e = .returned (.int .i64 l.length) ∧ Below w.heap.size w w' := by
  have CE := Lib.hid (wmap_Entries B p mb l w h hB hz)
  clear h hz
  go_enter Try.func12, Try.ntmps12
  go_wp2_with fail
  refine CE.out.mono ?_; rintro x w1 ⟨a, m, c, rfl, hE, hb⟩
  have hm : l.length = m := by rw [← hE.len, Ent.sortR_len]; simp
  have HM := Lib.hid hm
  have HB := Lib.hid hb
  clear hE hb hm
  go_wp2_with fail
  go_ret
  exact ⟨by rw [HM.out]; rfl, HB.out⟩
theorem nil_Put (x y k n : Int) (a : Option Addr) (m c : Nat) (w : World) :
    Calls Try.prog 9 #[.pointer none, .agg #[.int .i64 x, .int .i64 y, .int .i64 k, .int .i64 n, .slice a m c]] w fun e w' => e = .returned (.tuple #[.bool false, .int .i64 1]) ∧ Below w.heap.size w w' := by
  obtain ⟨W1, hW1, hbW, p0, p1, p2, p3, p4⟩ := box_below w x y k n a m c
  have HB := Lib.hid hbW
  clear hbW
  go_enter Try.func9, Try.ntmps9
  go_wp2_with fail
  go_ret2
  exact ⟨rfl, HB.out⟩
theorem nil_Merge (v : Value) (w : World) :
    Calls Try.prog 19 #[.pointer none, v] w fun e w' => e = .returned (.tuple #[.int .i64 0, .int .i64 1]) ∧ Below w.heap.size w w' := by
  go_enter Try.func19, Try.ntmps19
  go_wp2_with fail
  go_ret2
  exact ⟨rfl, Below.refl _ _⟩
theorem nil_Entries (w : World) :
    Calls Try.prog 17 #[.pointer none] w fun e w' => e = .returned (.slice none 0 0) ∧ Below w.heap.size w w' := by
  go_enter Try.func17, Try.ntmps17
  go_wp2_with fail
  go_ret
  exact ⟨rfl, Below.refl _ _⟩
theorem nil_Len (w : World) :
    Calls Try.prog 12 #[.pointer none] w fun e w' => e = .returned (.int .i64 0) ∧ Below w.heap.size w w' := by
  go_enter Try.func12, Try.ntmps12
  go_wp2_with fail
  refine (nil_Entries _).mono ?_; rintro x w1 ⟨rfl, hb⟩
  have HB := Lib.hid hb
  clear hb
  go_wp2_with fail
  go_ret
  exact ⟨rfl, HB.out⟩
theorem nil_Get (n d : Int) (w : World) :
    Calls Try.prog 13 #[.pointer none, .agg #[.int .i64 n, .int .i64 d]] w fun e w' => e = .returned (.tuple #[.agg #[.int .i64 0, .int .i64 0, .slice none 0 0], .bool false]) ∧ Below w.heap.size w w' := by
  obtain ⟨W0, hW0, hb0, x0, x1⟩ := two_boxesS w #[.int .i64 n, .int .i64 d] #[.int .i64 0, .int .i64 0, .slice none 0 0] 24 34
  have HB := Lib.hid hb0
  have HX := Lib.hid x1
  have f0 := block_free x1 0
  have f1 := block_free x1 1
  have f2 := block_free x1 2
  have g0 := block_cell x1 0
  have g1 := block_cell x1 1
  have g2 := block_cell x1 2
  simp at g0 g1 g2
  clear hb0 x0 x1
  go_enter Try.func13, Try.ntmps13
  go_wp2_with fail
  obtain ⟨w3, hw3, hbl, hfar, hb3⟩ := three_set (.int .i64 0) (.int .i64 0) (.slice none 0 0) HX.out HB.out (by omega)
  rw [hw3]
  have r0 := block_cell hbl 0
  have r1 := block_cell hbl 1
  have r2 := block_cell hbl 2
  simp at r0 r1 r2
  refine bodyPost_ret (v := .tuple #[.agg #[.int .i64 0, .int .i64 0, .slice none 0 0], .bool false]) (by simp [results, Try.results13, go_sem, r0, r1, r2]) rfl ⟨rfl, hb3⟩
end Go.Proofs.Ytonffapiamhdbaa

namespace Go.Proofs.Ytonffapiamhdbaa
open Go.RowKit
set_option linter.unusedVariables false
set_option linter.unusedSimpArgs false
set_option maxRecDepth 100000
set_option maxRecDepth 20000
set_option maxHeartbeats 2000000 in
theorem ref24_Much (l : List Ent) (a : Option Addr) (m c : Nat) (w : World) (F : Nat → Prop) (hI : IsE w F a m c l) (hz : entNodes l ≤ 1048576) :
    Calls Try.prog 6 #[.slice a m c] w fun r w' => ∃ b, r = .returned (.bool b) ∧ Hid (b = false → m ≤ 30 ∧ ∀ x ∈ l, x.t.size ≤ 80) ∧ Below w.heap.size w w' := by
  have HI := Lib.hid hI
  have HZ := Lib.hid hz
  have hm : m ≤ 1048576 := by have := entNodes_len l; rw [← hI.len]; omega
  clear hI hz
  go_enter Try.func6, Try.ntmps6
  go_wp2_with fail
  go_loopw [3] (fun i wr => ∃ j : Nat, j ≤ m ∧ j ≤ 40 ∧ i = .int .i64 j ∧ Hid (∀ x ∈ l.take j, x.t.size ≤ 80) ∧ Below w.heap.size w wr) (fun i _ => m - (intOf i).toNat)
  case atStart => exact ⟨0, Nat.zero_le _, by omega, rfl, fun x hx => by simp at hx, Below.refl _ _⟩
  case round =>
    obtain ⟨j, hj, hj4, rfl, HH, hbel⟩ := hrel
    have HBE := Lib.hid hbel
    by_cases hlt : j < m
    · by_cases h40 : j < 40
      · obtain ⟨b, off, k', n', a', m', c', rfl, hF, hbl, ⟨h0, h1, h2, h3, h4⟩, hT'⟩ := (HI.out.below hbel).at_ j hlt
        have hjl : j < l.length := by rw [HI.out.len]; exact hlt
        have hsz1 : (Ent.at_ l j).t.size ≤ 4194304 := by have := entNodes_mem (Ent.at_mem hjl); have := HZ.out; omega
        have CM := Lib.hid (ref_Much (Ent.at_ l j).t k' n' a' m' c' wr wr.heap.size hsz1 hT'.lt (Nat.le_refl _))
        obtain ⟨bb, hbb⟩ : ∃ bb, decide (80 < (Ent.at_ l j).t.size) = bb := ⟨_, rfl⟩
        rw [hbb] at CM
        have HS : Hid (bb = false → ∀ x ∈ l.take (j + 1), x.t.size ≤ 80) := by
          intro e x hx
          rw [Ent.take_at hjl] at hx
          rcases List.mem_append.1 hx with hx | hx
          · exact HH.out x hx
          · rw [List.mem_singleton] at hx
            rw [e] at hbb
            have := of_decide_eq_false hbb
            rw [hx]; omega
        clear hT' hsz1 hbb hF h0 h1 hbel
        go_wp2_with fail
        refine CM.out.mono ?_; rintro rr w1 ⟨rfl, hb1⟩
        have hbel1 := chain HBE.out hb1
        have HB1 := Lib.hid hbel1
        clear hb1 h2 h3 h4
        cases bb with
        | true =>
          clear hbel1
          go_wp2_with fail
          go_ret
          exact ⟨true, rfl, (fun e => by cases e), HB1.out⟩
        | false =>
          have HS2 := Lib.hid (HS.out rfl)
          go_wp2_with fail
          go_roundw
          case rel => exact ⟨j + 1, by omega, by omega, by go_num, HS2.out, HB1.out⟩
          case measure => simp [intOf]; omega
      · have HA : Hid (∀ bb, bb = decide ((30 : Int) < m) → (bb = false → m ≤ 30 ∧ ∀ x ∈ l, x.t.size ≤ 80)) := fun bb hb e => by
          rw [hb] at e
          have := of_decide_eq_false e
          omega
        go_wp2_with fail
        all_goals
          go_ret
          exact ⟨_, rfl, HA.out _ (by first | rfl | (simp; omega)), HBE.out⟩
    · have hE : l.take j = l := List.take_of_length_le (by rw [HI.out.len]; omega)
      have HA : Hid (∀ bb, bb = decide ((30 : Int) < m) → (bb = false → m ≤ 30 ∧ ∀ x ∈ l, x.t.size ≤ 80)) := fun bb hb e => by
        rw [hb] at e
        have := of_decide_eq_false e
        exact ⟨by omega, fun x hx => HH.out x (by rw [hE]; exact hx)⟩
      clear hE
      go_wp2_with fail
      all_goals
        go_ret
        exact ⟨_, rfl, HA.out _ (by first | rfl | (simp; omega)), HBE.out⟩
theorem Tr.cmpL_me (ts : List Tr) (h : ∀ t ∈ ts, Tr.cmp t t = 0) : Tr.cmpL ts ts = 0 := by
  induction ts with
  | nil => simp [Tr.cmpL]
  | cons t ts ih =>
    simp only [Tr.cmpL]
    rw [h t (by simp), ih (fun u hu => h u (by simp [hu]))]
    rfl
theorem Tr.cmp_me' (N : Nat) : ∀ t : Tr, t.size ≤ N → Tr.cmp t t = 0 := by
  induction N with
  | zero => intro t h; have := Tr.size_pos t; omega
  | succ N ih =>
    intro t h
    rw [Tr.cmp_kids, cmpI_eq rfl, cmpI_eq rfl, cmpI_eq rfl, Tr.cmpL_me _ fun u hu => ih u (by have := Tr.size_mem hu; rw [Tr.size_kids] at h; omega)]
    rfl
theorem Tr.cmp_me (t : Tr) : Tr.cmp t t = 0 := Tr.cmp_me' _ t (Nat.le_refl _)
theorem ref24_Same (e : Ent) (k n : Int) (a : Option Addr) (m c : Nat) (k' n' : Int) (a' : Option Addr) (m' c' : Nat) (w : World) (F G : Nat → Prop) (hs : e.t.size ≤ 4194304) (hT : IsT w F k n a m c e.t) (hU : IsT w G k' n' a' m' c' e.t) :
    Calls Try.prog 28 #[.agg #[.int .i64 e.n, .int .i64 e.d, .int .i64 k, .int .i64 n, .slice a m c], .agg #[.int .i64 e.n, .int .i64 e.d, .int .i64 k', .int .i64 n', .slice a' m' c']] w fun r w' => r = .returned (.bool true) ∧ Below w.heap.size w w' := by
  obtain ⟨W0, hW0, hb0, x0, x1⟩ := two_boxesS w #[.int .i64 e.n, .int .i64 e.d, .int .i64 k, .int .i64 n, .slice a m c] #[.int .i64 e.n, .int .i64 e.d, .int .i64 k', .int .i64 n', .slice a' m' c'] 36 36
  have CS := Lib.hid (ref13_Same e.t e.t k n a m c k' n' a' m' c' W0 F G hs hs (hT.below hb0) (hU.below hb0))
  have hz : decide (Tr.cmp e.t e.t = 0) = true := by rw [Tr.cmp_me]; rfl
  rw [hz] at CS
  have HB0 := Lib.hid hb0
  have p0 := block_cell x0 0
  have p1 := block_cell x0 1
  have p2 := block_cell x0 2
  have p3 := block_cell x0 3
  have p4 := block_cell x0 4
  have q0 := block_cell x1 0
  have q1 := block_cell x1 1
  have q2 := block_cell x1 2
  have q3 := block_cell x1 3
  have q4 := block_cell x1 4
  simp at p0 p1 p2 p3 p4 q0 q1 q2 q3 q4
  obtain ⟨y0, hy0⟩ : ∃ y0, e.n = y0 := ⟨_, rfl⟩
  obtain ⟨y1, hy1⟩ : ∃ y1, e.d = y1 := ⟨_, rfl⟩
  rw [hy0] at p0 q0 hW0 ⊢
  rw [hy1] at p1 q1 hW0 ⊢
  have hkg := key_guard
  have hke : ∀ W, (Op.equalIn 10000 24 (.agg #[.int .i64 y0, .int .i64 y1]) (.agg #[.int .i64 y0, .int .i64 y1])).run Try.prog W = .ok true W := fun W => by rw [key_same]; simp
  clear hs hT hU hb0 x0 x1 hz hy0 hy1
  go_enter Try.func28, Try.ntmps28
  go_wp2_with fail
  refine CS.out.mono ?_; rintro r w1 ⟨rfl, hb1⟩
  have HB1 := Lib.hid (chain HB0.out hb1)
  clear hb1 p0 p1 p2 p3 p4 q0 q1 q2 q3 q4
  go_wp2_with fail
  go_ret
  exact ⟨rfl, HB1.out⟩
set_option maxHeartbeats 2000000 in
theorem ref24_All (l : List Ent) (a : Option Addr) (m c : Nat) (a' : Option Addr) (m' c' : Nat) (w : World) (F G : Nat → Prop) (hI : IsE w F a m c l) (hJ : IsE w G a' m' c' l) (hz : entNodes l ≤ 1048576) :
    Calls Try.prog 16 #[.slice a m c, .slice a' m' c'] w fun r w' => r = .returned (.bool true) ∧ Below w.heap.size w w' := by
  obtain rfl : m' = m := by rw [← hI.len, ← hJ.len]
  have HI := Lib.hid hI
  have HJ := Lib.hid hJ
  have HZ := Lib.hid hz
  have hm : m' ≤ 1048576 := by have := entNodes_len l; rw [← hI.len]; omega
  clear hI hJ hz
  go_enter Try.func16, Try.ntmps16
  go_wp2_with fail
  go_loopw [5] (fun i wr => ∃ j : Nat, j ≤ m' ∧ i = .int .i64 j ∧ Below w.heap.size w wr) (fun i _ => m' - (intOf i).toNat)
  case atStart => exact ⟨0, Nat.zero_le _, rfl, Below.refl _ _⟩
  case round =>
    obtain ⟨j, hj, rfl, hbel⟩ := hrel
    have HBE := Lib.hid hbel
    by_cases hlt : j < m'
    · obtain ⟨b, off, k1, n1, a1, m1, c1, rfl, hF, hbl, ⟨h0, h1, h2, h3, h4⟩, hT'⟩ := (HI.out.below hbel).at_ j hlt
      obtain ⟨b', off', k2, n2, a2, m2, c2, rfl, hF', hbl', ⟨g0, g1, g2, g3, g4⟩, hU'⟩ := (HJ.out.below hbel).at_ j hlt
      have hjl : j < l.length := by rw [HI.out.len]; exact hlt
      have hsz1 : (Ent.at_ l j).t.size ≤ 4194304 := by have := entNodes_mem (Ent.at_mem hjl); have := HZ.out; omega
      have CS : Hid (∀ W, Below wr.heap.size wr W → Calls Try.prog 28 #[.agg #[.int .i64 (Ent.at_ l j).n, .int .i64 (Ent.at_ l j).d, .int .i64 k1, .int .i64 n1, .slice a1 m1 c1], .agg #[.int .i64 (Ent.at_ l j).n, .int .i64 (Ent.at_ l j).d, .int .i64 k2, .int .i64 n2, .slice a2 m2 c2]] W fun r w' => r = .returned (.bool true) ∧ Below W.heap.size W w') := fun W hb => ref24_Same (Ent.at_ l j) k1 n1 a1 m1 c1 k2 n2 a2 m2 c2 W F G hsz1 (hT'.below hb) (hU'.below hb)
      obtain ⟨y0, hy0⟩ : ∃ y0, (Ent.at_ l j).n = y0 := ⟨_, rfl⟩
      obtain ⟨y1, hy1⟩ : ∃ y1, (Ent.at_ l j).d = y1 := ⟨_, rfl⟩
      rw [hy0, hy1] at CS
      rw [hy0] at h0 g0
      rw [hy1] at h1 g1
      clear hT' hU' hsz1 hF hF' hbel hy0 hy1
      go_wp2_with fail
      go_region_law ((go_simp; go_at_call 28; refine (CS.out _ (Below.refl _ _).drew).mono ?_; rintro rr w1 ⟨rfl, hb1⟩))
      all_goals
        have HB1 := Lib.hid (chain HBE.out (chain (Below.refl _ _).drew hb1))
        have hbel := HB1.out
        clear hb1 h0 h1 h2 h3 h4 g0 g1 g2 g3 g4
        go_wp2_with fail
        go_roundw
        case rel => exact ⟨j + 1, by omega, by go_num, HB1.out⟩
        case measure => simp [intOf]; omega
    · go_wp2_with fail
      go_ret
      exact ⟨rfl, HBE.out⟩
theorem ref24_Ahead (x y : Ent) (w : World) :
    Calls Try.prog 30 #[.agg #[.int .i64 x.n, .int .i64 x.d], .agg #[.int .i64 y.n, .int .i64 y.d]] w fun r w' => r = .returned (.bool (decide (Ent.Ahead x y))) ∧ Below w.heap.size w w' := by
  obtain ⟨W0, hW0, hb0, x0, x1⟩ := two_boxesS w #[.int .i64 x.n, .int .i64 x.d] #[.int .i64 y.n, .int .i64 y.d] 24 24
  have HA : Hid (∀ b, (b = true ↔ x.n < y.n ∨ x.n = y.n ∧ x.d < y.d) → decide (Ent.Ahead x y) = b) := fun b hb => by
    cases b with
    | true => rw [decide_eq_true_iff]; exact hb.1 rfl
    | false => rw [decide_eq_false_iff_not]; intro h; have := hb.2 h; cases this
  have HB0 := Lib.hid hb0
  obtain ⟨z, hz⟩ : ∃ z, decide (Ent.Ahead x y) = z := ⟨_, rfl⟩
  rw [hz] at HA ⊢
  obtain ⟨x0', hx0⟩ : ∃ z, x.n = z := ⟨_, rfl⟩
  obtain ⟨x1', hx1⟩ : ∃ z, x.d = z := ⟨_, rfl⟩
  obtain ⟨y0', hy0⟩ : ∃ z, y.n = z := ⟨_, rfl⟩
  obtain ⟨y1', hy1⟩ : ∃ z, y.d = z := ⟨_, rfl⟩
  have p0 := block_cell x0 0
  have p1 := block_cell x0 1
  have q0 := block_cell x1 0
  have q1 := block_cell x1 1
  simp at p0 p1 q0 q1
  rw [hx0] at HA hW0 p0 ⊢
  rw [hx1] at HA hW0 p1 ⊢
  rw [hy0] at HA hW0 q0 ⊢
  rw [hy1] at HA hW0 q1 ⊢
  clear hb0 x0 x1 hz hx0 hx1 hy0 hy1
  go_enter Try.func30, Try.ntmps30
  by_cases c0 : x0' < y0'
  · have HZ := Lib.hid (HA.out true (by simp [c0]))
    go_wp2_with fail
    go_ret
    exact ⟨by rw [HZ.out]; rfl, HB0.out⟩
  · by_cases c1 : x0' = y0'
    · subst c1
      by_cases c2 : x1' < y1'
      · have HZ := Lib.hid (HA.out true (by simp [c2]))
        go_wp2_with fail
        go_ret
        exact ⟨by rw [HZ.out]; rfl, HB0.out⟩
      · have HZ := Lib.hid (HA.out false (by simp [c0, c2]))
        go_wp2_with fail
        go_ret
        exact ⟨by rw [HZ.out]; rfl, HB0.out⟩
    · have HZ := Lib.hid (HA.out false (by simp [c0, c1]))
      go_wp2_with fail
      go_ret
      exact ⟨by rw [HZ.out]; rfl, HB0.out⟩
end Go.Proofs.Ytonffapiamhdbaa

namespace Go.Proofs.Ytonffapiamhdbaa
open Go.RowKit
set_option linter.unusedVariables false
set_option linter.unusedSimpArgs false
set_option maxRecDepth 100000
set_option maxRecDepth 20000
/-- What is appended: a slice whose cells read as entries. -/
structure Src (w : World) (F : Nat → Prop) (b : Option Addr) (m c : Nat) (l : List Ent) : Prop where
  len : l.length = m
  cap : OkCap b m c
  cells : ∃ xs, CellsE w F xs l ∧ ∀ A, b = some A → ∀ j u, xs[j]? = some u → w.cell? (A.add j) = some u
theorem Src.mono {w : World} {F G : Nat → Prop} {b : Option Addr} {m c : Nat} {l : List Ent} (h : Src w F b m c l) (hs : ∀ y, F y → G y) : Src w G b m c l := by
  obtain ⟨xs, h1, h2⟩ := h.cells
  exact ⟨h.len, h.cap, xs, h1.mono hs, h2⟩
theorem Src.below {w w' : World} {F : Nat → Prop} {b : Option Addr} {m c : Nat} {l : List Ent} (h : Src w F b m c l) (hb : Below w.heap.size w w') : Src w' F b m c l := by
  obtain ⟨xs, h1, h2⟩ := h.cells
  exact ⟨h.len, h.cap, xs, h1.later hb, fun A hA j u hu => by have := h2 A hA j u hu; exact (hb.cell (World.block_lt_of_cell? w _ this)).trans this⟩
theorem five_get {x y z u v : Value} {r : Nat} {s : Value} (h : [x, y, z, u, v][r]? = some s) : (r = 0 ∧ s = x) ∨ (r = 1 ∧ s = y) ∨ (r = 2 ∧ s = z) ∨ (r = 3 ∧ s = u) ∨ (r = 4 ∧ s = v) := by
  match r, h with
  | 0, h => simp at h; simp [h]
  | 1, h => simp at h; simp [h]
  | 2, h => simp at h; simp [h]
  | 3, h => simp at h; simp [h]
  | 4, h => simp at h; simp [h]
theorem add_none (b o j : Nat) : (⟨b, o, none⟩ : Addr).add j = ⟨b, o + j, none⟩ := by
  unfold Addr.add
  split
  · simp_all
  · rfl
theorem IsE.src {w : World} {F : Nat → Prop} {a : Option Addr} {m c : Nat} {l : List Ent} (h : IsE w F a m c l) : Src w F a m c l := by
  refine ⟨h.len, h.cap, ?_⟩
  have : ∀ q, q ≤ m → ∃ xs, CellsE w F xs (l.take q) ∧ ∀ A, a = some A → ∀ j u, xs[j]? = some u → w.cell? (A.add j) = some u := by
    intro q
    induction q with
    | zero => intro _; exact ⟨[], .nil, fun A _ j u hu => by simp at hu⟩
    | succ q ih =>
      intro hq
      obtain ⟨xs, h1, h2⟩ := ih (by omega)
      obtain ⟨b, off, k, n, a', m', c', rfl, _, _, ⟨g0, g1, g2, g3, g4⟩, hT⟩ := h.at_ q (by omega)
      have hql : q < l.length := by rw [h.len]; omega
      refine ⟨xs ++ [.int .i64 (Ent.at_ l q).n, .int .i64 (Ent.at_ l q).d, .int .i64 k, .int .i64 n, .slice a' m' c'], by rw [Ent.take_at hql]; exact h1.append (.cons hT (h.fit _ (Ent.at_mem hql)) .nil), fun A hA j u hu => ?_⟩
      have hxl : xs.length = q * 5 := by rw [h1.len, List.length_take]; congr 1; omega
      by_cases hj : j < xs.length
      · rw [List.getElem?_append_left hj] at hu
        exact h2 A hA j u hu
      · rw [List.getElem?_append_right (by omega)] at hu
        injection hA with hA
        rw [← hA, add_none]
        rcases five_get hu with ⟨e, rfl⟩ | ⟨e, rfl⟩ | ⟨e, rfl⟩ | ⟨e, rfl⟩ | ⟨e, rfl⟩
        · rw [show off + j = off + q * 5 by omega]; exact g0
        · rw [show off + j = off + q * 5 + 1 by omega]; exact g1
        · rw [show off + j = off + q * 5 + 2 by omega]; exact g2
        · rw [show off + j = off + q * 5 + 3 by omega]; exact g3
        · rw [show off + j = off + q * 5 + 4 by omega]; exact g4
  obtain ⟨xs, h1, h2⟩ := this m (Nat.le_refl _)
  rw [List.take_of_length_le (by rw [h.len]; exact Nat.le_refl _)] at h1
  exact ⟨xs, h1, h2⟩
/-- One entry in a block of its own. -/
theorem Src.one {w : World} {F : Nat → Prop} {g : Nat} {T : TypeId} {k n : Int} {a : Option Addr} {m c : Nat} {e : Ent} (h : w.heap[g]? = some (.cells #[.int .i64 e.n, .int .i64 e.d, .int .i64 k, .int .i64 n, .slice a m c] T (0, 0))) (hT : IsT w F k n a m c e.t) (hf : fits .i64 e.n ∧ fits .i64 e.d) : Src w F (some ⟨g, 0, none⟩) 1 1 [e] :=
  ⟨rfl, ⟨Nat.le_refl _, fun h => by cases h⟩, _, .cons hT hf .nil, fun A hA j u hu => by injection hA with hA; rw [← hA]; exact World.news_of_block h j u hu⟩
/-- A row that a call owns, from block B on; what is below its entries lies in F. -/
def RowE (w : World) (B : Nat) (F : Nat → Prop) (v : Value) (l : List Ent) : Prop := ∃ xs, w.ownsRow B 36 5 v l.length xs ∧ CellsE w F xs l
theorem RowE.none (w : World) (B : Nat) (F : Nat → Prop) : RowE w B F (.slice none 0 0) [] := ⟨[], World.ownsRow_nil _ _ _ _, .nil⟩
theorem RowE.below {w w' : World} {B : Nat} {F : Nat → Prop} {v : Value} {l : List Ent} (h : RowE w B F v l) (hb : Below w.heap.size w w') : RowE w' B F v l := by
  obtain ⟨xs, h1, h2⟩ := h
  exact ⟨xs, own_later3 h1 hb, h2.later hb⟩
theorem RowE.zero (X : World) (B : Nat) (F : Nat → Prop) (g : Nat) (hg : X.heap.size = g) (hB : B ≤ g) : RowE (X.alloc (.cells #[] 36)) B F (.slice (some ⟨g, 0, Option.none⟩) 0 0) [] :=
  ⟨[], ⟨rfl, .inr ⟨g, 0, #[], rfl, hB, block_new hg.symm, Nat.le_refl _, by unfold maxLen; omega, rfl, rfl⟩⟩, .nil⟩
theorem RowE.alloc {w : World} {B : Nat} {F : Nat → Prop} {v : Value} {l : List Ent} (h : RowE w B F v l) (o : Obj) : RowE (w.alloc o) B F v l := h.below ((Below.refl _ _).alloc (Nat.le_refl _) _)
theorem RowE.drew {w : World} {B : Nat} {F : Nat → Prop} {v : Value} {l : List Ent} (h : RowE w B F v l) : RowE w.drew B F v l := h.below (Below.refl _ _).drew
theorem RowE.lt {w : World} {B : Nat} {F : Nat → Prop} {v : Value} {l : List Ent} (h : RowE w B F v l) {g : Nat} (hg : v.ownBlock = some g) : B ≤ g ∧ g < w.heap.size := by
  obtain ⟨xs, h1, _⟩ := h
  exact h1.lt g hg
theorem RowE.is {w : World} {B : Nat} {F G : Nat → Prop} {v : Value} {l : List Ent} (h : RowE w B F v l) (hF : ∀ b, F b → G b) (hG : ∀ b, B ≤ b → G b) : ∃ a c, v = .slice a l.length c ∧ IsE w G a l.length c l := by
  obtain ⟨xs, h1, h2⟩ := h
  obtain ⟨a, cap, rfl, _⟩ := own_slice2 h1
  exact ⟨a, cap, rfl, ents_of_own h1 h2 rfl hF (fun g hg => hG g (h1.lt g (by rw [hg]; rfl)).1)⟩
/-- append of entries to a row of the call's own. -/
theorem wp_joinE {o : Oper} {a : Act} {K : Act → World → Prop} {Q : Exit → Act → World → Prop} (s x : Operand)
    (ho : o.op = .call { callee := .builtin .append, args := #[s, x], argTypes := #[22, 22] })
    (w : World) (B : Nat) (F : Nat → Prop) (v : Value) (es l : List Ent) (b : Option Addr) (m c : Nat) (hs : a.eval s = v) (hx : a.eval x = .slice b m c) (hR : RowE w B F v es) (hS : Src w F b m c l) (hF : ∀ y, F y → y < B) (hlen : es.length + m ≤ 4000000) (hB : B ≤ w.heap.size)
    (h : ∀ v' w', RowE w' B F v' (es ++ l) → w.grownBy w' v.ownBlock → (v'.ownBlock = v.ownBlock ∨ v'.ownBlock = some w.heap.size) → (∀ g, v.ownBlock = some g → B ≤ g) → K (a.put o.dst v') w') : Oper.wp Try.prog o a w K Q := by
  obtain ⟨i0, hi, hz0, hz1, hz2⟩ := info_parts info_entry
  obtain ⟨xs, h1, h2⟩ := hR
  obtain ⟨hSl, hSc, ys, k1, k2⟩ := hS
  have hv : ∀ g, v.ownBlock = some g → B ≤ g := fun g hg => (h1.lt g hg).1
  have hkeep : ∀ w', w.grownBy w' v.ownBlock → ∀ zs l', CellsE w F zs l' → CellsE w' F zs l' := fun w' hg zs l' hz => hz.stay fun y hy hlt => hg.block y hlt (fun e => by have := hv y e.symm; have := hF y hy; omega)
  cases hb : b with
  | none =>
    have hm : m = 0 := by have := hSc.2 hb; have := hSc.1; omega
    have hl0 : l = [] := List.eq_nil_of_length_eq_zero (by omega)
    have hc : c = 0 := hSc.2 hb
    have hrun := run_append_owned_none (P := Try.prog) (w := w) B 22 o.type 36 i0 5 Try.underlying22 hi v es.length xs h1
    have hx' : a.eval x = .slice Option.none 0 0 := by rw [hx, hb, hm, hc]
    unfold Oper.wp
    simp [execOp, ho, resolve, invoke, builtin, hs, hx', hrun, Result.andThen]
    refine h v w ⟨xs, ?_, ?_⟩ (World.grownBy.refl w _) (.inl rfl) hv
    · rw [hl0, List.append_nil]; exact h1
    · rw [hl0, List.append_nil]; exact h2
  | some ad =>
    have hyl : ys.length = m * 5 := by rw [k1.len, hSl]
    obtain ⟨v', w', hr, g2, g3, _, g5⟩ := run_append_own_at (P := Try.prog) w B 22 o.type 36 i0 _ 5 56 Try.underlying22 hi hz0 hz1 hz2 rfl (by omega) v es.length xs h1 ad m c ys hyl (fun j u hu => k2 ad hb j u hu) k1.oneCell (by unfold maxLen; omega) (by omega) hB
    have hx' : a.eval x = .slice (some ad) m c := by rw [hx, hb]
    unfold Oper.wp execOp
    simp only [ho, resolve, invoke, builtin, Sem.run_bind, Sem.run_pure, Result.andThen_ok, List.map_toArray, List.map_cons, List.map_nil, hs, hx', hr]
    exact h v' w' ⟨xs ++ ys, by rw [List.length_append, hSl]; exact g2, (hkeep w' g3 _ _ h2).append (hkeep w' g3 _ _ k1)⟩ g3 g5 hv
/-- At a step of a region that draws. -/
theorem step_joinE {ops : Array Oper} {o : Oper} {a : Act} {K : Act → World → Prop} {Q : Exit → Act → World → Prop} {E : Prop} (hgd : o.guard = none) (s x : Operand)
    (ho : o.op = .call { callee := .builtin .append, args := #[s, x], argTypes := #[22, 22] })
    (w : World) (B : Nat) (F : Nat → Prop) (v : Value) (es l : List Ent) (b : Option Addr) (m c : Nat) (hs : a.eval s = v) (hx : a.eval x = .slice b m c) (hR : RowE w B F v es) (hS : Src w F b m c l) (hF : ∀ y, F y → y < B) (hlen : es.length + m ≤ 4000000) (hB : B ≤ w.heap.size)
    (h : ∀ v' w', RowE w' B F v' (es ++ l) → w.grownBy w' v.ownBlock → (v'.ownBlock = v.ownBlock ∨ v'.ownBlock = some w.heap.size) → (∀ g, v.ownBlock = some g → B ≤ g) → K (a.put o.dst v') w') :
    if Region.wanted o (yielded ops a.tmps) = true then Oper.wp Try.prog o a w K Q else E := by
  have hw : Region.wanted o (yielded ops a.tmps) = true := by simp [Region.wanted, hgd]
  rw [if_pos hw]
  exact wp_joinE s x ho w B F v es l b m c hs hx hR hS hF hlen hB h
end Go.Proofs.Ytonffapiamhdbaa

namespace Go.Proofs.Ytonffapiamhdbaa
open Go.RowKit
set_option linter.unusedVariables false
set_option linter.unusedSimpArgs false
set_option maxRecDepth 100000
set_option maxRecDepth 20000
set_option maxHeartbeats 4000000 in
theorem ref26_Put_no (l : List Ent) (e : Ent) (a : Option Addr) (m c : Nat) (k n : Int) (a' : Option Addr) (m' c' : Nat) (w : World) (F : Nat → Prop) (hI : IsE w F a m c l) (hT : IsT w F k n a' m' c' e.t) (hf : fits .i64 e.n ∧ fits .i64 e.d) (hm : m ≤ 1048576) (hF : ∀ b, w.heap.size ≤ b → F b) (hh : Ent.has l e.n e.d = false) :
    Calls Try.prog 11 #[.slice a m c, .agg #[.int .i64 e.n, .int .i64 e.d, .int .i64 k, .int .i64 n, .slice a' m' c']] w fun r w' => ∃ a2 m2 c2, r = .returned (.tuple #[.slice a2 m2 c2, .bool true]) ∧ IsE w' F a2 m2 c2 (l ++ [e]) ∧ Below w.heap.size w w' := by
  obtain ⟨W1, hW1, hbW, p0, p1, p2, p3, p4⟩ := box_below w e.n e.d k n a' m' c'
  have HC := Lib.hid (ref25_Has l e.n e.d a m c W1 F (hI.below hbW) hm)
  rw [hh] at HC
  have HI := Lib.hid hI
  have HT := Lib.hid hT
  have HB0 := Lib.hid hbW
  have HFT := Lib.hid hf
  clear hI hT hbW hh hf
  go_enter Try.func11, Try.ntmps11
  go_wp2_with fail
  refine HC.out.mono ?_; rintro r w1 ⟨rfl, hb1⟩
  have hc0 := five_at ⟨p0, p1, p2, p3, p4⟩ hb1
  have HB1 := Lib.hid (chain HB0.out hb1)
  have hs1 := HB1.out.size
  have HSL : Hid (Src w1 (fun b => F b ∧ b < w.heap.size) a m c l) := (HI.out.inn.below HB1.out).src
  have HTE : Hid (IsT w1 (fun b => F b ∧ b < w.heap.size) k n a' m' c' e.t) := HT.out.inn.below HB1.out
  have hFB : ∀ y, (F y ∧ y < w.heap.size) → y < w1.heap.size := fun y hy => by have := hy.2; omega
  have hlen : l.length = m := HI.out.len
  clear hb1 p0 p1 p2 p3 p4
  go_wp2_with fail
  go_region_held3 (fun w' => w'.cell? ⟨w.heap.size, 0, none⟩ = some (.int .i64 e.n) ∧ w'.cell? ⟨w.heap.size, 1, none⟩ = some (.int .i64 e.d) ∧ w'.cell? ⟨w.heap.size, 2, none⟩ = some (.int .i64 k) ∧ w'.cell? ⟨w.heap.size, 3, none⟩ = some (.int .i64 n) ∧ w'.cell? ⟨w.heap.size, 4, none⟩ = some (.slice a' m' c')) (exact five_at hc0 (by first | exact (Below.refl _ _).drew | exact ((Below.refl _ _).alloc (by first | exact Nat.le_refl _ | (simp; done) | (simp; omega) | omega) _).drew | exact (((Below.refl _ _).alloc (by first | exact Nat.le_refl _ | (simp; done) | (simp; omega) | omega) _).alloc (by first | exact Nat.le_refl _ | (simp; done) | (simp; omega) | omega) _).drew | exact ((Below.refl _ _).drew).alloc (by first | exact Nat.le_refl _ | (simp; done) | (simp; omega) | omega) _ | exact (((Below.refl _ _).drew).alloc (by first | exact Nat.le_refl _ | (simp; done) | (simp; omega) | omega) _).alloc (by first | exact Nat.le_refl _ | (simp; done) | (simp; omega) | omega) _ | exact hbw2 | exact hbw2.alloc (by first | exact Nat.le_refl _ | (simp; done) | (simp; omega) | omega) _ | exact hbw3)) (first
    | (refine step_joinE (by rfl) _ _ (by rfl) _ w1.heap.size _ _ [] l _ _ _ (by rfl) (by rfl) (by first | exact (RowE.zero _ _ _ _ (by first | rfl | simp) (by first | exact Nat.le_refl _ | (simp; done) | (simp; omega) | omega)).drew | exact ((RowE.zero _ _ _ _ (by first | rfl | simp) (by first | exact Nat.le_refl _ | (simp; done) | (simp; omega) | omega)).alloc _).drew | exact RowE.zero _ _ _ _ (by first | rfl | simp) (by first | exact Nat.le_refl _ | (simp; done) | (simp; omega) | omega) | exact (RowE.zero _ _ _ _ (by first | rfl | simp) (by first | exact Nat.le_refl _ | (simp; done) | (simp; omega) | omega)).alloc _) (HSL.out.below (by first | exact (Below.refl _ _).drew | exact ((Below.refl _ _).alloc (by first | exact Nat.le_refl _ | (simp; done) | (simp; omega) | omega) _).drew | exact (((Below.refl _ _).alloc (by first | exact Nat.le_refl _ | (simp; done) | (simp; omega) | omega) _).alloc (by first | exact Nat.le_refl _ | (simp; done) | (simp; omega) | omega) _).drew | exact ((Below.refl _ _).drew).alloc (by first | exact Nat.le_refl _ | (simp; done) | (simp; omega) | omega) _ | exact (((Below.refl _ _).drew).alloc (by first | exact Nat.le_refl _ | (simp; done) | (simp; omega) | omega) _).alloc (by first | exact Nat.le_refl _ | (simp; done) | (simp; omega) | omega) _ | exact hbw2 | exact hbw2.alloc (by first | exact Nat.le_refl _ | (simp; done) | (simp; omega) | omega) _ | exact hbw3)) hFB (by show 0 + m ≤ 4000000; omega) (by first | exact Nat.le_refl _ | (simp; done) | (simp; omega) | omega) ?_; intro v2 w2 hR2 hg2 hor2 hv2; have hbw2 : Below w1.heap.size w1 w2 := Below.grown (by first | exact (Below.refl _ _).drew | exact ((Below.refl _ _).alloc (by first | exact Nat.le_refl _ | (simp; done) | (simp; omega) | omega) _).drew | exact (((Below.refl _ _).alloc (by first | exact Nat.le_refl _ | (simp; done) | (simp; omega) | omega) _).alloc (by first | exact Nat.le_refl _ | (simp; done) | (simp; omega) | omega) _).drew | exact ((Below.refl _ _).drew).alloc (by first | exact Nat.le_refl _ | (simp; done) | (simp; omega) | omega) _ | exact (((Below.refl _ _).drew).alloc (by first | exact Nat.le_refl _ | (simp; done) | (simp; omega) | omega) _).alloc (by first | exact Nat.le_refl _ | (simp; done) | (simp; omega) | omega) _ | exact hbw2 | exact hbw2.alloc (by first | exact Nat.le_refl _ | (simp; done) | (simp; omega) | omega) _ | exact hbw3) hg2 (by first | exact Nat.le_refl _ | (simp; done) | (simp; omega) | omega) (fun k hk => hv2 k hk); have hs2 := hbw2.size)
    | (refine step_joinE (by rfl) _ _ (by rfl) _ w1.heap.size _ _ ([] ++ l) [e] _ _ _ (by rfl) (by rfl) (by first | exact hR2 | exact hR2.alloc _) (Src.one (by first | exact block_new rfl | exact (hg2.block _ (by first | (simp; done) | (simp; omega)) (by simp [go_sem, Value.ownBlock])).trans (by first | exact block_new (by simp) | exact block_old (by simp) (block_new (by simp)))) (HTE.out.below (by first | exact (Below.refl _ _).drew | exact ((Below.refl _ _).alloc (by first | exact Nat.le_refl _ | (simp; done) | (simp; omega) | omega) _).drew | exact (((Below.refl _ _).alloc (by first | exact Nat.le_refl _ | (simp; done) | (simp; omega) | omega) _).alloc (by first | exact Nat.le_refl _ | (simp; done) | (simp; omega) | omega) _).drew | exact ((Below.refl _ _).drew).alloc (by first | exact Nat.le_refl _ | (simp; done) | (simp; omega) | omega) _ | exact (((Below.refl _ _).drew).alloc (by first | exact Nat.le_refl _ | (simp; done) | (simp; omega) | omega) _).alloc (by first | exact Nat.le_refl _ | (simp; done) | (simp; omega) | omega) _ | exact hbw2 | exact hbw2.alloc (by first | exact Nat.le_refl _ | (simp; done) | (simp; omega) | omega) _ | exact hbw3)) HFT.out) hFB (by rw [List.nil_append]; omega) (by first | exact Nat.le_refl _ | (simp; done) | (simp; omega) | omega) ?_; intro v3 w3 hR3 hg3 hor3 hv3; have hbw3 : Below w1.heap.size w1 w3 := Below.grown (by first | exact (Below.refl _ _).drew | exact ((Below.refl _ _).alloc (by first | exact Nat.le_refl _ | (simp; done) | (simp; omega) | omega) _).drew | exact (((Below.refl _ _).alloc (by first | exact Nat.le_refl _ | (simp; done) | (simp; omega) | omega) _).alloc (by first | exact Nat.le_refl _ | (simp; done) | (simp; omega) | omega) _).drew | exact ((Below.refl _ _).drew).alloc (by first | exact Nat.le_refl _ | (simp; done) | (simp; omega) | omega) _ | exact (((Below.refl _ _).drew).alloc (by first | exact Nat.le_refl _ | (simp; done) | (simp; omega) | omega) _).alloc (by first | exact Nat.le_refl _ | (simp; done) | (simp; omega) | omega) _ | exact hbw2 | exact hbw2.alloc (by first | exact Nat.le_refl _ | (simp; done) | (simp; omega) | omega) _ | exact hbw3) hg3 (by first | exact Nat.le_refl _ | (simp; done) | (simp; omega) | omega) (fun k hk => hv3 k hk))
    | fail)
  all_goals
    have HB3 := Lib.hid (chain HB1.out hbw3)
    obtain ⟨a3, c3, hv3', hE3⟩ := hR3.is (G := F) (fun b hb => hb.1) (fun b hb => hF b (by omega))
    have HE3 := Lib.hid hE3
    rename_i hHeld
    clear hg2 hor2 hv2 hbw2 hR2 hg3 hor3 hv3 hbw3 hE3 hR3 hHeld
    subst hv3'
    go_wp2_with fail
    go_ret2
    exact ⟨a3, _, c3, rfl, by simpa using HE3.out, HB3.out⟩
theorem ref26_Put (l : List Ent) (e : Ent) (a : Option Addr) (m c : Nat) (k n : Int) (a' : Option Addr) (m' c' : Nat) (w : World) (F : Nat → Prop) (hI : IsE w F a m c l) (hT : IsT w F k n a' m' c' e.t) (hf : fits .i64 e.n ∧ fits .i64 e.d) (hm : m ≤ 1048576) (hF : ∀ b, w.heap.size ≤ b → F b) :
    Calls Try.prog 11 #[.slice a m c, .agg #[.int .i64 e.n, .int .i64 e.d, .int .i64 k, .int .i64 n, .slice a' m' c']] w fun r w' => ∃ a2 m2 c2, r = .returned (.tuple #[.slice a2 m2 c2, .bool (!Ent.has l e.n e.d)]) ∧ IsE w' F a2 m2 c2 (Ent.put l e) ∧ Below w.heap.size w w' := by
  cases hh : Ent.has l e.n e.d with
  | false =>
    refine (ref26_Put_no l e a m c k n a' m' c' w F hI hT hf hm hF hh).mono ?_
    rintro r w' ⟨a2, m2, c2, rfl, h1, h2⟩
    unfold Ent.put
    rw [hh]
    exact ⟨a2, m2, c2, rfl, h1, h2⟩
  | true =>
    unfold Ent.put
    rw [hh]
    obtain ⟨W1, hW1, hbW, p0, p1, p2, p3, p4⟩ := box_below w e.n e.d k n a' m' c'
    have HC := Lib.hid (ref25_Has l e.n e.d a m c W1 F (hI.below hbW) hm)
    rw [hh] at HC
    have HI := Lib.hid hI
    have HB0 := Lib.hid hbW
    clear hI hT hbW hh hf
    go_enter Try.func11, Try.ntmps11
    go_wp2_with fail
    refine HC.out.mono ?_; rintro r w1 ⟨rfl, hb1⟩
    have HB1 := Lib.hid (chain HB0.out hb1)
    clear hb1 p0 p1 p2 p3 p4
    go_wp2_with fail
    go_ret2
    exact ⟨a, m, c, rfl, by simpa using HI.out.below HB1.out, HB1.out⟩
end Go.Proofs.Ytonffapiamhdbaa

namespace Go.Proofs.Ytonffapiamhdbaa
open Go.RowKit
set_option linter.unusedVariables false
set_option linter.unusedSimpArgs false
set_option maxRecDepth 100000
set_option maxRecDepth 20000
set_option maxHeartbeats 4000000 in
theorem ref26_Merge (l r : List Ent) (a : Option Addr) (m c : Nat) (a' : Option Addr) (m' c' : Nat) (w : World) (F : Nat → Prop) (hI : IsE w F a m c l) (hJ : IsE w F a' m' c' r) (hF : ∀ b, w.heap.size ≤ b → F b) (hs : ∀ x ∈ r, x.t.size ≤ 4194304) (hm : m ≤ 500000) (hm' : m' ≤ 500000) :
    Calls Try.prog 20 #[.slice a m c, .slice a' m' c'] w fun e w' => ∃ a2 m2 c2, e = .returned (.tuple #[.slice a2 m2 c2, .int .i64 (if chkE r = 0 then ((putsE l r).length : Int) - l.length else 0), .int .i64 (chkE r)]) ∧ IsE w' F a2 m2 c2 (if chkE r = 0 then putsE l r else l) ∧ Below w.heap.size w w' := by
  obtain ⟨Z, hZ⟩ : ∃ Z, chkE r = Z := ⟨_, rfl⟩
  rw [hZ]
  obtain ⟨N, hN⟩ : ∃ N : Int, (if Z = 0 then ((putsE l r).length : Int) - l.length else 0) = N := ⟨_, rfl⟩
  obtain ⟨L, hL⟩ : ∃ L, (if Z = 0 then putsE l r else l) = L := ⟨_, rfl⟩
  rw [hN, hL]
  have HZ := Lib.hid hZ
  have HOKZ : Hid (Z = 0 → N = ((putsE l r).length : Int) - l.length ∧ L = putsE l r) := fun e => ⟨by rw [← hN, if_pos e], by rw [← hL, if_pos e]⟩
  have HNOZ : Hid (Z ≠ 0 → N = 0 ∧ L = l) := fun e => ⟨by rw [← hN, if_neg e], by rw [← hL, if_neg e]⟩
  clear hZ hN hL
  have hll : l.length = m := hI.len
  have HI := Lib.hid hI
  have HJ := Lib.hid hJ
  have HS := Lib.hid hs
  clear hI hJ hs
  go_enter Try.func20, Try.ntmps20
  go_wp2_with fail
  go_loopw [7] (fun i wr => ∃ j : Nat, j ≤ m' ∧ i = .int .i64 j ∧ Hid (chkE (r.drop j) = Z) ∧ Below w.heap.size w wr) (fun i _ => m' - (intOf i).toNat)
  case atStart => exact ⟨0, Nat.zero_le _, rfl, HZ, Below.refl _ _⟩
  case round =>
    obtain ⟨j, hj, rfl, HC, hbel⟩ := hrel
    have hsz := hbel.size
    by_cases hlt : j < m'
    · obtain ⟨b, off, k1, n1, a1, m1, c1, rfl, hF', hbl, ⟨h0, h1, h2, h3, h4⟩, hT'⟩ := (HJ.out.below hbel).at_ j hlt
      have hjl : j < r.length := by rw [HJ.out.len]; exact hlt
      have hsz1 := HS.out _ (Ent.at_mem hjl)
      have hfit := HJ.out.fitAt hlt
      have HOK := Lib.hid (chkE_ok hjl)
      have HBAD := Lib.hid (chkE_bad hjl)
      obtain ⟨e, he⟩ : ∃ e, Ent.at_ r j = e := ⟨_, rfl⟩
      rw [he] at hT' hsz1 h0 h1 hfit HOK HBAD
      have CC0 : ∀ W, Below wr.heap.size wr W → Calls Try.prog 10 #[.agg #[.int .i64 e.n, .int .i64 e.d, .int .i64 k1, .int .i64 n1, .slice a1 m1 c1]] W fun r w' => r = .returned (.int .i64 (forK e.n e.d e.t)) ∧ Below W.heap.size W w' := fun W hb => ref24_Check e k1 n1 a1 m1 c1 W F hsz1 hfit.1 (hT'.below hb)
      obtain ⟨C, hC⟩ : ∃ C, forK e.n e.d e.t = C := ⟨_, rfl⟩
      rw [hC] at CC0 HOK HBAD
      obtain ⟨y0, hy0⟩ : ∃ y0, e.n = y0 := ⟨_, rfl⟩
      obtain ⟨y1, hy1⟩ : ∃ y1, e.d = y1 := ⟨_, rfl⟩
      rw [hy0] at h0 CC0
      rw [hy1] at h1 CC0
      have CC := Lib.hid CC0
      clear hT' hsz1 hfit he hC hy0 hy1 CC0 hF' hjl
      go_wp2_with fail
      refine (CC.out _ (Below.refl _ _)).mono ?_; rintro rr w1 ⟨rfl, hb1⟩
      have HB01 := Lib.hid hb1
      have HB1 := Lib.hid (chain hbel hb1)
      obtain ⟨q0, q1, q2, q3, q4⟩ := five_at ⟨h0, h1, h2, h3, h4⟩ hb1
      clear hb1 h0 h1 h2 h3 h4
      by_cases hC0 : C = 0
      · subst hC0
        have HC2 : Hid (chkE (r.drop (j + 1)) = Z) := (HOK.out rfl).symm.trans HC.out
        clear q0 q1 q2 q3 q4
        go_wp2_with fail
        go_roundw
        case rel => exact ⟨j + 1, by omega, by go_num, HC2.out, HB1.out⟩
        case measure => simp [intOf]; omega
      · have t1 : (C != 0) = true := by simp [hC0]
        have hE : Z = C := HC.out.symm.trans (HBAD.out hC0)
        obtain ⟨e1, e2⟩ := HNOZ.out (by rw [hE]; exact hC0)
        have HE := Lib.hid (And.intro hE (And.intro e1 e2))
        clear hE e1 e2
        go_wp2_with fail
        refine (CC.out _ HB01.out).mono ?_; rintro rr w2 ⟨rfl, hb2⟩
        have HB2 := Lib.hid (chain HB1.out hb2)
        clear hb2 q0 q1 q2 q3 q4
        go_wp2_with fail
        go_ret3
        obtain ⟨e0, e1, e2⟩ := HE.out
        rw [e0, e1, e2]
        exact ⟨a, m, c, rfl, HI.out.below HB2.out, HB2.out⟩
    · have hjm : j = m' := by omega
      have hE : Z = 0 := by rw [← HC.out, List.drop_of_length_le (by rw [HJ.out.len]; omega)]; rfl
      obtain ⟨e1, e2⟩ := HOKZ.out hE
      have HE := Lib.hid (And.intro hE (And.intro e1 e2))
      clear hE e1 e2
      have HB0 := Lib.hid hbel
      clear HC hbel
      rw [hjm]
      clear hjm hlt hj
      go_wp2_with fail
      go_loopw [0, 8, 9] (fun x v i wr => ∃ (j : Nat) (a2 : Option Addr) (m2 c2 : Nat), j ≤ m' ∧ i = .int .i64 j ∧ x = .slice a2 m2 c2 ∧ v = .int .i64 ((putsE l (r.take j)).length - l.length) ∧ Hid (IsE wr F a2 m2 c2 (putsE l (r.take j))) ∧ Hid (Below w.heap.size w wr) ∧ w.heap.size ≤ wr.heap.size) (fun _ _ i _ => m' - (intOf i).toNat)
      case atStart => exact ⟨0, a, m, c, Nat.zero_le _, rfl, rfl, by simp [putsE], HI.out.below HB0.out, HB0, hsz⟩
      case round =>
        obtain ⟨j, a2, m2, c2, hj, rfl, rfl, rfl, HM, HG, hsz2⟩ := hrel
        by_cases hlt : j < m'
        · obtain ⟨b, off, k1, n1, a1, m1, c1, rfl, hF', hbl, ⟨h0, h1, h2, h3, h4⟩, hT'⟩ := (HJ.out.below HG.out).at_ j hlt
          have hjl : j < r.length := by rw [HJ.out.len]; exact hlt
          have hfit := HJ.out.fitAt hlt
          have HPS : Hid (putsE l (r.take (j + 1)) = Ent.put (putsE l (r.take j)) (Ent.at_ r j)) := by unfold Hid; rw [Ent.take_at hjl, putsE_snoc]
          obtain ⟨e, he⟩ : ∃ e, Ent.at_ r j = e := ⟨_, rfl⟩
          rw [he] at hT' h0 h1 hfit HPS
          obtain ⟨L1, hL1⟩ : ∃ L1, putsE l (r.take j) = L1 := ⟨_, rfl⟩
          have hll1 := putsE_len l (r.take j)
          rw [List.length_take, hL1] at hll1
          rw [hL1] at HM HPS
          have hm2 : L1.length = m2 := HM.out.len
          have CP0 : Calls Try.prog 11 #[.slice a2 m2 c2, .agg #[.int .i64 e.n, .int .i64 e.d, .int .i64 k1, .int .i64 n1, .slice a1 m1 c1]] wr fun r w' => ∃ a2 m2 c2, r = .returned (.tuple #[.slice a2 m2 c2, .bool (!Ent.has L1 e.n e.d)]) ∧ IsE w' F a2 m2 c2 (Ent.put L1 e) ∧ Below wr.heap.size wr w' := ref26_Put L1 e a2 m2 c2 k1 n1 a1 m1 c1 wr F HM.out hT' hfit (by omega) (fun b hb => hF b (by omega))
          obtain ⟨bh, hbh⟩ : ∃ bh, Ent.has L1 e.n e.d = bh := ⟨_, rfl⟩
          have HPL : Hid ((putsE l (r.take (j + 1))).length = if bh then L1.length else L1.length + 1) := by
            unfold Hid
            rw [HPS.out]
            unfold Ent.put
            rw [hbh]
            cases bh <;> simp
          rw [hbh] at CP0
          obtain ⟨y0, hy0⟩ : ∃ y0, e.n = y0 := ⟨_, rfl⟩
          obtain ⟨y1, hy1⟩ : ∃ y1, e.d = y1 := ⟨_, rfl⟩
          rw [hy0] at h0 CP0
          rw [hy1] at h1 CP0
          rw [hL1]
          have CP := Lib.hid CP0
          clear hT' hfit he hbh hy0 hy1 CP0 hF' hL1
          go_wp2_with fail
          refine CP.out.mono ?_; rintro rr w2 ⟨a3, m3, c3, rfl, hM2, hb2⟩
          have HM2 := Lib.hid hM2
          have HG2 := Lib.hid (chain HG.out hb2)
          have hz2 := HG2.out.size
          clear hM2 hb2 h0 h1 h2 h3 h4
          cases bh with
          | true =>
            have hq := HPL.out
            simp only [if_true] at hq
            go_wp2_with fail
            go_roundw
            case rel => exact ⟨j + 1, a3, m3, c3, by omega, by go_num, rfl, by rw [hq, hm2, hll], by rw [HPS.out]; exact HM2, HG2, hz2⟩
            case measure => simp [intOf]; omega
          | false =>
            have hq := HPL.out
            simp only [Bool.false_eq_true, if_false] at hq
            go_wp2_with fail
            go_roundw
            case rel => exact ⟨j + 1, a3, m3, c3, by omega, by go_num, rfl, by rw [hq]; go_num, by rw [HPS.out]; exact HM2, HG2, hz2⟩
            case measure => simp [intOf]; omega
        · have hE2 : r.take j = r := List.take_of_length_le (by rw [HJ.out.len]; omega)
          rw [hE2] at HM
          rw [hE2]
          obtain ⟨e0, e1, e2⟩ := HE.out
          rw [← e2] at HM
          rw [← e1]
          have HE0 := Lib.hid e0
          clear hE2 e0 e1 e2 HE
          go_wp2_with fail
          go_ret3
          rw [HE0.out]
          exact ⟨_, _, _, rfl, HM.out, HG.out⟩
end Go.Proofs.Ytonffapiamhdbaa

namespace Go.Proofs.Ytonffapiamhdbaa
open Go.RowKit
set_option linter.unusedVariables false
set_option linter.unusedSimpArgs false
set_option maxRecDepth 100000
set_option maxRecDepth 20000
theorem CellsE.dropE {w : World} {F : Nat → Prop} {xs : List Value} {l : List Ent} (h : CellsE w F xs l) : ∀ q, CellsE w F (xs.drop (q * 5)) (l.drop q) := by
  induction h with
  | nil => intro q; simpa using CellsE.nil
  | cons h hx hs ih =>
    intro q
    cases q with
    | zero => exact .cons h hx hs
    | succ q =>
      rw [show (q + 1) * 5 = q * 5 + 1 + 1 + 1 + 1 + 1 by omega]
      simpa only [List.drop_succ_cons] using ih q
theorem CellsE.takeE {w : World} {F : Nat → Prop} {xs : List Value} {l : List Ent} (h : CellsE w F xs l) : ∀ q, CellsE w F (xs.take (q * 5)) (l.take q) := by
  induction h with
  | nil => intro q; simpa using CellsE.nil
  | cons h hx hs ih =>
    intro q
    cases q with
    | zero => exact .nil
    | succ q =>
      rw [show (q + 1) * 5 = q * 5 + 1 + 1 + 1 + 1 + 1 by omega]
      simp only [List.take_succ_cons]
      exact .cons h hx (ih q)
theorem add_two (A : Addr) (x y : Nat) : (A.add x).add y = A.add (x + y) := by
  unfold Addr.add
  by_cases hx : x = 0
  · subst hx; simp
  · by_cases hy : y = 0
    · subst hy; simp
    · rw [if_neg hx, if_neg hy, if_neg (by omega)]
      simp [Nat.add_assoc]
theorem Src.takeS {w : World} {F : Nat → Prop} {a : Option Addr} {m c : Nat} {l : List Ent} (h : Src w F a m c l) (q : Nat) (hq : q ≤ m) : Src w F a q c (l.take q) := by
  obtain ⟨xs, h1, h2⟩ := h.cells
  refine ⟨by rw [List.length_take, h.len]; omega, ⟨Nat.le_trans hq h.cap.1, h.cap.2⟩, _, h1.takeE q, fun A hA j u hu => ?_⟩
  rw [List.getElem?_take] at hu
  split at hu
  · exact h2 A hA j u hu
  · cases hu
/-- Where the rest of a slice lies. -/
def restAt (a : Option Addr) (c q : Nat) : Option Addr := if c = q then a else a.map (·.add (q * 5))
theorem Src.dropS {w : World} {F : Nat → Prop} {a : Option Addr} {m c : Nat} {l : List Ent} (h : Src w F a m c l) (q : Nat) (hq : q ≤ m) : Src w F (restAt a c q) (m - q) (c - q) (l.drop q) := by
  obtain ⟨xs, h1, h2⟩ := h.cells
  have hxl : xs.length = m * 5 := by rw [h1.len, h.len]
  refine ⟨by rw [List.length_drop, h.len], ⟨by have := h.cap.1; omega, fun e => ?_⟩, _, h1.dropE q, fun A hA j u hu => ?_⟩
  · unfold restAt at e
    split at e
    · omega
    · cases ha : a with
      | none => have := h.cap.2 ha; omega
      | some A => rw [ha] at e; cases e
  · rw [List.getElem?_drop] at hu
    unfold restAt at hA
    split at hA
    · have := h.cap.1
      rw [List.getElem?_eq_none (by omega)] at hu
      cases hu
    · cases ha : a with
      | none => rw [ha] at hA; cases hA
      | some A' =>
        rw [ha] at hA
        injection hA with hA
        rw [← hA]
        show w.cell? ((A'.add (q * 5)).add j) = some u
        rw [add_two]
        exact h2 A' ha _ u hu
theorem RowE.src {w : World} {B : Nat} {F : Nat → Prop} {a : Option Addr} {n c : Nat} {l : List Ent} (h : RowE w B F (.slice a n c) l) : Src w F a n c l := by
  obtain ⟨xs, h1, h2⟩ := h
  obtain ⟨a', cap', hv, hok, hg⟩ := own_slice2 h1
  simp only [Value.slice.injEq] at hv
  obtain ⟨rfl, rfl, rfl⟩ := hv
  refine ⟨rfl, hok, xs, h2, fun A hA j u hu => ?_⟩
  have hxl := h2.len
  have h0 : 0 < l.length := by
    rcases Nat.eq_zero_or_pos l.length with h0 | h0
    · rw [h0] at hxl
      rw [List.getElem?_eq_none (by omega)] at hu; cases hu
    · exact h0
  obtain ⟨g, hg⟩ := hg h0
  subst hg
  injection hA with hA
  rw [← hA]
  exact h1.cells (g := g) rfl j u hu
theorem RowE.len {w : World} {B : Nat} {F : Nat → Prop} {v : Value} {l : List Ent} (h : RowE w B F v l) : ∃ a c, v = .slice a l.length c := by
  obtain ⟨xs, h1, h2⟩ := h
  obtain ⟨a, cap, h, _⟩ := own_slice2 h1
  exact ⟨a, cap, h⟩
/-- Read where it lies. -/
theorem RowE.read {w : World} {B : Nat} {F : Nat → Prop} {a : Option Addr} {n c : Nat} {l : List Ent} (h : RowE w B F (.slice a n c) l) : IsE w (fun _ => True) a n c l := by
  obtain ⟨xs, h1, h2⟩ := h
  obtain ⟨a', cap', hv, hok, hg⟩ := own_slice2 h1
  simp only [Value.slice.injEq] at hv
  obtain ⟨rfl, rfl, rfl⟩ := hv
  exact ents_of_own h1 h2 rfl (fun _ _ => trivial) (fun _ _ => trivial)
theorem RowE.low {w : World} {B B' : Nat} {F : Nat → Prop} {v : Value} {l : List Ent} (h : RowE w B' F v l) (hB : B ≤ B') : RowE w B F v l := by
  obtain ⟨xs, h1, h2⟩ := h
  exact ⟨xs, own_mono hB h1, h2⟩
theorem ins_eq {x : Ent} {l : List Ent} {n q : Nat} (hl : l.length = n) (h : Ent.insK x l n = q) : Ent.ins l x = l.take q ++ [x] ++ l.drop q := by
  unfold Ent.ins
  rw [hl, h]
theorem insK_yes {x : Ent} {l : List Ent} {q : Nat} (h : Ent.Ahead x (Ent.at_ l q)) : Ent.insK x l (q + 1) = Ent.insK x l q := by
  conv => lhs; unfold Ent.insK
  rw [if_pos h]
theorem insK_no {x : Ent} {l : List Ent} {q : Nat} (h : ¬ Ent.Ahead x (Ent.at_ l q)) : Ent.insK x l (q + 1) = q + 1 := by
  conv => lhs; unfold Ent.insK
  rw [if_neg h]
end Go.Proofs.Ytonffapiamhdbaa

namespace Go.Proofs.Ytonffapiamhdbaa
open Go.RowKit
set_option linter.unusedVariables false
set_option linter.unusedSimpArgs false
set_option maxRecDepth 100000
set_option maxRecDepth 20000
set_option maxHeartbeats 600000 in
theorem ref24_Sort (l : List Ent) (a : Option Addr) (m c : Nat) (w : World) (F : Nat → Prop) (hI : IsE w F a m c l) (hm : m ≤ 500000) (hF : ∀ b, w.heap.size ≤ b → F b) :
    Calls Try.prog 18 #[.slice a m c] w fun r w' => ∃ a2 m2 c2, r = .returned (.slice a2 m2 c2) ∧ IsE w' F a2 m2 c2 (Ent.sortR [] l) ∧ Below w.heap.size w w' := by
  have HI := Lib.hid hI
  clear hI
  go_enter Try.func18, Try.ntmps18
  go_wp2_with fail
  go_loopw [3, 4] (fun v i wr => ∃ (j : Nat) (a2 : Option Addr) (c2 : Nat), j ≤ m ∧ i = .int .i64 j ∧ v = .slice a2 j c2 ∧ Hid (RowE wr w.heap.size (fun b => F b ∧ b < w.heap.size) (.slice a2 j c2) (Ent.sortR [] (l.take j))) ∧ Hid (Below w.heap.size w wr) ∧ w.heap.size ≤ wr.heap.size) (fun _ i _ => m - (intOf i).toNat)
  case atStart => exact ⟨0, none, 0, Nat.zero_le _, rfl, rfl, RowE.none _ _ _, Below.refl _ _, Nat.le_refl _⟩
  case round =>
    obtain ⟨j, a2, c2, hj, rfl, rfl, HR, HB, hsz⟩ := hrel
    by_cases hlt : j < m
    · obtain ⟨b, off, k1, n1, a1, m1, c1, rfl, hF', hbl, hcx, hT'⟩ := (HI.out.inn.below HB.out).at_ j hlt
      have hjl : j < l.length := by rw [HI.out.len]; exact hlt
      have hfit := HI.out.fitAt hlt
      have HST : Hid (Ent.sortR [] (l.take (j + 1)) = Ent.ins (Ent.sortR [] (l.take j)) (Ent.at_ l j)) := by unfold Hid; rw [Ent.take_at hjl, Ent.sortR_snoc]
      obtain ⟨x, hx⟩ : ∃ x, Ent.at_ l j = x := ⟨_, rfl⟩
      rw [hx] at hcx hT' hfit HST
      obtain ⟨O, hO⟩ : ∃ O, Ent.sortR [] (l.take j) = O := ⟨_, rfl⟩
      rw [hO] at HR HST
      have hOl : O.length = j := HR.out.src.len
      have hjc : j ≤ c2 := HR.out.src.cap.1
      have HT := Lib.hid hT'
      have HFT := Lib.hid hfit
      have HCX := Lib.hid hcx
      clear hx hO hT' hfit hjl hcx hF'
      obtain ⟨wo, rfl⟩ : ∃ wo, wo = wr := ⟨_, rfl⟩
      go_wp2_with fail
      go_loopw [5] (fun k wi => ∃ q : Nat, q ≤ j ∧ k = .int .i64 q ∧ Hid (Ent.insK x O j = Ent.insK x O q) ∧ Hid (Below wo.heap.size wo wi) ∧ wo.heap.size ≤ wi.heap.size) (fun k _ => (intOf k).toNat)
      case atStart => exact ⟨j, Nat.le_refl _, rfl, rfl, Below.refl _ _, Nat.le_refl _⟩
      case round =>
        obtain ⟨q, hq, rfl, HK, HBI, hszi⟩ := hrel
        go_upto_region 6 with fail
        go_cut [29] from 14 to 31 (fun cc wx => ∃ BB : Bool, cc = .bool BB ∧ Hid (BB = true → 0 < q ∧ Ent.insK x O q = Ent.insK x O (q - 1)) ∧ Hid (BB = false → Ent.insK x O q = q) ∧ Hid (Below wr.heap.size wr wx))
        case first =>
          by_cases hq0 : q = 0
          · have hd : decide ((q : Int) > 0) = false := by rw [hq0]; rfl
            have hd2 : decide (0 < (q : Int)) = false := by rw [hq0]; rfl
            go_quiet (fail)
            go_wp2_with fail
            go_meet
            exact ⟨false, rfl, (fun e => by cases e), (fun _ => by rw [hq0]; rfl), below_drewN (Below.refl _ _) _⟩
          · have hd : decide ((q : Int) > 0) = true := by rw [decide_eq_true_iff]; omega
            have hd2 : decide (0 < (q : Int)) = true := by rw [decide_eq_true_iff]; omega
            have hd3 : decide (0 < q) = true := by rw [decide_eq_true_iff]; omega
            have hd4 : 0 < q := by omega
            obtain ⟨q1, hq1⟩ : ∃ q1 : Nat, q - 1 = q1 := ⟨_, rfl⟩
            have hqi : (q : Int) - 1 = (q1 : Nat) := by omega
            have hql : q1 < j := by omega
            have hq1b : -9223372036854775808 ≤ ((q1 : Nat) : Int) ∧ ((q1 : Nat) : Int) ≤ 9223372036854775807 := by omega
            have HW1 : Hid (IntKind.i64.wrap ((q1 : Nat) : Int) = ((q1 : Nat) : Int)) := IntWalk.i64_in _ hq1b
            have HW2 : Hid (wrap64 ((q1 : Nat) : Int) = ((q1 : Nat) : Int)) := IntWalk.wrap64_in _ hq1b
            clear hq1b
            have hi0 : (0 : Int) ≤ ((q1 : Nat) : Int) := by omega
            have hi1 : ((q1 : Nat) : Int) < ((j : Nat) : Int) := by omega
            have hi2 : ((q1 : Nat) : Int) ≤ ((j : Nat) : Int) := by omega
            have hi3 : (0 : Int) ≤ ((j : Nat) : Int) := by omega
            have hi4 : ((j : Nat) : Int) < ((m : Nat) : Int) := by omega
            obtain ⟨g0, g1, g2, g3, g4⟩ := five_at HCX.out HBI.out
            obtain ⟨b', off', k2, n2, a3, m3, c3, rfl, _, hbl', ⟨o0, o1, o2, o3, o4⟩, _⟩ := (HR.out.read.below HBI.out).at_ q1 (by omega)
            have hyes : Ent.Ahead x (Ent.at_ O q1) → Ent.insK x O q = Ent.insK x O q1 := fun h => by
              obtain rfl : q = q1 + 1 := by omega
              exact insK_yes h
            have hno : ¬ Ent.Ahead x (Ent.at_ O q1) → Ent.insK x O q = q := fun h => by
              obtain rfl : q = q1 + 1 := by omega
              exact insK_no h
            have CA : Hid (∀ W, Calls Try.prog 30 #[.agg #[.int .i64 x.n, .int .i64 x.d], .agg #[.int .i64 (Ent.at_ O q1).n, .int .i64 (Ent.at_ O q1).d]] W fun r w' => r = .returned (.bool (decide (Ent.Ahead x (Ent.at_ O q1)))) ∧ Below W.heap.size W w') := fun W => ref24_Ahead x (Ent.at_ O q1) W
            obtain ⟨BB, hBB⟩ : ∃ BB, decide (Ent.Ahead x (Ent.at_ O q1)) = BB := ⟨_, rfl⟩
            rw [hBB] at CA
            have HY : Hid (BB = true → 0 < q ∧ Ent.insK x O q = Ent.insK x O (q - 1)) := fun e => ⟨by omega, by rw [hq1]; exact hyes (by rw [e] at hBB; exact of_decide_eq_true hBB)⟩
            have HN : Hid (BB = false → Ent.insK x O q = q) := fun e => hno (by rw [e] at hBB; exact of_decide_eq_false hBB)
            obtain ⟨y0, hy0⟩ : ∃ y0, (Ent.at_ O q1).n = y0 := ⟨_, rfl⟩
            obtain ⟨y1, hy1⟩ : ∃ y1, (Ent.at_ O q1).d = y1 := ⟨_, rfl⟩
            rw [hy0] at CA o0
            rw [hy1] at CA o1
            clear hyes hno hBB hy0 hy1 o2 o3 o4 g2 g3 g4
            have hw1 := HW1.out
            have hw2 := HW2.out
            go_still_tail 14, (by kernel_rfl)
            clear hw1 hw2
            change wpList _ _ _ _ _ wr.drew
            go_wp2_with fail
            refine (CA.out _).mono ?_; rintro rr w1 ⟨rfl, hb1⟩
            have HBF := Lib.hid (chain (Below.refl _ _).drew hb1)
            clear hb1 o0 o1 g0 g1
            go_wp2_with fail
            go_meet
            exact ⟨BB, rfl, HY.out, HN.out, HBF.out⟩
        case rest =>
          obtain ⟨BB, rfl, HY, HN, HBX⟩ := hcut
          cases BB with
          | true =>
            obtain ⟨e1, e2⟩ := HY.out rfl
            have HK2 := Lib.hid (HK.out.trans e2)
            have HB2 := Lib.hid (chain HBI.out HBX.out)
            have hz2 := HB2.out.size
            clear e2
            go_wp2_with fail
            go_roundw
            case rel => exact ⟨q - 1, by omega, by go_num, HK2.out, HB2, hz2⟩
            case measure => simp [intOf]; omega
          | false =>
            have HK2 := Lib.hid (HK.out.trans (HN.out rfl))
            have HB2 := Lib.hid (chain HBI.out HBX.out)
            have hz2 := HB2.out.size
            have hc0 := five_at HCX.out HB2.out
            have HRC := Lib.hid (HR.out.below HB2.out).src
            have HTE := Lib.hid (HT.out.below HB2.out)
            have HBW := Lib.hid (chain HB.out HB2.out)
            have hFB : ∀ y, (F y ∧ y < w.heap.size) → y < wc.heap.size := fun y hy => by have := hy.2; omega
            have hqc : q ≤ c2 := by omega
            have hi0 : (0 : Int) ≤ ((q : Nat) : Int) := by omega
            have hi1 : ((q : Nat) : Int) ≤ ((j : Nat) : Int) := by omega
            have hi2 : ((q : Nat) : Int) ≤ ((c2 : Nat) : Int) := by omega
            have hi3 : (0 : Int) ≤ ((j : Nat) : Int) := by omega
            have hi4 : ((j : Nat) : Int) < ((m : Nat) : Int) := by omega
            clear HY HN HBX HBI HK
            go_wp2_with fail
            go_region_held3 (fun w' => w'.cell? ⟨b, off + j * 5, none⟩ = some (.int .i64 x.n) ∧ w'.cell? ⟨b, off + j * 5 + 1, none⟩ = some (.int .i64 x.d) ∧ w'.cell? ⟨b, off + j * 5 + 2, none⟩ = some (.int .i64 k1) ∧ w'.cell? ⟨b, off + j * 5 + 3, none⟩ = some (.int .i64 n1) ∧ w'.cell? ⟨b, off + j * 5 + 4, none⟩ = some (.slice a1 m1 c1)) (exact five_at hc0 (by first | exact hbw4 | (first | exact (Below.refl _ _).drew | exact ((Below.refl _ _).alloc (by first | exact Nat.le_refl _ | (simp; done) | (simp; omega) | omega) _).drew | exact (((Below.refl _ _).alloc (by first | exact Nat.le_refl _ | (simp; done) | (simp; omega) | omega) _).alloc (by first | exact Nat.le_refl _ | (simp; done) | (simp; omega) | omega) _).drew | exact ((Below.refl _ _).drew).alloc (by first | exact Nat.le_refl _ | (simp; done) | (simp; omega) | omega) _ | exact (((Below.refl _ _).drew).alloc (by first | exact Nat.le_refl _ | (simp; done) | (simp; omega) | omega) _).alloc (by first | exact Nat.le_refl _ | (simp; done) | (simp; omega) | omega) _ | exact hbw2 | exact hbw2.alloc (by first | exact Nat.le_refl _ | (simp; done) | (simp; omega) | omega) _ | exact hbw3))) (first
              | (refine step_joinE (by rfl) _ _ (by rfl) _ wc.heap.size _ _ [] (O.take q) a2 q c2 (by rfl) (by rfl) (by first | exact (RowE.zero _ _ _ _ (by first | rfl | simp) (by first | exact Nat.le_refl _ | (simp; done) | (simp; omega) | omega)).drew | exact ((RowE.zero _ _ _ _ (by first | rfl | simp) (by first | exact Nat.le_refl _ | (simp; done) | (simp; omega) | omega)).alloc _).drew | exact RowE.zero _ _ _ _ (by first | rfl | simp) (by first | exact Nat.le_refl _ | (simp; done) | (simp; omega) | omega) | exact (RowE.zero _ _ _ _ (by first | rfl | simp) (by first | exact Nat.le_refl _ | (simp; done) | (simp; omega) | omega)).alloc _) ((HRC.out.takeS q hq).below (by first | exact (Below.refl _ _).drew | exact ((Below.refl _ _).alloc (by first | exact Nat.le_refl _ | (simp; done) | (simp; omega) | omega) _).drew | exact (((Below.refl _ _).alloc (by first | exact Nat.le_refl _ | (simp; done) | (simp; omega) | omega) _).alloc (by first | exact Nat.le_refl _ | (simp; done) | (simp; omega) | omega) _).drew | exact ((Below.refl _ _).drew).alloc (by first | exact Nat.le_refl _ | (simp; done) | (simp; omega) | omega) _ | exact (((Below.refl _ _).drew).alloc (by first | exact Nat.le_refl _ | (simp; done) | (simp; omega) | omega) _).alloc (by first | exact Nat.le_refl _ | (simp; done) | (simp; omega) | omega) _ | exact hbw2 | exact hbw2.alloc (by first | exact Nat.le_refl _ | (simp; done) | (simp; omega) | omega) _ | exact hbw3)) hFB (by show 0 + q ≤ 4000000; omega) (by first | exact Nat.le_refl _ | (simp; done) | (simp; omega) | omega) ?_; intro v2 w2 hR2 hg2 hor2 hv2; have hbw2 : Below wc.heap.size wc w2 := Below.grown (by first | exact (Below.refl _ _).drew | exact ((Below.refl _ _).alloc (by first | exact Nat.le_refl _ | (simp; done) | (simp; omega) | omega) _).drew | exact (((Below.refl _ _).alloc (by first | exact Nat.le_refl _ | (simp; done) | (simp; omega) | omega) _).alloc (by first | exact Nat.le_refl _ | (simp; done) | (simp; omega) | omega) _).drew | exact ((Below.refl _ _).drew).alloc (by first | exact Nat.le_refl _ | (simp; done) | (simp; omega) | omega) _ | exact (((Below.refl _ _).drew).alloc (by first | exact Nat.le_refl _ | (simp; done) | (simp; omega) | omega) _).alloc (by first | exact Nat.le_refl _ | (simp; done) | (simp; omega) | omega) _ | exact hbw2 | exact hbw2.alloc (by first | exact Nat.le_refl _ | (simp; done) | (simp; omega) | omega) _ | exact hbw3) hg2 (by first | exact Nat.le_refl _ | (simp; done) | (simp; omega) | omega) (fun k hk => hv2 k hk); have hs2 := hbw2.size)
              | (refine step_joinE (by rfl) _ _ (by rfl) _ wc.heap.size _ _ ([] ++ O.take q) [x] _ 1 1 (by rfl) (by rfl) (by first | exact hR2 | exact hR2.alloc _) (Src.one (by first | exact block_new rfl | exact (hg2.block _ (by first | (simp; done) | (simp; omega)) (by simp [go_sem, Value.ownBlock])).trans (by first | exact block_new (by simp) | exact block_old (by simp) (block_new (by simp)))) (HTE.out.below (by first | exact (Below.refl _ _).drew | exact ((Below.refl _ _).alloc (by first | exact Nat.le_refl _ | (simp; done) | (simp; omega) | omega) _).drew | exact (((Below.refl _ _).alloc (by first | exact Nat.le_refl _ | (simp; done) | (simp; omega) | omega) _).alloc (by first | exact Nat.le_refl _ | (simp; done) | (simp; omega) | omega) _).drew | exact ((Below.refl _ _).drew).alloc (by first | exact Nat.le_refl _ | (simp; done) | (simp; omega) | omega) _ | exact (((Below.refl _ _).drew).alloc (by first | exact Nat.le_refl _ | (simp; done) | (simp; omega) | omega) _).alloc (by first | exact Nat.le_refl _ | (simp; done) | (simp; omega) | omega) _ | exact hbw2 | exact hbw2.alloc (by first | exact Nat.le_refl _ | (simp; done) | (simp; omega) | omega) _ | exact hbw3)) HFT.out) hFB (by rw [List.nil_append, List.length_take]; omega) (by first | exact Nat.le_refl _ | (simp; done) | (simp; omega) | omega) ?_; intro v3 w3 hR3 hg3 hor3 hv3; have hbw3 : Below wc.heap.size wc w3 := Below.grown (by first | exact (Below.refl _ _).drew | exact ((Below.refl _ _).alloc (by first | exact Nat.le_refl _ | (simp; done) | (simp; omega) | omega) _).drew | exact (((Below.refl _ _).alloc (by first | exact Nat.le_refl _ | (simp; done) | (simp; omega) | omega) _).alloc (by first | exact Nat.le_refl _ | (simp; done) | (simp; omega) | omega) _).drew | exact ((Below.refl _ _).drew).alloc (by first | exact Nat.le_refl _ | (simp; done) | (simp; omega) | omega) _ | exact (((Below.refl _ _).drew).alloc (by first | exact Nat.le_refl _ | (simp; done) | (simp; omega) | omega) _).alloc (by first | exact Nat.le_refl _ | (simp; done) | (simp; omega) | omega) _ | exact hbw2 | exact hbw2.alloc (by first | exact Nat.le_refl _ | (simp; done) | (simp; omega) | omega) _ | exact hbw3) hg3 (by first | exact Nat.le_refl _ | (simp; done) | (simp; omega) | omega) (fun k hk => hv3 k hk); have hs3 := hbw3.size)
              | (refine step_joinE (by rfl) _ _ (by rfl) _ wc.heap.size _ _ ([] ++ O.take q ++ [x]) (O.drop q) (restAt a2 c2 q) (j - q) (c2 - q) (by rfl) (by rfl) hR3 ((HRC.out.dropS q hq).below hbw3) hFB (by rw [List.nil_append, List.length_append, List.length_take, List.length_singleton]; omega) (by first | exact Nat.le_refl _ | (simp; done) | (simp; omega) | omega) ?_; intro v4 w4 hR4 hg4 hor4 hv4; have hbw4 : Below wc.heap.size wc w4 := Below.grown hbw3 hg4 (by first | exact Nat.le_refl _ | (simp; done) | (simp; omega) | omega) (fun k hk => hv4 k hk))
              | fail)
            all_goals
              have hR5 : RowE w4 w.heap.size (fun b => F b ∧ b < w.heap.size) v4 (Ent.sortR [] (l.take (j + 1))) := by
                rw [HST.out, ins_eq hOl HK2.out]
                have := hR4.low HBW.out.size
                simpa using this
              obtain ⟨a4, c4, hv5⟩ := hR5.len
              have hlj : (Ent.sortR [] (l.take (j + 1))).length = j + 1 := by rw [Ent.sortR_len, List.length_take, HI.out.len, List.length_nil]; omega
              rw [hlj] at hv5
              subst hv5
              have HR5 := Lib.hid hR5
              have HB5 := Lib.hid (chain HBW.out hbw4)
              have hz5 := HB5.out.size
              rename_i hHeld
              clear hg2 hor2 hv2 hbw2 hR2 hg3 hor3 hv3 hbw3 hR3 hg4 hor4 hv4 hbw4 hR4 hR5 hHeld hc0 hlj
              go_wp2_with fail
              go_roundw
              case rel => exact ⟨j + 1, a4, c4, by omega, by go_num, rfl, HR5, HB5, hz5⟩
              case measure => simp [intOf]; omega
    · have hjm : j = m := by omega
      have hE : l.take j = l := List.take_of_length_le (by rw [HI.out.len]; omega)
      have hR2 := HR.out
      rw [hE] at hR2
      obtain ⟨a3, c3, hv3, hE3⟩ := hR2.is (G := F) (fun b hb => hb.1) hF
      simp only [Value.slice.injEq] at hv3
      obtain ⟨rfl, _, rfl⟩ := hv3
      have HE := Lib.hid hE3
      clear hR2 hE hE3 HR
      go_wp2_with fail
      go_ret
      exact ⟨_, _, _, rfl, by simpa [Ent.sortR_len, HI.out.len, hjm] using HE.out, HB.out⟩
end Go.Proofs.Ytonffapiamhdbaa

namespace Go.Proofs.Ytonffapiamhdbaa
open Go.RowKit
set_option linter.unusedVariables false
set_option linter.unusedSimpArgs false
set_option maxRecDepth 100000
set_option maxRecDepth 20000
theorem leaf_isW (w : World) (F : Nat → Prop) (k n : Int) (hk : -100 ≤ k ∧ k ≤ 100) (hn : -100 ≤ n ∧ n ≤ 100) : IsT w F k n none 0 0 (.node k n []) := ⟨rfl, rfl, rfl, by simp only [Tr.Ok, Tr.OkL]; exact ⟨fits_i64.2 (by omega), fits_i64.2 (by omega), trivial⟩, .nil⟩
theorem forK_one : forK 8 0 (.node 1 8 []) = 0 := by decide
theorem forK_two : forK 8 0 (.node 3 8 []) = 0 := by decide
theorem below_mb {w w1 w2 : World} {mb : Nat} (hb : Below w.heap.size w w1) (hg : w1.grownBy w2 (some mb)) (hm : w.heap.size ≤ mb) : Below w.heap.size w w2 := hb.grown hg hb.size (fun k hk => by injection hk with e; omega)
def liveE : Ent := ⟨8, 0, .node 1 8 []⟩
theorem liveE_fit : fits .i64 (8 : Int) ∧ fits .i64 (0 : Int) := ⟨fits_i64.2 (by omega), fits_i64.2 (by omega)⟩
theorem live_put1 (B p mb : Nat) (w : World) (h : IsM w (fun b => B ≤ b) p mb []) (hB : B ≤ w.heap.size) :
    Calls Try.prog 9 #[.pointer (some ⟨p, 0, none⟩), .agg #[.int .i64 8, .int .i64 0, .int .i64 1, .int .i64 8, .slice none 0 0]] w fun r w' => r = .returned (.tuple #[.bool true, .int .i64 0]) ∧ IsM w' (fun b => B ≤ b) p mb [liveE] ∧ w.grownBy w' (some mb) := by
  refine (wmap_Put B p mb [] liveE 1 8 none 0 0 w (fun _ => True) h hB liveE_fit (by decide) (leaf_isW _ _ _ _ (by omega) (by omega))).mono ?_
  rintro r w' ⟨rfl, h1, h2⟩
  rw [show forK liveE.n liveE.d liveE.t = 0 from forK_one, if_pos rfl] at h1
  rw [show forK liveE.n liveE.d liveE.t = 0 from forK_one]
  exact ⟨rfl, h1, h2⟩
theorem live_put2 (B p mb : Nat) (w : World) (h : IsM w (fun b => B ≤ b) p mb [liveE]) (hB : B ≤ w.heap.size) :
    Calls Try.prog 9 #[.pointer (some ⟨p, 0, none⟩), .agg #[.int .i64 8, .int .i64 0, .int .i64 3, .int .i64 8, .slice none 0 0]] w fun r w' => r = .returned (.tuple #[.bool false, .int .i64 0]) ∧ IsM w' (fun b => B ≤ b) p mb [liveE] ∧ w.grownBy w' (some mb) := by
  refine (wmap_Put B p mb [liveE] ⟨8, 0, .node 3 8 []⟩ 3 8 none 0 0 w (fun _ => True) h hB liveE_fit (by decide) (leaf_isW _ _ _ _ (by omega) (by omega))).mono ?_
  rintro r w' ⟨rfl, h1, h2⟩
  rw [forK_two, if_pos rfl] at h1
  rw [forK_two]
  exact ⟨rfl, h1, h2⟩
theorem live_get (B p mb : Nat) (w : World) (h : IsM w (fun b => B ≤ b) p mb [liveE]) :
    Calls Try.prog 13 #[.pointer (some ⟨p, 0, none⟩), .agg #[.int .i64 8, .int .i64 0]] w fun r w' => ∃ nn a m c, r = .returned (.tuple #[.agg #[.int .i64 1, .int .i64 nn, .slice a m c], .bool true]) ∧ Below w.heap.size w w' := by
  refine (wmap_Get B p mb [liveE] 8 0 w h (fun x hx => by rw [List.mem_singleton] at hx; rw [hx]; decide)).mono ?_
  rintro r w' ⟨k, nn, a, m, c, rfl, h1, h2⟩
  have hk := h1.ek
  rw [show Ent.get [liveE] 8 0 = .node 1 8 [] from rfl] at hk
  have hk2 : k = 1 := hk
  subst hk2
  exact ⟨nn, a, m, c, rfl, h2⟩
set_option maxHeartbeats 2000000 in
theorem live26 (w : World) :
    Calls Try.prog 7 #[] w fun e w' => e = .returned (.bool true) ∧ Below w.heap.size w w' := by
  go_enter Try.func7, Try.ntmps7
  go_wp2_with fail
  refine (wmap_New _).mono ?_; rintro r w1 ⟨p, mb, rfl, hM1, hp, hmb, hb1⟩
  have hs1 := hb1.size
  have C1 := Lib.hid (live_put1 w.heap.size p mb w1 hM1 hs1)
  have HB1 := Lib.hid hb1
  clear hM1 hb1
  go_wp2_with fail
  refine C1.out.mono ?_; rintro r w2 ⟨rfl, hM2, hg2⟩
  have hb2 := below_mb HB1.out hg2 hmb
  have hs2 := hb2.size
  have C2 := Lib.hid (live_put2 w.heap.size p mb w2 hM2 hs2)
  have HB2 := Lib.hid hb2
  clear hM2 hb2 hg2 C1
  go_wp2_with fail
  refine C2.out.mono ?_; rintro r w3 ⟨rfl, hM3, hg3⟩
  have hb3 := below_mb HB2.out hg3 hmb
  have hs3 := hb3.size
  have HM3 := Lib.hid hM3
  have HB3 := Lib.hid hb3
  clear hM3 hb3 hg3 C2
  go_wp2_with fail
  refine (live_get w.heap.size p mb w3 HM3.out).mono ?_; rintro r w4 ⟨nn, a, m, c, rfl, hb4⟩
  have HM4 := Lib.hid (HM3.out.below hb4)
  have HB4 := Lib.hid (chain HB3.out hb4)
  obtain ⟨W0, hW0, hb0, x0⟩ := box_any w4 #[.int .i64 1, .int .i64 nn, .slice a m c] 34
  have D0 := block_cell x0 0
  have D1 := block_cell x0 1
  have D2 := block_cell x0 2
  simp at D0 D1 D2
  have HB5 := Lib.hid (chain HB4.out hb0)
  have hs5 := HB5.out.size
  have CL := Lib.hid (wmap_Len w.heap.size p mb [liveE] W0 (HM4.out.below hb0) hs5 (by decide))
  clear hb4 hb0 x0
  go_wp2_with fail
  refine CL.out.mono ?_; rintro r w6 ⟨rfl, hb6⟩
  have HB6 := Lib.hid (chain HB5.out hb6)
  clear hb6 D0 D1 D2
  go_wp2_with fail
  go_ret
  exact ⟨rfl, HB6.out⟩
end Go.Proofs.Ytonffapiamhdbaa

namespace Go.Proofs.Ytonffapiamhdbaa
open Go.RowKit
set_option linter.unusedVariables false
set_option linter.unusedSimpArgs false
set_option maxRecDepth 100000
/-- What is known behind a merge. -/
def mergeE (l r : List Ent) : List Ent := if chkE r = 0 then putsE l r else l
theorem mem_put {l : List Ent} {x y : Ent} (h : y ∈ Ent.put l x) : y ∈ l ∨ y = x := by
  unfold Ent.put at h
  split at h
  · exact .inl h
  · rcases List.mem_append.1 h with h | h
    · exact .inl h
    · exact .inr (by simpa using h)
theorem mem_putsE {r : List Ent} : ∀ {l : List Ent} {y : Ent}, y ∈ putsE l r → y ∈ l ∨ y ∈ r := by
  induction r with
  | nil => intro l y h; exact .inl h
  | cons x r ih =>
    intro l y h
    rcases ih (l := Ent.put l x) h with h | h
    · rcases mem_put h with h | h
      · exact .inl h
      · exact .inr (by simp [h])
    · exact .inr (by simp [h])
theorem chkE_zero {l : List Ent} : chkE l = 0 ↔ ∀ x ∈ l, forK x.n x.d x.t = 0 := by
  induction l with
  | nil => simp [chkE]
  | cons x l ih =>
    unfold chkE
    by_cases h : forK x.n x.d x.t = 0
    · rw [if_pos h, ih]
      constructor
      · intro h2 y hy
        rcases List.mem_cons.1 hy with rfl | hy
        · exact h
        · exact h2 y hy
      · intro h2 y hy; exact h2 y (by simp [hy])
    · rw [if_neg h]
      constructor
      · intro h2; exact absurd h2 h
      · intro h2; exact h2 x (by simp)
theorem mem_mergeE {l r : List Ent} {y : Ent} (h : y ∈ mergeE l r) : y ∈ l ∨ y ∈ r := by
  unfold mergeE at h
  split at h
  · exact mem_putsE h
  · exact .inl h
theorem mergeE_ok {l r : List Ent} (h : ∀ x ∈ l, forK x.n x.d x.t = 0) : ∀ x ∈ mergeE l r, forK x.n x.d x.t = 0 := fun x hx => by
  unfold mergeE at hx
  split at hx
  · rename_i h0
    rcases mem_putsE hx with hx | hx
    · exact h x hx
    · exact chkE_zero.1 h0 x hx
  · exact h x hx
theorem mergeE_len (l r : List Ent) : (mergeE l r).length ≤ l.length + r.length := by
  unfold mergeE
  split
  · exact (putsE_len l r).2
  · omega
theorem nodes_le {l : List Ent} {N : Nat} (h : ∀ x ∈ l, x.t.size ≤ N) : entNodes l ≤ l.length * N := by
  induction l with
  | nil => simp [entNodes, Tr.sizeL]
  | cons x l ih =>
    have h1 := ih fun y hy => h y (by simp [hy])
    have h2 := h x (by simp)
    simp only [entNodes, List.map_cons, Tr.sizeL, List.length_cons] at h1 ⊢
    rw [Nat.succ_mul]
    omega
theorem putsE_id {r : List Ent} : ∀ {l : List Ent}, ((l ++ r).map Ent.key).Nodup → putsE l r = l ++ r := by
  induction r with
  | nil => intro l _; simp [putsE]
  | cons x r ih =>
    intro l h
    have hh : Ent.has l x.n x.d = false := by
      cases hc : Ent.has l x.n x.d with
      | false => rfl
      | true =>
        obtain ⟨y, hy, e1, e2⟩ := Ent.has_iff.1 hc
        rw [List.map_append, List.map_cons, List.nodup_append] at h
        exact absurd (by unfold Ent.key; rw [e1, e2] : y.key = x.key) (h.2.2 _ (List.mem_map.2 ⟨y, hy, rfl⟩) _ (by simp))
    have hp : Ent.put l x = l ++ [x] := by unfold Ent.put; rw [hh]; rfl
    show putsE (Ent.put l x) r = _
    rw [hp, ih (by rw [List.append_assoc]; exact h), List.append_assoc]
    rfl
theorem ins_perm (l : List Ent) (x : Ent) : (Ent.ins l x).Perm (l ++ [x]) := by
  unfold Ent.ins
  rw [List.append_assoc]
  refine (List.Perm.append_left _ List.perm_append_comm).trans ?_
  rw [← List.append_assoc, List.take_append_drop]
theorem sortR_perm : ∀ (l out : List Ent), (Ent.sortR out l).Perm (out ++ l)
  | [], out => by simp [Ent.sortR]
  | x :: l, out => by
    rw [Ent.sortR]
    refine (sortR_perm l (Ent.ins out x)).trans ?_
    refine (List.Perm.append_right l (ins_perm out x)).trans ?_
    rw [List.append_assoc]; exact List.Perm.refl _
theorem sort_self (l : List Ent) : (Ent.sortR [] l).Perm l := by simpa using sortR_perm l []
theorem sort_twice {l : List Ent} (hk : (l.map Ent.key).Nodup) : Ent.sortR [] (Ent.sortR [] l) = Ent.sortR [] l := sort_perm (sort_self l) hk
theorem sort_chk {l : List Ent} (h : ∀ x ∈ l, forK x.n x.d x.t = 0) : chkE (Ent.sortR [] l) = 0 := chkE_zero.2 fun x hx => h x ((sort_self l).mem_iff.1 hx)
theorem sort_puts {l : List Ent} (hk : (l.map Ent.key).Nodup) : putsE [] (Ent.sortR [] l) = Ent.sortR [] l := putsE_id (by simpa using keys_perm (sort_self l) hk)
end Go.Proofs.Ytonffapiamhdbaa

namespace Go.Proofs.Ytonffapiamhdbaa
open Go.RowKit
set_option linter.unusedVariables false
set_option linter.unusedSimpArgs false
set_option maxRecDepth 100000
set_option maxRecDepth 20000
/-- How many a merge makes known. -/
def cntE (l r : List Ent) : Int := if chkE r = 0 then ((putsE l r).length : Int) - l.length else 0
theorem page_Merge (B p mb : Nat) (l r : List Ent) (a : Option Addr) (m c : Nat) (w : World) (F : Nat → Prop) (h : IsM w (fun b => B ≤ b) p mb l) (hB : B ≤ w.heap.size) (hI : IsE w F a m c r) (hF : ∀ b, F b → b ≠ mb) (hs : ∀ x ∈ r, x.t.size ≤ 80) (hm : m ≤ 1048576) (hll : l.length ≤ 1048576) :
    Calls Try.prog 19 #[.pointer (some ⟨p, 0, none⟩), .slice a m c] w fun e w' => e = .returned (.tuple #[.int .i64 (cntE l r), .int .i64 (chkE r)]) ∧ IsM w' (fun b => B ≤ b) p mb (mergeE l r) ∧ w.grownBy w' (some mb) :=
  wmap_Merge B p mb l r a m c w F h hB hI hF (fun x hx => by have := hs x hx; omega) hm hll
theorem page_RefMerge (l r : List Ent) (a : Option Addr) (m c : Nat) (a' : Option Addr) (m' c' : Nat) (w : World) (F : Nat → Prop) (hI : IsE w F a m c l) (hJ : IsE w F a' m' c' r) (hF : ∀ b, w.heap.size ≤ b → F b) (hs : ∀ x ∈ r, x.t.size ≤ 80) (hm : m ≤ 500000) (hm' : m' ≤ 500000) :
    Calls Try.prog 20 #[.slice a m c, .slice a' m' c'] w fun e w' => ∃ a2 m2 c2, e = .returned (.tuple #[.slice a2 m2 c2, .int .i64 (cntE l r), .int .i64 (chkE r)]) ∧ IsE w' F a2 m2 c2 (mergeE l r) ∧ Below w.heap.size w w' :=
  ref26_Merge l r a m c a' m' c' w F hI hJ hF (fun x hx => by have := hs x hx; omega) hm hm'
theorem IsE.toNe {w : World} {B mb : Nat} {a : Option Addr} {m c : Nat} {l : List Ent} (h : IsE w (Lt B) a m c l) (hB : B ≤ mb) : IsE w (fun b => b ≠ mb) a m c l := h.mono fun b hb => by unfold Lt at hb; omega
set_option maxHeartbeats 4000000 in
theorem wmapMergesW (la : List Ent) (a : Option Addr) (m c : Nat) (lb : List Ent) (a' : Option Addr) (m' c' : Nat) (w : World) (hz : entNodes la ≤ 1048576) (hI : IsE w (fun _ => True) a m c la) (hz' : entNodes lb ≤ 1048576) (hJ : IsE w (fun _ => True) a' m' c' lb) :
    Calls Try.prog 4 #[.slice a m c, .slice a' m' c'] w fun e w' => e = .returned (.bool true) ∧ Below w.heap.size w w' := by
  have HI := Lib.hid hI.lt
  have HJ := Lib.hid hJ.lt
  have C0 := Lib.hid (ref24_Much la a m c w _ hI hz)
  have C1 : Hid (∀ W, Below w.heap.size w W → Calls Try.prog 6 #[.slice a' m' c'] W fun r w' => ∃ b, r = .returned (.bool b) ∧ Hid (b = false → m' ≤ 30 ∧ ∀ x ∈ lb, x.t.size ≤ 80) ∧ Below W.heap.size W w') := fun W hb => ref24_Much lb a' m' c' W _ (hJ.below hb) hz'
  have hla : la.length = m := hI.len
  have hlb : lb.length = m' := hJ.len
  obtain ⟨N1, hN1⟩ : ∃ N1, cntE [] la = N1 := ⟨_, rfl⟩
  obtain ⟨Z1, hZ1⟩ : ∃ Z1, chkE la = Z1 := ⟨_, rfl⟩
  obtain ⟨L1, hL1⟩ : ∃ L1, mergeE [] la = L1 := ⟨_, rfl⟩
  obtain ⟨N2, hN2⟩ : ∃ N2, cntE L1 lb = N2 := ⟨_, rfl⟩
  obtain ⟨Z2, hZ2⟩ : ∃ Z2, chkE lb = Z2 := ⟨_, rfl⟩
  obtain ⟨L2, hL2⟩ : ∃ L2, mergeE L1 lb = L2 := ⟨_, rfl⟩
  have HEQ := Lib.hid (And.intro hN1 (And.intro hZ1 (And.intro hL1 (And.intro hN2 (And.intro hZ2 hL2)))))
  clear hI hJ hz hz' hN1 hZ1 hL1 hN2 hZ2 hL2
  go_enter Try.func4, Try.ntmps4
  go_wp2_with fail
  refine C0.out.mono ?_; rintro r w1 ⟨b0, rfl, H0, hb1⟩
  have HB1 := Lib.hid hb1
  clear hb1 C0
  cases b0 with
  | true =>
    go_wp2_with fail
    refine (live26 _).mono ?_; rintro r w2 ⟨rfl, hb2⟩
    have HB2 := Lib.hid (chain HB1.out hb2)
    clear hb2
    go_wp2_with fail
    go_ret
    exact ⟨rfl, HB2.out⟩
  | false =>
    have C1' := Lib.hid (C1.out _ HB1.out)
    clear C1
    go_wp2_with fail
    refine C1'.out.mono ?_; rintro r w2 ⟨b1, rfl, H1, hb2⟩
    have HB2 := Lib.hid (chain HB1.out hb2)
    clear hb2 C1'
    cases b1 with
    | true =>
      go_wp2_with fail
      refine (live26 _).mono ?_; rintro r w3 ⟨rfl, hb3⟩
      have HB3 := Lib.hid (chain HB2.out hb3)
      clear hb3
      go_wp2_with fail
      go_ret
      exact ⟨rfl, HB3.out⟩
    | false =>
      obtain ⟨hm, hsa⟩ := H0.out (by first | rfl | trivial)
      obtain ⟨hm', hsb⟩ := H1.out (by first | rfl | trivial)
      obtain ⟨eN1, eZ1, eL1, eN2, eZ2, eL2⟩ := HEQ.out
      have hs2 := HB2.out.size
      have hl1 : L1.length ≤ 30 := by rw [← eL1]; have := mergeE_len [] la; simp at this; omega
      have hl2 : L2.length ≤ 60 := by rw [← eL2]; have := mergeE_len L1 lb; omega
      have hss : ∀ x ∈ L2, x.t.size ≤ 80 := fun x hx => by
        rw [← eL2] at hx
        rcases mem_mergeE hx with hx | hx
        · rw [← eL1] at hx
          rcases mem_mergeE hx with hx | hx
          · cases hx
          · exact hsa x hx
        · exact hsb x hx
      have hn2 : entNodes L2 ≤ 1048576 := by
        have := nodes_le hss
        have : L2.length * 80 ≤ 60 * 80 := Nat.mul_le_mul_right _ hl2
        omega
      have hok : ∀ x ∈ L2, forK x.n x.d x.t = 0 := by
        rw [← eL2]
        refine mergeE_ok ?_
        rw [← eL1]
        exact mergeE_ok fun x hx => by cases hx
      have HSA := Lib.hid hsa
      have HSB := Lib.hid hsb
      have HSS := Lib.hid hss
      have HN2 := Lib.hid hn2
      have HOK := Lib.hid hok
      clear hsa hsb hss hok eN1 eZ1 eL1 eN2 eZ2 eL2 hn2
      go_wp2_with fail
      refine (wmap_New _).mono ?_; rintro r w3 ⟨p, mb, rfl, hM3, hp, hmb, hb3⟩
      have hB3 := hb3.size
      have HB3 := Lib.hid (chain HB2.out hb3)
      have CM : Hid (Calls Try.prog 19 #[.pointer (some ⟨p, 0, none⟩), .slice a m c] w3 fun e w' => e = .returned (.tuple #[.int .i64 N1, .int .i64 Z1]) ∧ IsM w' (fun b => w2.heap.size ≤ b) p mb L1 ∧ w3.grownBy w' (some mb)) := by
        obtain ⟨eN1, eZ1, eL1, eN2, eZ2, eL2⟩ := HEQ.out
        have := page_Merge w2.heap.size p mb [] la a m c w3 _ hM3 hB3 (HI.out.below HB3.out) (fun b hb => by unfold Lt at hb; omega) HSA.out (by omega) (by simp)
        rw [eN1, eZ1, eL1] at this
        exact this
      clear hM3 hb3
      go_wp2_with fail
      refine CM.out.mono ?_; rintro r w4 ⟨rfl, hM4, hg4⟩
      have HB4 := Lib.hid (HB3.out.grown hg4 (by omega) (fun k hk => by injection hk with e; omega))
      have hz4 := hg4.size
      have hmb4 := hM4.lt.2
      have HM4 := Lib.hid hM4
      have CR : Hid (Calls Try.prog 20 #[.slice none 0 0, .slice a m c] w4 fun e w' => ∃ a2 m2 c2, e = .returned (.tuple #[.slice a2 m2 c2, .int .i64 N1, .int .i64 Z1]) ∧ IsE w' (fun b => b ≠ mb) a2 m2 c2 L1 ∧ Below w4.heap.size w4 w') := by
        obtain ⟨eN1, eZ1, eL1, eN2, eZ2, eL2⟩ := HEQ.out
        have := page_RefMerge [] la none 0 0 a m c w4 (fun b => b ≠ mb) (IsE.nil _ _) ((HI.out.below HB4.out).toNe (by omega)) (fun b hb => by omega) HSA.out (by omega) (by omega)
        rw [eN1, eZ1, eL1] at this
        exact this
      clear hM4 hg4 CM
      go_wp2_with fail
      refine CR.out.mono ?_; rintro r w5 ⟨a5, m5, c5, rfl, hE5, hb5⟩
      have hm5 : L1.length = m5 := hE5.len
      have HB5 := Lib.hid (chain HB4.out hb5)
      have hz5 := hb5.size
      have HE5 := Lib.hid hE5
      have CM2 : Hid (Calls Try.prog 19 #[.pointer (some ⟨p, 0, none⟩), .slice a' m' c'] w5 fun e w' => e = .returned (.tuple #[.int .i64 N2, .int .i64 Z2]) ∧ IsM w' (fun b => w2.heap.size ≤ b) p mb L2 ∧ w5.grownBy w' (some mb)) := by
        obtain ⟨eN1, eZ1, eL1, eN2, eZ2, eL2⟩ := HEQ.out
        have := page_Merge w2.heap.size p mb L1 lb a' m' c' w5 _ (HM4.out.below hb5) (by omega) (HJ.out.below HB5.out) (fun b hb => by unfold Lt at hb; omega) HSB.out (by omega) (by omega)
        rw [eN2, eZ2, eL2] at this
        exact this
      clear hE5 hb5 CR
      go_wp2_with fail
      refine CM2.out.mono ?_; rintro r w6 ⟨rfl, hM6, hg6⟩
      have HB6 := Lib.hid (HB5.out.grown hg6 (by omega) (fun k hk => by injection hk with e; omega))
      have hz6 := hg6.size
      have HM6 := Lib.hid hM6
      have HE6 := Lib.hid (HE5.out.grown hg6 (fun b hb => hb))
      have CR2 : Hid (Calls Try.prog 20 #[.slice a5 m5 c5, .slice a' m' c'] w6 fun e w' => ∃ a2 m2 c2, e = .returned (.tuple #[.slice a2 m2 c2, .int .i64 N2, .int .i64 Z2]) ∧ IsE w' (fun b => b ≠ mb) a2 m2 c2 L2 ∧ Below w6.heap.size w6 w') := by
        obtain ⟨eN1, eZ1, eL1, eN2, eZ2, eL2⟩ := HEQ.out
        have := page_RefMerge L1 lb a5 m5 c5 a' m' c' w6 (fun b => b ≠ mb) HE6.out ((HJ.out.below HB6.out).toNe (by omega)) (fun b hb => by omega) HSB.out (by omega) (by omega)
        rw [eN2, eZ2, eL2] at this
        exact this
      clear hM6 hg6 CM2
      go_wp2_with fail
      refine CR2.out.mono ?_; rintro r w7 ⟨a7, m7, c7, rfl, hE7, hb7⟩
      obtain rfl : L2.length = m7 := hE7.len
      have HB7 := Lib.hid (chain HB6.out hb7)
      have hz7 := hb7.size
      have HE7 := Lib.hid hE7
      have HM7 := Lib.hid (HM6.out.below hb7)
      have CE := Lib.hid (wmap_Entries w2.heap.size p mb L2 w7 HM7.out (by omega) HN2.out)
      clear hE7 hb7 CR2
      go_wp2_with fail
      refine CE.out.mono ?_; rintro r w8 ⟨a8, m8, c8, rfl, hE8, hb8⟩
      have HB8 := Lib.hid (chain HB7.out hb8)
      have hz8 := hb8.size
      have HE8 := Lib.hid hE8
      have CS := Lib.hid (ref24_Sort L2 a7 L2.length c7 w8 (fun b => b ≠ mb) (HE7.out.below hb8) (by omega) (fun b hb => by omega))
      have HM8 := Lib.hid (HM7.out.below hb8)
      clear hE8 hb8 CE
      go_wp2_with fail
      refine CS.out.mono ?_; rintro r w9 ⟨a9, m9, c9, rfl, hE9, hb9⟩
      have HB9 := Lib.hid (chain HB8.out hb9)
      have hz9 := hb9.size
      have CA := Lib.hid (ref24_All (Ent.sortR [] L2) a8 m8 c8 a9 m9 c9 w9 _ _ (HE8.out.below hb9) hE9 (by rw [nodes_perm (sort_self L2)]; exact HN2.out))
      have HM9 := Lib.hid (HM8.out.below hb9)
      clear hE9 hb9 CS
      go_wp2_with fail
      refine CA.out.mono ?_; rintro r w10 ⟨rfl, hb10⟩
      have HB10 := Lib.hid (chain HB9.out hb10)
      have hz10 := hb10.size
      have HM10 := Lib.hid (HM9.out.below hb10)
      clear hb10 CA
      go_wp2_with fail
      refine (wmap_New _).mono ?_; rintro r w11 ⟨p2, mb2, rfl, hM11, hp2, hmb2, hb11⟩
      have HB11 := Lib.hid hb11
      have hz11 := hb11.size
      have HO11 := Lib.hid hM11
      have hl11 := hM11.lt.2
      have CE2 := Lib.hid (wmap_Entries w2.heap.size p mb L2 w11 (HM10.out.below hb11) (by omega) HN2.out)
      clear hM11 hb11
      go_wp2_with fail
      refine CE2.out.mono ?_; rintro r w12 ⟨a12, m12, c12, rfl, hE12, hb12⟩
      have HB12 := Lib.hid (chain HB11.out hb12)
      have hz12 := hb12.size
      have hm12 : L2.length = m12 := by rw [← hE12.len, Ent.sortR_len]; simp
      have CO : Hid (Calls Try.prog 19 #[.pointer (some ⟨p2, 0, none⟩), .slice a12 m12 c12] w12 fun e w' => e = .returned (.tuple #[.int .i64 L2.length, .int .i64 0]) ∧ IsM w' (fun b => w10.heap.size ≤ b) p2 mb2 (Ent.sortR [] L2) ∧ w12.grownBy w' (some mb2)) := by
        have := page_Merge w10.heap.size p2 mb2 [] (Ent.sortR [] L2) a12 m12 c12 w12 _ (HO11.out.below hb12) (by omega) hE12 (fun b hb => by omega) (fun x hx => HSS.out x ((sort_self L2).mem_iff.1 hx)) (by omega) (by simp)
        unfold cntE mergeE at this
        rw [sort_chk HOK.out, if_pos rfl, if_pos rfl, sort_puts HM10.out.keys, Ent.sortR_len] at this
        unfold Hid
        simpa using this
      clear hE12 hb12 CE2
      go_wp2_with fail
      refine CO.out.mono ?_; rintro r w13 ⟨rfl, hO13, hg13⟩
      have HB13 := Lib.hid (HB12.out.grown hg13 (by omega) (fun k hk => by injection hk with e; omega))
      have hz13 := hg13.size
      have CE3 := Lib.hid (wmap_Entries w10.heap.size p2 mb2 (Ent.sortR [] L2) w13 hO13 (by omega) (by rw [nodes_perm (sort_self L2)]; exact HN2.out))
      rw [sort_twice HM10.out.keys] at CE3
      clear hO13 hg13 CO
      go_wp2_with fail
      refine CE3.out.mono ?_; rintro r w14 ⟨a14, m14, c14, rfl, hE14, hb14⟩
      have HB14 := Lib.hid (chain HB13.out hb14)
      have HE14 := Lib.hid hE14
      have hz14 := hb14.size
      have CE4 := Lib.hid (wmap_Entries w2.heap.size p mb L2 w14 (HM10.out.below HB14.out) (by omega) HN2.out)
      clear hE14 hb14 CE3
      go_wp2_with fail
      refine CE4.out.mono ?_; rintro r w15 ⟨a15, m15, c15, rfl, hE15, hb15⟩
      have HB15 := Lib.hid (chain HB14.out hb15)
      have CA2 := Lib.hid (ref24_All (Ent.sortR [] L2) a14 m14 c14 a15 m15 c15 w15 _ _ (HE14.out.below hb15) hE15 (by rw [nodes_perm (sort_self L2)]; exact HN2.out))
      clear hE15 hb15 CE4
      go_wp2_with fail
      refine CA2.out.mono ?_; rintro r w16 ⟨rfl, hb16⟩
      have HB16 := Lib.hid (chain HB15.out hb16)
      clear hb16 CA2
      go_wp2_with fail
      refine (live26 _).mono ?_; rintro r w17 ⟨rfl, hb17⟩
      have HB17 := Lib.hid (chain HB10.out (chain HB16.out hb17))
      clear hb17
      go_wp2_with fail
      go_ret
      exact ⟨rfl, HB17.out⟩
end Go.Proofs.Ytonffapiamhdbaa

namespace Go.Proofs.Ytonffapiamhdbaa
open Go.RowKit
set_option linter.unusedVariables false
set_option linter.unusedSimpArgs false
set_option maxRecDepth 100000
set_option maxRecDepth 20000
/-- What is known of entries, put one by one. -/
def stepE (l : List Ent) (x : Ent) : List Ent := if forK x.n x.d x.t = 0 then Ent.put l x else l
def knownE (r : List Ent) : List Ent := r.foldl stepE []
theorem knownE_snoc (r : List Ent) (x : Ent) : knownE (r ++ [x]) = stepE (knownE r) x := by simp [knownE]
theorem stepE_len (l : List Ent) (x : Ent) : (stepE l x).length ≤ l.length + 1 := by
  unfold stepE
  split
  · exact (Ent.put_len l x).2
  · omega
theorem stepE_mem {l : List Ent} {x y : Ent} (h : y ∈ stepE l x) : y ∈ l ∨ y = x := by
  unfold stepE at h
  split at h
  · exact mem_put h
  · exact .inl h
set_option maxHeartbeats 8000000 in
theorem wmapPutsW (l : List Ent) (a : Option Addr) (m c : Nat) (kn kd : Int) (w : World) (hz : entNodes l ≤ 1048576) (hI : IsE w (fun _ => True) a m c l) (hkn : fits .i64 kn) (hkd : fits .i64 kd) :
    Calls Try.prog 3 #[.slice a m c, .agg #[.int .i64 kn, .int .i64 kd]] w fun e w' => e = .returned (.bool true) ∧ Below w.heap.size w w' := by
  obtain ⟨W0, hW0, hb0, x0⟩ := box_any w #[.int .i64 kn, .int .i64 kd] 24
  have HI := Lib.hid (hI.lt.below hb0)
  have C0 := Lib.hid (ref24_Much l a m c W0 _ (hI.below hb0) hz)
  have HB0 := Lib.hid hb0
  have HX0 := Lib.hid x0
  have hs0 := block_lt x0
  have hll : l.length = m := hI.len
  clear hI hz hkn hkd hb0 x0
  go_enter Try.func3, Try.ntmps3
  go_wp2_with fail
  refine C0.out.mono ?_; rintro r w1 ⟨b0, rfl, H0, hb1⟩
  have HB1 := Lib.hid hb1
  clear hb1 C0
  cases b0 with
  | true =>
    go_wp2_with fail
    refine (live26 _).mono ?_; rintro r w2 ⟨rfl, hb2⟩
    have HB2 := Lib.hid (chain HB0.out (chain HB1.out hb2))
    clear hb2
    go_wp2_with fail
    go_ret
    exact ⟨rfl, HB2.out⟩
  | false =>
    obtain ⟨hm, hsa⟩ := H0.out (by first | rfl | trivial)
    have HSA := Lib.hid hsa
    have hs1 := HB1.out.size
    clear hsa H0
    go_wp2_with fail
    refine (wmap_New _).mono ?_; rintro r w2 ⟨p, mb, rfl, hM2, hp, hmb, hb2⟩
    have HB2 := Lib.hid (chain HB1.out hb2)
    have HM2 := Lib.hid hM2
    have hs2 := hb2.size
    clear hM2 hb2
    go_wp2_with fail
    go_loopw [6, 7] (fun v i wr => ∃ (j : Nat) (a2 : Option Addr) (m2 c2 : Nat), j ≤ m ∧ i = .int .i64 j ∧ v = .slice a2 m2 c2 ∧ Hid (IsM wr (fun b => w1.heap.size ≤ b) p mb (knownE (l.take j))) ∧ Hid (IsE wr (fun b => b ≠ mb) a2 m2 c2 (knownE (l.take j))) ∧ Hid ((knownE (l.take j)).length ≤ j ∧ ∀ x ∈ knownE (l.take j), x.t.size ≤ 80) ∧ Hid (Below W0.heap.size W0 wr) ∧ w1.heap.size ≤ wr.heap.size) (fun _ i _ => m - (intOf i).toNat)
    case atStart => exact ⟨0, none, 0, 0, Nat.zero_le _, rfl, rfl, HM2, IsE.nil _ _, ⟨Nat.le_refl _, fun x hx => by cases hx⟩, HB2, hs2⟩
    case round =>
      obtain ⟨j, a2, m2, c2, hj, rfl, rfl, HM, HS, HL, HB, hsz⟩ := hrel
      have HBW := Lib.hid (chain HB0.out HB.out)
      have hml := HM.out.lt.2
      by_cases hlt : j < m
      · obtain ⟨b, off, k', n', a', m', c', rfl, hF', hbl, hcx, hT'⟩ := (HI.out.below HB.out).at_ j hlt
        have hjl : j < l.length := by omega
        have hsz1 := HSA.out _ (Ent.at_mem hjl)
        have hfit := HI.out.fitAt hlt
        have HKS : Hid (knownE (l.take (j + 1)) = stepE (knownE (l.take j)) (Ent.at_ l j)) := by unfold Hid; rw [Ent.take_at hjl, knownE_snoc]
        have HL2 : Hid ((knownE (l.take (j + 1))).length ≤ j + 1 ∧ ∀ x ∈ knownE (l.take (j + 1)), x.t.size ≤ 80) := by
          unfold Hid
          rw [HKS.out]
          refine ⟨Nat.le_trans (stepE_len _ _) (by have := HL.out.1; omega), fun x hx => ?_⟩
          rcases stepE_mem hx with hx | rfl
          · exact HL.out.2 x hx
          · exact hsz1
        obtain ⟨e, he⟩ : ∃ e, Ent.at_ l j = e := ⟨_, rfl⟩
        rw [he] at hT' hsz1 hcx hfit HKS
        obtain ⟨L, hL⟩ : ∃ L, knownE (l.take j) = L := ⟨_, rfl⟩
        rw [hL] at HM HS HKS HL
        have hLl := HL.out.1
        have hm2 : L.length = m2 := HS.out.len
        have CP0 := wmap_Put w1.heap.size p mb L e k' n' a' m' c' wr _ HM.out hsz hfit (by omega) hT'
        obtain ⟨C, hC⟩ : ∃ C, forK e.n e.d e.t = C := ⟨_, rfl⟩
        have CK0 : ∀ W, Below W0.heap.size W0 W → IsT W (Lt w.heap.size) k' n' a' m' c' e.t → Calls Try.prog 10 #[.agg #[.int .i64 e.n, .int .i64 e.d, .int .i64 k', .int .i64 n', .slice a' m' c']] W fun r w' => r = .returned (.int .i64 (forK e.n e.d e.t)) ∧ Below W.heap.size W w' := fun W _ hT => ref24_Check e k' n' a' m' c' W _ (by omega) hfit.1 hT
        rw [hC] at CP0 CK0
        obtain ⟨fb, hfb⟩ : ∃ fb, (!Ent.has L e.n e.d) = fb := ⟨_, rfl⟩
        rw [hfb] at CP0
        have CK := Lib.hid CK0
        have HT := Lib.hid hT'
        have HCX := Lib.hid hcx
        have HFT := Lib.hid hfit
        have HSTE : Hid (stepE L e = if C = 0 then Ent.put L e else L) := by unfold Hid stepE; rw [hC]
        have HFB := Lib.hid hfb
        have hbw : b < w.heap.size := hF'
        have hne : ∀ y, y < W0.heap.size → some y ≠ some mb := fun y hy e => by injection e with e; omega
        have HNE := Lib.hid hne
        obtain ⟨h0, h1, h2, h3, h4⟩ := hcx
        by_cases hC0 : C = 0
        · subst hC0
          rw [if_pos rfl] at CP0
          have CP : Hid (Calls Try.prog 9 #[.pointer (some ⟨p, 0, none⟩), .agg #[.int .i64 e.n, .int .i64 e.d, .int .i64 k', .int .i64 n', .slice a' m' c']] wr fun r w' => r = .returned (.tuple #[.bool fb, .int .i64 0]) ∧ IsM w' (fun b => w1.heap.size ≤ b) p mb (Ent.put L e) ∧ wr.grownBy w' (some mb)) := by
            refine CP0.mono ?_
            rintro r w' ⟨rfl, h1, h2⟩
            exact ⟨by simp, h1, h2⟩
          have HPL : Hid (stepE L e = Ent.put L e) := by unfold Hid; rw [HSTE.out, if_pos rfl]
          have hpl := (Ent.put_len L e).2
          clear CP0 CK0 hT' hfit hC he hL hjl hF' hne hfb HSTE
          obtain ⟨y0, hy0⟩ : ∃ y0, e.n = y0 := ⟨_, rfl⟩
          obtain ⟨y1, hy1⟩ : ∃ y1, e.d = y1 := ⟨_, rfl⟩
          have HY := Lib.hid (And.intro hy0 hy1)
          rw [hy0] at h0 CP CK
          rw [hy1] at h1 CP CK
          clear hy0 hy1
          go_wp2_with fail
          refine CP.out.mono ?_; rintro r w3 ⟨rfl, hM3, hg3⟩
          have HB3 := Lib.hid (HB.out.grown hg3 (by have := HB.out.size; omega) (fun k hk => by injection hk with e; omega))
          have hz3 := hg3.size
          have hT3 : IsT w3 (Lt w.heap.size) k' n' a' m' c' e.t := HT.out.stay fun y hy hlt => hg3.block y hlt (HNE.out y (by unfold Lt at hy; omega))
          have HT3 := Lib.hid hT3
          have CK3 := Lib.hid (CK.out w3 HB3.out hT3)
          obtain ⟨g0, g1, g2, g3, g4⟩ := five_stay ⟨h0, h1, h2, h3, h4⟩ (hg3.block b hbl (HNE.out b (by omega)))
          have HM3 := Lib.hid hM3
          have HS3 := Lib.hid (HS.out.grown hg3 (fun b hb => hb))
          clear hM3 hg3 CP h0 h1 h2 h3 h4 hT3
          go_wp2_with fail
          refine CK3.out.mono ?_; rintro r w4 ⟨rfl, hb4⟩
          have HB4 := Lib.hid (chain HB3.out hb4)
          have hz4 := hb4.size
          have HM4 := Lib.hid (HM3.out.below hb4)
          have hml4 := HM4.out.lt.2
          obtain ⟨q0, q1, q2, q3, q4⟩ := five_at ⟨g0, g1, g2, g3, g4⟩ hb4
          have CR : Hid (Calls Try.prog 11 #[.slice a2 m2 c2, .agg #[.int .i64 y0, .int .i64 y1, .int .i64 k', .int .i64 n', .slice a' m' c']] w4 fun r w' => ∃ a2 m2 c2, r = .returned (.tuple #[.slice a2 m2 c2, .bool fb]) ∧ IsE w' (fun b => b ≠ mb) a2 m2 c2 (Ent.put L e) ∧ Below w4.heap.size w4 w') := by
            have := ref26_Put L e a2 m2 c2 k' n' a' m' c' w4 (fun b => b ≠ mb) (HS3.out.below hb4) ((HT3.out.below hb4).mono fun b hb => by unfold Lt at hb; omega) HFT.out (by omega) (fun b hb => by omega)
            rw [HFB.out, HY.out.1, HY.out.2] at this
            exact this
          clear hb4 g0 g1 g2 g3 g4 CK3
          go_wp2_with fail
          refine CR.out.mono ?_; rintro r w5 ⟨a5, m5, c5, rfl, hE5, hb5⟩
          have HB5 := Lib.hid (chain HB4.out hb5)
          have hz5 := hb5.size
          have HM5 := Lib.hid (HM4.out.below hb5)
          have hm5 : (Ent.put L e).length = m5 := hE5.len
          have HE5 := Lib.hid hE5
          have CL : Hid (Calls Try.prog 12 #[.pointer (some ⟨p, 0, none⟩)] w5 fun e w' => e = .returned (.int .i64 m5) ∧ Below w5.heap.size w5 w') := by
            have := wmap_Len w1.heap.size p mb (Ent.put L e) w5 HM5.out (by omega) (by
              have h1 := HL2.out.2
              rw [HKS.out, HPL.out] at h1
              have := nodes_le h1
              have : (Ent.put L e).length * 80 ≤ 31 * 80 := Nat.mul_le_mul_right _ (by omega)
              omega)
            rw [hm5] at this
            exact this
          clear hb5 hE5 q0 q1 q2 q3 q4 CR
          go_wp2_with fail
          refine CL.out.mono ?_; rintro r w6 ⟨rfl, hb6⟩
          have HB6 := Lib.hid (chain HB5.out hb6)
          have hz6 := hb6.size
          have HM6 := Lib.hid (HM5.out.below hb6)
          have HE6 := Lib.hid (HE5.out.below hb6)
          clear hb6 CL
          go_wp2_with fail
          go_roundw
          case rel => exact ⟨j + 1, a5, m5, c5, by omega, by go_num, rfl, by rw [HKS.out, HPL.out]; exact HM6, by rw [HKS.out, HPL.out]; exact HE6, HL2, HB6, by omega⟩
          case measure => simp [intOf]; omega
        · rw [if_neg hC0] at CP0
          have CP : Hid (Calls Try.prog 9 #[.pointer (some ⟨p, 0, none⟩), .agg #[.int .i64 e.n, .int .i64 e.d, .int .i64 k', .int .i64 n', .slice a' m' c']] wr fun r w' => r = .returned (.tuple #[.bool false, .int .i64 C]) ∧ IsM w' (fun b => w1.heap.size ≤ b) p mb L ∧ wr.grownBy w' (some mb)) := by
            refine CP0.mono ?_
            rintro r w' ⟨rfl, h1, h2⟩
            exact ⟨by simp [hC0], h1, h2⟩
          have HPL : Hid (stepE L e = L) := by unfold Hid; rw [HSTE.out, if_neg hC0]
          have t1 : (C != 0) = true := by simp [hC0]
          clear CP0 CK0 hT' hfit hC he hL hjl hF' hne hfb HSTE
          obtain ⟨y0, hy0⟩ : ∃ y0, e.n = y0 := ⟨_, rfl⟩
          obtain ⟨y1, hy1⟩ : ∃ y1, e.d = y1 := ⟨_, rfl⟩
          rw [hy0] at h0 CP CK
          rw [hy1] at h1 CP CK
          clear hy0 hy1
          go_wp2_with fail
          refine CP.out.mono ?_; rintro r w3 ⟨rfl, hM3, hg3⟩
          have HB3 := Lib.hid (HB.out.grown hg3 (by have := HB.out.size; omega) (fun k hk => by injection hk with e; omega))
          have hz3 := hg3.size
          have hT3 : IsT w3 (Lt w.heap.size) k' n' a' m' c' e.t := HT.out.stay fun y hy hlt => hg3.block y hlt (HNE.out y (by unfold Lt at hy; omega))
          have CK3 := Lib.hid (CK.out w3 HB3.out hT3)
          obtain ⟨g0, g1, g2, g3, g4⟩ := five_stay ⟨h0, h1, h2, h3, h4⟩ (hg3.block b hbl (HNE.out b (by omega)))
          have HM3 := Lib.hid hM3
          have HS3 := Lib.hid (HS.out.grown hg3 (fun b hb => hb))
          clear hM3 hg3 CP h0 h1 h2 h3 h4 hT3
          go_wp2_with fail
          refine CK3.out.mono ?_; rintro r w4 ⟨rfl, hb4⟩
          have HB4 := Lib.hid (chain HB3.out hb4)
          have hz4 := hb4.size
          have HM4 := Lib.hid (HM3.out.below hb4)
          have HS4 := Lib.hid (HS3.out.below hb4)
          clear hb4 g0 g1 g2 g3 g4 CK3
          go_wp2_with fail
          go_roundw
          case rel => exact ⟨j + 1, a2, m2, c2, by omega, by go_num, rfl, by rw [HKS.out, HPL.out]; exact HM4, by rw [HKS.out, HPL.out]; exact HS4, HL2, HB4, by omega⟩
          case measure => simp [intOf]; omega
      · have hjm : j = m := by omega
        have hE : l.take j = l := List.take_of_length_le (by omega)
        rw [hE] at HM HS HL
        have x1 := (HB.out.block _ hs0).trans HX0.out
        have D0 := block_cell x1 0
        have D1 := block_cell x1 1
        simp at D0 D1
        obtain ⟨L, hL⟩ : ∃ L, knownE l = L := ⟨_, rfl⟩
        rw [hL] at HM HS HL
        obtain ⟨bh, hbh⟩ : ∃ bh, Ent.has L kn kd = bh := ⟨_, rfl⟩
        have HBH := Lib.hid hbh
        obtain rfl : L.length = m2 := HS.out.len
        have hLl := HL.out.1
        have HNN : Hid (entNodes L ≤ 1048576) := by
          have := nodes_le HL.out.2
          have : L.length * 80 ≤ 31 * 80 := Nat.mul_le_mul_right _ (by omega)
          unfold Hid; omega
        have CG := Lib.hid (wmap_Get w1.heap.size p mb L kn kd wr HM.out (fun x hx => by have := HL.out.2 x hx; omega))
        rw [hbh] at CG
        clear hE hL hbh x1
        go_wp2_with fail
        refine CG.out.mono ?_; rintro r w3 ⟨k3, n3, a3, m3, c3, rfl, hT3, hb3⟩
        obtain ⟨W4, hW4, hb4, x4⟩ := box_any w3 #[.int .i64 k3, .int .i64 n3, .slice a3 m3 c3] 34
        have hb34 := chain hb3 hb4
        have HB4 := Lib.hid (chain HB.out hb34)
        have hz4 := hb34.size
        have HM4 := Lib.hid (HM.out.below hb34)
        have HS4 := Lib.hid (HS.out.below hb34)
        have HT4 := Lib.hid (hT3.below hb4)
        have HX4 := Lib.hid x4
        have x1 := (HB4.out.block _ hs0).trans HX0.out
        have E0 := block_cell x1 0
        have E1 := block_cell x1 1
        simp at E0 E1
        have CG2 := Lib.hid (ref26_Get L kn kd a2 L.length c2 W4 _ HS4.out (by omega))
        rw [HBH.out] at CG2
        clear hT3 hb3 hb4 x4 hb34 x1 D0 D1 CG
        go_wp2_with fail
        refine CG2.out.mono ?_; rintro r w5 ⟨k5, n5, a5, m5, c5, rfl, hT5, hb5⟩
        obtain ⟨W6, hW6, hb6, x6⟩ := box_any w5 #[.int .i64 k5, .int .i64 n5, .slice a5 m5 c5] 34
        have hb56 := chain hb5 hb6
        have hz6 := hb56.size
        have HB6 := Lib.hid (chain HB4.out hb56)
        have HM6 := Lib.hid (HM4.out.below hb56)
        have HS6 := Lib.hid (HS4.out.below hb56)
        have x4 := (hb56.block _ (block_lt HX4.out)).trans HX4.out
        have F0 := block_cell x4 0
        have F1 := block_cell x4 1
        have F2 := block_cell x4 2
        have G0 := block_cell x6 0
        have G1 := block_cell x6 1
        have G2 := block_cell x6 2
        simp at F0 F1 F2 G0 G1 G2
        have hgs : (Ent.get L kn kd).size ≤ 4194304 := get_size (fun x hx => by have := HL.out.2 x hx; omega) (by omega) kn kd
        have CD := Lib.hid (ref13_Same (Ent.get L kn kd) (Ent.get L kn kd) k3 n3 a3 m3 c3 k5 n5 a5 m5 c5 W6 _ _ hgs hgs (HT4.out.below hb56) (hT5.below hb6))
        rw [Tr.cmp_me, show decide ((0 : Int) = 0) = true from rfl] at CD
        clear hT5 hb5 hb6 x6 x4 hb56 E0 E1 CG2
        go_wp2_with fail
        refine CD.out.mono ?_; rintro r w7 ⟨rfl, hb7⟩
        have HB7 := Lib.hid (chain HB6.out hb7)
        have hz7 := hb7.size
        have HM7 := Lib.hid (HM6.out.below hb7)
        have HS7 := Lib.hid (HS6.out.below hb7)
        have CE := Lib.hid (wmap_Entries w1.heap.size p mb L w7 HM7.out (by omega) HNN.out)
        clear hb7 F0 F1 F2 G0 G1 G2 CD
        go_wp2_with fail
        refine CE.out.mono ?_; rintro r w8 ⟨a8, m8, c8, rfl, hE8, hb8⟩
        have HB8 := Lib.hid (chain HB7.out hb8)
        have hz8 := hb8.size
        have HE8 := Lib.hid hE8
        have hml7 := HM7.out.lt.2
        have CS := Lib.hid (ref24_Sort L a2 L.length c2 w8 (fun b => b ≠ mb) (HS7.out.below hb8) (by omega) (fun b hb => by omega))
        clear hE8 hb8 CE
        go_wp2_with fail
        refine CS.out.mono ?_; rintro r w9 ⟨a9, m9, c9, rfl, hE9, hb9⟩
        have HB9 := Lib.hid (chain HB8.out hb9)
        have CA := Lib.hid (ref24_All (Ent.sortR [] L) a8 m8 c8 a9 m9 c9 w9 _ _ (HE8.out.below hb9) hE9 (by rw [nodes_perm (sort_self L)]; exact HNN.out))
        clear hE9 hb9 CS
        go_wp2_with fail
        refine CA.out.mono ?_; rintro r w10 ⟨rfl, hb10⟩
        have HB10 := Lib.hid (chain HB9.out hb10)
        clear hb10 CA
        go_wp2_with fail
        refine (live26 _).mono ?_; rintro r w11 ⟨rfl, hb11⟩
        have HB11 := Lib.hid (chain HB0.out (chain HB10.out hb11))
        clear hb11
        go_wp2_with fail
        go_ret
        exact ⟨rfl, HB11.out⟩
end Go.Proofs.Ytonffapiamhdbaa

namespace Go.Proofs.Ytonffapiamhdbaa
open Go.RowKit
set_option linter.unusedVariables false
set_option linter.unusedSimpArgs false
set_option maxRecDepth 100000
set_option maxRecDepth 20000
theorem three_get {x y z : Value} {r : Nat} {s : Value} (h : [x, y, z][r]? = some s) : (r = 0 ∧ s = x) ∨ (r = 1 ∧ s = y) ∨ (r = 2 ∧ s = z) := by
  match r, h with
  | 0, h => simp at h; simp [h]
  | 1, h => simp at h; simp [h]
  | 2, h => simp at h; simp [h]
/-- The cells of a tree's kids. -/
theorem kids_src {w : World} {F : Nat → Prop} {k n : Int} {a : Option Addr} {m c : Nat} {t : Tr} (h : IsT w F k n a m c t) : ∃ xs, CellsT w F xs t.kids ∧ ∀ A, a = some A → ∀ j u, xs[j]? = some u → w.cell? (A.add j) = some u := by
  have : ∀ q, q ≤ m → ∃ xs, CellsT w F xs (t.kids.take q) ∧ ∀ A, a = some A → ∀ j u, xs[j]? = some u → w.cell? (A.add j) = some u := by
    intro q
    induction q with
    | zero => intro _; exact ⟨[], .nil, fun A _ j u hu => by simp at hu⟩
    | succ q ih =>
      intro hq
      obtain ⟨xs, h1, h2⟩ := ih (by omega)
      obtain ⟨b, off, k', n', a', m', c', rfl, _, _, g0, g1, g2, hT⟩ := h.kid q (by omega)
      have hql : q < t.kids.length := by rw [← h.em]; omega
      refine ⟨xs ++ [.int .i64 k', .int .i64 n', .slice a' m' c'], by rw [Tr.take_kid hql]; exact h1.append (.cons hT .nil), fun A hA j u hu => ?_⟩
      have hxl : xs.length = q * 3 := by rw [h1.len, List.length_take]; congr 1; omega
      by_cases hj : j < xs.length
      · rw [List.getElem?_append_left hj] at hu
        exact h2 A hA j u hu
      · rw [List.getElem?_append_right (by omega)] at hu
        injection hA with hA
        rw [← hA, add_none]
        rcases three_get hu with ⟨e, rfl⟩ | ⟨e, rfl⟩ | ⟨e, rfl⟩
        · rw [show off + j = off + q * 3 by omega]; exact g0
        · rw [show off + j = off + q * 3 + 1 by omega]; exact g1
        · rw [show off + j = off + q * 3 + 2 by omega]; exact g2
  obtain ⟨xs, h1, h2⟩ := this m (Nat.le_refl _)
  rw [List.take_of_length_le (by rw [h.em]; exact Nat.le_refl _)] at h1
  exact ⟨xs, h1, h2⟩
/-- Nothing known: where its trees lie is free. -/
theorem IsM.free {w : World} {F G : Nat → Prop} {p mb : Nat} (h : IsM w F p mb []) : IsM w G p mb [] := by
  obtain ⟨xs, h1, h2⟩ := h.tab
  have : xs = [] := List.eq_nil_of_length_eq_zero h2.len
  subst this
  exact ⟨h.ptr, h.ne, ⟨[], h1, .nil⟩, h.keys⟩
theorem own_zero3 (X : World) (B : Nat) (hB : B ≤ X.heap.size) : (X.alloc (.cells #[] 34)).ownsRow B 34 3 (.slice (some ⟨X.heap.size, 0, none⟩) 0 0) 0 [] :=
  ⟨rfl, .inr ⟨X.heap.size, 0, #[], rfl, hB, block_new rfl, Nat.le_refl _, by unfold maxLen; omega, rfl, rfl⟩⟩
set_option maxHeartbeats 8000000 in
theorem wmapNilsW (e : Ent) (k n : Int) (a : Option Addr) (m c : Nat) (w : World) (hf : fits .i64 e.n ∧ fits .i64 e.d) (hs : e.t.size ≤ 1048576) (hT : IsT w (fun _ => True) k n a m c e.t) :
    Calls Try.prog 5 #[.agg #[.int .i64 e.n, .int .i64 e.d, .int .i64 k, .int .i64 n, .slice a m c]] w fun r w' => r = .returned (.bool true) ∧ Below w.heap.size w w' := by
  obtain ⟨W0, hW0, hb0, x0⟩ := box_any w #[.int .i64 e.n, .int .i64 e.d, .int .i64 k, .int .i64 n, .slice a m c] 36
  have HT := Lib.hid ((hT.inn.below hb0).mono (G := Lt w.heap.size) fun b hb => hb.2)
  have HB0 := Lib.hid hb0
  have hs0 := block_lt x0
  have p0 := block_cell x0 0
  have p1 := block_cell x0 1
  have p2 := block_cell x0 2
  have p3 := block_cell x0 3
  have p4 := block_cell x0 4
  simp at p0 p1 p2 p3 p4
  have HP := Lib.hid (And.intro p0 (And.intro p1 (And.intro p2 (And.intro p3 p4))))
  have HFT := Lib.hid hf
  have HM := Lib.hid hT.em
  have hksz : m ≤ 1048576 := by have := Tr.len_le_sizeL e.t.kids; have := Tr.size_kids e.t; rw [hT.em]; omega
  have hE1 : Ent.has [e] e.n e.d = true := by simp [Ent.has]
  have hE2 : Ent.get [e] e.n e.d = e.t := by simp [Ent.get]
  have HEE := Lib.hid (And.intro hE1 hE2)
  obtain ⟨C, hC⟩ : ∃ C, forK e.n e.d e.t = C := ⟨_, rfl⟩
  have HC := Lib.hid hC
  obtain ⟨y0, hy0⟩ : ∃ y, e.n = y := ⟨_, rfl⟩
  obtain ⟨y1, hy1⟩ : ∃ y, e.d = y := ⟨_, rfl⟩
  have HY := Lib.hid (And.intro hy0 hy1)
  rw [hy0] at p0 HP hW0 ⊢
  rw [hy1] at p1 HP hW0 ⊢
  have HW0 := Lib.hid hW0
  clear hb0 x0 hf hT hE1 hE2 hC hy0 hy1
  go_enter Try.func5, Try.ntmps5
  go_wp2_with fail
  try rw [HW0.out]
  refine (nil_Put _ _ _ _ _ _ _ _).mono ?_; rintro r w1 ⟨rfl, hb1⟩
  have HB1 := Lib.hid hb1
  obtain ⟨q0, q1, q2, q3, q4⟩ := five_at HP.out hb1
  obtain ⟨W2, hW2, hb2, _, _, _, _, _⟩ := box_below w1 y0 y1 k n a m c
  clear hb1 p0 p1 p2 p3 p4 hW0
  have HB2 := Lib.hid (chain HB1.out hb2)
  clear hb2
  go_wp2_with fail
  refine (nil_Merge _ _).mono ?_; rintro r w3 ⟨rfl, hb3⟩
  have HB3 := Lib.hid (chain HB2.out hb3)
  clear hb3 q0 q1 q2 q3 q4
  obtain ⟨q0, q1, q2, q3, q4⟩ := five_at HP.out HB3.out
  go_wp2_with fail
  refine (nil_Get _ _ _).mono ?_; rintro r w4 ⟨rfl, hb4⟩
  have HB4 := Lib.hid (chain HB3.out hb4)
  have CD : Hid (∀ W, Calls Try.prog 15 #[.agg #[.int .i64 0, .int .i64 0, .slice none 0 0], .agg #[.int .i64 0, .int .i64 0, .slice none 0 0]] W fun e w' => e = .returned (.bool true) ∧ Below W.heap.size W w') := fun W => by
    have := ref13_Same (.node 0 0 []) (.node 0 0 []) 0 0 none 0 0 0 0 none 0 0 W (fun _ => True) (fun _ => True) (by decide) (by decide) (zero_isW _ _) (zero_isW _ _)
    rw [Tr.cmp_me, show decide ((0 : Int) = 0) = true from rfl] at this
    exact this
  clear hb4 q0 q1 q2 q3 q4
  go_wp2_with fail
  refine (CD.out _).mono ?_; rintro r w6 ⟨rfl, hb6⟩
  have HB6 : Hid (Below W0.heap.size W0 w6) := chain HB4.out (chain ((Below.refl w4.heap.size w4).alloc (Nat.le_refl _) _) hb6)
  clear hb6 CD
  go_wp2_with fail
  refine (nil_Len _).mono ?_; rintro r w7 ⟨rfl, hb7⟩
  have HB7 := Lib.hid (chain HB6.out hb7)
  clear hb7
  go_wp2_with fail
  refine (nil_Entries _).mono ?_; rintro r w8 ⟨rfl, hb8⟩
  have HB8 := Lib.hid (chain HB7.out hb8)
  clear hb8
  obtain ⟨q0, q1, q2, q3, q4⟩ := five_at HP.out HB8.out
  have CMU := Lib.hid (ref_Much e.t k n a m c w8 w8.heap.size (by omega) (HT.out.below HB8.out).lt (Nat.le_refl _))
  obtain ⟨b0, hb0⟩ : ∃ b0, decide (80 < e.t.size) = b0 := ⟨_, rfl⟩
  rw [hb0] at CMU
  clear hb0
  go_wp2_with fail
  refine CMU.out.mono ?_; rintro r w9 ⟨rfl, hb9⟩
  have HB9 := Lib.hid (chain HB8.out hb9)
  clear hb9 q0 q1 q2 q3 q4 CMU
  have CLV : Hid (∀ W, Below W0.heap.size W0 W → Calls Try.prog 7 #[] W fun e w' => e = .returned (.bool true) ∧ Below w.heap.size w w') := fun W hb => (live26 W).mono fun r w' ⟨h1, h2⟩ => ⟨h1, chain HB0.out (chain hb h2)⟩
  obtain ⟨q0, q1, q2, q3, q4⟩ := five_at HP.out HB9.out
  cases b0 with
  | true =>
    have CL := Lib.hid (CLV.out _ HB9.out)
    go_wp2_with fail
    refine CL.out.mono ?_; rintro r w10 ⟨rfl, hb10⟩
    have HB10 := Lib.hid hb10
    clear hb10
    go_wp2_with fail
    go_ret
    exact ⟨rfl, HB10.out⟩
  | false =>
    have CC : Hid (Calls Try.prog 10 #[.agg #[.int .i64 y0, .int .i64 y1, .int .i64 k, .int .i64 n, .slice a m c]] w9 fun r w' => r = .returned (.int .i64 C) ∧ Below w9.heap.size w9 w') := by
      have := ref24_Check e k n a m c w9 _ (by omega) HFT.out.1 (HT.out.below HB9.out)
      rw [HC.out, HY.out.1, HY.out.2] at this
      exact this
    go_wp2_with fail
    refine CC.out.mono ?_; rintro r w10 ⟨rfl, hb10⟩
    have HB10 := Lib.hid (chain HB9.out hb10)
    clear hb10 CC q0 q1 q2 q3 q4
    obtain ⟨q0, q1, q2, q3, q4⟩ := five_at HP.out HB10.out
    have CL := Lib.hid (CLV.out _ HB10.out)
    by_cases hC0 : C = 0
    · subst hC0
      by_cases hm0 : m = 0
      · have t1 : ((m : Int) == 0) = true := by rw [hm0]; rfl
        go_wp2_with fail
        refine CL.out.mono ?_; rintro r w11 ⟨rfl, hb11⟩
        have HB11 := Lib.hid hb11
        clear hb11
        go_wp2_with fail
        go_ret
        exact ⟨rfl, HB11.out⟩
      · have t1 : ((m : Int) == 0) = false := by rw [beq_eq_false_iff_ne]; omega
        go_wp2_with fail
        refine (wmap_New _).mono ?_; rintro r w11 ⟨p, mb, rfl, hM11, hp, hmb, hb11⟩
        have HB11 := Lib.hid (chain HB10.out hb11)
        have hs10 := HB10.out.size
        have hs11 := HB11.out.size
        have HM11 := Lib.hid hM11
        have hpl := hM11.lt.1
        have hml := hM11.lt.2
        obtain ⟨i0, hi, hz0, hz1, hz2⟩ := info_parts info_desc
        obtain ⟨W12, hW12, hb12, x12⟩ := box_any w11 #[] 34
        have hb12s : W12.heap.size = w11.heap.size + 1 := by rw [← hW12]; simp
        have HB12 := Lib.hid (chain HB11.out hb12)
        have hown0 : W12.ownsRow w11.heap.size 34 3 (.slice (some ⟨w11.heap.size, 0, none⟩) 0 0) 0 [] := by rw [← hW12]; exact own_zero3 w11 w11.heap.size (Nat.le_refl _)
        have HOW0 := Lib.hid hown0
        have HB12b := Lib.hid hb12
        obtain ⟨ys, hys, hcs⟩ := kids_src (HT.out.below HB12.out)
        obtain ⟨b, off, _, _, _, _, _, ha, _, _, _, _, _, _⟩ := (HT.out.below HB12.out).kid 0 (by omega)
        subst ha
        have hyl : ys.length = m * 3 := by rw [hys.len, HM.out]
        have HYS := Lib.hid hys
        have HCS := Lib.hid (hcs ⟨b, off, none⟩ rfl)
        have HYL := Lib.hid hyl
        clear q0 q1 q2 q3 q4 hb12 x12 hown0 hys hcs hyl hM11 hb11 CL
        obtain ⟨q0, q1, q2, q3, q4⟩ := five_at HP.out HB12.out
        go_wp2_with (at_builtin; refine wpList_append_lies _ rfl _ _ 32 rfl w11.heap.size 34 i0 _ 3 40 Try.underlying32 hi hz0 hz1 hz2 rfl (by decide) _ 0 [] rfl HOW0.out ⟨b, off, none⟩ m c ys rfl HYL.out HCS.out HYS.out.oneCell (by omega) (by unfold maxLen; omega) (by omega) (by omega) _ rfl ?_)
        intro g cap w13 hown hgrow hor hlt13
        have hg1 : w11.heap.size ≤ g := (hown.lt g rfl).1
        have hb13 : Below w11.heap.size W12 w13 := (Below.refl w11.heap.size W12).grown hgrow (by omega) (fun k hk => by simp only [Value.ownBlock, Option.some.injEq] at hk; omega)
        have hst13 : ∀ b, b < w11.heap.size → w13.heap[b]? = W12.heap[b]? := fun b hb => hb13.block b hb
        have HB13 : Hid (Below W0.heap.size W0 w13) := HB12.out.grown hgrow (by have := HB12.out.size; omega) (fun k hk => by simp only [Value.ownBlock, Option.some.injEq] at hk; omega)
        have hys13 : CellsT w13 (Lt w.heap.size) ys e.t.kids := HYS.out.stay fun b hb _ => hst13 b (by unfold Lt at hb; omega)
        have hT13 : IsT w13 (fun _ => True) k n (some ⟨g, 0, none⟩) m cap e.t := ⟨HT.out.ek, HT.out.en, HT.out.em, HT.out.ok, kids_of_own hown hys13 (by rw [HM.out]) (fun _ _ => trivial) (fun _ _ => trivial)⟩
        have hst : ∀ b, b < w11.heap.size → w13.heap[b]? = w11.heap[b]? := fun b hb => (hst13 b hb).trans (HB12b.out.block b hb)
        have hM13 : IsM w13 (fun b => w13.heap.size ≤ b) p mb [] := ((HM11.out.free (G := fun _ => False)).stay (hst p hpl) (hst mb hml) (fun b hb _ => hb.elim)).free
        have CP : Hid (Calls Try.prog 9 #[.pointer (some ⟨p, 0, none⟩), .agg #[.int .i64 y0, .int .i64 y1, .int .i64 k, .int .i64 n, .slice (some ⟨g, 0, none⟩) m cap]] w13 fun r w' => r = .returned (.tuple #[.bool true, .int .i64 0]) ∧ IsM w' (fun b => w13.heap.size ≤ b) p mb [e] ∧ w13.grownBy w' (some mb)) := by
          have := wmap_Put w13.heap.size p mb [] e k n (some ⟨g, 0, none⟩) m cap w13 _ hM13 (Nat.le_refl _) HFT.out (by omega) hT13
          rw [HC.out, if_pos rfl, HY.out.1, HY.out.2] at this
          exact this
        obtain ⟨cur, hgc, hcsz, hmc⟩ : ∃ cur, w13.heap[g]? = some (.cells cur 34 (0, 0)) ∧ cur.size = cap * 3 ∧ m ≤ cap := by
          rcases hown.2 with ⟨hv, _⟩ | ⟨g', cap', cur, hv, _, hg', hnc, _, hcs, _⟩
          · cases hv
          · simp only [Value.slice.injEq, Option.some.injEq, Addr.mk.injEq, true_and, and_true] at hv
            obtain ⟨rfl, rfl⟩ := hv
            exact ⟨cur, hg', hcs, hnc⟩
        have HGC := Lib.hid hgc
        clear q0 q1 q2 q3 q4 hown hgrow hor hb13 hst13 hys13 hT13 hst hM13 hgc
        obtain ⟨q0, q1, q2, q3, q4⟩ := five_at HP.out HB13.out
        go_wp2_with fail
        refine CP.out.mono ?_; rintro r w14 ⟨rfl, hM14, hg14⟩
        have HB14 : Hid (Below W0.heap.size W0 w14) := HB13.out.grown hg14 (by have := HB13.out.size; omega) (fun k hk => by injection hk with e; omega)
        have x14 := (hg14.block g hlt13 (fun e => by injection e with e; omega)).trans HGC.out
        have hz14 := hg14.size
        have f0 := block_free x14 0
        have f1 := block_free x14 1
        have f2 := block_free x14 2
        obtain ⟨v0, c0⟩ : ∃ v, w14.cell? ⟨g, 0, none⟩ = some v := ⟨_, (block_cell x14 0).trans (Array.getElem?_eq_getElem (by omega))⟩
        obtain ⟨v1, c1⟩ : ∃ v, w14.cell? ⟨g, 1, none⟩ = some v := ⟨_, (block_cell x14 1).trans (Array.getElem?_eq_getElem (by omega))⟩
        obtain ⟨v2, c2⟩ : ∃ v, w14.cell? ⟨g, 2, none⟩ = some v := ⟨_, (block_cell x14 2).trans (Array.getElem?_eq_getElem (by omega))⟩
        have HM14 := Lib.hid hM14
        clear q0 q1 q2 q3 q4 x14 hM14 hg14 CP
        go_upto_region 13 with fail
        obtain ⟨w15, hw15⟩ : ∃ w15, ((w14.setCell ⟨g, 0, none⟩ (.int .i64 0)).setCell ⟨g, 1, none⟩ (.int .i64 0)).setCell ⟨g, 2, none⟩ (.slice none 0 0) = w15 := ⟨_, rfl⟩
        rw [hw15]
        have hfar : ∀ b, b ≠ g → w15.heap[b]? = w14.heap[b]? := fun b hb => by rw [← hw15, set_far _ _ _ _ hb, set_far _ _ _ _ hb, set_far _ _ _ _ hb]
        have HB15 : Hid (Below W0.heap.size W0 w15) := by
          unfold Hid
          rw [← hw15]
          exact ((HB14.out.setCell (by show W0.heap.size ≤ g; omega) _).setCell (by show W0.heap.size ≤ g; omega) _).setCell (by show W0.heap.size ≤ g; omega) _
        have HM15 : Hid (IsM w15 (fun b => w13.heap.size ≤ b) p mb [e]) := HM14.out.stay (hfar p (by omega)) (hfar mb (by omega)) (fun b hb _ => hfar b (by omega))
        have CG : Hid (Calls Try.prog 13 #[.pointer (some ⟨p, 0, none⟩), .agg #[.int .i64 y0, .int .i64 y1]] w15 fun r w' => ∃ k nn a m c, r = .returned (.tuple #[.agg #[.int .i64 k, .int .i64 nn, .slice a m c], .bool true]) ∧ IsT w' (fun b => w15.heap.size ≤ b) k nn a m c e.t ∧ Below w15.heap.size w15 w') := by
          have := wmap_Get w13.heap.size p mb [e] e.n e.d w15 HM15.out (fun x hx => by rw [List.mem_singleton] at hx; rw [hx]; omega)
          rw [HEE.out.1, HEE.out.2, HY.out.1, HY.out.2] at this
          exact this
        clear hfar hw15 f0 f1 f2 c0 c1 c2
        obtain ⟨q0, q1, q2, q3, q4⟩ := five_at HP.out HB15.out
        go_wp2_with fail
        refine CG.out.mono ?_; rintro r w16 ⟨k6, n6, a6, m6, c6, rfl, hT16, hb16⟩
        obtain ⟨W17, hW17, hb17, x17⟩ := box_any w16 #[.int .i64 k6, .int .i64 n6, .slice a6 m6 c6] 34
        have HB17 := Lib.hid (chain HB15.out (chain hb16 hb17))
        have g0 := block_cell x17 0
        have g1 := block_cell x17 1
        have g2 := block_cell x17 2
        simp at g0 g1 g2
        have CD2 := Lib.hid (ref13_Same e.t e.t k6 n6 a6 m6 c6 k n (some ⟨b, off, none⟩) m c W17 _ _ (by omega) (by omega) (hT16.below hb17) (HT.out.below HB17.out))
        rw [Tr.cmp_me, show decide ((0 : Int) = 0) = true from rfl] at CD2
        clear q0 q1 q2 q3 q4 hT16 hb16 hb17 x17 CG
        obtain ⟨q0, q1, q2, q3, q4⟩ := five_at HP.out HB17.out
        go_wp2_with fail
        refine CD2.out.mono ?_; rintro r w18 ⟨rfl, hb18⟩
        have CL2 := Lib.hid (CLV.out _ (chain HB17.out hb18))
        clear hb18 CD2 q0 q1 q2 q3 q4 g0 g1 g2
        go_wp2_with fail
        refine CL2.out.mono ?_; rintro r w19 ⟨rfl, hb19⟩
        have HB19 := Lib.hid hb19
        clear hb19
        go_wp2_with fail
        go_ret
        exact ⟨rfl, HB19.out⟩
    · have t1 : (C != 0) = true := by simp [hC0]
      go_wp2_with fail
      refine CL.out.mono ?_; rintro r w11 ⟨rfl, hb11⟩
      have HB11 := Lib.hid hb11
      clear hb11
      go_wp2_with fail
      go_ret
      exact ⟨rfl, HB11.out⟩
end Go.Proofs.Ytonffapiamhdbaa

