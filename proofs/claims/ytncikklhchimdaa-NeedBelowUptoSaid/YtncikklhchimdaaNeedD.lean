/- Contracts: how often a plan names a table. The program. -/
import Derived.Test.YtncikklhchimdaaNeedC
namespace Go.Proofs.Ytncikklhchimdaa
open Go.RowKit
set_option linter.unusedVariables false
set_option linter.unusedSimpArgs false
set_option maxRecDepth 100000
set_option maxRecDepth 20000

/-- What holds when some names have been told to the one who counts. -/
def CountJ (w0 : World) (bt bn : Nat) (t : Nm) (pre : List Nm) (W : World) : Prop :=
  Below w0.heap.size w0 W ∧ W.heap[bt]? = some (.cells #[.int .i64 t.1, .int .i64 t.2.1, .int .i64 t.2.2.1, .int .i64 t.2.2.2] 57 (0, 0)) ∧ W.heap[bn]? = some (.cells #[.int .i64 (pre.count t : Nat)] 3 (0, 0))

theorem CountJ.later {w0 : World} {bt bn : Nat} {t : Nm} {pre : List Nm} {W W' : World} (h : CountJ w0 bt bn t pre W) (hb : Below W.heap.size W W') : CountJ w0 bt bn t pre W' :=
  ⟨h.1.trans (hb.mono h.1.size), (hb.block _ (block_lt h.2.1)).trans h.2.1, (hb.block _ (block_lt h.2.2)).trans h.2.2⟩
set_option maxHeartbeats 1000000 in
theorem count_call (w0 : World) (bt bn : Nat) (t : Nm) (h0 : w0.heap.size ≤ bn) (pre : List Nm) (k n m d : Int) (W : World) (hJ : CountJ w0 bt bn t pre W) (hl : pre.length < 16777216) :
    Calls Try.prog 91 #[.agg #[.int .i64 k, .int .i64 n, .int .i64 m, .int .i64 d], .pointer (some ⟨bt, 0, none⟩), .pointer (some ⟨bn, 0, none⟩)] W fun e W' => e = .returned (.tuple #[]) ∧ CountJ w0 bt bn t (pre ++ [(k, n, m, d)]) W' ∧ KeepsD W W' := by
  obtain ⟨hb, ht, hn⟩ := hJ
  obtain ⟨t1, t2, t3, t4⟩ := t
  simp only at ht
  have hbn := block_lt hn
  have hbt := block_lt ht
  have hc : pre.count (t1, t2, t3, t4) ≤ pre.length := List.count_le_length
  have HCN : Hid ((pre ++ [(k, n, m, d)]).count (t1, t2, t3, t4) = pre.count (t1, t2, t3, t4) + if (k, n, m, d) = (t1, t2, t3, t4) then 1 else 0) := by
    unfold Hid
    rw [List.count_append, List.count_singleton]
    simp only [beq_iff_eq]
  obtain ⟨q, hq⟩ : ∃ q, pre.count (t1, t2, t3, t4) = q := ⟨_, rfl⟩
  rw [hq] at hn hc HCN
  obtain ⟨W0, hW0, hb0, x0⟩ := box_any W #[.int .i64 k, .int .i64 n, .int .i64 m, .int .i64 d] 57
  have HW0 := Lib.hid hW0
  have hn0 := (hb0.block bn hbn).trans hn
  have ht0 := (hb0.block bt hbt).trans ht
  have T0 : (W.alloc (.cells #[.int .i64 k, .int .i64 n, .int .i64 m, .int .i64 d] 57)).cell? ⟨bt, 0, none⟩ = some (.int .i64 t1) := by rw [hW0]; exact block_cell ht0 0
  have T1 : (W.alloc (.cells #[.int .i64 k, .int .i64 n, .int .i64 m, .int .i64 d] 57)).cell? ⟨bt, 1, none⟩ = some (.int .i64 t2) := by rw [hW0]; exact block_cell ht0 1
  have T2 : (W.alloc (.cells #[.int .i64 k, .int .i64 n, .int .i64 m, .int .i64 d] 57)).cell? ⟨bt, 2, none⟩ = some (.int .i64 t3) := by rw [hW0]; exact block_cell ht0 2
  have T3 : (W.alloc (.cells #[.int .i64 k, .int .i64 n, .int .i64 m, .int .i64 d] 57)).cell? ⟨bt, 3, none⟩ = some (.int .i64 t4) := by rw [hW0]; exact block_cell ht0 3
  have N0 : (W.alloc (.cells #[.int .i64 k, .int .i64 n, .int .i64 m, .int .i64 d] 57)).cell? ⟨bn, 0, none⟩ = some (.int .i64 q) := by rw [hW0]; exact block_cell hn0 0
  have NF : (W.alloc (.cells #[.int .i64 k, .int .i64 n, .int .i64 m, .int .i64 d] 57)).frozen? ⟨bn, 0, none⟩ = false := by rw [hW0]; exact block_free hn0 0
  have HN0 := Lib.hid hn
  have HT0 := Lib.hid ht
  have HBB := Lib.hid hb
  have HB0 := Lib.hid hb0
  have heq := fun W : World => name_eqB (k, n, m, d) (t1, t2, t3, t4) W
  simp only [nv] at heq
  clear hb ht hn hq hn0 ht0 hW0 hb0 x0
  by_cases he : (k, n, m, d) = (t1, t2, t3, t4)
  · rw [if_pos he] at HCN
    rw [decide_eq_true he] at heq
    have hne : bt ≠ bn := fun e => by
      have := HN0.out; rw [← e, HT0.out] at this; simp at this
    simp only [Prod.mk.injEq] at he
    obtain ⟨rfl, rfl, rfl, rfl⟩ := he
    go_enter Try.func91, Try.ntmps91
    go_wp2_with fail
    have hJ : CountJ w0 bt bn (k, n, m, d) (pre ++ [(k, n, m, d)]) (W.setCell ⟨bn, 0, none⟩ (.int .i64 ((q : Int) + 1))) := by
      refine ⟨HBB.out.setCell (p := ⟨bn, 0, none⟩) h0 _, ?_, ?_⟩
      · rw [set_far _ _ _ _ hne]; exact HT0.out
      · rw [block_set HN0.out 0 _, HCN.out]; simp
    have hK : KeepsD W (W.setCell ⟨bn, 0, none⟩ (.int .i64 ((q : Int) + 1))) := fun b cs hx => by
      have hnb : b ≠ bn := fun e => by
        rw [e, HN0.out] at hx
        simp at hx
      rw [set_far _ _ _ _ hnb]
      exact hx
    go_end0
    exact ⟨rfl, hJ.later ((Below.refl _ _).alloc (Nat.le_refl _) _), hK.trans (KeepsD.of_below ((Below.refl _ _).alloc (Nat.le_refl _) _))⟩
  · rw [if_neg he] at HCN
    clear heq
    rcases (show k ≠ t1 ∨ (k = t1 ∧ n ≠ t2) ∨ (k = t1 ∧ n = t2 ∧ m ≠ t3) ∨ (k = t1 ∧ n = t2 ∧ m = t3 ∧ d ≠ t4) by simp only [Prod.mk.injEq] at he; omega) with h | ⟨rfl, h⟩ | ⟨rfl, rfl, h⟩ | ⟨rfl, rfl, rfl, h⟩
    all_goals
      clear he
      go_enter Try.func91, Try.ntmps91
      go_wp2_with fail
      go_end0
      exact ⟨rfl, CountJ.later ⟨HBB.out, HT0.out, by rw [HCN.out]; exact HN0.out⟩ ((Below.refl _ _).alloc (Nat.le_refl _) _), KeepsD.of_below ((Below.refl _ _).alloc (Nat.le_refl _) _)⟩

theorem need_check (t : Tr) (k n : Int) (a : Option Addr) (m cap : Nat) (dir : Int) (w : World) (F : Nat → Prop) (hs : t.size ≤ 4194304) (hT : IsT w F k n a m cap t) :
    Calls Try.prog 85 #[.agg #[.int .i64 k, .int .i64 n, .slice a m cap], .int .i64 dir] w fun e w' => e = .returned (.int .i64 (if dir ≠ 0 ∧ dir ≠ 1 then 2 else chk t)) ∧ Below w.heap.size w w' := by
  by_cases hd : dir ≠ 0 ∧ dir ≠ 1
  · rw [if_pos hd]
    have t0 : (dir != 0) = true := bdiff hd.1
    have t1 : (dir != 1) = true := bdiff hd.2
    clear hd hT
    go_enter Try.func85, Try.ntmps85
    go_wp2_with fail
    go_ret
    exact ⟨rfl, (Below.refl _ _).alloc (Nat.le_refl _) _⟩
  · rw [if_neg hd]
    have CC : Hid (∀ W, Below w.heap.size w W → Calls Try.prog 17 #[.agg #[.int .i64 k, .int .i64 n, .slice a m cap]] W fun e w' => e = .returned (.int .i64 (chk t)) ∧ Below W.heap.size W w') := fun W hb => valid_Check t k n a m cap W F hs (hT.below hb)
    rcases (show dir = 0 ∨ dir = 1 by omega) with rfl | rfl
    all_goals
      clear hd hT
      go_enter Try.func85, Try.ntmps85
      go_wp2_with fail
      refine (CC.out _ ((Below.refl _ _).alloc (Nat.le_refl _) _)).mono ?_; rintro e w1 ⟨rfl, hb⟩
      have hb1 := chainA (Below.refl w.heap.size w) hb
      clear hb
      go_wp2_with fail
      go_ret
      exact ⟨rfl, hb1⟩

/-- The names of a tree in a direction, if it may be asked. -/
def namesB (t : Tr) (dir : Int) : List Nm := if (dir ≠ 0 ∧ dir ≠ 1) ∨ chk t ≠ 0 then [] else t.names dir
set_option maxHeartbeats 2000000 in
theorem need_Times (t : Tr) (k n : Int) (a : Option Addr) (m cap : Nat) (dir : Int) (x : Nm) (w : World) (F : Nat → Prop) (hs : t.size ≤ 4194304) (hT : IsT w F k n a m cap t) :
    Calls Try.prog 41 #[.agg #[.int .i64 k, .int .i64 n, .slice a m cap], .int .i64 dir, .agg #[.int .i64 x.1, .int .i64 x.2.1, .int .i64 x.2.2.1, .int .i64 x.2.2.2]] w fun e w' => e = .returned (.int .i64 ((namesB t dir).count x : Nat)) ∧ Below w.heap.size w w' := by
  have CK : Hid (∀ W, Below w.heap.size w W → Calls Try.prog 85 #[.agg #[.int .i64 k, .int .i64 n, .slice a m cap], .int .i64 dir] W fun e w' => e = .returned (.int .i64 (if dir ≠ 0 ∧ dir ≠ 1 then 2 else chk t)) ∧ Below W.heap.size W w') := fun W hb => need_check t k n a m cap dir W F hs (hT.below hb)
  have HT := Lib.hid hT.lt
  have HS := Lib.hid hs
  obtain ⟨x1, x2, x3, x4⟩ := x
  simp only
  obtain ⟨W0, hW0⟩ : ∃ W0, ((w.alloc (.cells #[.int .i64 k, .int .i64 n, .slice a m cap] 24)).alloc (.cells #[.int .i64 x1, .int .i64 x2, .int .i64 x3, .int .i64 x4] 57)).alloc (.cells #[.int .i64 0] 3) = W0 := ⟨_, rfl⟩
  have hb0 : Below w.heap.size w W0 := by rw [← hW0]; exact (((Below.refl _ _).alloc (Nat.le_refl _) _).alloc (by simp) _).alloc (by simp <;> omega) _
  have xd : W0.heap[w.heap.size]? = some (.cells #[.int .i64 k, .int .i64 n, .slice a m cap] 24 (0, 0)) := by rw [← hW0]; exact block_old (by simp <;> omega) (block_old (by simp) (block_new rfl))
  have xt : W0.heap[w.heap.size + 1]? = some (.cells #[.int .i64 x1, .int .i64 x2, .int .i64 x3, .int .i64 x4] 57 (0, 0)) := by rw [← hW0]; exact block_old (by simp) (block_new (by simp))
  have xn : W0.heap[w.heap.size + 1 + 1]? = some (.cells #[.int .i64 0] 3 (0, 0)) := by rw [← hW0]; exact block_new (by simp)
  have HB := Lib.hid hb0
  have XD := Lib.hid xd
  have XT := Lib.hid xt
  have XN := Lib.hid xn
  have HW0 := Lib.hid hW0
  have HV : Hid (∀ C, (if dir ≠ 0 ∧ dir ≠ 1 then 2 else chk t) = C → (C ≠ 0 → (namesB t dir).count (x1, x2, x3, x4) = 0) ∧ (C = 0 → (dir = 0 ∨ dir = 1) ∧ chk t = 0 ∧ namesB t dir = t.names dir)) := fun C hC => by
    unfold namesB
    by_cases hd : dir ≠ 0 ∧ dir ≠ 1
    · rw [if_pos hd] at hC; subst hC; rw [if_pos (.inl hd)]; exact ⟨fun _ => rfl, fun h => by omega⟩
    · rw [if_neg hd] at hC
      subst hC
      refine ⟨fun h => by rw [if_pos (.inr h)]; rfl, fun h => ⟨by omega, h, if_neg (fun h2 => h2.elim hd (fun h3 => h3 h))⟩⟩
  obtain ⟨C, hC⟩ : ∃ C, (if dir ≠ 0 ∧ dir ≠ 1 then 2 else chk t) = C := ⟨_, rfl⟩
  have HVC := Lib.hid (HV.out C hC)
  rw [hC] at CK
  have D0 : W0.cell? ⟨w.heap.size, 0, none⟩ = some (.int .i64 k) := block_cell xd 0
  have D1 : W0.cell? ⟨w.heap.size, 1, none⟩ = some (.int .i64 n) := block_cell xd 1
  have D2 : W0.cell? ⟨w.heap.size, 2, none⟩ = some (.slice a m cap) := block_cell xd 2
  clear hT hs hW0 hb0 xd xt xn HV hC
  by_cases hc : C = 0
  · subst hc
    obtain ⟨hd, hck, hnm⟩ := HVC.out.2 rfl
    rw [hnm]
    have hsz : t.size ≤ 60 := (chk_zero.1 hck).1.1
    have TN : TellsN 91 ⟨w.heap.size + 1, 0, none⟩ ⟨w.heap.size + 1 + 1, 0, none⟩ w w.heap.size 16777216 (CountJ w (w.heap.size + 1) (w.heap.size + 1 + 1) (x1, x2, x3, x4)) :=
      ⟨fun pre W h => h.1, fun pre W W' h hb => h.later hb, fun pre k n m d W h hl _ => count_call w _ _ _ (by omega) pre k n m d W h hl, enters_of Try.func91 (by kernel_rfl) rfl⟩
    have CE : Hid (∀ W, CountJ w (w.heap.size + 1) (w.heap.size + 1 + 1) (x1, x2, x3, x4) [] W → Calls Try.prog 86 #[.agg #[.int .i64 k, .int .i64 n, .slice a m cap], .int .i64 dir, .func (.func 91) #[] #[.pointer (some ⟨w.heap.size + 1, 0, none⟩), .pointer (some ⟨w.heap.size + 1 + 1, 0, none⟩)]] W (EachEnds (CountJ w (w.heap.size + 1) (w.heap.size + 1 + 1) (x1, x2, x3, x4)) ([] ++ t.names dir) W)) :=
      fun W hJ => need_each _ _ _ w w.heap.size 16777216 _ TN (Nat.le_refl _) 4194304 (by omega) t k n a m cap dir [] W HS.out HT.out (chk_zero.1 hck).2 hd hJ (by simp only [List.length_nil]; omega)
    clear TN HVC hck hnm hd hsz
    go_enter Try.func41, Try.ntmps41
    go_wp2_with fail
    rw [HW0.out]
    refine (CK.out _ HB.out).mono ?_; rintro e w1 ⟨rfl, hb⟩
    have hJ1 : CountJ w (w.heap.size + 1) (w.heap.size + 1 + 1) (x1, x2, x3, x4) [] w1 := CountJ.later ⟨HB.out, XT.out, XN.out⟩ hb
    have XD1 := (hb.block _ (block_lt XD.out)).trans XD.out
    have HJ1 := Lib.hid hJ1
    clear hJ1 hb D0 D1 D2
    have D0 : w1.cell? ⟨w.heap.size, 0, none⟩ = some (.int .i64 k) := block_cell XD1 0
    have D1 : w1.cell? ⟨w.heap.size, 1, none⟩ = some (.int .i64 n) := block_cell XD1 1
    have D2 : w1.cell? ⟨w.heap.size, 2, none⟩ = some (.slice a m cap) := block_cell XD1 2
    clear XD1
    go_wp2_with fail
    refine (CE.out _ HJ1.out).mono ?_; rintro e w2 ⟨rfl, hj, hk⟩
    rw [List.nil_append] at hj
    have n0 : w2.cell? ⟨w.heap.size + 1 + 1, 0, none⟩ = some (.int .i64 ((t.names dir).count (x1, x2, x3, x4) : Nat)) := block_cell hj.2.2 0
    have HBE := Lib.hid hj.1
    clear hj hk D0 D1 D2
    go_wp2_with fail
    go_ret
    exact ⟨rfl, HBE.out⟩
  · have t1 : (C == 0) = false := bno hc
    have hz := HVC.out.1 hc
    rw [hz]
    clear hc hz HVC
    go_enter Try.func41, Try.ntmps41
    go_wp2_with fail
    rw [HW0.out]
    refine (CK.out _ HB.out).mono ?_; rintro e w1 ⟨rfl, hb⟩
    have hxn := (hb.block _ (block_lt XN.out)).trans XN.out
    have n0 : w1.cell? ⟨w.heap.size + 1 + 1, 0, none⟩ = some (.int .i64 0) := block_cell hxn 0
    have HB1 := Lib.hid (chain HB.out hb)
    clear hxn hb D0 D1 D2
    go_wp2_with fail
    go_ret
    exact ⟨rfl, HB1.out⟩
end Go.Proofs.Ytncikklhchimdaa
