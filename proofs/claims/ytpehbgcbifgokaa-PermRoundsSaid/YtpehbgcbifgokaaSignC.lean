/- One round of an order: the walk. -/
import Derived.Test.YtpehbgcbifgokaaSignB
import Derived.Maps.AppendAt
import Derived.OneCell
namespace Go.Proofs.Ytpehbgcbifgokaa
open Go.RowKit Sm
set_option linter.unusedVariables false
set_option linter.unusedSimpArgs false

def lenOf : Value → Nat
  | .slice _ l _ => l
  | _ => 0
def intL (ls : List Nat) : List Value := ls.map fun x : Nat => Value.int .i64 (x : Int)

/-- What one call of round leaves: a list of its own; the marks; nothing else. -/
def RoundEnds (n : Nat) (p : Nat → Nat) (s : Nat → Int) (c t0 g : Nat) (w0 w : World) (e : Ending) (w' : World) : Prop :=
  ∃ (ls : List Nat) (s' : Nat → Int) (i : Nat) (v : Value), e = .returned v ∧ RoundSt n p s c t0 ls s' i ∧ s' i ≠ 0 ∧ OwnAt .i64 3 w0 w' g n s' ∧ w'.ownsRow w.heap.size 3 1 v ls.length (intL ls) ∧ w.grownBy w' (some g)

theorem set_sz (w : World) (a : Addr) (u : Value) : (w.setCell a u).heap.size = w.heap.size := by simp

theorem grown_step {w wr w1 w2 : World} {g o : Nat} {v : Value} {ob : Obj} {row : Option Nat} (h : w.grownBy wr (some g)) (h1 : w1 = wr.setCell ⟨g, o, none⟩ v) (h2 : (w1.alloc ob).grownBy w2 row) (hr : ∀ k, row = some k → w.heap.size ≤ k) : w.grownBy w2 (some g) := by
  subst h1
  refine ⟨h2.os.trans h.os, h2.tape.trans h.tape, h2.output.trans h.output, ?_, fun k hk hne => ?_⟩
  · have h3 := h.size
    have h4 := h2.size
    simp at h4
    omega
  · have h3 := h.size
    rw [h2.block k (by simp; omega) (fun e => by have := hr k e.symm; omega), heap_alloc_old _ _ (show k < (wr.setCell ⟨g, o, none⟩ v).heap.size by rw [show (wr.setCell ⟨g, o, none⟩ v).heap.size = wr.heap.size by simp]; omega)]
    rw [show (wr.setCell ⟨g, o, none⟩ v).heap[k]? = wr.heap[k]? from Below.heap_setCell _ _ _ _ (fun e => hne (by rw [e]))]
    exact h.block k hk hne

theorem OwnAt.grownA {k : IntKind} {e : TypeId} {w wr w2 : World} {g n : Nat} {f : Nat → Int} {o : Obj} {row : Option Nat} (h : OwnAt k e w wr g n f) (hg : (wr.alloc o).grownBy w2 row) (hne : row ≠ some g) (hr : ∀ k, row = some k → w.heap.size ≤ k) : OwnAt k e w w2 g n f :=
  ⟨(h.own.alloc o).kept hg (.inr (fun e => hne (by rw [← e]; rfl))), (h.below.alloc h.below.size o).grown hg (by have := h.below.size; simp; omega) hr⟩

set_option maxHeartbeats 2000000 in
theorem perm_round (w0 : World) (ap : Option Addr) (n cp : Nat) (p : List Int) (g c t0 : Nat) (s : Nat → Int) (w : World) (hx : Row .i64 w0 ap p) (hn : p.length = n) (hl : n ≤ 60) (hp : ∀ i, i < n → 0 ≤ nth p i ∧ nth p i < n)
    (hown : OwnAt .i64 3 w0 w g n s) (hR : Red n (pf p) s t0) (hb : ∀ v, v < n → s v = 0 ∨ s v = 1) (hc : c < n) :
    Calls Try.prog 69 #[.slice ap n cp, .int .i64 c, .slice (some ⟨g, 0, none⟩) n n] w (RoundEnds n (pf p) s c t0 g w0 w) := by
  obtain ⟨i0, hi, hz0, hz1, hz2⟩ := info_parts info_int
  have HX := Lib.hid hx
  have HN := Lib.hid hn
  have HP := Lib.hid hp
  have HPF : Hid (∀ v, v < n → pf p v < n) := fun v hv => by have := HP.out v hv; unfold pf; omega
  have HB := Lib.hid hb
  have HST : Hid (RoundSt n (pf p) s c t0 [] s c) := RoundSt.start hR hb hc
  have hg := hown.base.2
  have HOWN := Lib.hid hown
  clear hx hn hp hb hR hown
  go_enter Try.func69, Try.ntmps69
  go_wp2_with fail
  go_loopw [7, 8] (fun v iv wr => ∃ (ls : List Nat) (s' : Nat → Int) (i : Nat), iv = .int .i64 (i : Int) ∧ lenOf v = ls.length ∧ i < n ∧ Hid (RoundSt n (pf p) s c t0 ls s' i) ∧ Hid (OwnAt .i64 3 w0 wr g n s') ∧ Hid (wr.ownsRow w.heap.size 3 1 v ls.length (intL ls)) ∧ Hid (w.grownBy wr (some g)) ∧ Hid (S n s' = S n s + ls.length)) (fun v _ _ => n - lenOf v)
  case atStart => exact ⟨[], s, c, rfl, rfl, hc, HST.out, HOWN.out, World.ownsRow_nil _ _ _ _, World.grownBy.refl _ _, by simp [Hid]⟩
  case round =>
    obtain ⟨ls, s', i, rfl, hlen, hin, HRS, HO, HL, HG, HS⟩ := hrel
    have hcell := HO.out.cell i hin
    have hfz := HO.out.free i
    have hbit := HRS.out.bits i hin
    have g0 : (0 : Int) ≤ (i : Int) := by omega
    have g1 : (i : Int) < (n : Int) := by omega
    by_cases h0 : s' i = 0
    · have hlt : ls.length < n := by
        have h1 := S_lt_bits n s' HRS.out.bits i hin h0
        have h2 := S_le_bits n s HB.out
        have h3 := HS.out
        omega
      rw [h0] at hcell
      have hcur := (HX.out.below HO.out.below)
      obtain ⟨pb, po, rfl, hpc⟩ := hcur.at (by rw [HN.out]; omega)
      have hpi := hpc i (by rw [HN.out]; exact hin)
      have hpr := HP.out i hin
      have hpl0 : pb < w0.heap.size := by
        obtain ⟨b', o', e, hh⟩ := HX.out.at (by rw [HN.out]; omega)
        cases e
        exact World.block_lt_of_cell? w0 _ (hh i (by rw [HN.out]; exact hin))
      have hgw := HO.out.base.1
      have hpne : pb ≠ g := by omega
      obtain ⟨y, hy⟩ := Int.eq_ofNat_of_zero_le hpr.1
      rw [hy] at hpi
      have hyn : y < n := by omega
      have HPY : Hid (pf p i = y) := by unfold Hid pf; rw [hy]; simp
      have HRS2 : Hid (RoundSt n (pf p) s c t0 (ls ++ [i]) (mark s' i) y) := by
        have := HRS.out.step HPF.out hc h0
        rw [HPY.out] at this
        exact this
      have hnext := HO.out.store i hin (1 : Int) (f' := mark s' i) (by unfold mark; rw [if_pos rfl, h0]; rfl) (fun j _ hj => by unfold mark; rw [if_neg hj])
      have HNX := Lib.hid hnext
      have HS2 : Hid (S n (mark s' i) = S n s + (ls ++ [i]).length) := by unfold Hid; rw [S_mark n s' i hin, HS.out]; simp; omega
      have hvg : u7.ownBlock ≠ some g := fun e => by
        have h1 := (HL.out.lt g e).1
        omega
      have HL2 : Hid ((wr.setCell ⟨g, i, none⟩ (.int .i64 1)).ownsRow w.heap.size 3 1 u7 ls.length (intL ls)) := ownsRow_setCell_other (a := ⟨g, i, none⟩) HL.out hvg _
      have hws : w.heap.size ≤ wr.heap.size := HG.out.size
      have hcn : ∀ j u, [Value.int .i64 (i : Int)][j]? = some u → ((wr.setCell ⟨g, i, none⟩ (.int .i64 1)).alloc (.cells #[.int .i64 (i : Int)] 3)).cell? ((⟨wr.heap.size, 0, none⟩ : Addr).add j) = some u := by
        have h := cell_one_new (wr.setCell ⟨g, i, none⟩ (.int .i64 1)) (.int .i64 (i : Int)) 3
        rwa [set_sz] at h
      have HCN := Lib.hid hcn
      have hpl1 : pb < w.heap.size := by omega
      have hpw := HX.out
      clear hcur hpc hnext hpr hy hbit hcn
      go_wp2_with (at_builtin; refine wpList_append_own_at _ rfl _ _ 35 rfl w.heap.size 3 i0 (.int .i64 0) 1 8 Try.underlying35 hi hz0 hz1 hz2 rfl (by decide) _ ls.length (intL ls) rfl (HL2.out.alloc _) ⟨wr.heap.size, 0, none⟩ 1 1 [.int .i64 (i : Int)] rfl rfl HCN.out (one_cell _ _) (by unfold maxLen; omega) (by omega) (by simp; omega) ?_)
      intro v' w2 hown' hgrow _ hat
      have hr : ∀ k, u7.ownBlock = some k → w.heap.size ≤ k := fun k hk => (HL2.out.lt k hk).1
      have HG2 : Hid (w.grownBy w2 (some g)) := grown_step HG.out rfl hgrow hr
      have HO2 : Hid (OwnAt .i64 3 w0 w2 g n (mark s' i)) := HNX.out.grownA hgrow hvg (fun k hk => by have := hr k hk; omega)
      have HL3 : Hid (w2.ownsRow w.heap.size 3 1 v' (ls ++ [i]).length (intL (ls ++ [i]))) := by
        unfold Hid intL
        rw [List.map_append, List.length_append]
        exact hown'
      have hv' : lenOf v' = ls.length + 1 := by
        rcases hown'.2 with ⟨_, h⟩ | ⟨g', cap', cur', rfl, _⟩
        · omega
        · rfl
      have hpi2 : w2.cell? ⟨pb, po + i, none⟩ = some (.int .i64 (y : Int)) := by
        obtain ⟨b', o', e, hh⟩ := (hpw.below HO2.out.below).at (by rw [HN.out]; omega)
        simp only [Option.some.injEq, Addr.mk.injEq, and_true] at e
        obtain ⟨rfl, rfl⟩ := e
        have h := hh i (by rw [HN.out]; exact hin)
        rw [h]
        have := HPY.out
        have h2 := (HP.out i hin).1
        unfold pf at this
        congr 2
        omega
      clear hown' hgrow hat hpi hcell hfz hpw
      go_wp2_with fail
      go_roundw
      case rel => exact ⟨ls ++ [i], mark s' i, y, rfl, by rw [hv']; simp, hyn, HRS2.out, HO2.out, HL3.out, HG2.out, HS2.out⟩
      case measure => show n - lenOf v' < n - lenOf u7; omega
    · have h1 : s' i = 1 := by
        rcases hbit with h | h
        · exact absurd h h0
        · exact h
      rw [h1] at hcell
      go_wp2_with fail
      go_ret
      exact ⟨ls, s', i, _, rfl, HRS.out, h0, HO.out, HL.out, HG.out⟩
end Go.Proofs.Ytpehbgcbifgokaa
