/- Trees: another node at a place, by the reference. -/
import Derived.Test.YtncikklhchimdaaTreeT
import Derived.Deep.RegionLaw
namespace Go.Proofs.Ytncikklhchimdaa
open Go.RowKit
set_option linter.unusedVariables false
set_option linter.unusedSimpArgs false
set_option maxRecDepth 100000

/-- The blocks below B; and those from Bo on, but the one that the row v lies in. -/
def Fw (B Bo : Nat) (w : World) (v : Value) (b : Nat) : Prop := b < B ∨ (Bo ≤ b ∧ b < w.heap.size ∧ v.ownBlock ≠ some b)
/-- The blocks below B; and those from lo to hi. -/
def Nw (B lo hi : Nat) (b : Nat) : Prop := b < B ∨ (lo ≤ b ∧ b < hi)

theorem place_step {wr w1 w2 : World} {B Bo : Nat} {e : TypeId} {v u : Value} {j g3 c3 lo hi bo off : Nat} {xs : List Value} {ts : List Tr} {k n : Int} {a : Option Addr} {m c : Nat} {t : Tr} {o : Obj} (hown : wr.ownsRow Bo e 3 v j xs)
    (hF : CellsT wr (Fw B Bo wr v) xs ts) (hw1 : ∀ b, b < wr.heap.size → w1.heap[b]? = wr.heap[b]?) (hS : IsT w1 (Nw B lo hi) k n a m c t) (hlo : wr.heap.size ≤ lo) (hhi : hi ≤ w1.heap.size) (hsz : wr.heap.size ≤ w1.heap.size) (hB : Bo ≤ wr.heap.size)
    (hgrow : (w1.alloc o).grownBy w2 v.ownBlock) (hat : v.ownBlock = some g3 ∨ g3 = w1.heap.size + 1) (hbo : bo < Bo) (hBb : B ≤ bo) :
    CellsT (w2.setCell ⟨bo, off, none⟩ u) (Fw B Bo (w2.setCell ⟨bo, off, none⟩ u) (.slice (some ⟨g3, 0, none⟩) (j + 1) c3)) (xs ++ [.int .i64 k, .int .i64 n, .slice a m c]) (ts ++ [t]) := by
  have hgs : (w1.alloc o).heap.size ≤ w2.heap.size := hgrow.size
  have hal : (w1.alloc o).heap.size = w1.heap.size + 1 := by simp
  have hst : ∀ b, b < w1.heap.size → v.ownBlock ≠ some b → b ≠ bo → (w2.setCell ⟨bo, off, none⟩ u).heap[b]? = w1.heap[b]? := fun b hb hne hbb => by
    rw [set_far _ _ _ _ hbb, hgrow.block b (by omega) (Ne.symm hne)]
    exact heap_alloc_old w1 o hb
  have hv : ∀ g, v.ownBlock = some g → Bo ≤ g ∧ g < wr.heap.size := fun g hg => hown.lt g hg
  have h1 : CellsT (w2.setCell ⟨bo, off, none⟩ u) (Fw B Bo wr v) xs ts := hF.stay fun b hb hlt => by
    rcases hb with hb | ⟨b1, b2, b3⟩
    · rw [hst b (by omega) (fun e => by have := (hv b e).1; omega) (by omega), hw1 b (by omega)]
    · rw [hst b (by omega) b3 (by omega), hw1 b b2]
  have h2 : IsT (w2.setCell ⟨bo, off, none⟩ u) (Nw B lo hi) k n a m c t := hS.stay fun b hb hlt => by
    rcases hb with hb | ⟨b1, b2⟩
    · exact hst b (by omega) (fun e => by have := (hv b e).1; omega) (by omega)
    · exact hst b (by omega) (fun e => by have := (hv b e).2; omega) (by omega)
  have h3 : CellsT (w2.setCell ⟨bo, off, none⟩ u) (Fw B Bo (w2.setCell ⟨bo, off, none⟩ u) (.slice (some ⟨g3, 0, none⟩) (j + 1) c3)) xs ts := h1.mono fun x hx => by
    rcases hx with hx | ⟨x1, x2, x3⟩
    · exact .inl hx
    · refine .inr ⟨x1, by rw [set_size]; omega, fun e => ?_⟩
      simp only [Value.ownBlock, Option.some.injEq] at e
      rcases hat with h | h
      · exact x3 (by rw [h, e])
      · omega
  refine h3.append (CellsT.one (h2.mono fun x hx => ?_))
  rcases hx with hx | ⟨x1, x2⟩
  · exact .inl hx
  · refine .inr ⟨by omega, by rw [set_size]; omega, fun e => ?_⟩
    simp only [Value.ownBlock, Option.some.injEq] at e
    rcases hat with h | h
    · have := (hv _ h).2; omega
    · omega

theorem place_round {w wr W0 w1 w2 : World} {B : Nat} {T : TypeId} {v : Value} {j g3 c3 : Nat} {xs : List Value} {ts : List Tr} {k n k2 n2 kd nd ku nu : Int} {a2 ad au : Option Addr} {m2 c2 md cd mu cu : Nat} {t' : Tr} {o : Obj} (hB : B ≤ w.heap.size)
    (HD : wr.heap[w.heap.size]? = some (.cells #[.int .i64 kd, .int .i64 nd, .slice ad md cd] T (0, 0))) (HU : wr.heap[w.heap.size + 1]? = some (.cells #[.int .i64 ku, .int .i64 nu, .slice au mu cu] T (0, 0)))
    (HR : wr.heap[w.heap.size + 1 + 1]? = some (.cells #[.int .i64 0, .int .i64 0, .slice none 0 0] T (0, 0))) (HO : wr.heap[w.heap.size + 1 + 1 + 1]? = some (.cells #[.int .i64 k, .int .i64 n, v] T (0, 0)))
    (hown : wr.ownsRow (w.heap.size + 4) T 3 v j xs) (HC : CellsT wr (Fw B (w.heap.size + 4) wr v) xs ts) (hbel : Below w.heap.size w wr)
    (hS : IsT w1 (Nw B wr.heap.size w1.heap.size) k2 n2 a2 m2 c2 t') (hb1 : Below wr.heap.size wr w1)
    (hown3 : w2.ownsRow (w.heap.size + 4) T 3 (.slice (some ⟨g3, 0, none⟩) (j + 1) c3) (j + 1) (xs ++ [.int .i64 k2, .int .i64 n2, .slice a2 m2 c2])) (hgrow : (w1.alloc o).grownBy w2 v.ownBlock) (hat : v.ownBlock = some g3 ∨ g3 = w1.heap.size + 1) :
    (w2.setCell ⟨w.heap.size + 1 + 1 + 1, 2, none⟩ (.slice (some ⟨g3, 0, none⟩) (j + 1) c3)).heap[w.heap.size]? = some (.cells #[.int .i64 kd, .int .i64 nd, .slice ad md cd] T (0, 0)) ∧
    (w2.setCell ⟨w.heap.size + 1 + 1 + 1, 2, none⟩ (.slice (some ⟨g3, 0, none⟩) (j + 1) c3)).heap[w.heap.size + 1]? = some (.cells #[.int .i64 ku, .int .i64 nu, .slice au mu cu] T (0, 0)) ∧
    (w2.setCell ⟨w.heap.size + 1 + 1 + 1, 2, none⟩ (.slice (some ⟨g3, 0, none⟩) (j + 1) c3)).heap[w.heap.size + 1 + 1]? = some (.cells #[.int .i64 0, .int .i64 0, .slice none 0 0] T (0, 0)) ∧
    (w2.setCell ⟨w.heap.size + 1 + 1 + 1, 2, none⟩ (.slice (some ⟨g3, 0, none⟩) (j + 1) c3)).heap[w.heap.size + 1 + 1 + 1]? = some (.cells #[.int .i64 k, .int .i64 n, .slice (some ⟨g3, 0, none⟩) (j + 1) c3] T (0, 0)) ∧
    (w2.setCell ⟨w.heap.size + 1 + 1 + 1, 2, none⟩ (.slice (some ⟨g3, 0, none⟩) (j + 1) c3)).ownsRow (w.heap.size + 4) T 3 (.slice (some ⟨g3, 0, none⟩) (j + 1) c3) (j + 1) (xs ++ [.int .i64 k2, .int .i64 n2, .slice a2 m2 c2]) ∧
    CellsT (w2.setCell ⟨w.heap.size + 1 + 1 + 1, 2, none⟩ (.slice (some ⟨g3, 0, none⟩) (j + 1) c3)) (Fw B (w.heap.size + 4) (w2.setCell ⟨w.heap.size + 1 + 1 + 1, 2, none⟩ (.slice (some ⟨g3, 0, none⟩) (j + 1) c3)) (.slice (some ⟨g3, 0, none⟩) (j + 1) c3)) (xs ++ [.int .i64 k2, .int .i64 n2, .slice a2 m2 c2]) (ts ++ [t']) ∧
    Below w.heap.size w (w2.setCell ⟨w.heap.size + 1 + 1 + 1, 2, none⟩ (.slice (some ⟨g3, 0, none⟩) (j + 1) c3)) := by
  have hl2 := block_lt HO
  have hs1 := hb1.size
  have hv : ∀ g, v.ownBlock = some g → w.heap.size + 4 ≤ g ∧ g < wr.heap.size := fun g hg => hown.lt g hg
  have hw2 : ∀ b, b < wr.heap.size → v.ownBlock ≠ some b → w2.heap[b]? = wr.heap[b]? := fun b hb hne => by
    rw [hgrow.block b (by simp; omega) (Ne.symm hne), heap_alloc_old w1 o (show b < w1.heap.size by omega)]
    exact hb1.block b hb
  have hlow : ∀ b, b < w.heap.size + 4 → b ≠ w.heap.size + 1 + 1 + 1 → (w2.setCell ⟨w.heap.size + 1 + 1 + 1, 2, none⟩ (.slice (some ⟨g3, 0, none⟩) (j + 1) c3)).heap[b]? = wr.heap[b]? := fun b hb hne => by
    rw [set_far _ _ _ _ hne]
    exact hw2 _ (by omega) (fun e => by have := (hv _ e).1; omega)
  refine ⟨(hlow _ (by omega) (by omega)).trans HD, (hlow _ (by omega) (by omega)).trans HU, (hlow _ (by omega) (by omega)).trans HR, ?_, ?_, ?_, ?_⟩
  · have h2 : w2.heap[w.heap.size + 1 + 1 + 1]? = some (.cells #[.int .i64 k, .int .i64 n, v] T (0, 0)) := (hw2 _ hl2 (fun e => by have := (hv _ e).1; omega)).trans HO
    exact block_set h2 2 _
  · exact ownsRow_setCell_other (a := ⟨w.heap.size + 1 + 1 + 1, 2, none⟩) hown3 (by
      intro e
      simp only [Value.ownBlock, Option.some.injEq] at e
      have := (hown3.lt g3 rfl).1
      omega) _
  · exact place_step (bo := w.heap.size + 1 + 1 + 1) hown HC (fun b hb => hb1.block b hb) hS (Nat.le_refl _) (Nat.le_refl _) (by omega) (by omega) hgrow hat (by omega) (by omega)
  · have h1 : Below w.heap.size w w1 := chain hbel hb1
    have h1s := h1.size
    exact ((h1.alloc h1.size o).grown hgrow (by show w.heap.size ≤ (w1.alloc o).heap.size; simp; omega) (fun k hk => by have := (hv k hk).1; omega)).setCell (by show w.heap.size ≤ w.heap.size + 1 + 1 + 1; omega) _

/-- A result: a tree of old blocks and new ones. -/
def GivesW (B : Nat) (t : Tr) (w : World) (e : Ending) (w' : World) : Prop :=
  ∃ k n a m c, e = .returned (.agg #[.int .i64 k, .int .i64 n, .slice a m c]) ∧ IsT w' (Nw B w.heap.size w'.heap.size) k n a m c t ∧ Below w.heap.size w w'
end Go.Proofs.Ytncikklhchimdaa
