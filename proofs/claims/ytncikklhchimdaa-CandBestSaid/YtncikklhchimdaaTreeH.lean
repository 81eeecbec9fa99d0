/- Trees: the node at a place, by the program. -/
import Derived.Test.YtncikklhchimdaaTreeG
namespace Go.Proofs.Ytncikklhchimdaa
open Go.RowKit
set_option linter.unusedVariables false
set_option linter.unusedSimpArgs false
set_option maxRecDepth 100000

theorem Kids.lt {w : World} {F : Nat → Prop} {a : Option Addr} {cap : Nat} {ks : List Tr} (h : Kids w F a cap ks) : Kids w (Lt w.heap.size) a cap ks := by
  induction h with
  | nil => exact .nil
  | empty a cap => exact .empty a cap
  | row b off cap ks A C hpos hl hF h0 h1 h2 _ ih => exact .row b off cap ks A C hpos hl (World.block_lt_of_cell? w _ (h0 0 hpos)) h0 h1 h2 ih
theorem IsT.lt {w : World} {F : Nat → Prop} {k n : Int} {a : Option Addr} {m cap : Nat} {t : Tr} (h : IsT w F k n a m cap t) : IsT w (Lt w.heap.size) k n a m cap t := ⟨h.ek, h.en, h.em, h.ok, h.kids.lt⟩

namespace Tr
/-- The node at a place. -/
def at? (t : Tr) : List Int → Option Tr
  | [] => some t
  | i :: p => if 0 ≤ i ∧ i < (t.kids.length : Int) then at? (kid t.kids i.toNat) p else none
theorem at_yes {t s : Tr} {i : Int} {p : List Int} (h : at? t (i :: p) = some s) : 0 ≤ i ∧ i < (t.kids.length : Int) ∧ at? (kid t.kids i.toNat) p = some s := by
  unfold at? at h
  split at h
  · rename_i hc; exact ⟨hc.1, hc.2, h⟩
  · cases h
theorem at_in {t : Tr} {i : Int} {p : List Int} (h0 : 0 ≤ i) (h1 : i < (t.kids.length : Int)) : at? t (i :: p) = at? (kid t.kids i.toNat) p := by
  rw [at?, if_pos ⟨h0, h1⟩]
theorem at_out {t : Tr} {i : Int} {p : List Int} (h : ¬ (0 ≤ i ∧ i < (t.kids.length : Int))) : at? t (i :: p) = none := by
  rw [at?, if_neg h]
theorem at_size {t s : Tr} : ∀ {p : List Int}, at? t p = some s → s.size ≤ t.size := by
  intro p
  induction p generalizing t with
  | nil => intro h; unfold at? at h; cases h; exact Nat.le_refl _
  | cons i p ih =>
    intro h
    obtain ⟨h0, h1, h2⟩ := at_yes h
    have := ih h2
    have := size_kid t i.toNat (by omega)
    omega
theorem at_ok {t s : Tr} : ∀ {p : List Int}, at? t p = some s → t.Ok → s.Ok := by
  intro p
  induction p generalizing t with
  | nil => intro h ho; unfold at? at h; cases h; exact ho
  | cons i p ih =>
    intro h ho
    obtain ⟨h0, h1, h2⟩ := at_yes h
    exact ih h2 (ok_mem (kid_mem (by omega)) (ok_kids ho))
/-- No tree. -/
def zero : Tr := node 0 0 []
end Tr

theorem set3 {w : World} {b : Nat} {x y z x' y' z' : Value} {T : TypeId} (h : w.heap[b]? = some (.cells #[x, y, z] T (0, 0))) :
    (((w.setCell ⟨b, 0, none⟩ x').setCell ⟨b, 1, none⟩ y').setCell ⟨b, 2, none⟩ z').heap[b]? = some (.cells #[x', y', z'] T (0, 0)) := block_set (block_set (block_set h 0 _) 1 _) 2 _
theorem set3_far (w : World) (b : Nat) (x' y' z' : Value) (c : Nat) (h : c ≠ b) : (((w.setCell ⟨b, 0, none⟩ x').setCell ⟨b, 1, none⟩ y').setCell ⟨b, 2, none⟩ z').heap[c]? = w.heap[c]? := by
  rw [set_far _ _ _ _ h, set_far _ _ _ _ h, set_far _ _ _ _ h]
theorem set3_size (w : World) (b : Nat) (x' y' z' : Value) : (((w.setCell ⟨b, 0, none⟩ x').setCell ⟨b, 1, none⟩ y').setCell ⟨b, 2, none⟩ z').heap.size = w.heap.size := by rw [set_size, set_size, set_size]
theorem set3_below {w wr : World} {B : Nat} (hb : Below B w wr) (b : Nat) (h : B ≤ b) (x' y' z' : Value) : Below B w (((wr.setCell ⟨b, 0, none⟩ x').setCell ⟨b, 1, none⟩ y').setCell ⟨b, 2, none⟩ z') :=
  ((hb.setCell (p := ⟨b, 0, none⟩) h _).setCell (p := ⟨b, 1, none⟩) h _).setCell (p := ⟨b, 2, none⟩) h _

/-- A result of two: a new tree that shares nothing, and true. -/
def GivesS2 (t : Tr) (w : World) (e : Ending) (w' : World) : Prop :=
  ∃ k n a m c, e = .returned (.tuple #[.agg #[.int .i64 k, .int .i64 n, .slice a m c], .bool true]) ∧ IsS w' (Iv w.heap.size w'.heap.size) k n a m c t ∧ Below w.heap.size w w'

theorem dropT' (xs : List Int) (k : Nat) (h : k < xs.length) : xs.drop k = nth xs k :: xs.drop (k + 1) := dropT xs k h

end Go.Proofs.Ytncikklhchimdaa
