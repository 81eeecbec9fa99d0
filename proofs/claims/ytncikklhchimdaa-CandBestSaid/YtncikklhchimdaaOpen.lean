/- Opening an argument's reading: a slice of integers as a row; a pair of numbers. -/
import Derived.ProofKit
import Derived.OpenShut
import Derived.Carry
import Derived.Lib.SmallJoins
import Derived.Test.YtncikklhchimdaaMem
import Derived.ChangeArms
import Derived.Deep.Slices
import Derived.DataReads
namespace Go.Proofs.Ytncikklhchimdaa
open Go.ChangeShapes Go.WideShapes Go.ChangeAt Go.RowKit
set_option linter.unusedVariables false
set_option linter.unusedSimpArgs false
set_option maxRecDepth 100000

theorem open_row {H : Type} {enc : TypeId × Value → H} {P : Program} {W : World} {r : Reach} {b0 base : Nat} {sp : Nat → Bool} {held : Bool} {t e : TypeId} {k : IntKind} {v : Value} {d : DataW H} {p : List MemPlace}
    (ht : P.underlying t = some (.slice e)) (he : P.underlying e = some (.int k)) (hc : P.cellsOf e = 1) (hv : Value.okWide P W r b0 t v) (h : DataW.Trod enc P W base sp held t v d p) :
    ∃ (a : Option Addr) (c : Nat) (xs : List Int), v = .slice a xs.length c ∧ Row k W a xs ∧ OkCap a xs.length c := by
  obtain ⟨a0, len0, cap0, rfl⟩ := okWide_slice ht hv
  obtain ⟨fuel, hf⟩ := h
  rcases open_ints ht he hc hf with ⟨hcs, _⟩ | ⟨x, l, c, zs, hcs, _, hl, hm, hz, _, hcell, hwz⟩
  · simp [Value.cells] at hcs
    obtain ⟨rfl, rfl, rfl⟩ := hcs
    exact ⟨none, 0, [], rfl, Row.nil _ _ _, Nat.le_refl _, fun _ => rfl⟩
  · simp [Value.cells] at hcs
    obtain ⟨rfl, rfl, rfl⟩ := hcs
    have hle : len0 ≤ zs.length := by rw [hz]; split <;> omega
    have hlt : (zs.take len0).length = len0 := by simp; omega
    have hm' : len0 ≤ 9223372036854775807 := by have := Nat.le_trans hl hm; unfold maxLen at this; omega
    refine ⟨some x, cap0, zs.take len0, by rw [hlt], ⟨by omega, fun y hy => hwz y (List.mem_of_mem_take hy), ?_⟩, by rw [hlt]; exact hl, fun h => by cases h⟩
    by_cases h0 : len0 = 0
    · left; subst h0; rfl
    · right
      obtain ⟨b, off, spot⟩ := x
      have hc0 := hcell 0 (by omega)
      have hspot : spot = none := by simpa [Addr.add] using World.cell?_spot hc0
      subst hspot
      refine ⟨b, off, rfl, fun i hi => ?_⟩
      have := hcell i (by omega)
      rw [nth_take (by omega)]
      by_cases hi0 : i = 0
      · subst hi0; simpa [Addr.add, nth] using this
      · simpa [Addr.add, nth, hi0] using this

theorem open_pair {H : Type} {enc : TypeId × Value → H} {P : Program} {W : World} {r : Reach} {b0 base : Nat} {sp : Nat → Bool} {held : Bool} {t e : TypeId} {k : IntKind} {v : Value} {d : DataW H} {p : List MemPlace}
    (ht : P.underlying t = some (.array 2 e)) (he : P.underlying e = some (.int k)) (hc : P.cellsOf e = 1) (hn : P.cellsOf t = 2) (hv : Value.okWide P W r b0 t v) (h : DataW.Trod enc P W base sp held t v d p) :
    ∃ (x y : Int), v = .agg #[.int k x, .int k y] ∧ fits k x ∧ fits k y := by
  simp only [Value.okWide, ht] at hv
  obtain ⟨cs, rfl, hsz, _⟩ := hv
  obtain ⟨c0, c1, rfl⟩ := Joins.array2 (hsz.trans hn)
  obtain ⟨fuel, hf⟩ := h
  obtain ⟨xs, m, _, _, hl, hlen, hat⟩ := DataW.trod_array ht hf
  have e0 := hat 0 (by omega)
  have e1 := hat 1 (by omega)
  rw [hc] at e0 e1
  match xs, hlen with
  | [y0, y1], _ =>
    obtain ⟨a, ea, _, wa⟩ := DataW.trod_int he e0
    obtain ⟨b, eb, _, wb⟩ := DataW.trod_int he e1
    simp [Value.cells] at ea eb
    subst ea eb
    exact ⟨a, b, rfl, wa, wb⟩
end Go.Proofs.Ytncikklhchimdaa

namespace Go.Proofs.Ytncikklhchimdaa
open Go.ChangeShapes Go.WideShapes Go.ChangeAt Go.RowKit
set_option linter.unusedVariables false
set_option linter.unusedSimpArgs false

theorem open_two {H : Type} {enc : TypeId × Value → H} {P : Program} {W : World} {r : Reach} {b0 base : Nat} {sp : Nat → Bool} {held : Bool} {T : TypeId} {f0 f1 : Field} {q : IntKind} {v : Value} {d : DataW H} {p : List MemPlace}
    (hs : P.underlying T = some (.struct #[f0, f1])) (o0 : f0.offset = 0) (o1 : f1.offset = 1) (c0 : P.cellsOf f0.type = 1) (c1 : P.cellsOf f1.type = 1)
    (i0 : P.underlying f0.type = some (.int q)) (i1 : P.underlying f1.type = some (.int q)) (hC : P.cellsOf T = 2) (hv : Value.okWide P W r b0 T v) (h : DataW.Trod enc P W base sp held T v d p) :
    ∃ x y, v = .agg #[.int q x, .int q y] ∧ fits q x ∧ fits q y := by
  obtain ⟨cs, rfl, hsz⟩ := okWide_struct hs hv
  obtain ⟨fuel, hf⟩ := h
  obtain ⟨ys, n, rfl, -, hlen, hyl, hfs⟩ := DataW.trod_struct hs hf
  rw [hC] at hlen
  obtain ⟨l⟩ := cs
  simp only [Value.cells] at hlen hfs
  match l, hlen with
  | [v0, v1], _ =>
    match ys, hyl with
    | [y0, y1], _ =>
      have e0 := hfs 0 f0 rfl
      have e1 := hfs 1 f1 rfl
      rw [o0, c0] at e0
      rw [o1, c1] at e1
      simp only [List.drop_zero, List.drop_succ_cons, List.take_succ_cons, List.take_zero, List.getElem?_cons_zero, List.getElem?_cons_succ] at e0 e1
      obtain ⟨x, hx, _, wx⟩ := DataW.trod_int i0 e0
      obtain ⟨y, hy, _, wy⟩ := DataW.trod_int i1 e1
      simp only [List.cons.injEq, and_true] at hx hy
      subst hx hy
      exact ⟨x, y, rfl, wx, wy⟩

theorem open_four {H : Type} {enc : TypeId × Value → H} {P : Program} {W : World} {r : Reach} {b0 base : Nat} {sp : Nat → Bool} {held : Bool} {T : TypeId} {f0 f1 f2 f3 : Field} {q : IntKind} {v : Value} {d : DataW H} {p : List MemPlace}
    (hs : P.underlying T = some (.struct #[f0, f1, f2, f3])) (o0 : f0.offset = 0) (o1 : f1.offset = 1) (o2 : f2.offset = 2) (o3 : f3.offset = 3) (c0 : P.cellsOf f0.type = 1) (c1 : P.cellsOf f1.type = 1) (c2 : P.cellsOf f2.type = 1) (c3 : P.cellsOf f3.type = 1)
    (i0 : P.underlying f0.type = some (.int q)) (i1 : P.underlying f1.type = some (.int q)) (i2 : P.underlying f2.type = some (.int q)) (i3 : P.underlying f3.type = some (.int q)) (hC : P.cellsOf T = 4) (hv : Value.okWide P W r b0 T v) (h : DataW.Trod enc P W base sp held T v d p) :
    ∃ x y z u, v = .agg #[.int q x, .int q y, .int q z, .int q u] ∧ fits q x ∧ fits q y ∧ fits q z ∧ fits q u := by
  obtain ⟨cs, rfl, hsz⟩ := okWide_struct hs hv
  obtain ⟨fuel, hf⟩ := h
  obtain ⟨ys, n, rfl, -, hlen, hyl, hfs⟩ := DataW.trod_struct hs hf
  rw [hC] at hlen
  obtain ⟨l⟩ := cs
  simp only [Value.cells] at hlen hfs
  match l, hlen with
  | [v0, v1, v2, v3], _ =>
    match ys, hyl with
    | [y0, y1, y2, y3], _ =>
      have e0 := hfs 0 f0 rfl
      have e1 := hfs 1 f1 rfl
      have e2 := hfs 2 f2 rfl
      have e3 := hfs 3 f3 rfl
      rw [o0, c0] at e0
      rw [o1, c1] at e1
      rw [o2, c2] at e2
      rw [o3, c3] at e3
      simp only [List.drop_zero, List.drop_succ_cons, List.take_succ_cons, List.take_zero, List.getElem?_cons_zero, List.getElem?_cons_succ] at e0 e1 e2 e3
      obtain ⟨x, hx, _, wx⟩ := DataW.trod_int i0 e0
      obtain ⟨y, hy, _, wy⟩ := DataW.trod_int i1 e1
      obtain ⟨z, hz, _, wz⟩ := DataW.trod_int i2 e2
      obtain ⟨u, hu, _, wu⟩ := DataW.trod_int i3 e3
      simp only [List.cons.injEq, and_true] at hx hy hz hu
      subst hx hy hz hu
      exact ⟨x, y, z, u, rfl, wx, wy, wz, wu⟩
end Go.Proofs.Ytncikklhchimdaa
