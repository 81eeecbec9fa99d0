/- Opening an argument's reading: a struct of two, of four integers. -/
import Derived.Test.YtncikklhchimdaaOpen
import Derived.ChangeArms
import Derived.Deep.Slices
import Derived.DataReads
namespace Go.Proofs.Ytncikklhchimdaa
open Go.ChangeShapes Go.WideShapes Go.ChangeAt Go.RowKit
set_option linter.unusedVariables false
set_option linter.unusedSimpArgs false
set_option maxRecDepth 100000

theorem open_two {H : Type} {enc : TypeId × Value → H} {P : Program} {W : World} {r : Reach} {b0 base : Nat} {sp : Nat → Bool} {held : Bool} {T : TypeId} {f0 f1 : Field} {q : IntKind} {v : Value} {d : DataW H} {p : List MemPlace}
    (hs : P.underlying T = some (.struct #[f0, f1])) (o0 : f0.offset = 0) (o1 : f1.offset = 1) (c0 : P.cellsOf f0.type = 1) (c1 : P.cellsOf f1.type = 1)
    (i0 : P.underlying f0.type = some (.int q)) (i1 : P.underlying f1.type = some (.int q)) (hC : P.cellsOf T = 2) (hv : Value.okWide P W r b0 T v) (h : DataW.Trod enc P W base sp held T v d p) :
    ∃ x y, v = .agg #[.int q x, .int q y] ∧ fits q x ∧ fits q y := by
  obtain ⟨cs, rfl, hsz⟩ := okWide_struct hs hv
  obtain ⟨fuel, hf⟩ := h
  obtain ⟨ys, n, rfl, -, hlen, hyl, hfs⟩ := DataW.trod_struct hs hf
  rw [hC] at hlen
  obtain ⟨l⟩ := cs
  simp only [Value.cells] at hlen hfs
  match l, hlen with
  | [v0, v1], _ =>
    match ys, hyl with
    | [y0, y1], _ =>
      have e0 := hfs 0 f0 rfl
      have e1 := hfs 1 f1 rfl
      rw [o0, c0] at e0
      rw [o1, c1] at e1
      simp only [List.drop_zero, List.drop_succ_cons, List.take_succ_cons, List.take_zero, List.getElem?_cons_zero, List.getElem?_cons_succ] at e0 e1
      obtain ⟨x, hx, _, wx⟩ := DataW.trod_int i0 e0
      obtain ⟨y, hy, _, wy⟩ := DataW.trod_int i1 e1
      simp only [List.cons.injEq, and_true] at hx hy
      subst hx hy
      exact ⟨x, y, rfl, wx, wy⟩

theorem open_four {H : Type} {enc : TypeId × Value → H} {P : Program} {W : World} {r : Reach} {b0 base : Nat} {sp : Nat → Bool} {held : Bool} {T : TypeId} {f0 f1 f2 f3 : Field} {q : IntKind} {v : Value} {d : DataW H} {p : List MemPlace}
    (hs : P.underlying T = some (.struct #[f0, f1, f2, f3])) (o0 : f0.offset = 0) (o1 : f1.offset = 1) (o2 : f2.offset = 2) (o3 : f3.offset = 3) (c0 : P.cellsOf f0.type = 1) (c1 : P.cellsOf f1.type = 1) (c2 : P.cellsOf f2.type = 1) (c3 : P.cellsOf f3.type = 1)
    (i0 : P.underlying f0.type = some (.int q)) (i1 : P.underlying f1.type = some (.int q)) (i2 : P.underlying f2.type = some (.int q)) (i3 : P.underlying f3.type = some (.int q)) (hC : P.cellsOf T = 4) (hv : Value.okWide P W r b0 T v) (h : DataW.Trod enc P W base sp held T v d p) :
    ∃ x y z u, v = .agg #[.int q x, .int q y, .int q z, .int q u] ∧ fits q x ∧ fits q y ∧ fits q z ∧ fits q u := by
  obtain ⟨cs, rfl, hsz⟩ := okWide_struct hs hv
  obtain ⟨fuel, hf⟩ := h
  obtain ⟨ys, n, rfl, -, hlen, hyl, hfs⟩ := DataW.trod_struct hs hf
  rw [hC] at hlen
  obtain ⟨l⟩ := cs
  simp only [Value.cells] at hlen hfs
  match l, hlen with
  | [v0, v1, v2, v3], _ =>
    match ys, hyl with
    | [y0, y1, y2, y3], _ =>
      have e0 := hfs 0 f0 rfl
      have e1 := hfs 1 f1 rfl
      have e2 := hfs 2 f2 rfl
      have e3 := hfs 3 f3 rfl
      rw [o0, c0] at e0
      rw [o1, c1] at e1
      rw [o2, c2] at e2
      rw [o3, c3] at e3
      simp only [List.drop_zero, List.drop_succ_cons, List.take_succ_cons, List.take_zero, List.getElem?_cons_zero, List.getElem?_cons_succ] at e0 e1 e2 e3
      obtain ⟨x, hx, _, wx⟩ := DataW.trod_int i0 e0
      obtain ⟨y, hy, _, wy⟩ := DataW.trod_int i1 e1
      obtain ⟨z, hz, _, wz⟩ := DataW.trod_int i2 e2
      obtain ⟨u, hu, _, wu⟩ := DataW.trod_int i3 e3
      simp only [List.cons.injEq, and_true] at hx hy hz hu
      subst hx hy hz hu
      exact ⟨x, y, z, u, rfl, wx, wy, wz, wu⟩
end Go.Proofs.Ytncikklhchimdaa
