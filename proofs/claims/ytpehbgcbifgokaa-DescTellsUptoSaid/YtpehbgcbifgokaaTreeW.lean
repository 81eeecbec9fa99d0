/- Trees: a clone whose first child's number is changed in place is another tree. -/
import Derived.Test.YtpehbgcbifgokaaTreeS
import Derived.Test.YtpehbgcbifgokaaTreeO
namespace Go.Proofs.Ytpehbgcbifgokaa
open Go.RowKit
set_option linter.unusedVariables false
set_option linter.unusedSimpArgs false

theorem cell_other (w : World) (g o x y : Nat) (v : Value) (h : ¬ (x = g ∧ y = o)) : (w.setCell ⟨g, o, none⟩ v).cell? ⟨x, y, none⟩ = w.cell? ⟨x, y, none⟩ :=
  World.cell?_setCell_other _ _ _ _ (fun e => h (by simp only [Addr.mk.injEq, and_true] at e; exact ⟨e.1.symm, e.2.symm⟩))

theorem touched {w : World} {F Z : Nat → Prop} {k n : Int} {a : Option Addr} {m c : Nat} {t : Tr} (b9 : Nat) (hS : IsS w F k n a m c t) (hb : ¬ F b9) (hZ : ∀ x, F x → Z x)
    (c0 : w.cell? ⟨b9, 0, none⟩ = some (.int .i64 k)) (c1 : w.cell? ⟨b9, 1, none⟩ = some (.int .i64 n)) (c2 : w.cell? ⟨b9, 2, none⟩ = some (.slice a m c)) (hm : 0 < m) :
    ∃ g n2, a = some ⟨g, 0, none⟩ ∧ F g ∧ w.frozen? ⟨g, 1, none⟩ = false ∧ w.cell? ⟨g, 1, none⟩ = some (.int .i64 n2) ∧ fits .i64 n2 ∧
      ∀ n3, fits .i64 n3 → n3 ≠ n2 → ∃ T, T ≠ t ∧ T.size ≤ t.size + t.size ∧ IsT (w.setCell ⟨g, 1, none⟩ (.int .i64 n3)) Z k n a m c T := by
  obtain ⟨g, k2, n2, a2, m2, c2', G, rfl, hFg, hfz, d0, d1, d2, hK, hGg, hGF, hctx, hat⟩ := (Ctx.start Z w b9 0 t F).step (s := t) rfl hS hb hZ c0 c1 c2 0 hm
  simp only [Nat.zero_mul, Nat.zero_add] at d0 d1 d2 hctx
  have hne : b9 ≠ g := fun e => hb (e ▸ hFg)
  have hok := hK.tree.ok
  refine ⟨g, n2, rfl, hFg, hfz 1, d1, by rw [hK.tree.en]; exact Tr.ok_num hok, fun n3 hf hn3 => ?_⟩
  have hku := hK.tree
  have e1 := hku.ek
  have e2 := hku.en
  have e3 := hku.em
  have hu : IsT (w.setCell ⟨g, 1, none⟩ (.int .i64 n3)) Z k2 n3 a2 m2 c2' (.node k2 n3 (Tr.kid t.kids 0).kids) := by
    refine ⟨rfl, rfl, e3, ?_, ((hku.kids.stayS fun x y v hx hv => (cell_other w g 1 x y _ (fun h => hGg (h.1 ▸ hx))).trans hv)).mono fun x hx => hZ x (hGF x hx)⟩
    simp only [Tr.Ok]
    exact ⟨by rw [e1]; exact Tr.ok_kind hok, hf, Tr.ok_kids hok⟩
  have hs := hctx _ _ (fun x y v hx hxy hv => (cell_other w g 1 x y _ (fun h => hxy ⟨h.1, by omega, by omega⟩)).trans hv)
    ⟨k2, n3, a2, m2, c2', (cell_other w g 1 g 0 _ (by omega)).trans d0, World.cell?_setCell_same _ _ _ d1, (cell_other w g 1 g 2 _ (by omega)).trans d2, hu⟩
  obtain ⟨k', n', a', m', c', f0, f1, f2, hT⟩ := hs
  rw [cell_other w g 1 b9 _ _ (fun h => hne h.1)] at f0 f1 f2
  simp only [Nat.zero_add] at f0 f1 f2
  rw [c0] at f0
  rw [c1] at f1
  rw [c2] at f2
  simp only [Option.some.injEq, Value.int.injEq, true_and, Value.slice.injEq] at f0 f1 f2
  obtain ⟨r1, r2, r3⟩ := f2
  subst f0 f1 r1 r2 r3
  refine ⟨_, fun hEq => ?_, ?_, hT⟩
  · have h1 := Tr.at_put (.node k2 n3 (Tr.kid t.kids 0).kids) hat
    rw [hEq, hat] at h1
    have h2 := Option.some.inj h1
    have h3 : (Tr.kid t.kids 0).num = n3 := by rw [h2]; rfl
    exact hn3 (by rw [← h3, e2])
  · have h1 := Tr.put_size (.node k2 n3 (Tr.kid t.kids 0).kids) hat
    have h2 := Tr.at_size hat
    have h3 : (Tr.node k2 n3 (Tr.kid t.kids 0).kids).size = (Tr.kid t.kids 0).size := by rw [Tr.size_kids, Tr.size_kids]; rfl
    omega
end Go.Proofs.Ytpehbgcbifgokaa
