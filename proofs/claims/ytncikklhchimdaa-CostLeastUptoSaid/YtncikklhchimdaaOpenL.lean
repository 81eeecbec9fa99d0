/- Opening an argument's reading: a slice of trees of descriptors, whose nodes are no more than its bulk. -/
import Derived.Test.YtncikklhchimdaaTreeR
namespace Go.Proofs.Ytncikklhchimdaa
open Go.ChangeShapes Go.WideShapes Go.ChangeAt Go.RowKit
set_option linter.unusedVariables false
set_option linter.unusedSimpArgs false
set_option maxRecDepth 100000

theorem open_trees {H : Type} {enc : TypeId × Value → H} {P : Program} {w : World} {r : Reach} {b0 base : Nat} {sp : Nat → Bool} {held : Bool} {S T : TypeId} {f0 f1 f2 : Field} {v : Value} {d : DataW H} {p : List MemPlace}
    (hS : P.underlying S = some (.slice T)) (hs : P.underlying T = some (.struct #[f0, f1, f2])) (o0 : f0.offset = 0) (o1 : f1.offset = 1) (o2 : f2.offset = 2) (c0 : P.cellsOf f0.type = 1) (c1 : P.cellsOf f1.type = 1) (c2 : P.cellsOf f2.type = 1)
    (i0 : P.underlying f0.type = some (.int .i64)) (i1 : P.underlying f1.type = some (.int .i64)) (i2 : P.underlying f2.type = some (.slice T)) (hC : P.cellsOf T = 3) (hv : Value.okWide P w r b0 S v) (h : DataW.Trod enc P w base sp held S v d p) :
    ∃ a m c ts, v = .slice a m c ∧ IsT w (fun _ => True) 0 0 a m c (.node 0 0 ts) ∧ Tr.sizeL ts ≤ Rows.uptoBulk d := by
  obtain ⟨a0, len0, cap0, rfl⟩ := okWide_slice hS hv
  obtain ⟨fuel, hf⟩ := h
  rcases DataW.trod_slice hS hf with ⟨hcs, hx2⟩ | ⟨ad, len, cap, elems, rest, n2, hn2, hcs, hx2, hbase, hlc, hcm, hel, hat, _, _⟩
  · simp [Value.cells] at hcs
    obtain ⟨rfl, rfl, rfl⟩ := hcs
    refine ⟨none, 0, 0, [], rfl, ⟨rfl, rfl, rfl, ?_, .nil⟩, ?_⟩
    · simp only [Tr.Ok, Tr.OkL]; exact ⟨fits_zero, fits_zero, trivial⟩
    · simp only [Tr.sizeL]; omega
  · simp [Value.cells] at hcs
    obtain ⟨rfl, rfl, rfl⟩ := hcs
    have hb2 : Rows.uptoBulkAll (elems.map (·.1)) + 1 ≤ Rows.uptoBulk d := by
      have := congrArg Prod.fst hx2
      simp only at this
      rw [this]; simp only [Rows.uptoBulk]; omega
    have hE : ∀ i, i < len0 → ∃ p : (Int × Int) × (Option Addr × Nat) × Tr, w.cells? base (ad.add (i * 3)) 3 = some [.int .i64 p.1.1, .int .i64 p.1.2, .slice p.2.1.1 p.2.2.kids.length p.2.1.2] ∧ IsT w (fun _ => True) p.1.1 p.1.2 p.2.1.1 p.2.2.kids.length p.2.1.2 p.2.2 ∧ ∀ d, elems[i]? = some d → p.2.2.size ≤ Rows.uptoBulk d.1 := fun i hi => by
      have h1 := hat i hi
      rw [hC] at h1
      have h2 : elems[i]? = some (elems[i]'(by omega)) := List.getElem?_eq_getElem (by omega)
      rw [h2] at h1
      obtain ⟨cs', hc', ht'⟩ := Option.bind_eq_some_iff.1 h1
      obtain ⟨k', n', a', m', c', t', rfl, hT', hsz'⟩ := open_tree_go hs o0 o1 o2 c0 c1 c2 i0 i1 i2 hC n2 n2 cs' _ (Nat.le_refl _) ht'
      refine ⟨((k', n'), (a', c'), t'), ?_, ?_, ?_⟩
      · rw [hc', hT'.em]
      · have := hT'; rw [hT'.em] at this; exact this
      · intro d hd
        rw [h2] at hd
        cases hd
        exact hsz'
    have hE' : ∀ i, ∃ p : (Int × Int) × (Option Addr × Nat) × Tr, i < len0 → w.cells? base (ad.add (i * 3)) 3 = some [.int .i64 p.1.1, .int .i64 p.1.2, .slice p.2.1.1 p.2.2.kids.length p.2.1.2] ∧ IsT w (fun _ => True) p.1.1 p.1.2 p.2.1.1 p.2.2.kids.length p.2.1.2 p.2.2 ∧ ∀ d, elems[i]? = some d → p.2.2.size ≤ Rows.uptoBulk d.1 := fun i => by
      by_cases hi : i < len0
      · obtain ⟨p, hp⟩ := hE i hi; exact ⟨p, fun _ => hp⟩
      · exact ⟨((0, 0), (none, 0), .node 0 0 []), fun h => absurd h hi⟩
    obtain ⟨f, hf'⟩ : ∃ f : Nat → (Int × Int) × (Option Addr × Nat) × Tr, ∀ i, i < len0 → w.cells? base (ad.add (i * 3)) 3 = some [.int .i64 (f i).1.1, .int .i64 (f i).1.2, .slice (f i).2.1.1 (f i).2.2.kids.length (f i).2.1.2] ∧ IsT w (fun _ => True) (f i).1.1 (f i).1.2 (f i).2.1.1 (f i).2.2.kids.length (f i).2.1.2 (f i).2.2 ∧ ∀ d, elems[i]? = some d → (f i).2.2.size ≤ Rows.uptoBulk d.1 :=
      ⟨fun i => Classical.choose (hE' i), fun i hi => Classical.choose_spec (hE' i) hi⟩
    have hkl : ((List.range len0).map fun i => (f i).2.2).length = len0 := by simp
    have hkk : ∀ i, i < len0 → Tr.kid ((List.range len0).map fun i => (f i).2.2) i = (f i).2.2 := fun i hi => by rw [Tr.kid_get (by rw [hkl]; exact hi)]; simp
    refine ⟨some ad, len0, cap0, (List.range len0).map (fun i => (f i).2.2), rfl, ⟨rfl, rfl, hkl.symm, ?_, ?_⟩, ?_⟩
    · simp only [Tr.Ok]
      refine ⟨fits_zero, fits_zero, Tr.okL_of fun t ht => ?_⟩
      obtain ⟨i, hi, rfl⟩ := List.mem_map.1 ht
      exact (hf' i (List.mem_range.1 hi)).2.1.ok
    · show Kids w _ (some ad) cap0 ((List.range len0).map fun i => (f i).2.2)
      rcases Nat.eq_zero_or_pos len0 with h0 | hpos
      · subst h0; exact .empty ad cap0
      · obtain ⟨b, off, spot⟩ := ad
        have hcell : ∀ i, i < len0 → ∀ j, j < 3 → w.cell? ((⟨b, off, spot⟩ : Addr).add (i * 3 + j)) = [Value.int .i64 (f i).1.1, .int .i64 (f i).1.2, .slice (f i).2.1.1 (f i).2.2.kids.length (f i).2.1.2][j]? := fun i hi j hj => by
          obtain ⟨_, _, h3⟩ := World.cells?_some (hf' i hi).1
          rw [← Go.Deep.add_add]; exact h3 j hj
        have hspot : spot = none := by
          have := hcell 0 hpos 0 (by omega)
          have h1 : w.cell? (⟨b, off, spot⟩ : Addr) = some (.int .i64 (f 0).1.1) := by simpa [Addr.add] using this
          simpa using World.cell?_spot h1
        subst hspot
        have hadd : ∀ j, (⟨b, off, none⟩ : Addr).add j = ⟨b, off + j, none⟩ := fun j => by unfold Addr.add; split <;> simp_all
        refine .row b off cap0 _ (fun i => (f i).2.1.1) (fun i => (f i).2.1.2) (by rw [hkl]; exact hpos) (by rw [hkl]; exact hlc) trivial (fun i hi => ?_) (fun i hi => ?_) (fun i hi => ?_) (fun i hi => ?_)
        all_goals rw [hkl] at hi
        all_goals rw [hkk i hi]
        · have := hcell i hi 0 (by omega)
          rw [hadd] at this
          rw [← (hf' i hi).2.1.ek]; exact this
        · have := hcell i hi 1 (by omega)
          rw [hadd] at this
          rw [← (hf' i hi).2.1.en, Nat.add_assoc]; exact this
        · have := hcell i hi 2 (by omega)
          rw [hadd] at this
          rw [Nat.add_assoc]; exact this
        · exact (hf' i hi).2.1.kids
    · show Tr.sizeL ((List.range len0).map fun i => (f i).2.2) ≤ _
      have := sizeL_bulk ((List.range len0).map fun i => (f i).2.2) (elems.map (·.1)) (by rw [hkl]; simp [hel]) (fun i hi => by
        have hi' : i < len0 := by simpa [hel] using hi
        rw [hkk i hi']
        have h2 : elems[i]? = some (elems[i]'(by omega)) := List.getElem?_eq_getElem (by omega)
        simpa using (hf' i hi').2.2 _ h2)
      omega
end Go.Proofs.Ytncikklhchimdaa
