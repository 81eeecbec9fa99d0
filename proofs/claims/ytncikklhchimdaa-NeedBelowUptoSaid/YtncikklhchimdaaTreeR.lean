/- Opening an argument's reading: a tree of descriptors, whose nodes are no more than its bulk. -/
import Derived.Test.YtncikklhchimdaaRows
import Derived.Test.YtncikklhchimdaaTree
import Derived.Test.YtncikklhchimdaaOpen
import Derived.ChangeArms
import Derived.Deep.Slices
import Derived.DataReads
namespace Go.Proofs.Ytncikklhchimdaa
open Go.ChangeShapes Go.WideShapes Go.ChangeAt Go.RowKit
set_option linter.unusedVariables false
set_option linter.unusedSimpArgs false
set_option maxRecDepth 100000

theorem bulk_one {H : Type} (d : DataW H) : 1 ≤ Rows.uptoBulk d := by
  cases d with
  | lit l => cases l <;> simp [Rows.uptoBulk]
  | nil => simp [Rows.uptoBulk]
  | ptr d => simp [Rows.uptoBulk]
  | slice elems spare => simp [Rows.uptoBulk]
  | agg parts => simp [Rows.uptoBulk]
  | iface t d => simp [Rows.uptoBulk]
  | map entries => simp [Rows.uptoBulk]
  | held h => simp [Rows.uptoBulk]

theorem sizeL_bulk {H : Type} : ∀ (ks : List Tr) (ds : List (DataW H)), ks.length = ds.length → (∀ i (h : i < ds.length), (Tr.kid ks i).size ≤ Rows.uptoBulk ds[i]) → Tr.sizeL ks ≤ Rows.uptoBulkAll ds
  | [], [], _, _ => by simp [Tr.sizeL]
  | [], d :: ds, h, _ => by simp at h
  | t :: ts, [], h, _ => by simp at h
  | t :: ts, d :: ds, h, hs => by
    simp only [Tr.sizeL, Rows.uptoBulkAll]
    have h0 := hs 0 (by simp)
    have h1 := sizeL_bulk ts ds (by simpa using h) (fun i hi => hs (i + 1) (by simpa using hi))
    simp only [Tr.kid, List.getD_cons_zero, List.getElem_cons_zero] at h0
    omega

section
variable {H : Type} {enc : TypeId × Value → H} {P : Program} {w : World} {base : Nat} {sp : Nat → Bool} {held : Bool}

theorem open_tree_go {T : TypeId} {f0 f1 f2 : Field} (hs : P.underlying T = some (.struct #[f0, f1, f2])) (o0 : f0.offset = 0) (o1 : f1.offset = 1) (o2 : f2.offset = 2) (c0 : P.cellsOf f0.type = 1) (c1 : P.cellsOf f1.type = 1) (c2 : P.cellsOf f2.type = 1)
    (i0 : P.underlying f0.type = some (.int .i64)) (i1 : P.underlying f1.type = some (.int .i64)) (i2 : P.underlying f2.type = some (.slice T)) (hC : P.cellsOf T = 3) (N : Nat) :
    ∀ (fuel : Nat) (cs : List Value) (x : DataW H × List MemPlace), fuel ≤ N → DataW.trod enc P w base sp held fuel T cs = some x →
      ∃ k n a m c t, cs = [.int .i64 k, .int .i64 n, .slice a m c] ∧ IsT w (fun _ => True) k n a m c t ∧ t.size ≤ Rows.uptoBulk x.1 := by
  induction N with
  | zero =>
    intro fuel cs x hf h
    obtain ⟨xs, n, hn, _⟩ := DataW.trod_struct hs h
    omega
  | succ N ih =>
    intro fuel cs x hf h
    obtain ⟨ys, n, rfl, rfl, hlen, hyl, hfs⟩ := DataW.trod_struct hs h
    rw [hC] at hlen
    match cs, hlen with
    | [v0, v1, v2], _ =>
      match ys, hyl with
      | [y0, y1, y2], _ =>
        have e0 := hfs 0 f0 rfl
        have e1 := hfs 1 f1 rfl
        have e2 := hfs 2 f2 rfl
        rw [o0, c0] at e0
        rw [o1, c1] at e1
        rw [o2, c2] at e2
        simp only [List.drop_zero, List.drop_succ_cons, List.take_succ_cons, List.take_zero, List.getElem?_cons_zero, List.getElem?_cons_succ] at e0 e1 e2
        obtain ⟨k, hk, hxk, wk⟩ := DataW.trod_int i0 e0
        obtain ⟨nn, hn, hxn, wn⟩ := DataW.trod_int i1 e1
        simp only [List.cons.injEq, and_true] at hk hn
        subst hk hn
        have hb0 := bulk_one y0.1
        have hb1 := bulk_one y1.1
        have hbulk : Rows.uptoBulk (DataW.agg ([y0, y1, y2].map (·.1))) = Rows.uptoBulk y0.1 + (Rows.uptoBulk y1.1 + Rows.uptoBulk y2.1) + 1 := by simp [Rows.uptoBulk, Rows.uptoBulkAll]
        rcases DataW.trod_slice i2 e2 with ⟨hcs, hx2⟩ | ⟨ad, len, cap, elems, rest, n2, hn2, hcs, hx2, hbase, hlc, hcm, hel, hat, _, _⟩
        · simp only [List.cons.injEq, and_true] at hcs
          subst hcs
          refine ⟨k, nn, none, 0, 0, .node k nn [], rfl, ⟨rfl, rfl, rfl, ?_, .nil⟩, ?_⟩
          · simp only [Tr.Ok, Tr.OkL]; exact ⟨wk, wn, trivial⟩
          · simp only [Tr.size, Tr.sizeL]; rw [hbulk]; omega
        · simp only [List.cons.injEq, and_true] at hcs
          subst hcs
          have hb2 : Rows.uptoBulkAll (elems.map (·.1)) + 1 ≤ Rows.uptoBulk y2.1 := by rw [hx2]; simp only [Rows.uptoBulk]; omega
          have hE : ∀ i, i < len → ∃ p : (Int × Int) × (Option Addr × Nat) × Tr, w.cells? base (ad.add (i * 3)) 3 = some [.int .i64 p.1.1, .int .i64 p.1.2, .slice p.2.1.1 p.2.2.kids.length p.2.1.2] ∧ IsT w (fun _ => True) p.1.1 p.1.2 p.2.1.1 p.2.2.kids.length p.2.1.2 p.2.2 ∧ ∀ d, elems[i]? = some d → p.2.2.size ≤ Rows.uptoBulk d.1 := fun i hi => by
            have h1 := hat i hi
            rw [hC] at h1
            have h2 : elems[i]? = some (elems[i]'(by omega)) := List.getElem?_eq_getElem (by omega)
            rw [h2] at h1
            obtain ⟨cs', hc', ht'⟩ := Option.bind_eq_some_iff.1 h1
            obtain ⟨k', n', a', m', c', t', rfl, hT', hsz'⟩ := ih n2 cs' _ (by omega) ht'
            refine ⟨((k', n'), (a', c'), t'), ?_, ?_, ?_⟩
            · rw [hc', hT'.em]
            · have := hT'; rw [hT'.em] at this; exact this
            · intro d hd
              rw [h2] at hd
              cases hd
              exact hsz'
          have hE' : ∀ i, ∃ p : (Int × Int) × (Option Addr × Nat) × Tr, i < len → w.cells? base (ad.add (i * 3)) 3 = some [.int .i64 p.1.1, .int .i64 p.1.2, .slice p.2.1.1 p.2.2.kids.length p.2.1.2] ∧ IsT w (fun _ => True) p.1.1 p.1.2 p.2.1.1 p.2.2.kids.length p.2.1.2 p.2.2 ∧ ∀ d, elems[i]? = some d → p.2.2.size ≤ Rows.uptoBulk d.1 := fun i => by
            by_cases hi : i < len
            · obtain ⟨p, hp⟩ := hE i hi; exact ⟨p, fun _ => hp⟩
            · exact ⟨((0, 0), (none, 0), .node 0 0 []), fun h => absurd h hi⟩
          obtain ⟨f, hf'⟩ : ∃ f : Nat → (Int × Int) × (Option Addr × Nat) × Tr, ∀ i, i < len → w.cells? base (ad.add (i * 3)) 3 = some [.int .i64 (f i).1.1, .int .i64 (f i).1.2, .slice (f i).2.1.1 (f i).2.2.kids.length (f i).2.1.2] ∧ IsT w (fun _ => True) (f i).1.1 (f i).1.2 (f i).2.1.1 (f i).2.2.kids.length (f i).2.1.2 (f i).2.2 ∧ ∀ d, elems[i]? = some d → (f i).2.2.size ≤ Rows.uptoBulk d.1 :=
            ⟨fun i => Classical.choose (hE' i), fun i hi => Classical.choose_spec (hE' i) hi⟩
          have hkl : ((List.range len).map fun i => (f i).2.2).length = len := by simp
          have hkk : ∀ i, i < len → Tr.kid ((List.range len).map fun i => (f i).2.2) i = (f i).2.2 := fun i hi => by rw [Tr.kid_get (by rw [hkl]; exact hi)]; simp
          refine ⟨k, nn, some ad, len, cap, .node k nn ((List.range len).map fun i => (f i).2.2), rfl, ⟨rfl, rfl, hkl.symm, ?_, ?_⟩, ?_⟩
          · simp only [Tr.Ok]
            refine ⟨wk, wn, Tr.okL_of fun t ht => ?_⟩
            obtain ⟨i, hi, rfl⟩ := List.mem_map.1 ht
            exact (hf' i (List.mem_range.1 hi)).2.1.ok
          · show Kids w _ (some ad) cap ((List.range len).map fun i => (f i).2.2)
            rcases Nat.eq_zero_or_pos len with h0 | hpos
            · subst h0; exact .empty ad cap
            · obtain ⟨b, off, spot⟩ := ad
              have hcell : ∀ i, i < len → ∀ j, j < 3 → w.cell? ((⟨b, off, spot⟩ : Addr).add (i * 3 + j)) = [Value.int .i64 (f i).1.1, .int .i64 (f i).1.2, .slice (f i).2.1.1 (f i).2.2.kids.length (f i).2.1.2][j]? := fun i hi j hj => by
                obtain ⟨_, _, h3⟩ := World.cells?_some (hf' i hi).1
                rw [← Go.Deep.add_add]; exact h3 j hj
              have hspot : spot = none := by
                have := hcell 0 hpos 0 (by omega)
                have h1 : w.cell? (⟨b, off, spot⟩ : Addr) = some (.int .i64 (f 0).1.1) := by simpa [Addr.add] using this
                simpa using World.cell?_spot h1
              subst hspot
              have hadd : ∀ j, (⟨b, off, none⟩ : Addr).add j = ⟨b, off + j, none⟩ := fun j => by unfold Addr.add; split <;> simp_all
              refine .row b off cap _ (fun i => (f i).2.1.1) (fun i => (f i).2.1.2) (by rw [hkl]; exact hpos) (by rw [hkl]; exact hlc) trivial (fun i hi => ?_) (fun i hi => ?_) (fun i hi => ?_) (fun i hi => ?_)
              all_goals rw [hkl] at hi
              all_goals rw [hkk i hi]
              · have := hcell i hi 0 (by omega)
                rw [hadd] at this
                rw [← (hf' i hi).2.1.ek]; exact this
              · have := hcell i hi 1 (by omega)
                rw [hadd] at this
                rw [← (hf' i hi).2.1.en, Nat.add_assoc]; exact this
              · have := hcell i hi 2 (by omega)
                rw [hadd] at this
                rw [Nat.add_assoc]; exact this
              · exact (hf' i hi).2.1.kids
          · rw [Tr.size_kids]
            show Tr.sizeL ((List.range len).map fun i => (f i).2.2) + 1 ≤ _
            have := sizeL_bulk ((List.range len).map fun i => (f i).2.2) (elems.map (·.1)) (by rw [hkl]; simp [hel]) (fun i hi => by
              have hi' : i < len := by simpa [hel] using hi
              rw [hkk i hi']
              have h2 : elems[i]? = some (elems[i]'(by omega)) := List.getElem?_eq_getElem (by omega)
              simpa using (hf' i hi').2.2 _ h2)
            rw [hbulk]; omega
end

theorem open_tree {H : Type} {enc : TypeId × Value → H} {P : Program} {W : World} {r : Reach} {b0 base : Nat} {sp : Nat → Bool} {held : Bool} {T : TypeId} {f0 f1 f2 : Field} {v : Value} {d : DataW H} {p : List MemPlace}
    (hs : P.underlying T = some (.struct #[f0, f1, f2])) (o0 : f0.offset = 0) (o1 : f1.offset = 1) (o2 : f2.offset = 2) (c0 : P.cellsOf f0.type = 1) (c1 : P.cellsOf f1.type = 1) (c2 : P.cellsOf f2.type = 1)
    (i0 : P.underlying f0.type = some (.int .i64)) (i1 : P.underlying f1.type = some (.int .i64)) (i2 : P.underlying f2.type = some (.slice T)) (hC : P.cellsOf T = 3) (hv : Value.okWide P W r b0 T v) (h : DataW.Trod enc P W base sp held T v d p) :
    ∃ k n a m c t, v = .agg #[.int .i64 k, .int .i64 n, .slice a m c] ∧ IsT W (fun _ => True) k n a m c t ∧ t.size ≤ Rows.uptoBulk d := by
  obtain ⟨cs, rfl, hsz⟩ := okWide_struct hs hv
  obtain ⟨fuel, hf⟩ := h
  obtain ⟨k, n, a, m, c, t, hcs, hT, hsize⟩ := open_tree_go hs o0 o1 o2 c0 c1 c2 i0 i1 i2 hC fuel fuel _ _ (Nat.le_refl _) hf
  refine ⟨k, n, a, m, c, t, ?_, hT, hsize⟩
  have : cs = #[.int .i64 k, .int .i64 n, .slice a m c] := by
    obtain ⟨l⟩ := cs
    simpa [Value.cells] using hcs
  rw [this]
end Go.Proofs.Ytncikklhchimdaa
