/- The contracts and plain laws that the statements ChooseFirst ChooseMeasures ChooseBest need, part 7 of 11: NeedE NeedG ConvH ExecA ExecB ChoA ChoB PermD PermF PermK. -/
import Derived.Test.YtlnlijeamflpiaaGreatChB6
namespace Go.Proofs.YtlnlijeamflpiaaGreat
open Go.RowKit
set_option linter.unusedVariables false
set_option linter.unusedSimpArgs false
set_option maxRecDepth 100000
set_option maxRecDepth 20000
theorem info_name : (Tryz.prog.info? 112).map (fun i => (i.zero, i.size, i.bytes)) = some (some (.agg #[.int .i64 0, .int .i64 0, .int .i64 0, .int .i64 0]), 4, 32) := by kernel_rfl
theorem cell_four_new (w : World) (x y z u : Value) (t : TypeId) : ∀ j v, [x, y, z, u][j]? = some v → (w.alloc (.cells #[x, y, z, u] t)).cell? ((⟨w.heap.size, 0, none⟩ : Addr).add j) = some v := by
  intro j v hj
  match j, hj with
  | 0, hj => simp at hj; subst hj; simp [Addr.add]
  | 1, hj => simp at hj; subst hj; simp [Addr.add]
  | 2, hj => simp at hj; subst hj; simp [Addr.add]
  | 3, hj => simp at hj; subst hj; simp [Addr.add]
theorem one_four (x y z u : Int) : ∀ v ∈ [Value.int .i64 x, Value.int .i64 y, Value.int .i64 z, Value.int .i64 u], v.oneCell' = true := by
  intro v hv
  simp at hv
  rcases hv with rfl | rfl | rfl | rfl <;> rfl
/-- The cells of some names. -/
def cellsN (xs : List Nm) : List Value := xs.flatMap fun x => [.int .i64 x.1, .int .i64 x.2.1, .int .i64 x.2.2.1, .int .i64 x.2.2.2]
theorem cellsN_append (xs ys : List Nm) : cellsN (xs ++ ys) = cellsN xs ++ cellsN ys := by simp [cellsN]
/-- What holds when some names have been told to the one who collects. -/
structure TabJ (w0 : World) (bs bm bl B1 : Nat) (pre : List Nm) (W : World) : Prop where
  below : Below w0.heap.size w0 W
  cellS : W.heap[bs]? = some (.cells #[.map (some bm)] 161 (0, 0))
  map : W.heap[bm]? = some (mapObj (cntL pre))
  row : ∃ v, W.heap[bl]? = some (.cells #[v] 147 (0, 0)) ∧ W.ownsRow B1 112 4 v (once pre).length (cellsN (once pre))
  size : B1 ≤ W.heap.size
theorem TabJ.later {w0 : World} {bs bm bl B1 : Nat} {pre : List Nm} {W W' : World} (h : TabJ w0 bs bm bl B1 pre W) (hb : Below W.heap.size W W') : TabJ w0 bs bm bl B1 pre W' := by
  obtain ⟨h1, h2, h3, ⟨v, h4, h5⟩, h6⟩ := h
  exact ⟨h1.trans (hb.mono h1.size), (hb.block _ (block_lt h2)).trans h2, (hb.block _ (block_lt h3)).trans h3, ⟨v, (hb.block _ (block_lt h4)).trans h4, own_later3 h5 hb⟩, Nat.le_trans h6 hb.size⟩
theorem zero_int (W : World) : (zeroValue 3).run Tryz.prog W = .ok (.int .i64 0) W := by kernel_rfl
set_option maxHeartbeats 2000000 in
/-- One more name in the map: what the operations do. -/
theorem map_more {bm : Nat} {pre : List Nm} {V : World} (x : Nm) (hm : V.heap[bm]? = some (mapObj (cntL pre))) :
    ∃ (st : Nat) (V2 : World), (Instr.lookup 161 (.map (some bm)) (nv x) false).run Tryz.prog V = .ok (.int .i64 (pre.count x : Nat)) V ∧
      (Instr.mapEntry 161 (.map (some bm)) (nv x)).run Tryz.prog V = .ok (.tuple #[.int .i64 (pre.count x : Nat), goInt st]) V2 ∧
      (Instr.lookup 161 (.map (some bm)) (nv x) false).run Tryz.prog V2 = .ok (.int .i64 (pre.count x : Nat)) V2 ∧
      (Instr.entryStore 161 (.map (some bm)) (goInt st) (.int .i64 ((pre.count x : Nat) + 1))).run Tryz.prog V2 = .ok () (V2.putObj bm (mapObj (cntL (pre ++ [x])))) ∧
      (Instr.lookup 161 (.map (some bm)) (nv x) false).run Tryz.prog (V2.putObj bm (mapObj (cntL (pre ++ [x])))) = .ok (.int .i64 ((pre.count x : Nat) + 1)) (V2.putObj bm (mapObj (cntL (pre ++ [x])))) ∧
      (∀ b, b ≠ bm → V2.heap[b]? = V.heap[b]?) ∧ V2.heap.size = V.heap.size ∧ Below bm V V2 ∧ V2.putObj bm (mapObj (cntL (pre ++ [x]))) = V.putObj bm (mapObj (cntL (pre ++ [x]))) := by
  have hM := Tryz.underlying161
  have hlt := block_lt hm
  have hkx : isNv (nv x) := ⟨x, rfl⟩
  have hput : ∀ (V2 : World) (o : Obj), (V2.putObj bm o).heap[bm]? = if bm < V2.heap.size then some o else none := fun V2 o => by
    split
    · rename_i h; exact World.putObj_heap_same h
    · rename_i h; rw [Array.getElem?_eq_none]; simp; omega
  by_cases hx : x ∈ pre
  · obtain ⟨j, hj1, hj2, hj3⟩ := cntL_yes hx
    have hjl : j < (cntL pre).length := by rw [cntL_len]; exact hj1
    refine ⟨j, V, ?_, ?_, ?_, ?_, ?_, fun b hb => rfl, rfl, Below.refl _ _, rfl⟩
    · simpa using name_keys.lookup_yes hM hm (cntL_keys pre) hkx (cntL_nodup pre) hj3 false
    · have := name_keys.entry_yes hM hm (cntL_keys pre) hkx (cntL_nodup pre) hj3
      rwa [put_same V bm _ hm] at this
    · simpa using name_keys.lookup_yes hM hm (cntL_keys pre) hkx (cntL_nodup pre) hj3 false
    · have := run_entryStore (P := Tryz.prog) (M := 161) hm j hjl (.int .i64 ((pre.count x : Nat) + 1))
      rwa [← cntL_more hx hj2] at this
    · have hx2 : x ∈ pre ++ [x] := by simp
      obtain ⟨i, hi1, hi2, hi3⟩ := cntL_yes hx2
      have := name_keys.lookup_yes (b := bm) hM (show (V.putObj bm (mapObj (cntL (pre ++ [x])))).heap[bm]? = _ by rw [hput, if_pos hlt]) (cntL_keys _) hkx (cntL_nodup _) hi3 false
      simpa [List.count_append] using this
  · have hc : pre.count x = 0 := List.count_eq_zero.2 hx
    rw [hc]
    have hl2 : (V.putObj bm (mapObj (cntL pre ++ [(nv x, .int .i64 0)]))).heap[bm]? = some (mapObj (cntL pre ++ [(nv x, .int .i64 0)])) := by rw [hput, if_pos hlt]
    have hk2 : ∀ p ∈ cntL pre ++ [(nv x, Value.int .i64 0)], isNv p.1 := fun p hp => by
      rcases List.mem_append.1 hp with h | h
      · exact cntL_keys pre p h
      · simp only [List.mem_singleton] at h; subst h; exact hkx
    have hn2 : ((cntL pre ++ [(nv x, Value.int .i64 0)]).map (·.1)).Nodup := by
      have := cntL_nodup (pre ++ [x])
      rw [cntL_new hx] at this
      simpa using this
    have hpp : (V.putObj bm (mapObj (cntL pre ++ [(nv x, .int .i64 0)]))).putObj bm (mapObj (cntL (pre ++ [x]))) = V.putObj bm (mapObj (cntL (pre ++ [x]))) := by
      simp [World.putObj]
    have hoth : ∀ b, b ≠ bm → (V.putObj bm (mapObj (cntL pre ++ [(nv x, .int .i64 0)]))).heap[b]? = V.heap[b]? := fun b hb => World.putObj_heap_other hb
    have hsz : (V.putObj bm (mapObj (cntL pre ++ [(nv x, .int .i64 0)]))).heap.size = V.heap.size := World.putObj_size
    have hbl : Below bm V (V.putObj bm (mapObj (cntL pre ++ [(nv x, .int .i64 0)]))) := put_below (Below.refl bm V) bm (Nat.le_refl _) _
    have hzz : (((0 : Nat) : Int) + 1) = 1 := by omega
    refine ⟨(cntL pre).length, V.putObj bm (mapObj (cntL pre ++ [(nv x, .int .i64 0)])), ?_, ?_, ?_, ?_, ?_, hoth, hsz, hbl, hpp⟩
    · simpa using name_keys.lookup_no hM hm (cntL_keys pre) hkx zero_int (cntL_no hx) false
    · exact name_keys.entry_no hM hm (cntL_keys pre) hkx zero_int (cntL_no hx)
    · simpa using name_keys.lookup_yes (j := (cntL pre).length) hM hl2 hk2 hkx hn2 (by simp) false
    · have := run_entryStore (P := Tryz.prog) (M := 161) hl2 (cntL pre).length (by simp) (.int .i64 1)
      rw [show (cntL pre ++ [(nv x, Value.int .i64 0)]).modify (cntL pre).length (fun p => (p.1, Value.int .i64 1)) = cntL (pre ++ [x]) by
        rw [cntL_new hx]
        refine List.ext_getElem? fun i => ?_
        rw [List.getElem?_modify]
        by_cases hi : (cntL pre).length = i
        · subst hi; simp
        · simp only [hi, if_false, Option.map_id']
          rcases Nat.lt_or_ge i (cntL pre).length with h | h
          · rw [List.getElem?_append_left h, List.getElem?_append_left h]; simp
          · rw [List.getElem?_eq_none (by simp; omega), List.getElem?_eq_none (by simp; omega)]; rfl] at this
      simpa using this
    · have hx2 : x ∈ pre ++ [x] := by simp
      obtain ⟨i, hi1, hi2, hi3⟩ := cntL_yes hx2
      have := name_keys.lookup_yes (b := bm) hM (show ((V.putObj bm (mapObj (cntL pre ++ [(nv x, .int .i64 0)]))).putObj bm (mapObj (cntL (pre ++ [x])))).heap[bm]? = _ by rw [hput, if_pos (by simpa using hlt)]) (cntL_keys _) hkx (cntL_nodup _) hi3 false
      simpa [List.count_append, hc] using this
theorem own_type {w : World} {B : Nat} {e T : TypeId} {s : Nat} {v : Value} {n b : Nat} {xs : List Value} {cs : Array Value} (h : w.ownsRow B e s v n xs) (hb : w.heap[b]? = some (.cells cs T (0, 0))) (hne : e ≠ T) : v.ownBlock ≠ some b := by
  rcases h.2 with ⟨rfl, _⟩ | ⟨g, cap, cur, rfl, _, hg, _⟩
  · intro e1; cases e1
  · intro e1
    simp only [Value.ownBlock, Option.some.injEq] at e1
    subst e1
    rw [hg] at hb
    simp only [Option.some.injEq, Obj.cells.injEq] at hb
    exact hne hb.2.1
/-- Behind a name that was there already. -/
theorem tab_old {w0 : World} {bs bm bl B1 : Nat} {pre : List Nm} {x : Nm} {W W3 : World} (hJ : TabJ w0 bs bm bl B1 pre W) (hx : x ∈ pre) (hbm : w0.heap.size ≤ bm) (hm1 : bm < B1) (hs : W.heap.size ≤ W3.heap.size) (hos : W3.os = W.os) (htp : W3.tape = W.tape) (hop : W3.output = W.output)
    (h3 : ∀ b, b < W.heap.size → b ≠ bm → W3.heap[b]? = W.heap[b]?) (hm : W3.heap[bm]? = some (mapObj (cntL (pre ++ [x])))) : TabJ w0 bs bm bl B1 (pre ++ [x]) W3 := by
  obtain ⟨h1, h2, h4, ⟨v, h5, h6⟩, h7⟩ := hJ
  have hbs := block_lt h2
  have hbl := block_lt h5
  have n1 : bs ≠ bm := fun e => by rw [e, h4] at h2; cases h2
  have n2 : bl ≠ bm := fun e => by rw [e, h4] at h5; cases h5
  have ho : once (pre ++ [x]) = once pre := by rw [once_snoc, if_pos ((mem_once _ _).2 hx)]
  have hg : W.grownBy W3 (some bm) := ⟨hos, htp, hop, hs, fun b hb hne => h3 b hb (fun e => hne (by rw [e]))⟩
  refine ⟨h1.grown hg h1.size (fun k hk => by cases hk; exact hbm), (h3 _ hbs n1).trans h2, hm, ⟨v, (h3 _ hbl n2).trans h5, ?_⟩, Nat.le_trans h7 hs⟩
  rw [ho]
  exact h6.kept hg (.inr fun e => by have := (h6.lt bm e).1; omega)
set_option maxHeartbeats 4000000 in
theorem tab_call (w0 : World) (bs bm bl B1 : Nat) (h0m : w0.heap.size ≤ bm) (h0l : w0.heap.size ≤ bl) (hmB : bm < B1) (hlB : bl < B1) (hsB : bs < B1) (hB0 : w0.heap.size ≤ B1) (pre : List Nm) (k n m d : Int) (W : World) (hJ : TabJ w0 bs bm bl B1 pre W) (hl : pre.length < 1048576) :
    Calls Tryz.prog 179 #[.agg #[.int .i64 k, .int .i64 n, .int .i64 m, .int .i64 d], .pointer (some ⟨bs, 0, none⟩), .pointer (some ⟨bl, 0, none⟩)] W fun e W' => e = .returned (.tuple #[]) ∧ TabJ w0 bs bm bl B1 (pre ++ [(k, n, m, d)]) W' ∧ KeepsD W W' := by
  obtain ⟨i0, hi, hz0, hz1, hz2⟩ := info_parts info_name
  have hbs := block_lt hJ.cellS
  have hbm := block_lt hJ.map
  obtain ⟨v, hv, hown⟩ := hJ.row
  have hbl := block_lt hv
  have n1 : bs ≠ bm := fun e => by have := hJ.cellS; rw [e, hJ.map] at this; cases this
  have n2 : bl ≠ bm := fun e => by rw [e, hJ.map] at hv; cases hv
  have n3 : bs ≠ bl := fun e => by have := hJ.cellS; rw [e, hv] at this; simp at this
  obtain ⟨W0, hW0, hb0, x0⟩ := box_any W #[.int .i64 k, .int .i64 n, .int .i64 m, .int .i64 d] 112
  have hJ0 := hJ.later hb0
  have hmap : W0.drew.heap[bm]? = some (mapObj (cntL pre)) := hJ0.map
  obtain ⟨st, V2, r1, r2, r3, r4, r5, q1, q2, q3, q4⟩ := map_more (k, n, m, d) hmap
  simp only [nv, goInt] at r1 r2 r3 r4 r5
  obtain ⟨V3, hV3⟩ : ∃ V3, V2.putObj bm (mapObj (cntL (pre ++ [(k, n, m, d)]))) = V3 := ⟨_, rfl⟩
  rw [hV3] at r4 r5 q4
  have hc1 : pre.count (k, n, m, d) ≤ pre.length := List.count_le_length
  have hcn : Hid (pre.count (k, n, m, d) = 0 ↔ (k, n, m, d) ∉ pre) := List.count_eq_zero
  obtain ⟨c, hc⟩ : ∃ c : Int, ((pre.count (k, n, m, d) : Nat) : Int) = c := ⟨_, rfl⟩
  have hc2 : 0 ≤ c := by omega
  have hc3 : c ≤ 1048576 := by omega
  have HCN : Hid (c = 0 ↔ (k, n, m, d) ∉ pre) := by
    unfold Hid
    rw [← hcn.out]; omega
  rw [hc] at r1 r2 r3 r4 r5
  have wc : IntKind.i64.wrap (c + 1) = c + 1 := IntWalk.i64_in _ (by omega)
  have hW3m : V3.heap[bm]? = some (mapObj (cntL (pre ++ [(k, n, m, d)]))) := by rw [q4]; exact World.putObj_heap_same (by show bm < W0.drew.heap.size; exact Nat.lt_of_lt_of_le hbm hb0.size)
  have hW3o : ∀ b, b ≠ bm → V3.heap[b]? = W0.heap[b]? := fun b hb => by rw [q4]; exact World.putObj_heap_other hb
  have hW3s : V3.heap.size = W0.heap.size := by rw [q4]; exact World.putObj_size
  have hW3e : V3.os = W0.os ∧ V3.tape = W0.tape ∧ V3.output = W0.output := by rw [q4]; exact ⟨rfl, rfl, rfl⟩
  have hxl := block_lt x0
  have nx : W.heap.size ≠ bm := by omega
  have s0 := (hb0.block bs hbs).trans hJ.cellS
  have S0 : W0.cell? ⟨bs, 0, none⟩ = some (.map (some bm)) := block_cell s0 0
  have X0 : W0.cell? ⟨W.heap.size, 0, none⟩ = some (.int .i64 k) := block_cell x0 0
  have X1 : W0.cell? ⟨W.heap.size, 1, none⟩ = some (.int .i64 n) := block_cell x0 1
  have X2 : W0.cell? ⟨W.heap.size, 2, none⟩ = some (.int .i64 m) := block_cell x0 2
  have X3 : W0.cell? ⟨W.heap.size, 3, none⟩ = some (.int .i64 d) := block_cell x0 3
  have f2 : ∀ b o, b ≠ bm → V2.cell? ⟨b, o, none⟩ = W0.cell? ⟨b, o, none⟩ := fun b o hb => World.cell?_of_block (q1 b hb)
  have f3 : ∀ b o, b ≠ bm → V3.cell? ⟨b, o, none⟩ = W0.cell? ⟨b, o, none⟩ := fun b o hb => World.cell?_of_block (hW3o b hb)
  have S2 := (f2 bs 0 n1).trans S0
  have Y0 := (f2 W.heap.size 0 nx).trans X0
  have Y1 := (f2 W.heap.size 1 nx).trans X1
  have Y2 := (f2 W.heap.size 2 nx).trans X2
  have Y3 := (f2 W.heap.size 3 nx).trans X3
  have S3 := (f3 bs 0 n1).trans S0
  have Z0 := (f3 W.heap.size 0 nx).trans X0
  have Z1 := (f3 W.heap.size 1 nx).trans X1
  have Z2 := (f3 W.heap.size 2 nx).trans X2
  have Z3 := (f3 W.heap.size 3 nx).trans X3
  have hvb := (hb0.block bl hbl).trans hv
  have L3 : V3.cell? ⟨bl, 0, none⟩ = some v := (f3 bl 0 n2).trans (block_cell hvb 0)
  have HVB : Hid (V3.heap[bl]? = some (.cells #[v] 147 (0, 0))) := (hW3o bl n2).trans hvb
  have HSB : Hid (V3.heap[bs]? = some (.cells #[.map (some bm)] 161 (0, 0))) := (hW3o bs n1).trans s0
  have HJ := Lib.hid hJ
  have HW0 := Lib.hid hW0
  have hlz : bl ≠ W.heap.size := by omega
  have HK3 : Hid (KeepsD W V3) := fun b cs hx => by
    have hbb := block_lt hx
    have hne : b ≠ bm := fun e => by rw [e, hJ.map] at hx; cases hx
    exact (hW3o b hne).trans ((hb0.block b hbb).trans hx)
  have HM3 := Lib.hid hW3m
  have HO3 : Hid (∀ b, b < W.heap.size → b ≠ bm → V3.heap[b]? = W.heap[b]?) := fun b hb hne => (hW3o b hne).trans (hb0.block b hb)
  have HZ3 : Hid (W.heap.size ≤ V3.heap.size ∧ V3.os = W.os ∧ V3.tape = W.tape ∧ V3.output = W.output) := ⟨by rw [hW3s]; exact hb0.size, hW3e.1.trans hb0.os, hW3e.2.1.trans hb0.tape, hW3e.2.2.trans hb0.output⟩
  have hg3 : W.grownBy V3 (some bm) := ⟨HZ3.out.2.1, HZ3.out.2.2.1, HZ3.out.2.2.2, HZ3.out.1, fun b hb hne => HO3.out b hb (fun e => hne (by rw [e]))⟩
  have HOW3 : Hid (V3.ownsRow B1 112 4 v (once pre).length (cellsN (once pre))) := hown.kept hg3 (.inr fun e => by have := (hown.lt bm e).1; omega)
  have HB3 : Hid (Below w0.heap.size w0 V3) := hJ.below.grown hg3 hJ.below.size (fun k hk => by cases hk; exact h0m)
  have HSZ : Hid (B1 ≤ V3.heap.size) := Nat.le_trans hJ.size HZ3.out.1
  have LF : V3.frozen? ⟨bl, 0, none⟩ = false := block_free HVB.out 0
  have hol : (once pre).length ≤ 1048576 := by have := once_len pre; omega
  have hVl : W.heap.size < V3.heap.size := by rw [hW3s]; exact hxl
  have HONE : Hid ((k, n, m, d) ∉ pre → once (pre ++ [(k, n, m, d)]) = once pre ++ [(k, n, m, d)]) := fun h => by rw [once_snoc, if_neg (fun e => h ((mem_once _ _).1 e))]
  obtain ⟨D, hD⟩ : ∃ D, W0.drew = D := ⟨_, rfl⟩
  have HD := Lib.hid hD
  have SD : D.cell? ⟨bs, 0, none⟩ = some (.map (some bm)) := by rw [← hD]; exact S0
  have XD0 : D.cell? ⟨W.heap.size, 0, none⟩ = some (.int .i64 k) := by rw [← hD]; exact X0
  have XD1 : D.cell? ⟨W.heap.size, 1, none⟩ = some (.int .i64 n) := by rw [← hD]; exact X1
  have XD2 : D.cell? ⟨W.heap.size, 2, none⟩ = some (.int .i64 m) := by rw [← hD]; exact X2
  have XD3 : D.cell? ⟨W.heap.size, 3, none⟩ = some (.int .i64 d) := by rw [← hD]; exact X3
  clear hD hV3 q4 q1 q2 q3 hW3m hW3o hW3s hW3e s0 hvb hv hJ hJ0 hmap hown hg3 hc hc1 hcn f2 f3 hW0 hb0 x0
  by_cases hx : (k, n, m, d) ∈ pre
  · have hcne : c ≠ 0 := fun e => HCN.out.1 e hx
    have t1 : (c + 1 == 1) = false := bno (by omega)
    have HX := Lib.hid hx
    clear hx hcne
    go_enter Tryz.func179, Tryz.ntmps179
    go_wp2_with fail
    rw [HW0.out]
    go_region_held3 (fun w' => w'.cell? ⟨bs, 0, none⟩ = some (.map (some bm)) ∧ w'.cell? ⟨W.heap.size, 0, none⟩ = some (.int .i64 k) ∧ w'.cell? ⟨W.heap.size, 1, none⟩ = some (.int .i64 n) ∧ w'.cell? ⟨W.heap.size, 2, none⟩ = some (.int .i64 m) ∧ w'.cell? ⟨W.heap.size, 3, none⟩ = some (.int .i64 d)) (first | exact ⟨S0, X0, X1, X2, X3⟩ | exact ⟨S2, Y0, Y1, Y2, Y3⟩ | exact ⟨S3, Z0, Z1, Z2, Z3⟩) (fail)
    all_goals
      clear r1 r2 r3 r4 S0 X0 X1 X2 X3 S2 Y0 Y1 Y2 Y3
      go_wp2_with fail
      go_end0
      exact ⟨rfl, tab_old HJ.out HX.out h0m hmB HZ3.out.1 HZ3.out.2.1 HZ3.out.2.2.1 HZ3.out.2.2.2 HO3.out HM3.out, HK3.out⟩
  · have hc0 : c = 0 := HCN.out.2 hx
    have t1 : (c + 1 == 1) = true := btrue (by omega)
    have HX := Lib.hid hx
    have hone := HONE.out hx
    have HON := Lib.hid hone
    clear hx hc0 hone
    have LA : (V3.alloc (.cells #[.int .i64 k, .int .i64 n, .int .i64 m, .int .i64 d] 112)).frozen? ⟨bl, 0, none⟩ = false := (frozen_past V3 _ ⟨bl, 0, none⟩ (block_lt HVB.out)).trans LF
    go_enter Tryz.func179, Tryz.ntmps179
    go_wp2_with fail
    rw [HW0.out]
    go_region_held3 (fun w' => w'.cell? ⟨bs, 0, none⟩ = some (.map (some bm)) ∧ w'.cell? ⟨W.heap.size, 0, none⟩ = some (.int .i64 k) ∧ w'.cell? ⟨W.heap.size, 1, none⟩ = some (.int .i64 n) ∧ w'.cell? ⟨W.heap.size, 2, none⟩ = some (.int .i64 m) ∧ w'.cell? ⟨W.heap.size, 3, none⟩ = some (.int .i64 d)) (first | exact ⟨S0, X0, X1, X2, X3⟩ | exact ⟨S2, Y0, Y1, Y2, Y3⟩ | exact ⟨S3, Z0, Z1, Z2, Z3⟩) (fail)
    all_goals
      clear r1 r2 r3 r4 S0 X0 X1 X2 X3 S2 Y0 Y1 Y2 Y3
      go_wp2_with (at_builtin; refine wpList_append_own _ rfl _ _ 147 rfl B1 112 i0 (.agg #[.int .i64 0, .int .i64 0, .int .i64 0, .int .i64 0]) 4 32 Tryz.underlying147 hi hz0 hz1 hz2 rfl (by decide) _ (once pre).length (cellsN (once pre)) rfl (HOW3.out.alloc _) ⟨V3.heap.size, 0, none⟩ 1 1 [.int .i64 k, .int .i64 n, .int .i64 m, .int .i64 d] rfl rfl (cell_four_new _ _ _ _ _ _) (one_four _ _ _ _) (by unfold maxLen; omega) (by omega) (by have := HSZ.out; simp; omega) ?_)
      intro v' w2 hown2 hgrow _
      obtain ⟨a', cap', rfl, hcap', _⟩ := own_slice2 hown2
      have hall : V3.grownBy w2 v.ownBlock := (World.grownBy_alloc V3 _ _).trans hgrow
      have hob : ∀ b, b < B1 → v.ownBlock ≠ some b := fun b hb e => by have := (HOW3.out.lt b e).1; omega
      have hl2 : w2.heap[bl]? = some (.cells #[v] 147 (0, 0)) := (hall.block bl (block_lt HVB.out) (Ne.symm (hob bl hlB))).trans HVB.out
      have hs2 : w2.heap[bs]? = some (.cells #[.map (some bm)] 161 (0, 0)) := (hall.block bs (block_lt HSB.out) (Ne.symm (hob bs hsB))).trans HSB.out
      have hm2 : w2.heap[bm]? = some (mapObj (cntL (pre ++ [(k, n, m, d)]))) := (hall.block bm (block_lt HM3.out) (Ne.symm (hob bm hmB))).trans HM3.out
      have hb2 : Below w0.heap.size w0 w2 := HB3.out.grown hall HB3.out.size (fun k hk => by have := (HOW3.out.lt k hk).1; omega)
      have hlc : w2.cell? ⟨bl, 0, none⟩ = some v := block_cell hl2 0
      have hlf : w2.frozen? ⟨bl, 0, none⟩ = false := block_free hl2 0
      have hsz2 : B1 ≤ w2.heap.size := Nat.le_trans HSZ.out hall.size
      have HFIN : Hid (TabJ w0 bs bm bl B1 (pre ++ [(k, n, m, d)]) (w2.setCell ⟨bl, 0, none⟩ (.slice a' ((once pre).length + 1) cap'))) := by
        refine ⟨hb2.setCell (p := ⟨bl, 0, none⟩) h0l _, ?_, ?_, ⟨.slice a' ((once pre).length + 1) cap', ?_, ?_⟩, by rw [set_size]; exact hsz2⟩
        · rw [set_far _ _ _ _ n3]; exact hs2
        · rw [set_far _ _ _ _ (Ne.symm n2)]; exact hm2
        · exact block_set hl2 0 _
        · rw [HON.out, cellsN_append, List.length_append]
          exact ownsRow_setCell_other (a := ⟨bl, 0, none⟩) hown2 (fun e => by
            have := (hown2.lt bl e).1
            omega) _
      have HKF : Hid (KeepsD W (w2.setCell ⟨bl, 0, none⟩ (.slice a' ((once pre).length + 1) cap'))) := fun b cs hx => by
        have h3 := HK3.out b cs hx
        have hne : b ≠ bl := fun e => by rw [e, HVB.out] at h3; simp at h3
        have hno : v.ownBlock ≠ some b := own_type HOW3.out h3 (by decide)
        rw [set_far _ _ _ _ hne]
        exact (hall.block b (block_lt h3) (Ne.symm hno)).trans h3
      clear hown2 hgrow hall hl2 hs2 hm2 hb2 hob
      go_wp2_with fail
      go_end0
      exact ⟨rfl, HFIN.out, HKF.out⟩
/-- Why tables may not be asked for; 0: they may. -/
def errN (t : Tr) (dir : Int) : Int := if dir ≠ 0 ∧ dir ≠ 1 then 2 else chk t
theorem errN_zero {t : Tr} {dir : Int} (h : errN t dir = 0) : (dir = 0 ∨ dir = 1) ∧ chk t = 0 ∧ namesB t dir = t.names dir := by
  unfold errN at h
  by_cases hd : dir ≠ 0 ∧ dir ≠ 1
  · rw [if_pos hd] at h; omega
  · rw [if_neg hd] at h
    exact ⟨by omega, h, if_neg (fun h2 => h2.elim hd (fun h3 => h3 h))⟩
theorem errN_no {t : Tr} {dir : Int} (h : errN t dir ≠ 0) : namesB t dir = [] := by
  unfold errN at h
  by_cases hd : dir ≠ 0 ∧ dir ≠ 1
  · exact if_pos (.inl hd)
  · rw [if_neg hd] at h
    exact if_pos (.inr h)
/-- A result: names in a new row, and an error's number. -/
def GivesTab (C : Int) (xs : List Nm) (w : World) (e : Ending) (w' : World) : Prop :=
  ∃ a cap, e = .returned (.tuple #[.slice a xs.length cap, .int .i64 C]) ∧ w'.ownsRow w.heap.size 112 4 (.slice a xs.length cap) xs.length (cellsN xs) ∧ Below w.heap.size w w'
theorem own_low {w : World} {B B' : Nat} {e : TypeId} {s : Nat} {v : Value} {n : Nat} {xs : List Value} (h : w.ownsRow B e s v n xs) (hB : B' ≤ B) : w.ownsRow B' e s v n xs := by
  refine ⟨h.1, ?_⟩
  rcases h.2 with ⟨h1, h2⟩ | ⟨g, cap, cur, h1, h2, h3⟩
  · exact .inl ⟨h1, h2⟩
  · exact .inr ⟨g, cap, cur, h1, Nat.le_trans hB h2, h3⟩
theorem tab_boxes (w : World) (T M : TypeId) : ∃ W0, ((w.alloc (.cells #[.slice none 0 0] T)).alloc (.map #[] 0)).alloc (.cells #[.map (some (w.heap.size + 1))] M) = W0 ∧ Below w.heap.size w W0 ∧ W0.heap.size = w.heap.size + 3 ∧
      W0.heap[w.heap.size]? = some (.cells #[.slice none 0 0] T (0, 0)) ∧ W0.heap[w.heap.size + 1]? = some (.map #[] 0) ∧ W0.heap[w.heap.size + 1 + 1]? = some (.cells #[.map (some (w.heap.size + 1))] M (0, 0)) :=
  ⟨_, rfl, (((Below.refl _ _).alloc (Nat.le_refl _) _).alloc (by simp) _).alloc (by simp <;> omega) _, by simp, block_old (by simp <;> omega) (block_old (by simp) (block_new rfl)), block_old (by simp) (block_new (by simp)), block_new (by simp)⟩
set_option maxHeartbeats 4000000 in
theorem need_Tables (t : Tr) (k n : Int) (a : Option Addr) (m cap : Nat) (dir : Int) (w : World) (F : Nat → Prop) (hs : t.size ≤ 4194304) (hT : IsT w F k n a m cap t) :
    Calls Tryz.prog 152 #[.agg #[.int .i64 k, .int .i64 n, .slice a m cap], .int .i64 dir] w (GivesTab (errN t dir) (once (namesB t dir)) w) := by
  have CK : Hid (∀ W, Below w.heap.size w W → Calls Tryz.prog 177 #[.agg #[.int .i64 k, .int .i64 n, .slice a m cap], .int .i64 dir] W fun e w' => e = .returned (.int .i64 (errN t dir)) ∧ Below W.heap.size W w') := fun W hb => need_check t k n a m cap dir W F hs (hT.below hb)
  have HT := Lib.hid hT.lt
  have HS := Lib.hid hs
  have hmm := @run_makeMap Tryz.prog
  have hyes : errN t dir = 0 → (dir = 0 ∨ dir = 1) ∧ chk t = 0 ∧ namesB t dir = t.names dir := errN_zero
  have hno : errN t dir ≠ 0 → namesB t dir = [] := errN_no
  obtain ⟨C, hC⟩ : ∃ C, errN t dir = C := ⟨_, rfl⟩
  rw [hC] at CK hyes hno ⊢
  obtain ⟨W0, hW0, hb0, x0⟩ := box_any w #[.int .i64 k, .int .i64 n, .slice a m cap] 48
  have HW0 := Lib.hid hW0
  have HB := Lib.hid hb0
  have XD := Lib.hid x0
  have D0 : W0.cell? ⟨w.heap.size, 0, none⟩ = some (.int .i64 k) := block_cell x0 0
  have D1 : W0.cell? ⟨w.heap.size, 1, none⟩ = some (.int .i64 n) := block_cell x0 1
  have D2 : W0.cell? ⟨w.heap.size, 2, none⟩ = some (.slice a m cap) := block_cell x0 2
  clear hT hs hC hW0 hb0 x0
  by_cases hc : C = 0
  · subst hc
    obtain ⟨hd, hck, hnm⟩ := hyes rfl
    rw [hnm]
    have hsz : t.size ≤ 60 := (chk_zero.1 hck).1.1
    have CE : Hid (∀ w1 : World, Below w.heap.size w w1 → ∀ W, TabJ w (w1.heap.size + 1 + 1) (w1.heap.size + 1) w1.heap.size (w1.heap.size + 3) [] W → Calls Tryz.prog 178 #[.agg #[.int .i64 k, .int .i64 n, .slice a m cap], .int .i64 dir, .func (.func 179) #[] #[.pointer (some ⟨w1.heap.size + 1 + 1, 0, none⟩), .pointer (some ⟨w1.heap.size, 0, none⟩)]] W (EachEnds (TabJ w (w1.heap.size + 1 + 1) (w1.heap.size + 1) w1.heap.size (w1.heap.size + 3)) ([] ++ t.names dir) W)) :=
      fun w1 hb1 W hJ => need_each _ _ _ w w.heap.size 1048576 _ ⟨fun pre W h => h.below, fun pre W W' h hb => h.later hb, fun pre k n m d W h hl _ => tab_call w _ _ _ _ (by have := hb1.size; omega) hb1.size (by omega) (by omega) (by omega) (by have := hb1.size; omega) pre k n m d W h hl, enters_of Tryz.func179 (by kernel_rfl) rfl⟩ (Nat.le_refl _) 4194304 (by omega) t k n a m cap dir [] W HS.out HT.out (chk_zero.1 hck).2 hd hJ (by simp only [List.length_nil]; omega)
    clear hyes hno hck hnm hd hsz
    go_enter Tryz.func152, Tryz.ntmps152
    go_wp2_with fail
    rw [HW0.out]
    refine (CK.out _ HB.out).mono ?_; rintro e w1 ⟨rfl, hb⟩
    have HB1 := Lib.hid (chain HB.out hb)
    have XD1 := Lib.hid ((hb.block _ (block_lt XD.out)).trans XD.out)
    clear hb D0 D1 D2
    obtain ⟨V, hV, hbV, hsV, v0, v1, v2⟩ := tab_boxes w1 147 161
    have HV := Lib.hid hV
    have HJ : Hid (TabJ w (w1.heap.size + 1 + 1) (w1.heap.size + 1) w1.heap.size (w1.heap.size + 3) [] V) :=
      ⟨chain HB1.out hbV, v2, v1, ⟨_, v0, World.ownsRow_nil _ _ _ _⟩, by rw [hsV]; omega⟩
    have xdl := block_lt XD1.out
    have xdv := (hbV.block _ xdl).trans XD1.out
    have e0 : V.cell? ⟨w.heap.size, 0, none⟩ = some (.int .i64 k) := block_cell xdv 0
    have e1 : V.cell? ⟨w.heap.size, 1, none⟩ = some (.int .i64 n) := block_cell xdv 1
    have e2 : V.cell? ⟨w.heap.size, 2, none⟩ = some (.slice a m cap) := block_cell xdv 2
    rw [← hV] at e0 e1 e2
    have HB1s := HB1.out.size
    clear hV hbV hsV v0 v1 v2 xdv
    go_wp2_with fail
    rw [HV.out]
    refine (CE.out w1 HB1.out _ HJ.out).mono ?_; rintro e w2 ⟨rfl, hj, hk⟩
    rw [List.nil_append] at hj
    obtain ⟨v, hv, hown⟩ := hj.row
    obtain ⟨av, cv, rfl, hcv, _⟩ := own_slice2 hown
    have l0 : w2.cell? ⟨w1.heap.size, 0, none⟩ = some (.slice av (once (t.names dir)).length cv) := block_cell hv 0
    have HOW := Lib.hid (own_low (B' := w.heap.size) hown (by omega))
    have HBE := Lib.hid hj.below
    clear hj hk hv hown e0 e1 e2
    go_wp2_with fail
    go_ret2
    exact ⟨av, cv, rfl, HOW.out, HBE.out⟩
  · have t1 : (C != 0) = true := bdiff hc
    rw [hno hc]
    clear hyes hno
    go_enter Tryz.func152, Tryz.ntmps152
    go_wp2_with fail
    rw [HW0.out]
    refine (CK.out _ HB.out).mono ?_; rintro e w1 ⟨rfl, hb⟩
    have HB1 := Lib.hid (chain HB.out hb)
    clear hb D0 D1 D2
    go_wp2_with fail
    go_ret2
    exact ⟨none, 0, rfl, World.ownsRow_nil _ _ _ _, HB1.out⟩
end Go.Proofs.YtlnlijeamflpiaaGreat

namespace Go.Proofs.YtlnlijeamflpiaaGreat
open Go.RowKit
set_option linter.unusedVariables false
set_option linter.unusedSimpArgs false
set_option maxRecDepth 100000
set_option maxRecDepth 20000
def nmAt (xs : List Nm) (i : Nat) : Nm := xs.getD i (0, 0, 0, 0)
theorem nmAt_get {xs : List Nm} {i : Nat} (h : i < xs.length) : nmAt xs i = xs[i] := by simp [nmAt, h]
theorem nmAt_mem {xs : List Nm} {i : Nat} (h : i < xs.length) : nmAt xs i ∈ xs := by rw [nmAt_get h]; exact List.getElem_mem h
theorem cellsN_at (xs : List Nm) : ∀ i, i < xs.length → (cellsN xs)[i * 4]? = some (.int .i64 (nmAt xs i).1) ∧ (cellsN xs)[i * 4 + 1]? = some (.int .i64 (nmAt xs i).2.1) ∧ (cellsN xs)[i * 4 + 2]? = some (.int .i64 (nmAt xs i).2.2.1) ∧ (cellsN xs)[i * 4 + 3]? = some (.int .i64 (nmAt xs i).2.2.2) := by
  induction xs with
  | nil => intro i h; simp at h
  | cons x xs ih =>
    intro i h
    cases i with
    | zero => simp [cellsN, nmAt]
    | succ i =>
      obtain ⟨h0, h1, h2, h3⟩ := ih i (by simpa using h)
      refine ⟨?_, ?_, ?_, ?_⟩
      · rw [show (i + 1) * 4 = i * 4 + 4 by omega]; exact h0
      · rw [show (i + 1) * 4 + 1 = i * 4 + 1 + 4 by omega]; exact h1
      · rw [show (i + 1) * 4 + 2 = i * 4 + 2 + 4 by omega]; exact h2
      · rw [show (i + 1) * 4 + 3 = i * 4 + 3 + 4 by omega]; exact h3
/-- The slice at address a reads as the names. -/
def RowN (w : World) (a : Option Addr) (xs : List Nm) : Prop :=
  xs = [] ∨ ∃ b off, a = some ⟨b, off, none⟩ ∧ b < w.heap.size ∧ ∀ i, i < xs.length → w.cell? ⟨b, off + i * 4, none⟩ = some (.int .i64 (nmAt xs i).1) ∧ w.cell? ⟨b, off + i * 4 + 1, none⟩ = some (.int .i64 (nmAt xs i).2.1) ∧ w.cell? ⟨b, off + i * 4 + 2, none⟩ = some (.int .i64 (nmAt xs i).2.2.1) ∧ w.cell? ⟨b, off + i * 4 + 3, none⟩ = some (.int .i64 (nmAt xs i).2.2.2)
theorem RowN.at {w : World} {a : Option Addr} {xs : List Nm} (h : RowN w a xs) (i : Nat) (hi : i < xs.length) : ∃ b off, a = some ⟨b, off, none⟩ ∧ b < w.heap.size ∧ w.cell? ⟨b, off + i * 4, none⟩ = some (.int .i64 (nmAt xs i).1) ∧ w.cell? ⟨b, off + i * 4 + 1, none⟩ = some (.int .i64 (nmAt xs i).2.1) ∧ w.cell? ⟨b, off + i * 4 + 2, none⟩ = some (.int .i64 (nmAt xs i).2.2.1) ∧ w.cell? ⟨b, off + i * 4 + 3, none⟩ = some (.int .i64 (nmAt xs i).2.2.2) := by
  rcases h with rfl | ⟨b, off, h1, h2, h3⟩
  · simp at hi
  · exact ⟨b, off, h1, h2, h3 i hi⟩
theorem RowN.below {w w' : World} {a : Option Addr} {xs : List Nm} (h : RowN w a xs) (hb : Below w.heap.size w w') : RowN w' a xs := by
  rcases h with h | ⟨b, off, h1, h2, h3⟩
  · exact .inl h
  · refine .inr ⟨b, off, h1, Nat.lt_of_lt_of_le h2 hb.size, fun i hi => ?_⟩
    obtain ⟨e0, e1, e2, e3⟩ := h3 i hi
    have e := fun o => hb.cell (p := ⟨b, o, none⟩) h2
    exact ⟨(e _).trans e0, (e _).trans e1, (e _).trans e2, (e _).trans e3⟩
theorem RowN.of_own {w : World} {base : Nat} {e : TypeId} {a : Option Addr} {n cap : Nat} {xs : List Nm} (h : w.ownsRow base e 4 (.slice a n cap) n (cellsN xs)) (hn : xs.length = n) : RowN w a xs := by
  rcases h.2 with ⟨hv, h0⟩ | ⟨g, cap', cur, hv, _, hg, _⟩
  · exact .inl (List.eq_nil_of_length_eq_zero (by omega))
  · simp only [Value.slice.injEq, true_and] at hv
    obtain ⟨rfl, rfl⟩ := hv
    refine .inr ⟨g, 0, rfl, block_lt hg, fun i hi => ?_⟩
    obtain ⟨e0, e1, e2, e3⟩ := cellsN_at xs i hi
    refine ⟨?_, ?_, ?_, ?_⟩
    · rw [Nat.zero_add, h.cellAt _ (by omega), e0]
    · rw [Nat.zero_add, h.cellAt _ (by omega), e1]
    · rw [Nat.zero_add, h.cellAt _ (by omega), e2]
    · rw [Nat.zero_add, h.cellAt _ (by omega), e3]
end Go.Proofs.YtlnlijeamflpiaaGreat
namespace Go.Proofs.YtlnlijeamflpiaaGreat
open Go.RowKit
set_option linter.unusedVariables false
set_option linter.unusedSimpArgs false
set_option maxRecDepth 20000
end Go.Proofs.YtlnlijeamflpiaaGreat

namespace Go.Proofs.YtlnlijeamflpiaaGreat
open Go.RowKit Sm
set_option linter.unusedVariables false
set_option linter.unusedSimpArgs false
set_option maxRecDepth 100000
theorem vec_RedON (a : Option Addr) (n cap : Nat) (xs : List Int) (w : World) (hx : Row .u64 w a xs) (hn : xs.length = n) (hl : n ≤ 16777216) :
    Calls Tryz.prog 49 #[.slice a n cap] w (GivesOwn .u64 23 (xs.map (· % 18446744069414584321)) w) := by
  subst hn; exact vec_RedO a cap xs w hx hl
end Go.Proofs.YtlnlijeamflpiaaGreat

namespace Go.Proofs.YtlnlijeamflpiaaGreat
open Go.RowKit Sm
set_option linter.unusedVariables false
set_option linter.unusedSimpArgs false
set_option maxRecDepth 100000
theorem GivesOwn.step {k : IntKind} {t : TypeId} {xs : List Int} {w w1 w2 : World} {e : Ending} (h : GivesOwn k t xs w1 e w2) (hb : Below w.heap.size w w1) : GivesOwn k t xs w e w2 := by
  obtain ⟨a, cap, rfl, ho, hf, hl, hb2⟩ := h
  exact ⟨a, cap, rfl, own_base ho hb.size, hf, hl, chain hb hb2⟩
set_option maxHeartbeats 1000000 in
theorem with_okO (ax aw : Option Addr) (n m cx cw : Nat) (xs ws : List Int) (w : World) (hx : Row .u64 w ax xs) (hw : Row .u64 w aw ws) (hxl : xs.length = n) (hwl : ws.length = n) (hm : m ≤ 24) (hn : n = 2 ^ m) :
    Calls Tryz.prog 176 #[.slice ax n cx, .slice aw n cw] w (GivesOwnE .u64 23 (withTo xs ws m) w) := by
  have hP : hasP2 (n : Int) = true := (hasP2_iff _).2 ⟨m, hm, by rw [hn]⟩
  have hn2 : n ≤ 16777216 := by
    have : 2 ^ m ≤ 2 ^ 24 := Nat.pow_le_pow_right (by omega) hm
    have e : (2 : Nat) ^ 24 = 16777216 := by decide
    omega
  have hn1 : 1 ≤ n := by rw [hn]; exact Nat.pow_pos (by omega)
  have C1 : Hid (∀ w : World, Calls Tryz.prog 121 #[.int .i64 n] w fun e w' => e = .returned (.bool true) ∧ w = w') := fun w => by rw [← hP]; exact stock_Has n w (by omega)
  have HX := Lib.hid hx
  have HW := Lib.hid hw
  have HXL := Lib.hid hxl
  have HWL := Lib.hid hwl
  have HN := Lib.hid hn
  have HL : Hid (∀ j, (withTo xs ws j).length = n) := fun j => by rw [withTo_len]; exact hxl
  have h0 : ((n : Int) != (n : Int)) = false := bfalse' rfl
  clear hx hw hxl hwl hn hP
  go_enter Tryz.func176, Tryz.ntmps176
  go_wp2_with fail
  refine (C1.out _).mono ?_; rintro e w' ⟨rfl, rfl⟩
  go_wp2_with fail
  refine (vec_RedON ax n cx xs _ HX.out HXL.out hn2).mono ?_
  rintro e w1 ⟨a1, cap1, rfl, ho1, hf1, hl1, hb1⟩
  have hl0 := HL.out 0
  have hl0' : (xs.map (· % 18446744069414584321)).length = n := hl0
  rw [hl0']
  rw [hl0'] at ho1
  clear hl0 hl0' hl1
  go_wp2_with fail
  go_loopw [6, 7] (fun v i wr => ∃ (j s : Nat) (a : Option Addr) (cap : Nat), j ≤ m ∧ Hid (s = 2 ^ j) ∧ 1 ≤ s ∧ s ≤ n ∧ i = .int .i64 s ∧ v = .slice a n cap ∧ Hid (wr.ownsRow w.heap.size 23 1 (.slice a n cap) n ((withTo xs ws j).map (Value.int .u64))) ∧ Hid (∀ x ∈ withTo xs ws j, fits .u64 x) ∧ Below w.heap.size w wr) (fun _ i _ => n - (intOf i).toNat)
  case atStart => exact ⟨0, 1, a1, cap1, Nat.zero_le _, rfl, by omega, hn1, rfl, rfl, ho1, hf1, hb1⟩
  case round =>
    obtain ⟨j, s, a, cap, hj, HS, hs1, hsn, rfl, rfl, HO, HF, hb⟩ := hrel
    have HR : Hid (Row .u64 wr a (withTo xs ws j)) := Row.of_own (HL.out j) (by omega) HF.out HO.out
    by_cases hlt : j < m
    · obtain ⟨h, hh, hns⟩ := half_of_pow m j s HS.out hlt
      have h2s : s * 2 ≤ n := by rw [HN.out, hns]; exact Nat.mul_le_mul_left s (by omega)
      have hle : (2 : Int) * (s : Int) ≤ (n : Int) := by omega
      have HNS : Hid (n = s * (2 * h)) := HN.out.trans hns
      have HS2 : Hid (2 * s = 2 ^ (j + 1)) := by unfold Hid; rw [Nat.pow_succ, HS.out]; omega
      clear hns
      go_wp2_with fail
      refine (stock_oneO n s h a aw cap cw (withTo xs ws j) ws _ HR.out (HW.out.below hb) (HL.out j) HWL.out hn2 HNS.out hs1 hh).mono ?_
      rintro e w2 ⟨a2, cap2, rfl, ho2, hf2, hl2, hb2⟩
      have hlen : (passL (withTo xs ws j) ws s).length = n := by rw [passL_len]; exact HL.out j
      rw [hlen] at ho2 ⊢
      have hbs := hb.size
      have HO2 : Hid (w2.ownsRow w.heap.size 23 1 (.slice a2 n cap2) n ((withTo xs ws (j + 1)).map (Value.int .u64))) := by unfold Hid; simp only [withTo]; rw [← HS.out]; exact own_base ho2 hbs
      have HF2 : Hid (∀ x ∈ withTo xs ws (j + 1), fits .u64 x) := by unfold Hid; simp only [withTo]; rw [← HS.out]; exact hf2
      clear ho2 hlen hf2 hl2
      go_wp2_with fail
      go_roundw
      case rel => exact ⟨j + 1, 2 * s, a2, cap2, by omega, HS2.out, by omega, by omega, by go_num, rfl, HO2.out, HF2.out, chain hb hb2⟩
      case measure => simp [intOf]; omega
    · have hjm : j = m := by omega
      have hsn' : s = n := by rw [HS.out, HN.out, hjm]
      have hlt2 : (n : Int) < 2 * (s : Int) := by omega
      have HJ := Lib.hid hjm
      have hres : Hid (GivesOwnE .u64 23 (withTo xs ws m) w (.returned (.tuple #[.slice a n cap, .int .i64 0])) wr) := by
        obtain ⟨a', cap', he, hok⟩ := own_slice HO.out
        simp only [Value.slice.injEq] at he
        obtain ⟨rfl, _, rfl⟩ := he
        exact ⟨a, cap, by rw [HL.out], by rw [HL.out, ← HJ.out]; exact HO.out, by rw [← HJ.out]; exact HR.out, by rw [HL.out]; exact hok, hb⟩
      clear hjm hsn'
      go_wp2_with fail
      go_ret2
      exact hres.out
set_option maxHeartbeats 800000 in
theorem small_Do_okO (a : Option Addr) (n c : Nat) (d : Int) (xs : List Int) (w : World) (hx : Row .u64 w a xs) (hxl : xs.length = n) (hd : d = 0 ∨ d = 1) (h1 : 1 ≤ n) (h5 : n ≤ 5) :
    Calls Tryz.prog 181 #[.slice a n c, .int .i64 d] w (GivesOwnE .u64 23 (dftL xs (dirRt n d)) w) := by
  have C1 : Hid (∀ w : World, Calls Tryz.prog 120 #[.int .i64 n] w fun e w' => e = .returned (.bool true) ∧ w = w') := fun w => by
    have := small_Has n w; rw [show decide ((1 : Int) ≤ n ∧ (n : Int) ≤ 5) = true by simp; omega] at this; exact this
  have hs := few_size n h1 h5
  have hz := dirRt_range n d
  have C2 : Hid (∀ w : World, Calls Tryz.prog 194 #[.int .i64 n, .int .i64 d] w fun e w' => e = .returned (.int .u64 (dirRt n d)) ∧ w = w') := fun w => small_way n d w hs hd
  have C3 : Hid (Calls Tryz.prog 193 #[.slice a n c, .int .u64 (dirRt n d)] w (GivesOwn .u64 23 (dftL xs (dirRt n d)) w)) := small_doneO a c n xs _ (dirBk n d) w hx hxl.symm h1 h5 (isRoot_dir n d hs) hz.1 hz.2
  have HL : Hid ((dftL xs (dirRt n d)).length = n) := (dftL_len _ _).trans hxl
  clear hx hxl hs hz
  rcases hd with h1 | h1
  all_goals
    subst h1
    go_enter Tryz.func181, Tryz.ntmps181
    go_wp2_with fail
    refine (C1.out _).mono ?_; rintro e w' ⟨rfl, rfl⟩
    go_wp2_with fail
    refine (C2.out _).mono ?_; rintro e w' ⟨rfl, rfl⟩
    go_wp2_with fail
    refine (C3.out).mono ?_
    rintro e w2 ⟨a2, cap2, rfl, ho2, hf2, hl2, hb2⟩
    rw [HL.out] at ho2 hl2 ⊢
    have HO := Lib.hid ho2
    have HF := Lib.hid hf2
    clear ho2 hf2
    go_wp2_with fail
    go_ret2
    obtain ⟨a', cap', he, hok⟩ := own_slice HO.out
    simp only [Value.slice.injEq] at he
    obtain ⟨rfl, _, rfl⟩ := he
    exact ⟨a2, cap2, by simp [HL.out], by rw [HL.out]; exact HO.out, Row.of_own HL.out (by omega) HF.out HO.out, by rw [HL.out]; exact hok, hb2⟩
/-- The table of a name. -/
def tblN (x : Nm) : List Int := tblL x.1 x.2.1.toNat x.2.2.1.toNat x.2.2.2
theorem tblN_pow (n : Nat) (d : Int) : tblN (1, (n : Int), 0, d) = powL (dirRt n d) n := rfl
theorem tblN_chirp (n : Nat) (d : Int) : tblN (2, (n : Int), 0, d) = rowT (dirRt n (1 - d)) n n := rfl
theorem tblN_rader (n : Nat) (d : Int) : tblN (3, (n : Int), 0, d) = tabRaderL n d := rfl
theorem tblN_blue (n m : Nat) (d : Int) : tblN (4, (n : Int), (m : Int), d) = tabBlueL n m d := rfl
/-- In all later worlds the teller, whose map lies in the cell of block q, tells these names' tables. -/
def LookAt (q : Nat) (w0 : World) (ns : List Nm) : Prop := ∀ W, Below w0.heap.size w0 W → ∀ x ∈ ns, Calls Tryz.prog 107 #[.agg #[.int .i64 x.1, .int .i64 x.2.1, .int .i64 x.2.2.1, .int .i64 x.2.2.2], .pointer (some ⟨q, 0, none⟩)] W (GivesRow .u64 (tblN x) W)
set_option maxHeartbeats 2000000 in
theorem exec_table (q : Nat) (w0 : World) (ns : List Nm) (hL : LookAt q w0 ns) (kd n : Int) (k d : Int) (a : Option Addr) (m cap : Nat) (w : World) (hb : Below w0.heap.size w0 w) (hk : (kd == 4) = false) (hin : (kd, n, 0, d) ∈ ns) :
    Calls Tryz.prog 180 #[.agg #[.func (.func 107) #[] #[.pointer (some ⟨q, 0, none⟩)]], .int .i64 kd, .agg #[.int .i64 k, .int .i64 n, .slice a m cap], .int .i64 d] w (GivesRow .u64 (tblN (kd, n, 0, d)) w) := by
  have HL : Hid (∀ W, Below w0.heap.size w0 W → Calls Tryz.prog 107 #[.agg #[.int .i64 kd, .int .i64 n, .int .i64 0, .int .i64 d], .pointer (some ⟨q, 0, none⟩)] W (GivesRow .u64 (tblN (kd, n, 0, d)) W)) := fun W hW => hL W hW _ hin
  obtain ⟨T, hT⟩ : ∃ T, tblN (kd, n, 0, d) = T := ⟨_, rfl⟩
  rw [hT] at HL ⊢
  clear hL hin hT
  obtain ⟨W1, hW1, hb1, x0, x1⟩ := two_boxes w #[.func (.func 107) #[] #[.pointer (some ⟨q, 0, none⟩)]] #[.int .i64 k, .int .i64 n, .slice a m cap] 138 48
  have D1 : W1.cell? ⟨w.heap.size + 1, 1, none⟩ = some (.int .i64 n) := block_cell x1 1
  have hs1 : W1.heap.size = w.heap.size + 2 := by rw [← hW1]; simp
  have R0 : W1.cell? ⟨w.heap.size, 0, none⟩ = some (.func (.func 107) #[] #[.pointer (some ⟨q, 0, none⟩)]) := block_cell x0 0
  obtain ⟨W2, hW2, hb2, x2⟩ := box_any W1 #[.int .i64 kd, .int .i64 n, .int .i64 0, .int .i64 d] 112
  have HW1 := Lib.hid hW1
  have HW2 := Lib.hid hW2
  have HB2 := Lib.hid (chain hb1 hb2)
  have HBB := Lib.hid (chain hb (chain hb1 hb2))
  clear hW1 hW2 hb1 hb2 hb
  go_enter Tryz.func180, Tryz.ntmps180
  go_wp2_with fail
  rw [HW1.out, HW2.out]
  refine (HL.out _ HBB.out).mono ?_; rintro e w3 ⟨a3, cap3, rfl, hr3, hcap3, hb3⟩
  have HR3 := Lib.hid hr3
  have HB3 := Lib.hid (chain HB2.out hb3)
  clear D1 R0 x0 x1 x2 hr3 hb3
  go_wp2_with fail
  go_ret
  exact ⟨a3, cap3, rfl, HR3.out, hcap3, HB3.out⟩
set_option maxHeartbeats 2000000 in
theorem exec_tableB (q : Nat) (w0 : World) (ns : List Nm) (hL : LookAt q w0 ns) (n k0 : Int) (k d : Int) (b off m cap : Nat) (w : World) (hb : Below w0.heap.size w0 w) (hm : 0 < m) (hc : w.cell? ⟨b, off + 1, none⟩ = some (.int .i64 k0)) (hin : (4, n, k0, d) ∈ ns) :
    Calls Tryz.prog 180 #[.agg #[.func (.func 107) #[] #[.pointer (some ⟨q, 0, none⟩)]], .int .i64 4, .agg #[.int .i64 k, .int .i64 n, .slice (some ⟨b, off, none⟩) m cap], .int .i64 d] w (GivesRow .u64 (tblN (4, n, k0, d)) w) := by
  have HL : Hid (∀ W, Below w0.heap.size w0 W → Calls Tryz.prog 107 #[.agg #[.int .i64 4, .int .i64 n, .int .i64 k0, .int .i64 d], .pointer (some ⟨q, 0, none⟩)] W (GivesRow .u64 (tblN (4, n, k0, d)) W)) := fun W hW => hL W hW _ hin
  obtain ⟨T, hT⟩ : ∃ T, tblN (4, n, k0, d) = T := ⟨_, rfl⟩
  rw [hT] at HL ⊢
  have hbl := World.block_lt_of_cell? _ _ hc
  simp only at hbl
  clear hL hin hT
  obtain ⟨W1, hW1, hb1, x0, x1⟩ := two_boxes w #[.func (.func 107) #[] #[.pointer (some ⟨q, 0, none⟩)]] #[.int .i64 k, .int .i64 n, .slice (some ⟨b, off, none⟩) m cap] 138 48
  have D1 : W1.cell? ⟨w.heap.size + 1, 1, none⟩ = some (.int .i64 n) := block_cell x1 1
  have D2 : W1.cell? ⟨w.heap.size + 1, 2, none⟩ = some (.slice (some ⟨b, off, none⟩) m cap) := block_cell x1 2
  have hs1 : W1.heap.size = w.heap.size + 2 := by rw [← hW1]; simp
  obtain ⟨W2, hW2, hb2, x2⟩ := box_any W1 #[.int .i64 4, .int .i64 n, .int .i64 0, .int .i64 d] 112
  have HW1 := Lib.hid hW1
  have HW2 := Lib.hid hW2
  have hb3 := chain hb1 hb2
  have hK : W2.cell? ⟨b, off + 1, none⟩ = some (.int .i64 k0) := (hb3.cell (p := ⟨b, off + 1, none⟩) hbl).trans hc
  obtain ⟨W3, hW3, hb4, x3⟩ := box_any W1 #[.int .i64 4, .int .i64 n, .int .i64 k0, .int .i64 d] 112
  have HW3 := Lib.hid hW3
  have HB3 := Lib.hid (chain hb1 hb4)
  have HBB := Lib.hid (chain hb (chain hb1 hb4))
  have hm0 : (0 : Int) < (m : Int) := by omega
  rw [← hW2, ← hW1] at hK
  clear hW1 hW2 hW3 hb1 hb2 hb hb3 hb4 hc
  go_enter Tryz.func180, Tryz.ntmps180
  go_wp2_with fail
  rw [HW1.out, HW3.out]
  refine (HL.out _ HBB.out).mono ?_; rintro e w3 ⟨a3, cap3, rfl, hr3, hcap3, hb3⟩
  have HR3 := Lib.hid hr3
  have HB4 := Lib.hid (chain HB3.out hb3)
  clear hK D1 D2 x0 x1 x2 x3 hr3 hb3
  go_wp2_with fail
  go_ret
  exact ⟨a3, cap3, rfl, HR3.out, hcap3, HB4.out⟩
set_option maxHeartbeats 4000000 in
theorem exec_little (q : Nat) (N : Nat) (k d : Int) (a ax : Option Addr) (m cap cx : Nat) (xs : List Int) (w : World) (hx : Row .u64 w ax xs) (hxl : xs.length = N) (hd : d = 0 ∨ d = 1) (h1 : 1 ≤ N) (h5 : N ≤ 5) :
    Calls Tryz.prog 155 #[.agg #[.func (.func 107) #[] #[.pointer (some ⟨q, 0, none⟩)]], .agg #[.int .i64 k, .int .i64 N, .slice a m cap], .int .i64 d, .slice ax N cx] w (GivesOwn .u64 23 (dftL xs (dirRt N d)) w) := by
  have HX := Lib.hid hx
  have HXL := Lib.hid hxl
  have HD := Lib.hid hd
  have HL : Hid ((dftL xs (dirRt N d)).length = N) := (dftL_len _ _).trans hxl
  clear hx hxl hd
  obtain ⟨W1, hW1, hb1, x0, x1⟩ := two_boxes w #[.func (.func 107) #[] #[.pointer (some ⟨q, 0, none⟩)]] #[.int .i64 k, .int .i64 N, .slice a m cap] 138 48
  have HW1 := Lib.hid hW1
  have HB1 := Lib.hid hb1
  have X0 := Lib.hid x0
  have X1 := Lib.hid x1
  have HX1 := Lib.hid (HX.out.below hb1)
  clear hW1 hb1 x0 x1
  go_enter Tryz.func155, Tryz.ntmps155
  go_wp2_with fail
  rw [HW1.out]
  refine (small_Do_okO ax N cx d xs _ HX1.out HXL.out HD.out h1 h5).mono ?_; rintro e w2 ⟨a2, cap2, rfl, ho2, hr2, hcap2, hb2⟩
  have hg : GivesOwn .u64 23 (dftL xs (dirRt N d)) w (.returned (.slice a2 N cap2)) w2 := ⟨a2, cap2, by rw [HL.out], own_base ho2 HB1.out.size, dftL_fits _ _, by rw [HL.out]; omega, chain HB1.out hb2⟩
  have HG := Lib.hid hg
  simp only [HL.out]
  clear ho2 hr2 hcap2 hg hb2
  go_wp2_with fail
  go_ret
  exact HG.out
set_option maxHeartbeats 4000000 in
theorem exec_passes (q : Nat) (w0 : World) (ns : List Nm) (hL : LookAt q w0 ns) (N : Nat) (k d : Int) (a ax : Option Addr) (m cap cx : Nat) (xs : List Int) (w : World) (hx : Row .u64 w ax xs) (hxl : xs.length = N) (hd : d = 0 ∨ d = 1) (hb : Below w0.heap.size w0 w) (hin : (1, (N : Int), 0, d) ∈ ns) (j : Nat) (hj : j ≤ 24) (hN : N = 2 ^ j) :
    Calls Tryz.prog 156 #[.agg #[.func (.func 107) #[] #[.pointer (some ⟨q, 0, none⟩)]], .agg #[.int .i64 k, .int .i64 N, .slice a m cap], .int .i64 d, .slice ax N cx] w (GivesOwn .u64 23 (dftL xs (dirRt N d)) w) := by
  have HX := Lib.hid hx
  have HXL := Lib.hid hxl
  have HD := Lib.hid hd
  have HBW := Lib.hid hb
  have HN := Lib.hid hN
  have HL : Hid ((dftL xs (dirRt N d)).length = N) := (dftL_len _ _).trans hxl
  have CT : Hid (∀ W, Below w0.heap.size w0 W → Calls Tryz.prog 180 #[.agg #[.func (.func 107) #[] #[.pointer (some ⟨q, 0, none⟩)]], .int .i64 1, .agg #[.int .i64 k, .int .i64 N, .slice a m cap], .int .i64 d] W (GivesRow .u64 (powL (dirRt N d) N) W)) := fun W hW => by
    have := exec_table q w0 ns hL 1 N k d a m cap W hW (by decide) hin
    rwa [tblN_pow] at this
  have HPL : Hid ((powL (dirRt N d) N).length = N) := powL_len _ _
  have hs : hasSz (N : Int) = true := by rw [hN]; exact hasSz_pow j hj
  have hfft : withTo xs (powL (dirRt N d) N) j = dftL xs (dirRt N d) := by
    have := fft_all xs (dirRt N d) (dirBk N d) j (by rw [← hN]; exact isRoot_dir N d hs) (by rw [hxl, hN])
    rw [← hN] at this; exact this
  have HF := Lib.hid hfft
  have HLE : Hid (N ≤ 16777216) := by unfold Hid; have := (hasSz_iff.1 hs).2.1; omega
  have HRF : Hid (∀ x ∈ dftL xs (dirRt N d), fits .u64 x) := dftL_fits _ _
  obtain ⟨P, hP⟩ : ∃ P, powL (dirRt N d) N = P := ⟨_, rfl⟩
  obtain ⟨R, hR⟩ : ∃ R, dftL xs (dirRt N d) = R := ⟨_, rfl⟩
  rw [hP] at CT HPL HF
  rw [hR] at HF HL HRF ⊢
  clear hL hx hxl hd hb hin hN hs hfft hP hR
  obtain ⟨W1, hW1, hb1, x0, x1⟩ := two_boxes w #[.func (.func 107) #[] #[.pointer (some ⟨q, 0, none⟩)]] #[.int .i64 k, .int .i64 N, .slice a m cap] 138 48
  have HW1 := Lib.hid hW1
  have HB1 := Lib.hid hb1
  have X0 := Lib.hid x0
  have X1 := Lib.hid x1
  have HX1 := Lib.hid (HX.out.below hb1)
  clear hW1 hb1 x0 x1
  have R0 : W1.cell? ⟨w.heap.size, 0, none⟩ = some (.func (.func 107) #[] #[.pointer (some ⟨q, 0, none⟩)]) := block_cell X0.out 0
  have D0 : W1.cell? ⟨w.heap.size + 1, 0, none⟩ = some (.int .i64 k) := block_cell X1.out 0
  have D1 : W1.cell? ⟨w.heap.size + 1, 1, none⟩ = some (.int .i64 N) := block_cell X1.out 1
  have D2 : W1.cell? ⟨w.heap.size + 1, 2, none⟩ = some (.slice a m cap) := block_cell X1.out 2
  go_enter Tryz.func156, Tryz.ntmps156
  go_wp2_with fail
  rw [HW1.out]
  refine (CT.out _ (chain HBW.out HB1.out)).mono ?_; rintro e w2 ⟨a2, cap2, rfl, hr2, hcap2, hb2⟩
  simp only [HPL.out] at hcap2 ⊢
  have HR2 := Lib.hid hr2
  have HX2 := Lib.hid (HX1.out.below hb2)
  have HB2 := Lib.hid (chain HB1.out hb2)
  clear R0 D0 D1 D2 hr2 hb2
  go_wp2_with fail
  refine (with_okO ax a2 N j cx cap2 xs P _ HX2.out HR2.out HXL.out HPL.out hj HN.out).mono ?_; rintro e w3 ⟨a3, cap3, rfl, ho3, hr3, hcap3, hb3⟩
  rw [HF.out] at ho3 ⊢
  have hg : GivesOwn .u64 23 R w (.returned (.slice a3 N cap3)) w3 := ⟨a3, cap3, by rw [HL.out], own_base ho3 HB2.out.size, HRF.out, by rw [HL.out]; exact HLE.out, chain HB2.out hb3⟩
  have HG := Lib.hid hg
  simp only [HL.out]
  clear ho3 hr3 hcap3 hg hb3
  go_wp2_with fail
  go_ret
  exact HG.out
def nvS (xs : List Int) (z : Int) (n k j : Nat) : Int := S j (fun i => nth xs i * pw z (i * k % n)) % 18446744069414584321
theorem nvS_zero (xs : List Int) (z : Int) (n k : Nat) : nvS xs z n k 0 = 0 := rfl
theorem nvS_succ (xs : List Int) (z : Int) (n k j : Nat) : (nvS xs z n k j + nth xs j * pw z (j * k % n) % 18446744069414584321) % 18446744069414584321 = nvS xs z n k (j + 1) := by
  unfold nvS; simp only [S]; omega
theorem nvS_range (xs : List Int) (z : Int) (n k j : Nat) : 0 ≤ nvS xs z n k j ∧ nvS xs z n k j < 18446744069414584321 := by unfold nvS; omega
theorem nvS_all (xs : List Int) (z u : Int) (n k : Nat) (hr : IsRoot z u n) (hx : xs.length = n) (hk : k < n) : nvS xs z n k n = nth (dftL xs z) k := by
  have hb := dftL_range xs z k (by rw [hx]; exact hk)
  refine eq_of_eqm ?_ (nvS_range _ _ _ _ _).1 (nvS_range _ _ _ _ _).2 hb.1 hb.2
  refine Eqm.trans ?_ (dftL_T xs z k (by rw [hx]; exact hk)).symm
  unfold nvS T
  rw [hx]
  refine (Eqm.mod _).trans (S_eqm fun i _ => (rfl' _).mul ?_)
  exact (pw_eqm _ _).trans (hr.pow_mod _)
/-- What the row holds while sum k is under way, of which j terms are in. -/
def nvF (xs : List Int) (z : Int) (n k j i : Nat) : Int := if i < k then nth (dftL xs z) i else if i = k then nvS xs z n k j else 0
theorem nvF_at (xs : List Int) (z : Int) (n k j : Nat) : nvF xs z n k j k = nvS xs z n k j := by unfold nvF; rw [if_neg (by omega), if_pos rfl]
theorem nvF_other (xs : List Int) (z : Int) (n k j j' i : Nat) (h : i ≠ k) : nvF xs z n k j i = nvF xs z n k j' i := by unfold nvF; rw [if_neg h, if_neg h]
theorem nvF_next (xs : List Int) (z u : Int) (n k i : Nat) (hr : IsRoot z u n) (hx : xs.length = n) (hk : k < n) : nvF xs z n (k + 1) 0 i = nvF xs z n k n i := by
  unfold nvF
  by_cases h1 : i < k
  · rw [if_pos (by omega), if_pos h1]
  · by_cases h2 : i = k
    · subst h2
      rw [if_pos (by omega), if_neg (by omega), if_pos rfl, nvS_all xs z u n i hr hx hk]
    · rw [if_neg (by omega), if_neg h1, if_neg h2]
      split
      · exact nvS_zero _ _ _ _
      · rfl
set_option maxHeartbeats 4000000 in
theorem exec_naive (q : Nat) (w0 : World) (ns : List Nm) (hL : LookAt q w0 ns) (N : Nat) (k d : Int) (a ax : Option Addr) (m cap cx : Nat) (xs : List Int) (w : World) (hx : Row .u64 w ax xs) (hxl : xs.length = N) (hd : d = 0 ∨ d = 1) (hb : Below w0.heap.size w0 w) (hin : (1, (N : Int), 0, d) ∈ ns) (hs : hasSz (N : Int) = true) (h64 : N ≤ 64) :
    Calls Tryz.prog 154 #[.agg #[.func (.func 107) #[] #[.pointer (some ⟨q, 0, none⟩)]], .agg #[.int .i64 k, .int .i64 N, .slice a m cap], .int .i64 d, .slice ax N cx] w (GivesOwn .u64 23 (dftL xs (dirRt N d)) w) := by
  obtain ⟨i0, hi, hz0, hz1, hz2⟩ := info_parts info_u64
  have HX := Lib.hid hx
  have HXL := Lib.hid hxl
  have HBW := Lib.hid hb
  have CT : Hid (∀ W, Below w0.heap.size w0 W → Calls Tryz.prog 180 #[.agg #[.func (.func 107) #[] #[.pointer (some ⟨q, 0, none⟩)]], .int .i64 1, .agg #[.int .i64 k, .int .i64 N, .slice a m cap], .int .i64 d] W (GivesRow .u64 (powL (dirRt N d) N) W)) := fun W hW => by
    have := exec_table q w0 ns hL 1 N k d a m cap W hW (by decide) hin
    rwa [tblN_pow] at this
  have HPL : Hid ((powL (dirRt N d) N).length = N) := powL_len _ _
  have hr := isRoot_dir N d hs
  have h1 := (hasSz_iff.1 hs).1
  have HNX : Hid (∀ k i, k < N → nvF xs (dirRt N d) N (k + 1) 0 i = nvF xs (dirRt N d) N k N i) := fun k i hk => nvF_next xs _ _ N k i hr hxl hk
  have HFT : Hid (∀ x ∈ dftL xs (dirRt N d), fits .u64 x) := dftL_fits _ _
  have HDL : Hid ((dftL xs (dirRt N d)).length = N) := (dftL_len _ _).trans hxl
  obtain ⟨z, hz⟩ : ∃ z, dirRt N d = z := ⟨_, rfl⟩
  rw [hz] at CT HPL HNX HFT HDL ⊢
  clear hL hx hxl hd hb hin hs hr hz
  obtain ⟨W1, hW1, hb1, x0, x1⟩ := two_boxes w #[.func (.func 107) #[] #[.pointer (some ⟨q, 0, none⟩)]] #[.int .i64 k, .int .i64 N, .slice a m cap] 138 48
  have HW1 := Lib.hid hW1
  have HB1 := Lib.hid hb1
  have X0 := Lib.hid x0
  have X1 := Lib.hid x1
  have HX1 := Lib.hid (HX.out.below hb1)
  clear hW1 hb1 x0 x1
  have R0 : W1.cell? ⟨w.heap.size, 0, none⟩ = some (.func (.func 107) #[] #[.pointer (some ⟨q, 0, none⟩)]) := block_cell X0.out 0
  have D0 : W1.cell? ⟨w.heap.size + 1, 0, none⟩ = some (.int .i64 k) := block_cell X1.out 0
  have D1 : W1.cell? ⟨w.heap.size + 1, 1, none⟩ = some (.int .i64 N) := block_cell X1.out 1
  have D2 : W1.cell? ⟨w.heap.size + 1, 2, none⟩ = some (.slice a m cap) := block_cell X1.out 2
  go_enter Tryz.func154, Tryz.ntmps154
  go_wp2_with fail
  rw [HW1.out]
  refine (CT.out _ (chain HBW.out HB1.out)).mono ?_; rintro e w2 ⟨a2, cap2, rfl, hr2, hcap2, hb2⟩
  simp only [HPL.out] at hcap2 ⊢
  have HR2 := Lib.hid hr2
  have HX2 := Lib.hid (HX1.out.below hb2)
  have HB2 := Lib.hid (chain HB1.out hb2)
  have X1 := Lib.hid ((hb2.block _ (block_lt X1.out)).trans X1.out)
  clear R0 D0 D1 D2 hr2 hb2 hcap2
  have D1 : w2.cell? ⟨w.heap.size + 1, 1, none⟩ = some (.int .i64 N) := block_cell X1.out 1
  go_wp2_with (at_make; refine wpList_make_full _ rfl _ _ 22 rfl w2.heap.size 23 i0 (.int .u64 0) 1 Tryz.underlying22 hi hz0 hz1 .i64 .i64 N N N rfl rfl rfl rfl (by rw [hz2]; omega) (by unfold maxLen; omega) (Nat.le_refl _) ?_)
  intro w3 hown0 hgrow0
  have hown := Own.made hown0 hgrow0
  clear hown0 hgrow0 D1
  have hsz2 := block_lt X1.out
  have z1 : ((N : Int) == 0) = false := bno (by omega)
  have z2 : ¬ (N : Int) = 0 := by omega
  have z3 : ¬ N = 0 := by omega
  go_wp2_with fail
  go_loopw [23] (fun i wr => ∃ k : Nat, k ≤ N ∧ i = .int .i64 k ∧ OwnAt .u64 23 w2 wr w2.heap.size N (nvF xs z N k 0)) (fun i _ => N - (intOf i).toNat)
  case atStart => exact ⟨0, Nat.zero_le _, rfl, own_eqz hown (fun j => by unfold nvF; rw [if_neg (by omega)]; split; exact nvS_zero _ _ _ _; rfl)⟩
  case round =>
    obtain ⟨k, hk, rfl, hown⟩ := hrel
    by_cases hlt : k < N
    · have HO := Lib.hid hown
      clear hown
      go_wp2_with fail
      go_loopw [28] (fun i wi => ∃ j : Nat, j ≤ N ∧ i = .int .i64 j ∧ OwnAt .u64 23 w2 wi w2.heap.size N (nvF xs z N k j)) (fun i _ => N - (intOf i).toNat)
      case atStart => exact ⟨0, Nat.zero_le _, rfl, HO.out⟩
      case round =>
        obtain ⟨j, hj, rfl, hown⟩ := hrel
        by_cases hlj : j < N
        · obtain ⟨b1, o1, rfl, hc1⟩ := (HX2.out.below hown.below).at (by rw [HXL.out]; omega)
          obtain ⟨b2, o2, rfl, hc2⟩ := (HR2.out.below hown.below).at (by rw [HPL.out]; omega)
          have c1 := hc1 j (by rw [HXL.out]; exact hlj)
          have fx := fits_u64.1 (HX2.out.wf _ (nth_mem (show j < xs.length by rw [HXL.out]; exact hlj)))
          have d1 : wr.cell? ⟨w.heap.size + 1, 1, none⟩ = some (.int .i64 N) := (hown.below.cell (p := ⟨w.heap.size + 1, 1, none⟩) hsz2).trans (block_cell X1.out 1)
          obtain ⟨s, hs⟩ : ∃ s, j * k = s := ⟨_, rfl⟩
          have hs1 : s ≤ 64 * 64 := by rw [← hs]; exact Nat.mul_le_mul (by omega) (by omega)
          have m1 := mulN j k s hs
          have mw : IntKind.i64.wrap (s : Int) = (s : Int) := IntWalk.i64_in _ (by omega)
          obtain ⟨r, hr⟩ : ∃ r, s % N = r := ⟨_, rfl⟩
          have r1 := (modN s N r hr).1
          have r2 := (modN s N r hr).2
          have hrn : r < N := by rw [← hr]; exact Nat.mod_lt _ (by omega)
          have c2 := hc2 r (by rw [HPL.out]; exact hrn)
          rw [show nth (powL z N) r = pw z r from nth_ofFn _ _ _ hrn] at c2
          have pr := pw_range z r
          have hcell := hown.cell k hlt
          rw [nvF_at] at hcell
          have hfz := hown.free k
          have sr := nvS_range xs z N k j
          have hst := nvS_succ xs z N k j
          rw [hs, hr] at hst
          have hnext := hown.store k hlt (nvS xs z N k (j + 1)) (f' := nvF xs z N k (j + 1)) (nvF_at _ _ _ _ _) (fun i hi hik => nvF_other _ _ _ _ _ _ _ hik)
          have HNXT := Lib.hid hnext
          obtain ⟨x, hx⟩ : ∃ x, nth xs j = x := ⟨_, rfl⟩
          obtain ⟨y, hy⟩ : ∃ y, pw z r = y := ⟨_, rfl⟩
          obtain ⟨v, hv⟩ : ∃ v, nvS xs z N k j = v := ⟨_, rfl⟩
          obtain ⟨v', hv'⟩ : ∃ v, nvS xs z N k (j + 1) = v := ⟨_, rfl⟩
          rw [hx] at c1 fx hst
          rw [hy] at c2 pr hst
          rw [hv] at hcell sr hst
          rw [hv'] at hst HNXT
          have HST := Lib.hid hst
          have g1 : (0 : Int) ≤ (j : Int) := by omega
          have g2 : (j : Int) < (N : Int) := by omega
          have g3 : (0 : Int) ≤ (k : Int) := by omega
          have g4 : (k : Int) < (N : Int) := by omega
          have g5 : (0 : Int) ≤ (r : Int) := by omega
          have g6 : (r : Int) < (N : Int) := by omega
          clear hc1 hc2 hs hr hown hnext hx hy hv hv' hst
          go_wp2_with fail
          refine wp_region_still_tail 19 (by kernel_rfl) (by kernel_rfl) ?_; simp only [List.take_succ_cons, List.take_zero, List.drop_succ_cons, List.drop_zero]
          repeat still_step
          still_call (flipW (gold_Mul x y _ (by omega) (by omega) (by omega) (by omega)))
          repeat still_step
          still_call (flipW (gold_Add v (x * y % 18446744069414584321) _ (by omega) (by omega) (by omega) (by omega)))
          rw [HST.out]
          repeat still_step
          try refine wpStill_nil ?_
          go_wp2_with fail
          go_roundw
          case rel => exact ⟨j + 1, by omega, by go_num, HNXT.out.later (Below.refl _ _).drew⟩
          case measure => simp [intOf]; omega
        · have hjn : j = N := by omega
          have hnx : Hid (OwnAt .u64 23 w2 wr w2.heap.size N (nvF xs z N (k + 1) 0)) := by
            rw [hjn] at hown
            exact own_eqz hown (fun i => HNX.out k i hlt)
          clear hown
          go_wp2_with fail
          go_roundw
          case rel => exact ⟨k + 1, by omega, by go_num, hnx.out⟩
          case measure => simp [intOf]; omega
    · have hkn : k = N := by omega
      have hres := (hown.givesO (xs := dftL xs z) HDL.out HFT.out (fun i hi => by unfold nvF; rw [if_pos (by omega)]) (by omega)).step HB2.out
      have HG := Lib.hid hres
      clear hown hres
      go_wp2_with fail
      go_ret
      exact HG.out
end Go.Proofs.YtlnlijeamflpiaaGreat

namespace Go.Proofs.YtlnlijeamflpiaaGreat
open Go.RowKit Sm
set_option linter.unusedVariables false
set_option linter.unusedSimpArgs false
set_option maxRecDepth 100000
theorem set_grown (w : World) (b i : Nat) (v : Value) : w.grownBy (w.setCell ⟨b, i, none⟩ v) (some b) :=
  ⟨rfl, rfl, rfl, by simp [World.setCell], fun k _ hk => Below.heap_setCell _ _ _ _ (fun e => hk (by simp [e]))⟩
theorem OwnAt.other {k : IntKind} {e : TypeId} {w wr : World} {g n : Nat} {f : Nat → Int} (h : OwnAt k e w wr g n f) (g' i : Nat) (v : Value) (hne : g ≠ g') (hB : w.heap.size ≤ g') : OwnAt k e w (wr.setCell ⟨g', i, none⟩ v) g n f := by
  refine ⟨?_, h.below.setCell hB _⟩
  exact h.own.kept (set_grown wr g' i v) (.inr (by simp [Value.ownBlock, hne]))
theorem OwnAt.congr {k : IntKind} {e : TypeId} {w wr : World} {g n : Nat} {f f' : Nat → Int} (h : OwnAt k e w wr g n f) (he : ∀ i, i < n → f' i = f i) : OwnAt k e w wr g n f' := by
  refine ⟨?_, h.below⟩
  have e1 : (List.range n).map (fun j => Value.int k (f' j)) = (List.range n).map (fun j => Value.int k (f j)) := List.map_congr_left fun x hx => by rw [he x (List.mem_range.1 hx)]
  rw [e1]; exact h.own
theorem OwnAt.rebase {k : IntKind} {e : TypeId} {w w1 wr : World} {g n : Nat} {f : Nat → Int} (h : OwnAt k e w1 wr g n f) (hb : Below w.heap.size w w1) : OwnAt k e w wr g n f :=
  ⟨own_base h.own hb.size, chain hb h.below⟩
/-- An own row is another one than what lies below. -/
theorem row_keep {k : IntKind} {wr : World} {a : Option Addr} {xs : List Int} {B g' i : Nat} {v : Value} {e : TypeId} {n cap : Nat} (h : wr.ownsRow B e 1 (.slice a n cap) n (xs.map (Value.int k))) (hg : g' < B) : (wr.setCell ⟨g', i, none⟩ v).ownsRow B e 1 (.slice a n cap) n (xs.map (Value.int k)) := by
  refine h.kept (set_grown wr g' i v) ?_
  cases a with
  | none => exact .inl rfl
  | some ad =>
    right
    intro e'
    have := (h.lt ad.block rfl).1
    simp only [Value.ownBlock, Option.some.injEq] at e'
    omega
theorem news_row {k : IntKind} {w : World} {b off : Nat} {xs : List Int} (hc : ∀ i, i < xs.length → w.cell? ⟨b, off + i, none⟩ = some (.int k (nth xs i))) : ∀ j u, (xs.map (Value.int k))[j]? = some u → w.cell? ((⟨b, off, none⟩ : Addr).add j) = some u := by
  intro j u hj
  have hjl : j < xs.length := by have := (List.getElem?_eq_some_iff.1 hj).1; simpa using this
  have h3 := hc j hjl
  have h4 : u = .int k (nth xs j) := by
    simp [hjl] at hj
    rw [← hj]; simp [nth, hjl]
  rw [h4, ← h3]
  by_cases hj0 : j = 0
  · subst hj0; simp [Addr.add]
  · simp [Addr.add, hj0]
theorem rows_join {k : IntKind} (n m : Nat) (f : Nat → Int) (ys : List Int) (hl : ys.length = m) (h : ∀ r, r < m → f (n + r) = nth ys r) : ((List.range n).map fun r => Value.int k (f r)) ++ ys.map (Value.int k) = (List.range (n + m)).map fun r => Value.int k (f r) := by
  rw [List.range_add, List.map_append, List.map_map]
  congr 1
  conv => lhs; rw [list_nth ys, hl, List.map_map]
  exact List.map_congr_left fun r hr => by simp [h r (List.mem_range.1 hr)]
/-- What the turned columns' row holds while row i of column j is under way. -/
def tF (T : List Int) (b j i x : Nat) : Int := if x % b < j ∨ (x % b = j ∧ x / b < i) then nth T x else 0
theorem tF_start (T : List Int) (b x : Nat) : tF T b 0 0 x = 0 := by
  unfold tF
  generalize x % b = r
  generalize x / b = s
  rw [if_neg (by omega)]
theorem tF_next (T : List Int) (a b j x : Nat) (hb : 0 < b) (hx : x < a * b) : tF T b (j + 1) 0 x = tF T b j a x := by
  have h : x / b < a := Nat.div_lt_of_lt_mul (by rw [Nat.mul_comm]; exact hx)
  unfold tF
  generalize x % b = r at *
  generalize x / b = s at *
  by_cases h1 : r < j
  · rw [if_pos (by omega), if_pos (by omega)]
  · by_cases h2 : r = j
    · rw [if_pos (by omega), if_pos (by omega)]
    · rw [if_neg (by omega), if_neg (by omega)]
theorem tF_at (T : List Int) (b i j : Nat) (hj : j < b) : tF T b j i (i * b + j) = 0 ∧ tF T b j (i + 1) (i * b + j) = nth T (i * b + j) := by
  unfold tF
  rw [(at_row hj).1, (at_row hj).2]
  exact ⟨if_neg (by omega), if_pos (by omega)⟩
theorem tF_other (T : List Int) (b i j x : Nat) (hj : j < b) (h : x ≠ i * b + j) : tF T b j (i + 1) x = tF T b j i x := by
  have h3 : x % b = j → x / b ≠ i := fun e1 e2 => h (by rw [← e2, ← e1, Nat.mul_comm]; exact (Nat.div_add_mod x b).symm)
  unfold tF
  generalize x % b = r at *
  generalize x / b = s at *
  by_cases h1 : r < j
  · rw [if_pos (by omega), if_pos (by omega)]
  · by_cases h2 : r = j
    · have h5 := h3 h2
      by_cases h4 : s < i
      · rw [if_pos (by omega), if_pos (by omega)]
      · rw [if_neg (by omega), if_neg (by omega)]
    · rw [if_neg (by omega), if_neg (by omega)]
theorem tF_end (T : List Int) (b x : Nat) (hb : 0 < b) : tF T b b 0 x = nth T x := by
  unfold tF; rw [if_pos (Or.inl (Nat.mod_lt _ hb))]
set_option maxHeartbeats 8000000 in
theorem exec_gridS (q p1 p2 N A B b off cap cx : Nat) (k d k0 k1 : Int) (a0 a1 ax : Option Addr) (m0 c0 m1 c1 : Nat) (xs : List Int) (tw : Nat → Nat → Int) (w : World) (hx : Row .u64 w ax xs) (hxl : xs.length = N) (hN : N = A * B) (hA : 2 ≤ A) (hB : 2 ≤ B) (hN2 : N ≤ 16777216)
    (h00 : w.cell? ⟨b, off, none⟩ = some (.int .i64 k0)) (h01 : w.cell? ⟨b, off + 1, none⟩ = some (.int .i64 A)) (h02 : w.cell? ⟨b, off + 2, none⟩ = some (.slice a0 m0 c0))
    (h10 : w.cell? ⟨b, off + 3, none⟩ = some (.int .i64 k1)) (h11 : w.cell? ⟨b, off + 4, none⟩ = some (.int .i64 B)) (h12 : w.cell? ⟨b, off + 5, none⟩ = some (.slice a1 m1 c1))
    (hC0 : ∀ W (ax : Option Addr) (cx : Nat) (xs : List Int), Below w.heap.size w W → Row .u64 W ax xs → xs.length = A → Calls Tryz.prog 138 #[.agg #[.func (.func 107) #[] #[.pointer (some ⟨q, 0, none⟩)]], .agg #[.int .i64 k0, .int .i64 A, .slice a0 m0 c0], .int .i64 d, .slice ax A cx] W (GivesOwn .u64 23 (dftL xs (dirRt A d)) W))
    (hC1 : ∀ W (ax : Option Addr) (cx : Nat) (xs : List Int), Below w.heap.size w W → Row .u64 W ax xs → xs.length = B → Calls Tryz.prog 138 #[.agg #[.func (.func 107) #[] #[.pointer (some ⟨q, 0, none⟩)]], .agg #[.int .i64 k1, .int .i64 B, .slice a1 m1 c1], .int .i64 d, .slice ax B cx] W (GivesOwn .u64 23 (dftL xs (dirRt B d)) W))
    (hT : ∀ W (i j : Nat), Below w.heap.size w W → i < A → j < B → Calls Tryz.prog 183 #[.int .i64 i, .int .i64 j, .pointer (some ⟨p1, 0, none⟩), .pointer (some ⟨p2, 0, none⟩)] W fun e w' => e = .returned (.int .u64 (tw i j)) ∧ Below W.heap.size W w') (htw : ∀ i j, 0 ≤ tw i j ∧ tw i j < 18446744073709551616) :
    Calls Tryz.prog 182 #[.agg #[.func (.func 107) #[] #[.pointer (some ⟨q, 0, none⟩)]], .agg #[.int .i64 k, .int .i64 N, .slice (some ⟨b, off, none⟩) 2 cap], .int .i64 d, .slice ax N cx, .func (.func 183) #[] #[.pointer (some ⟨p1, 0, none⟩), .pointer (some ⟨p2, 0, none⟩)]] w (GivesOwn .u64 23 (grL (gtL xs A B (dirRt A d) tw) A B (dirRt B d)) w) := by
  obtain ⟨i0, hi, hz0, hz1, hz2⟩ := info_parts info_u64
  have hbl : b < w.heap.size := World.block_lt_of_cell? _ _ h00
  have HX := Lib.hid hx
  have HXL := Lib.hid hxl
  have HN := Lib.hid hN
  have HC0 := Lib.hid hC0
  have HC1 := Lib.hid hC1
  have HT := Lib.hid hT
  have HTW := Lib.hid htw
  have HK : Hid (w.cell? ⟨b, off, none⟩ = some (.int .i64 k0) ∧ w.cell? ⟨b, off + 1, none⟩ = some (.int .i64 A) ∧ w.cell? ⟨b, off + 2, none⟩ = some (.slice a0 m0 c0) ∧ w.cell? ⟨b, off + 3, none⟩ = some (.int .i64 k1) ∧ w.cell? ⟨b, off + 4, none⟩ = some (.int .i64 B) ∧ w.cell? ⟨b, off + 5, none⟩ = some (.slice a1 m1 c1)) := ⟨h00, h01, h02, h10, h11, h12⟩
  have KK : Hid (∀ W, Below w.heap.size w W → W.cell? ⟨b, off, none⟩ = some (.int .i64 k0) ∧ W.cell? ⟨b, off + 1, none⟩ = some (.int .i64 A) ∧ W.cell? ⟨b, off + 2, none⟩ = some (.slice a0 m0 c0) ∧ W.cell? ⟨b, off + 3, none⟩ = some (.int .i64 k1) ∧ W.cell? ⟨b, off + 4, none⟩ = some (.int .i64 B) ∧ W.cell? ⟨b, off + 5, none⟩ = some (.slice a1 m1 c1)) := fun W hW => by
    obtain ⟨e0, e1, e2, e3, e4, e5⟩ := HK.out
    exact ⟨(hW.cell (p := ⟨b, off, none⟩) hbl).trans e0, (hW.cell (p := ⟨b, off + 1, none⟩) hbl).trans e1, (hW.cell (p := ⟨b, off + 2, none⟩) hbl).trans e2, (hW.cell (p := ⟨b, off + 3, none⟩) hbl).trans e3, (hW.cell (p := ⟨b, off + 4, none⟩) hbl).trans e4, (hW.cell (p := ⟨b, off + 5, none⟩) hbl).trans e5⟩
  have hAN : A ≤ N := by rw [hN]; exact Nat.le_mul_of_pos_right A (by omega)
  have hBN : B ≤ N := by rw [hN]; exact Nat.le_mul_of_pos_left B (by omega)
  obtain ⟨za, hza⟩ : ∃ z, dirRt A d = z := ⟨_, rfl⟩
  obtain ⟨zb, hzb⟩ : ∃ z, dirRt B d = z := ⟨_, rfl⟩
  rw [hza] at HC0 ⊢
  rw [hzb] at HC1 ⊢
  obtain ⟨T, hTT⟩ : ∃ T, gtL xs A B za tw = T := ⟨_, rfl⟩
  have HTL : Hid (T.length = N) := by unfold Hid; rw [← hTT, gtL_len, hN]
  have HTF : Hid (∀ x ∈ T, fits .u64 x) := by unfold Hid; rw [← hTT]; exact gtL_fits _ _ _ _ _
  have HTV : Hid (∀ i j, i < A → j < B → nth (dftL (colL xs A B j) za) i * tw i j % 18446744069414584321 = nth T (i * B + j)) := fun i j hi hj => by
    rw [← hTT, nth_gtL _ _ _ _ _ _ (row_in hi hj), (at_row hj).1, (at_row hj).2]
  rw [hTT]
  clear hN hx hxl hC0 hC1 hT htw h00 h01 h02 h10 h11 h12 HK hza hzb hTT
  obtain ⟨W1, hW1, hb1, x0, x1⟩ := two_boxes w #[.func (.func 107) #[] #[.pointer (some ⟨q, 0, none⟩)]] #[.int .i64 k, .int .i64 N, .slice (some ⟨b, off, none⟩) 2 cap] 138 48
  have HW1 := Lib.hid hW1
  have HB1 := Lib.hid hb1
  have X0 := Lib.hid x0
  have X1 := Lib.hid x1
  have hsz1 := block_lt x1
  clear hW1 hb1 x0 x1
  have D2 : W1.cell? ⟨w.heap.size + 1, 2, none⟩ = some (.slice (some ⟨b, off, none⟩) 2 cap) := block_cell X1.out 2
  obtain ⟨e0, e1, e2, e3, e4, e5⟩ := KK.out W1 HB1.out
  go_enter Tryz.func182, Tryz.ntmps182
  go_wp2_with fail
  rw [HW1.out]
  go_quiet (fail)
  have hbq := below_drewN (Below.refl W1.heap.size W1) nq
  obtain ⟨wb, hwb⟩ : ∃ wb, W1.drewN nq = wb := ⟨_, rfl⟩
  rw [hwb] at hbq ⊢
  have HBB := Lib.hid (chain HB1.out hbq)
  have X0 := Lib.hid ((hbq.block _ (block_lt X0.out)).trans X0.out)
  have X1 := Lib.hid ((hbq.block _ (block_lt X1.out)).trans X1.out)
  have hsb : w.heap.size + 1 < wb.heap.size := block_lt X1.out
  clear hwb hbq D2 e0 e1 e2 e3 e4 e5
  have D1 : wb.cell? ⟨w.heap.size + 1, 1, none⟩ = some (.int .i64 N) := block_cell X1.out 1
  go_wp2_with (at_make; refine wpList_make_full _ rfl _ _ 22 rfl wb.heap.size 23 i0 (.int .u64 0) 1 Tryz.underlying22 hi hz0 hz1 .i64 .i64 N N N rfl rfl rfl rfl (by rw [hz2]; omega) (by unfold maxLen; omega) (Nat.le_refl _) ?_)
  intro w3 hown0 hgrow0
  have hownT := Own.made hown0 hgrow0
  have HOT := Lib.hid hownT
  have hg1 := hownT.base
  clear hown0 hgrow0 hownT D1
  go_wp2_with (at_make; refine wpList_make_full _ rfl _ _ 22 rfl w3.heap.size 23 i0 (.int .u64 0) 1 Tryz.underlying22 hi hz0 hz1 .i64 .i64 A A A rfl rfl rfl rfl (by rw [hz2]; omega) (by unfold maxLen; omega) (Nat.le_refl _) ?_)
  intro w4 hown0 hgrow0
  have hownC := Own.made hown0 hgrow0
  have HOC := Lib.hid (hownC.rebase HOT.out.below)
  have HOT := Lib.hid (HOT.out.later hownC.below)
  clear hown0 hgrow0 hownC
  have hgg : wb.heap.size < w3.heap.size := hg1.2
  have hg2 := HOC.out.base
  have HKB : Hid (∀ W, Below wb.heap.size wb W → Below w.heap.size w W) := fun W hW => chain HBB.out hW
  go_wp2_with fail
  go_loopw [37] (fun iv wr => ∃ (j : Nat) (old : Nat → Int), j ≤ B ∧ iv = .int .i64 j ∧ OwnAt .u64 23 wb wr wb.heap.size N (tF T B j 0) ∧ OwnAt .u64 23 wb wr w3.heap.size A old) (fun iv _ => B - (intOf iv).toNat)
  case atStart => exact ⟨0, fun _ => 0, Nat.zero_le _, rfl, own_eqz HOT.out (fun x => tF_start _ _ _), HOC.out⟩
  case round =>
    obtain ⟨j, old, hj, rfl, hoT, hoC⟩ := hrel
    by_cases hlt : j < B
    · have HO1 := Lib.hid hoT
      have HO2 := Lib.hid hoC
      obtain ⟨wo, rfl⟩ : ∃ wo : World, wo = wr := ⟨_, rfl⟩
      clear hoT hoC HOT HOC
      go_wp2_with fail
      go_loopw [41] (fun iv wi => ∃ i : Nat, i ≤ A ∧ iv = .int .i64 i ∧ OwnAt .u64 23 wb wi wb.heap.size N (tF T B j 0) ∧ OwnAt .u64 23 wb wi w3.heap.size A (fun r => if r < i then nth xs (r * B + j) else old r)) (fun iv _ => A - (intOf iv).toNat)
      case atStart => exact ⟨0, Nat.zero_le _, rfl, HO1.out, own_eqz HO2.out (fun x => if_neg (by omega))⟩
      case round =>
        obtain ⟨i, hi9, rfl, hoT, hoC⟩ := hrel
        by_cases hli : i < A
        · have hin := row_in hli hlt
          rw [← HN.out] at hin
          obtain ⟨bx, ox, rfl, hcx⟩ := (HX.out.below (HKB.out _ hoT.below)).at (by rw [HXL.out]; omega)
          obtain ⟨s, hs⟩ : ∃ s, i * B = s := ⟨_, rfl⟩
          rw [hs] at hin
          have m1 := mulN i B s hs
          have mw : IntKind.i64.wrap (s : Int) = (s : Int) := IntWalk.i64_in _ (by omega)
          have c1 := hcx (s + j) (by rw [HXL.out]; exact hin)
          have HS := Lib.hid hs
          obtain ⟨t, ht⟩ : ∃ t, s + j = t := ⟨_, rfl⟩
          have m2 : (s : Int) + (j : Int) = (t : Int) := by omega
          have mw2 : IntKind.i64.wrap (t : Int) = (t : Int) := IntWalk.i64_in _ (by omega)
          rw [ht] at c1 hin
          obtain ⟨x, hx⟩ : ∃ x, nth xs t = x := ⟨_, rfl⟩
          rw [hx] at c1
          have hcell := hoC.cell i hli
          rw [if_neg (Nat.lt_irrefl i)] at hcell
          have hfz := hoC.free i
          have hnext := hoC.store i hli x (f' := fun r => if r < i + 1 then nth xs (r * B + j) else old r) (by show (if i < i + 1 then _ else _) = _; rw [if_pos (by omega), HS.out, ht]; exact hx) (fun r _ hr => by
            by_cases h : r < i
            · rw [if_pos h, if_pos (by omega)]
            · rw [if_neg h, if_neg (by omega)])
          have HNC := Lib.hid hnext
          have HNT := Lib.hid (hoT.other w3.heap.size i (.int .u64 x) (by omega) (by omega))
          have g3 : (0 : Int) ≤ (t : Int) := by omega
          have g4 : (t : Int) < (N : Int) := by omega
          have g5 : (0 : Int) ≤ (i : Int) := by omega
          have g6 : (i : Int) < (A : Int) := by omega
          clear hcx hs ht hx hoT hoC hnext
          go_wp2_with fail
          go_roundw
          case rel => exact ⟨i + 1, by omega, by go_num, HNT.out, HNC.out⟩
          case measure => simp [intOf]; omega
        · have hiA : i = A := by omega
          have hcl := colL_len xs A B j
          have hrow : Row .u64 wr (some ⟨w3.heap.size, 0, none⟩) (colL xs A B j) := hoC.row hcl (fun x hx => by
            obtain ⟨r, hr, rfl⟩ := List.mem_map.1 hx
            simp only [List.mem_range] at hr
            exact HX.out.wf _ (nth_mem (by rw [HXL.out, HN.out]; exact row_in hr hlt))) (fun r hr => by rw [nth_colL _ _ _ _ _ hr, if_pos (by omega)]) (by omega)
          have HCR := Lib.hid hrow
          have HCL := Lib.hid hcl
          have HO3 := Lib.hid hoT
          have HO4 := Lib.hid hoC
          have HBR := Lib.hid (HKB.out _ hoT.below)
          have hDL : Hid ((dftL (colL xs A B j) za).length = A) := (dftL_len _ _).trans hcl
          obtain ⟨e0, e1, e2, _, _, _⟩ := KK.out wr HBR.out
          have R0 : wr.cell? ⟨w.heap.size, 0, none⟩ = some (.func (.func 107) #[] #[.pointer (some ⟨q, 0, none⟩)]) := (hoT.below.cell (p := ⟨w.heap.size, 0, none⟩) (block_lt X0.out)).trans (block_cell X0.out 0)
          have D2 : wr.cell? ⟨w.heap.size + 1, 2, none⟩ = some (.slice (some ⟨b, off, none⟩) 2 cap) := (hoT.below.cell (p := ⟨w.heap.size + 1, 2, none⟩) (block_lt X1.out)).trans (block_cell X1.out 2)
          have hbs := hoT.below.size
          have l0 : w.heap.size < wr.heap.size := by omega
          have l1 : w.heap.size + 1 < wr.heap.size := by omega
          have l2 : b < wr.heap.size := by omega
          have hb : Below wr.heap.size wr wr.drew := (Below.refl _ _).drew
          clear hrow hcl hoT hoC hiA
          go_wp2_with fail
          go_region_held3 (fun w' => w'.cell? ⟨w.heap.size, 0, none⟩ = some (.func (.func 107) #[] #[.pointer (some ⟨q, 0, none⟩)]) ∧ w'.cell? ⟨w.heap.size + 1, 2, none⟩ = some (.slice (some ⟨b, off, none⟩) 2 cap) ∧ w'.cell? ⟨b, off, none⟩ = some (.int .i64 k0) ∧ w'.cell? ⟨b, off + 1, none⟩ = some (.int .i64 A) ∧ w'.cell? ⟨b, off + 2, none⟩ = some (.slice a0 m0 c0))
            (first | exact ⟨R0, D2, e0, e1, e2⟩ | exact ⟨(hb.cell (p := ⟨w.heap.size, 0, none⟩) l0).trans R0, (hb.cell (p := ⟨w.heap.size + 1, 2, none⟩) l1).trans D2, (hb.cell (p := ⟨b, off, none⟩) l2).trans e0, (hb.cell (p := ⟨b, off + 1, none⟩) l2).trans e1, (hb.cell (p := ⟨b, off + 2, none⟩) l2).trans e2⟩ | fail)
            ((first
              | (go_at_call 138; ((with_reducible refine (HC0.out _ _ _ _ (chain HBR.out hb) (HCR.out.below hb) HCL.out).mono ?_); rintro e z1 ⟨a3, cap3, rfl, ho3, hf3, hl3, hc⟩; have hb := chain hb hc; simp only [hDL.out] at ho3 hl3 ⊢))
              | fail))
          obtain ⟨V, hV⟩ : ∃ V, dftL (colL xs A B j) za = V := ⟨_, rfl⟩
          rw [hV] at ho3 hf3 hDL
          have HTV2 : Hid (∀ i, i < A → nth V i * tw i j % 18446744069414584321 = nth T (i * B + j)) := fun i hi => by rw [← hV]; exact HTV.out i j hi hlt
          have ho3 : z1.ownsRow wr.heap.size 23 1 (.slice a3 A cap3) A (V.map (Value.int .u64)) := ho3
          have hV3 := Lib.hid ho3
          have hVF := Lib.hid hf3
          have hO5 := Lib.hid (HO3.out.later hb)
          have hO6 := Lib.hid (HO4.out.later hb)
          obtain ⟨BV, hBV⟩ : ∃ BV, wr.heap.size = BV := ⟨_, rfl⟩
          rw [hBV] at hV3 hbs
          have hgV : wb.heap.size < BV := by have := HO3.out.base; omega
          clear R0 D2 e0 e1 e2 hV ho3 hf3 hc hb hBV HCR HCL
          go_wp2_with fail
          go_loopw [65] (fun iv wi => ∃ i : Nat, i ≤ A ∧ iv = .int .i64 i ∧ OwnAt .u64 23 wb wi wb.heap.size N (tF T B j i) ∧ OwnAt .u64 23 wb wi w3.heap.size A (fun r => if r < A then nth xs (r * B + j) else old r) ∧ Hid (wi.ownsRow BV 23 1 (.slice a3 A cap3) A (V.map (Value.int .u64)))) (fun iv _ => A - (intOf iv).toNat)
          case atStart => exact ⟨0, Nat.zero_le _, rfl, hO5.out, own_eqz hO6.out (fun x => by by_cases h : x < A; (rw [if_pos h, if_pos (by omega)]); (rw [if_neg h, if_neg (by omega)])), hV3.out⟩
          case round =>
            obtain ⟨i, hi9, rfl, hoT, hoC, HV⟩ := hrel
            by_cases hli : i < A
            · have hin := row_in hli hlt
              rw [← HN.out] at hin
              obtain ⟨bv, ov, rfl, hcv⟩ := (Row.of_own (k := .u64) hDL (by omega) hVF.out HV.out).at (by rw [hDL]; omega)
              have c1 := hcv i (by rw [hDL]; exact hli)
              have fv := fits_u64.1 (hVF.out _ (nth_mem (show i < V.length by rw [hDL]; exact hli)))
              obtain ⟨s, hs⟩ : ∃ s, i * B = s := ⟨_, rfl⟩
              rw [hs] at hin
              have m1 := mulN i B s hs
              have mw : IntKind.i64.wrap (s : Int) = (s : Int) := IntWalk.i64_in _ (by omega)
              have hTV := HTV2.out i hli
              have hta := tF_at T B i j hlt
              have hto : ∀ x, x ≠ i * B + j → tF T B j (i + 1) x = tF T B j i x := fun x hx => tF_other T B i j x hlt hx
              rw [hs] at hTV hta hto
              obtain ⟨t, ht⟩ : ∃ t, s + j = t := ⟨_, rfl⟩
              have m2 : (s : Int) + (j : Int) = (t : Int) := by omega
              have mw2 : IntKind.i64.wrap (t : Int) = (t : Int) := IntWalk.i64_in _ (by omega)
              rw [ht] at hin hTV hta hto
              obtain ⟨x, hx⟩ : ∃ x, nth V i = x := ⟨_, rfl⟩
              rw [hx] at c1 fv hTV
              have CT : Hid (∀ W, Below wb.heap.size wb W → Calls Tryz.prog 183 #[.int .i64 i, .int .i64 j, .pointer (some ⟨p1, 0, none⟩), .pointer (some ⟨p2, 0, none⟩)] W fun e w' => e = .returned (.int .u64 (tw i j)) ∧ Below W.heap.size W w') := fun W hW => HT.out W i j (HKB.out W hW) hli hlt
              have ft := HTW.out i j
              obtain ⟨y, hy⟩ : ∃ y, tw i j = y := ⟨_, rfl⟩
              rw [hy] at CT ft hTV
              have HTA := Lib.hid hta
              have HTO := Lib.hid hto
              have HTVV := Lib.hid hTV
              have g3 : (0 : Int) ≤ (t : Int) := by omega
              have g4 : (t : Int) < (N : Int) := by omega
              have g5 : (0 : Int) ≤ (i : Int) := by omega
              have g6 : (i : Int) < (A : Int) := by omega
              have HO7 := Lib.hid hoT
              have HO8 := Lib.hid hoC
              clear hcv hs ht hx hy hta hto hTV hoT hoC
              go_wp2_with fail
              refine (CT.out _ HO7.out.below).mono ?_; rintro e w5 ⟨rfl, hb5⟩
              have hoT := HO7.out.later hb5
              have hoC := HO8.out.later hb5
              have hV5 := own_later HV.out hb5
              have hcell := hoT.cell t hin
              rw [HTA.out.1] at hcell
              have hfz := hoT.free t
              have hnext := hoT.store t hin (x * y % 18446744069414584321) (f' := tF T B j (i + 1)) (by rw [HTA.out.2, HTVV.out]) (fun r _ hr => HTO.out r hr)
              have HNT := Lib.hid hnext
              have HNC := Lib.hid (hoC.other wb.heap.size t (.int .u64 (x * y % 18446744069414584321)) (by omega) (Nat.le_refl _))
              have HNV := Lib.hid (row_keep (g' := wb.heap.size) (i := t) (v := .int .u64 (x * y % 18446744069414584321)) hV5 hgV)
              clear hoT hoC hV5 hnext c1
              go_wp2_with fail
              refine (gold_Mul x y _ (by omega) (by omega) (by omega) (by omega)).mono ?_; rintro e w6 ⟨rfl, rfl⟩
              go_wp2_with fail
              go_roundw
              case rel => exact ⟨i + 1, by omega, by go_num, HNT.out, HNC.out, HNV.out⟩
              case measure => simp [intOf]; omega
            · have hiA : i = A := by omega
              subst hiA
              have HNT : Hid (OwnAt .u64 23 wb wr wb.heap.size N (tF T B (j + 1) 0)) := hoT.congr (fun x hx => tF_next T i B j x (by omega) (by rw [← HN.out]; exact hx))
              have HNC := Lib.hid hoC
              clear hoT hoC
              go_wp2_with fail
              go_roundw
              case rel => exact ⟨j + 1, _, by omega, by go_num, HNT.out, HNC.out⟩
              case measure => simp [intOf]; omega
    · have hjB : j = B := by omega
      subst hjB
      have hrow := hoT.row (xs := T) HTL.out HTF.out (fun i _ => (tF_end T j i (by omega)).symm) hN2
      have HRT := Lib.hid hrow
      have HBW := Lib.hid hoT.below
      have D1 : wr.cell? ⟨w.heap.size + 1, 1, none⟩ = some (.int .i64 N) := (hoT.below.cell (p := ⟨w.heap.size + 1, 1, none⟩) (block_lt X1.out)).trans (block_cell X1.out 1)
      have X0 := Lib.hid ((hoT.below.block _ (block_lt X0.out)).trans X0.out)
      have X1 := Lib.hid ((hoT.below.block _ (block_lt X1.out)).trans X1.out)
      have hbsz := hoT.below.size
      obtain ⟨wy, rfl⟩ : ∃ wy : World, wy = wr := ⟨_, rfl⟩
      have HBY := Lib.hid (HKB.out _ HBW.out)
      have HG : Hid (∀ i r, i < A → r < j → nth (grL T A j zb) (i * j + r) = nth (dftL (rowL T j i) zb) r) := fun i r h1 h2 => by rw [nth_grL _ _ _ _ _ (row_in h1 h2), (at_row h2).1, (at_row h2).2]
      have HGL : Hid ((grL T A j zb).length = N) := by unfold Hid; rw [grL_len]; exact HN.out.symm
      have HGF : Hid (∀ x ∈ grL T A j zb, fits .u64 x) := by
        intro x hx
        obtain ⟨i, hi, rfl⟩ := List.mem_map.1 hx
        simp only [List.mem_range] at hi
        have h2 := dftL_range (rowL T j (i / j)) zb (i % j) (by rw [rowL_len]; exact Nat.mod_lt _ (by omega))
        exact fits_u64.2 (by omega)
      obtain ⟨G, hG⟩ : ∃ G, grL T A j zb = G := ⟨_, rfl⟩
      have HGG := Lib.hid hG
      rw [hG] at HG HGL HGF
      clear hrow hoT hoC HOT HOC hG
      go_wp2_with (at_make; refine wpList_make_own _ rfl _ _ 22 rfl wy.heap.size 23 i0 (.int .u64 0) 1 Tryz.underlying22 hi hz0 hz1 .i64 .i64 N N rfl rfl rfl (by rw [hz2]; omega) (by unfold maxLen; omega) (Nat.le_refl _) ?_)
      intro w7 hown0 hgrow0
      have hown : Own .u64 23 wy w7 (.slice (some ⟨wy.heap.size, 0, none⟩) 0 N) 0 (nth G) := ⟨hown0, (Below.refl _ _).grown hgrow0 (Nat.le_refl _) (by simp)⟩
      have HOW := Lib.hid hown
      clear hown0 hgrow0 hown D1
      go_wp2_with fail
      go_loopw [19, 89] (fun v iv wr => ∃ (i n : Nat), i ≤ A ∧ Hid (n = i * j) ∧ n ≤ N ∧ iv = .int .i64 i ∧ Own .u64 23 wy wr v n (nth G)) (fun _ iv _ => A - (intOf iv).toNat)
      case atStart => exact ⟨0, 0, Nat.zero_le _, by unfold Hid; rw [Nat.zero_mul], by omega, rfl, HOW.out⟩
      case round =>
        obtain ⟨i, n, hi9, HNI, hnN, rfl, hown⟩ := hrel
        by_cases hli : i < A
        · have HB9 := Lib.hid (chain HBY.out hown.below)
          have hrow : Row .u64 wr (some ⟨wb.heap.size, n, none⟩) (rowL T j i) := by
            have h := (HRT.out.below hown.below).cut n (n + j)
            rw [Nat.zero_add] at h
            have e : (T.take (n + j)).drop n = rowL T j i := by
              have hin : n + j ≤ N := by rw [HNI.out, HN.out, ← Nat.succ_mul]; exact Nat.mul_le_mul_right j (by omega)
              apply ext_nth (by rw [rowL_len]; simp [HTL.out]; omega)
              intro r hr
              have hr2 : r < j := by simp [HTL.out] at hr; omega
              rw [nth_drop, nth_take (by omega), nth_rowL _ _ _ _ hr2, HNI.out]
            rwa [e] at h
          have HCR := Lib.hid hrow
          have HCL : Hid ((rowL T j i).length = j) := rowL_len _ _ _
          have hDL : Hid ((dftL (rowL T j i) zb).length = j) := (dftL_len _ _).trans HCL.out
          have HGI : Hid (∀ r, r < j → nth G (n + r) = nth (dftL (rowL T j i) zb) r) := fun r hr => by rw [HNI.out]; exact HG.out i r hli hr
          have hnj : n + j ≤ N := by rw [HNI.out, HN.out, ← Nat.succ_mul]; exact Nat.mul_le_mul_right j (by omega)
          obtain ⟨_, _, _, e3, e4, e5⟩ := KK.out wr HB9.out
          have R0 : wr.cell? ⟨w.heap.size, 0, none⟩ = some (.func (.func 107) #[] #[.pointer (some ⟨q, 0, none⟩)]) := (hown.below.cell (p := ⟨w.heap.size, 0, none⟩) (block_lt X0.out)).trans (block_cell X0.out 0)
          have D2 : wr.cell? ⟨w.heap.size + 1, 2, none⟩ = some (.slice (some ⟨b, off, none⟩) 2 cap) := (hown.below.cell (p := ⟨w.heap.size + 1, 2, none⟩) (block_lt X1.out)).trans (block_cell X1.out 2)
          have hbs := hown.below.size
          have l0 : w.heap.size < wr.heap.size := by omega
          have l1 : w.heap.size + 1 < wr.heap.size := by omega
          have l2 : b < wr.heap.size := by omega
          have hb : Below wr.heap.size wr wr.drew := (Below.refl _ _).drew
          have n0 : ∀ k' : Nat, k' < wy.heap.size → u19.ownBlock ≠ some k' := fun k' hk' h => by have := (hown.own.lt _ h).1; omega
          have n1 := n0 w.heap.size (by omega)
          have n2 := n0 (w.heap.size + 1) (by omega)
          have n3 := n0 b (by omega)
          have mA : (i : Int) * (j : Int) = (n : Int) := by rw [HNI.out]; simp
          have mwA : IntKind.i64.wrap (n : Int) = (n : Int) := IntWalk.i64_in _ (by omega)
          have mi : IntKind.i64.wrap ((i : Int) + 1) = (i : Int) + 1 := IntWalk.i64_in _ (by omega)
          have mB : ((i : Int) + 1) * (j : Int) = ((n + j : Nat) : Int) := by rw [Int.add_mul, Int.one_mul, mA]; simp
          obtain ⟨n', hn'⟩ : ∃ n', n + j = n' := ⟨_, rfl⟩
          rw [hn'] at mB hnj
          have mwB : IntKind.i64.wrap (n' : Int) = (n' : Int) := IntWalk.i64_in _ (by omega)
          have s1 : (0 : Int) ≤ (n : Int) := by omega
          have s2 : (n : Int) ≤ (n' : Int) := by omega
          have s3 : (n' : Int) ≤ (N : Int) := by omega
          have s4 : n' - n = j := by omega
          have s5 : (n' : Int) - (n : Int) = (j : Int) := by omega
          have hNn : ¬ N = n := by omega
          clear hrow
          go_wp2_with fail
          go_region_held3 (fun w' => w'.cell? ⟨w.heap.size, 0, none⟩ = some (.func (.func 107) #[] #[.pointer (some ⟨q, 0, none⟩)]) ∧ w'.cell? ⟨w.heap.size + 1, 2, none⟩ = some (.slice (some ⟨b, off, none⟩) 2 cap) ∧ w'.cell? ⟨b, off + 3, none⟩ = some (.int .i64 k1) ∧ w'.cell? ⟨b, off + 4, none⟩ = some (.int .i64 j) ∧ w'.cell? ⟨b, off + 5, none⟩ = some (.slice a1 m1 c1))
            (first | exact ⟨R0, D2, e3, e4, e5⟩ | exact ⟨(hb.cell (p := ⟨w.heap.size, 0, none⟩) l0).trans R0, (hb.cell (p := ⟨w.heap.size + 1, 2, none⟩) l1).trans D2, (hb.cell (p := ⟨b, off + 3, none⟩) l2).trans e3, (hb.cell (p := ⟨b, off + 4, none⟩) l2).trans e4, (hb.cell (p := ⟨b, off + 5, none⟩) l2).trans e5⟩ | exact ⟨hgrow.cell (a := ⟨w.heap.size, 0, none⟩) ((hb.cell (p := ⟨w.heap.size, 0, none⟩) l0).trans R0) (Ne.symm n1), hgrow.cell (a := ⟨w.heap.size + 1, 2, none⟩) ((hb.cell (p := ⟨w.heap.size + 1, 2, none⟩) l1).trans D2) (Ne.symm n2), hgrow.cell (a := ⟨b, off + 3, none⟩) ((hb.cell (p := ⟨b, off + 3, none⟩) l2).trans e3) (Ne.symm n3), hgrow.cell (a := ⟨b, off + 4, none⟩) ((hb.cell (p := ⟨b, off + 4, none⟩) l2).trans e4) (Ne.symm n3), hgrow.cell (a := ⟨b, off + 5, none⟩) ((hb.cell (p := ⟨b, off + 5, none⟩) l2).trans e5) (Ne.symm n3)⟩ | fail)
            ((first
              | (go_at_call 138; ((with_reducible refine (HC1.out _ _ _ _ (chain HB9.out hb) (HCR.out.below hb) HCL.out).mono ?_); rintro e z1 ⟨a5, cap5, rfl, ho5, hf5, hl5, hc⟩; have hb := chain hb hc; simp only [hDL.out] at ho5 hl5 ⊢; have hR5 := Row.of_own (k := .u64) hDL.out (by omega) hf5 ho5; obtain ⟨b5, o5, rfl, hc5⟩ := hR5.at (by rw [hDL.out]; omega)))
              | (refine step_append_lies _ (by rfl) _ _ 22 (by rfl) wy.heap.size 23 i0 _ 1 8 Tryz.underlying22 hi hz0 hz1 hz2 rfl (by omega) _ n _ (by rfl) (own_later hown.own hb) ⟨b5, o5, none⟩ j cap5 ((dftL (rowL T j i) zb).map (Value.int .u64)) (by rfl) (by rw [List.length_map, hDL.out, Nat.mul_one]) (news_row hc5) (ints_oneCell _ _) (by omega) (by unfold maxLen; omega) (by omega) (by have := hb.size; omega) _ rfl ?_; intro gg cap9 w9 hown' hgrow hat hlt0)
              | fail))
          have hown2 : w9.ownsRow wy.heap.size 23 1 (.slice (some ⟨gg, 0, none⟩) n' cap9) n' ((List.range n').map fun r => Value.int .u64 (nth G r)) := by
            have h := hown'
            rw [rows_join n j (nth G) _ hDL.out HGI.out, hn'] at h
            exact h
          have hnext : Own .u64 23 wy w9 (.slice (some ⟨gg, 0, none⟩) n' cap9) n' (nth G) := ⟨hown2, (chain hown.below hb).grown hgrow (by have := hb.size; omega) (own_lt hown.own)⟩
          have HNX := Lib.hid hnext
          have HNI2 : Hid (n' = (i + 1) * j) := by unfold Hid; rw [← hn', HNI.out, Nat.succ_mul]
          clear R0 D2 e3 e4 e5 hown' hown2 hgrow hat hnext hb hc ho5 hf5 hR5 hc5
          go_wp2_with fail
          go_roundw
          case rel => exact ⟨i + 1, n', by omega, HNI2.out, hnj, by go_num, HNX.out⟩
          case measure => simp [intOf]; omega
        · have hiA : i = A := by omega
          have hnN2 : n = N := by rw [HNI.out, hiA, ← HN.out]
          have hres := (hown.givesO (xs := G) (HGL.out.trans hnN2.symm) HGF.out (fun r hr => rfl) (by omega)).step HBY.out
          have HRES := Lib.hid hres
          clear hown hres
          go_wp2_with fail
          go_ret
          rw [HGG.out]
          exact HRES.out
set_option maxHeartbeats 8000000 in
theorem exec_gridG (q  N A B b off cap cx : Nat) (k d k0 k1 : Int) (a0 a1 ax : Option Addr) (m0 c0 m1 c1 : Nat) (xs : List Int) (tw : Nat → Nat → Int) (w : World) (hx : Row .u64 w ax xs) (hxl : xs.length = N) (hN : N = A * B) (hA : 2 ≤ A) (hB : 2 ≤ B) (hN2 : N ≤ 16777216)
    (h00 : w.cell? ⟨b, off, none⟩ = some (.int .i64 k0)) (h01 : w.cell? ⟨b, off + 1, none⟩ = some (.int .i64 A)) (h02 : w.cell? ⟨b, off + 2, none⟩ = some (.slice a0 m0 c0))
    (h10 : w.cell? ⟨b, off + 3, none⟩ = some (.int .i64 k1)) (h11 : w.cell? ⟨b, off + 4, none⟩ = some (.int .i64 B)) (h12 : w.cell? ⟨b, off + 5, none⟩ = some (.slice a1 m1 c1))
    (hC0 : ∀ W (ax : Option Addr) (cx : Nat) (xs : List Int), Below w.heap.size w W → Row .u64 W ax xs → xs.length = A → Calls Tryz.prog 138 #[.agg #[.func (.func 107) #[] #[.pointer (some ⟨q, 0, none⟩)]], .agg #[.int .i64 k0, .int .i64 A, .slice a0 m0 c0], .int .i64 d, .slice ax A cx] W (GivesOwn .u64 23 (dftL xs (dirRt A d)) W))
    (hC1 : ∀ W (ax : Option Addr) (cx : Nat) (xs : List Int), Below w.heap.size w W → Row .u64 W ax xs → xs.length = B → Calls Tryz.prog 138 #[.agg #[.func (.func 107) #[] #[.pointer (some ⟨q, 0, none⟩)]], .agg #[.int .i64 k1, .int .i64 B, .slice a1 m1 c1], .int .i64 d, .slice ax B cx] W (GivesOwn .u64 23 (dftL xs (dirRt B d)) W))
    (hT : ∀ W (i j : Nat), Below w.heap.size w W → i < A → j < B → Calls Tryz.prog 187 #[.int .i64 i, .int .i64 j] W fun e w' => e = .returned (.int .u64 (tw i j)) ∧ Below W.heap.size W w') (htw : ∀ i j, 0 ≤ tw i j ∧ tw i j < 18446744073709551616) :
    Calls Tryz.prog 182 #[.agg #[.func (.func 107) #[] #[.pointer (some ⟨q, 0, none⟩)]], .agg #[.int .i64 k, .int .i64 N, .slice (some ⟨b, off, none⟩) 2 cap], .int .i64 d, .slice ax N cx, .func (.func 187) #[] #[]] w (GivesOwn .u64 23 (grL (gtL xs A B (dirRt A d) tw) A B (dirRt B d)) w) := by
  obtain ⟨i0, hi, hz0, hz1, hz2⟩ := info_parts info_u64
  have hbl : b < w.heap.size := World.block_lt_of_cell? _ _ h00
  have HX := Lib.hid hx
  have HXL := Lib.hid hxl
  have HN := Lib.hid hN
  have HC0 := Lib.hid hC0
  have HC1 := Lib.hid hC1
  have HT := Lib.hid hT
  have HTW := Lib.hid htw
  have HK : Hid (w.cell? ⟨b, off, none⟩ = some (.int .i64 k0) ∧ w.cell? ⟨b, off + 1, none⟩ = some (.int .i64 A) ∧ w.cell? ⟨b, off + 2, none⟩ = some (.slice a0 m0 c0) ∧ w.cell? ⟨b, off + 3, none⟩ = some (.int .i64 k1) ∧ w.cell? ⟨b, off + 4, none⟩ = some (.int .i64 B) ∧ w.cell? ⟨b, off + 5, none⟩ = some (.slice a1 m1 c1)) := ⟨h00, h01, h02, h10, h11, h12⟩
  have KK : Hid (∀ W, Below w.heap.size w W → W.cell? ⟨b, off, none⟩ = some (.int .i64 k0) ∧ W.cell? ⟨b, off + 1, none⟩ = some (.int .i64 A) ∧ W.cell? ⟨b, off + 2, none⟩ = some (.slice a0 m0 c0) ∧ W.cell? ⟨b, off + 3, none⟩ = some (.int .i64 k1) ∧ W.cell? ⟨b, off + 4, none⟩ = some (.int .i64 B) ∧ W.cell? ⟨b, off + 5, none⟩ = some (.slice a1 m1 c1)) := fun W hW => by
    obtain ⟨e0, e1, e2, e3, e4, e5⟩ := HK.out
    exact ⟨(hW.cell (p := ⟨b, off, none⟩) hbl).trans e0, (hW.cell (p := ⟨b, off + 1, none⟩) hbl).trans e1, (hW.cell (p := ⟨b, off + 2, none⟩) hbl).trans e2, (hW.cell (p := ⟨b, off + 3, none⟩) hbl).trans e3, (hW.cell (p := ⟨b, off + 4, none⟩) hbl).trans e4, (hW.cell (p := ⟨b, off + 5, none⟩) hbl).trans e5⟩
  have hAN : A ≤ N := by rw [hN]; exact Nat.le_mul_of_pos_right A (by omega)
  have hBN : B ≤ N := by rw [hN]; exact Nat.le_mul_of_pos_left B (by omega)
  obtain ⟨za, hza⟩ : ∃ z, dirRt A d = z := ⟨_, rfl⟩
  obtain ⟨zb, hzb⟩ : ∃ z, dirRt B d = z := ⟨_, rfl⟩
  rw [hza] at HC0 ⊢
  rw [hzb] at HC1 ⊢
  obtain ⟨T, hTT⟩ : ∃ T, gtL xs A B za tw = T := ⟨_, rfl⟩
  have HTL : Hid (T.length = N) := by unfold Hid; rw [← hTT, gtL_len, hN]
  have HTF : Hid (∀ x ∈ T, fits .u64 x) := by unfold Hid; rw [← hTT]; exact gtL_fits _ _ _ _ _
  have HTV : Hid (∀ i j, i < A → j < B → nth (dftL (colL xs A B j) za) i * tw i j % 18446744069414584321 = nth T (i * B + j)) := fun i j hi hj => by
    rw [← hTT, nth_gtL _ _ _ _ _ _ (row_in hi hj), (at_row hj).1, (at_row hj).2]
  rw [hTT]
  clear hN hx hxl hC0 hC1 hT htw h00 h01 h02 h10 h11 h12 HK hza hzb hTT
  obtain ⟨W1, hW1, hb1, x0, x1⟩ := two_boxes w #[.func (.func 107) #[] #[.pointer (some ⟨q, 0, none⟩)]] #[.int .i64 k, .int .i64 N, .slice (some ⟨b, off, none⟩) 2 cap] 138 48
  have HW1 := Lib.hid hW1
  have HB1 := Lib.hid hb1
  have X0 := Lib.hid x0
  have X1 := Lib.hid x1
  have hsz1 := block_lt x1
  clear hW1 hb1 x0 x1
  have D2 : W1.cell? ⟨w.heap.size + 1, 2, none⟩ = some (.slice (some ⟨b, off, none⟩) 2 cap) := block_cell X1.out 2
  obtain ⟨e0, e1, e2, e3, e4, e5⟩ := KK.out W1 HB1.out
  go_enter Tryz.func182, Tryz.ntmps182
  go_wp2_with fail
  rw [HW1.out]
  go_quiet (fail)
  have hbq := below_drewN (Below.refl W1.heap.size W1) nq
  obtain ⟨wb, hwb⟩ : ∃ wb, W1.drewN nq = wb := ⟨_, rfl⟩
  rw [hwb] at hbq ⊢
  have HBB := Lib.hid (chain HB1.out hbq)
  have X0 := Lib.hid ((hbq.block _ (block_lt X0.out)).trans X0.out)
  have X1 := Lib.hid ((hbq.block _ (block_lt X1.out)).trans X1.out)
  have hsb : w.heap.size + 1 < wb.heap.size := block_lt X1.out
  clear hwb hbq D2 e0 e1 e2 e3 e4 e5
  have D1 : wb.cell? ⟨w.heap.size + 1, 1, none⟩ = some (.int .i64 N) := block_cell X1.out 1
  go_wp2_with (at_make; refine wpList_make_full _ rfl _ _ 22 rfl wb.heap.size 23 i0 (.int .u64 0) 1 Tryz.underlying22 hi hz0 hz1 .i64 .i64 N N N rfl rfl rfl rfl (by rw [hz2]; omega) (by unfold maxLen; omega) (Nat.le_refl _) ?_)
  intro w3 hown0 hgrow0
  have hownT := Own.made hown0 hgrow0
  have HOT := Lib.hid hownT
  have hg1 := hownT.base
  clear hown0 hgrow0 hownT D1
  go_wp2_with (at_make; refine wpList_make_full _ rfl _ _ 22 rfl w3.heap.size 23 i0 (.int .u64 0) 1 Tryz.underlying22 hi hz0 hz1 .i64 .i64 A A A rfl rfl rfl rfl (by rw [hz2]; omega) (by unfold maxLen; omega) (Nat.le_refl _) ?_)
  intro w4 hown0 hgrow0
  have hownC := Own.made hown0 hgrow0
  have HOC := Lib.hid (hownC.rebase HOT.out.below)
  have HOT := Lib.hid (HOT.out.later hownC.below)
  clear hown0 hgrow0 hownC
  have hgg : wb.heap.size < w3.heap.size := hg1.2
  have hg2 := HOC.out.base
  have HKB : Hid (∀ W, Below wb.heap.size wb W → Below w.heap.size w W) := fun W hW => chain HBB.out hW
  go_wp2_with fail
  go_loopw [37] (fun iv wr => ∃ (j : Nat) (old : Nat → Int), j ≤ B ∧ iv = .int .i64 j ∧ OwnAt .u64 23 wb wr wb.heap.size N (tF T B j 0) ∧ OwnAt .u64 23 wb wr w3.heap.size A old) (fun iv _ => B - (intOf iv).toNat)
  case atStart => exact ⟨0, fun _ => 0, Nat.zero_le _, rfl, own_eqz HOT.out (fun x => tF_start _ _ _), HOC.out⟩
  case round =>
    obtain ⟨j, old, hj, rfl, hoT, hoC⟩ := hrel
    by_cases hlt : j < B
    · have HO1 := Lib.hid hoT
      have HO2 := Lib.hid hoC
      obtain ⟨wo, rfl⟩ : ∃ wo : World, wo = wr := ⟨_, rfl⟩
      clear hoT hoC HOT HOC
      go_wp2_with fail
      go_loopw [41] (fun iv wi => ∃ i : Nat, i ≤ A ∧ iv = .int .i64 i ∧ OwnAt .u64 23 wb wi wb.heap.size N (tF T B j 0) ∧ OwnAt .u64 23 wb wi w3.heap.size A (fun r => if r < i then nth xs (r * B + j) else old r)) (fun iv _ => A - (intOf iv).toNat)
      case atStart => exact ⟨0, Nat.zero_le _, rfl, HO1.out, own_eqz HO2.out (fun x => if_neg (by omega))⟩
      case round =>
        obtain ⟨i, hi9, rfl, hoT, hoC⟩ := hrel
        by_cases hli : i < A
        · have hin := row_in hli hlt
          rw [← HN.out] at hin
          obtain ⟨bx, ox, rfl, hcx⟩ := (HX.out.below (HKB.out _ hoT.below)).at (by rw [HXL.out]; omega)
          obtain ⟨s, hs⟩ : ∃ s, i * B = s := ⟨_, rfl⟩
          rw [hs] at hin
          have m1 := mulN i B s hs
          have mw : IntKind.i64.wrap (s : Int) = (s : Int) := IntWalk.i64_in _ (by omega)
          have c1 := hcx (s + j) (by rw [HXL.out]; exact hin)
          have HS := Lib.hid hs
          obtain ⟨t, ht⟩ : ∃ t, s + j = t := ⟨_, rfl⟩
          have m2 : (s : Int) + (j : Int) = (t : Int) := by omega
          have mw2 : IntKind.i64.wrap (t : Int) = (t : Int) := IntWalk.i64_in _ (by omega)
          rw [ht] at c1 hin
          obtain ⟨x, hx⟩ : ∃ x, nth xs t = x := ⟨_, rfl⟩
          rw [hx] at c1
          have hcell := hoC.cell i hli
          rw [if_neg (Nat.lt_irrefl i)] at hcell
          have hfz := hoC.free i
          have hnext := hoC.store i hli x (f' := fun r => if r < i + 1 then nth xs (r * B + j) else old r) (by show (if i < i + 1 then _ else _) = _; rw [if_pos (by omega), HS.out, ht]; exact hx) (fun r _ hr => by
            by_cases h : r < i
            · rw [if_pos h, if_pos (by omega)]
            · rw [if_neg h, if_neg (by omega)])
          have HNC := Lib.hid hnext
          have HNT := Lib.hid (hoT.other w3.heap.size i (.int .u64 x) (by omega) (by omega))
          have g3 : (0 : Int) ≤ (t : Int) := by omega
          have g4 : (t : Int) < (N : Int) := by omega
          have g5 : (0 : Int) ≤ (i : Int) := by omega
          have g6 : (i : Int) < (A : Int) := by omega
          clear hcx hs ht hx hoT hoC hnext
          go_wp2_with fail
          go_roundw
          case rel => exact ⟨i + 1, by omega, by go_num, HNT.out, HNC.out⟩
          case measure => simp [intOf]; omega
        · have hiA : i = A := by omega
          have hcl := colL_len xs A B j
          have hrow : Row .u64 wr (some ⟨w3.heap.size, 0, none⟩) (colL xs A B j) := hoC.row hcl (fun x hx => by
            obtain ⟨r, hr, rfl⟩ := List.mem_map.1 hx
            simp only [List.mem_range] at hr
            exact HX.out.wf _ (nth_mem (by rw [HXL.out, HN.out]; exact row_in hr hlt))) (fun r hr => by rw [nth_colL _ _ _ _ _ hr, if_pos (by omega)]) (by omega)
          have HCR := Lib.hid hrow
          have HCL := Lib.hid hcl
          have HO3 := Lib.hid hoT
          have HO4 := Lib.hid hoC
          have HBR := Lib.hid (HKB.out _ hoT.below)
          have hDL : Hid ((dftL (colL xs A B j) za).length = A) := (dftL_len _ _).trans hcl
          obtain ⟨e0, e1, e2, _, _, _⟩ := KK.out wr HBR.out
          have R0 : wr.cell? ⟨w.heap.size, 0, none⟩ = some (.func (.func 107) #[] #[.pointer (some ⟨q, 0, none⟩)]) := (hoT.below.cell (p := ⟨w.heap.size, 0, none⟩) (block_lt X0.out)).trans (block_cell X0.out 0)
          have D2 : wr.cell? ⟨w.heap.size + 1, 2, none⟩ = some (.slice (some ⟨b, off, none⟩) 2 cap) := (hoT.below.cell (p := ⟨w.heap.size + 1, 2, none⟩) (block_lt X1.out)).trans (block_cell X1.out 2)
          have hbs := hoT.below.size
          have l0 : w.heap.size < wr.heap.size := by omega
          have l1 : w.heap.size + 1 < wr.heap.size := by omega
          have l2 : b < wr.heap.size := by omega
          have hb : Below wr.heap.size wr wr.drew := (Below.refl _ _).drew
          clear hrow hcl hoT hoC hiA
          go_wp2_with fail
          go_region_held3 (fun w' => w'.cell? ⟨w.heap.size, 0, none⟩ = some (.func (.func 107) #[] #[.pointer (some ⟨q, 0, none⟩)]) ∧ w'.cell? ⟨w.heap.size + 1, 2, none⟩ = some (.slice (some ⟨b, off, none⟩) 2 cap) ∧ w'.cell? ⟨b, off, none⟩ = some (.int .i64 k0) ∧ w'.cell? ⟨b, off + 1, none⟩ = some (.int .i64 A) ∧ w'.cell? ⟨b, off + 2, none⟩ = some (.slice a0 m0 c0))
            (first | exact ⟨R0, D2, e0, e1, e2⟩ | exact ⟨(hb.cell (p := ⟨w.heap.size, 0, none⟩) l0).trans R0, (hb.cell (p := ⟨w.heap.size + 1, 2, none⟩) l1).trans D2, (hb.cell (p := ⟨b, off, none⟩) l2).trans e0, (hb.cell (p := ⟨b, off + 1, none⟩) l2).trans e1, (hb.cell (p := ⟨b, off + 2, none⟩) l2).trans e2⟩ | fail)
            ((first
              | (go_at_call 138; ((with_reducible refine (HC0.out _ _ _ _ (chain HBR.out hb) (HCR.out.below hb) HCL.out).mono ?_); rintro e z1 ⟨a3, cap3, rfl, ho3, hf3, hl3, hc⟩; have hb := chain hb hc; simp only [hDL.out] at ho3 hl3 ⊢))
              | fail))
          obtain ⟨V, hV⟩ : ∃ V, dftL (colL xs A B j) za = V := ⟨_, rfl⟩
          rw [hV] at ho3 hf3 hDL
          have HTV2 : Hid (∀ i, i < A → nth V i * tw i j % 18446744069414584321 = nth T (i * B + j)) := fun i hi => by rw [← hV]; exact HTV.out i j hi hlt
          have ho3 : z1.ownsRow wr.heap.size 23 1 (.slice a3 A cap3) A (V.map (Value.int .u64)) := ho3
          have hV3 := Lib.hid ho3
          have hVF := Lib.hid hf3
          have hO5 := Lib.hid (HO3.out.later hb)
          have hO6 := Lib.hid (HO4.out.later hb)
          obtain ⟨BV, hBV⟩ : ∃ BV, wr.heap.size = BV := ⟨_, rfl⟩
          rw [hBV] at hV3 hbs
          have hgV : wb.heap.size < BV := by have := HO3.out.base; omega
          clear R0 D2 e0 e1 e2 hV ho3 hf3 hc hb hBV HCR HCL
          go_wp2_with fail
          go_loopw [65] (fun iv wi => ∃ i : Nat, i ≤ A ∧ iv = .int .i64 i ∧ OwnAt .u64 23 wb wi wb.heap.size N (tF T B j i) ∧ OwnAt .u64 23 wb wi w3.heap.size A (fun r => if r < A then nth xs (r * B + j) else old r) ∧ Hid (wi.ownsRow BV 23 1 (.slice a3 A cap3) A (V.map (Value.int .u64)))) (fun iv _ => A - (intOf iv).toNat)
          case atStart => exact ⟨0, Nat.zero_le _, rfl, hO5.out, own_eqz hO6.out (fun x => by by_cases h : x < A; (rw [if_pos h, if_pos (by omega)]); (rw [if_neg h, if_neg (by omega)])), hV3.out⟩
          case round =>
            obtain ⟨i, hi9, rfl, hoT, hoC, HV⟩ := hrel
            by_cases hli : i < A
            · have hin := row_in hli hlt
              rw [← HN.out] at hin
              obtain ⟨bv, ov, rfl, hcv⟩ := (Row.of_own (k := .u64) hDL (by omega) hVF.out HV.out).at (by rw [hDL]; omega)
              have c1 := hcv i (by rw [hDL]; exact hli)
              have fv := fits_u64.1 (hVF.out _ (nth_mem (show i < V.length by rw [hDL]; exact hli)))
              obtain ⟨s, hs⟩ : ∃ s, i * B = s := ⟨_, rfl⟩
              rw [hs] at hin
              have m1 := mulN i B s hs
              have mw : IntKind.i64.wrap (s : Int) = (s : Int) := IntWalk.i64_in _ (by omega)
              have hTV := HTV2.out i hli
              have hta := tF_at T B i j hlt
              have hto : ∀ x, x ≠ i * B + j → tF T B j (i + 1) x = tF T B j i x := fun x hx => tF_other T B i j x hlt hx
              rw [hs] at hTV hta hto
              obtain ⟨t, ht⟩ : ∃ t, s + j = t := ⟨_, rfl⟩
              have m2 : (s : Int) + (j : Int) = (t : Int) := by omega
              have mw2 : IntKind.i64.wrap (t : Int) = (t : Int) := IntWalk.i64_in _ (by omega)
              rw [ht] at hin hTV hta hto
              obtain ⟨x, hx⟩ : ∃ x, nth V i = x := ⟨_, rfl⟩
              rw [hx] at c1 fv hTV
              have CT : Hid (∀ W, Below wb.heap.size wb W → Calls Tryz.prog 187 #[.int .i64 i, .int .i64 j] W fun e w' => e = .returned (.int .u64 (tw i j)) ∧ Below W.heap.size W w') := fun W hW => HT.out W i j (HKB.out W hW) hli hlt
              have ft := HTW.out i j
              obtain ⟨y, hy⟩ : ∃ y, tw i j = y := ⟨_, rfl⟩
              rw [hy] at CT ft hTV
              have HTA := Lib.hid hta
              have HTO := Lib.hid hto
              have HTVV := Lib.hid hTV
              have g3 : (0 : Int) ≤ (t : Int) := by omega
              have g4 : (t : Int) < (N : Int) := by omega
              have g5 : (0 : Int) ≤ (i : Int) := by omega
              have g6 : (i : Int) < (A : Int) := by omega
              have HO7 := Lib.hid hoT
              have HO8 := Lib.hid hoC
              clear hcv hs ht hx hy hta hto hTV hoT hoC
              go_wp2_with fail
              refine (CT.out _ HO7.out.below).mono ?_; rintro e w5 ⟨rfl, hb5⟩
              have hoT := HO7.out.later hb5
              have hoC := HO8.out.later hb5
              have hV5 := own_later HV.out hb5
              have hcell := hoT.cell t hin
              rw [HTA.out.1] at hcell
              have hfz := hoT.free t
              have hnext := hoT.store t hin (x * y % 18446744069414584321) (f' := tF T B j (i + 1)) (by rw [HTA.out.2, HTVV.out]) (fun r _ hr => HTO.out r hr)
              have HNT := Lib.hid hnext
              have HNC := Lib.hid (hoC.other wb.heap.size t (.int .u64 (x * y % 18446744069414584321)) (by omega) (Nat.le_refl _))
              have HNV := Lib.hid (row_keep (g' := wb.heap.size) (i := t) (v := .int .u64 (x * y % 18446744069414584321)) hV5 hgV)
              clear hoT hoC hV5 hnext c1
              go_wp2_with fail
              refine (gold_Mul x y _ (by omega) (by omega) (by omega) (by omega)).mono ?_; rintro e w6 ⟨rfl, rfl⟩
              go_wp2_with fail
              go_roundw
              case rel => exact ⟨i + 1, by omega, by go_num, HNT.out, HNC.out, HNV.out⟩
              case measure => simp [intOf]; omega
            · have hiA : i = A := by omega
              subst hiA
              have HNT : Hid (OwnAt .u64 23 wb wr wb.heap.size N (tF T B (j + 1) 0)) := hoT.congr (fun x hx => tF_next T i B j x (by omega) (by rw [← HN.out]; exact hx))
              have HNC := Lib.hid hoC
              clear hoT hoC
              go_wp2_with fail
              go_roundw
              case rel => exact ⟨j + 1, _, by omega, by go_num, HNT.out, HNC.out⟩
              case measure => simp [intOf]; omega
    · have hjB : j = B := by omega
      subst hjB
      have hrow := hoT.row (xs := T) HTL.out HTF.out (fun i _ => (tF_end T j i (by omega)).symm) hN2
      have HRT := Lib.hid hrow
      have HBW := Lib.hid hoT.below
      have D1 : wr.cell? ⟨w.heap.size + 1, 1, none⟩ = some (.int .i64 N) := (hoT.below.cell (p := ⟨w.heap.size + 1, 1, none⟩) (block_lt X1.out)).trans (block_cell X1.out 1)
      have X0 := Lib.hid ((hoT.below.block _ (block_lt X0.out)).trans X0.out)
      have X1 := Lib.hid ((hoT.below.block _ (block_lt X1.out)).trans X1.out)
      have hbsz := hoT.below.size
      obtain ⟨wy, rfl⟩ : ∃ wy : World, wy = wr := ⟨_, rfl⟩
      have HBY := Lib.hid (HKB.out _ HBW.out)
      have HG : Hid (∀ i r, i < A → r < j → nth (grL T A j zb) (i * j + r) = nth (dftL (rowL T j i) zb) r) := fun i r h1 h2 => by rw [nth_grL _ _ _ _ _ (row_in h1 h2), (at_row h2).1, (at_row h2).2]
      have HGL : Hid ((grL T A j zb).length = N) := by unfold Hid; rw [grL_len]; exact HN.out.symm
      have HGF : Hid (∀ x ∈ grL T A j zb, fits .u64 x) := by
        intro x hx
        obtain ⟨i, hi, rfl⟩ := List.mem_map.1 hx
        simp only [List.mem_range] at hi
        have h2 := dftL_range (rowL T j (i / j)) zb (i % j) (by rw [rowL_len]; exact Nat.mod_lt _ (by omega))
        exact fits_u64.2 (by omega)
      obtain ⟨G, hG⟩ : ∃ G, grL T A j zb = G := ⟨_, rfl⟩
      have HGG := Lib.hid hG
      rw [hG] at HG HGL HGF
      clear hrow hoT hoC HOT HOC hG
      go_wp2_with (at_make; refine wpList_make_own _ rfl _ _ 22 rfl wy.heap.size 23 i0 (.int .u64 0) 1 Tryz.underlying22 hi hz0 hz1 .i64 .i64 N N rfl rfl rfl (by rw [hz2]; omega) (by unfold maxLen; omega) (Nat.le_refl _) ?_)
      intro w7 hown0 hgrow0
      have hown : Own .u64 23 wy w7 (.slice (some ⟨wy.heap.size, 0, none⟩) 0 N) 0 (nth G) := ⟨hown0, (Below.refl _ _).grown hgrow0 (Nat.le_refl _) (by simp)⟩
      have HOW := Lib.hid hown
      clear hown0 hgrow0 hown D1
      go_wp2_with fail
      go_loopw [19, 89] (fun v iv wr => ∃ (i n : Nat), i ≤ A ∧ Hid (n = i * j) ∧ n ≤ N ∧ iv = .int .i64 i ∧ Own .u64 23 wy wr v n (nth G)) (fun _ iv _ => A - (intOf iv).toNat)
      case atStart => exact ⟨0, 0, Nat.zero_le _, by unfold Hid; rw [Nat.zero_mul], by omega, rfl, HOW.out⟩
      case round =>
        obtain ⟨i, n, hi9, HNI, hnN, rfl, hown⟩ := hrel
        by_cases hli : i < A
        · have HB9 := Lib.hid (chain HBY.out hown.below)
          have hrow : Row .u64 wr (some ⟨wb.heap.size, n, none⟩) (rowL T j i) := by
            have h := (HRT.out.below hown.below).cut n (n + j)
            rw [Nat.zero_add] at h
            have e : (T.take (n + j)).drop n = rowL T j i := by
              have hin : n + j ≤ N := by rw [HNI.out, HN.out, ← Nat.succ_mul]; exact Nat.mul_le_mul_right j (by omega)
              apply ext_nth (by rw [rowL_len]; simp [HTL.out]; omega)
              intro r hr
              have hr2 : r < j := by simp [HTL.out] at hr; omega
              rw [nth_drop, nth_take (by omega), nth_rowL _ _ _ _ hr2, HNI.out]
            rwa [e] at h
          have HCR := Lib.hid hrow
          have HCL : Hid ((rowL T j i).length = j) := rowL_len _ _ _
          have hDL : Hid ((dftL (rowL T j i) zb).length = j) := (dftL_len _ _).trans HCL.out
          have HGI : Hid (∀ r, r < j → nth G (n + r) = nth (dftL (rowL T j i) zb) r) := fun r hr => by rw [HNI.out]; exact HG.out i r hli hr
          have hnj : n + j ≤ N := by rw [HNI.out, HN.out, ← Nat.succ_mul]; exact Nat.mul_le_mul_right j (by omega)
          obtain ⟨_, _, _, e3, e4, e5⟩ := KK.out wr HB9.out
          have R0 : wr.cell? ⟨w.heap.size, 0, none⟩ = some (.func (.func 107) #[] #[.pointer (some ⟨q, 0, none⟩)]) := (hown.below.cell (p := ⟨w.heap.size, 0, none⟩) (block_lt X0.out)).trans (block_cell X0.out 0)
          have D2 : wr.cell? ⟨w.heap.size + 1, 2, none⟩ = some (.slice (some ⟨b, off, none⟩) 2 cap) := (hown.below.cell (p := ⟨w.heap.size + 1, 2, none⟩) (block_lt X1.out)).trans (block_cell X1.out 2)
          have hbs := hown.below.size
          have l0 : w.heap.size < wr.heap.size := by omega
          have l1 : w.heap.size + 1 < wr.heap.size := by omega
          have l2 : b < wr.heap.size := by omega
          have hb : Below wr.heap.size wr wr.drew := (Below.refl _ _).drew
          have n0 : ∀ k' : Nat, k' < wy.heap.size → u19.ownBlock ≠ some k' := fun k' hk' h => by have := (hown.own.lt _ h).1; omega
          have n1 := n0 w.heap.size (by omega)
          have n2 := n0 (w.heap.size + 1) (by omega)
          have n3 := n0 b (by omega)
          have mA : (i : Int) * (j : Int) = (n : Int) := by rw [HNI.out]; simp
          have mwA : IntKind.i64.wrap (n : Int) = (n : Int) := IntWalk.i64_in _ (by omega)
          have mi : IntKind.i64.wrap ((i : Int) + 1) = (i : Int) + 1 := IntWalk.i64_in _ (by omega)
          have mB : ((i : Int) + 1) * (j : Int) = ((n + j : Nat) : Int) := by rw [Int.add_mul, Int.one_mul, mA]; simp
          obtain ⟨n', hn'⟩ : ∃ n', n + j = n' := ⟨_, rfl⟩
          rw [hn'] at mB hnj
          have mwB : IntKind.i64.wrap (n' : Int) = (n' : Int) := IntWalk.i64_in _ (by omega)
          have s1 : (0 : Int) ≤ (n : Int) := by omega
          have s2 : (n : Int) ≤ (n' : Int) := by omega
          have s3 : (n' : Int) ≤ (N : Int) := by omega
          have s4 : n' - n = j := by omega
          have s5 : (n' : Int) - (n : Int) = (j : Int) := by omega
          have hNn : ¬ N = n := by omega
          clear hrow
          go_wp2_with fail
          go_region_held3 (fun w' => w'.cell? ⟨w.heap.size, 0, none⟩ = some (.func (.func 107) #[] #[.pointer (some ⟨q, 0, none⟩)]) ∧ w'.cell? ⟨w.heap.size + 1, 2, none⟩ = some (.slice (some ⟨b, off, none⟩) 2 cap) ∧ w'.cell? ⟨b, off + 3, none⟩ = some (.int .i64 k1) ∧ w'.cell? ⟨b, off + 4, none⟩ = some (.int .i64 j) ∧ w'.cell? ⟨b, off + 5, none⟩ = some (.slice a1 m1 c1))
            (first | exact ⟨R0, D2, e3, e4, e5⟩ | exact ⟨(hb.cell (p := ⟨w.heap.size, 0, none⟩) l0).trans R0, (hb.cell (p := ⟨w.heap.size + 1, 2, none⟩) l1).trans D2, (hb.cell (p := ⟨b, off + 3, none⟩) l2).trans e3, (hb.cell (p := ⟨b, off + 4, none⟩) l2).trans e4, (hb.cell (p := ⟨b, off + 5, none⟩) l2).trans e5⟩ | exact ⟨hgrow.cell (a := ⟨w.heap.size, 0, none⟩) ((hb.cell (p := ⟨w.heap.size, 0, none⟩) l0).trans R0) (Ne.symm n1), hgrow.cell (a := ⟨w.heap.size + 1, 2, none⟩) ((hb.cell (p := ⟨w.heap.size + 1, 2, none⟩) l1).trans D2) (Ne.symm n2), hgrow.cell (a := ⟨b, off + 3, none⟩) ((hb.cell (p := ⟨b, off + 3, none⟩) l2).trans e3) (Ne.symm n3), hgrow.cell (a := ⟨b, off + 4, none⟩) ((hb.cell (p := ⟨b, off + 4, none⟩) l2).trans e4) (Ne.symm n3), hgrow.cell (a := ⟨b, off + 5, none⟩) ((hb.cell (p := ⟨b, off + 5, none⟩) l2).trans e5) (Ne.symm n3)⟩ | fail)
            ((first
              | (go_at_call 138; ((with_reducible refine (HC1.out _ _ _ _ (chain HB9.out hb) (HCR.out.below hb) HCL.out).mono ?_); rintro e z1 ⟨a5, cap5, rfl, ho5, hf5, hl5, hc⟩; have hb := chain hb hc; simp only [hDL.out] at ho5 hl5 ⊢; have hR5 := Row.of_own (k := .u64) hDL.out (by omega) hf5 ho5; obtain ⟨b5, o5, rfl, hc5⟩ := hR5.at (by rw [hDL.out]; omega)))
              | (refine step_append_lies _ (by rfl) _ _ 22 (by rfl) wy.heap.size 23 i0 _ 1 8 Tryz.underlying22 hi hz0 hz1 hz2 rfl (by omega) _ n _ (by rfl) (own_later hown.own hb) ⟨b5, o5, none⟩ j cap5 ((dftL (rowL T j i) zb).map (Value.int .u64)) (by rfl) (by rw [List.length_map, hDL.out, Nat.mul_one]) (news_row hc5) (ints_oneCell _ _) (by omega) (by unfold maxLen; omega) (by omega) (by have := hb.size; omega) _ rfl ?_; intro gg cap9 w9 hown' hgrow hat hlt0)
              | fail))
          have hown2 : w9.ownsRow wy.heap.size 23 1 (.slice (some ⟨gg, 0, none⟩) n' cap9) n' ((List.range n').map fun r => Value.int .u64 (nth G r)) := by
            have h := hown'
            rw [rows_join n j (nth G) _ hDL.out HGI.out, hn'] at h
            exact h
          have hnext : Own .u64 23 wy w9 (.slice (some ⟨gg, 0, none⟩) n' cap9) n' (nth G) := ⟨hown2, (chain hown.below hb).grown hgrow (by have := hb.size; omega) (own_lt hown.own)⟩
          have HNX := Lib.hid hnext
          have HNI2 : Hid (n' = (i + 1) * j) := by unfold Hid; rw [← hn', HNI.out, Nat.succ_mul]
          clear R0 D2 e3 e4 e5 hown' hown2 hgrow hat hnext hb hc ho5 hf5 hR5 hc5
          go_wp2_with fail
          go_roundw
          case rel => exact ⟨i + 1, n', by omega, HNI2.out, hnj, by go_num, HNX.out⟩
          case measure => simp [intOf]; omega
        · have hiA : i = A := by omega
          have hnN2 : n = N := by rw [HNI.out, hiA, ← HN.out]
          have hres := (hown.givesO (xs := G) (HGL.out.trans hnN2.symm) HGF.out (fun r hr => rfl) (by omega)).step HBY.out
          have HRES := Lib.hid hres
          clear hown hres
          go_wp2_with fail
          go_ret
          rw [HGG.out]
          exact HRES.out
end Go.Proofs.YtlnlijeamflpiaaGreat

namespace Go.Proofs.YtlnlijeamflpiaaGreat
open Go.RowKit
set_option linter.unusedVariables false
set_option linter.unusedSimpArgs false
set_option maxRecDepth 100000
theorem Row.off {k : IntKind} {w w' : World} {a : Option Addr} {xs : List Int} {p : Nat} (h : Row k w a xs) (hg : w.grownBy w' (some p)) (hne : ∀ b o, a = some ⟨b, o, none⟩ → b ≠ p) : Row k w' a xs := by
  refine ⟨h.len, h.wf, ?_⟩
  rcases h.lies with h1 | ⟨b', off, h1, h2⟩
  · exact Or.inl h1
  · refine Or.inr ⟨b', off, h1, fun i hi => ?_⟩
    exact hg.cell (h2 i hi) (fun e => hne b' off h1 (Option.some.inj e))
set_option maxHeartbeats 2000000 in
theorem clone_ints (a : Option Addr) (n c : Nat) (xs : List Int) (w : World) (hx : Row .i64 w a xs) (hn : xs.length = n) (hl : n ≤ 16777216) (ho : OkCap a n c) :
    Calls Tryz.prog 56 #[.slice a n c] w fun e w' => ∃ a' c', e = .returned (.slice a' n c') ∧ Row .i64 w' a' xs ∧ OkCap a' n c' ∧ (∀ b o, a' = some ⟨b, o, none⟩ → w.heap.size ≤ b ∧ b < w'.heap.size) ∧ Below w.heap.size w w' := by
  have qT : ∀ (w : World) (a : Option Addr) (n c n' c' : Nat), (binOp .eql 44 (.slice a n c) (.slice none n' c')).run Tryz.prog w = .ok (.bool a.isNone) w := fun w a n c n' c' => Lib.run_eql_slice_nil w _ _ a n c n' c' Tryz.underlying44
  obtain ⟨i0, hi, hz0, hz1, hz2⟩ := info_parts info_int
  cases a with
  | none =>
    have h0 : xs = [] := by
      rcases hx.lies with h | ⟨b, o, h, _⟩
      · exact h
      · cases h
    obtain rfl : n = 0 := by rw [← hn, h0]; rfl
    obtain rfl : c = 0 := ho.2 rfl
    subst h0
    clear hx
    go_enter Tryz.func56, Tryz.ntmps56
    go_wp2_with fail
    go_ret
    exact ⟨none, 0, rfl, Row.nil _ _ _, ⟨Nat.le_refl _, fun _ => rfl⟩, fun b o h => (by cases h), Below.refl _ _⟩
  | some ad =>
    have HX := Lib.hid hx
    have HN := Lib.hid hn
    have hown0 : (w.alloc (.cells #[] 3)).ownsRow w.heap.size 3 1 (.slice (some ⟨w.heap.size, 0, none⟩) 0 0) 0 [] := by
      have := World.ownsRow_lit (base := w.heap.size) (e := 3) (size := 1) w #[] 0 (Nat.le_refl _) (by unfold maxLen; omega) (by simp)
      simpa using this
    clear hx hn
    go_enter Tryz.func56, Tryz.ntmps56
    go_wp2_with (at_builtin; refine wpList_append_row rfl _ _ 44 rfl .i64 w.heap.size 3 i0 (.int .i64 0) Tryz.underlying44 hi hz0 hz1 hz2 rfl _ 0 [] rfl hown0 _ _ _ xs rfl HN.out (HX.out.below ((Below.refl _ _).alloc (Nat.le_refl _) _)) ho.2 (by omega) (by simp) ?_)
    intro v' w2 ho2 hg2
    have hbz : Below w.heap.size w w2 := ((Below.refl _ _).alloc (Nat.le_refl _) _).grown hg2 (by simp) (fun k hk => by simp [Value.ownBlock] at hk; omega)
    try rw [Nat.zero_add] at ho2
    obtain ⟨a4, c4, rfl, hca4, hg4⟩ := own_slice2 ho2
    have hr4 : Row .i64 w2 a4 xs := Row.of_own (n := n) (base := w.heap.size) (e := 3) (cap := c4) HN.out (by omega) (fun u hu => HX.out.wf u hu) ho2
    have HO : Hid (∀ b o, a4 = some ⟨b, o, none⟩ → w.heap.size ≤ b ∧ b < w2.heap.size) := fun b o h => ho2.lt b (by rw [h]; rfl)
    have HR4 := Lib.hid hr4
    have HBZ := Lib.hid hbz
    have HCA := Lib.hid hca4
    clear ho2 hg2 hbz hr4 hca4 hg4
    go_wp2_with fail
    go_ret
    exact ⟨a4, c4, rfl, HR4.out, HCA.out, HO.out, HBZ.out⟩
/-- A script's clock lies at the head of block p. -/
abbrev Clk (p : Nat) (l : List Int) (q : Nat) (w : World) : Prop := ClockAt 81 p l q w
set_option maxHeartbeats 2000000 in
theorem tick_New (a : Option Addr) (n c : Nat) (xs : List Int) (w : World) (hx : Row .i64 w a xs) (hn : xs.length = n) (hl : n ≤ 16777216) (ho : OkCap a n c) :
    Calls Tryz.prog 31 #[.slice a n c] w fun e w' => ∃ p, e = .returned (.pointer (some ⟨p, 0, none⟩)) ∧ w.heap.size ≤ p ∧ Clk p xs 0 w' ∧ Below w.heap.size w w' := by
  have CC := Lib.hid (clone_ints a n c xs w hx hn hl ho)
  have HN := Lib.hid hn
  clear hx ho hn
  go_enter Tryz.func31, Tryz.ntmps31
  go_wp2_with fail
  refine CC.out.mono ?_; rintro e w1 ⟨a1, c1, rfl, hr1, ho1, hb1, hbe⟩
  have HR1 := Lib.hid hr1
  have HO1 := Lib.hid ho1
  have HB1 := Lib.hid hb1
  have HBE := Lib.hid hbe
  clear hr1 ho1 hb1 hbe
  go_wp2_with fail
  obtain ⟨W2, hW2, hb2, x2⟩ := box_any w1 #[.slice a1 n c1, .int .i64 0, .int .i64 0] 81
  rw [hW2]
  go_ret
  refine ⟨_, rfl, HBE.out.size, ⟨a1, n, c1, x2, HR1.out.below hb2, by simpa using HN.out, HO1.out.1, fun b o h => ?_, by have := HN.out; omega⟩, chain HBE.out hb2⟩
  have := (HB1.out b o h).2
  omega
theorem Clk.asked {p : Nat} {l : List Int} {q : Nat} {w : World} (h : Clk p l q w) : w.cell? ⟨p, 2, none⟩ = some (.int .i64 q) := by
  obtain ⟨a, m, c, h1, _⟩ := h
  exact block_cell h1 2
set_option maxHeartbeats 1000000 in
theorem tick_Asked (p : Nat) (l : List Int) (q : Nat) (w : World) (h : Clk p l q w) :
    Calls Tryz.prog 34 #[.pointer (some ⟨p, 0, none⟩)] w fun e w' => e = .returned (.int .i64 q) ∧ w = w' := by
  have h2 := Clk.asked h
  clear h
  go_enter Tryz.func34, Tryz.ntmps34
  go_wp2_with fail
  go_ret
  exact ⟨rfl, rfl⟩
end Go.Proofs.YtlnlijeamflpiaaGreat

namespace Go.Proofs.YtlnlijeamflpiaaGreat
open Go.RowKit
set_option linter.unusedVariables false
set_option linter.unusedSimpArgs false
set_option maxRecDepth 100000
theorem drop_cons {l : List Int} {q : Nat} (h : q < l.length) : l.drop q = nth l q :: l.drop (q + 1) := by
  rw [List.drop_eq_getElem_cons h]
  congr 1
  simp [nth, h]
theorem tnow_step {l : List Int} {q : Nat} (h : q < l.length) : tnow l (q + 1) = tstep (tnow l q) (nth l q) := by
  show (if q < l.length then tstep (tnow l q) (nth l q) else tnow l q) = _
  rw [if_pos h]
theorem clk_fin {p : Nat} {l : List Int} {q : Nat} {V : World} {a : Option Addr} {m c : Nat} {s : Int} (x1 : V.heap[p]? = some (.cells #[.slice a m c, .int .i64 s, .int .i64 ((q : Int) + 1)] 81 (0, 0))) (hL : l.length ≤ 9223372036854775807) (a' : Option Addr) (m' c' : Nat) (hr : Row .i64 V a' (l.drop (q + 1))) (hm : (l.drop (q + 1)).length = m') (hc : m' ≤ c') (hne : ∀ b o, a' = some ⟨b, o, none⟩ → b < p) :
    Clk p l (q + 1) ((V.setCell ⟨p, 1, none⟩ (.int .i64 (tnow l (q + 1)))).setCell ⟨p, 0, none⟩ (.slice a' m' c')) ∧ V.grownBy ((V.setCell ⟨p, 1, none⟩ (.int .i64 (tnow l (q + 1)))).setCell ⟨p, 0, none⟩ (.slice a' m' c')) (some p) := by
  have x2 := block_set x1 1 (.int .i64 (tnow l (q + 1)))
  have g2 : V.grownBy (V.setCell ⟨p, 1, none⟩ (.int .i64 (tnow l (q + 1)))) (some p) := set_grown V p 1 _
  have x3 := block_set x2 0 (.slice a' m' c')
  have g3 := set_grown (V.setCell ⟨p, 1, none⟩ (.int .i64 (tnow l (q + 1)))) p 0 (.slice a' m' c')
  refine ⟨⟨a', m', c', ?_, (hr.off g2 (fun b o h => Nat.ne_of_lt (hne b o h))).off g3 (fun b o h => Nat.ne_of_lt (hne b o h)), hm, hc, hne, hL⟩, g2.trans g3⟩
  rw [x3]; simp
set_option maxHeartbeats 4000000 in
theorem tick_Now (p : Nat) (l : List Int) (q : Nat) (w : World) (h : Clk p l q w) (hq : q ≤ 1000000) :
    Calls Tryz.prog 229 #[.pointer (some ⟨p, 0, none⟩)] w fun e w' => e = .returned (.int .i64 (tnow l (q + 1))) ∧ Clk p l (q + 1) w' ∧ w.grownBy w' (some p) := by
  obtain ⟨a, m, c, x0, hr, hm, hmc, hne, hL⟩ := h
  have h0 : w.cell? ⟨p, 0, none⟩ = some (.slice a m c) := block_cell x0 0
  have h1 : w.cell? ⟨p, 1, none⟩ = some (.int .i64 (tnow l q)) := block_cell x0 1
  have h2 : w.cell? ⟨p, 2, none⟩ = some (.int .i64 q) := block_cell x0 2
  have f2 : w.frozen? ⟨p, 2, none⟩ = false := block_free x0 2
  have x1 := block_set x0 2 (.int .i64 ((q : Int) + 1))
  have g1 : w.grownBy (w.setCell ⟨p, 2, none⟩ (.int .i64 ((q : Int) + 1))) (some p) := set_grown w p 2 _
  obtain ⟨W1, hW1⟩ : ∃ W1, w.setCell ⟨p, 2, none⟩ (.int .i64 ((q : Int) + 1)) = W1 := ⟨_, rfl⟩
  rw [hW1] at x1 g1
  have k0 : W1.cell? ⟨p, 0, none⟩ = some (.slice a m c) := block_cell x1 0
  have k1 : W1.cell? ⟨p, 1, none⟩ = some (.int .i64 (tnow l q)) := block_cell x1 1
  have f1 : W1.frozen? ⟨p, 1, none⟩ = false := block_free x1 1
  have e1 : IntKind.i64.wrap ((q : Int) + 1) = (q : Int) + 1 := IntWalk.i64_in _ (by omega)
  have hr1 := hr.off g1 (fun b o h => Nat.ne_of_lt (hne b o h))
  have HW1 := Lib.hid hW1
  have G1 := Lib.hid g1
  have X1 := Lib.hid x1
  have HN := Lib.hid hne
  by_cases hlt : q < l.length
  · have hd := drop_cons hlt
    have hm1 : m = (l.drop (q + 1)).length + 1 := by rw [← hm, hd]; rfl
    rw [hd] at hr1
    obtain ⟨b, off, rfl, hc⟩ := hr1.at (by simp)
    have c0 := hc 0 (by simp)
    rw [Nat.add_zero] at c0
    have hxf := fits_i64.1 (hr1.wf (nth l q) (by simp))
    have hx0 : nth (nth l q :: l.drop (q + 1)) 0 = nth l q := rfl
    rw [hx0] at c0
    have hcut := hr1.cut 1 (l.drop (q + 1)).length.succ
    have hsd : ((nth l q :: l.drop (q + 1)).take (l.drop (q + 1)).length.succ).drop 1 = l.drop (q + 1) := by rw [List.take_of_length_le (by simp)]; rfl
    rw [hsd] at hcut
    have hts := tnow_step hlt
    have htb := tnow_bd l q
    have htb2 := tnow_bd l (q + 1)
    obtain ⟨s, hs⟩ : ∃ s, tnow l q = s := ⟨_, rfl⟩
    obtain ⟨x, hx⟩ : ∃ x, nth l q = x := ⟨_, rfl⟩
    obtain ⟨s', hs'⟩ : ∃ s, tnow l (q + 1) = s := ⟨_, rfl⟩
    rw [hs, hx, hs'] at hts
    rw [hs] at h1 k1 htb x1 X1
    rw [hs'] at htb2 ⊢
    have HSE := Lib.hid hs'
    clear hs'
    rw [hx] at c0 hxf
    unfold tstep at hts
    have hA0 : 0 ≤ max x 0 := by omega
    have hB0 : 0 ≤ min (max x 0) 1152921504606846976 ∧ min (max x 0) 1152921504606846976 ≤ 1152921504606846976 := by omega
    obtain ⟨A, hA⟩ : ∃ A, max x 0 = A := ⟨_, rfl⟩
    rw [hA] at hts hB0
    obtain ⟨B, hB⟩ : ∃ B, min A 1152921504606846976 = B := ⟨_, rfl⟩
    rw [hB] at hts hB0
    have e2 : IntKind.i64.wrap (s + B) = s + B := IntWalk.i64_in _ (by omega)
    have t1 : decide ((m : Int) > 0) = true := decide_eq_true (by omega)
    have t2 : decide (0 < m) = true := decide_eq_true (by omega)
    have gm : (0 : Int) < (m : Int) := by omega
    have gm2 : 0 < m := by omega
    have gm3 : 1 ≤ m := by omega
    have hbp : b < p := hne b off rfl
    have HCUT := Lib.hid hcut
    have HM1 := Lib.hid hm1
    have HTS := Lib.hid hts
    clear hr hr1 hc hd hcut hsd hx0 hs hx hW1 g1 x0 x1 hm hm1 hlt hne hts HN
    go_enter Tryz.func229, Tryz.ntmps229
    go_wp2_with fail
    rw [HW1.out]
    go_wp2_with fail
    go_still_tail 17, (by kernel_rfl)
    change wpList _ _ _ _ _ W1.drew
    have x1 : W1.drew.heap[p]? = _ := X1.out
    have g1 : w.grownBy W1.drew (some p) := ⟨G1.out.os, G1.out.tape, G1.out.output, G1.out.size, G1.out.block⟩
    have hc1 : Row .i64 W1.drew _ _ := HCUT.out.below (Below.refl _ _).drew
    obtain ⟨V, hV⟩ : ∃ V, W1.drew = V := ⟨_, rfl⟩
    rw [hV] at x1 g1 hc1 ⊢
    rw [← HTS.out]
    have l1 : V.cell? ⟨p, 1, none⟩ = some (.int .i64 s) := block_cell x1 1
    have lf1 : V.frozen? ⟨p, 1, none⟩ = false := block_free x1 1
    have l0 : V.cell? ⟨p, 0, none⟩ = some (.slice (some ⟨b, off, none⟩) m c) := block_cell x1 0
    have lf0 : V.frozen? ⟨p, 0, none⟩ = false := block_free x1 0
    have x1' : V.heap[p]? = some (.cells #[.slice (some ⟨b, off, none⟩) m c, .int .i64 s, .int .i64 ((q : Int) + 1)] 81 (0, 0)) := by rw [x1]; simp
    have HA : Hid (Clk p l (q + 1) ((V.setCell ⟨p, 1, none⟩ (.int .i64 s')).setCell ⟨p, 0, none⟩ (.slice (some ⟨b, off + 1, none⟩) (m - 1) (c - 1))) ∧ V.grownBy ((V.setCell ⟨p, 1, none⟩ (.int .i64 s')).setCell ⟨p, 0, none⟩ (.slice (some ⟨b, off + 1, none⟩) (m - 1) (c - 1))) (some p)) := by
      have := clk_fin x1' hL (some ⟨b, off + 1, none⟩) (m - 1) (c - 1) hc1 (by rw [HM1.out]; simp) (by omega) (fun b' o h => by injection h with h; injection h with h; omega)
      rw [HSE.out] at this
      exact this
    have HB : Hid (c = 1 → Clk p l (q + 1) ((V.setCell ⟨p, 1, none⟩ (.int .i64 s')).setCell ⟨p, 0, none⟩ (.slice (some ⟨b, off, none⟩) (m - 1) 0)) ∧ V.grownBy ((V.setCell ⟨p, 1, none⟩ (.int .i64 s')).setCell ⟨p, 0, none⟩ (.slice (some ⟨b, off, none⟩) (m - 1) 0)) (some p)) := fun hc => by
      have h0 : l.drop (q + 1) = [] := List.length_eq_zero_iff.1 (by have := HM1.out; omega)
      have := clk_fin x1' hL (some ⟨b, off, none⟩) (m - 1) 0 (by rw [h0]; exact Row.nil _ _ _) (by rw [HM1.out]; simp) (by omega) (fun b' o h => by injection h with h; injection h with h; omega)
      rw [HSE.out] at this
      exact this
    have G1 := Lib.hid g1
    clear k0 k1 f1 x1 x1' g1 hc1 hV HW1 X1 HCUT HM1 h0 h1 h2 f2
    by_cases hc1 : c = 1
    · go_wp2_with fail
      go_ret
      exact ⟨rfl, (HB.out hc1).1, G1.out.trans (HB.out hc1).2⟩
    · go_wp2_with fail
      go_ret
      exact ⟨rfl, HA.out.1, G1.out.trans HA.out.2⟩
  · have hts := tnow_past l q (by omega)
    have htb := tnow_bd l q
    have hd : l.drop (q + 1) = [] := List.drop_eq_nil_of_le (by omega)
    have hd0 : l.drop q = [] := List.drop_eq_nil_of_le (by omega)
    obtain rfl : m = 0 := by rw [← hm, hd0]; rfl
    rw [hts]
    have HC : Hid (Clk p l (q + 1) W1) := ⟨a, 0, c, by rw [x1, hts]; simp, by rw [hd]; exact Row.nil _ _ _, by rw [hd]; rfl, hmc, hne, hL⟩
    obtain ⟨s, hs⟩ : ∃ s, tnow l q = s := ⟨_, rfl⟩
    rw [hs] at h1 k1 htb ⊢
    clear hr hr1 hs hts hd hd0 hW1 g1 x0 x1 hlt hne HN hm X1
    go_enter Tryz.func229, Tryz.ntmps229
    go_wp2_with fail
    rw [HW1.out]
    go_wp2_with fail
    go_ret
    exact ⟨rfl, HC.out, G1.out⟩
end Go.Proofs.YtlnlijeamflpiaaGreat

namespace Go.Proofs.YtlnlijeamflpiaaGreat
open Go.RowKit
set_option linter.unusedVariables false
set_option linter.unusedSimpArgs false
set_option maxRecDepth 100000
theorem permCoprime_ok (a b : Nat) (w : World) (h : Sides a b) (hg : Nat.gcd a b = 1) :
    Calls Tryz.prog 195 #[.int .i64 a, .int .i64 b] w fun e w' => e = .returned (.int .i64 0) ∧ Below w.heap.size w w' := by
  have H := Lib.hid h
  have HG := Lib.hid hg
  obtain ⟨h1, h2, h3, h4, h5⟩ := h
  clear h5 hg
  go_enter Tryz.func195, Tryz.ntmps195
  go_wp2_with fail
  refine (permSides_yes _ _ _ H.out).mono ?_; rintro e w' ⟨rfl, rfl⟩
  go_wp2_with fail
  refine (factGcd a b _ (by omega) (by omega)).mono ?_
  rintro e w' ⟨rfl, hb⟩
  rw [HG.out]
  go_wp2_with fail
  go_ret
  exact ⟨rfl, hb⟩
theorem crt_bd (a b : Nat) : ∀ x ∈ crtL a b, ∃ t, t < a * b ∧ x = ((invOf (a * b) (crtF a b) t : Nat) : Int) := by
  intro x hx
  obtain ⟨i, hi, rfl⟩ := List.mem_map.1 hx
  exact ⟨i, by simpa using hi, rfl⟩
theorem crtL_len (a b : Nat) : (crtL a b).length = a * b := mapL_len _ _
set_option maxHeartbeats 1600000 in
theorem permCrt_ok (a b : Nat) (w : World) (h : Sides a b) (hg : Nat.gcd a b = 1) :
    Calls Tryz.prog 185 #[.int .i64 a, .int .i64 b] w (GivesRowE .i64 (crtL a b) 0 w) := by
  obtain ⟨i0, hi, hz0, hz1, hz2⟩ := info_parts info_int
  have H := Lib.hid h
  have HG := Lib.hid hg
  obtain ⟨h1, h2, h3, h4, h5⟩ := h
  have hab : a * b ≤ 16777216 := by rw [← Int.natCast_mul] at h5; omega
  have hw : IntKind.i64.wrap ((a : Int) * (b : Int)) = ((a * b : Nat) : Int) := by rw [← Int.natCast_mul]; exact IntWalk.i64_in _ (by omega)
  have HB : Hid (∀ k, k < a * b → crtF a b k < a * b) := fun k hk => crtF_lt a b k hk
  have HL := Lib.hid (crtL_len a b)
  have ha0 : ((a : Int) == 0) = false := bno (by omega)
  have hb0 : ((b : Int) == 0) = false := bno (by omega)
  have ha0' : ¬ (a : Int) = 0 := by omega
  have ha0'' : ¬ a = 0 := by omega
  have hb0' : ¬ (b : Int) = 0 := by omega
  have hb0'' : ¬ b = 0 := by omega
  obtain ⟨N, hN⟩ : ∃ N, a * b = N := ⟨_, rfl⟩
  rw [hN] at hw hab
  have HN := Lib.hid hN
  clear hN h5 hg
  go_enter Tryz.func185, Tryz.ntmps185
  go_wp2_with fail
  refine (permCoprime_ok a b _ H.out HG.out).mono ?_
  rintro e w0 ⟨rfl, hbl⟩
  have HB0 := Lib.hid hbl
  clear hbl
  go_wp2_with (at_make; refine wpList_make_full _ rfl _ _ 44 rfl w0.heap.size 3 i0 (.int .i64 0) 1 Tryz.underlying44 hi hz0 hz1 .i64 .i64 N N N rfl rfl rfl rfl (by rw [hz2]; omega) (by unfold maxLen; omega) (Nat.le_refl _) ?_)
  intro w1 hown0 hgrow0
  have hown := Own.made hown0 hgrow0
  clear hown0 hgrow0
  go_wp2_with fail
  go_loopw [22] (fun i wr => ∃ k : Nat, k ≤ N ∧ i = .int .i64 k ∧ OwnAt .i64 3 w0 wr w0.heap.size N (fun n => if among (mapL N (crtF a b)) k n = 1 then (invOf N (crtF a b) n : Int) else 0)) (fun i _ => N - (intOf i).toNat)
  case atStart => exact ⟨0, Nat.zero_le _, rfl, OwnAt.eq hown (fun n => by rw [among_zero]; rfl)⟩
  case round =>
    obtain ⟨k, hk, rfl, hown⟩ := hrel
    by_cases hlt : k < N
    · have hq := HB.out k (by rw [HN.out]; exact hlt)
      rw [HN.out] at hq
      obtain ⟨x1, x2, y, hx1, hx2, hy⟩ : ∃ x1 x2 y : Nat, k % a = x1 ∧ x1 * b = x2 ∧ k % b = y := ⟨_, _, _, rfl, rfl, rfl⟩
      have e1 : (k : Int).tmod (a : Int) = (x1 : Int) := by rw [Int.tmod_eq_emod_of_nonneg (by omega), ← Int.natCast_emod, hx1]
      have hval : crtF a b k = x2 + y := by unfold crtF; rw [hx1, hx2, hy]
      rw [hval] at hq
      have e2 : IntKind.i64.wrap ((x1 : Int) * (b : Int)) = (x2 : Int) := by rw [← Int.natCast_mul, hx2]; exact IntWalk.i64_in _ (by omega)
      have e3 : (k : Int).tmod (b : Int) = (y : Int) := by rw [Int.tmod_eq_emod_of_nonneg (by omega), ← Int.natCast_emod, hy]
      have e3' : (k : Int) % (b : Int) = (y : Int) := by rw [← Int.natCast_emod, hy]
      have e1' : (k : Int) % (a : Int) = (x1 : Int) := by rw [← Int.natCast_emod, hx1]
      have e4 : IntKind.i64.wrap ((x2 : Int) + (y : Int)) = ((x2 + y : Nat) : Int) := by rw [← Int.natCast_add]; exact IntWalk.i64_in _ (by omega)
      have hnk : nth (mapL N (crtF a b)) k = ((x2 + y : Nat) : Int) := by rw [nth_mapL _ _ _ hlt, hval]
      have hinv : invOf N (crtF a b) (x2 + y) = k := by rw [← hval, ← HN.out]; exact invOf_of _ _ (crtF_inj a b HG.out) k (by rw [HN.out]; exact hlt)
      obtain ⟨m, hm⟩ : ∃ m, x2 + y = m := ⟨_, rfl⟩
      rw [hm] at e4 hq hnk hinv
      have hfz := hown.free m
      have hcell := hown.cell m hq
      have hnext := hown.store m hq (k : Int) (f' := fun n => if among (mapL N (crtF a b)) (k + 1) n = 1 then (invOf N (crtF a b) n : Int) else 0) (by show (if among (mapL N (crtF a b)) (k + 1) m = 1 then (invOf N (crtF a b) m : Int) else 0) = _; rw [among_new _ k m hnk, if_pos rfl, hinv]) (fun j _ hj => by show (if among (mapL N (crtF a b)) (k + 1) j = 1 then (invOf N (crtF a b) j : Int) else 0) = _; rw [among_old _ k j (by rw [hnk]; omega)])
      have HNX := Lib.hid hnext
      have hk0 : (0 : Int) ≤ (k : Int) := by omega
      have ha1 : (1 : Int) ≤ (a : Int) := by omega
      have g1 : (0 : Int) ≤ (m : Int) := by omega
      have g2 : (m : Int) < (N : Int) := by omega
      obtain ⟨z, hz⟩ : ∃ z : Int, (if among (mapL N (crtF a b)) k m = 1 then (invOf N (crtF a b) m : Int) else 0) = z := ⟨_, rfl⟩
      rw [hz] at hcell
      clear hx1 hx2 hy hval hnext hnk hinv hz hown hm
      go_wp2_with fail
      go_still_tail 12, (by kernel_rfl)
      go_wp2_with fail
      go_roundw
      case rel => exact ⟨k + 1, by omega, by go_num, HNX.out.later (Below.refl _ _).drew⟩
      case measure => simp [intOf]; omega
    · have hkn : k = N := by omega
      have hall : ∀ m, m < N → among (mapL N (crtF a b)) k m = 1 := by
        intro m hm
        obtain ⟨i, hi, e⟩ := Fld.onto N (crtF a b) (fun i hi => by have := HB.out i (by rw [HN.out]; exact hi); rw [HN.out] at this; exact this) (fun i j hij hj => crtF_inj a b HG.out i j hij (by rw [HN.out]; exact hj)) m hm
        unfold among
        rw [if_pos ⟨i, by omega, by rw [nth_mapL _ _ _ hi, e]⟩]
      have hrow := OwnAt.row hown (xs := crtL a b) (by rw [HL.out, HN.out]) (fun x hx => by
        obtain ⟨t, ht, rfl⟩ := crt_bd a b x hx
        have := (invOf_lt _ _ (crtF_lt a b) (crtF_inj a b HG.out) t ht).1
        have := HN.out
        exact fits_nat (by omega)) (fun i hi => by
          unfold crtL; rw [nth_mapL _ _ _ (by rw [HN.out]; exact hi), if_pos (hall i hi), HN.out]) hab
      have hb := hown.below
      have HR := Lib.hid hrow
      clear hown hrow hall
      go_wp2_with fail
      go_ret2
      exact ⟨some ⟨w0.heap.size, 0, none⟩, N, by simp [HL.out, HN.out], HR.out, ⟨by simp [HL.out, HN.out], fun h => by cases h⟩, chain HB0.out hb⟩
end Go.Proofs.YtlnlijeamflpiaaGreat

namespace Go.Proofs.YtlnlijeamflpiaaGreat
open Go.RowKit
set_option linter.unusedVariables false
set_option linter.unusedSimpArgs false
set_option maxRecDepth 100000
theorem good1 (i j a b p q : Nat) (w : World) (hcb : w.cell? ⟨p, 0, none⟩ = some (.int .i64 b)) (hca : w.cell? ⟨q, 0, none⟩ = some (.int .i64 a)) (hi : i < a) (hj : j < b) (hab : a * b ≤ 16777216) :
    Calls Tryz.prog 197 #[.int .i64 i, .int .i64 j, .pointer (some ⟨p, 0, none⟩), .pointer (some ⟨q, 0, none⟩)] w fun e w' => e = .returned (.int .i64 (((i * b + j * a) % (a * b) : Nat) : Int)) ∧ w = w' := by
  have m1 : i * b ≤ a * b := Nat.mul_le_mul_right b (by omega)
  have m2 : j * a ≤ a * b := by rw [Nat.mul_comm a b]; exact Nat.mul_le_mul_right a (by omega)
  have hpos : 0 < a * b := Nat.mul_pos (by omega) (by omega)
  have e1 : IntKind.i64.wrap ((i : Int) * (b : Int)) = ((i * b : Nat) : Int) := by rw [← Int.natCast_mul]; exact IntWalk.i64_in _ (by omega)
  have e2 : IntKind.i64.wrap ((j : Int) * (a : Int)) = ((j * a : Nat) : Int) := by rw [← Int.natCast_mul]; exact IntWalk.i64_in _ (by omega)
  have e3 : IntKind.i64.wrap ((a : Int) * (b : Int)) = ((a * b : Nat) : Int) := by rw [← Int.natCast_mul]; exact IntWalk.i64_in _ (by omega)
  have hlt := Nat.mod_lt (i * b + j * a) hpos
  obtain ⟨x, hx⟩ : ∃ x, i * b = x := ⟨_, rfl⟩
  obtain ⟨y, hy⟩ : ∃ y, j * a = y := ⟨_, rfl⟩
  obtain ⟨N, hN⟩ : ∃ N, a * b = N := ⟨_, rfl⟩
  rw [hx] at e1 hlt m1 ⊢
  rw [hy] at e2 hlt m2 ⊢
  rw [hN] at e3 hlt hpos m1 m2 hab ⊢
  obtain ⟨r, hr⟩ : ∃ r, (x + y) % N = r := ⟨_, rfl⟩
  have e4 : IntKind.i64.wrap ((x : Int) + (y : Int)) = ((x + y : Nat) : Int) := by rw [← Int.natCast_add]; exact IntWalk.i64_in _ (by omega)
  have e5 : ((x + y : Nat) : Int).tmod (N : Int) = (r : Int) := by rw [Int.tmod_eq_emod_of_nonneg (by omega), ← Int.natCast_emod, hr]
  have e6 : ((x + y : Nat) : Int) % (N : Int) = (r : Int) := by rw [← Int.natCast_emod, hr]
  have n0 : ((N : Int) == 0) = false := bno (by omega)
  have n1 : ¬ (N : Int) = 0 := by omega
  have n2 : ¬ N = 0 := by omega
  rw [hr] at hlt ⊢
  obtain ⟨z, hz⟩ : ∃ z, x + y = z := ⟨_, rfl⟩
  rw [hz] at e4 e5 e6
  clear hx hy hN hr hz m1 m2
  go_enter Tryz.func197, Tryz.ntmps197
  go_wp2_with fail
  go_ret
  exact ⟨rfl, rfl⟩
theorem gooL_len (a b : Nat) : (gooL a b).length = a * b := mapL_len _ _
set_option maxHeartbeats 400000 in
theorem permGood_ok (a b : Nat) (w : World) (h : Sides a b) (hg : Nat.gcd a b = 1) :
    Calls Tryz.prog 184 #[.int .i64 a, .int .i64 b] w (GivesRowE .i64 (gooL a b) 0 w) := by
  have hent : ∀ args w, (callFunc 197 args).run Tryz.prog w = .ok (.enter 197 args) w := enters_of Tryz.func197 (by kernel_rfl) rfl
  have h' := h
  obtain ⟨h1, h2, h3, h4, h5⟩ := h'
  have hab : a * b ≤ 16777216 := by rw [← Int.natCast_mul] at h5; omega
  have hfit : ∀ i j, i < a → j < b → fits .i64 (((i * b + j * a) % (a * b) : Nat) : Int) := fun i j hi hj => fits_nat (by have := Nat.mod_lt (i * b + j * a) (Nat.mul_pos (show 0 < a by omega) (show 0 < b by omega)); omega)
  have HFT := Lib.hid hfit
  have hg1 : Hid (∀ (i j p q : Nat) (wr : World), i < a → j < b → wr.cell? ⟨p, 0, none⟩ = some (.int .i64 b) → wr.cell? ⟨q, 0, none⟩ = some (.int .i64 a) →
      Calls Tryz.prog 197 (#[.int .i64 i, .int .i64 j] ++ #[.pointer (some ⟨p, 0, none⟩), .pointer (some ⟨q, 0, none⟩)]) wr fun e w' => e = .returned (.int .i64 (((i * b + j * a) % (a * b) : Nat) : Int)) ∧ Below wr.heap.size wr w') :=
    fun i j p q wr hi hj hp hq => (good1 i j a b p q wr hp hq hi hj hab).mono fun e w' ⟨he, hw⟩ => ⟨he, hw ▸ Below.refl _ _⟩
  have H := Lib.hid h
  have HG := Lib.hid hg
  have ca : ((w.alloc (.cells #[.int .i64 a] 3)).alloc (.cells #[.int .i64 b] 3)).cell? ⟨w.heap.size, 0, none⟩ = some (.int .i64 a) := by
    rw [cell_past _ _ _ (by simp)]; exact one_new _ _ _
  have cb : ((w.alloc (.cells #[.int .i64 a] 3)).alloc (.cells #[.int .i64 b] 3)).cell? ⟨w.heap.size + 1, 0, none⟩ = some (.int .i64 b) := cell_new (by simp)
  have hsz : w.heap.size + 1 < ((w.alloc (.cells #[.int .i64 a] 3)).alloc (.cells #[.int .i64 b] 3)).heap.size := by simp
  have hbel : Below w.heap.size w ((w.alloc (.cells #[.int .i64 a] 3)).alloc (.cells #[.int .i64 b] 3)) := ((Below.refl _ _).alloc (Nat.le_refl _) _).alloc (by simp) _
  have CAB := Lib.hid (And.intro ca cb)
  have HSZ := Lib.hid (And.intro hsz hbel)
  clear hfit h h5 hg hsz hbel
  go_enter Tryz.func184, Tryz.ntmps184
  go_wp2_with fail
  refine (permCoprime_ok a b _ H.out HG.out).mono ?_
  rintro e w1 ⟨rfl, hb1⟩
  have ca1 := (hb1.cell (p := ⟨w.heap.size, 0, none⟩) (by have := HSZ.out.1; show w.heap.size < _; omega)).trans CAB.out.1
  have cb1 := (hb1.cell (p := ⟨w.heap.size + 1, 0, none⟩) HSZ.out.1).trans CAB.out.2
  have hs1 : w.heap.size + 1 < w1.heap.size := Nat.lt_of_lt_of_le HSZ.out.1 hb1.size
  have hbl : Below w.heap.size w w1 := HSZ.out.2.trans (hb1.mono (by have := HSZ.out.1; omega))
  have HF : Hid (∀ (i j : Nat) (wr : World), i < a → j < b → Below w1.heap.size w1 wr →
      Calls Tryz.prog 197 (#[.int .i64 i, .int .i64 j] ++ #[.pointer (some ⟨w.heap.size + 1, 0, none⟩), .pointer (some ⟨w.heap.size, 0, none⟩)]) wr fun e w' => e = .returned (.int .i64 (((i * b + j * a) % (a * b) : Nat) : Int)) ∧ Below wr.heap.size wr w') :=
    fun i j wr hi hj hb => hg1.out i j _ _ wr hi hj ((hb.cell (by exact hs1)).trans cb1) ((hb.cell (by show w.heap.size < _; omega)).trans ca1)
  go_wp2_with fail
  refine (permTable a b (fun i j => (((i * b + j * a) % (a * b) : Nat) : Int)) _ _ _ hab (by omega) (by omega) HFT.out hent HF.out).mono ?_
  rintro e w' ⟨a', cap', rfl, hr, hcap, hb⟩
  go_wp2_with fail
  go_ret2
  exact ⟨a', cap', rfl, hr, hcap, chain hbl hb⟩
end Go.Proofs.YtlnlijeamflpiaaGreat

namespace Go.Proofs.YtlnlijeamflpiaaGreat
open Go.RowKit
set_option linter.unusedVariables false
set_option linter.unusedSimpArgs false
set_option maxRecDepth 100000
/-- What stands at the places of an order. -/
def mvL (p xs : List Int) : List Int := (List.range xs.length).map fun i => nth xs (nth p i).toNat
theorem mvL_len (p xs : List Int) : (mvL p xs).length = xs.length := by simp [mvL]
theorem nth_mvL (p xs : List Int) (i : Nat) (h : i < xs.length) : nth (mvL p xs) i = nth xs (nth p i).toNat := nth_ofFn _ _ _ h
theorem range_map_eq (k : IntKind) (xs : List Int) : xs.map (Value.int k) = (List.range xs.length).map fun j => Value.int k (nth xs j) := by
  apply List.ext_getElem (by simp)
  intro i h1 h2
  have : i < xs.length := by simpa using h1
  simp [nth, this]
theorem nth_memL (xs : List Int) (t : Nat) (h : t < xs.length) : nth xs t ∈ xs := by
  have e : nth xs t = xs[t] := by simp [nth, h]
  rw [e]; exact List.getElem_mem h
theorem splice_all {α : Type} (L M : List α) (h : L.length = M.length) : splice L 0 M = M := by
  unfold splice; rw [List.take_zero, List.nil_append, Nat.zero_add, ← h, List.drop_length, List.append_nil]
set_option maxHeartbeats 1600000 in
theorem moved_u64 (a ax : Option Addr) (n m cap capx : Nat) (p xs : List Int) (w : World) (hp : Row .i64 w a p) (hx : Row .u64 w ax xs) (hn : p.length = n) (hm : xs.length = m) (hnm : n = m) (hl : n ≤ 16777216) (hpm : IsPerm p) (hcx : ax = none → capx = 0) :
    Calls Tryz.prog 199 #[.slice a n cap, .slice ax m capx] w (GivesRow .u64 (mvL p xs) w) := by
  subst hn hm
  obtain ⟨i0, hi, hz0, hz1, hz2⟩ := info_parts info_u64
  have HN := Lib.hid hnm
  have HP := Lib.hid hp
  have HX := Lib.hid hx
  have HPM := Lib.hid hpm
  have hfx := hx.wf
  obtain ⟨L, hL⟩ : ∃ L, xs.map (Value.int .u64) = L := ⟨_, rfl⟩
  have HL := Lib.hid hL
  have hLl : L.length = xs.length := by rw [← hL]; simp
  have hl1 : ∀ v ∈ L, v.oneCell' = true := by rw [← hL]; exact ints_oneCell _ _
  have hmin : L.length = Nat.min xs.length xs.length := by rw [hLl]; exact (Nat.min_self _).symm
  have hinfo : (Tryz.prog.info? 23).map (·.size) = some 1 := by rw [hi]; simp [hz1]
  have HF := Lib.hid hfx
  have HL1 := Lib.hid hl1
  have HLL := Lib.hid hLl
  have HMN := Lib.hid hmin
  clear hp hx hpm hL hl1 hLl hmin hfx hnm
  go_enter Tryz.func199, Tryz.ntmps199
  go_wp2_with (at_make; refine wpList_make_full _ rfl _ _ 22 rfl w.heap.size 23 i0 (.int .u64 0) 1 Tryz.underlying22 hi hz0 hz1 .i64 .i64 xs.length xs.length xs.length rfl rfl rfl rfl (by rw [hz2]; have := HN.out; omega) (by unfold maxLen; have := HN.out; omega) (Nat.le_refl _) ?_)
  intro w1 hown0 hgrow0
  have hown := Own.made hown0 hgrow0
  have HH := Lib.hid hown.heap
  have hsrc : Hid (0 < L.length → ((some ⟨w.heap.size, 0, none⟩ : Option Addr) = some ⟨w.heap.size, 0, none⟩ ∧ ∃ ad, ax = some ad ∧ ∀ j v, L[j]? = some v → w1.cell? (ad.add j) = some v)) := fun h0 => by
    obtain ⟨b, off, rfl, hc⟩ := (HX.out.below hown.below).at (by have := HLL.out; omega)
    refine ⟨rfl, _, rfl, fun j v hj => ?_⟩
    have hjl : j < xs.length := by have := (List.getElem?_eq_some_iff.1 hj).1; have := HLL.out; omega
    have h3 := hc j hjl
    rw [← HL.out] at hj
    have h4 : v = .int .u64 (nth xs j) := by
      simp [hjl] at hj
      rw [← hj]; simp [nth, hjl]
    rw [h4, ← h3]
    by_cases hj0 : j = 0
    · subst hj0; simp [Addr.add]
    · simp [Addr.add, hj0]
  have HB1 := Lib.hid hown.below
  clear hown0 hgrow0 hown
  go_wp2_with (refine wpList_copy_splice rfl _ _ 22 22 rfl 23 Tryz.underlying22 hinfo (some ⟨w.heap.size, 0, none⟩) ax xs.length xs.length xs.length capx (by rfl) (by rfl) w.heap.size 0 _ 23 HH.out L HMN.out hsrc.out (by have := HLL.out; simp; omega) HL1.out w.heap.size w HB1.out (Nat.le_refl _) ?_)
  intro w2 HG2 hB2
  have hown : OwnAt .u64 23 w w2 w.heap.size xs.length (fun i => nth xs i) := OwnAt.of_heap (Nat.le_refl _) (by unfold maxLen; have := HN.out; omega) hB2 (by have h := HG2.out; rw [splice_all _ _ (by rw [HLL.out]; simp)] at h; rw [h, ← HL.out, range_map_eq])
  clear HG2 hB2
  go_wp2_with fail
  go_loopw [15] (fun i wr => ∃ k : Nat, k ≤ p.length ∧ i = .int .i64 k ∧ OwnAt .u64 23 w wr w.heap.size xs.length (fun i => if i < k then nth xs (nth p i).toNat else nth xs i)) (fun i _ => p.length - (intOf i).toNat)
  case atStart => exact ⟨0, Nat.zero_le _, rfl, OwnAt.eq hown (fun n => by rw [if_neg (by omega)])⟩
  case round =>
    obtain ⟨k, hk, rfl, hown⟩ := hrel
    by_cases hlt : k < p.length
    · have hlx : k < xs.length := by have := HN.out; omega
      obtain ⟨b, off, rfl, hc⟩ := (HP.out.below hown.below).at (by omega)
      obtain ⟨bx, ox, rfl, hcx'⟩ := (HX.out.below hown.below).at (by omega)
      have hck := hc k hlt
      obtain ⟨m, hm⟩ := Int.eq_ofNat_of_zero_le (HPM.out.1 k hlt).1
      have hmlt : m < xs.length := by have := (HPM.out.1 k hlt).2; have := HN.out; omega
      rw [hm] at hck
      have hcm := hcx' m hmlt
      obtain ⟨z, hz⟩ : ∃ z, nth xs m = z := ⟨_, rfl⟩
      rw [hz] at hcm
      have hcell := hown.cell k hlx
      have hfz := hown.free k
      have hnext := hown.store k hlx z (f' := fun i => if i < k + 1 then nth xs (nth p i).toNat else nth xs i) (by show (if k < k + 1 then nth xs (nth p k).toNat else nth xs k) = _; rw [if_pos (by omega), hm, Int.toNat_natCast, hz]) (fun j _ hj => by show (if j < k + 1 then nth xs (nth p j).toNat else nth xs j) = (if j < k then nth xs (nth p j).toNat else nth xs j); by_cases h : j < k; (rw [if_pos h, if_pos (by omega)]); (rw [if_neg h, if_neg (by omega)]))
      have HNX := Lib.hid hnext
      obtain ⟨y, hy⟩ : ∃ y, (if k < k then nth xs (nth p k).toNat else nth xs k) = y := ⟨_, rfl⟩
      rw [hy] at hcell
      have g1 : (0 : Int) ≤ (m : Int) := by omega
      have g2 : (m : Int) < (xs.length : Int) := by omega
      have g3 : (k : Int) < (xs.length : Int) := by omega
      clear hc hcx' hnext hm hz hy hown
      go_wp2_with fail
      go_roundw
      case rel => exact ⟨k + 1, by omega, by go_num, HNX.out⟩
      case measure => simp [intOf]; omega
    · have hres := hown.gives (xs := mvL p xs) (mvL_len p xs) (fun x hx => by
        obtain ⟨i, hi, rfl⟩ := List.mem_map.1 hx
        have hi' : i < xs.length := by simpa using hi
        have h1 := HPM.out.1 i (by have := HN.out; omega)
        have h2 : (nth p i).toNat < xs.length := by have := HN.out; omega
        exact HF.out _ (nth_memL xs _ h2)) (fun i hi => by have h := HN.out; show _ = (if i < k then nth xs (nth p i).toNat else nth xs i); rw [if_pos (by omega)]; exact nth_mvL _ _ _ hi) (by have := HN.out; omega)
      clear hown
      go_wp2_with fail
      go_ret
      exact hres
end Go.Proofs.YtlnlijeamflpiaaGreat

