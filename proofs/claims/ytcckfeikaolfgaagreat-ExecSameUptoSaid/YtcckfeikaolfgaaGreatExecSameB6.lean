/- The contracts and plain laws that the statement ExecSame needs, part 6 of 8: NeedE NeedF NeedG ConvH ExecA. -/
import Derived.Test.YtcckfeikaolfgaaGreatExecSameB5
namespace Go.Proofs.YtcckfeikaolfgaaGreat
open Go.RowKit
set_option linter.unusedVariables false
set_option linter.unusedSimpArgs false
set_option maxRecDepth 100000
set_option maxRecDepth 20000
theorem info_name : (Tryz.prog.info? 44).map (fun i => (i.zero, i.size, i.bytes)) = some (some (.agg #[.int .i64 0, .int .i64 0, .int .i64 0, .int .i64 0]), 4, 32) := by kernel_rfl
theorem cell_four_new (w : World) (x y z u : Value) (t : TypeId) : ∀ j v, [x, y, z, u][j]? = some v → (w.alloc (.cells #[x, y, z, u] t)).cell? ((⟨w.heap.size, 0, none⟩ : Addr).add j) = some v := by
  intro j v hj
  match j, hj with
  | 0, hj => simp at hj; subst hj; simp [Addr.add]
  | 1, hj => simp at hj; subst hj; simp [Addr.add]
  | 2, hj => simp at hj; subst hj; simp [Addr.add]
  | 3, hj => simp at hj; subst hj; simp [Addr.add]
theorem one_four (x y z u : Int) : ∀ v ∈ [Value.int .i64 x, Value.int .i64 y, Value.int .i64 z, Value.int .i64 u], v.oneCell' = true := by
  intro v hv
  simp at hv
  rcases hv with rfl | rfl | rfl | rfl <;> rfl
/-- The cells of some names. -/
def cellsN (xs : List Nm) : List Value := xs.flatMap fun x => [.int .i64 x.1, .int .i64 x.2.1, .int .i64 x.2.2.1, .int .i64 x.2.2.2]
theorem cellsN_append (xs ys : List Nm) : cellsN (xs ++ ys) = cellsN xs ++ cellsN ys := by simp [cellsN]
/-- What holds when some names have been told to the one who collects. -/
structure TabJ (w0 : World) (bs bm bl B1 : Nat) (pre : List Nm) (W : World) : Prop where
  below : Below w0.heap.size w0 W
  cellS : W.heap[bs]? = some (.cells #[.map (some bm)] 92 (0, 0))
  map : W.heap[bm]? = some (mapObj (cntL pre))
  row : ∃ v, W.heap[bl]? = some (.cells #[v] 40 (0, 0)) ∧ W.ownsRow B1 44 4 v (once pre).length (cellsN (once pre))
  size : B1 ≤ W.heap.size
theorem TabJ.later {w0 : World} {bs bm bl B1 : Nat} {pre : List Nm} {W W' : World} (h : TabJ w0 bs bm bl B1 pre W) (hb : Below W.heap.size W W') : TabJ w0 bs bm bl B1 pre W' := by
  obtain ⟨h1, h2, h3, ⟨v, h4, h5⟩, h6⟩ := h
  exact ⟨h1.trans (hb.mono h1.size), (hb.block _ (block_lt h2)).trans h2, (hb.block _ (block_lt h3)).trans h3, ⟨v, (hb.block _ (block_lt h4)).trans h4, own_later3 h5 hb⟩, Nat.le_trans h6 hb.size⟩
theorem zero_int (W : World) : (zeroValue 3).run Tryz.prog W = .ok (.int .i64 0) W := by kernel_rfl
set_option maxHeartbeats 2000000 in
/-- One more name in the map: what the operations do. -/
theorem map_more {bm : Nat} {pre : List Nm} {V : World} (x : Nm) (hm : V.heap[bm]? = some (mapObj (cntL pre))) :
    ∃ (st : Nat) (V2 : World), (Instr.lookup 92 (.map (some bm)) (nv x) false).run Tryz.prog V = .ok (.int .i64 (pre.count x : Nat)) V ∧
      (Instr.mapEntry 92 (.map (some bm)) (nv x)).run Tryz.prog V = .ok (.tuple #[.int .i64 (pre.count x : Nat), goInt st]) V2 ∧
      (Instr.lookup 92 (.map (some bm)) (nv x) false).run Tryz.prog V2 = .ok (.int .i64 (pre.count x : Nat)) V2 ∧
      (Instr.entryStore 92 (.map (some bm)) (goInt st) (.int .i64 ((pre.count x : Nat) + 1))).run Tryz.prog V2 = .ok () (V2.putObj bm (mapObj (cntL (pre ++ [x])))) ∧
      (Instr.lookup 92 (.map (some bm)) (nv x) false).run Tryz.prog (V2.putObj bm (mapObj (cntL (pre ++ [x])))) = .ok (.int .i64 ((pre.count x : Nat) + 1)) (V2.putObj bm (mapObj (cntL (pre ++ [x])))) ∧
      (∀ b, b ≠ bm → V2.heap[b]? = V.heap[b]?) ∧ V2.heap.size = V.heap.size ∧ Below bm V V2 ∧ V2.putObj bm (mapObj (cntL (pre ++ [x]))) = V.putObj bm (mapObj (cntL (pre ++ [x]))) := by
  have hM := Tryz.underlying92
  have hlt := block_lt hm
  have hkx : isNv (nv x) := ⟨x, rfl⟩
  have hput : ∀ (V2 : World) (o : Obj), (V2.putObj bm o).heap[bm]? = if bm < V2.heap.size then some o else none := fun V2 o => by
    split
    · rename_i h; exact World.putObj_heap_same h
    · rename_i h; rw [Array.getElem?_eq_none]; simp; omega
  by_cases hx : x ∈ pre
  · obtain ⟨j, hj1, hj2, hj3⟩ := cntL_yes hx
    have hjl : j < (cntL pre).length := by rw [cntL_len]; exact hj1
    refine ⟨j, V, ?_, ?_, ?_, ?_, ?_, fun b hb => rfl, rfl, Below.refl _ _, rfl⟩
    · simpa using name_keys.lookup_yes hM hm (cntL_keys pre) hkx (cntL_nodup pre) hj3 false
    · have := name_keys.entry_yes hM hm (cntL_keys pre) hkx (cntL_nodup pre) hj3
      rwa [put_same V bm _ hm] at this
    · simpa using name_keys.lookup_yes hM hm (cntL_keys pre) hkx (cntL_nodup pre) hj3 false
    · have := run_entryStore (P := Tryz.prog) (M := 92) hm j hjl (.int .i64 ((pre.count x : Nat) + 1))
      rwa [← cntL_more hx hj2] at this
    · have hx2 : x ∈ pre ++ [x] := by simp
      obtain ⟨i, hi1, hi2, hi3⟩ := cntL_yes hx2
      have := name_keys.lookup_yes (b := bm) hM (show (V.putObj bm (mapObj (cntL (pre ++ [x])))).heap[bm]? = _ by rw [hput, if_pos hlt]) (cntL_keys _) hkx (cntL_nodup _) hi3 false
      simpa [List.count_append] using this
  · have hc : pre.count x = 0 := List.count_eq_zero.2 hx
    rw [hc]
    have hl2 : (V.putObj bm (mapObj (cntL pre ++ [(nv x, .int .i64 0)]))).heap[bm]? = some (mapObj (cntL pre ++ [(nv x, .int .i64 0)])) := by rw [hput, if_pos hlt]
    have hk2 : ∀ p ∈ cntL pre ++ [(nv x, Value.int .i64 0)], isNv p.1 := fun p hp => by
      rcases List.mem_append.1 hp with h | h
      · exact cntL_keys pre p h
      · simp only [List.mem_singleton] at h; subst h; exact hkx
    have hn2 : ((cntL pre ++ [(nv x, Value.int .i64 0)]).map (·.1)).Nodup := by
      have := cntL_nodup (pre ++ [x])
      rw [cntL_new hx] at this
      simpa using this
    have hpp : (V.putObj bm (mapObj (cntL pre ++ [(nv x, .int .i64 0)]))).putObj bm (mapObj (cntL (pre ++ [x]))) = V.putObj bm (mapObj (cntL (pre ++ [x]))) := by
      simp [World.putObj]
    have hoth : ∀ b, b ≠ bm → (V.putObj bm (mapObj (cntL pre ++ [(nv x, .int .i64 0)]))).heap[b]? = V.heap[b]? := fun b hb => World.putObj_heap_other hb
    have hsz : (V.putObj bm (mapObj (cntL pre ++ [(nv x, .int .i64 0)]))).heap.size = V.heap.size := World.putObj_size
    have hbl : Below bm V (V.putObj bm (mapObj (cntL pre ++ [(nv x, .int .i64 0)]))) := put_below (Below.refl bm V) bm (Nat.le_refl _) _
    have hzz : (((0 : Nat) : Int) + 1) = 1 := by omega
    refine ⟨(cntL pre).length, V.putObj bm (mapObj (cntL pre ++ [(nv x, .int .i64 0)])), ?_, ?_, ?_, ?_, ?_, hoth, hsz, hbl, hpp⟩
    · simpa using name_keys.lookup_no hM hm (cntL_keys pre) hkx zero_int (cntL_no hx) false
    · exact name_keys.entry_no hM hm (cntL_keys pre) hkx zero_int (cntL_no hx)
    · simpa using name_keys.lookup_yes (j := (cntL pre).length) hM hl2 hk2 hkx hn2 (by simp) false
    · have := run_entryStore (P := Tryz.prog) (M := 92) hl2 (cntL pre).length (by simp) (.int .i64 1)
      rw [show (cntL pre ++ [(nv x, Value.int .i64 0)]).modify (cntL pre).length (fun p => (p.1, Value.int .i64 1)) = cntL (pre ++ [x]) by
        rw [cntL_new hx]
        refine List.ext_getElem? fun i => ?_
        rw [List.getElem?_modify]
        by_cases hi : (cntL pre).length = i
        · subst hi; simp
        · simp only [hi, if_false, Option.map_id']
          rcases Nat.lt_or_ge i (cntL pre).length with h | h
          · rw [List.getElem?_append_left h, List.getElem?_append_left h]; simp
          · rw [List.getElem?_eq_none (by simp; omega), List.getElem?_eq_none (by simp; omega)]; rfl] at this
      simpa using this
    · have hx2 : x ∈ pre ++ [x] := by simp
      obtain ⟨i, hi1, hi2, hi3⟩ := cntL_yes hx2
      have := name_keys.lookup_yes (b := bm) hM (show ((V.putObj bm (mapObj (cntL pre ++ [(nv x, .int .i64 0)]))).putObj bm (mapObj (cntL (pre ++ [x])))).heap[bm]? = _ by rw [hput, if_pos (by simpa using hlt)]) (cntL_keys _) hkx (cntL_nodup _) hi3 false
      simpa [List.count_append, hc] using this
theorem own_type {w : World} {B : Nat} {e T : TypeId} {s : Nat} {v : Value} {n b : Nat} {xs : List Value} {cs : Array Value} (h : w.ownsRow B e s v n xs) (hb : w.heap[b]? = some (.cells cs T (0, 0))) (hne : e ≠ T) : v.ownBlock ≠ some b := by
  rcases h.2 with ⟨rfl, _⟩ | ⟨g, cap, cur, rfl, _, hg, _⟩
  · intro e1; cases e1
  · intro e1
    simp only [Value.ownBlock, Option.some.injEq] at e1
    subst e1
    rw [hg] at hb
    simp only [Option.some.injEq, Obj.cells.injEq] at hb
    exact hne hb.2.1
/-- Behind a name that was there already. -/
theorem tab_old {w0 : World} {bs bm bl B1 : Nat} {pre : List Nm} {x : Nm} {W W3 : World} (hJ : TabJ w0 bs bm bl B1 pre W) (hx : x ∈ pre) (hbm : w0.heap.size ≤ bm) (hm1 : bm < B1) (hs : W.heap.size ≤ W3.heap.size) (hos : W3.os = W.os) (htp : W3.tape = W.tape) (hop : W3.output = W.output)
    (h3 : ∀ b, b < W.heap.size → b ≠ bm → W3.heap[b]? = W.heap[b]?) (hm : W3.heap[bm]? = some (mapObj (cntL (pre ++ [x])))) : TabJ w0 bs bm bl B1 (pre ++ [x]) W3 := by
  obtain ⟨h1, h2, h4, ⟨v, h5, h6⟩, h7⟩ := hJ
  have hbs := block_lt h2
  have hbl := block_lt h5
  have n1 : bs ≠ bm := fun e => by rw [e, h4] at h2; cases h2
  have n2 : bl ≠ bm := fun e => by rw [e, h4] at h5; cases h5
  have ho : once (pre ++ [x]) = once pre := by rw [once_snoc, if_pos ((mem_once _ _).2 hx)]
  have hg : W.grownBy W3 (some bm) := ⟨hos, htp, hop, hs, fun b hb hne => h3 b hb (fun e => hne (by rw [e]))⟩
  refine ⟨h1.grown hg h1.size (fun k hk => by cases hk; exact hbm), (h3 _ hbs n1).trans h2, hm, ⟨v, (h3 _ hbl n2).trans h5, ?_⟩, Nat.le_trans h7 hs⟩
  rw [ho]
  exact h6.kept hg (.inr fun e => by have := (h6.lt bm e).1; omega)
set_option maxHeartbeats 4000000 in
theorem tab_call (w0 : World) (bs bm bl B1 : Nat) (h0m : w0.heap.size ≤ bm) (h0l : w0.heap.size ≤ bl) (hmB : bm < B1) (hlB : bl < B1) (hsB : bs < B1) (hB0 : w0.heap.size ≤ B1) (pre : List Nm) (k n m d : Int) (W : World) (hJ : TabJ w0 bs bm bl B1 pre W) (hl : pre.length < 1048576) :
    Calls Tryz.prog 78 #[.agg #[.int .i64 k, .int .i64 n, .int .i64 m, .int .i64 d], .pointer (some ⟨bs, 0, none⟩), .pointer (some ⟨bl, 0, none⟩)] W fun e W' => e = .returned (.tuple #[]) ∧ TabJ w0 bs bm bl B1 (pre ++ [(k, n, m, d)]) W' ∧ KeepsD W W' := by
  obtain ⟨i0, hi, hz0, hz1, hz2⟩ := info_parts info_name
  have hbs := block_lt hJ.cellS
  have hbm := block_lt hJ.map
  obtain ⟨v, hv, hown⟩ := hJ.row
  have hbl := block_lt hv
  have n1 : bs ≠ bm := fun e => by have := hJ.cellS; rw [e, hJ.map] at this; cases this
  have n2 : bl ≠ bm := fun e => by rw [e, hJ.map] at hv; cases hv
  have n3 : bs ≠ bl := fun e => by have := hJ.cellS; rw [e, hv] at this; simp at this
  obtain ⟨W0, hW0, hb0, x0⟩ := box_any W #[.int .i64 k, .int .i64 n, .int .i64 m, .int .i64 d] 44
  have hJ0 := hJ.later hb0
  have hmap : W0.drew.heap[bm]? = some (mapObj (cntL pre)) := hJ0.map
  obtain ⟨st, V2, r1, r2, r3, r4, r5, q1, q2, q3, q4⟩ := map_more (k, n, m, d) hmap
  simp only [nv, goInt] at r1 r2 r3 r4 r5
  obtain ⟨V3, hV3⟩ : ∃ V3, V2.putObj bm (mapObj (cntL (pre ++ [(k, n, m, d)]))) = V3 := ⟨_, rfl⟩
  rw [hV3] at r4 r5 q4
  have hc1 : pre.count (k, n, m, d) ≤ pre.length := List.count_le_length
  have hcn : Hid (pre.count (k, n, m, d) = 0 ↔ (k, n, m, d) ∉ pre) := List.count_eq_zero
  obtain ⟨c, hc⟩ : ∃ c : Int, ((pre.count (k, n, m, d) : Nat) : Int) = c := ⟨_, rfl⟩
  have hc2 : 0 ≤ c := by omega
  have hc3 : c ≤ 1048576 := by omega
  have HCN : Hid (c = 0 ↔ (k, n, m, d) ∉ pre) := by
    unfold Hid
    rw [← hcn.out]; omega
  rw [hc] at r1 r2 r3 r4 r5
  have wc : IntKind.i64.wrap (c + 1) = c + 1 := IntWalk.i64_in _ (by omega)
  have hW3m : V3.heap[bm]? = some (mapObj (cntL (pre ++ [(k, n, m, d)]))) := by rw [q4]; exact World.putObj_heap_same (by show bm < W0.drew.heap.size; exact Nat.lt_of_lt_of_le hbm hb0.size)
  have hW3o : ∀ b, b ≠ bm → V3.heap[b]? = W0.heap[b]? := fun b hb => by rw [q4]; exact World.putObj_heap_other hb
  have hW3s : V3.heap.size = W0.heap.size := by rw [q4]; exact World.putObj_size
  have hW3e : V3.os = W0.os ∧ V3.tape = W0.tape ∧ V3.output = W0.output := by rw [q4]; exact ⟨rfl, rfl, rfl⟩
  have hxl := block_lt x0
  have nx : W.heap.size ≠ bm := by omega
  have s0 := (hb0.block bs hbs).trans hJ.cellS
  have S0 : W0.cell? ⟨bs, 0, none⟩ = some (.map (some bm)) := block_cell s0 0
  have X0 : W0.cell? ⟨W.heap.size, 0, none⟩ = some (.int .i64 k) := block_cell x0 0
  have X1 : W0.cell? ⟨W.heap.size, 1, none⟩ = some (.int .i64 n) := block_cell x0 1
  have X2 : W0.cell? ⟨W.heap.size, 2, none⟩ = some (.int .i64 m) := block_cell x0 2
  have X3 : W0.cell? ⟨W.heap.size, 3, none⟩ = some (.int .i64 d) := block_cell x0 3
  have f2 : ∀ b o, b ≠ bm → V2.cell? ⟨b, o, none⟩ = W0.cell? ⟨b, o, none⟩ := fun b o hb => World.cell?_of_block (q1 b hb)
  have f3 : ∀ b o, b ≠ bm → V3.cell? ⟨b, o, none⟩ = W0.cell? ⟨b, o, none⟩ := fun b o hb => World.cell?_of_block (hW3o b hb)
  have S2 := (f2 bs 0 n1).trans S0
  have Y0 := (f2 W.heap.size 0 nx).trans X0
  have Y1 := (f2 W.heap.size 1 nx).trans X1
  have Y2 := (f2 W.heap.size 2 nx).trans X2
  have Y3 := (f2 W.heap.size 3 nx).trans X3
  have S3 := (f3 bs 0 n1).trans S0
  have Z0 := (f3 W.heap.size 0 nx).trans X0
  have Z1 := (f3 W.heap.size 1 nx).trans X1
  have Z2 := (f3 W.heap.size 2 nx).trans X2
  have Z3 := (f3 W.heap.size 3 nx).trans X3
  have hvb := (hb0.block bl hbl).trans hv
  have L3 : V3.cell? ⟨bl, 0, none⟩ = some v := (f3 bl 0 n2).trans (block_cell hvb 0)
  have HVB : Hid (V3.heap[bl]? = some (.cells #[v] 40 (0, 0))) := (hW3o bl n2).trans hvb
  have HSB : Hid (V3.heap[bs]? = some (.cells #[.map (some bm)] 92 (0, 0))) := (hW3o bs n1).trans s0
  have HJ := Lib.hid hJ
  have HW0 := Lib.hid hW0
  have hlz : bl ≠ W.heap.size := by omega
  have HK3 : Hid (KeepsD W V3) := fun b cs hx => by
    have hbb := block_lt hx
    have hne : b ≠ bm := fun e => by rw [e, hJ.map] at hx; cases hx
    exact (hW3o b hne).trans ((hb0.block b hbb).trans hx)
  have HM3 := Lib.hid hW3m
  have HO3 : Hid (∀ b, b < W.heap.size → b ≠ bm → V3.heap[b]? = W.heap[b]?) := fun b hb hne => (hW3o b hne).trans (hb0.block b hb)
  have HZ3 : Hid (W.heap.size ≤ V3.heap.size ∧ V3.os = W.os ∧ V3.tape = W.tape ∧ V3.output = W.output) := ⟨by rw [hW3s]; exact hb0.size, hW3e.1.trans hb0.os, hW3e.2.1.trans hb0.tape, hW3e.2.2.trans hb0.output⟩
  have hg3 : W.grownBy V3 (some bm) := ⟨HZ3.out.2.1, HZ3.out.2.2.1, HZ3.out.2.2.2, HZ3.out.1, fun b hb hne => HO3.out b hb (fun e => hne (by rw [e]))⟩
  have HOW3 : Hid (V3.ownsRow B1 44 4 v (once pre).length (cellsN (once pre))) := hown.kept hg3 (.inr fun e => by have := (hown.lt bm e).1; omega)
  have HB3 : Hid (Below w0.heap.size w0 V3) := hJ.below.grown hg3 hJ.below.size (fun k hk => by cases hk; exact h0m)
  have HSZ : Hid (B1 ≤ V3.heap.size) := Nat.le_trans hJ.size HZ3.out.1
  have LF : V3.frozen? ⟨bl, 0, none⟩ = false := block_free HVB.out 0
  have hol : (once pre).length ≤ 1048576 := by have := once_len pre; omega
  have hVl : W.heap.size < V3.heap.size := by rw [hW3s]; exact hxl
  have HONE : Hid ((k, n, m, d) ∉ pre → once (pre ++ [(k, n, m, d)]) = once pre ++ [(k, n, m, d)]) := fun h => by rw [once_snoc, if_neg (fun e => h ((mem_once _ _).1 e))]
  obtain ⟨D, hD⟩ : ∃ D, W0.drew = D := ⟨_, rfl⟩
  have HD := Lib.hid hD
  have SD : D.cell? ⟨bs, 0, none⟩ = some (.map (some bm)) := by rw [← hD]; exact S0
  have XD0 : D.cell? ⟨W.heap.size, 0, none⟩ = some (.int .i64 k) := by rw [← hD]; exact X0
  have XD1 : D.cell? ⟨W.heap.size, 1, none⟩ = some (.int .i64 n) := by rw [← hD]; exact X1
  have XD2 : D.cell? ⟨W.heap.size, 2, none⟩ = some (.int .i64 m) := by rw [← hD]; exact X2
  have XD3 : D.cell? ⟨W.heap.size, 3, none⟩ = some (.int .i64 d) := by rw [← hD]; exact X3
  clear hD hV3 q4 q1 q2 q3 hW3m hW3o hW3s hW3e s0 hvb hv hJ hJ0 hmap hown hg3 hc hc1 hcn f2 f3 hW0 hb0 x0
  by_cases hx : (k, n, m, d) ∈ pre
  · have hcne : c ≠ 0 := fun e => HCN.out.1 e hx
    have t1 : (c + 1 == 1) = false := bno (by omega)
    have HX := Lib.hid hx
    clear hx hcne
    go_enter Tryz.func78, Tryz.ntmps78
    go_wp2_with fail
    rw [HW0.out]
    go_region_held3 (fun w' => w'.cell? ⟨bs, 0, none⟩ = some (.map (some bm)) ∧ w'.cell? ⟨W.heap.size, 0, none⟩ = some (.int .i64 k) ∧ w'.cell? ⟨W.heap.size, 1, none⟩ = some (.int .i64 n) ∧ w'.cell? ⟨W.heap.size, 2, none⟩ = some (.int .i64 m) ∧ w'.cell? ⟨W.heap.size, 3, none⟩ = some (.int .i64 d)) (first | exact ⟨S0, X0, X1, X2, X3⟩ | exact ⟨S2, Y0, Y1, Y2, Y3⟩ | exact ⟨S3, Z0, Z1, Z2, Z3⟩) (fail)
    all_goals
      clear r1 r2 r3 r4 S0 X0 X1 X2 X3 S2 Y0 Y1 Y2 Y3
      go_wp2_with fail
      go_end0
      exact ⟨rfl, tab_old HJ.out HX.out h0m hmB HZ3.out.1 HZ3.out.2.1 HZ3.out.2.2.1 HZ3.out.2.2.2 HO3.out HM3.out, HK3.out⟩
  · have hc0 : c = 0 := HCN.out.2 hx
    have t1 : (c + 1 == 1) = true := btrue (by omega)
    have HX := Lib.hid hx
    have hone := HONE.out hx
    have HON := Lib.hid hone
    clear hx hc0 hone
    have LA : (V3.alloc (.cells #[.int .i64 k, .int .i64 n, .int .i64 m, .int .i64 d] 44)).frozen? ⟨bl, 0, none⟩ = false := (frozen_past V3 _ ⟨bl, 0, none⟩ (block_lt HVB.out)).trans LF
    go_enter Tryz.func78, Tryz.ntmps78
    go_wp2_with fail
    rw [HW0.out]
    go_region_held3 (fun w' => w'.cell? ⟨bs, 0, none⟩ = some (.map (some bm)) ∧ w'.cell? ⟨W.heap.size, 0, none⟩ = some (.int .i64 k) ∧ w'.cell? ⟨W.heap.size, 1, none⟩ = some (.int .i64 n) ∧ w'.cell? ⟨W.heap.size, 2, none⟩ = some (.int .i64 m) ∧ w'.cell? ⟨W.heap.size, 3, none⟩ = some (.int .i64 d)) (first | exact ⟨S0, X0, X1, X2, X3⟩ | exact ⟨S2, Y0, Y1, Y2, Y3⟩ | exact ⟨S3, Z0, Z1, Z2, Z3⟩) (fail)
    all_goals
      clear r1 r2 r3 r4 S0 X0 X1 X2 X3 S2 Y0 Y1 Y2 Y3
      go_wp2_with (at_builtin; refine wpList_append_own _ rfl _ _ 40 rfl B1 44 i0 (.agg #[.int .i64 0, .int .i64 0, .int .i64 0, .int .i64 0]) 4 32 Tryz.underlying40 hi hz0 hz1 hz2 rfl (by decide) _ (once pre).length (cellsN (once pre)) rfl (HOW3.out.alloc _) ⟨V3.heap.size, 0, none⟩ 1 1 [.int .i64 k, .int .i64 n, .int .i64 m, .int .i64 d] rfl rfl (cell_four_new _ _ _ _ _ _) (one_four _ _ _ _) (by unfold maxLen; omega) (by omega) (by have := HSZ.out; simp; omega) ?_)
      intro v' w2 hown2 hgrow _
      obtain ⟨a', cap', rfl, hcap', _⟩ := own_slice2 hown2
      have hall : V3.grownBy w2 v.ownBlock := (World.grownBy_alloc V3 _ _).trans hgrow
      have hob : ∀ b, b < B1 → v.ownBlock ≠ some b := fun b hb e => by have := (HOW3.out.lt b e).1; omega
      have hl2 : w2.heap[bl]? = some (.cells #[v] 40 (0, 0)) := (hall.block bl (block_lt HVB.out) (Ne.symm (hob bl hlB))).trans HVB.out
      have hs2 : w2.heap[bs]? = some (.cells #[.map (some bm)] 92 (0, 0)) := (hall.block bs (block_lt HSB.out) (Ne.symm (hob bs hsB))).trans HSB.out
      have hm2 : w2.heap[bm]? = some (mapObj (cntL (pre ++ [(k, n, m, d)]))) := (hall.block bm (block_lt HM3.out) (Ne.symm (hob bm hmB))).trans HM3.out
      have hb2 : Below w0.heap.size w0 w2 := HB3.out.grown hall HB3.out.size (fun k hk => by have := (HOW3.out.lt k hk).1; omega)
      have hlc : w2.cell? ⟨bl, 0, none⟩ = some v := block_cell hl2 0
      have hlf : w2.frozen? ⟨bl, 0, none⟩ = false := block_free hl2 0
      have hsz2 : B1 ≤ w2.heap.size := Nat.le_trans HSZ.out hall.size
      have HFIN : Hid (TabJ w0 bs bm bl B1 (pre ++ [(k, n, m, d)]) (w2.setCell ⟨bl, 0, none⟩ (.slice a' ((once pre).length + 1) cap'))) := by
        refine ⟨hb2.setCell (p := ⟨bl, 0, none⟩) h0l _, ?_, ?_, ⟨.slice a' ((once pre).length + 1) cap', ?_, ?_⟩, by rw [set_size]; exact hsz2⟩
        · rw [set_far _ _ _ _ n3]; exact hs2
        · rw [set_far _ _ _ _ (Ne.symm n2)]; exact hm2
        · exact block_set hl2 0 _
        · rw [HON.out, cellsN_append, List.length_append]
          exact ownsRow_setCell_other (a := ⟨bl, 0, none⟩) hown2 (fun e => by
            have := (hown2.lt bl e).1
            omega) _
      have HKF : Hid (KeepsD W (w2.setCell ⟨bl, 0, none⟩ (.slice a' ((once pre).length + 1) cap'))) := fun b cs hx => by
        have h3 := HK3.out b cs hx
        have hne : b ≠ bl := fun e => by rw [e, HVB.out] at h3; simp at h3
        have hno : v.ownBlock ≠ some b := own_type HOW3.out h3 (by decide)
        rw [set_far _ _ _ _ hne]
        exact (hall.block b (block_lt h3) (Ne.symm hno)).trans h3
      clear hown2 hgrow hall hl2 hs2 hm2 hb2 hob
      go_wp2_with fail
      go_end0
      exact ⟨rfl, HFIN.out, HKF.out⟩
/-- Why tables may not be asked for; 0: they may. -/
def errN (t : Tr) (dir : Int) : Int := if dir ≠ 0 ∧ dir ≠ 1 then 2 else chk t
theorem errN_zero {t : Tr} {dir : Int} (h : errN t dir = 0) : (dir = 0 ∨ dir = 1) ∧ chk t = 0 ∧ namesB t dir = t.names dir := by
  unfold errN at h
  by_cases hd : dir ≠ 0 ∧ dir ≠ 1
  · rw [if_pos hd] at h; omega
  · rw [if_neg hd] at h
    exact ⟨by omega, h, if_neg (fun h2 => h2.elim hd (fun h3 => h3 h))⟩
theorem errN_no {t : Tr} {dir : Int} (h : errN t dir ≠ 0) : namesB t dir = [] := by
  unfold errN at h
  by_cases hd : dir ≠ 0 ∧ dir ≠ 1
  · exact if_pos (.inl hd)
  · rw [if_neg hd] at h
    exact if_pos (.inr h)
/-- A result: names in a new row, and an error's number. -/
def GivesTab (C : Int) (xs : List Nm) (w : World) (e : Ending) (w' : World) : Prop :=
  ∃ a cap, e = .returned (.tuple #[.slice a xs.length cap, .int .i64 C]) ∧ w'.ownsRow w.heap.size 44 4 (.slice a xs.length cap) xs.length (cellsN xs) ∧ Below w.heap.size w w'
theorem own_low {w : World} {B B' : Nat} {e : TypeId} {s : Nat} {v : Value} {n : Nat} {xs : List Value} (h : w.ownsRow B e s v n xs) (hB : B' ≤ B) : w.ownsRow B' e s v n xs := by
  refine ⟨h.1, ?_⟩
  rcases h.2 with ⟨h1, h2⟩ | ⟨g, cap, cur, h1, h2, h3⟩
  · exact .inl ⟨h1, h2⟩
  · exact .inr ⟨g, cap, cur, h1, Nat.le_trans hB h2, h3⟩
theorem tab_boxes (w : World) (T M : TypeId) : ∃ W0, ((w.alloc (.cells #[.slice none 0 0] T)).alloc (.map #[] 0)).alloc (.cells #[.map (some (w.heap.size + 1))] M) = W0 ∧ Below w.heap.size w W0 ∧ W0.heap.size = w.heap.size + 3 ∧
      W0.heap[w.heap.size]? = some (.cells #[.slice none 0 0] T (0, 0)) ∧ W0.heap[w.heap.size + 1]? = some (.map #[] 0) ∧ W0.heap[w.heap.size + 1 + 1]? = some (.cells #[.map (some (w.heap.size + 1))] M (0, 0)) :=
  ⟨_, rfl, (((Below.refl _ _).alloc (Nat.le_refl _) _).alloc (by simp) _).alloc (by simp <;> omega) _, by simp, block_old (by simp <;> omega) (block_old (by simp) (block_new rfl)), block_old (by simp) (block_new (by simp)), block_new (by simp)⟩
set_option maxHeartbeats 4000000 in
theorem need_Tables (t : Tr) (k n : Int) (a : Option Addr) (m cap : Nat) (dir : Int) (w : World) (F : Nat → Prop) (hs : t.size ≤ 4194304) (hT : IsT w F k n a m cap t) :
    Calls Tryz.prog 54 #[.agg #[.int .i64 k, .int .i64 n, .slice a m cap], .int .i64 dir] w (GivesTab (errN t dir) (once (namesB t dir)) w) := by
  have CK : Hid (∀ W, Below w.heap.size w W → Calls Tryz.prog 76 #[.agg #[.int .i64 k, .int .i64 n, .slice a m cap], .int .i64 dir] W fun e w' => e = .returned (.int .i64 (errN t dir)) ∧ Below W.heap.size W w') := fun W hb => need_check t k n a m cap dir W F hs (hT.below hb)
  have HT := Lib.hid hT.lt
  have HS := Lib.hid hs
  have hmm := @run_makeMap Tryz.prog
  have hyes : errN t dir = 0 → (dir = 0 ∨ dir = 1) ∧ chk t = 0 ∧ namesB t dir = t.names dir := errN_zero
  have hno : errN t dir ≠ 0 → namesB t dir = [] := errN_no
  obtain ⟨C, hC⟩ : ∃ C, errN t dir = C := ⟨_, rfl⟩
  rw [hC] at CK hyes hno ⊢
  obtain ⟨W0, hW0, hb0, x0⟩ := box_any w #[.int .i64 k, .int .i64 n, .slice a m cap] 24
  have HW0 := Lib.hid hW0
  have HB := Lib.hid hb0
  have XD := Lib.hid x0
  have D0 : W0.cell? ⟨w.heap.size, 0, none⟩ = some (.int .i64 k) := block_cell x0 0
  have D1 : W0.cell? ⟨w.heap.size, 1, none⟩ = some (.int .i64 n) := block_cell x0 1
  have D2 : W0.cell? ⟨w.heap.size, 2, none⟩ = some (.slice a m cap) := block_cell x0 2
  clear hT hs hC hW0 hb0 x0
  by_cases hc : C = 0
  · subst hc
    obtain ⟨hd, hck, hnm⟩ := hyes rfl
    rw [hnm]
    have hsz : t.size ≤ 60 := (chk_zero.1 hck).1.1
    have CE : Hid (∀ w1 : World, Below w.heap.size w w1 → ∀ W, TabJ w (w1.heap.size + 1 + 1) (w1.heap.size + 1) w1.heap.size (w1.heap.size + 3) [] W → Calls Tryz.prog 77 #[.agg #[.int .i64 k, .int .i64 n, .slice a m cap], .int .i64 dir, .func (.func 78) #[] #[.pointer (some ⟨w1.heap.size + 1 + 1, 0, none⟩), .pointer (some ⟨w1.heap.size, 0, none⟩)]] W (EachEnds (TabJ w (w1.heap.size + 1 + 1) (w1.heap.size + 1) w1.heap.size (w1.heap.size + 3)) ([] ++ t.names dir) W)) :=
      fun w1 hb1 W hJ => need_each _ _ _ w w.heap.size 1048576 _ ⟨fun pre W h => h.below, fun pre W W' h hb => h.later hb, fun pre k n m d W h hl _ => tab_call w _ _ _ _ (by have := hb1.size; omega) hb1.size (by omega) (by omega) (by omega) (by have := hb1.size; omega) pre k n m d W h hl, enters_of Tryz.func78 (by kernel_rfl) rfl⟩ (Nat.le_refl _) 4194304 (by omega) t k n a m cap dir [] W HS.out HT.out (chk_zero.1 hck).2 hd hJ (by simp only [List.length_nil]; omega)
    clear hyes hno hck hnm hd hsz
    go_enter Tryz.func54, Tryz.ntmps54
    go_wp2_with fail
    rw [HW0.out]
    refine (CK.out _ HB.out).mono ?_; rintro e w1 ⟨rfl, hb⟩
    have HB1 := Lib.hid (chain HB.out hb)
    have XD1 := Lib.hid ((hb.block _ (block_lt XD.out)).trans XD.out)
    clear hb D0 D1 D2
    obtain ⟨V, hV, hbV, hsV, v0, v1, v2⟩ := tab_boxes w1 40 92
    have HV := Lib.hid hV
    have HJ : Hid (TabJ w (w1.heap.size + 1 + 1) (w1.heap.size + 1) w1.heap.size (w1.heap.size + 3) [] V) :=
      ⟨chain HB1.out hbV, v2, v1, ⟨_, v0, World.ownsRow_nil _ _ _ _⟩, by rw [hsV]; omega⟩
    have xdl := block_lt XD1.out
    have xdv := (hbV.block _ xdl).trans XD1.out
    have e0 : V.cell? ⟨w.heap.size, 0, none⟩ = some (.int .i64 k) := block_cell xdv 0
    have e1 : V.cell? ⟨w.heap.size, 1, none⟩ = some (.int .i64 n) := block_cell xdv 1
    have e2 : V.cell? ⟨w.heap.size, 2, none⟩ = some (.slice a m cap) := block_cell xdv 2
    rw [← hV] at e0 e1 e2
    have HB1s := HB1.out.size
    clear hV hbV hsV v0 v1 v2 xdv
    go_wp2_with fail
    rw [HV.out]
    refine (CE.out w1 HB1.out _ HJ.out).mono ?_; rintro e w2 ⟨rfl, hj, hk⟩
    rw [List.nil_append] at hj
    obtain ⟨v, hv, hown⟩ := hj.row
    obtain ⟨av, cv, rfl, hcv, _⟩ := own_slice2 hown
    have l0 : w2.cell? ⟨w1.heap.size, 0, none⟩ = some (.slice av (once (t.names dir)).length cv) := block_cell hv 0
    have HOW := Lib.hid (own_low (B' := w.heap.size) hown (by omega))
    have HBE := Lib.hid hj.below
    clear hj hk hv hown e0 e1 e2
    go_wp2_with fail
    go_ret2
    exact ⟨av, cv, rfl, HOW.out, HBE.out⟩
  · have t1 : (C != 0) = true := bdiff hc
    rw [hno hc]
    clear hyes hno
    go_enter Tryz.func54, Tryz.ntmps54
    go_wp2_with fail
    rw [HW0.out]
    refine (CK.out _ HB.out).mono ?_; rintro e w1 ⟨rfl, hb⟩
    have HB1 := Lib.hid (chain HB.out hb)
    clear hb D0 D1 D2
    go_wp2_with fail
    go_ret2
    exact ⟨none, 0, rfl, World.ownsRow_nil _ _ _ _, HB1.out⟩
end Go.Proofs.YtcckfeikaolfgaaGreat

namespace Go.Proofs.YtcckfeikaolfgaaGreat
open Go.RowKit
set_option linter.unusedVariables false
set_option linter.unusedSimpArgs false
set_option maxRecDepth 100000
set_option maxRecDepth 20000
theorem cellsN_one (xs : List Nm) : ∀ u ∈ cellsN xs, u.oneCell' = true := by
  intro u hu
  obtain ⟨x, _, hx⟩ := List.mem_flatMap.1 hu
  exact one_four _ _ _ _ u hx
/-- A result: names in a new row. -/
def GivesN (xs : List Nm) (w : World) (e : Ending) (w' : World) : Prop :=
  ∃ a cap, e = .returned (.slice a xs.length cap) ∧ w'.ownsRow w.heap.size 44 4 (.slice a xs.length cap) xs.length (cellsN xs) ∧ Below w.heap.size w w'
theorem cell_eight_new (w : World) (x y z u x' y' z' u' : Value) (t : TypeId) : ∀ j v, [x, y, z, u, x', y', z', u'][j]? = some v → (w.alloc (.cells #[x, y, z, u, x', y', z', u'] t)).cell? ((⟨w.heap.size, 0, none⟩ : Addr).add j) = some v := by
  intro j v hj
  match j, hj with
  | 0, hj => simp at hj; subst hj; simp [Addr.add]
  | 1, hj => simp at hj; subst hj; simp [Addr.add]
  | 2, hj => simp at hj; subst hj; simp [Addr.add]
  | 3, hj => simp at hj; subst hj; simp [Addr.add]
  | 4, hj => simp at hj; subst hj; simp [Addr.add]
  | 5, hj => simp at hj; subst hj; simp [Addr.add]
  | 6, hj => simp at hj; subst hj; simp [Addr.add]
  | 7, hj => simp at hj; subst hj; simp [Addr.add]
theorem one_eight (x y z u x' y' z' u' : Int) : ∀ v ∈ [Value.int .i64 x, Value.int .i64 y, Value.int .i64 z, Value.int .i64 u, Value.int .i64 x', Value.int .i64 y', Value.int .i64 z', Value.int .i64 u'], v.oneCell' = true := by
  intro v hv
  simp at hv
  rcases hv with rfl | rfl | rfl | rfl | rfl | rfl | rfl | rfl <;> rfl
set_option maxHeartbeats 16000000 in
theorem ref15_All (N : Nat) (hN : N ≤ 1048576) : ∀ (t : Tr) (k n : Int) (a : Option Addr) (m cap : Nat) (dir : Int) (w : World) (F : Nat → Prop), t.size ≤ N → IsT w F k n a m cap t → t.allOk → dir = 0 ∨ dir = 1 →
    Calls Tryz.prog 14 #[.agg #[.int .i64 k, .int .i64 n, .slice a m cap], .int .i64 dir] w (GivesN (t.names dir) w) := by
  obtain ⟨i0, hi, hz0, hz1, hz2⟩ := info_parts info_name
  induction N with
  | zero => intro t k n a m cap dir w F h; have := Tr.size_pos t; omega
  | succ N ih =>
    intro t k n a m cap dir w F hs hT hok hd
    have IH := Lib.hid (ih (by omega))
    clear ih
    have hn := (Tr.allOk_iff t).1 hok
    have HOK := Lib.hid hn.2
    have HT := Lib.hid hT
    have HS := Lib.hid hs
    have hm4 : m ≤ 1048576 := by
      have := Tr.len_le_sizeL t.kids
      rw [Tr.size_kids] at hs
      rw [hT.em]; omega
    have HLEN := Lib.hid hT.em
    have HNM : Hid (t.names dir = nmOwn k n (Tr.kid t.kids 0).num dir ++ Tr.namesL t.kids (nmBelow k dir)) := by unfold Hid; rw [Tr.names_kids, hT.ek, hT.en]
    have hd2 : nmBelow k dir = 0 ∨ nmBelow k dir = 1 := below_dir k dir hd
    obtain ⟨D, hD⟩ : ∃ x, nmBelow k dir = x := ⟨_, rfl⟩
    rw [hD] at hd2
    have hcs := node_cases hn.1
    rw [← hT.ek, ← hT.en, ← hT.em] at hcs
    have hkk : k = 1 ∨ k = 2 ∨ k = 3 ∨ k = 4 ∨ k = 5 ∨ k = 6 ∨ k = 7 := by rcases hcs with h | h | h | h | h | h <;> omega
    have hk0 : k = 7 → 0 < m ∧ ∃ b off, a = some ⟨b, off, none⟩ ∧ b < w.heap.size ∧ w.cell? ⟨b, off + 1, none⟩ = some (.int .i64 (Tr.kid t.kids 0).num) := fun hk7 => by
      have h1 : 0 < m := by rcases hcs with h | h | h | h | h | h <;> omega
      obtain ⟨b, off, e1, h2, h3, _⟩ := hT.knum 0 h1
      exact ⟨h1, b, off, e1, h2, by simpa using h3⟩
    obtain ⟨K0, hK0⟩ : ∃ x, (Tr.kid t.kids 0).num = x := ⟨_, rfl⟩
    rw [hK0, hD] at HNM
    rw [hK0] at hk0
    obtain ⟨own, hown⟩ : ∃ l, nmOwn k n K0 dir = l := ⟨_, rfl⟩
    rw [hown] at HNM
    rw [HNM.out]
    have hol : own.length ≤ 2 := by rw [← hown]; exact Tr.own_len _ _ _ _
    have IHK : Hid (∀ (j : Nat) (hj : j < m) (V : World), Below w.heap.size w V → ∃ b off k' n' a' m' c', a = some ⟨b, off, none⟩ ∧ b < V.heap.size ∧ V.cell? ⟨b, off + j * 3, none⟩ = some (.int .i64 k') ∧ V.cell? ⟨b, off + j * 3 + 1, none⟩ = some (.int .i64 n') ∧ V.cell? ⟨b, off + j * 3 + 2, none⟩ = some (.slice a' m' c') ∧
        ∀ V', Below V.heap.size V V' → Calls Tryz.prog 14 #[.agg #[.int .i64 k', .int .i64 n', .slice a' m' c'], .int .i64 D] V' (GivesN ((Tr.kid t.kids j).names D) V')) := fun j hj V hV => by
      have hj2 : j < t.kids.length := by rw [← HLEN.out]; exact hj
      obtain ⟨b, off, k', n', a', m', c', e1, hF, hbl, h0, h1, h2, hT'⟩ := (HT.out.below hV).kid j hj
      have hsz := Tr.size_kid t j hj2
      exact ⟨b, off, k', n', a', m', c', e1, hbl, h0, h1, h2, fun V' hb => IH.out (Tr.kid t.kids j) k' n' a' m' c' D V' F (by omega) (hT'.below hb) (HOK.out j hj2) hd2⟩
    have HTK : Hid (∀ j, j < m → own ++ Tr.namesL (t.kids.take (j + 1)) D = (own ++ Tr.namesL (t.kids.take j) D) ++ (Tr.kid t.kids j).names D) := fun j hj => by
      rw [Tr.take_kid (by rw [← HLEN.out]; exact hj), Tr.namesL_snoc, List.append_assoc]
    have HBD : Hid (∀ j, j ≤ m → (own ++ Tr.namesL (t.kids.take j) D).length ≤ 2097154) := fun j hj => by
      have h1 := Tr.namesL_len (t.kids.take j) D
      have h2 := Tr.sizeL_take t.kids j
      have h3 := Tr.size_kids t
      rw [List.length_append]; omega
    have HEND : Hid (Tr.namesL (t.kids.take m) D = Tr.namesL t.kids D) := by unfold Hid; rw [List.take_of_length_le (by have := HLEN.out; omega)]
    obtain ⟨W0, hW0, hb0, x0⟩ := box_any w #[.int .i64 k, .int .i64 n, .slice a m cap] 24
    have HW0 := Lib.hid hW0
    have HB := Lib.hid hb0
    have XD := Lib.hid x0
    have hsw := block_lt x0
    have fn := hT.fn
    clear hW0 hb0 x0 hT hs hok hn hcs hK0

    rcases hkk with rfl | rfl | rfl | rfl | rfl | rfl | rfl
    · skip
      have hown : [(1, n, 0, dir)] = own := by rw [← hown]; simp [nmOwn]
      obtain rfl : dir = D := by rw [← hD]; simp [nmBelow]
      clear hk0
      have hown := Lib.hid hown
      have hol2 := hol
      go_enter Tryz.func14, Tryz.ntmps14
      go_wp2_with (at_builtin; refine wpList_append_own _ rfl _ _ 40 rfl w.heap.size 44 i0 (.agg #[.int .i64 0, .int .i64 0, .int .i64 0, .int .i64 0]) 4 32 Tryz.underlying40 hi hz0 hz1 hz2 rfl (by decide) _ 0 [] rfl (World.ownsRow_nil _ _ _ _) ⟨w.heap.size + 1, 0, none⟩ 1 1 [.int .i64 1, .int .i64 n, .int .i64 0, .int .i64 dir] rfl rfl (by have := cell_four_new (w.alloc (.cells #[.int .i64 1, .int .i64 n, .slice a m cap] 24)) (.int .i64 1) (.int .i64 n) (.int .i64 0) (.int .i64 dir) 44; simpa using this) (one_four _ _ _ _) (by unfold maxLen; omega) (by omega) (by simp; omega) ?_)
      intro v' w3 ho3 hg3 _
      obtain ⟨a3, c3, rfl, _, _⟩ := own_slice2 ho3
      have HO1 : Hid (w3.ownsRow w.heap.size 44 4 (.slice a3 1 c3) 1 (cellsN [(1, n, 0, dir)])) := by unfold Hid; simpa [cellsN] using ho3
      have hg4 : (w.alloc (.cells #[.int .i64 1, .int .i64 n, .slice a m cap] 24)).grownBy w3 none := (World.grownBy_alloc _ _ _).trans hg3
      rw [HW0.out] at hg4
      have HB := Lib.hid (HB.out.grown hg4 (by have := HB.out.size; omega) (fun k hk => by cases hk))
      have XD := Lib.hid ((hg4.block _ (block_lt XD.out) (by simp)).trans XD.out)
      clear ho3 hg3 hg4
      have D0 : w3.cell? ⟨w.heap.size, 0, none⟩ = some (.int .i64 1) := block_cell XD.out 0
      have D1 : w3.cell? ⟨w.heap.size, 1, none⟩ = some (.int .i64 n) := block_cell XD.out 1
      have D2 : w3.cell? ⟨w.heap.size, 2, none⟩ = some (.slice a m cap) := block_cell XD.out 2
      go_wp2_with fail
      clear D0 D1 D2
      go_loopw [5, 7] (fun v i wr => ∃ (j L : Nat) (A : Option Addr) (c : Nat), j ≤ m ∧ i = .int .i64 j ∧ v = .slice A L c ∧ Hid (L = (own ++ Tr.namesL (t.kids.take j) dir).length) ∧ L ≤ 2097154 ∧ Hid (wr.ownsRow w.heap.size 44 4 (.slice A L c) L (cellsN (own ++ Tr.namesL (t.kids.take j) dir))) ∧ Hid (Below w.heap.size w wr) ∧ Hid (wr.heap[w.heap.size]? = some (.cells #[.int .i64 1, .int .i64 n, .slice a m cap] 24 (0, 0)))) (fun _ i _ => m - (intOf i).toNat)
      case atStart => exact ⟨0, 1, a3, c3, Nat.zero_le _, rfl, rfl, by unfold Hid; rw [← hown.out]; rfl, by omega, by unfold Hid; rw [← hown.out]; simpa [Tr.namesL] using HO1.out, HB.out, XD.out⟩
      case round =>
        obtain ⟨j, L, A, c, hj, rfl, rfl, HL, hL, HO, HB, XD⟩ := hrel
        have d2 : wr.cell? ⟨w.heap.size, 2, none⟩ = some (.slice a m cap) := block_cell XD.out 2
        by_cases hlt : j < m
        · obtain ⟨b, off, k', n', a', m', c', hab, hbl, h0, h1, h2, hcall⟩ := IHK.out j hlt wr HB.out
          subst hab
          have HCALL := Lib.hid (hcall wr (Below.refl _ _))
          have i0' : (0 : Int) ≤ (j : Int) := by omega
          have i1' : (j : Int) < (m : Int) := by omega
          have HTJ := Lib.hid (HTK.out j hlt)
          have hbd := HBD.out (j + 1) (by omega)
          rw [HTJ.out, List.length_append, ← HL.out] at hbd
          have HBJ := Lib.hid hbd
          have hbs := HB.out.size
          clear hcall hbd
          go_wp2_with fail
          refine HCALL.out.mono ?_; rintro e w2 ⟨a2, c2, rfl, ho2, hb2⟩
          obtain ⟨M, hM⟩ : ∃ M, ((Tr.kid t.kids j).names dir).length = M := ⟨_, rfl⟩
          rw [hM] at ho2 HBJ ⊢
          have HM := Lib.hid hM
          have hLM : L + M ≤ 2097154 := HBJ.out
          have HO2 := Lib.hid ho2
          have HO1 := Lib.hid (own_later3 HO.out hb2)
          have hs2 := hb2.size
          have HBB := Lib.hid (chain HB.out hb2)
          have XX := Lib.hid ((hb2.block _ (block_lt XD.out)).trans XD.out)
          clear hM ho2 hb2 h0 h1 h2 d2
          go_wp2_with (at_builtin; refine wpList_append_two _ rfl _ _ 40 rfl w.heap.size 44 i0 (.agg #[.int .i64 0, .int .i64 0, .int .i64 0, .int .i64 0]) 4 32 Tryz.underlying40 hi hz0 hz1 hz2 rfl (by decide) _ L _ rfl HO1.out _ _ M _ rfl HO2.out (cellsN_one _) (by unfold maxLen; omega) (by omega) (by omega) ?_)
          intro v' w3 ho3 hg3 _
          obtain ⟨a3, c3, rfl, _, _⟩ := own_slice2 ho3
          have HO3 : Hid (w3.ownsRow w.heap.size 44 4 (.slice a3 (L + M) c3) (L + M) (cellsN (own ++ Tr.namesL (t.kids.take (j + 1)) dir))) := by
            unfold Hid
            rw [HTJ.out, cellsN_append (own ++ _)]
            exact ho3
          have HL3 : Hid (L + M = (own ++ Tr.namesL (t.kids.take (j + 1)) dir).length) := by unfold Hid; rw [HTJ.out, List.length_append, ← HL.out, HM.out]
          have HB3 := Lib.hid (HBB.out.grown hg3 (by omega) (own_lt3 HO1.out))
          have XX3 := Lib.hid ((hg3.block _ (block_lt XX.out) (Ne.symm (own_type HO1.out XX.out (by decide)))).trans XX.out)
          clear ho3 hg3
          go_wp2_with fail
          go_roundw
          case rel => exact ⟨j + 1, L + M, a3, c3, by omega, by go_num, rfl, HL3.out, hLM, HO3.out, HB3.out, XX3.out⟩
          case measure => simp [intOf]; omega
        · obtain rfl : j = m := by omega
          have hE : (own ++ Tr.namesL (t.kids.take j) dir) = own ++ Tr.namesL t.kids dir := by rw [HEND.out]
          have HE := Lib.hid hE
          clear hE
          go_wp2_with fail
          go_ret
          refine ⟨A, c, ?_, ?_, HB.out⟩
          · rw [← HE.out, ← HL.out]; rfl
          · rw [← HE.out, ← HL.out]; exact HO.out
    · skip
      have hown : [] = own := by rw [← hown]; simp [nmOwn]
      obtain rfl : dir = D := by rw [← hD]; simp [nmBelow]
      clear hk0
      have hown := Lib.hid hown
      have hol2 := hol
      go_enter Tryz.func14, Tryz.ntmps14
      go_wp2_with fail
      try rw [HW0.out]
      have HO1 : Hid (W0.ownsRow w.heap.size 44 4 (.slice none 0 0) 0 (cellsN [])) := World.ownsRow_nil _ _ _ _
      go_loopw [5, 7] (fun v i wr => ∃ (j L : Nat) (A : Option Addr) (c : Nat), j ≤ m ∧ i = .int .i64 j ∧ v = .slice A L c ∧ Hid (L = (own ++ Tr.namesL (t.kids.take j) dir).length) ∧ L ≤ 2097154 ∧ Hid (wr.ownsRow w.heap.size 44 4 (.slice A L c) L (cellsN (own ++ Tr.namesL (t.kids.take j) dir))) ∧ Hid (Below w.heap.size w wr) ∧ Hid (wr.heap[w.heap.size]? = some (.cells #[.int .i64 2, .int .i64 n, .slice a m cap] 24 (0, 0)))) (fun _ i _ => m - (intOf i).toNat)
      case atStart => exact ⟨0, 0, none, 0, Nat.zero_le _, rfl, rfl, by unfold Hid; rw [← hown.out]; rfl, by omega, by unfold Hid; rw [← hown.out]; simpa [Tr.namesL] using HO1.out, HB.out, XD.out⟩
      case round =>
        obtain ⟨j, L, A, c, hj, rfl, rfl, HL, hL, HO, HB, XD⟩ := hrel
        have d2 : wr.cell? ⟨w.heap.size, 2, none⟩ = some (.slice a m cap) := block_cell XD.out 2
        by_cases hlt : j < m
        · obtain ⟨b, off, k', n', a', m', c', hab, hbl, h0, h1, h2, hcall⟩ := IHK.out j hlt wr HB.out
          subst hab
          have HCALL := Lib.hid (hcall wr (Below.refl _ _))
          have i0' : (0 : Int) ≤ (j : Int) := by omega
          have i1' : (j : Int) < (m : Int) := by omega
          have HTJ := Lib.hid (HTK.out j hlt)
          have hbd := HBD.out (j + 1) (by omega)
          rw [HTJ.out, List.length_append, ← HL.out] at hbd
          have HBJ := Lib.hid hbd
          have hbs := HB.out.size
          clear hcall hbd
          go_wp2_with fail
          refine HCALL.out.mono ?_; rintro e w2 ⟨a2, c2, rfl, ho2, hb2⟩
          obtain ⟨M, hM⟩ : ∃ M, ((Tr.kid t.kids j).names dir).length = M := ⟨_, rfl⟩
          rw [hM] at ho2 HBJ ⊢
          have HM := Lib.hid hM
          have hLM : L + M ≤ 2097154 := HBJ.out
          have HO2 := Lib.hid ho2
          have HO1 := Lib.hid (own_later3 HO.out hb2)
          have hs2 := hb2.size
          have HBB := Lib.hid (chain HB.out hb2)
          have XX := Lib.hid ((hb2.block _ (block_lt XD.out)).trans XD.out)
          clear hM ho2 hb2 h0 h1 h2 d2
          go_wp2_with (at_builtin; refine wpList_append_two _ rfl _ _ 40 rfl w.heap.size 44 i0 (.agg #[.int .i64 0, .int .i64 0, .int .i64 0, .int .i64 0]) 4 32 Tryz.underlying40 hi hz0 hz1 hz2 rfl (by decide) _ L _ rfl HO1.out _ _ M _ rfl HO2.out (cellsN_one _) (by unfold maxLen; omega) (by omega) (by omega) ?_)
          intro v' w3 ho3 hg3 _
          obtain ⟨a3, c3, rfl, _, _⟩ := own_slice2 ho3
          have HO3 : Hid (w3.ownsRow w.heap.size 44 4 (.slice a3 (L + M) c3) (L + M) (cellsN (own ++ Tr.namesL (t.kids.take (j + 1)) dir))) := by
            unfold Hid
            rw [HTJ.out, cellsN_append (own ++ _)]
            exact ho3
          have HL3 : Hid (L + M = (own ++ Tr.namesL (t.kids.take (j + 1)) dir).length) := by unfold Hid; rw [HTJ.out, List.length_append, ← HL.out, HM.out]
          have HB3 := Lib.hid (HBB.out.grown hg3 (by omega) (own_lt3 HO1.out))
          have XX3 := Lib.hid ((hg3.block _ (block_lt XX.out) (Ne.symm (own_type HO1.out XX.out (by decide)))).trans XX.out)
          clear ho3 hg3
          go_wp2_with fail
          go_roundw
          case rel => exact ⟨j + 1, L + M, a3, c3, by omega, by go_num, rfl, HL3.out, hLM, HO3.out, HB3.out, XX3.out⟩
          case measure => simp [intOf]; omega
        · obtain rfl : j = m := by omega
          have hE : (own ++ Tr.namesL (t.kids.take j) dir) = own ++ Tr.namesL t.kids dir := by rw [HEND.out]
          have HE := Lib.hid hE
          clear hE
          go_wp2_with fail
          go_ret
          refine ⟨A, c, ?_, ?_, HB.out⟩
          · rw [← HE.out, ← HL.out]; rfl
          · rw [← HE.out, ← HL.out]; exact HO.out
    · skip
      have hown : [(1, n, 0, dir)] = own := by rw [← hown]; simp [nmOwn]
      obtain rfl : dir = D := by rw [← hD]; simp [nmBelow]
      clear hk0
      have hown := Lib.hid hown
      have hol2 := hol
      go_enter Tryz.func14, Tryz.ntmps14
      go_wp2_with (at_builtin; refine wpList_append_own _ rfl _ _ 40 rfl w.heap.size 44 i0 (.agg #[.int .i64 0, .int .i64 0, .int .i64 0, .int .i64 0]) 4 32 Tryz.underlying40 hi hz0 hz1 hz2 rfl (by decide) _ 0 [] rfl (World.ownsRow_nil _ _ _ _) ⟨w.heap.size + 1, 0, none⟩ 1 1 [.int .i64 1, .int .i64 n, .int .i64 0, .int .i64 dir] rfl rfl (by have := cell_four_new (w.alloc (.cells #[.int .i64 3, .int .i64 n, .slice a m cap] 24)) (.int .i64 1) (.int .i64 n) (.int .i64 0) (.int .i64 dir) 44; simpa using this) (one_four _ _ _ _) (by unfold maxLen; omega) (by omega) (by simp; omega) ?_)
      intro v' w3 ho3 hg3 _
      obtain ⟨a3, c3, rfl, _, _⟩ := own_slice2 ho3
      have HO1 : Hid (w3.ownsRow w.heap.size 44 4 (.slice a3 1 c3) 1 (cellsN [(1, n, 0, dir)])) := by unfold Hid; simpa [cellsN] using ho3
      have hg4 : (w.alloc (.cells #[.int .i64 3, .int .i64 n, .slice a m cap] 24)).grownBy w3 none := (World.grownBy_alloc _ _ _).trans hg3
      rw [HW0.out] at hg4
      have HB := Lib.hid (HB.out.grown hg4 (by have := HB.out.size; omega) (fun k hk => by cases hk))
      have XD := Lib.hid ((hg4.block _ (block_lt XD.out) (by simp)).trans XD.out)
      clear ho3 hg3 hg4
      have D0 : w3.cell? ⟨w.heap.size, 0, none⟩ = some (.int .i64 3) := block_cell XD.out 0
      have D1 : w3.cell? ⟨w.heap.size, 1, none⟩ = some (.int .i64 n) := block_cell XD.out 1
      have D2 : w3.cell? ⟨w.heap.size, 2, none⟩ = some (.slice a m cap) := block_cell XD.out 2
      go_wp2_with fail
      clear D0 D1 D2
      go_loopw [5, 7] (fun v i wr => ∃ (j L : Nat) (A : Option Addr) (c : Nat), j ≤ m ∧ i = .int .i64 j ∧ v = .slice A L c ∧ Hid (L = (own ++ Tr.namesL (t.kids.take j) dir).length) ∧ L ≤ 2097154 ∧ Hid (wr.ownsRow w.heap.size 44 4 (.slice A L c) L (cellsN (own ++ Tr.namesL (t.kids.take j) dir))) ∧ Hid (Below w.heap.size w wr) ∧ Hid (wr.heap[w.heap.size]? = some (.cells #[.int .i64 3, .int .i64 n, .slice a m cap] 24 (0, 0)))) (fun _ i _ => m - (intOf i).toNat)
      case atStart => exact ⟨0, 1, a3, c3, Nat.zero_le _, rfl, rfl, by unfold Hid; rw [← hown.out]; rfl, by omega, by unfold Hid; rw [← hown.out]; simpa [Tr.namesL] using HO1.out, HB.out, XD.out⟩
      case round =>
        obtain ⟨j, L, A, c, hj, rfl, rfl, HL, hL, HO, HB, XD⟩ := hrel
        have d2 : wr.cell? ⟨w.heap.size, 2, none⟩ = some (.slice a m cap) := block_cell XD.out 2
        by_cases hlt : j < m
        · obtain ⟨b, off, k', n', a', m', c', hab, hbl, h0, h1, h2, hcall⟩ := IHK.out j hlt wr HB.out
          subst hab
          have HCALL := Lib.hid (hcall wr (Below.refl _ _))
          have i0' : (0 : Int) ≤ (j : Int) := by omega
          have i1' : (j : Int) < (m : Int) := by omega
          have HTJ := Lib.hid (HTK.out j hlt)
          have hbd := HBD.out (j + 1) (by omega)
          rw [HTJ.out, List.length_append, ← HL.out] at hbd
          have HBJ := Lib.hid hbd
          have hbs := HB.out.size
          clear hcall hbd
          go_wp2_with fail
          refine HCALL.out.mono ?_; rintro e w2 ⟨a2, c2, rfl, ho2, hb2⟩
          obtain ⟨M, hM⟩ : ∃ M, ((Tr.kid t.kids j).names dir).length = M := ⟨_, rfl⟩
          rw [hM] at ho2 HBJ ⊢
          have HM := Lib.hid hM
          have hLM : L + M ≤ 2097154 := HBJ.out
          have HO2 := Lib.hid ho2
          have HO1 := Lib.hid (own_later3 HO.out hb2)
          have hs2 := hb2.size
          have HBB := Lib.hid (chain HB.out hb2)
          have XX := Lib.hid ((hb2.block _ (block_lt XD.out)).trans XD.out)
          clear hM ho2 hb2 h0 h1 h2 d2
          go_wp2_with (at_builtin; refine wpList_append_two _ rfl _ _ 40 rfl w.heap.size 44 i0 (.agg #[.int .i64 0, .int .i64 0, .int .i64 0, .int .i64 0]) 4 32 Tryz.underlying40 hi hz0 hz1 hz2 rfl (by decide) _ L _ rfl HO1.out _ _ M _ rfl HO2.out (cellsN_one _) (by unfold maxLen; omega) (by omega) (by omega) ?_)
          intro v' w3 ho3 hg3 _
          obtain ⟨a3, c3, rfl, _, _⟩ := own_slice2 ho3
          have HO3 : Hid (w3.ownsRow w.heap.size 44 4 (.slice a3 (L + M) c3) (L + M) (cellsN (own ++ Tr.namesL (t.kids.take (j + 1)) dir))) := by
            unfold Hid
            rw [HTJ.out, cellsN_append (own ++ _)]
            exact ho3
          have HL3 : Hid (L + M = (own ++ Tr.namesL (t.kids.take (j + 1)) dir).length) := by unfold Hid; rw [HTJ.out, List.length_append, ← HL.out, HM.out]
          have HB3 := Lib.hid (HBB.out.grown hg3 (by omega) (own_lt3 HO1.out))
          have XX3 := Lib.hid ((hg3.block _ (block_lt XX.out) (Ne.symm (own_type HO1.out XX.out (by decide)))).trans XX.out)
          clear ho3 hg3
          go_wp2_with fail
          go_roundw
          case rel => exact ⟨j + 1, L + M, a3, c3, by omega, by go_num, rfl, HL3.out, hLM, HO3.out, HB3.out, XX3.out⟩
          case measure => simp [intOf]; omega
        · obtain rfl : j = m := by omega
          have hE : (own ++ Tr.namesL (t.kids.take j) dir) = own ++ Tr.namesL t.kids dir := by rw [HEND.out]
          have HE := Lib.hid hE
          clear hE
          go_wp2_with fail
          go_ret
          refine ⟨A, c, ?_, ?_, HB.out⟩
          · rw [← HE.out, ← HL.out]; rfl
          · rw [← HE.out, ← HL.out]; exact HO.out
    · skip
      have hown : [(1, n, 0, dir)] = own := by rw [← hown]; simp [nmOwn]
      obtain rfl : dir = D := by rw [← hD]; simp [nmBelow]
      clear hk0
      have hown := Lib.hid hown
      have hol2 := hol
      go_enter Tryz.func14, Tryz.ntmps14
      go_wp2_with (at_builtin; refine wpList_append_own _ rfl _ _ 40 rfl w.heap.size 44 i0 (.agg #[.int .i64 0, .int .i64 0, .int .i64 0, .int .i64 0]) 4 32 Tryz.underlying40 hi hz0 hz1 hz2 rfl (by decide) _ 0 [] rfl (World.ownsRow_nil _ _ _ _) ⟨w.heap.size + 1, 0, none⟩ 1 1 [.int .i64 1, .int .i64 n, .int .i64 0, .int .i64 dir] rfl rfl (by have := cell_four_new (w.alloc (.cells #[.int .i64 4, .int .i64 n, .slice a m cap] 24)) (.int .i64 1) (.int .i64 n) (.int .i64 0) (.int .i64 dir) 44; simpa using this) (one_four _ _ _ _) (by unfold maxLen; omega) (by omega) (by simp; omega) ?_)
      intro v' w3 ho3 hg3 _
      obtain ⟨a3, c3, rfl, _, _⟩ := own_slice2 ho3
      have HO1 : Hid (w3.ownsRow w.heap.size 44 4 (.slice a3 1 c3) 1 (cellsN [(1, n, 0, dir)])) := by unfold Hid; simpa [cellsN] using ho3
      have hg4 : (w.alloc (.cells #[.int .i64 4, .int .i64 n, .slice a m cap] 24)).grownBy w3 none := (World.grownBy_alloc _ _ _).trans hg3
      rw [HW0.out] at hg4
      have HB := Lib.hid (HB.out.grown hg4 (by have := HB.out.size; omega) (fun k hk => by cases hk))
      have XD := Lib.hid ((hg4.block _ (block_lt XD.out) (by simp)).trans XD.out)
      clear ho3 hg3 hg4
      have D0 : w3.cell? ⟨w.heap.size, 0, none⟩ = some (.int .i64 4) := block_cell XD.out 0
      have D1 : w3.cell? ⟨w.heap.size, 1, none⟩ = some (.int .i64 n) := block_cell XD.out 1
      have D2 : w3.cell? ⟨w.heap.size, 2, none⟩ = some (.slice a m cap) := block_cell XD.out 2
      go_wp2_with fail
      clear D0 D1 D2
      go_loopw [5, 7] (fun v i wr => ∃ (j L : Nat) (A : Option Addr) (c : Nat), j ≤ m ∧ i = .int .i64 j ∧ v = .slice A L c ∧ Hid (L = (own ++ Tr.namesL (t.kids.take j) dir).length) ∧ L ≤ 2097154 ∧ Hid (wr.ownsRow w.heap.size 44 4 (.slice A L c) L (cellsN (own ++ Tr.namesL (t.kids.take j) dir))) ∧ Hid (Below w.heap.size w wr) ∧ Hid (wr.heap[w.heap.size]? = some (.cells #[.int .i64 4, .int .i64 n, .slice a m cap] 24 (0, 0)))) (fun _ i _ => m - (intOf i).toNat)
      case atStart => exact ⟨0, 1, a3, c3, Nat.zero_le _, rfl, rfl, by unfold Hid; rw [← hown.out]; rfl, by omega, by unfold Hid; rw [← hown.out]; simpa [Tr.namesL] using HO1.out, HB.out, XD.out⟩
      case round =>
        obtain ⟨j, L, A, c, hj, rfl, rfl, HL, hL, HO, HB, XD⟩ := hrel
        have d2 : wr.cell? ⟨w.heap.size, 2, none⟩ = some (.slice a m cap) := block_cell XD.out 2
        by_cases hlt : j < m
        · obtain ⟨b, off, k', n', a', m', c', hab, hbl, h0, h1, h2, hcall⟩ := IHK.out j hlt wr HB.out
          subst hab
          have HCALL := Lib.hid (hcall wr (Below.refl _ _))
          have i0' : (0 : Int) ≤ (j : Int) := by omega
          have i1' : (j : Int) < (m : Int) := by omega
          have HTJ := Lib.hid (HTK.out j hlt)
          have hbd := HBD.out (j + 1) (by omega)
          rw [HTJ.out, List.length_append, ← HL.out] at hbd
          have HBJ := Lib.hid hbd
          have hbs := HB.out.size
          clear hcall hbd
          go_wp2_with fail
          refine HCALL.out.mono ?_; rintro e w2 ⟨a2, c2, rfl, ho2, hb2⟩
          obtain ⟨M, hM⟩ : ∃ M, ((Tr.kid t.kids j).names dir).length = M := ⟨_, rfl⟩
          rw [hM] at ho2 HBJ ⊢
          have HM := Lib.hid hM
          have hLM : L + M ≤ 2097154 := HBJ.out
          have HO2 := Lib.hid ho2
          have HO1 := Lib.hid (own_later3 HO.out hb2)
          have hs2 := hb2.size
          have HBB := Lib.hid (chain HB.out hb2)
          have XX := Lib.hid ((hb2.block _ (block_lt XD.out)).trans XD.out)
          clear hM ho2 hb2 h0 h1 h2 d2
          go_wp2_with (at_builtin; refine wpList_append_two _ rfl _ _ 40 rfl w.heap.size 44 i0 (.agg #[.int .i64 0, .int .i64 0, .int .i64 0, .int .i64 0]) 4 32 Tryz.underlying40 hi hz0 hz1 hz2 rfl (by decide) _ L _ rfl HO1.out _ _ M _ rfl HO2.out (cellsN_one _) (by unfold maxLen; omega) (by omega) (by omega) ?_)
          intro v' w3 ho3 hg3 _
          obtain ⟨a3, c3, rfl, _, _⟩ := own_slice2 ho3
          have HO3 : Hid (w3.ownsRow w.heap.size 44 4 (.slice a3 (L + M) c3) (L + M) (cellsN (own ++ Tr.namesL (t.kids.take (j + 1)) dir))) := by
            unfold Hid
            rw [HTJ.out, cellsN_append (own ++ _)]
            exact ho3
          have HL3 : Hid (L + M = (own ++ Tr.namesL (t.kids.take (j + 1)) dir).length) := by unfold Hid; rw [HTJ.out, List.length_append, ← HL.out, HM.out]
          have HB3 := Lib.hid (HBB.out.grown hg3 (by omega) (own_lt3 HO1.out))
          have XX3 := Lib.hid ((hg3.block _ (block_lt XX.out) (Ne.symm (own_type HO1.out XX.out (by decide)))).trans XX.out)
          clear ho3 hg3
          go_wp2_with fail
          go_roundw
          case rel => exact ⟨j + 1, L + M, a3, c3, by omega, by go_num, rfl, HL3.out, hLM, HO3.out, HB3.out, XX3.out⟩
          case measure => simp [intOf]; omega
        · obtain rfl : j = m := by omega
          have hE : (own ++ Tr.namesL (t.kids.take j) dir) = own ++ Tr.namesL t.kids dir := by rw [HEND.out]
          have HE := Lib.hid hE
          clear hE
          go_wp2_with fail
          go_ret
          refine ⟨A, c, ?_, ?_, HB.out⟩
          · rw [← HE.out, ← HL.out]; rfl
          · rw [← HE.out, ← HL.out]; exact HO.out
    · skip
      have hown : [] = own := by rw [← hown]; simp [nmOwn]
      obtain rfl : dir = D := by rw [← hD]; simp [nmBelow]
      clear hk0
      have hown := Lib.hid hown
      have hol2 := hol
      go_enter Tryz.func14, Tryz.ntmps14
      go_wp2_with fail
      try rw [HW0.out]
      have HO1 : Hid (W0.ownsRow w.heap.size 44 4 (.slice none 0 0) 0 (cellsN [])) := World.ownsRow_nil _ _ _ _
      go_loopw [5, 7] (fun v i wr => ∃ (j L : Nat) (A : Option Addr) (c : Nat), j ≤ m ∧ i = .int .i64 j ∧ v = .slice A L c ∧ Hid (L = (own ++ Tr.namesL (t.kids.take j) dir).length) ∧ L ≤ 2097154 ∧ Hid (wr.ownsRow w.heap.size 44 4 (.slice A L c) L (cellsN (own ++ Tr.namesL (t.kids.take j) dir))) ∧ Hid (Below w.heap.size w wr) ∧ Hid (wr.heap[w.heap.size]? = some (.cells #[.int .i64 5, .int .i64 n, .slice a m cap] 24 (0, 0)))) (fun _ i _ => m - (intOf i).toNat)
      case atStart => exact ⟨0, 0, none, 0, Nat.zero_le _, rfl, rfl, by unfold Hid; rw [← hown.out]; rfl, by omega, by unfold Hid; rw [← hown.out]; simpa [Tr.namesL] using HO1.out, HB.out, XD.out⟩
      case round =>
        obtain ⟨j, L, A, c, hj, rfl, rfl, HL, hL, HO, HB, XD⟩ := hrel
        have d2 : wr.cell? ⟨w.heap.size, 2, none⟩ = some (.slice a m cap) := block_cell XD.out 2
        by_cases hlt : j < m
        · obtain ⟨b, off, k', n', a', m', c', hab, hbl, h0, h1, h2, hcall⟩ := IHK.out j hlt wr HB.out
          subst hab
          have HCALL := Lib.hid (hcall wr (Below.refl _ _))
          have i0' : (0 : Int) ≤ (j : Int) := by omega
          have i1' : (j : Int) < (m : Int) := by omega
          have HTJ := Lib.hid (HTK.out j hlt)
          have hbd := HBD.out (j + 1) (by omega)
          rw [HTJ.out, List.length_append, ← HL.out] at hbd
          have HBJ := Lib.hid hbd
          have hbs := HB.out.size
          clear hcall hbd
          go_wp2_with fail
          refine HCALL.out.mono ?_; rintro e w2 ⟨a2, c2, rfl, ho2, hb2⟩
          obtain ⟨M, hM⟩ : ∃ M, ((Tr.kid t.kids j).names dir).length = M := ⟨_, rfl⟩
          rw [hM] at ho2 HBJ ⊢
          have HM := Lib.hid hM
          have hLM : L + M ≤ 2097154 := HBJ.out
          have HO2 := Lib.hid ho2
          have HO1 := Lib.hid (own_later3 HO.out hb2)
          have hs2 := hb2.size
          have HBB := Lib.hid (chain HB.out hb2)
          have XX := Lib.hid ((hb2.block _ (block_lt XD.out)).trans XD.out)
          clear hM ho2 hb2 h0 h1 h2 d2
          go_wp2_with (at_builtin; refine wpList_append_two _ rfl _ _ 40 rfl w.heap.size 44 i0 (.agg #[.int .i64 0, .int .i64 0, .int .i64 0, .int .i64 0]) 4 32 Tryz.underlying40 hi hz0 hz1 hz2 rfl (by decide) _ L _ rfl HO1.out _ _ M _ rfl HO2.out (cellsN_one _) (by unfold maxLen; omega) (by omega) (by omega) ?_)
          intro v' w3 ho3 hg3 _
          obtain ⟨a3, c3, rfl, _, _⟩ := own_slice2 ho3
          have HO3 : Hid (w3.ownsRow w.heap.size 44 4 (.slice a3 (L + M) c3) (L + M) (cellsN (own ++ Tr.namesL (t.kids.take (j + 1)) dir))) := by
            unfold Hid
            rw [HTJ.out, cellsN_append (own ++ _)]
            exact ho3
          have HL3 : Hid (L + M = (own ++ Tr.namesL (t.kids.take (j + 1)) dir).length) := by unfold Hid; rw [HTJ.out, List.length_append, ← HL.out, HM.out]
          have HB3 := Lib.hid (HBB.out.grown hg3 (by omega) (own_lt3 HO1.out))
          have XX3 := Lib.hid ((hg3.block _ (block_lt XX.out) (Ne.symm (own_type HO1.out XX.out (by decide)))).trans XX.out)
          clear ho3 hg3
          go_wp2_with fail
          go_roundw
          case rel => exact ⟨j + 1, L + M, a3, c3, by omega, by go_num, rfl, HL3.out, hLM, HO3.out, HB3.out, XX3.out⟩
          case measure => simp [intOf]; omega
        · obtain rfl : j = m := by omega
          have hE : (own ++ Tr.namesL (t.kids.take j) dir) = own ++ Tr.namesL t.kids dir := by rw [HEND.out]
          have HE := Lib.hid hE
          clear hE
          go_wp2_with fail
          go_ret
          refine ⟨A, c, ?_, ?_, HB.out⟩
          · rw [← HE.out, ← HL.out]; rfl
          · rw [← HE.out, ← HL.out]; exact HO.out
    · skip
      have hown : [(3, n, 0, dir)] = own := by rw [← hown]; simp [nmOwn]
      obtain rfl : D = 0 := by rw [← hD]; simp [nmBelow]
      clear hk0
      have hown := Lib.hid hown
      have hol2 := hol
      go_enter Tryz.func14, Tryz.ntmps14
      go_wp2_with (at_builtin; refine wpList_append_own _ rfl _ _ 40 rfl w.heap.size 44 i0 (.agg #[.int .i64 0, .int .i64 0, .int .i64 0, .int .i64 0]) 4 32 Tryz.underlying40 hi hz0 hz1 hz2 rfl (by decide) _ 0 [] rfl (World.ownsRow_nil _ _ _ _) ⟨w.heap.size + 1, 0, none⟩ 1 1 [.int .i64 3, .int .i64 n, .int .i64 0, .int .i64 dir] rfl rfl (by have := cell_four_new (w.alloc (.cells #[.int .i64 6, .int .i64 n, .slice a m cap] 24)) (.int .i64 3) (.int .i64 n) (.int .i64 0) (.int .i64 dir) 44; simpa using this) (one_four _ _ _ _) (by unfold maxLen; omega) (by omega) (by simp; omega) ?_)
      intro v' w3 ho3 hg3 _
      obtain ⟨a3, c3, rfl, _, _⟩ := own_slice2 ho3
      have HO1 : Hid (w3.ownsRow w.heap.size 44 4 (.slice a3 1 c3) 1 (cellsN [(3, n, 0, dir)])) := by unfold Hid; simpa [cellsN] using ho3
      have hg4 : (w.alloc (.cells #[.int .i64 6, .int .i64 n, .slice a m cap] 24)).grownBy w3 none := (World.grownBy_alloc _ _ _).trans hg3
      rw [HW0.out] at hg4
      have HB := Lib.hid (HB.out.grown hg4 (by have := HB.out.size; omega) (fun k hk => by cases hk))
      have XD := Lib.hid ((hg4.block _ (block_lt XD.out) (by simp)).trans XD.out)
      clear ho3 hg3 hg4
      have D0 : w3.cell? ⟨w.heap.size, 0, none⟩ = some (.int .i64 6) := block_cell XD.out 0
      have D1 : w3.cell? ⟨w.heap.size, 1, none⟩ = some (.int .i64 n) := block_cell XD.out 1
      have D2 : w3.cell? ⟨w.heap.size, 2, none⟩ = some (.slice a m cap) := block_cell XD.out 2
      go_wp2_with fail
      clear D0 D1 D2
      go_loopw [5, 7] (fun v i wr => ∃ (j L : Nat) (A : Option Addr) (c : Nat), j ≤ m ∧ i = .int .i64 j ∧ v = .slice A L c ∧ Hid (L = (own ++ Tr.namesL (t.kids.take j) 0).length) ∧ L ≤ 2097154 ∧ Hid (wr.ownsRow w.heap.size 44 4 (.slice A L c) L (cellsN (own ++ Tr.namesL (t.kids.take j) 0))) ∧ Hid (Below w.heap.size w wr) ∧ Hid (wr.heap[w.heap.size]? = some (.cells #[.int .i64 6, .int .i64 n, .slice a m cap] 24 (0, 0)))) (fun _ i _ => m - (intOf i).toNat)
      case atStart => exact ⟨0, 1, a3, c3, Nat.zero_le _, rfl, rfl, by unfold Hid; rw [← hown.out]; rfl, by omega, by unfold Hid; rw [← hown.out]; simpa [Tr.namesL] using HO1.out, HB.out, XD.out⟩
      case round =>
        obtain ⟨j, L, A, c, hj, rfl, rfl, HL, hL, HO, HB, XD⟩ := hrel
        have d2 : wr.cell? ⟨w.heap.size, 2, none⟩ = some (.slice a m cap) := block_cell XD.out 2
        by_cases hlt : j < m
        · obtain ⟨b, off, k', n', a', m', c', hab, hbl, h0, h1, h2, hcall⟩ := IHK.out j hlt wr HB.out
          subst hab
          have HCALL := Lib.hid (hcall wr (Below.refl _ _))
          have i0' : (0 : Int) ≤ (j : Int) := by omega
          have i1' : (j : Int) < (m : Int) := by omega
          have HTJ := Lib.hid (HTK.out j hlt)
          have hbd := HBD.out (j + 1) (by omega)
          rw [HTJ.out, List.length_append, ← HL.out] at hbd
          have HBJ := Lib.hid hbd
          have hbs := HB.out.size
          clear hcall hbd
          go_wp2_with fail
          refine HCALL.out.mono ?_; rintro e w2 ⟨a2, c2, rfl, ho2, hb2⟩
          obtain ⟨M, hM⟩ : ∃ M, ((Tr.kid t.kids j).names 0).length = M := ⟨_, rfl⟩
          rw [hM] at ho2 HBJ ⊢
          have HM := Lib.hid hM
          have hLM : L + M ≤ 2097154 := HBJ.out
          have HO2 := Lib.hid ho2
          have HO1 := Lib.hid (own_later3 HO.out hb2)
          have hs2 := hb2.size
          have HBB := Lib.hid (chain HB.out hb2)
          have XX := Lib.hid ((hb2.block _ (block_lt XD.out)).trans XD.out)
          clear hM ho2 hb2 h0 h1 h2 d2
          go_wp2_with (at_builtin; refine wpList_append_two _ rfl _ _ 40 rfl w.heap.size 44 i0 (.agg #[.int .i64 0, .int .i64 0, .int .i64 0, .int .i64 0]) 4 32 Tryz.underlying40 hi hz0 hz1 hz2 rfl (by decide) _ L _ rfl HO1.out _ _ M _ rfl HO2.out (cellsN_one _) (by unfold maxLen; omega) (by omega) (by omega) ?_)
          intro v' w3 ho3 hg3 _
          obtain ⟨a3, c3, rfl, _, _⟩ := own_slice2 ho3
          have HO3 : Hid (w3.ownsRow w.heap.size 44 4 (.slice a3 (L + M) c3) (L + M) (cellsN (own ++ Tr.namesL (t.kids.take (j + 1)) 0))) := by
            unfold Hid
            rw [HTJ.out, cellsN_append (own ++ _)]
            exact ho3
          have HL3 : Hid (L + M = (own ++ Tr.namesL (t.kids.take (j + 1)) 0).length) := by unfold Hid; rw [HTJ.out, List.length_append, ← HL.out, HM.out]
          have HB3 := Lib.hid (HBB.out.grown hg3 (by omega) (own_lt3 HO1.out))
          have XX3 := Lib.hid ((hg3.block _ (block_lt XX.out) (Ne.symm (own_type HO1.out XX.out (by decide)))).trans XX.out)
          clear ho3 hg3
          go_wp2_with fail
          go_roundw
          case rel => exact ⟨j + 1, L + M, a3, c3, by omega, by go_num, rfl, HL3.out, hLM, HO3.out, HB3.out, XX3.out⟩
          case measure => simp [intOf]; omega
        · obtain rfl : j = m := by omega
          have hE : (own ++ Tr.namesL (t.kids.take j) 0) = own ++ Tr.namesL t.kids 0 := by rw [HEND.out]
          have HE := Lib.hid hE
          clear hE
          go_wp2_with fail
          go_ret
          refine ⟨A, c, ?_, ?_, HB.out⟩
          · rw [← HE.out, ← HL.out]; rfl
          · rw [← HE.out, ← HL.out]; exact HO.out
    · skip
      have hown : [(2, n, 0, dir), (4, n, K0, dir)] = own := by rw [← hown]; simp [nmOwn]
      obtain rfl : D = 0 := by rw [← hD]; simp [nmBelow]
      obtain ⟨hm0, b0, o0, rfl, hbl0, hkz⟩ := hk0 rfl
      have n0 := (HB.out.cell (p := ⟨b0, o0 + 1, none⟩) hbl0).trans hkz
      clear hk0 hkz
      have hown := Lib.hid hown
      have hol2 := hol
      have D0 : W0.cell? ⟨w.heap.size, 0, none⟩ = some (.int .i64 7) := block_cell XD.out 0
      have D1 : W0.cell? ⟨w.heap.size, 1, none⟩ = some (.int .i64 n) := block_cell XD.out 1
      have D2 : W0.cell? ⟨w.heap.size, 2, none⟩ = some (.slice (some ⟨b0, o0, none⟩) m cap) := block_cell XD.out 2
      go_enter Tryz.func14, Tryz.ntmps14
      go_wp2_with fail
      rw [HW0.out]
      have hb0l : b0 < W0.heap.size := Nat.lt_of_lt_of_le hbl0 HB.out.size
      go_region_held3 (fun w' => w'.cell? ⟨w.heap.size, 0, none⟩ = some (.int .i64 7) ∧ w'.cell? ⟨w.heap.size, 1, none⟩ = some (.int .i64 n) ∧ w'.cell? ⟨w.heap.size, 2, none⟩ = some (.slice (some ⟨b0, o0, none⟩) m cap) ∧ w'.cell? ⟨b0, o0 + 1, none⟩ = some (.int .i64 K0)) (first | exact ⟨D0, D1, D2, n0⟩ | exact ⟨(cell_past W0 _ ⟨w.heap.size, 0, none⟩ hsw).trans D0, (cell_past W0 _ ⟨w.heap.size, 1, none⟩ hsw).trans D1, (cell_past W0 _ ⟨w.heap.size, 2, none⟩ hsw).trans D2, (cell_past W0 _ ⟨b0, o0 + 1, none⟩ hb0l).trans n0⟩ | exact ⟨E0, E1, E2, E3⟩) ((refine step_append_lies _ (by rfl) _ _ 40 (by rfl) w.heap.size 44 i0 _ 4 32 Tryz.underlying40 hi hz0 hz1 hz2 rfl (by omega) _ 0 [] (by rfl) (World.ownsRow_nil _ _ _ _) ⟨W0.heap.size, 0, none⟩ 2 2 [.int .i64 2, .int .i64 n, .int .i64 0, .int .i64 dir, .int .i64 4, .int .i64 n, .int .i64 K0, .int .i64 dir] (by rfl) (by rfl) (fun j u h => cell_eight_new W0 _ _ _ _ _ _ _ _ _ j u h) (one_eight _ _ _ _ _ _ _ _) (by omega) (by unfold maxLen; omega) (by omega) (by have := HB.out.size; simp; omega) (W0.heap.size + 1) (by simp) ?_; intro g3 c3 w3 ho3 hg3 hat hlt3; have hg4 : W0.grownBy w3 none := (World.grownBy_alloc W0 _ none).trans ⟨hg3.os, hg3.tape, hg3.output, hg3.size, hg3.block⟩; have E0 := hg4.cell (a := ⟨w.heap.size, 0, none⟩) D0 (by simp); have E1 := hg4.cell (a := ⟨w.heap.size, 1, none⟩) D1 (by simp); have E2 := hg4.cell (a := ⟨w.heap.size, 2, none⟩) D2 (by simp); have E3 := hg4.cell (a := ⟨b0, o0 + 1, none⟩) n0 (by simp)))
      have HO1 : Hid (w3.ownsRow w.heap.size 44 4 (.slice (some ⟨g3, 0, none⟩) 2 c3) 2 (cellsN [(2, n, 0, dir), (4, n, K0, dir)])) := by unfold Hid; simpa [cellsN] using ho3
      have HB := Lib.hid (HB.out.grown hg4 HB.out.size (fun k hk => by cases hk))
      have XD := Lib.hid ((hg4.block _ (block_lt XD.out) (by simp)).trans XD.out)
      clear ho3 hg3 hg4 hat hlt3 E0 E1 E2 E3 D0 D1 D2 n0
      simp only [Nat.zero_add]
      have D0 : w3.cell? ⟨w.heap.size, 0, none⟩ = some (.int .i64 7) := block_cell XD.out 0
      have D1 : w3.cell? ⟨w.heap.size, 1, none⟩ = some (.int .i64 n) := block_cell XD.out 1
      have D2 : w3.cell? ⟨w.heap.size, 2, none⟩ = some (.slice (some ⟨b0, o0, none⟩) m cap) := block_cell XD.out 2
      go_wp2_with fail
      clear D0 D1 D2
      go_loopw [5, 7] (fun v i wr => ∃ (j L : Nat) (A : Option Addr) (c : Nat), j ≤ m ∧ i = .int .i64 j ∧ v = .slice A L c ∧ Hid (L = (own ++ Tr.namesL (t.kids.take j) 0).length) ∧ L ≤ 2097154 ∧ Hid (wr.ownsRow w.heap.size 44 4 (.slice A L c) L (cellsN (own ++ Tr.namesL (t.kids.take j) 0))) ∧ Hid (Below w.heap.size w wr) ∧ Hid (wr.heap[w.heap.size]? = some (.cells #[.int .i64 7, .int .i64 n, .slice (some ⟨b0, o0, none⟩) m cap] 24 (0, 0)))) (fun _ i _ => m - (intOf i).toNat)
      case atStart => exact ⟨0, 2, (some ⟨g3, 0, none⟩), c3, Nat.zero_le _, rfl, rfl, by unfold Hid; rw [← hown.out]; rfl, by omega, by unfold Hid; rw [← hown.out]; simpa [Tr.namesL] using HO1.out, HB.out, XD.out⟩
      case round =>
        obtain ⟨j, L, A, c, hj, rfl, rfl, HL, hL, HO, HB, XD⟩ := hrel
        have d2 : wr.cell? ⟨w.heap.size, 2, none⟩ = some (.slice (some ⟨b0, o0, none⟩) m cap) := block_cell XD.out 2
        by_cases hlt : j < m
        · obtain ⟨b, off, k', n', a', m', c', hab, hbl, h0, h1, h2, hcall⟩ := IHK.out j hlt wr HB.out
          simp only [Option.some.injEq, Addr.mk.injEq, and_true] at hab
          obtain ⟨rfl, rfl⟩ := hab
          have HCALL := Lib.hid (hcall wr (Below.refl _ _))
          have i0' : (0 : Int) ≤ (j : Int) := by omega
          have i1' : (j : Int) < (m : Int) := by omega
          have HTJ := Lib.hid (HTK.out j hlt)
          have hbd := HBD.out (j + 1) (by omega)
          rw [HTJ.out, List.length_append, ← HL.out] at hbd
          have HBJ := Lib.hid hbd
          have hbs := HB.out.size
          clear hcall hbd
          go_wp2_with fail
          refine HCALL.out.mono ?_; rintro e w2 ⟨a2, c2, rfl, ho2, hb2⟩
          obtain ⟨M, hM⟩ : ∃ M, ((Tr.kid t.kids j).names 0).length = M := ⟨_, rfl⟩
          rw [hM] at ho2 HBJ ⊢
          have HM := Lib.hid hM
          have hLM : L + M ≤ 2097154 := HBJ.out
          have HO2 := Lib.hid ho2
          have HO1 := Lib.hid (own_later3 HO.out hb2)
          have hs2 := hb2.size
          have HBB := Lib.hid (chain HB.out hb2)
          have XX := Lib.hid ((hb2.block _ (block_lt XD.out)).trans XD.out)
          clear hM ho2 hb2 h0 h1 h2 d2
          go_wp2_with (at_builtin; refine wpList_append_two _ rfl _ _ 40 rfl w.heap.size 44 i0 (.agg #[.int .i64 0, .int .i64 0, .int .i64 0, .int .i64 0]) 4 32 Tryz.underlying40 hi hz0 hz1 hz2 rfl (by decide) _ L _ rfl HO1.out _ _ M _ rfl HO2.out (cellsN_one _) (by unfold maxLen; omega) (by omega) (by omega) ?_)
          intro v' w3 ho3 hg3 _
          obtain ⟨a3, c3, rfl, _, _⟩ := own_slice2 ho3
          have HO3 : Hid (w3.ownsRow w.heap.size 44 4 (.slice a3 (L + M) c3) (L + M) (cellsN (own ++ Tr.namesL (t.kids.take (j + 1)) 0))) := by
            unfold Hid
            rw [HTJ.out, cellsN_append (own ++ _)]
            exact ho3
          have HL3 : Hid (L + M = (own ++ Tr.namesL (t.kids.take (j + 1)) 0).length) := by unfold Hid; rw [HTJ.out, List.length_append, ← HL.out, HM.out]
          have HB3 := Lib.hid (HBB.out.grown hg3 (by omega) (own_lt3 HO1.out))
          have XX3 := Lib.hid ((hg3.block _ (block_lt XX.out) (Ne.symm (own_type HO1.out XX.out (by decide)))).trans XX.out)
          clear ho3 hg3
          go_wp2_with fail
          go_roundw
          case rel => exact ⟨j + 1, L + M, a3, c3, by omega, by go_num, rfl, HL3.out, hLM, HO3.out, HB3.out, XX3.out⟩
          case measure => simp [intOf]; omega
        · obtain rfl : j = m := by omega
          have hE : (own ++ Tr.namesL (t.kids.take j) 0) = own ++ Tr.namesL t.kids 0 := by rw [HEND.out]
          have HE := Lib.hid hE
          clear hE
          go_wp2_with fail
          go_ret
          refine ⟨A, c, ?_, ?_, HB.out⟩
          · rw [← HE.out, ← HL.out]; rfl
          · rw [← HE.out, ← HL.out]; exact HO.out
end Go.Proofs.YtcckfeikaolfgaaGreat

namespace Go.Proofs.YtcckfeikaolfgaaGreat
open Go.RowKit
set_option linter.unusedVariables false
set_option linter.unusedSimpArgs false
set_option maxRecDepth 100000
set_option maxRecDepth 20000
def nmAt (xs : List Nm) (i : Nat) : Nm := xs.getD i (0, 0, 0, 0)
theorem nmAt_get {xs : List Nm} {i : Nat} (h : i < xs.length) : nmAt xs i = xs[i] := by simp [nmAt, h]
theorem nmAt_mem {xs : List Nm} {i : Nat} (h : i < xs.length) : nmAt xs i ∈ xs := by rw [nmAt_get h]; exact List.getElem_mem h
theorem cellsN_at (xs : List Nm) : ∀ i, i < xs.length → (cellsN xs)[i * 4]? = some (.int .i64 (nmAt xs i).1) ∧ (cellsN xs)[i * 4 + 1]? = some (.int .i64 (nmAt xs i).2.1) ∧ (cellsN xs)[i * 4 + 2]? = some (.int .i64 (nmAt xs i).2.2.1) ∧ (cellsN xs)[i * 4 + 3]? = some (.int .i64 (nmAt xs i).2.2.2) := by
  induction xs with
  | nil => intro i h; simp at h
  | cons x xs ih =>
    intro i h
    cases i with
    | zero => simp [cellsN, nmAt]
    | succ i =>
      obtain ⟨h0, h1, h2, h3⟩ := ih i (by simpa using h)
      refine ⟨?_, ?_, ?_, ?_⟩
      · rw [show (i + 1) * 4 = i * 4 + 4 by omega]; exact h0
      · rw [show (i + 1) * 4 + 1 = i * 4 + 1 + 4 by omega]; exact h1
      · rw [show (i + 1) * 4 + 2 = i * 4 + 2 + 4 by omega]; exact h2
      · rw [show (i + 1) * 4 + 3 = i * 4 + 3 + 4 by omega]; exact h3
/-- The slice at address a reads as the names. -/
def RowN (w : World) (a : Option Addr) (xs : List Nm) : Prop :=
  xs = [] ∨ ∃ b off, a = some ⟨b, off, none⟩ ∧ b < w.heap.size ∧ ∀ i, i < xs.length → w.cell? ⟨b, off + i * 4, none⟩ = some (.int .i64 (nmAt xs i).1) ∧ w.cell? ⟨b, off + i * 4 + 1, none⟩ = some (.int .i64 (nmAt xs i).2.1) ∧ w.cell? ⟨b, off + i * 4 + 2, none⟩ = some (.int .i64 (nmAt xs i).2.2.1) ∧ w.cell? ⟨b, off + i * 4 + 3, none⟩ = some (.int .i64 (nmAt xs i).2.2.2)
theorem RowN.at {w : World} {a : Option Addr} {xs : List Nm} (h : RowN w a xs) (i : Nat) (hi : i < xs.length) : ∃ b off, a = some ⟨b, off, none⟩ ∧ b < w.heap.size ∧ w.cell? ⟨b, off + i * 4, none⟩ = some (.int .i64 (nmAt xs i).1) ∧ w.cell? ⟨b, off + i * 4 + 1, none⟩ = some (.int .i64 (nmAt xs i).2.1) ∧ w.cell? ⟨b, off + i * 4 + 2, none⟩ = some (.int .i64 (nmAt xs i).2.2.1) ∧ w.cell? ⟨b, off + i * 4 + 3, none⟩ = some (.int .i64 (nmAt xs i).2.2.2) := by
  rcases h with rfl | ⟨b, off, h1, h2, h3⟩
  · simp at hi
  · exact ⟨b, off, h1, h2, h3 i hi⟩
theorem RowN.below {w w' : World} {a : Option Addr} {xs : List Nm} (h : RowN w a xs) (hb : Below w.heap.size w w') : RowN w' a xs := by
  rcases h with h | ⟨b, off, h1, h2, h3⟩
  · exact .inl h
  · refine .inr ⟨b, off, h1, Nat.lt_of_lt_of_le h2 hb.size, fun i hi => ?_⟩
    obtain ⟨e0, e1, e2, e3⟩ := h3 i hi
    have e := fun o => hb.cell (p := ⟨b, o, none⟩) h2
    exact ⟨(e _).trans e0, (e _).trans e1, (e _).trans e2, (e _).trans e3⟩
theorem RowN.of_own {w : World} {base : Nat} {e : TypeId} {a : Option Addr} {n cap : Nat} {xs : List Nm} (h : w.ownsRow base e 4 (.slice a n cap) n (cellsN xs)) (hn : xs.length = n) : RowN w a xs := by
  rcases h.2 with ⟨hv, h0⟩ | ⟨g, cap', cur, hv, _, hg, _⟩
  · exact .inl (List.eq_nil_of_length_eq_zero (by omega))
  · simp only [Value.slice.injEq, true_and] at hv
    obtain ⟨rfl, rfl⟩ := hv
    refine .inr ⟨g, 0, rfl, block_lt hg, fun i hi => ?_⟩
    obtain ⟨e0, e1, e2, e3⟩ := cellsN_at xs i hi
    refine ⟨?_, ?_, ?_, ?_⟩
    · rw [Nat.zero_add, h.cellAt _ (by omega), e0]
    · rw [Nat.zero_add, h.cellAt _ (by omega), e1]
    · rw [Nat.zero_add, h.cellAt _ (by omega), e2]
    · rw [Nat.zero_add, h.cellAt _ (by omega), e3]
end Go.Proofs.YtcckfeikaolfgaaGreat
namespace Go.Proofs.YtcckfeikaolfgaaGreat
open Go.RowKit
set_option linter.unusedVariables false
set_option linter.unusedSimpArgs false
set_option maxRecDepth 20000
theorem ref15_Check (t : Tr) (k n : Int) (a : Option Addr) (m cap : Nat) (dir : Int) (w : World) (B : Nat) (hB : B ≤ w.heap.size) (hs : t.size ≤ 4194304) (hT : IsT w (Lt B) k n a m cap t) :
    Calls Tryz.prog 13 #[.agg #[.int .i64 k, .int .i64 n, .slice a m cap], .int .i64 dir] w fun e w' => e = .returned (.int .i64 (errN t dir)) ∧ Below w.heap.size w w' := by
  show Calls Tryz.prog _ _ w fun e w' => e = .returned (.int .i64 (if dir ≠ 0 ∧ dir ≠ 1 then 2 else chk t)) ∧ Below w.heap.size w w'
  by_cases hd : dir ≠ 0 ∧ dir ≠ 1
  · rw [if_pos hd]
    have t0 : (dir != 0) = true := bdiff hd.1
    have t1 : (dir != 1) = true := bdiff hd.2
    clear hd hT
    go_enter Tryz.func13, Tryz.ntmps13
    go_wp2_with fail
    go_ret
    exact ⟨rfl, (Below.refl _ _).alloc (Nat.le_refl _) _⟩
  · rw [if_neg hd]
    have CC : Hid (∀ W, Below w.heap.size w W → Calls Tryz.prog 24 #[.agg #[.int .i64 k, .int .i64 n, .slice a m cap]] W fun e w' => e = .returned (.int .i64 (chk t)) ∧ Below W.heap.size W w') := fun W hb => ref14_Check t k n a m cap W B (Nat.le_trans hB hb.size) hs (hT.below hb)
    rcases (show dir = 0 ∨ dir = 1 by omega) with rfl | rfl
    all_goals
      clear hd hT
      go_enter Tryz.func13, Tryz.ntmps13
      go_wp2_with fail
      refine (CC.out _ ((Below.refl _ _).alloc (Nat.le_refl _) _)).mono ?_; rintro e w1 ⟨rfl, hb⟩
      have hb1 := chainA (Below.refl w.heap.size w) hb
      clear hb
      go_wp2_with fail
      go_ret
      exact ⟨rfl, hb1⟩
end Go.Proofs.YtcckfeikaolfgaaGreat

namespace Go.Proofs.YtcckfeikaolfgaaGreat
open Go.RowKit Sm
set_option linter.unusedVariables false
set_option linter.unusedSimpArgs false
set_option maxRecDepth 100000
theorem vec_RedON (a : Option Addr) (n cap : Nat) (xs : List Int) (w : World) (hx : Row .u64 w a xs) (hn : xs.length = n) (hl : n ≤ 16777216) :
    Calls Tryz.prog 31 #[.slice a n cap] w (GivesOwn .u64 38 (xs.map (· % 18446744069414584321)) w) := by
  subst hn; exact vec_RedO a cap xs w hx hl
end Go.Proofs.YtcckfeikaolfgaaGreat

namespace Go.Proofs.YtcckfeikaolfgaaGreat
open Go.RowKit Sm
set_option linter.unusedVariables false
set_option linter.unusedSimpArgs false
set_option maxRecDepth 100000
theorem GivesOwn.step {k : IntKind} {t : TypeId} {xs : List Int} {w w1 w2 : World} {e : Ending} (h : GivesOwn k t xs w1 e w2) (hb : Below w.heap.size w w1) : GivesOwn k t xs w e w2 := by
  obtain ⟨a, cap, rfl, ho, hf, hl, hb2⟩ := h
  exact ⟨a, cap, rfl, own_base ho hb.size, hf, hl, chain hb hb2⟩
set_option maxHeartbeats 1000000 in
theorem with_okO (ax aw : Option Addr) (n m cx cw : Nat) (xs ws : List Int) (w : World) (hx : Row .u64 w ax xs) (hw : Row .u64 w aw ws) (hxl : xs.length = n) (hwl : ws.length = n) (hm : m ≤ 24) (hn : n = 2 ^ m) :
    Calls Tryz.prog 75 #[.slice ax n cx, .slice aw n cw] w (GivesOwnE .u64 38 (withTo xs ws m) w) := by
  have hP : hasP2 (n : Int) = true := (hasP2_iff _).2 ⟨m, hm, by rw [hn]⟩
  have hn2 : n ≤ 16777216 := by
    have : 2 ^ m ≤ 2 ^ 24 := Nat.pow_le_pow_right (by omega) hm
    have e : (2 : Nat) ^ 24 = 16777216 := by decide
    omega
  have hn1 : 1 ≤ n := by rw [hn]; exact Nat.pow_pos (by omega)
  have C1 : Hid (∀ w : World, Calls Tryz.prog 44 #[.int .i64 n] w fun e w' => e = .returned (.bool true) ∧ w = w') := fun w => by rw [← hP]; exact stock_Has n w (by omega)
  have HX := Lib.hid hx
  have HW := Lib.hid hw
  have HXL := Lib.hid hxl
  have HWL := Lib.hid hwl
  have HN := Lib.hid hn
  have HL : Hid (∀ j, (withTo xs ws j).length = n) := fun j => by rw [withTo_len]; exact hxl
  have h0 : ((n : Int) != (n : Int)) = false := bfalse' rfl
  clear hx hw hxl hwl hn hP
  go_enter Tryz.func75, Tryz.ntmps75
  go_wp2_with fail
  refine (C1.out _).mono ?_; rintro e w' ⟨rfl, rfl⟩
  go_wp2_with fail
  refine (vec_RedON ax n cx xs _ HX.out HXL.out hn2).mono ?_
  rintro e w1 ⟨a1, cap1, rfl, ho1, hf1, hl1, hb1⟩
  have hl0 := HL.out 0
  have hl0' : (xs.map (· % 18446744069414584321)).length = n := hl0
  rw [hl0']
  rw [hl0'] at ho1
  clear hl0 hl0' hl1
  go_wp2_with fail
  go_loopw [6, 7] (fun v i wr => ∃ (j s : Nat) (a : Option Addr) (cap : Nat), j ≤ m ∧ Hid (s = 2 ^ j) ∧ 1 ≤ s ∧ s ≤ n ∧ i = .int .i64 s ∧ v = .slice a n cap ∧ Hid (wr.ownsRow w.heap.size 38 1 (.slice a n cap) n ((withTo xs ws j).map (Value.int .u64))) ∧ Hid (∀ x ∈ withTo xs ws j, fits .u64 x) ∧ Below w.heap.size w wr) (fun _ i _ => n - (intOf i).toNat)
  case atStart => exact ⟨0, 1, a1, cap1, Nat.zero_le _, rfl, by omega, hn1, rfl, rfl, ho1, hf1, hb1⟩
  case round =>
    obtain ⟨j, s, a, cap, hj, HS, hs1, hsn, rfl, rfl, HO, HF, hb⟩ := hrel
    have HR : Hid (Row .u64 wr a (withTo xs ws j)) := Row.of_own (HL.out j) (by omega) HF.out HO.out
    by_cases hlt : j < m
    · obtain ⟨h, hh, hns⟩ := half_of_pow m j s HS.out hlt
      have h2s : s * 2 ≤ n := by rw [HN.out, hns]; exact Nat.mul_le_mul_left s (by omega)
      have hle : (2 : Int) * (s : Int) ≤ (n : Int) := by omega
      have HNS : Hid (n = s * (2 * h)) := HN.out.trans hns
      have HS2 : Hid (2 * s = 2 ^ (j + 1)) := by unfold Hid; rw [Nat.pow_succ, HS.out]; omega
      clear hns
      go_wp2_with fail
      refine (stock_oneO n s h a aw cap cw (withTo xs ws j) ws _ HR.out (HW.out.below hb) (HL.out j) HWL.out hn2 HNS.out hs1 hh).mono ?_
      rintro e w2 ⟨a2, cap2, rfl, ho2, hf2, hl2, hb2⟩
      have hlen : (passL (withTo xs ws j) ws s).length = n := by rw [passL_len]; exact HL.out j
      rw [hlen] at ho2 ⊢
      have hbs := hb.size
      have HO2 : Hid (w2.ownsRow w.heap.size 38 1 (.slice a2 n cap2) n ((withTo xs ws (j + 1)).map (Value.int .u64))) := by unfold Hid; simp only [withTo]; rw [← HS.out]; exact own_base ho2 hbs
      have HF2 : Hid (∀ x ∈ withTo xs ws (j + 1), fits .u64 x) := by unfold Hid; simp only [withTo]; rw [← HS.out]; exact hf2
      clear ho2 hlen hf2 hl2
      go_wp2_with fail
      go_roundw
      case rel => exact ⟨j + 1, 2 * s, a2, cap2, by omega, HS2.out, by omega, by omega, by go_num, rfl, HO2.out, HF2.out, chain hb hb2⟩
      case measure => simp [intOf]; omega
    · have hjm : j = m := by omega
      have hsn' : s = n := by rw [HS.out, HN.out, hjm]
      have hlt2 : (n : Int) < 2 * (s : Int) := by omega
      have HJ := Lib.hid hjm
      have hres : Hid (GivesOwnE .u64 38 (withTo xs ws m) w (.returned (.tuple #[.slice a n cap, .int .i64 0])) wr) := by
        obtain ⟨a', cap', he, hok⟩ := own_slice HO.out
        simp only [Value.slice.injEq] at he
        obtain ⟨rfl, _, rfl⟩ := he
        exact ⟨a, cap, by rw [HL.out], by rw [HL.out, ← HJ.out]; exact HO.out, by rw [← HJ.out]; exact HR.out, by rw [HL.out]; exact hok, hb⟩
      clear hjm hsn'
      go_wp2_with fail
      go_ret2
      exact hres.out
set_option maxHeartbeats 800000 in
theorem small_Do_okO (a : Option Addr) (n c : Nat) (d : Int) (xs : List Int) (w : World) (hx : Row .u64 w a xs) (hxl : xs.length = n) (hd : d = 0 ∨ d = 1) (h1 : 1 ≤ n) (h5 : n ≤ 5) :
    Calls Tryz.prog 81 #[.slice a n c, .int .i64 d] w (GivesOwnE .u64 38 (dftL xs (dirRt n d)) w) := by
  have C1 : Hid (∀ w : World, Calls Tryz.prog 100 #[.int .i64 n] w fun e w' => e = .returned (.bool true) ∧ w = w') := fun w => by
    have := small_Has n w; rw [show decide ((1 : Int) ≤ n ∧ (n : Int) ≤ 5) = true by simp; omega] at this; exact this
  have hs := few_size n h1 h5
  have hz := dirRt_range n d
  have C2 : Hid (∀ w : World, Calls Tryz.prog 102 #[.int .i64 n, .int .i64 d] w fun e w' => e = .returned (.int .u64 (dirRt n d)) ∧ w = w') := fun w => small_way n d w hs hd
  have C3 : Hid (Calls Tryz.prog 101 #[.slice a n c, .int .u64 (dirRt n d)] w (GivesOwn .u64 38 (dftL xs (dirRt n d)) w)) := small_doneO a c n xs _ (dirBk n d) w hx hxl.symm h1 h5 (isRoot_dir n d hs) hz.1 hz.2
  have HL : Hid ((dftL xs (dirRt n d)).length = n) := (dftL_len _ _).trans hxl
  clear hx hxl hs hz
  rcases hd with h1 | h1
  all_goals
    subst h1
    go_enter Tryz.func81, Tryz.ntmps81
    go_wp2_with fail
    refine (C1.out _).mono ?_; rintro e w' ⟨rfl, rfl⟩
    go_wp2_with fail
    refine (C2.out _).mono ?_; rintro e w' ⟨rfl, rfl⟩
    go_wp2_with fail
    refine (C3.out).mono ?_
    rintro e w2 ⟨a2, cap2, rfl, ho2, hf2, hl2, hb2⟩
    rw [HL.out] at ho2 hl2 ⊢
    have HO := Lib.hid ho2
    have HF := Lib.hid hf2
    clear ho2 hf2
    go_wp2_with fail
    go_ret2
    obtain ⟨a', cap', he, hok⟩ := own_slice HO.out
    simp only [Value.slice.injEq] at he
    obtain ⟨rfl, _, rfl⟩ := he
    exact ⟨a2, cap2, by simp [HL.out], by rw [HL.out]; exact HO.out, Row.of_own HL.out (by omega) HF.out HO.out, by rw [HL.out]; exact hok, hb2⟩
/-- The table of a name. -/
def tblN (x : Nm) : List Int := tblL x.1 x.2.1.toNat x.2.2.1.toNat x.2.2.2
theorem tblN_pow (n : Nat) (d : Int) : tblN (1, (n : Int), 0, d) = powL (dirRt n d) n := rfl
theorem tblN_chirp (n : Nat) (d : Int) : tblN (2, (n : Int), 0, d) = rowT (dirRt n (1 - d)) n n := rfl
theorem tblN_rader (n : Nat) (d : Int) : tblN (3, (n : Int), 0, d) = tabRaderL n d := rfl
theorem tblN_blue (n m : Nat) (d : Int) : tblN (4, (n : Int), (m : Int), d) = tabBlueL n m d := rfl
/-- In all later worlds the teller, whose map lies in the cell of block q, tells these names' tables. -/
def LookAt (q : Nat) (w0 : World) (ns : List Nm) : Prop := ∀ W, Below w0.heap.size w0 W → ∀ x ∈ ns, Calls Tryz.prog 16 #[.agg #[.int .i64 x.1, .int .i64 x.2.1, .int .i64 x.2.2.1, .int .i64 x.2.2.2], .pointer (some ⟨q, 0, none⟩)] W (GivesRow .u64 (tblN x) W)
set_option maxHeartbeats 2000000 in
theorem exec_table (q : Nat) (w0 : World) (ns : List Nm) (hL : LookAt q w0 ns) (kd n : Int) (k d : Int) (a : Option Addr) (m cap : Nat) (w : World) (hb : Below w0.heap.size w0 w) (hk : (kd == 4) = false) (hin : (kd, n, 0, d) ∈ ns) :
    Calls Tryz.prog 79 #[.agg #[.func (.func 16) #[] #[.pointer (some ⟨q, 0, none⟩)]], .int .i64 kd, .agg #[.int .i64 k, .int .i64 n, .slice a m cap], .int .i64 d] w (GivesRow .u64 (tblN (kd, n, 0, d)) w) := by
  have HL : Hid (∀ W, Below w0.heap.size w0 W → Calls Tryz.prog 16 #[.agg #[.int .i64 kd, .int .i64 n, .int .i64 0, .int .i64 d], .pointer (some ⟨q, 0, none⟩)] W (GivesRow .u64 (tblN (kd, n, 0, d)) W)) := fun W hW => hL W hW _ hin
  obtain ⟨T, hT⟩ : ∃ T, tblN (kd, n, 0, d) = T := ⟨_, rfl⟩
  rw [hT] at HL ⊢
  clear hL hin hT
  obtain ⟨W1, hW1, hb1, x0, x1⟩ := two_boxes w #[.func (.func 16) #[] #[.pointer (some ⟨q, 0, none⟩)]] #[.int .i64 k, .int .i64 n, .slice a m cap] 63 24
  have D1 : W1.cell? ⟨w.heap.size + 1, 1, none⟩ = some (.int .i64 n) := block_cell x1 1
  have hs1 : W1.heap.size = w.heap.size + 2 := by rw [← hW1]; simp
  have R0 : W1.cell? ⟨w.heap.size, 0, none⟩ = some (.func (.func 16) #[] #[.pointer (some ⟨q, 0, none⟩)]) := block_cell x0 0
  obtain ⟨W2, hW2, hb2, x2⟩ := box_any W1 #[.int .i64 kd, .int .i64 n, .int .i64 0, .int .i64 d] 44
  have HW1 := Lib.hid hW1
  have HW2 := Lib.hid hW2
  have HB2 := Lib.hid (chain hb1 hb2)
  have HBB := Lib.hid (chain hb (chain hb1 hb2))
  clear hW1 hW2 hb1 hb2 hb
  go_enter Tryz.func79, Tryz.ntmps79
  go_wp2_with fail
  rw [HW1.out, HW2.out]
  refine (HL.out _ HBB.out).mono ?_; rintro e w3 ⟨a3, cap3, rfl, hr3, hcap3, hb3⟩
  have HR3 := Lib.hid hr3
  have HB3 := Lib.hid (chain HB2.out hb3)
  clear D1 R0 x0 x1 x2 hr3 hb3
  go_wp2_with fail
  go_ret
  exact ⟨a3, cap3, rfl, HR3.out, hcap3, HB3.out⟩
set_option maxHeartbeats 2000000 in
theorem exec_tableB (q : Nat) (w0 : World) (ns : List Nm) (hL : LookAt q w0 ns) (n k0 : Int) (k d : Int) (b off m cap : Nat) (w : World) (hb : Below w0.heap.size w0 w) (hm : 0 < m) (hc : w.cell? ⟨b, off + 1, none⟩ = some (.int .i64 k0)) (hin : (4, n, k0, d) ∈ ns) :
    Calls Tryz.prog 79 #[.agg #[.func (.func 16) #[] #[.pointer (some ⟨q, 0, none⟩)]], .int .i64 4, .agg #[.int .i64 k, .int .i64 n, .slice (some ⟨b, off, none⟩) m cap], .int .i64 d] w (GivesRow .u64 (tblN (4, n, k0, d)) w) := by
  have HL : Hid (∀ W, Below w0.heap.size w0 W → Calls Tryz.prog 16 #[.agg #[.int .i64 4, .int .i64 n, .int .i64 k0, .int .i64 d], .pointer (some ⟨q, 0, none⟩)] W (GivesRow .u64 (tblN (4, n, k0, d)) W)) := fun W hW => hL W hW _ hin
  obtain ⟨T, hT⟩ : ∃ T, tblN (4, n, k0, d) = T := ⟨_, rfl⟩
  rw [hT] at HL ⊢
  have hbl := World.block_lt_of_cell? _ _ hc
  simp only at hbl
  clear hL hin hT
  obtain ⟨W1, hW1, hb1, x0, x1⟩ := two_boxes w #[.func (.func 16) #[] #[.pointer (some ⟨q, 0, none⟩)]] #[.int .i64 k, .int .i64 n, .slice (some ⟨b, off, none⟩) m cap] 63 24
  have D1 : W1.cell? ⟨w.heap.size + 1, 1, none⟩ = some (.int .i64 n) := block_cell x1 1
  have D2 : W1.cell? ⟨w.heap.size + 1, 2, none⟩ = some (.slice (some ⟨b, off, none⟩) m cap) := block_cell x1 2
  have hs1 : W1.heap.size = w.heap.size + 2 := by rw [← hW1]; simp
  obtain ⟨W2, hW2, hb2, x2⟩ := box_any W1 #[.int .i64 4, .int .i64 n, .int .i64 0, .int .i64 d] 44
  have HW1 := Lib.hid hW1
  have HW2 := Lib.hid hW2
  have hb3 := chain hb1 hb2
  have hK : W2.cell? ⟨b, off + 1, none⟩ = some (.int .i64 k0) := (hb3.cell (p := ⟨b, off + 1, none⟩) hbl).trans hc
  obtain ⟨W3, hW3, hb4, x3⟩ := box_any W1 #[.int .i64 4, .int .i64 n, .int .i64 k0, .int .i64 d] 44
  have HW3 := Lib.hid hW3
  have HB3 := Lib.hid (chain hb1 hb4)
  have HBB := Lib.hid (chain hb (chain hb1 hb4))
  have hm0 : (0 : Int) < (m : Int) := by omega
  rw [← hW2, ← hW1] at hK
  clear hW1 hW2 hW3 hb1 hb2 hb hb3 hb4 hc
  go_enter Tryz.func79, Tryz.ntmps79
  go_wp2_with fail
  rw [HW1.out, HW3.out]
  refine (HL.out _ HBB.out).mono ?_; rintro e w3 ⟨a3, cap3, rfl, hr3, hcap3, hb3⟩
  have HR3 := Lib.hid hr3
  have HB4 := Lib.hid (chain HB3.out hb3)
  clear hK D1 D2 x0 x1 x2 x3 hr3 hb3
  go_wp2_with fail
  go_ret
  exact ⟨a3, cap3, rfl, HR3.out, hcap3, HB4.out⟩
set_option maxHeartbeats 4000000 in
theorem exec_little (q : Nat) (N : Nat) (k d : Int) (a ax : Option Addr) (m cap cx : Nat) (xs : List Int) (w : World) (hx : Row .u64 w ax xs) (hxl : xs.length = N) (hd : d = 0 ∨ d = 1) (h1 : 1 ≤ N) (h5 : N ≤ 5) :
    Calls Tryz.prog 57 #[.agg #[.func (.func 16) #[] #[.pointer (some ⟨q, 0, none⟩)]], .agg #[.int .i64 k, .int .i64 N, .slice a m cap], .int .i64 d, .slice ax N cx] w (GivesOwn .u64 38 (dftL xs (dirRt N d)) w) := by
  have HX := Lib.hid hx
  have HXL := Lib.hid hxl
  have HD := Lib.hid hd
  have HL : Hid ((dftL xs (dirRt N d)).length = N) := (dftL_len _ _).trans hxl
  clear hx hxl hd
  obtain ⟨W1, hW1, hb1, x0, x1⟩ := two_boxes w #[.func (.func 16) #[] #[.pointer (some ⟨q, 0, none⟩)]] #[.int .i64 k, .int .i64 N, .slice a m cap] 63 24
  have HW1 := Lib.hid hW1
  have HB1 := Lib.hid hb1
  have X0 := Lib.hid x0
  have X1 := Lib.hid x1
  have HX1 := Lib.hid (HX.out.below hb1)
  clear hW1 hb1 x0 x1
  go_enter Tryz.func57, Tryz.ntmps57
  go_wp2_with fail
  rw [HW1.out]
  refine (small_Do_okO ax N cx d xs _ HX1.out HXL.out HD.out h1 h5).mono ?_; rintro e w2 ⟨a2, cap2, rfl, ho2, hr2, hcap2, hb2⟩
  have hg : GivesOwn .u64 38 (dftL xs (dirRt N d)) w (.returned (.slice a2 N cap2)) w2 := ⟨a2, cap2, by rw [HL.out], own_base ho2 HB1.out.size, dftL_fits _ _, by rw [HL.out]; omega, chain HB1.out hb2⟩
  have HG := Lib.hid hg
  simp only [HL.out]
  clear ho2 hr2 hcap2 hg hb2
  go_wp2_with fail
  go_ret
  exact HG.out
set_option maxHeartbeats 4000000 in
theorem exec_passes (q : Nat) (w0 : World) (ns : List Nm) (hL : LookAt q w0 ns) (N : Nat) (k d : Int) (a ax : Option Addr) (m cap cx : Nat) (xs : List Int) (w : World) (hx : Row .u64 w ax xs) (hxl : xs.length = N) (hd : d = 0 ∨ d = 1) (hb : Below w0.heap.size w0 w) (hin : (1, (N : Int), 0, d) ∈ ns) (j : Nat) (hj : j ≤ 24) (hN : N = 2 ^ j) :
    Calls Tryz.prog 58 #[.agg #[.func (.func 16) #[] #[.pointer (some ⟨q, 0, none⟩)]], .agg #[.int .i64 k, .int .i64 N, .slice a m cap], .int .i64 d, .slice ax N cx] w (GivesOwn .u64 38 (dftL xs (dirRt N d)) w) := by
  have HX := Lib.hid hx
  have HXL := Lib.hid hxl
  have HD := Lib.hid hd
  have HBW := Lib.hid hb
  have HN := Lib.hid hN
  have HL : Hid ((dftL xs (dirRt N d)).length = N) := (dftL_len _ _).trans hxl
  have CT : Hid (∀ W, Below w0.heap.size w0 W → Calls Tryz.prog 79 #[.agg #[.func (.func 16) #[] #[.pointer (some ⟨q, 0, none⟩)]], .int .i64 1, .agg #[.int .i64 k, .int .i64 N, .slice a m cap], .int .i64 d] W (GivesRow .u64 (powL (dirRt N d) N) W)) := fun W hW => by
    have := exec_table q w0 ns hL 1 N k d a m cap W hW (by decide) hin
    rwa [tblN_pow] at this
  have HPL : Hid ((powL (dirRt N d) N).length = N) := powL_len _ _
  have hs : hasSz (N : Int) = true := by rw [hN]; exact hasSz_pow j hj
  have hfft : withTo xs (powL (dirRt N d) N) j = dftL xs (dirRt N d) := by
    have := fft_all xs (dirRt N d) (dirBk N d) j (by rw [← hN]; exact isRoot_dir N d hs) (by rw [hxl, hN])
    rw [← hN] at this; exact this
  have HF := Lib.hid hfft
  have HLE : Hid (N ≤ 16777216) := by unfold Hid; have := (hasSz_iff.1 hs).2.1; omega
  have HRF : Hid (∀ x ∈ dftL xs (dirRt N d), fits .u64 x) := dftL_fits _ _
  obtain ⟨P, hP⟩ : ∃ P, powL (dirRt N d) N = P := ⟨_, rfl⟩
  obtain ⟨R, hR⟩ : ∃ R, dftL xs (dirRt N d) = R := ⟨_, rfl⟩
  rw [hP] at CT HPL HF
  rw [hR] at HF HL HRF ⊢
  clear hL hx hxl hd hb hin hN hs hfft hP hR
  obtain ⟨W1, hW1, hb1, x0, x1⟩ := two_boxes w #[.func (.func 16) #[] #[.pointer (some ⟨q, 0, none⟩)]] #[.int .i64 k, .int .i64 N, .slice a m cap] 63 24
  have HW1 := Lib.hid hW1
  have HB1 := Lib.hid hb1
  have X0 := Lib.hid x0
  have X1 := Lib.hid x1
  have HX1 := Lib.hid (HX.out.below hb1)
  clear hW1 hb1 x0 x1
  have R0 : W1.cell? ⟨w.heap.size, 0, none⟩ = some (.func (.func 16) #[] #[.pointer (some ⟨q, 0, none⟩)]) := block_cell X0.out 0
  have D0 : W1.cell? ⟨w.heap.size + 1, 0, none⟩ = some (.int .i64 k) := block_cell X1.out 0
  have D1 : W1.cell? ⟨w.heap.size + 1, 1, none⟩ = some (.int .i64 N) := block_cell X1.out 1
  have D2 : W1.cell? ⟨w.heap.size + 1, 2, none⟩ = some (.slice a m cap) := block_cell X1.out 2
  go_enter Tryz.func58, Tryz.ntmps58
  go_wp2_with fail
  rw [HW1.out]
  refine (CT.out _ (chain HBW.out HB1.out)).mono ?_; rintro e w2 ⟨a2, cap2, rfl, hr2, hcap2, hb2⟩
  simp only [HPL.out] at hcap2 ⊢
  have HR2 := Lib.hid hr2
  have HX2 := Lib.hid (HX1.out.below hb2)
  have HB2 := Lib.hid (chain HB1.out hb2)
  clear R0 D0 D1 D2 hr2 hb2
  go_wp2_with fail
  refine (with_okO ax a2 N j cx cap2 xs P _ HX2.out HR2.out HXL.out HPL.out hj HN.out).mono ?_; rintro e w3 ⟨a3, cap3, rfl, ho3, hr3, hcap3, hb3⟩
  rw [HF.out] at ho3 ⊢
  have hg : GivesOwn .u64 38 R w (.returned (.slice a3 N cap3)) w3 := ⟨a3, cap3, by rw [HL.out], own_base ho3 HB2.out.size, HRF.out, by rw [HL.out]; exact HLE.out, chain HB2.out hb3⟩
  have HG := Lib.hid hg
  simp only [HL.out]
  clear ho3 hr3 hcap3 hg hb3
  go_wp2_with fail
  go_ret
  exact HG.out
def nvS (xs : List Int) (z : Int) (n k j : Nat) : Int := S j (fun i => nth xs i * pw z (i * k % n)) % 18446744069414584321
theorem nvS_zero (xs : List Int) (z : Int) (n k : Nat) : nvS xs z n k 0 = 0 := rfl
theorem nvS_succ (xs : List Int) (z : Int) (n k j : Nat) : (nvS xs z n k j + nth xs j * pw z (j * k % n) % 18446744069414584321) % 18446744069414584321 = nvS xs z n k (j + 1) := by
  unfold nvS; simp only [S]; omega
theorem nvS_range (xs : List Int) (z : Int) (n k j : Nat) : 0 ≤ nvS xs z n k j ∧ nvS xs z n k j < 18446744069414584321 := by unfold nvS; omega
theorem nvS_all (xs : List Int) (z u : Int) (n k : Nat) (hr : IsRoot z u n) (hx : xs.length = n) (hk : k < n) : nvS xs z n k n = nth (dftL xs z) k := by
  have hb := dftL_range xs z k (by rw [hx]; exact hk)
  refine eq_of_eqm ?_ (nvS_range _ _ _ _ _).1 (nvS_range _ _ _ _ _).2 hb.1 hb.2
  refine Eqm.trans ?_ (dftL_T xs z k (by rw [hx]; exact hk)).symm
  unfold nvS T
  rw [hx]
  refine (Eqm.mod _).trans (S_eqm fun i _ => (rfl' _).mul ?_)
  exact (pw_eqm _ _).trans (hr.pow_mod _)
/-- What the row holds while sum k is under way, of which j terms are in. -/
def nvF (xs : List Int) (z : Int) (n k j i : Nat) : Int := if i < k then nth (dftL xs z) i else if i = k then nvS xs z n k j else 0
theorem nvF_at (xs : List Int) (z : Int) (n k j : Nat) : nvF xs z n k j k = nvS xs z n k j := by unfold nvF; rw [if_neg (by omega), if_pos rfl]
theorem nvF_other (xs : List Int) (z : Int) (n k j j' i : Nat) (h : i ≠ k) : nvF xs z n k j i = nvF xs z n k j' i := by unfold nvF; rw [if_neg h, if_neg h]
theorem nvF_next (xs : List Int) (z u : Int) (n k i : Nat) (hr : IsRoot z u n) (hx : xs.length = n) (hk : k < n) : nvF xs z n (k + 1) 0 i = nvF xs z n k n i := by
  unfold nvF
  by_cases h1 : i < k
  · rw [if_pos (by omega), if_pos h1]
  · by_cases h2 : i = k
    · subst h2
      rw [if_pos (by omega), if_neg (by omega), if_pos rfl, nvS_all xs z u n i hr hx hk]
    · rw [if_neg (by omega), if_neg h1, if_neg h2]
      split
      · exact nvS_zero _ _ _ _
      · rfl
set_option maxHeartbeats 4000000 in
theorem exec_naive (q : Nat) (w0 : World) (ns : List Nm) (hL : LookAt q w0 ns) (N : Nat) (k d : Int) (a ax : Option Addr) (m cap cx : Nat) (xs : List Int) (w : World) (hx : Row .u64 w ax xs) (hxl : xs.length = N) (hd : d = 0 ∨ d = 1) (hb : Below w0.heap.size w0 w) (hin : (1, (N : Int), 0, d) ∈ ns) (hs : hasSz (N : Int) = true) (h64 : N ≤ 64) :
    Calls Tryz.prog 56 #[.agg #[.func (.func 16) #[] #[.pointer (some ⟨q, 0, none⟩)]], .agg #[.int .i64 k, .int .i64 N, .slice a m cap], .int .i64 d, .slice ax N cx] w (GivesOwn .u64 38 (dftL xs (dirRt N d)) w) := by
  obtain ⟨i0, hi, hz0, hz1, hz2⟩ := info_parts info_u64
  have HX := Lib.hid hx
  have HXL := Lib.hid hxl
  have HBW := Lib.hid hb
  have CT : Hid (∀ W, Below w0.heap.size w0 W → Calls Tryz.prog 79 #[.agg #[.func (.func 16) #[] #[.pointer (some ⟨q, 0, none⟩)]], .int .i64 1, .agg #[.int .i64 k, .int .i64 N, .slice a m cap], .int .i64 d] W (GivesRow .u64 (powL (dirRt N d) N) W)) := fun W hW => by
    have := exec_table q w0 ns hL 1 N k d a m cap W hW (by decide) hin
    rwa [tblN_pow] at this
  have HPL : Hid ((powL (dirRt N d) N).length = N) := powL_len _ _
  have hr := isRoot_dir N d hs
  have h1 := (hasSz_iff.1 hs).1
  have HNX : Hid (∀ k i, k < N → nvF xs (dirRt N d) N (k + 1) 0 i = nvF xs (dirRt N d) N k N i) := fun k i hk => nvF_next xs _ _ N k i hr hxl hk
  have HFT : Hid (∀ x ∈ dftL xs (dirRt N d), fits .u64 x) := dftL_fits _ _
  have HDL : Hid ((dftL xs (dirRt N d)).length = N) := (dftL_len _ _).trans hxl
  obtain ⟨z, hz⟩ : ∃ z, dirRt N d = z := ⟨_, rfl⟩
  rw [hz] at CT HPL HNX HFT HDL ⊢
  clear hL hx hxl hd hb hin hs hr hz
  obtain ⟨W1, hW1, hb1, x0, x1⟩ := two_boxes w #[.func (.func 16) #[] #[.pointer (some ⟨q, 0, none⟩)]] #[.int .i64 k, .int .i64 N, .slice a m cap] 63 24
  have HW1 := Lib.hid hW1
  have HB1 := Lib.hid hb1
  have X0 := Lib.hid x0
  have X1 := Lib.hid x1
  have HX1 := Lib.hid (HX.out.below hb1)
  clear hW1 hb1 x0 x1
  have R0 : W1.cell? ⟨w.heap.size, 0, none⟩ = some (.func (.func 16) #[] #[.pointer (some ⟨q, 0, none⟩)]) := block_cell X0.out 0
  have D0 : W1.cell? ⟨w.heap.size + 1, 0, none⟩ = some (.int .i64 k) := block_cell X1.out 0
  have D1 : W1.cell? ⟨w.heap.size + 1, 1, none⟩ = some (.int .i64 N) := block_cell X1.out 1
  have D2 : W1.cell? ⟨w.heap.size + 1, 2, none⟩ = some (.slice a m cap) := block_cell X1.out 2
  go_enter Tryz.func56, Tryz.ntmps56
  go_wp2_with fail
  rw [HW1.out]
  refine (CT.out _ (chain HBW.out HB1.out)).mono ?_; rintro e w2 ⟨a2, cap2, rfl, hr2, hcap2, hb2⟩
  simp only [HPL.out] at hcap2 ⊢
  have HR2 := Lib.hid hr2
  have HX2 := Lib.hid (HX1.out.below hb2)
  have HB2 := Lib.hid (chain HB1.out hb2)
  have X1 := Lib.hid ((hb2.block _ (block_lt X1.out)).trans X1.out)
  clear R0 D0 D1 D2 hr2 hb2 hcap2
  have D1 : w2.cell? ⟨w.heap.size + 1, 1, none⟩ = some (.int .i64 N) := block_cell X1.out 1
  go_wp2_with (at_make; refine wpList_make_full _ rfl _ _ 25 rfl w2.heap.size 38 i0 (.int .u64 0) 1 Tryz.underlying25 hi hz0 hz1 .i64 .i64 N N N rfl rfl rfl rfl (by rw [hz2]; omega) (by unfold maxLen; omega) (Nat.le_refl _) ?_)
  intro w3 hown0 hgrow0
  have hown := Own.made hown0 hgrow0
  clear hown0 hgrow0 D1
  have hsz2 := block_lt X1.out
  have z1 : ((N : Int) == 0) = false := bno (by omega)
  have z2 : ¬ (N : Int) = 0 := by omega
  have z3 : ¬ N = 0 := by omega
  go_wp2_with fail
  go_loopw [23] (fun i wr => ∃ k : Nat, k ≤ N ∧ i = .int .i64 k ∧ OwnAt .u64 38 w2 wr w2.heap.size N (nvF xs z N k 0)) (fun i _ => N - (intOf i).toNat)
  case atStart => exact ⟨0, Nat.zero_le _, rfl, own_eqz hown (fun j => by unfold nvF; rw [if_neg (by omega)]; split; exact nvS_zero _ _ _ _; rfl)⟩
  case round =>
    obtain ⟨k, hk, rfl, hown⟩ := hrel
    by_cases hlt : k < N
    · have HO := Lib.hid hown
      clear hown
      go_wp2_with fail
      go_loopw [28] (fun i wi => ∃ j : Nat, j ≤ N ∧ i = .int .i64 j ∧ OwnAt .u64 38 w2 wi w2.heap.size N (nvF xs z N k j)) (fun i _ => N - (intOf i).toNat)
      case atStart => exact ⟨0, Nat.zero_le _, rfl, HO.out⟩
      case round =>
        obtain ⟨j, hj, rfl, hown⟩ := hrel
        by_cases hlj : j < N
        · obtain ⟨b1, o1, rfl, hc1⟩ := (HX2.out.below hown.below).at (by rw [HXL.out]; omega)
          obtain ⟨b2, o2, rfl, hc2⟩ := (HR2.out.below hown.below).at (by rw [HPL.out]; omega)
          have c1 := hc1 j (by rw [HXL.out]; exact hlj)
          have fx := fits_u64.1 (HX2.out.wf _ (nth_mem (show j < xs.length by rw [HXL.out]; exact hlj)))
          have d1 : wr.cell? ⟨w.heap.size + 1, 1, none⟩ = some (.int .i64 N) := (hown.below.cell (p := ⟨w.heap.size + 1, 1, none⟩) hsz2).trans (block_cell X1.out 1)
          obtain ⟨s, hs⟩ : ∃ s, j * k = s := ⟨_, rfl⟩
          have hs1 : s ≤ 64 * 64 := by rw [← hs]; exact Nat.mul_le_mul (by omega) (by omega)
          have m1 := mulN j k s hs
          have mw : IntKind.i64.wrap (s : Int) = (s : Int) := IntWalk.i64_in _ (by omega)
          obtain ⟨r, hr⟩ : ∃ r, s % N = r := ⟨_, rfl⟩
          have r1 := (modN s N r hr).1
          have r2 := (modN s N r hr).2
          have hrn : r < N := by rw [← hr]; exact Nat.mod_lt _ (by omega)
          have c2 := hc2 r (by rw [HPL.out]; exact hrn)
          rw [show nth (powL z N) r = pw z r from nth_ofFn _ _ _ hrn] at c2
          have pr := pw_range z r
          have hcell := hown.cell k hlt
          rw [nvF_at] at hcell
          have hfz := hown.free k
          have sr := nvS_range xs z N k j
          have hst := nvS_succ xs z N k j
          rw [hs, hr] at hst
          have hnext := hown.store k hlt (nvS xs z N k (j + 1)) (f' := nvF xs z N k (j + 1)) (nvF_at _ _ _ _ _) (fun i hi hik => nvF_other _ _ _ _ _ _ _ hik)
          have HNXT := Lib.hid hnext
          obtain ⟨x, hx⟩ : ∃ x, nth xs j = x := ⟨_, rfl⟩
          obtain ⟨y, hy⟩ : ∃ y, pw z r = y := ⟨_, rfl⟩
          obtain ⟨v, hv⟩ : ∃ v, nvS xs z N k j = v := ⟨_, rfl⟩
          obtain ⟨v', hv'⟩ : ∃ v, nvS xs z N k (j + 1) = v := ⟨_, rfl⟩
          rw [hx] at c1 fx hst
          rw [hy] at c2 pr hst
          rw [hv] at hcell sr hst
          rw [hv'] at hst HNXT
          have HST := Lib.hid hst
          have g1 : (0 : Int) ≤ (j : Int) := by omega
          have g2 : (j : Int) < (N : Int) := by omega
          have g3 : (0 : Int) ≤ (k : Int) := by omega
          have g4 : (k : Int) < (N : Int) := by omega
          have g5 : (0 : Int) ≤ (r : Int) := by omega
          have g6 : (r : Int) < (N : Int) := by omega
          clear hc1 hc2 hs hr hown hnext hx hy hv hv' hst
          go_wp2_with fail
          refine wp_region_still_tail 19 (by kernel_rfl) (by kernel_rfl) ?_; simp only [List.take_succ_cons, List.take_zero, List.drop_succ_cons, List.drop_zero]
          repeat still_step
          still_call (flipW (gold_Mul x y _ (by omega) (by omega) (by omega) (by omega)))
          repeat still_step
          still_call (flipW (gold_Add v (x * y % 18446744069414584321) _ (by omega) (by omega) (by omega) (by omega)))
          rw [HST.out]
          repeat still_step
          try refine wpStill_nil ?_
          go_wp2_with fail
          go_roundw
          case rel => exact ⟨j + 1, by omega, by go_num, HNXT.out.later (Below.refl _ _).drew⟩
          case measure => simp [intOf]; omega
        · have hjn : j = N := by omega
          have hnx : Hid (OwnAt .u64 38 w2 wr w2.heap.size N (nvF xs z N (k + 1) 0)) := by
            rw [hjn] at hown
            exact own_eqz hown (fun i => HNX.out k i hlt)
          clear hown
          go_wp2_with fail
          go_roundw
          case rel => exact ⟨k + 1, by omega, by go_num, hnx.out⟩
          case measure => simp [intOf]; omega
    · have hkn : k = N := by omega
      have hres := (hown.givesO (xs := dftL xs z) HDL.out HFT.out (fun i hi => by unfold nvF; rw [if_pos (by omega)]) (by omega)).step HB2.out
      have HG := Lib.hid hres
      clear hown hres
      go_wp2_with fail
      go_ret
      exact HG.out
end Go.Proofs.YtcckfeikaolfgaaGreat

