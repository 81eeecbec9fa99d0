/- Contracts: which tables a plan needs. The program. -/
import Derived.Test.YtncikklhchimdaaNeedD
import Derived.Deep.RegionHeld3
namespace Go.Proofs.Ytncikklhchimdaa
open Go.RowKit
set_option linter.unusedVariables false
set_option linter.unusedSimpArgs false
set_option maxRecDepth 100000
set_option maxRecDepth 20000

theorem info_name : (Try.prog.info? 57).map (fun i => (i.zero, i.size, i.bytes)) = some (some (.agg #[.int .i64 0, .int .i64 0, .int .i64 0, .int .i64 0]), 4, 32) := by kernel_rfl
theorem cell_four_new (w : World) (x y z u : Value) (t : TypeId) : ∀ j v, [x, y, z, u][j]? = some v → (w.alloc (.cells #[x, y, z, u] t)).cell? ((⟨w.heap.size, 0, none⟩ : Addr).add j) = some v := by
  intro j v hj
  match j, hj with
  | 0, hj => simp at hj; subst hj; simp [Addr.add]
  | 1, hj => simp at hj; subst hj; simp [Addr.add]
  | 2, hj => simp at hj; subst hj; simp [Addr.add]
  | 3, hj => simp at hj; subst hj; simp [Addr.add]
theorem one_four (x y z u : Int) : ∀ v ∈ [Value.int .i64 x, Value.int .i64 y, Value.int .i64 z, Value.int .i64 u], v.oneCell' = true := by
  intro v hv
  simp at hv
  rcases hv with rfl | rfl | rfl | rfl <;> rfl
/-- The cells of some names. -/
def cellsN (xs : List Nm) : List Value := xs.flatMap fun x => [.int .i64 x.1, .int .i64 x.2.1, .int .i64 x.2.2.1, .int .i64 x.2.2.2]
theorem cellsN_len (xs : List Nm) : (cellsN xs).length = xs.length * 4 := by
  induction xs with
  | nil => rfl
  | cons x xs ih => simp only [cellsN, List.flatMap_cons, List.length_append, List.length_cons, List.length_nil] at ih ⊢; omega
theorem cellsN_append (xs ys : List Nm) : cellsN (xs ++ ys) = cellsN xs ++ cellsN ys := by simp [cellsN]

/-- What holds when some names have been told to the one who collects. -/
structure TabJ (w0 : World) (bs bm bl B1 : Nat) (pre : List Nm) (W : World) : Prop where
  below : Below w0.heap.size w0 W
  cellS : W.heap[bs]? = some (.cells #[.map (some bm)] 88 (0, 0))
  map : W.heap[bm]? = some (mapObj (cntL pre))
  row : ∃ v, W.heap[bl]? = some (.cells #[v] 52 (0, 0)) ∧ W.ownsRow B1 57 4 v (once pre).length (cellsN (once pre))
  size : B1 ≤ W.heap.size
theorem TabJ.later {w0 : World} {bs bm bl B1 : Nat} {pre : List Nm} {W W' : World} (h : TabJ w0 bs bm bl B1 pre W) (hb : Below W.heap.size W W') : TabJ w0 bs bm bl B1 pre W' := by
  obtain ⟨h1, h2, h3, ⟨v, h4, h5⟩, h6⟩ := h
  exact ⟨h1.trans (hb.mono h1.size), (hb.block _ (block_lt h2)).trans h2, (hb.block _ (block_lt h3)).trans h3, ⟨v, (hb.block _ (block_lt h4)).trans h4, own_later3 h5 hb⟩, Nat.le_trans h6 hb.size⟩
theorem zero_int (W : World) : (zeroValue 3).run Try.prog W = .ok (.int .i64 0) W := by kernel_rfl

set_option maxHeartbeats 2000000 in
/-- One more name in the map: what the operations do. -/
theorem map_more {bm : Nat} {pre : List Nm} {V : World} (x : Nm) (hm : V.heap[bm]? = some (mapObj (cntL pre))) :
    ∃ (st : Nat) (V2 : World), (Instr.lookup 88 (.map (some bm)) (nv x) false).run Try.prog V = .ok (.int .i64 (pre.count x : Nat)) V ∧
      (Instr.mapEntry 88 (.map (some bm)) (nv x)).run Try.prog V = .ok (.tuple #[.int .i64 (pre.count x : Nat), goInt st]) V2 ∧
      (Instr.lookup 88 (.map (some bm)) (nv x) false).run Try.prog V2 = .ok (.int .i64 (pre.count x : Nat)) V2 ∧
      (Instr.entryStore 88 (.map (some bm)) (goInt st) (.int .i64 ((pre.count x : Nat) + 1))).run Try.prog V2 = .ok () (V2.putObj bm (mapObj (cntL (pre ++ [x])))) ∧
      (Instr.lookup 88 (.map (some bm)) (nv x) false).run Try.prog (V2.putObj bm (mapObj (cntL (pre ++ [x])))) = .ok (.int .i64 ((pre.count x : Nat) + 1)) (V2.putObj bm (mapObj (cntL (pre ++ [x])))) ∧
      (∀ b, b ≠ bm → V2.heap[b]? = V.heap[b]?) ∧ V2.heap.size = V.heap.size ∧ Below bm V V2 ∧ V2.putObj bm (mapObj (cntL (pre ++ [x]))) = V.putObj bm (mapObj (cntL (pre ++ [x]))) := by
  have hM := Try.underlying88
  have hlt := block_lt hm
  have hkx : isNv (nv x) := ⟨x, rfl⟩
  have hput : ∀ (V2 : World) (o : Obj), (V2.putObj bm o).heap[bm]? = if bm < V2.heap.size then some o else none := fun V2 o => by
    split
    · rename_i h; exact World.putObj_heap_same h
    · rename_i h; rw [Array.getElem?_eq_none]; simp; omega
  by_cases hx : x ∈ pre
  · obtain ⟨j, hj1, hj2, hj3⟩ := cntL_yes hx
    have hjl : j < (cntL pre).length := by rw [cntL_len]; exact hj1
    refine ⟨j, V, ?_, ?_, ?_, ?_, ?_, fun b hb => rfl, rfl, Below.refl _ _, rfl⟩
    · simpa using name_keys.lookup_yes hM hm (cntL_keys pre) hkx (cntL_nodup pre) hj3 false
    · have := name_keys.entry_yes hM hm (cntL_keys pre) hkx (cntL_nodup pre) hj3
      rwa [put_same V bm _ hm] at this
    · simpa using name_keys.lookup_yes hM hm (cntL_keys pre) hkx (cntL_nodup pre) hj3 false
    · have := run_entryStore (P := Try.prog) (M := 88) hm j hjl (.int .i64 ((pre.count x : Nat) + 1))
      rwa [← cntL_more hx hj2] at this
    · have hx2 : x ∈ pre ++ [x] := by simp
      obtain ⟨i, hi1, hi2, hi3⟩ := cntL_yes hx2
      have := name_keys.lookup_yes (b := bm) hM (show (V.putObj bm (mapObj (cntL (pre ++ [x])))).heap[bm]? = _ by rw [hput, if_pos hlt]) (cntL_keys _) hkx (cntL_nodup _) hi3 false
      simpa [List.count_append] using this
  · have hc : pre.count x = 0 := List.count_eq_zero.2 hx
    rw [hc]
    have hl2 : (V.putObj bm (mapObj (cntL pre ++ [(nv x, .int .i64 0)]))).heap[bm]? = some (mapObj (cntL pre ++ [(nv x, .int .i64 0)])) := by rw [hput, if_pos hlt]
    have hk2 : ∀ p ∈ cntL pre ++ [(nv x, Value.int .i64 0)], isNv p.1 := fun p hp => by
      rcases List.mem_append.1 hp with h | h
      · exact cntL_keys pre p h
      · simp only [List.mem_singleton] at h; subst h; exact hkx
    have hn2 : ((cntL pre ++ [(nv x, Value.int .i64 0)]).map (·.1)).Nodup := by
      have := cntL_nodup (pre ++ [x])
      rw [cntL_new hx] at this
      simpa using this
    have hpp : (V.putObj bm (mapObj (cntL pre ++ [(nv x, .int .i64 0)]))).putObj bm (mapObj (cntL (pre ++ [x]))) = V.putObj bm (mapObj (cntL (pre ++ [x]))) := by
      simp [World.putObj]
    have hoth : ∀ b, b ≠ bm → (V.putObj bm (mapObj (cntL pre ++ [(nv x, .int .i64 0)]))).heap[b]? = V.heap[b]? := fun b hb => World.putObj_heap_other hb
    have hsz : (V.putObj bm (mapObj (cntL pre ++ [(nv x, .int .i64 0)]))).heap.size = V.heap.size := World.putObj_size
    have hbl : Below bm V (V.putObj bm (mapObj (cntL pre ++ [(nv x, .int .i64 0)]))) := put_below (Below.refl bm V) bm (Nat.le_refl _) _
    have hzz : (((0 : Nat) : Int) + 1) = 1 := by omega
    refine ⟨(cntL pre).length, V.putObj bm (mapObj (cntL pre ++ [(nv x, .int .i64 0)])), ?_, ?_, ?_, ?_, ?_, hoth, hsz, hbl, hpp⟩
    · simpa using name_keys.lookup_no hM hm (cntL_keys pre) hkx zero_int (cntL_no hx) false
    · exact name_keys.entry_no hM hm (cntL_keys pre) hkx zero_int (cntL_no hx)
    · simpa using name_keys.lookup_yes (j := (cntL pre).length) hM hl2 hk2 hkx hn2 (by simp) false
    · have := run_entryStore (P := Try.prog) (M := 88) hl2 (cntL pre).length (by simp) (.int .i64 1)
      rw [show (cntL pre ++ [(nv x, Value.int .i64 0)]).modify (cntL pre).length (fun p => (p.1, Value.int .i64 1)) = cntL (pre ++ [x]) by
        rw [cntL_new hx]
        refine List.ext_getElem? fun i => ?_
        rw [List.getElem?_modify]
        by_cases hi : (cntL pre).length = i
        · subst hi; simp
        · simp only [hi, if_false, Option.map_id']
          rcases Nat.lt_or_ge i (cntL pre).length with h | h
          · rw [List.getElem?_append_left h, List.getElem?_append_left h]; simp
          · rw [List.getElem?_eq_none (by simp; omega), List.getElem?_eq_none (by simp; omega)]; rfl] at this
      simpa using this
    · have hx2 : x ∈ pre ++ [x] := by simp
      obtain ⟨i, hi1, hi2, hi3⟩ := cntL_yes hx2
      have := name_keys.lookup_yes (b := bm) hM (show ((V.putObj bm (mapObj (cntL pre ++ [(nv x, .int .i64 0)]))).putObj bm (mapObj (cntL (pre ++ [x])))).heap[bm]? = _ by rw [hput, if_pos (by simpa using hlt)]) (cntL_keys _) hkx (cntL_nodup _) hi3 false
      simpa [List.count_append, hc] using this

theorem own_type {w : World} {B : Nat} {e T : TypeId} {s : Nat} {v : Value} {n b : Nat} {xs : List Value} {cs : Array Value} (h : w.ownsRow B e s v n xs) (hb : w.heap[b]? = some (.cells cs T (0, 0))) (hne : e ≠ T) : v.ownBlock ≠ some b := by
  rcases h.2 with ⟨rfl, _⟩ | ⟨g, cap, cur, rfl, _, hg, _⟩
  · intro e1; cases e1
  · intro e1
    simp only [Value.ownBlock, Option.some.injEq] at e1
    subst e1
    rw [hg] at hb
    simp only [Option.some.injEq, Obj.cells.injEq] at hb
    exact hne hb.2.1
/-- Behind a name that was there already. -/
theorem tab_old {w0 : World} {bs bm bl B1 : Nat} {pre : List Nm} {x : Nm} {W W3 : World} (hJ : TabJ w0 bs bm bl B1 pre W) (hx : x ∈ pre) (hbm : w0.heap.size ≤ bm) (hm1 : bm < B1) (hs : W.heap.size ≤ W3.heap.size) (hos : W3.os = W.os) (htp : W3.tape = W.tape) (hop : W3.output = W.output)
    (h3 : ∀ b, b < W.heap.size → b ≠ bm → W3.heap[b]? = W.heap[b]?) (hm : W3.heap[bm]? = some (mapObj (cntL (pre ++ [x])))) : TabJ w0 bs bm bl B1 (pre ++ [x]) W3 := by
  obtain ⟨h1, h2, h4, ⟨v, h5, h6⟩, h7⟩ := hJ
  have hbs := block_lt h2
  have hbl := block_lt h5
  have n1 : bs ≠ bm := fun e => by rw [e, h4] at h2; cases h2
  have n2 : bl ≠ bm := fun e => by rw [e, h4] at h5; cases h5
  have ho : once (pre ++ [x]) = once pre := by rw [once_snoc, if_pos ((mem_once _ _).2 hx)]
  have hg : W.grownBy W3 (some bm) := ⟨hos, htp, hop, hs, fun b hb hne => h3 b hb (fun e => hne (by rw [e]))⟩
  refine ⟨h1.grown hg h1.size (fun k hk => by cases hk; exact hbm), (h3 _ hbs n1).trans h2, hm, ⟨v, (h3 _ hbl n2).trans h5, ?_⟩, Nat.le_trans h7 hs⟩
  rw [ho]
  exact h6.kept hg (.inr fun e => by have := (h6.lt bm e).1; omega)

set_option maxHeartbeats 4000000 in
theorem tab_call (w0 : World) (bs bm bl B1 : Nat) (h0m : w0.heap.size ≤ bm) (h0l : w0.heap.size ≤ bl) (hmB : bm < B1) (hlB : bl < B1) (hsB : bs < B1) (hB0 : w0.heap.size ≤ B1) (pre : List Nm) (k n m d : Int) (W : World) (hJ : TabJ w0 bs bm bl B1 pre W) (hl : pre.length < 1048576) :
    Calls Try.prog 87 #[.agg #[.int .i64 k, .int .i64 n, .int .i64 m, .int .i64 d], .pointer (some ⟨bs, 0, none⟩), .pointer (some ⟨bl, 0, none⟩)] W fun e W' => e = .returned (.tuple #[]) ∧ TabJ w0 bs bm bl B1 (pre ++ [(k, n, m, d)]) W' ∧ KeepsD W W' := by
  obtain ⟨i0, hi, hz0, hz1, hz2⟩ := info_parts info_name
  have hbs := block_lt hJ.cellS
  have hbm := block_lt hJ.map
  obtain ⟨v, hv, hown⟩ := hJ.row
  have hbl := block_lt hv
  have n1 : bs ≠ bm := fun e => by have := hJ.cellS; rw [e, hJ.map] at this; cases this
  have n2 : bl ≠ bm := fun e => by rw [e, hJ.map] at hv; cases hv
  have n3 : bs ≠ bl := fun e => by have := hJ.cellS; rw [e, hv] at this; simp at this
  obtain ⟨W0, hW0, hb0, x0⟩ := box_any W #[.int .i64 k, .int .i64 n, .int .i64 m, .int .i64 d] 57
  have hJ0 := hJ.later hb0
  have hmap : W0.drew.heap[bm]? = some (mapObj (cntL pre)) := hJ0.map
  obtain ⟨st, V2, r1, r2, r3, r4, r5, q1, q2, q3, q4⟩ := map_more (k, n, m, d) hmap
  simp only [nv, goInt] at r1 r2 r3 r4 r5
  obtain ⟨V3, hV3⟩ : ∃ V3, V2.putObj bm (mapObj (cntL (pre ++ [(k, n, m, d)]))) = V3 := ⟨_, rfl⟩
  rw [hV3] at r4 r5 q4
  have hc1 : pre.count (k, n, m, d) ≤ pre.length := List.count_le_length
  have hcn : Hid (pre.count (k, n, m, d) = 0 ↔ (k, n, m, d) ∉ pre) := List.count_eq_zero
  obtain ⟨c, hc⟩ : ∃ c : Int, ((pre.count (k, n, m, d) : Nat) : Int) = c := ⟨_, rfl⟩
  have hc2 : 0 ≤ c := by omega
  have hc3 : c ≤ 1048576 := by omega
  have HCN : Hid (c = 0 ↔ (k, n, m, d) ∉ pre) := by
    unfold Hid
    rw [← hcn.out]; omega
  rw [hc] at r1 r2 r3 r4 r5
  have wc : IntKind.i64.wrap (c + 1) = c + 1 := IntWalk.i64_in _ (by omega)
  have hW3m : V3.heap[bm]? = some (mapObj (cntL (pre ++ [(k, n, m, d)]))) := by rw [q4]; exact World.putObj_heap_same (by show bm < W0.drew.heap.size; exact Nat.lt_of_lt_of_le hbm hb0.size)
  have hW3o : ∀ b, b ≠ bm → V3.heap[b]? = W0.heap[b]? := fun b hb => by rw [q4]; exact World.putObj_heap_other hb
  have hW3s : V3.heap.size = W0.heap.size := by rw [q4]; exact World.putObj_size
  have hW3e : V3.os = W0.os ∧ V3.tape = W0.tape ∧ V3.output = W0.output := by rw [q4]; exact ⟨rfl, rfl, rfl⟩
  have hxl := block_lt x0
  have nx : W.heap.size ≠ bm := by omega
  have s0 := (hb0.block bs hbs).trans hJ.cellS
  have S0 : W0.cell? ⟨bs, 0, none⟩ = some (.map (some bm)) := block_cell s0 0
  have X0 : W0.cell? ⟨W.heap.size, 0, none⟩ = some (.int .i64 k) := block_cell x0 0
  have X1 : W0.cell? ⟨W.heap.size, 1, none⟩ = some (.int .i64 n) := block_cell x0 1
  have X2 : W0.cell? ⟨W.heap.size, 2, none⟩ = some (.int .i64 m) := block_cell x0 2
  have X3 : W0.cell? ⟨W.heap.size, 3, none⟩ = some (.int .i64 d) := block_cell x0 3
  have f2 : ∀ b o, b ≠ bm → V2.cell? ⟨b, o, none⟩ = W0.cell? ⟨b, o, none⟩ := fun b o hb => World.cell?_of_block (q1 b hb)
  have f3 : ∀ b o, b ≠ bm → V3.cell? ⟨b, o, none⟩ = W0.cell? ⟨b, o, none⟩ := fun b o hb => World.cell?_of_block (hW3o b hb)
  have S2 := (f2 bs 0 n1).trans S0
  have Y0 := (f2 W.heap.size 0 nx).trans X0
  have Y1 := (f2 W.heap.size 1 nx).trans X1
  have Y2 := (f2 W.heap.size 2 nx).trans X2
  have Y3 := (f2 W.heap.size 3 nx).trans X3
  have S3 := (f3 bs 0 n1).trans S0
  have Z0 := (f3 W.heap.size 0 nx).trans X0
  have Z1 := (f3 W.heap.size 1 nx).trans X1
  have Z2 := (f3 W.heap.size 2 nx).trans X2
  have Z3 := (f3 W.heap.size 3 nx).trans X3
  have hvb := (hb0.block bl hbl).trans hv
  have L3 : V3.cell? ⟨bl, 0, none⟩ = some v := (f3 bl 0 n2).trans (block_cell hvb 0)
  have HVB : Hid (V3.heap[bl]? = some (.cells #[v] 52 (0, 0))) := (hW3o bl n2).trans hvb
  have HSB : Hid (V3.heap[bs]? = some (.cells #[.map (some bm)] 88 (0, 0))) := (hW3o bs n1).trans s0
  have HJ := Lib.hid hJ
  have HW0 := Lib.hid hW0
  have hlz : bl ≠ W.heap.size := by omega
  have HK3 : Hid (KeepsD W V3) := fun b cs hx => by
    have hbb := block_lt hx
    have hne : b ≠ bm := fun e => by rw [e, hJ.map] at hx; cases hx
    exact (hW3o b hne).trans ((hb0.block b hbb).trans hx)
  have HM3 := Lib.hid hW3m
  have HO3 : Hid (∀ b, b < W.heap.size → b ≠ bm → V3.heap[b]? = W.heap[b]?) := fun b hb hne => (hW3o b hne).trans (hb0.block b hb)
  have HZ3 : Hid (W.heap.size ≤ V3.heap.size ∧ V3.os = W.os ∧ V3.tape = W.tape ∧ V3.output = W.output) := ⟨by rw [hW3s]; exact hb0.size, hW3e.1.trans hb0.os, hW3e.2.1.trans hb0.tape, hW3e.2.2.trans hb0.output⟩
  have hg3 : W.grownBy V3 (some bm) := ⟨HZ3.out.2.1, HZ3.out.2.2.1, HZ3.out.2.2.2, HZ3.out.1, fun b hb hne => HO3.out b hb (fun e => hne (by rw [e]))⟩
  have HOW3 : Hid (V3.ownsRow B1 57 4 v (once pre).length (cellsN (once pre))) := hown.kept hg3 (.inr fun e => by have := (hown.lt bm e).1; omega)
  have HB3 : Hid (Below w0.heap.size w0 V3) := hJ.below.grown hg3 hJ.below.size (fun k hk => by cases hk; exact h0m)
  have HSZ : Hid (B1 ≤ V3.heap.size) := Nat.le_trans hJ.size HZ3.out.1
  have LF : V3.frozen? ⟨bl, 0, none⟩ = false := block_free HVB.out 0
  have hol : (once pre).length ≤ 1048576 := by have := once_len pre; omega
  have hVl : W.heap.size < V3.heap.size := by rw [hW3s]; exact hxl
  have HONE : Hid ((k, n, m, d) ∉ pre → once (pre ++ [(k, n, m, d)]) = once pre ++ [(k, n, m, d)]) := fun h => by rw [once_snoc, if_neg (fun e => h ((mem_once _ _).1 e))]
  obtain ⟨D, hD⟩ : ∃ D, W0.drew = D := ⟨_, rfl⟩
  have HD := Lib.hid hD
  have SD : D.cell? ⟨bs, 0, none⟩ = some (.map (some bm)) := by rw [← hD]; exact S0
  have XD0 : D.cell? ⟨W.heap.size, 0, none⟩ = some (.int .i64 k) := by rw [← hD]; exact X0
  have XD1 : D.cell? ⟨W.heap.size, 1, none⟩ = some (.int .i64 n) := by rw [← hD]; exact X1
  have XD2 : D.cell? ⟨W.heap.size, 2, none⟩ = some (.int .i64 m) := by rw [← hD]; exact X2
  have XD3 : D.cell? ⟨W.heap.size, 3, none⟩ = some (.int .i64 d) := by rw [← hD]; exact X3
  clear hD hV3 q4 q1 q2 q3 hW3m hW3o hW3s hW3e s0 hvb hv hJ hJ0 hmap hown hg3 hc hc1 hcn f2 f3 hW0 hb0 x0
  by_cases hx : (k, n, m, d) ∈ pre
  · have hcne : c ≠ 0 := fun e => HCN.out.1 e hx
    have t1 : (c + 1 == 1) = false := bno (by omega)
    have HX := Lib.hid hx
    clear hx hcne
    go_enter Try.func87, Try.ntmps87
    go_wp2_with fail
    rw [HW0.out]
    go_region_held3 (fun w' => w'.cell? ⟨bs, 0, none⟩ = some (.map (some bm)) ∧ w'.cell? ⟨W.heap.size, 0, none⟩ = some (.int .i64 k) ∧ w'.cell? ⟨W.heap.size, 1, none⟩ = some (.int .i64 n) ∧ w'.cell? ⟨W.heap.size, 2, none⟩ = some (.int .i64 m) ∧ w'.cell? ⟨W.heap.size, 3, none⟩ = some (.int .i64 d)) (first | exact ⟨S0, X0, X1, X2, X3⟩ | exact ⟨S2, Y0, Y1, Y2, Y3⟩ | exact ⟨S3, Z0, Z1, Z2, Z3⟩) (fail)
    all_goals
      clear r1 r2 r3 r4 S0 X0 X1 X2 X3 S2 Y0 Y1 Y2 Y3
      go_wp2_with fail
      go_end0
      exact ⟨rfl, tab_old HJ.out HX.out h0m hmB HZ3.out.1 HZ3.out.2.1 HZ3.out.2.2.1 HZ3.out.2.2.2 HO3.out HM3.out, HK3.out⟩
  · have hc0 : c = 0 := HCN.out.2 hx
    have t1 : (c + 1 == 1) = true := btrue (by omega)
    have HX := Lib.hid hx
    have hone := HONE.out hx
    have HON := Lib.hid hone
    clear hx hc0 hone
    have LA : (V3.alloc (.cells #[.int .i64 k, .int .i64 n, .int .i64 m, .int .i64 d] 57)).frozen? ⟨bl, 0, none⟩ = false := (frozen_past V3 _ ⟨bl, 0, none⟩ (block_lt HVB.out)).trans LF
    go_enter Try.func87, Try.ntmps87
    go_wp2_with fail
    rw [HW0.out]
    go_region_held3 (fun w' => w'.cell? ⟨bs, 0, none⟩ = some (.map (some bm)) ∧ w'.cell? ⟨W.heap.size, 0, none⟩ = some (.int .i64 k) ∧ w'.cell? ⟨W.heap.size, 1, none⟩ = some (.int .i64 n) ∧ w'.cell? ⟨W.heap.size, 2, none⟩ = some (.int .i64 m) ∧ w'.cell? ⟨W.heap.size, 3, none⟩ = some (.int .i64 d)) (first | exact ⟨S0, X0, X1, X2, X3⟩ | exact ⟨S2, Y0, Y1, Y2, Y3⟩ | exact ⟨S3, Z0, Z1, Z2, Z3⟩) (fail)
    all_goals
      clear r1 r2 r3 r4 S0 X0 X1 X2 X3 S2 Y0 Y1 Y2 Y3
      go_wp2_with (at_builtin; refine wpList_append_own _ rfl _ _ 52 rfl B1 57 i0 (.agg #[.int .i64 0, .int .i64 0, .int .i64 0, .int .i64 0]) 4 32 Try.underlying52 hi hz0 hz1 hz2 rfl (by decide) _ (once pre).length (cellsN (once pre)) rfl (HOW3.out.alloc _) ⟨V3.heap.size, 0, none⟩ 1 1 [.int .i64 k, .int .i64 n, .int .i64 m, .int .i64 d] rfl rfl (cell_four_new _ _ _ _ _ _) (one_four _ _ _ _) (by unfold maxLen; omega) (by omega) (by have := HSZ.out; simp; omega) ?_)
      intro v' w2 hown2 hgrow _
      obtain ⟨a', cap', rfl, hcap', _⟩ := own_slice2 hown2
      have hall : V3.grownBy w2 v.ownBlock := (World.grownBy_alloc V3 _ _).trans hgrow
      have hob : ∀ b, b < B1 → v.ownBlock ≠ some b := fun b hb e => by have := (HOW3.out.lt b e).1; omega
      have hl2 : w2.heap[bl]? = some (.cells #[v] 52 (0, 0)) := (hall.block bl (block_lt HVB.out) (Ne.symm (hob bl hlB))).trans HVB.out
      have hs2 : w2.heap[bs]? = some (.cells #[.map (some bm)] 88 (0, 0)) := (hall.block bs (block_lt HSB.out) (Ne.symm (hob bs hsB))).trans HSB.out
      have hm2 : w2.heap[bm]? = some (mapObj (cntL (pre ++ [(k, n, m, d)]))) := (hall.block bm (block_lt HM3.out) (Ne.symm (hob bm hmB))).trans HM3.out
      have hb2 : Below w0.heap.size w0 w2 := HB3.out.grown hall HB3.out.size (fun k hk => by have := (HOW3.out.lt k hk).1; omega)
      have hlc : w2.cell? ⟨bl, 0, none⟩ = some v := block_cell hl2 0
      have hlf : w2.frozen? ⟨bl, 0, none⟩ = false := block_free hl2 0
      have hsz2 : B1 ≤ w2.heap.size := Nat.le_trans HSZ.out hall.size
      have HFIN : Hid (TabJ w0 bs bm bl B1 (pre ++ [(k, n, m, d)]) (w2.setCell ⟨bl, 0, none⟩ (.slice a' ((once pre).length + 1) cap'))) := by
        refine ⟨hb2.setCell (p := ⟨bl, 0, none⟩) h0l _, ?_, ?_, ⟨.slice a' ((once pre).length + 1) cap', ?_, ?_⟩, by rw [set_size]; exact hsz2⟩
        · rw [set_far _ _ _ _ n3]; exact hs2
        · rw [set_far _ _ _ _ (Ne.symm n2)]; exact hm2
        · exact block_set hl2 0 _
        · rw [HON.out, cellsN_append, List.length_append]
          exact ownsRow_setCell_other (a := ⟨bl, 0, none⟩) hown2 (fun e => by
            have := (hown2.lt bl e).1
            omega) _
      have HKF : Hid (KeepsD W (w2.setCell ⟨bl, 0, none⟩ (.slice a' ((once pre).length + 1) cap'))) := fun b cs hx => by
        have h3 := HK3.out b cs hx
        have hne : b ≠ bl := fun e => by rw [e, HVB.out] at h3; simp at h3
        have hno : v.ownBlock ≠ some b := own_type HOW3.out h3 (by decide)
        rw [set_far _ _ _ _ hne]
        exact (hall.block b (block_lt h3) (Ne.symm hno)).trans h3
      clear hown2 hgrow hall hl2 hs2 hm2 hb2 hob
      go_wp2_with fail
      go_end0
      exact ⟨rfl, HFIN.out, HKF.out⟩

/-- Why tables may not be asked for; 0: they may. -/
def errN (t : Tr) (dir : Int) : Int := if dir ≠ 0 ∧ dir ≠ 1 then 2 else chk t
theorem errN_zero {t : Tr} {dir : Int} (h : errN t dir = 0) : (dir = 0 ∨ dir = 1) ∧ chk t = 0 ∧ namesB t dir = t.names dir := by
  unfold errN at h
  by_cases hd : dir ≠ 0 ∧ dir ≠ 1
  · rw [if_pos hd] at h; omega
  · rw [if_neg hd] at h
    exact ⟨by omega, h, if_neg (fun h2 => h2.elim hd (fun h3 => h3 h))⟩
theorem errN_no {t : Tr} {dir : Int} (h : errN t dir ≠ 0) : namesB t dir = [] := by
  unfold errN at h
  by_cases hd : dir ≠ 0 ∧ dir ≠ 1
  · exact if_pos (.inl hd)
  · rw [if_neg hd] at h
    exact if_pos (.inr h)
/-- A result: names in a new row, and an error's number. -/
def GivesTab (C : Int) (xs : List Nm) (w : World) (e : Ending) (w' : World) : Prop :=
  ∃ a cap, e = .returned (.tuple #[.slice a xs.length cap, .int .i64 C]) ∧ w'.ownsRow w.heap.size 57 4 (.slice a xs.length cap) xs.length (cellsN xs) ∧ Below w.heap.size w w'
theorem own_low {w : World} {B B' : Nat} {e : TypeId} {s : Nat} {v : Value} {n : Nat} {xs : List Value} (h : w.ownsRow B e s v n xs) (hB : B' ≤ B) : w.ownsRow B' e s v n xs := by
  refine ⟨h.1, ?_⟩
  rcases h.2 with ⟨h1, h2⟩ | ⟨g, cap, cur, h1, h2, h3⟩
  · exact .inl ⟨h1, h2⟩
  · exact .inr ⟨g, cap, cur, h1, Nat.le_trans hB h2, h3⟩
theorem tab_boxes (w : World) (T M : TypeId) : ∃ W0, ((w.alloc (.cells #[.slice none 0 0] T)).alloc (.map #[] 0)).alloc (.cells #[.map (some (w.heap.size + 1))] M) = W0 ∧ Below w.heap.size w W0 ∧ W0.heap.size = w.heap.size + 3 ∧
      W0.heap[w.heap.size]? = some (.cells #[.slice none 0 0] T (0, 0)) ∧ W0.heap[w.heap.size + 1]? = some (.map #[] 0) ∧ W0.heap[w.heap.size + 1 + 1]? = some (.cells #[.map (some (w.heap.size + 1))] M (0, 0)) :=
  ⟨_, rfl, (((Below.refl _ _).alloc (Nat.le_refl _) _).alloc (by simp) _).alloc (by simp <;> omega) _, by simp, block_old (by simp <;> omega) (block_old (by simp) (block_new rfl)), block_old (by simp) (block_new (by simp)), block_new (by simp)⟩

set_option maxHeartbeats 4000000 in
theorem need_Tables (t : Tr) (k n : Int) (a : Option Addr) (m cap : Nat) (dir : Int) (w : World) (F : Nat → Prop) (hs : t.size ≤ 4194304) (hT : IsT w F k n a m cap t) :
    Calls Try.prog 36 #[.agg #[.int .i64 k, .int .i64 n, .slice a m cap], .int .i64 dir] w (GivesTab (errN t dir) (once (namesB t dir)) w) := by
  have CK : Hid (∀ W, Below w.heap.size w W → Calls Try.prog 85 #[.agg #[.int .i64 k, .int .i64 n, .slice a m cap], .int .i64 dir] W fun e w' => e = .returned (.int .i64 (errN t dir)) ∧ Below W.heap.size W w') := fun W hb => need_check t k n a m cap dir W F hs (hT.below hb)
  have HT := Lib.hid hT.lt
  have HS := Lib.hid hs
  have hmm := @run_makeMap Try.prog
  have hyes : errN t dir = 0 → (dir = 0 ∨ dir = 1) ∧ chk t = 0 ∧ namesB t dir = t.names dir := errN_zero
  have hno : errN t dir ≠ 0 → namesB t dir = [] := errN_no
  obtain ⟨C, hC⟩ : ∃ C, errN t dir = C := ⟨_, rfl⟩
  rw [hC] at CK hyes hno ⊢
  obtain ⟨W0, hW0, hb0, x0⟩ := box_any w #[.int .i64 k, .int .i64 n, .slice a m cap] 24
  have HW0 := Lib.hid hW0
  have HB := Lib.hid hb0
  have XD := Lib.hid x0
  have D0 : W0.cell? ⟨w.heap.size, 0, none⟩ = some (.int .i64 k) := block_cell x0 0
  have D1 : W0.cell? ⟨w.heap.size, 1, none⟩ = some (.int .i64 n) := block_cell x0 1
  have D2 : W0.cell? ⟨w.heap.size, 2, none⟩ = some (.slice a m cap) := block_cell x0 2
  clear hT hs hC hW0 hb0 x0
  by_cases hc : C = 0
  · subst hc
    obtain ⟨hd, hck, hnm⟩ := hyes rfl
    rw [hnm]
    have hsz : t.size ≤ 60 := (chk_zero.1 hck).1.1
    have CE : Hid (∀ w1 : World, Below w.heap.size w w1 → ∀ W, TabJ w (w1.heap.size + 1 + 1) (w1.heap.size + 1) w1.heap.size (w1.heap.size + 3) [] W → Calls Try.prog 86 #[.agg #[.int .i64 k, .int .i64 n, .slice a m cap], .int .i64 dir, .func (.func 87) #[] #[.pointer (some ⟨w1.heap.size + 1 + 1, 0, none⟩), .pointer (some ⟨w1.heap.size, 0, none⟩)]] W (EachEnds (TabJ w (w1.heap.size + 1 + 1) (w1.heap.size + 1) w1.heap.size (w1.heap.size + 3)) ([] ++ t.names dir) W)) :=
      fun w1 hb1 W hJ => need_each _ _ _ w w.heap.size 1048576 _ ⟨fun pre W h => h.below, fun pre W W' h hb => h.later hb, fun pre k n m d W h hl _ => tab_call w _ _ _ _ (by have := hb1.size; omega) hb1.size (by omega) (by omega) (by omega) (by have := hb1.size; omega) pre k n m d W h hl, enters_of Try.func87 (by kernel_rfl) rfl⟩ (Nat.le_refl _) 4194304 (by omega) t k n a m cap dir [] W HS.out HT.out (chk_zero.1 hck).2 hd hJ (by simp only [List.length_nil]; omega)
    clear hyes hno hck hnm hd hsz
    go_enter Try.func36, Try.ntmps36
    go_wp2_with fail
    rw [HW0.out]
    refine (CK.out _ HB.out).mono ?_; rintro e w1 ⟨rfl, hb⟩
    have HB1 := Lib.hid (chain HB.out hb)
    have XD1 := Lib.hid ((hb.block _ (block_lt XD.out)).trans XD.out)
    clear hb D0 D1 D2
    obtain ⟨V, hV, hbV, hsV, v0, v1, v2⟩ := tab_boxes w1 52 88
    have HV := Lib.hid hV
    have HJ : Hid (TabJ w (w1.heap.size + 1 + 1) (w1.heap.size + 1) w1.heap.size (w1.heap.size + 3) [] V) :=
      ⟨chain HB1.out hbV, v2, v1, ⟨_, v0, World.ownsRow_nil _ _ _ _⟩, by rw [hsV]; omega⟩
    have xdl := block_lt XD1.out
    have xdv := (hbV.block _ xdl).trans XD1.out
    have e0 : V.cell? ⟨w.heap.size, 0, none⟩ = some (.int .i64 k) := block_cell xdv 0
    have e1 : V.cell? ⟨w.heap.size, 1, none⟩ = some (.int .i64 n) := block_cell xdv 1
    have e2 : V.cell? ⟨w.heap.size, 2, none⟩ = some (.slice a m cap) := block_cell xdv 2
    rw [← hV] at e0 e1 e2
    have HB1s := HB1.out.size
    clear hV hbV hsV v0 v1 v2 xdv
    go_wp2_with fail
    rw [HV.out]
    refine (CE.out w1 HB1.out _ HJ.out).mono ?_; rintro e w2 ⟨rfl, hj, hk⟩
    rw [List.nil_append] at hj
    obtain ⟨v, hv, hown⟩ := hj.row
    obtain ⟨av, cv, rfl, hcv, _⟩ := own_slice2 hown
    have l0 : w2.cell? ⟨w1.heap.size, 0, none⟩ = some (.slice av (once (t.names dir)).length cv) := block_cell hv 0
    have HOW := Lib.hid (own_low (B' := w.heap.size) hown (by omega))
    have HBE := Lib.hid hj.below
    clear hj hk hv hown e0 e1 e2
    go_wp2_with fail
    go_ret2
    exact ⟨av, cv, rfl, HOW.out, HBE.out⟩
  · have t1 : (C != 0) = true := bdiff hc
    rw [hno hc]
    clear hyes hno
    go_enter Try.func36, Try.ntmps36
    go_wp2_with fail
    rw [HW0.out]
    refine (CK.out _ HB.out).mono ?_; rintro e w1 ⟨rfl, hb⟩
    have HB1 := Lib.hid (chain HB.out hb)
    clear hb D0 D1 D2
    go_wp2_with fail
    go_ret2
    exact ⟨none, 0, rfl, World.ownsRow_nil _ _ _ _, HB1.out⟩
end Go.Proofs.Ytncikklhchimdaa
