/- The law of names of tables: the page's example, the walk. -/
import Derived.Test.YtncikklhchimdaaNeedB
import Derived.Test.YtncikklhchimdaaNeedG
import Derived.Test.YtncikklhchimdaaCostF
namespace Go.Proofs.Ytncikklhchimdaa
open Go.RowKit
set_option linter.unusedVariables false
set_option linter.unusedSimpArgs false
set_option maxRecDepth 100000
set_option maxRecDepth 20000

def exN : Tr := .node 6 5 [.node 3 4 []]
theorem exN_nodes : exN.nodes = [exN, .node 3 4 []] := by simp [exN, Tr.nodes, Tr.nodesL]
theorem exN_ok : chk exN = 0 := by
  rw [chk_zero]
  refine ⟨by simp [exN, Tr.size, Tr.sizeL, Tr.depth, Tr.depthL], fun u hu => ?_⟩
  rw [exN_nodes] at hu
  simp only [List.mem_cons, List.not_mem_nil, or_false] at hu
  rcases hu with rfl | rfl
  · show nodeB 6 5 1 4 0 = true
    decide +kernel
  · show nodeB 3 4 0 0 0 = true
    decide +kernel
theorem exN_names : namesB exN 1 = [(3, 5, 0, 1), (1, 4, 0, 0)] := by
  unfold namesB
  rw [if_neg (by rw [exN_ok]; omega)]
  simp [exN, Tr.names, Tr.namesL, nmOwn, nmBelow]
theorem exN_once : once (namesB exN 1) = [(3, 5, 0, 1), (1, 4, 0, 0)] := by rw [exN_names]; decide
theorem exN_err : errN exN 1 = 0 := by unfold errN; rw [if_neg (by omega), exN_ok]
theorem exN_room : roomN (3, 5, 0, 1) = 4 := by
  have h : rightB (3, 5, 0, 1) = true := by decide +kernel
  rw [roomN_yes h]; rfl
theorem exN_is {w : World} {b : Nat} {T : TypeId} (h : w.heap[b]? = some (.cells #[.int .i64 3, .int .i64 4, .slice none 0 0] T (0, 0))) : IsT w (fun _ => True) 6 5 (some ⟨b, 0, none⟩) 1 1 exN := by
  refine ⟨rfl, rfl, rfl, ?_, ?_⟩
  · simp only [exN, Tr.Ok, Tr.OkL]
    refine ⟨fits_i64.2 (by omega), fits_i64.2 (by omega), ⟨fits_i64.2 (by omega), fits_i64.2 (by omega), trivial⟩, trivial⟩
  · show Kids w _ (some ⟨b, 0, none⟩) 1 [.node 3 4 []]
    refine .row b 0 1 [.node 3 4 []] (fun _ => none) (fun _ => 0) (by simp) (by simp) trivial (fun i hi => ?_) (fun i hi => ?_) (fun i hi => ?_) (fun i hi => ?_)
    all_goals
      obtain rfl : i = 0 := by simp at hi; omega
    · exact block_cell h 0
    · exact block_cell h 1
    · exact block_cell h 2
    · exact .nil

set_option maxHeartbeats 2000000 in
theorem live15 (w : World) : Calls Try.prog 35 #[] w fun e w' => e = .returned (.bool true) ∧ Below w.heap.size w w' := by
  obtain ⟨W0, hW0, hb0, x0, x1⟩ := two_boxes w #[.int .i64 3, .int .i64 4, .slice none 0 0] #[.int .i64 6, .int .i64 5, .slice (some ⟨w.heap.size, 0, none⟩) 1 1] 24 24
  have HW0 := Lib.hid hW0
  have HB := Lib.hid hb0
  have CT : Hid (Calls Try.prog 36 #[.agg #[.int .i64 6, .int .i64 5, .slice (some ⟨w.heap.size, 0, none⟩) 1 1], .int .i64 1] W0 (GivesTab 0 [(3, 5, 0, 1), (1, 4, 0, 0)] W0)) := by
    have := need_Tables exN 6 5 _ 1 1 1 W0 _ (by simp [exN, Tr.size, Tr.sizeL]) (exN_is x0)
    rwa [exN_err, exN_once] at this
  have CR : Hid (∀ W, Calls Try.prog 47 #[.agg #[.int .i64 3, .int .i64 5, .int .i64 0, .int .i64 1]] W fun e w' => e = .returned (.int .i64 4) ∧ Below W.heap.size W w') := fun W => by
    have := need_Room 3 5 0 1 W (nmOk_mk (by omega) (by omega) (by omega) (by omega))
    rwa [exN_room] at this
  clear hW0 hb0 x0 x1
  go_enter Try.func35, Try.ntmps35
  go_wp2_with fail
  rw [HW0.out]
  refine CT.out.mono ?_; rintro e w1 ⟨a, cap, rfl, hown, hb1⟩
  have HB1 := Lib.hid (chain HB.out hb1)
  obtain ⟨av, cv, e1, _, hg⟩ := own_slice2 hown
  obtain ⟨g, hg⟩ := hg (by simp)
  simp only [Value.slice.injEq] at e1
  obtain ⟨rfl, _, rfl⟩ := e1
  subst hg
  have hrow := RowN.of_own hown rfl
  obtain ⟨b, off, e2, hbl, c0, c1, c2, c3⟩ := hrow.at 0 (by simp)
  simp only [Option.some.injEq, Addr.mk.injEq, and_true] at e2
  obtain ⟨rfl, rfl⟩ := e2
  rw [show nmAt [(3, 5, 0, 1), (1, 4, 0, 0)] 0 = ((3, 5, 0, 1) : Nm) from rfl] at c0 c1 c2 c3
  simp only [Nat.zero_mul, Nat.zero_add] at c0 c1 c2 c3
  obtain ⟨V, hV, hbV, v0⟩ := box_any w1 #[.int .i64 3, .int .i64 5, .int .i64 0, .int .i64 1, .int .i64 1, .int .i64 4, .int .i64 0, .int .i64 0] 57
  have HV := Lib.hid hV
  have hlit : RowN V (some ⟨w1.heap.size, 0, none⟩) [(3, 5, 0, 1), (1, 4, 0, 0)] := by
    refine .inr ⟨w1.heap.size, 0, rfl, block_lt v0, fun i hi => ?_⟩
    match i, hi with
    | 0, _ => exact ⟨block_cell v0 0, block_cell v0 1, block_cell v0 2, block_cell v0 3⟩
    | 1, _ => exact ⟨block_cell v0 4, block_cell v0 5, block_cell v0 6, block_cell v0 7⟩
  have CS : Hid (Calls Try.prog 43 #[.slice (some ⟨g, 0, none⟩) 2 cap, .slice (some ⟨w1.heap.size, 0, none⟩) 2 2] V fun e w' => e = .returned (.bool true) ∧ Below V.heap.size V w') := by
    have := ref15_Same [(3, 5, 0, 1), (1, 4, 0, 0)] [(3, 5, 0, 1), (1, 4, 0, 0)] (some ⟨g, 0, none⟩) 2 cap (some ⟨w1.heap.size, 0, none⟩) 2 2 V (hrow.below hbV) rfl hlit rfl (by omega) (by omega)
    rwa [decide_eq_true rfl] at this
  have C0 := Lib.hid c0
  have C1 := Lib.hid c1
  have C2 := Lib.hid c2
  have C3 := Lib.hid c3
  have HBV := Lib.hid hbV
  simp only [List.length_cons, List.length_nil, Nat.zero_add, Nat.reduceAdd]
  clear hown hb1 hrow hlit v0 hV hbV c0 c1 c2 c3
  go_wp2_with fail
  rw [HV.out]
  refine CS.out.mono ?_; rintro e w2 ⟨rfl, hb2⟩
  have hb3 := chain HBV.out hb2
  have c0 := (hb3.cell (p := ⟨g, 0, none⟩) hbl).trans C0.out
  have c1 := (hb3.cell (p := ⟨g, 1, none⟩) hbl).trans C1.out
  have c2 := (hb3.cell (p := ⟨g, 2, none⟩) hbl).trans C2.out
  have c3 := (hb3.cell (p := ⟨g, 3, none⟩) hbl).trans C3.out
  have HB3 := Lib.hid (chain HB1.out hb3)
  clear hb2 hb3
  go_wp2_with fail
  refine (CR.out _).mono ?_; rintro e w3 ⟨rfl, hb4⟩
  have HB4 := Lib.hid (chain HB3.out hb4)
  clear hb4 c0 c1 c2 c3
  go_wp2_with fail
  go_ret
  exact ⟨rfl, HB4.out⟩
end Go.Proofs.Ytncikklhchimdaa

namespace Go.Proofs.Ytncikklhchimdaa
open Go.RowKit
set_option linter.unusedVariables false
set_option linter.unusedSimpArgs false
set_option maxRecDepth 20000

set_option maxHeartbeats 4000000 in
theorem needNamesW (k n m d k' n' m' d' : Int) (w : World) (h1 : fits .i64 k) (h2 : fits .i64 n) (h3 : fits .i64 m) (h4 : fits .i64 d) (h5 : fits .i64 k') (h6 : fits .i64 n') (h7 : fits .i64 m') (h8 : fits .i64 d') :
    Calls Try.prog 10 #[.agg #[.int .i64 k, .int .i64 n, .int .i64 m, .int .i64 d], .agg #[.int .i64 k', .int .i64 n', .int .i64 m', .int .i64 d']] w fun e w' => e = .returned (.bool true) ∧ Below w.heap.size w w' := by
  have hx : NmOk (k, n, m, d) := ⟨fits_i64.1 h1, fits_i64.1 h2, fits_i64.1 h3, fits_i64.1 h4⟩
  have hy : NmOk (k', n', m', d') := ⟨fits_i64.1 h5, fits_i64.1 h6, fits_i64.1 h7, fits_i64.1 h8⟩
  have R0 : Hid (∀ W, Calls Try.prog 46 #[.agg #[.int .i64 k, .int .i64 n, .int .i64 m, .int .i64 d]] W fun e w' => e = .returned (.bool (rightB (k, n, m, d))) ∧ Below W.heap.size W w') := fun W => need_Right k n m d W hx
  have R1 : Hid (∀ W, Calls Try.prog 45 #[.agg #[.int .i64 k, .int .i64 n, .int .i64 m, .int .i64 d]] W fun e w' => e = .returned (.bool (rightB (k, n, m, d))) ∧ Below W.heap.size W w') := fun W => ref15_Right k n m d W hx
  have M0 : Hid (∀ W, Calls Try.prog 47 #[.agg #[.int .i64 k, .int .i64 n, .int .i64 m, .int .i64 d]] W fun e w' => e = .returned (.int .i64 (roomN (k, n, m, d))) ∧ Below W.heap.size W w') := fun W => need_Room k n m d W hx
  have M1 : Hid (∀ W, Calls Try.prog 48 #[.agg #[.int .i64 k, .int .i64 n, .int .i64 m, .int .i64 d]] W fun e w' => e = .returned (.int .i64 (roomN (k, n, m, d))) ∧ Below W.heap.size W w') := fun W => ref15_Room k n m d W hx
  have C0 : Hid (∀ W, Calls Try.prog 49 #[.agg #[.int .i64 k, .int .i64 n, .int .i64 m, .int .i64 d], .agg #[.int .i64 k', .int .i64 n', .int .i64 m', .int .i64 d']] W fun e w' => e = .returned (.int .i64 (cmpN (k, n, m, d) (k', n', m', d'))) ∧ Below W.heap.size W w') := fun W => need_Cmp _ _ _ _ _ _ _ _ W
  have C1 : Hid (∀ W, Calls Try.prog 49 #[.agg #[.int .i64 k', .int .i64 n', .int .i64 m', .int .i64 d'], .agg #[.int .i64 k, .int .i64 n, .int .i64 m, .int .i64 d]] W fun e w' => e = .returned (.int .i64 (- cmpN (k, n, m, d) (k', n', m', d'))) ∧ Below W.heap.size W w') := fun W => by rw [← cmpN_neg]; exact need_Cmp _ _ _ _ _ _ _ _ W
  have C2 : Hid (∀ W, Calls Try.prog 50 #[.agg #[.int .i64 k, .int .i64 n, .int .i64 m, .int .i64 d], .agg #[.int .i64 k', .int .i64 n', .int .i64 m', .int .i64 d']] W fun e w' => e = .returned (.int .i64 (cmpN (k, n, m, d) (k', n', m', d'))) ∧ Below W.heap.size W w') := fun W => ref15_Cmp _ _ _ _ _ _ _ _ W hx hy
  have bd := cmpN_bd (k, n, m, d) (k', n', m', d')
  obtain ⟨c, hc⟩ : ∃ c, cmpN (k, n, m, d) (k', n', m', d') = c := ⟨_, rfl⟩
  rw [hc] at C0 C1 C2 bd
  obtain ⟨R, hR⟩ : ∃ R, rightB (k, n, m, d) = R := ⟨_, rfl⟩
  rw [hR] at R0 R1
  obtain ⟨M, hM⟩ : ∃ M, roomN (k, n, m, d) = M := ⟨_, rfl⟩
  rw [hM] at M0 M1
  have hN : IntKind.i64.wrap (-c) = -c := IntWalk.i64_in _ (by omega)
  have d1 : (R == R) = true := by simp
  have d2 : (M == M) = true := by simp
  have d3 : (c == c) = true := by simp
  have d4 : (-c == -c) = true := by simp
  clear hc hR hM hx hy h1 h2 h3 h4 h5 h6 h7 h8 bd
  obtain ⟨W0, hW0, hb0, x0, x1⟩ := two_boxes w #[.int .i64 k, .int .i64 n, .int .i64 m, .int .i64 d] #[.int .i64 k', .int .i64 n', .int .i64 m', .int .i64 d'] 57 57
  have HB := Lib.hid hb0
  have HW0 := Lib.hid hW0
  have XD := Lib.hid x0
  have XE := Lib.hid x1
  clear hb0 hW0 x0 x1
  go_enter Try.func10, Try.ntmps10
  go_wp2_with fail
  rw [HW0.out]
  have D0 : W0.cell? ⟨w.heap.size, 0, none⟩ = some (.int .i64 k) := block_cell XD.out 0
  have D1 : W0.cell? ⟨w.heap.size, 1, none⟩ = some (.int .i64 n) := block_cell XD.out 1
  have D2 : W0.cell? ⟨w.heap.size, 2, none⟩ = some (.int .i64 m) := block_cell XD.out 2
  have D3 : W0.cell? ⟨w.heap.size, 3, none⟩ = some (.int .i64 d) := block_cell XD.out 3
  have E0 : W0.cell? ⟨w.heap.size + 1, 0, none⟩ = some (.int .i64 k') := block_cell XE.out 0
  have E1 : W0.cell? ⟨w.heap.size + 1, 1, none⟩ = some (.int .i64 n') := block_cell XE.out 1
  have E2 : W0.cell? ⟨w.heap.size + 1, 2, none⟩ = some (.int .i64 m') := block_cell XE.out 2
  have E3 : W0.cell? ⟨w.heap.size + 1, 3, none⟩ = some (.int .i64 d') := block_cell XE.out 3
  have lD := block_lt XD.out
  have lE := block_lt XE.out
  have hb : Below W0.heap.size W0 W0.drew := (Below.refl _ _).drew
  go_region_held3 (fun w' => (w'.cell? ⟨w.heap.size, 0, none⟩ = some (.int .i64 k) ∧ w'.cell? ⟨w.heap.size, 1, none⟩ = some (.int .i64 n) ∧ w'.cell? ⟨w.heap.size, 2, none⟩ = some (.int .i64 m) ∧ w'.cell? ⟨w.heap.size, 3, none⟩ = some (.int .i64 d)) ∧ (w'.cell? ⟨w.heap.size + 1, 0, none⟩ = some (.int .i64 k') ∧ w'.cell? ⟨w.heap.size + 1, 1, none⟩ = some (.int .i64 n') ∧ w'.cell? ⟨w.heap.size + 1, 2, none⟩ = some (.int .i64 m') ∧ w'.cell? ⟨w.heap.size + 1, 3, none⟩ = some (.int .i64 d'))) (first | exact ⟨⟨D0, D1, D2, D3⟩, ⟨E0, E1, E2, E3⟩⟩ | exact ⟨⟨(hb.cell (p := ⟨w.heap.size, 0, none⟩) lD).trans D0, (hb.cell (p := ⟨w.heap.size, 1, none⟩) lD).trans D1, (hb.cell (p := ⟨w.heap.size, 2, none⟩) lD).trans D2, (hb.cell (p := ⟨w.heap.size, 3, none⟩) lD).trans D3⟩, ⟨(hb.cell (p := ⟨w.heap.size + 1, 0, none⟩) lE).trans E0, (hb.cell (p := ⟨w.heap.size + 1, 1, none⟩) lE).trans E1, (hb.cell (p := ⟨w.heap.size + 1, 2, none⟩) lE).trans E2, (hb.cell (p := ⟨w.heap.size + 1, 3, none⟩) lE).trans E3⟩⟩) ((first | (go_at_call 46; ((with_reducible refine (R0.out _).mono ?_); rintro e z1 ⟨rfl, hc⟩; have hb := chain hb hc)) | (go_at_call 45; ((with_reducible refine (R1.out _).mono ?_); rintro e z1 ⟨rfl, hc⟩; have hb := chain hb hc)) | (go_at_call 47; ((with_reducible refine (M0.out _).mono ?_); rintro e z1 ⟨rfl, hc⟩; have hb := chain hb hc)) | (go_at_call 48; ((with_reducible refine (M1.out _).mono ?_); rintro e z1 ⟨rfl, hc⟩; have hb := chain hb hc)) | (go_at_call 49; ((with_reducible refine (C0.out _).mono ?_); rintro e z1 ⟨rfl, hc⟩; have hb := chain hb hc)) | (go_at_call 49; ((with_reducible refine (C1.out _).mono ?_); rintro e z1 ⟨rfl, hc⟩; have hb := chain hb hc)) | (go_at_call 50; ((with_reducible refine (C2.out _).mono ?_); rintro e z1 ⟨rfl, hc⟩; have hb := chain hb hc)) | (go_at_call 35; ((with_reducible refine (live15 _).mono ?_); rintro e z1 ⟨rfl, hc⟩; have hb := chain hb hc))))
  clear lD lE
  clear D0 D1 D2 D3 E0 E1 E2 E3
  have XD := Lib.hid ((hb.block _ (block_lt XD.out)).trans XD.out)
  have XE := Lib.hid ((hb.block _ (block_lt XE.out)).trans XE.out)
  have HB := Lib.hid (chain HB.out hb)
  clear hb
  go_wp2_with fail
  go_ret
  exact ⟨rfl, HB.out⟩
end Go.Proofs.Ytncikklhchimdaa
