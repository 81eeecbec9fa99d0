/- The law of plans: the walk. -/
import Derived.Test.YtncikklhchimdaaValH
import Derived.Deep.RegionHeld3
namespace Go.Proofs.Ytncikklhchimdaa
open Go.RowKit
set_option linter.unusedVariables false
set_option linter.unusedSimpArgs false
set_option maxRecDepth 100000
set_option maxRecDepth 20000

theorem GivesWr.row {r : Option (List Int)} {w : World} {e : Ending} {w' : World} (h : GivesWr [] r w e w') : ∃ a l c, e = .returned (.tuple #[.slice a l c, .bool r.isSome]) ∧ (r.getD []).length = l ∧ Row .i64 w' a (r.getD []) ∧ Below w.heap.size w w' := by
  cases r with
  | none => exact ⟨none, 0, 0, h.1, rfl, Row.nil _ _ _, h.2⟩
  | some q =>
    obtain ⟨a, l, c, h1, h2, h3, _, h5⟩ := h
    exact ⟨a, l, c, h1, h2, h3, h5⟩

theorem desc_key (w : World) (K D k n : Int) (a : Option Addr) (m c : Nat) (T U : TypeId) :
    ∃ W0, (w.alloc (.cells #[.int .i64 k, .int .i64 n, .slice a m c] U)).alloc (.cells #[.int .i64 K, .int .i64 D] T) = W0 ∧ Below w.heap.size w W0 ∧
      W0.heap[w.heap.size]? = some (.cells #[.int .i64 k, .int .i64 n, .slice a m c] U (0, 0)) ∧ W0.heap[w.heap.size + 1]? = some (.cells #[.int .i64 K, .int .i64 D] T (0, 0)) :=
  ⟨_, rfl, ((Below.refl _ _).alloc (Nat.le_refl _) _).alloc (by simp) _, block_old (by simp) (block_new rfl), block_new (by simp)⟩

set_option maxHeartbeats 1000000 in
theorem validTells_big (t : Tr) (k n : Int) (a : Option Addr) (m c : Nat) (K D : Int) (w : World) (hs : t.size ≤ 4194304) (hT : IsT w (Lt w.heap.size) k n a m c t) (h : 80 < t.size) :
    Calls Try.prog 4 #[.agg #[.int .i64 k, .int .i64 n, .slice a m c], .agg #[.int .i64 K, .int .i64 D]] w fun e w' => e = .returned (.bool true) ∧ Below w.heap.size w w' := by
  have CM : Hid (∀ W, Below w.heap.size w W → Calls Try.prog 14 #[.agg #[.int .i64 k, .int .i64 n, .slice a m c]] W fun e w' => e = .returned (.bool true) ∧ Below W.heap.size W w') := fun W hb => by
    have := ref_Much t _ _ _ _ _ W w.heap.size hs (hT.below hb) hb.size
    rwa [show decide (80 < t.size) = true by simp; omega] at this
  clear hT hs h
  obtain ⟨W0, hW0, hb0, x0, x1⟩ := desc_key w K D k n a m c 35 24
  have HW0 := Lib.hid hW0
  have HB := Lib.hid hb0
  clear hW0 hb0 x0 x1
  go_enter Try.func4, Try.ntmps4
  go_wp2_with fail
  rw [HW0.out]
  refine (CM.out _ HB.out).mono ?_; rintro e w1 ⟨rfl, hb1⟩
  have HB := Lib.hid (chain HB.out hb1)
  clear hb1
  go_wp2_with fail
  refine (live14 _).mono ?_; rintro e w2 ⟨rfl, hb2⟩
  have hbe := chain HB.out hb2
  clear hb2
  go_wp2_with fail
  go_ret
  exact ⟨rfl, hbe⟩

set_option maxHeartbeats 4000000 in
theorem validTells_ok (t : Tr) (k n : Int) (a : Option Addr) (m c : Nat) (K D : Int) (w : World) (hs : t.size ≤ 80) (hK : -9223372036854775808 ≤ K ∧ K < 9223372036854775808) (hT : IsT w (Lt w.heap.size) k n a m c t) :
    Calls Try.prog 4 #[.agg #[.int .i64 k, .int .i64 n, .slice a m c], .agg #[.int .i64 K, .int .i64 D]] w fun e w' => e = .returned (.bool true) ∧ Below w.heap.size w w' := by
  have hs4 : t.size ≤ 4194304 := by omega
  have CM : Hid (∀ W, Below w.heap.size w W → Calls Try.prog 14 #[.agg #[.int .i64 k, .int .i64 n, .slice a m c]] W fun e w' => e = .returned (.bool false) ∧ Below W.heap.size W w') := fun W hb => by
    have := ref_Much t _ _ _ _ _ W w.heap.size hs4 (hT.below hb) hb.size
    rwa [show decide (80 < t.size) = false by simp; omega] at this
  have CVW : Hid (∀ W, Below w.heap.size w W → Calls Try.prog 19 #[.agg #[.int .i64 k, .int .i64 n, .slice a m c]] W fun e w' => ∃ a l c, e = .returned (.tuple #[.slice a l c, .bool t.wrong.isSome]) ∧ (t.wrong.getD []).length = l ∧ Row .i64 w' a (t.wrong.getD []) ∧ Below W.heap.size W w') := fun W hb =>
    (valid_Wrong t k n a m c W _ hs4 (hT.below hb)).mono fun e w' h => h.row
  have CRW : Hid (∀ W, Below w.heap.size w W → Calls Try.prog 20 #[.agg #[.int .i64 k, .int .i64 n, .slice a m c]] W fun e w' => ∃ a l c, e = .returned (.tuple #[.slice a l c, .bool t.wrong.isSome]) ∧ (t.wrong.getD []).length = l ∧ Row .i64 w' a (t.wrong.getD []) ∧ Below W.heap.size W w') := fun W hb =>
    (ref14_Wrong 4194304 (by omega) t k n a m c W _ hs4 (hT.below hb)).mono fun e w' h => h.1.row
  have CVN : Hid (∀ W, Below w.heap.size w W → Calls Try.prog 21 #[.agg #[.int .i64 k, .int .i64 n, .slice a m c]] W fun e w' => e = .returned (.bool (nodeOk t)) ∧ Below W.heap.size W w') := fun W hb => valid_Node t k n a m c W _ (hT.below hb)
  have CRN : Hid (∀ W, Below w.heap.size w W → Calls Try.prog 22 #[.agg #[.int .i64 k, .int .i64 n, .slice a m c]] W fun e w' => e = .returned (.bool (nodeOk t)) ∧ Below W.heap.size W w') := fun W hb => ref14_Node t k n a m c W _ hs4 (hT.below hb)
  have CVC : Hid (∀ W, Below w.heap.size w W → Calls Try.prog 17 #[.agg #[.int .i64 k, .int .i64 n, .slice a m c]] W fun e w' => e = .returned (.int .i64 (chk t)) ∧ Below W.heap.size W w') := fun W hb => valid_Check t k n a m c W _ hs4 (hT.below hb)
  have CRC : Hid (∀ W, Below w.heap.size w W → Calls Try.prog 23 #[.agg #[.int .i64 k, .int .i64 n, .slice a m c]] W fun e w' => e = .returned (.int .i64 (chk t)) ∧ Below W.heap.size W w') := fun W hb => ref14_Check t k n a m c W w.heap.size hb.size hs4 (hT.below hb)
  have CVF : Hid (∀ W, Below w.heap.size w W → Calls Try.prog 24 #[.agg #[.int .i64 K, .int .i64 D], .agg #[.int .i64 k, .int .i64 n, .slice a m c]] W fun e w' => e = .returned (.int .i64 (forK K D t)) ∧ Below W.heap.size W w') := fun W hb => valid_For K D t k n a m c W w.heap.size hb.size hK hs4 (hT.below hb)
  have CRF : Hid (∀ W, Below w.heap.size w W → Calls Try.prog 25 #[.agg #[.int .i64 K, .int .i64 D], .agg #[.int .i64 k, .int .i64 n, .slice a m c]] W fun e w' => e = .returned (.int .i64 (forK K D t)) ∧ Below W.heap.size W w') := fun W hb => ref14_For K D t k n a m c W w.heap.size hb.size hK hs4 (hT.below hb)
  obtain ⟨R, hR⟩ : ∃ R, t.wrong.isSome = R := ⟨_, rfl⟩
  obtain ⟨Q, hQ⟩ : ∃ Q, t.wrong.getD [] = Q := ⟨_, rfl⟩
  obtain ⟨N, hN⟩ : ∃ N, nodeOk t = N := ⟨_, rfl⟩
  obtain ⟨C, hC⟩ : ∃ C, chk t = C := ⟨_, rfl⟩
  obtain ⟨F, hF⟩ : ∃ F, forK K D t = F := ⟨_, rfl⟩
  rw [hR, hQ] at CVW CRW
  rw [hN] at CVN CRN
  rw [hC] at CVC CRC
  rw [hF] at CVF CRF
  clear hR hQ hN hC hF hT hs hs4 hK
  obtain ⟨W0, hW0, hb0, x0, x1⟩ := desc_key w K D k n a m c 35 24
  have HW0 := Lib.hid hW0
  have HB := Lib.hid hb0
  have XD := Lib.hid x0
  have XK := Lib.hid x1
  clear hW0 hb0 x0 x1
  go_enter Try.func4, Try.ntmps4
  go_wp2_with fail
  rw [HW0.out]
  refine (CM.out _ HB.out).mono ?_; rintro e w1 ⟨rfl, hb1⟩
  have HB := Lib.hid (chain HB.out hb1)
  have XD := Lib.hid ((hb1.block _ (block_lt XD.out)).trans XD.out)
  have XK := Lib.hid ((hb1.block _ (block_lt XK.out)).trans XK.out)
  have d0 : w1.cell? ⟨w.heap.size, 0, none⟩ = some (.int .i64 k) := block_cell XD.out 0
  have d1 : w1.cell? ⟨w.heap.size, 1, none⟩ = some (.int .i64 n) := block_cell XD.out 1
  have d2 : w1.cell? ⟨w.heap.size, 2, none⟩ = some (.slice a m c) := block_cell XD.out 2
  clear hb1
  go_wp2_with fail
  refine (CVW.out _ HB.out).mono ?_; rintro e w2 ⟨a2, l2, c2, rfl, hl2, hr2, hb2⟩
  clear d0 d1 d2
  have HB := Lib.hid (chain HB.out hb2)
  have XD := Lib.hid ((hb2.block _ (block_lt XD.out)).trans XD.out)
  have XK := Lib.hid ((hb2.block _ (block_lt XK.out)).trans XK.out)
  have R2 := Lib.hid hr2
  have L2 := Lib.hid hl2
  have d0 : w2.cell? ⟨w.heap.size, 0, none⟩ = some (.int .i64 k) := block_cell XD.out 0
  have d1 : w2.cell? ⟨w.heap.size, 1, none⟩ = some (.int .i64 n) := block_cell XD.out 1
  have d2 : w2.cell? ⟨w.heap.size, 2, none⟩ = some (.slice a m c) := block_cell XD.out 2
  clear hb2 hr2 hl2
  go_wp2_with fail
  refine (CRW.out _ HB.out).mono ?_; rintro e w3 ⟨a3, l3, c3, rfl, hl3, hr3, hb3⟩
  clear d0 d1 d2
  have HB := Lib.hid (chain HB.out hb3)
  have XD := Lib.hid ((hb3.block _ (block_lt XD.out)).trans XD.out)
  have XK := Lib.hid ((hb3.block _ (block_lt XK.out)).trans XK.out)
  have R2 := Lib.hid (R2.out.below hb3)
  have R3 := Lib.hid hr3
  have L3 := Lib.hid hl3
  have lD := block_lt XD.out
  have lK := block_lt XK.out
  have d0 : w3.cell? ⟨w.heap.size, 0, none⟩ = some (.int .i64 k) := block_cell XD.out 0
  have d1 : w3.cell? ⟨w.heap.size, 1, none⟩ = some (.int .i64 n) := block_cell XD.out 1
  have d2 : w3.cell? ⟨w.heap.size, 2, none⟩ = some (.slice a m c) := block_cell XD.out 2
  have k0 : w3.cell? ⟨w.heap.size + 1, 0, none⟩ = some (.int .i64 K) := block_cell XK.out 0
  have k1 : w3.cell? ⟨w.heap.size + 1, 1, none⟩ = some (.int .i64 D) := block_cell XK.out 1
  have CS : Hid (∀ W, Below w3.heap.size w3 W → Calls Try.prog 26 #[.slice a2 l2 c2, .slice a3 l3 c3] W fun e w' => e = .returned (.bool true) ∧ Below W.heap.size W w') := fun W hb => ref3_SameT a2 a3 l2 l3 c2 c3 Q Q W (R2.out.below hb) (R3.out.below hb) L2.out L3.out rfl
  clear hb3 hr3 hl3
  go_wp2_with fail
  have hb : Below w3.heap.size w3 w3.drew := (Below.refl _ _).drew
  go_region_held3 (fun w' => (w'.cell? ⟨w.heap.size, 0, none⟩ = some (.int .i64 k) ∧ w'.cell? ⟨w.heap.size, 1, none⟩ = some (.int .i64 n) ∧ w'.cell? ⟨w.heap.size, 2, none⟩ = some (.slice a m c)) ∧ (w'.cell? ⟨w.heap.size + 1, 0, none⟩ = some (.int .i64 K) ∧ w'.cell? ⟨w.heap.size + 1, 1, none⟩ = some (.int .i64 D))) (first | exact ⟨⟨d0, d1, d2⟩, k0, k1⟩ | exact ⟨⟨(hb.cell (p := ⟨w.heap.size, 0, none⟩) lD).trans d0, (hb.cell (p := ⟨w.heap.size, 1, none⟩) lD).trans d1, (hb.cell (p := ⟨w.heap.size, 2, none⟩) lD).trans d2⟩, (hb.cell (p := ⟨w.heap.size + 1, 0, none⟩) lK).trans k0, (hb.cell (p := ⟨w.heap.size + 1, 1, none⟩) lK).trans k1⟩) ((first | (go_at_call 21; ((with_reducible refine (CVN.out _ (chain HB.out hb)).mono ?_); rintro e z ⟨rfl, hc⟩; have hb := chain hb hc)) | (go_at_call 22; ((with_reducible refine (CRN.out _ (chain HB.out hb)).mono ?_); rintro e z ⟨rfl, hc⟩; have hb := chain hb hc)) | (go_at_call 17; ((with_reducible refine (CVC.out _ (chain HB.out hb)).mono ?_); rintro e z ⟨rfl, hc⟩; have hb := chain hb hc)) | (go_at_call 23; ((with_reducible refine (CRC.out _ (chain HB.out hb)).mono ?_); rintro e z ⟨rfl, hc⟩; have hb := chain hb hc)) | (go_at_call 24; ((with_reducible refine (CVF.out _ (chain HB.out hb)).mono ?_); rintro e z ⟨rfl, hc⟩; have hb := chain hb hc)) | (go_at_call 25; ((with_reducible refine (CRF.out _ (chain HB.out hb)).mono ?_); rintro e z ⟨rfl, hc⟩; have hb := chain hb hc)) | (go_at_call 26; ((with_reducible refine (CS.out _ hb).mono ?_); rintro e z ⟨rfl, hc⟩; have hb := chain hb hc)) | (go_at_call 15; ((with_reducible refine (live14 _).mono ?_); rintro e z ⟨rfl, hc⟩; have hb := chain hb hc))))
  have hbe := chain HB.out hb
  clear hb d0 d1 d2 k0 k1
  go_wp2_with fail
  go_ret
  exact ⟨ret_bool (by simp), hbe⟩

theorem validTellsW (t : Tr) (k n : Int) (a : Option Addr) (m c : Nat) (K D : Int) (w : World) (hs : t.size ≤ 1048576) (hT : IsT w (fun _ => True) k n a m c t) (wK : fits .i64 K) (wD : fits .i64 D) :
    Calls Try.prog 4 #[.agg #[.int .i64 k, .int .i64 n, .slice a m c], .agg #[.int .i64 K, .int .i64 D]] w fun e w' => e = .returned (.bool true) ∧ Below w.heap.size w w' := by
  by_cases h : 80 < t.size
  · exact validTells_big t k n a m c K D w (by omega) hT.lt h
  · exact validTells_ok t k n a m c K D w (by omega) (fits_i64.1 wK) hT.lt
end Go.Proofs.Ytncikklhchimdaa
