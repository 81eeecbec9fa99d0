/- The contracts and plain laws that the statements PolyMuls PolySizes PolyPowers PolyBig need, part 3 of 9: ValD TreeK TreeM ValE BitsLen Abv CandL StockL SmallL ChirpL GenL PermA PermB PermC PermL ExecL PolyL PolyM. -/
import Derived.Test.YtlnlijeamflpiaaGreatPlB2
namespace Go.Proofs.YtlnlijeamflpiaaGreat
open Go.RowKit
set_option linter.unusedVariables false
set_option linter.unusedSimpArgs false
set_option maxRecDepth 100000
set_option maxRecDepth 20000
theorem box_any (W : World) (cs : Array Value) (T : TypeId) : ∃ W', W.alloc (.cells cs T) = W' ∧ Below W.heap.size W W' ∧ W'.heap[W.heap.size]? = some (.cells cs T (0, 0)) :=
  ⟨_, rfl, (Below.refl _ _).alloc (Nat.le_refl _) _, block_new rfl⟩
/-- append of one number to a row of which nothing but its numbers is known, cut to its length: always a new row. -/
theorem wp_append_int {P : Program} {w : World} {o : Oper} {a : Act} {K : Act → World → Prop} {Q : Exit → Act → World → Prop} (s x : Operand) (t : TypeId) (hop : o.op = Op.call { callee := Callee.builtin Builtin.append, args := #[s, x], argTypes := #[t, t] })
    (e : TypeId) (i : TypeInfo) (h1 : P.underlying t = some (.slice e)) (h2 : P.info? e = some i) (h3 : i.zero = some (.int .i64 0)) (h4 : i.size = 1) (h5 : i.bytes = 8)
    (ao : Option Addr) (n : Nat) (xs : List Int) (hs : a.eval s = .slice ao n n) (hrow : Row .i64 w ao xs) (hn : xs.length = n) (hnone : ao = none → n = 0)
    (ad : Addr) (y : Int) (hy : fits .i64 y) (hx : a.eval x = .slice (some ad) 1 1) (hc : w.cell? ad = some (.int .i64 y)) (hl : n ≤ 16777216)
    (hK : ∀ g cap w', Row .i64 w' (some ⟨g, 0, none⟩) (xs ++ [y]) → n + 1 ≤ cap → Below w.heap.size w w' → K (a.put o.dst (.slice (some ⟨g, 0, none⟩) (n + 1) cap)) w') : o.wp P a w K Q := by
  have hwf : ∀ u ∈ xs ++ [y], fits .i64 u := fun u hu => by
    rcases List.mem_append.1 hu with h | h
    · exact hrow.wf u h
    · rw [List.mem_singleton.1 h]; exact hy
  have fin : ∀ v' w', w'.ownsRow w.heap.size e 1 v' (n + 1) (xs.map (Value.int .i64) ++ [.int .i64 y]) → w.grownBy w' none → ∃ g cap, v' = .slice (some ⟨g, 0, none⟩) (n + 1) cap ∧ Row .i64 w' (some ⟨g, 0, none⟩) (xs ++ [y]) ∧ n + 1 ≤ cap ∧ Below w.heap.size w w' := fun v' w' ho hg => by
    obtain ⟨a', cap, rfl, hcap, hga⟩ := own_slice2 ho
    obtain ⟨g, rfl⟩ := hga (by omega)
    refine ⟨g, cap, rfl, Row.of_own (n := n + 1) (base := w.heap.size) (e := e) (cap := cap) (by simp [hn]) (by omega) hwf ?_, hcap.1, ⟨hg.os, hg.tape, hg.output, hg.size, fun k hk => hg.block k hk (by simp)⟩⟩
    rw [List.map_append]; exact ho
  have hnew : ∀ j u, [Value.int .i64 y][j]? = some u → w.cell? (ad.add j) = some u := fun j u hj => by
    match j, hj with
    | 0, hj => simp at hj; subst hj; rw [show ad.add 0 = ad by simp [Addr.add]]; exact hc
  cases ao with
  | some b =>
    have holds : ∀ j u, (xs.map (Value.int .i64))[j]? = some u → w.cell? (b.add j) = some u := fun j u hj => by
      have hjl : j < xs.length := by simpa using (List.getElem?_eq_some_iff.1 hj).1
      obtain ⟨bb, off, hb, hcell⟩ := hrow.at (by omega)
      cases hb
      have h4 : u = .int .i64 (nth xs j) := by
        simp [hjl] at hj
        rw [← hj]; simp [nth, hjl]
      rw [h4, ← hcell j hjl]
      by_cases hj0 : j = 0
      · subst hj0; simp [Addr.add]
      · simp [Addr.add, hj0]
    obtain ⟨v', w', hrun, r1, r2⟩ := run_append_arg_grows (P := P) w t o.type e i (.int .i64 0) 1 8 h1 h2 h3 h4 h5 rfl (by omega) b n n (xs.map (Value.int .i64)) (by simp [hn]) holds ad 1 1 [.int .i64 y] rfl hnew (by omega) (by unfold maxLen; omega) (by omega)
    obtain ⟨g, cap, rfl, q1, q2, q3⟩ := fin v' w' r1 r2
    unfold Oper.wp
    simp [execOp, hop, resolve, invoke, builtin, hs, hx, hrun, Result.andThen]
    exact hK _ _ _ q1 q2 q3
  | none =>
    obtain rfl := hnone rfl
    obtain rfl : xs = [] := List.eq_nil_of_length_eq_zero hn
    obtain ⟨v', w', hrun, r1, r2, _⟩ := run_append_own (P := P) w w.heap.size t o.type e i (.int .i64 0) 1 8 h1 h2 h3 h4 h5 rfl (by omega) (.slice none 0 0) 0 [] (World.ownsRow_nil w _ e 1) ad 1 1 [.int .i64 y] rfl hnew (by intro u hu; simp at hu; subst hu; rfl) (by unfold maxLen; omega) (by omega) (Nat.le_refl _)
    obtain ⟨g, cap, rfl, q1, q2, q3⟩ := fin v' w' r1 r2
    unfold Oper.wp
    simp [execOp, hop, resolve, invoke, builtin, hs, hx, hrun, Result.andThen]
    exact hK _ _ _ q1 q2 q3
theorem step_append_int {P : Program} {w : World} {ops : Array Oper} {o : Oper} {a : Act} {K : Act → World → Prop} {Q : Exit → Act → World → Prop} {E : Prop} (hgd : o.guard = none) (s x : Operand) (t : TypeId) (hop : o.op = Op.call { callee := Callee.builtin Builtin.append, args := #[s, x], argTypes := #[t, t] })
    (e : TypeId) (i : TypeInfo) (h1 : P.underlying t = some (.slice e)) (h2 : P.info? e = some i) (h3 : i.zero = some (.int .i64 0)) (h4 : i.size = 1) (h5 : i.bytes = 8)
    (ao : Option Addr) (n : Nat) (xs : List Int) (hs : a.eval s = .slice ao n n) (hrow : Row .i64 w ao xs) (hn : xs.length = n) (hnone : ao = none → n = 0)
    (ad : Addr) (y : Int) (hy : fits .i64 y) (hx : a.eval x = .slice (some ad) 1 1) (hc : w.cell? ad = some (.int .i64 y)) (hl : n ≤ 16777216)
    (hK : ∀ g cap w', Row .i64 w' (some ⟨g, 0, none⟩) (xs ++ [y]) → n + 1 ≤ cap → Below w.heap.size w w' → K (a.put o.dst (.slice (some ⟨g, 0, none⟩) (n + 1) cap)) w') :
    if Region.wanted o (yielded ops a.tmps) = true then Oper.wp P o a w K Q else E := by
  have hw : Region.wanted o (yielded ops a.tmps) = true := by simp [Region.wanted, hgd]
  rw [if_pos hw]
  exact wp_append_int s x t hop e i h1 h2 h3 h4 h5 ao n xs hs hrow hn hnone ad y hy hx hc hl hK
/-- A result: a path (from ps on) and whether there is one. -/
def GivesWr (ps : List Int) (r : Option (List Int)) (w : World) (e : Ending) (w' : World) : Prop :=
  match r with
  | none => e = .returned (.tuple #[.slice none 0 0, .bool false]) ∧ Below w.heap.size w w'
  | some q => ∃ a l c, e = .returned (.tuple #[.slice a l c, .bool true]) ∧ (ps ++ q).length = l ∧ Row .i64 w' a (ps ++ q) ∧ OkCap a l c ∧ Below w.heap.size w w'
theorem GivesWr.from {ps : List Int} {r : Option (List Int)} {w wr : World} {e : Ending} {w' : World} (h : GivesWr ps r wr e w') (hb : Below w.heap.size w wr) : GivesWr ps r w e w' := by
  cases r with
  | none => exact ⟨h.1, chain hb h.2⟩
  | some q =>
    obtain ⟨a, l, c, h1, h2, h3, h4, h5⟩ := h
    exact ⟨a, l, c, h1, h2, h3, h4, chain hb h5⟩
namespace Tr
theorem wrongL_some {ks : List Tr} {j : Nat} {p : List Int} (h : j < ks.length) (hw : wrong (kid ks j) = some p) : wrongL j (ks.drop j) = some ((j : Int) :: p) := by
  rw [drop_kid h]; simp only [wrongL, hw]
theorem wrongL_none {ks : List Tr} {j : Nat} (h : j < ks.length) (hw : wrong (kid ks j) = none) : wrongL j (ks.drop j) = wrongL (j + 1) (ks.drop (j + 1)) := by
  rw [drop_kid h]; simp only [wrongL, hw]
theorem wrongL_end {ks : List Tr} {j : Nat} (h : ks.length ≤ j) : wrongL j (ks.drop j) = none := by
  rw [List.drop_of_length_le h]; simp only [wrongL]
end Tr
set_option maxHeartbeats 4000000 in
theorem valid_wrong (N : Nat) (hN : N ≤ 4194304) : ∀ (t : Tr) (k n : Int) (a : Option Addr) (m cap : Nat) (pa : Option Addr) (pn pc : Nat) (ps : List Int) (w : World) (F : Nat → Prop), t.size ≤ N → IsT w F k n a m cap t → Row .i64 w pa ps → ps.length = pn → OkCap pa pn pc → pn + t.size ≤ 8388608 →
    Calls Tryz.prog 116 #[.agg #[.int .i64 k, .int .i64 n, .slice a m cap], .slice pa pn pc] w (GivesWr ps t.wrong w) := by
  induction N with
  | zero => intro t k n a m cap pa pn pc ps w F h; have := Tr.size_pos t; omega
  | succ N ih =>
    intro t k n a m cap pa pn pc ps w F hs hT hp hpn hpc hpb
    obtain ⟨i0, hi, hz0, hz1, hz2⟩ := info_parts info_int
    have IH := Lib.hid (ih (by omega))
    clear ih
    have HT := Lib.hid hT
    have hm : m ≤ N := by
      have := Tr.len_le_sizeL t.kids
      rw [Tr.size_kids] at hs
      rw [hT.em]; omega
    have HS := Lib.hid hs
    have HP := Lib.hid hp
    have HPN := Lib.hid hpn
    have HPB := Lib.hid hpb
    have HPC := Lib.hid hpc
    obtain ⟨B, hB⟩ : ∃ B, nodeOk t = B := ⟨_, rfl⟩
    have HV : Hid (∀ W, Below w.heap.size w W → Calls Tryz.prog 142 #[.agg #[.int .i64 k, .int .i64 n, .slice a m cap]] W fun e w' => e = .returned (.bool B) ∧ Below W.heap.size W w') := fun W hb => by rw [← hB]; exact valid_Node t k n a m cap W F (hT.below hb)
    have HW : Hid (t.wrong = if B then Tr.wrongL 0 t.kids else some []) := by unfold Hid; rw [Tr.wrong_kids, hB]
    rw [HW.out]
    clear hT hs hp hpn hpb hpc hB HW
    cases B with
    | false =>
      rw [if_neg (by simp)]
      go_enter Tryz.func116, Tryz.ntmps116
      go_wp2_with fail
      refine (HV.out _ ((Below.refl _ _).alloc (Nat.le_refl _) _)).mono ?_; rintro e w1 ⟨rfl, hb1⟩
      have hb2 := chainA (Below.refl w.heap.size w) hb1
      have HB2 := Lib.hid hb2
      clear hb1 hb2
      go_wp2_with fail
      go_ret2
      exact ⟨pa, pn, pc, rfl, by rw [List.append_nil]; exact HPN.out, by rw [List.append_nil]; exact HP.out.below HB2.out, HPC.out, HB2.out⟩
    | true =>
      rw [if_pos rfl]
      obtain ⟨R, hR⟩ : ∃ R, Tr.wrongL 0 t.kids = R := ⟨_, rfl⟩
      rw [hR]
      have HR : Hid (Tr.wrongL 0 (t.kids.drop 0) = R) := hR
      clear hR
      go_enter Tryz.func116, Tryz.ntmps116
      go_wp2_with fail
      refine (HV.out _ ((Below.refl _ _).alloc (Nat.le_refl _) _)).mono ?_; rintro e w1 ⟨rfl, hb1⟩
      have hb2 := chainA (Below.refl w.heap.size w) hb1
      have hx := (hb1.block w.heap.size (by simp)).trans (block_new rfl)
      have x2 : w1.cell? ⟨w.heap.size, 2, none⟩ = some (.slice a m cap) := block_cell hx 2
      have HB2 := Lib.hid hb2
      clear hb1 hb2 hx
      go_wp2_with fail
      go_loopw [17] (fun i wr => ∃ j : Nat, j ≤ m ∧ i = .int .i64 j ∧ Hid (Tr.wrongL j (t.kids.drop j) = R) ∧ Below w.heap.size w wr) (fun i _ => m - (intOf i).toNat)
      case atStart => exact ⟨0, Nat.zero_le _, rfl, HR.out, HB2.out⟩
      case round =>
        obtain ⟨j, hj, rfl, HD, hbel⟩ := hrel
        by_cases hlt : j < m
        · obtain ⟨b, off, k', n', a', m', c', rfl, hF, hbl, h0, h1, h2, hT'⟩ := (HT.out.below hbel).kid j hlt
          have hj2 : j < t.kids.length := by rw [← HT.out.em]; exact hlt
          have hsz := Tr.size_kid t j hj2
          have hs1 : (Tr.kid t.kids j).size ≤ N := by have := HS.out; omega
          have hst0 := fun h => (Tr.wrongL_none hj2 h).symm.trans HD.out
          have hst1 := fun p h => HD.out.symm.trans (Tr.wrongL_some (p := p) hj2 h)
          obtain ⟨t', ht'⟩ : ∃ t', Tr.kid t.kids j = t' := ⟨_, rfl⟩
          rw [ht'] at hT' hs1 hst0 hst1 hsz
          have hpb' : pn + 1 + t'.size ≤ 8388608 := by have := HPB.out; omega
          have hjf : fits .i64 (j : Int) := fits_i64.2 (by omega)
          have CK : Hid (∀ W g c, Below wr.heap.size wr W → Row .i64 W (some ⟨g, 0, none⟩) (ps ++ [(j : Int)]) → pn + 1 ≤ c → Calls Tryz.prog 116 #[.agg #[.int .i64 k', .int .i64 n', .slice a' m' c'], .slice (some ⟨g, 0, none⟩) (pn + 1) c] W (GivesWr (ps ++ [(j : Int)]) t'.wrong W)) :=
            fun W g c hb hr hc => IH.out t' k' n' a' m' c' _ _ _ (ps ++ [(j : Int)]) W F hs1 (hT'.below hb) hr (by rw [List.length_append, HPN.out]; rfl) ⟨hc, fun h => by cases h⟩ hpb'
          have HJF := Lib.hid hjf
          have hpn8 : pn ≤ 16777216 := by omega
          have hsl : ∀ W, (Instr.slice 44 (.slice pa pn pc) none (some (.int .i64 (pn : Int))) (some (.int .i64 (pn : Int)))).run Tryz.prog W = .ok (.slice pa pn pn) W := fun W => by
            have hc := HPC.out.1
            rw [run_slice_hm W 44 pa pn pc (by kernel_rfl) .i64 .i64 (pn : Int) (pn : Int) (by omega) (by omega) (by omega)]
            cases pa <;> simp [go_sem, sliced, Addr.add]
          have HPW := Lib.hid (HP.out.below hbel)
          clear hT' hs1 hsz hj2 ht' hpb' hjf HD
          have HST0 := Lib.hid hst0
          have HST1 := Lib.hid hst1
          clear hst0 hst1
          have g1 : (0 : Int) ≤ (j : Int) := by omega
          have g2 : (j : Int) < (m : Int) := by omega
          obtain ⟨r, hwr⟩ : ∃ r, Tr.wrong t' = r := ⟨_, rfl⟩
          rw [hwr] at CK HST0 HST1
          clear hwr
          cases r with
          | none =>
            go_wp2_with fail
            obtain ⟨y, hW, hbx, hx⟩ := box_any wr #[.int .i64 k', .int .i64 n', .slice a' m' c'] 48
            rw [hW]
            have c0 : y.cell? ⟨wr.heap.size, 0, none⟩ = some (.int .i64 k') := block_cell hx 0
            have c1 : y.cell? ⟨wr.heap.size, 1, none⟩ = some (.int .i64 n') := block_cell hx 1
            have c2 : y.cell? ⟨wr.heap.size, 2, none⟩ = some (.slice a' m' c') := block_cell hx 2
            have HX := Lib.hid hx
            have HBX := Lib.hid hbx
            have hwl := block_lt hx
            have hb : Below y.heap.size y y.drew := (Below.refl _ _).drew
            clear hW hx hbx h0 h1 h2
            go_region_held3 (fun w' => w'.cell? ⟨wr.heap.size, 0, none⟩ = some (.int .i64 k') ∧ w'.cell? ⟨wr.heap.size, 1, none⟩ = some (.int .i64 n') ∧ w'.cell? ⟨wr.heap.size, 2, none⟩ = some (.slice a' m' c')) (first | exact ⟨c0, c1, c2⟩ | exact ⟨(hb.cell (p := ⟨wr.heap.size, 0, none⟩) hwl).trans c0, (hb.cell (p := ⟨wr.heap.size, 1, none⟩) hwl).trans c1, (hb.cell (p := ⟨wr.heap.size, 2, none⟩) hwl).trans c2⟩ | go_keep) ((first | (go_at_call 116; ((with_reducible refine (CK.out _ _ _ (chain HBX.out hb) hr hc).mono ?_); rintro e z ⟨rfl, hc2⟩; have hb := chain hb hc2)) | (refine step_append_int (by rfl) _ _ 44 (by rfl) 3 i0 Tryz.underlying44 hi hz0 hz1 hz2 pa pn ps (by rfl) (HPW.out.below (chain HBX.out ((Below.refl _ _).alloc (Nat.le_refl _) _).drew)) HPN.out (fun h => by have := HPC.out.2 h; have := HPC.out.1; omega) ⟨y.heap.size, 0, none⟩ (j : Int) HJF.out (by rfl) (one_new _ _ _) hpn8 ?_; intro g c w' hr hc hbw; have hb := chain ((Below.refl _ _).alloc (Nat.le_refl _) _).drew hbw)))
            have hbe : Below w.heap.size w z := chain (chain hbel HBX.out) hb
            have HBE := Lib.hid hbe
            clear hbe hb c0 c1 c2
            go_wp2_with fail
            go_roundw
            case rel => exact ⟨j + 1, by omega, by go_num, by first | exact HST0.out rfl | exact HST0.out trivial, HBE.out⟩
            case measure => simp [intOf]; omega
          | some q =>
            go_wp2_with fail
            obtain ⟨y, hW, hbx, hx⟩ := box_any wr #[.int .i64 k', .int .i64 n', .slice a' m' c'] 48
            rw [hW]
            have c0 : y.cell? ⟨wr.heap.size, 0, none⟩ = some (.int .i64 k') := block_cell hx 0
            have c1 : y.cell? ⟨wr.heap.size, 1, none⟩ = some (.int .i64 n') := block_cell hx 1
            have c2 : y.cell? ⟨wr.heap.size, 2, none⟩ = some (.slice a' m' c') := block_cell hx 2
            have HX := Lib.hid hx
            have HBX := Lib.hid hbx
            have hwl := block_lt hx
            have hb : Below y.heap.size y y.drew := (Below.refl _ _).drew
            clear hW hx hbx h0 h1 h2
            go_region_held3 (fun w' => w'.cell? ⟨wr.heap.size, 0, none⟩ = some (.int .i64 k') ∧ w'.cell? ⟨wr.heap.size, 1, none⟩ = some (.int .i64 n') ∧ w'.cell? ⟨wr.heap.size, 2, none⟩ = some (.slice a' m' c')) (first | exact ⟨c0, c1, c2⟩ | exact ⟨(hb.cell (p := ⟨wr.heap.size, 0, none⟩) hwl).trans c0, (hb.cell (p := ⟨wr.heap.size, 1, none⟩) hwl).trans c1, (hb.cell (p := ⟨wr.heap.size, 2, none⟩) hwl).trans c2⟩ | go_keep) ((first | (go_at_call 116; ((with_reducible refine (CK.out _ _ _ (chain HBX.out hb) hr hc).mono ?_); rintro e z ⟨a3, l3, c3, rfl, hl3, hr3, hc3, hc2⟩; have hb := chain hb hc2)) | (refine step_append_int (by rfl) _ _ 44 (by rfl) 3 i0 Tryz.underlying44 hi hz0 hz1 hz2 pa pn ps (by rfl) (HPW.out.below (chain HBX.out ((Below.refl _ _).alloc (Nat.le_refl _) _).drew)) HPN.out (fun h => by have := HPC.out.2 h; have := HPC.out.1; omega) ⟨y.heap.size, 0, none⟩ (j : Int) HJF.out (by rfl) (one_new _ _ _) hpn8 ?_; intro g c w' hr hc hbw; have hb := chain ((Below.refl _ _).alloc (Nat.le_refl _) _).drew hbw)))
            have hbe : Below w.heap.size w z := chain (chain hbel HBX.out) hb
            have HBE := Lib.hid hbe
            have HL3 := Lib.hid hl3
            have HR3 := Lib.hid hr3
            have HC3 := Lib.hid hc3
            clear hbe hb c0 c1 c2 hl3 hr3 hc3 hr hc
            go_wp2_with fail
            go_ret2
            rw [HST1.out q rfl]
            have e1 : ps ++ ((j : Int) :: q) = (ps ++ [(j : Int)]) ++ q := by simp
            exact ⟨a3, l3, c3, rfl, by rw [e1]; exact HL3.out, by rw [e1]; exact HR3.out, HC3.out, HBE.out⟩
        · have hjm : j = m := by omega
          have HE : Hid (R = none) := by unfold Hid; rw [← HD.out]; exact Tr.wrongL_end (by rw [← HT.out.em]; omega)
          clear HD
          go_wp2_with fail
          go_ret2
          show GivesWr ps R w _ _
          rw [HE.out]
          exact ⟨rfl, hbel⟩
theorem valid_Wrong (t : Tr) (k n : Int) (a : Option Addr) (m cap : Nat) (w : World) (F : Nat → Prop) (hs : t.size ≤ 4194304) (hT : IsT w F k n a m cap t) :
    Calls Tryz.prog 89 #[.agg #[.int .i64 k, .int .i64 n, .slice a m cap]] w (GivesWr [] t.wrong w) := by
  have CK : Hid (∀ W, Below w.heap.size w W → Calls Tryz.prog 116 #[.agg #[.int .i64 k, .int .i64 n, .slice a m cap], .slice none 0 0] W (GivesWr [] t.wrong W)) :=
    fun W hb => valid_wrong 4194304 (by omega) t k n a m cap none 0 0 [] W F hs (hT.below hb) (Row.nil _ _ _) rfl ⟨Nat.le_refl _, fun _ => rfl⟩ (by omega)
  obtain ⟨r, hr⟩ : ∃ r, t.wrong = r := ⟨_, rfl⟩
  rw [hr] at CK ⊢
  clear hT hs hr
  cases r with
  | none =>
    go_enter Tryz.func89, Tryz.ntmps89
    go_wp2_with fail
    refine (CK.out _ ((Below.refl _ _).alloc (Nat.le_refl _) _)).mono ?_; rintro e w1 ⟨rfl, hb1⟩
    go_wp2_with fail
    go_ret2
    exact ⟨rfl, chainA (Below.refl _ _) hb1⟩
  | some q =>
    go_enter Tryz.func89, Tryz.ntmps89
    go_wp2_with fail
    refine (CK.out _ ((Below.refl _ _).alloc (Nat.le_refl _) _)).mono ?_; rintro e w1 ⟨a1, l1, c1, rfl, hl1, hr1, hc1, hb1⟩
    have HL1 := Lib.hid hl1
    have HR1 := Lib.hid hr1
    have HC1 := Lib.hid hc1
    clear hl1 hr1 hc1
    go_wp2_with fail
    go_ret2
    exact ⟨a1, l1, c1, rfl, HL1.out, HR1.out, HC1.out, chainA (Below.refl _ _) hb1⟩
end Go.Proofs.YtlnlijeamflpiaaGreat

namespace Go.Proofs.YtlnlijeamflpiaaGreat
open Go.RowKit Go.Shelf
set_option linter.unusedVariables false
set_option linter.unusedSimpArgs false
set_option maxRecDepth 100000
/-- How a round may be left: what is no cells stays (from B on), and the caller's word holds. -/
def roundWord (B b0 : Nat) (I : List Value → World → Prop) (Ix : Code → List Value → World → Prop) (xs : List Value) (W : World) : Exit → Act → World → Prop
  | .normal, _, W' => KeepsFrom B W W' ∧ KeepsBut b0 W W' ∧ I xs W'
  | .ret, _, W' => KeepsFrom B W W' ∧ Ix .ret xs W'
  | .exit id, _, W' => KeepsFrom B W W' ∧ Ix (.exit id) xs W'
  | _, _, _ => False
/-- The record of the loop. -/
def recOf (fn : FuncId) (a : Act) (p : Tmp) (assign body : Code) (D : Nat) (s : LoopState) (c : Option Code) : Loop :=
  { state := s, pending := c, fn, tmps := a.tmps, params := #[p], assign, body, defers := D }
/-- What the loop's own two blocks hold ahead of a round; and when a round has left the loop by c. -/
def Ready (R : LoopState → Option Code → Loop) (D : Nat) (W : World) : Prop := W.heap[D + 1]? = some (.loop (R .ready none)) ∧ W.heap[D]? = some (.deferred (some []))
def Left (R : LoopState → Option Code → Loop) (D : Nat) (c : Code) (W : World) : Prop := W.heap[D + 1]? = some (.loop (R .done (some c))) ∧ W.heap[D]? = some (.deferred (some []))
theorem two_grown {A B : World} {row : Option Nat} {k : Nat} {o : Obj} (hg : A.grownBy B row) (hr : ∀ r, row = some r → ∃ o : Obj, A.heap[r]? = some o ∧ o.isWalk = true) (h : A.heap[k]? = some o) (ho : o.isWalk = false) : B.heap[k]? = some o :=
  (grownBy_keeps hg hr h ho).trans h
/-- One round's end, by the jump that it leaves. -/
theorem round_end {P : Program} {R : LoopState → Option Code → Loop} (hR : ∀ s c s' c', ({ R s c with state := s', pending := c' } : Loop) = R s' c') {D : Nat} {W2 W3 : World} (hl2 : W2.heap[D + 1]? = some (.loop (R .busy none))) (hk2 : W2.heap[D]? = some (.deferred (some []))) (hk : KeepsFrom D W2 W3) (jump : Option Code) :
    ∃ W4, (Instr.endRound (D + 1) jump).run P W3 = .ok (.bool jump.isNone) W4 ∧ W4 = W3.putObj (D + 1) (.loop (R (if jump.isNone then .ready else .done) jump)) ∧ W3.heap[D + 1]? = some (.loop (R .busy none)) ∧
      W4.heap[D + 1]? = some (.loop (R (if jump.isNone then .ready else .done) jump)) ∧ W4.heap[D]? = some (.deferred (some [])) := by
  have hl3 := hk.same _ _ (by omega) hl2 rfl
  have hk3 := hk.same _ _ (Nat.le_refl _) hk2 rfl
  have hrun := run_endRound (P := P) jump hl3
  rw [hR] at hrun
  exact ⟨_, hrun, rfl, hl3, World.putObj_heap_same (Array.getElem?_eq_some_iff.1 hl3).1, (World.putObj_heap_other (by omega)).trans hk3⟩
/-- The iterator's contract: it yields N values; of each the word G holds. -/
def SeqTells (P : Program) (n gf : Nat) (lb : Array Value) (b0 N : Nat) (G : List Value → Value → World → Prop) (w : World) : Prop :=
  ∀ (l : Nat) (J Jx : List Value → World → Prop) (W : World), Below w.heap.size w W → AbidesFrom W.heap.size J →
    (∀ pre x W1, J pre W1 → pre.length < N → G pre x W1 → YieldAt Fence.wide 0 P l #[x] W1 fun e W' => (e = .returned (.bool true) ∧ J (pre ++ [x]) W' ∧ KeepsBut b0 W1 W') ∨ (e = .returned (.bool false) ∧ Jx (pre ++ [x]) W')) →
    J [] W → CallsIn Fence.wide n P gf (#[.func (.yield l) #[] #[]] ++ lb) W fun e W' => (∃ v, e = .returned v) ∧ ((∃ xs, xs.length = N ∧ J xs W') ∨ (∃ pre, Jx pre W'))
theorem wp_range_tells {P : Program} {n : Nat} {g : Operand} {p : Tmp} {assign body : Code} {Q : Exit → Act → World → Prop} {a : Act} {w : World} {gf : Nat} {lb : Array Value} (hg : a.eval g = .func (.func gf) #[] lb)
    (eg : ∀ args w, (callFunc gf args).run P w = .ok (.enter gf args) w) (b0 N : Nat) (G : List Value → Value → World → Prop) (hG : ∀ pre x W l o o', G pre x W → W.heap[l]? = some o → o.isCells = false → G pre x (W.putObj l o'))
    (hseq : SeqTells P (n - 1) gf lb b0 N G w) (I : List Value → World → Prop) (Ix : Code → List Value → World → Prop) (hI : OwnFrom w.heap.size I) (hIx : ∀ c, OwnFrom w.heap.size (Ix c)) (h0 : I [] w) (a₁ : Value → Act)
    (hassign : ∀ (l : Nat) (x : Value) (W : World) (K : Act → World → Prop), K (a₁ x) W → assign.wpIn (Fence.wide.inRound l) 0 P (Exit.then K (fun _ _ _ => False)) { tmps := a.tmps.setIfInBounds p x, defers := [] } W)
    (hbody : ∀ (l : Nat) (pre : List Value) (x : Value) (W : World), I pre W → pre.length < N → G pre x W → body.wpIn (Fence.wide.inRound l) 0 P (roundWord w.heap.size b0 I Ix (pre ++ [x]) W) (a₁ x) W)
    (hdone : ∀ (D : Nat) (xs : List Value) (W : World), w.heap.size ≤ D → xs.length = N → I xs W → W.heap[D]? = some (.deferred (some [])) → Q .normal { a with defers := { target := .collected D, args := #[] } :: a.defers } W)
    (hstop : ∀ (D : Nat) (c : Code) (pre : List Value) (W : World), w.heap.size ≤ D → Ix c pre W → W.heap[D]? = some (.deferred (some [])) → c.wpIn Fence.wide n P Q { a with defers := { target := .collected D, args := #[] } :: a.defers } W) :
    (Code.rangeFunc g #[p] assign body).wpIn Fence.wide n P Q a w := by
  refine wpIn_rangeFunc fun fn hfn => ?_
  obtain ⟨D, hD⟩ : ∃ D, w.heap.size = D := ⟨_, rfl⟩
  obtain ⟨R, hR⟩ : ∃ R, recOf fn a p assign body D = R := ⟨_, rfl⟩
  have hRs : ∀ s c s' c', ({ R s c with state := s', pending := c' } : Loop) = R s' c' := fun s c s' c' => by rw [← hR]; rfl
  obtain ⟨W1, hW1⟩ : ∃ W1, (w.alloc (.deferred (some []))).alloc (.loop (R .ready none)) = W1 := ⟨_, rfl⟩
  have hb1 : Below w.heap.size w W1 := by rw [← hW1]; exact ((Below.refl _ w).alloc (Nat.le_refl _) _).alloc (by simp) _
  have hs1 : W1.heap.size = D + 2 := by rw [← hW1, ← hD]; simp
  have hready : Ready R D W1 := by
    rw [← hW1, ← hD]
    exact ⟨block_new (by simp), block_old (by simp) (block_new rfl)⟩
  rw [hD] at hI hIx hbody hdone hstop
  have hI1 : I [] W1 := by rw [← hW1]; exact hI.alloc _ (hI.alloc _ h0)
  refine ⟨D + 1, [{ target := .collected D, args := #[] }], W1, { target := .fn (.func gf) lb, args := #[.func (.yield (D + 1)) #[] #[]] }, W1, gf, #[.func (.yield (D + 1)) #[] #[]] ++ lb, W1, ?_, ?_, fun _ _ => trivial, ?_, (fun h => by cases h), ?_⟩
  · have h := run_enterLoop_outer (P := P) fn a.tmps #[p] assign body (w := w)
    rw [← hW1, ← hR, ← hD]
    exact h
  · simp only [resolve, hg]
    simp [go_sem]
  · simp [invoke, go_sem, eg]
  have hD1 : ∀ {A : World} {row : Option Nat}, (∀ r, row = some r → W1.heap.size ≤ r ∧ ∃ o : Obj, A.heap[r]? = some o ∧ o.isWalk = true) → (∀ r, row = some r → D ≤ r ∧ ∃ o : Obj, A.heap[r]? = some o ∧ o.isCells = false) := fun hr r e => by
    obtain ⟨h1, o, h2, h3⟩ := hr r e
    exact ⟨by omega, o, h2, Obj.not_cells_of_walk h3⟩
  refine (hseq (D + 1) (fun pre W => I pre W ∧ Ready R D W) (fun pre W => ∃ c, Ix c pre W ∧ Left R D c W) W1 hb1 (fun s A B row hs hgr hr => ?_) (fun pre x W hJ hlen hGx => ?_) ⟨hI1, hready⟩).mono ?_
  · exact ⟨hI s A B row hs.1 hgr (hD1 hr), two_grown hgr (fun r e => (hr r e).2) hs.2.1 rfl, two_grown hgr (fun r e => (hr r e).2) hs.2.2 rfl⟩
  · -- a round
    obtain ⟨hi, hl, hk⟩ := hJ
    have hlt := (Array.getElem?_eq_some_iff.1 hl).1
    have hy := run_yield (P := P) (args := #[x]) hl (by rw [← hR]; rfl)
    have hbeg := run_beginRound (P := P) hl (by rw [← hR]; rfl)
    have hRb : ({ R .ready none with state := .busy } : Loop) = R .busy none := by rw [← hR]; rfl
    rw [hRb] at hbeg
    have hl2 : (W.putObj (D + 1) (.loop (R .busy none))).heap[D + 1]? = some (.loop (R .busy none)) := World.putObj_heap_same hlt
    have hk2 : (W.putObj (D + 1) (.loop (R .busy none))).heap[D]? = some (.deferred (some [])) := (World.putObj_heap_other (by omega)).trans hk
    have hkb : KeepsBut b0 W (W.putObj (D + 1) (.loop (R .busy none))) := KeepsBut.putObj W _ _ _ hl rfl
    refine ⟨fn, a.tmps.setIfInBounds p x, assign, body, ?_, roundIn_of_wpIn trivial (hassign _ x W _ ⟨_, hbeg, wpIn_mono (hbody _ pre x _ (hI.putObj _ hi (by omega) hl rfl) hlen (hG _ _ _ _ _ _ hGx hl rfl)) ?_⟩)⟩
    · rw [← hR] at hy
      simpa [recOf] using hy
    · rintro e a3 W3 hp
      cases e with
      | normal =>
        obtain ⟨hk3, hkb3, hi3⟩ := hp
        obtain ⟨W4, hr, rfl, hl3, hl4, hk4⟩ := round_end (P := P) hRs hl2 hk2 hk3 none
        exact ⟨_, _, hr, .inl ⟨rfl, ⟨hI.putObj _ hi3 (by omega) hl3 rfl, hl4, hk4⟩, (hkb.trans hkb3).trans (KeepsBut.putObj _ _ _ _ hl3 rfl)⟩⟩
      | ret =>
        obtain ⟨hk3, hi3⟩ := hp
        obtain ⟨W4, hr, rfl, hl3, hl4, hk4⟩ := round_end (P := P) hRs hl2 hk2 hk3 (some .ret)
        exact ⟨_, _, hr, .inr ⟨rfl, .ret, (hIx _).putObj _ hi3 (by omega) hl3 rfl, hl4, hk4⟩⟩
      | exit id =>
        obtain ⟨hk3, hi3⟩ := hp
        obtain ⟨W4, hr, rfl, hl3, hl4, hk4⟩ := round_end (P := P) hRs hl2 hk2 hk3 (some (.exit id))
        exact ⟨_, _, hr, .inr ⟨rfl, .exit id, (hIx _).putObj _ hi3 (by omega) hl3 rfl, hl4, hk4⟩⟩
      | goto t => exact hp.elim
      | panic ch => exact hp.elim
      | outgrown => exact hp.elim
  · -- behind it
    rintro e W2 ⟨⟨v, rfl⟩, ⟨xs, hxl, hi, hl, hk⟩ | ⟨pre, c, hi, hl, hk⟩⟩
    · have hr := run_endLoop (P := P) hl (by rw [← hR]; simp [recOf])
      rw [← hR] at hr hl
      exact ⟨none, _, hr, hdone D xs _ (Nat.le_refl _) hxl (hI.putObj _ hi (by omega) hl rfl) ((World.putObj_heap_other (by omega)).trans hk)⟩
    · have hr := run_endLoop (P := P) hl (by rw [← hR]; simp [recOf])
      rw [← hR] at hr hl
      exact ⟨some c, _, hr, hstop D c pre _ (Nat.le_refl _) ((hIx c).putObj _ hi (by omega) hl rfl) ((World.putObj_heap_other (by omega)).trans hk)⟩
end Go.Proofs.YtlnlijeamflpiaaGreat

namespace Go.Proofs.YtlnlijeamflpiaaGreat
open Go.RowKit Go.Shelf
set_option linter.unusedVariables false
set_option linter.unusedSimpArgs false
set_option maxRecDepth 100000
attribute [local go_sem] Oper.semAt_some
theorem nextT_putObj (b0 : Nat) (L : List Tr) : ∀ pre x W l o o', NextT b0 L pre x W → W.heap[l]? = some o → o.isCells = false → NextT b0 L pre x (W.putObj l o') := by
  rintro pre x W l o o' ⟨k, n, a, m, c, t, rfl, hT, hL⟩ ho hc
  exact ⟨k, n, a, m, c, t, rfl, hT.keeps (KeepsBut.putObj W l o o' ho hc), hL⟩
set_option maxHeartbeats 1000000 in
theorem all1_tells (q b0 bd : Nat) (t : Tr) (k n : Int) (a : Option Addr) (m cap : Nat) (w : World) (hs : t.size ≤ 4194304) (hT : IsT w (fun b => b ≠ b0) k n a m cap t) (hb0 : b0 < w.heap.size)
    (hbd : w.heap[bd]? = some (.cells #[.int .i64 k, .int .i64 n, .slice a m cap] 48 (0, 0))) :
    SeqTells Tryz.prog q 140 #[.pointer (some ⟨bd, 0, none⟩)] b0 t.size (NextT b0 t.nodes) w := by
  intro l J Jx W hb hJ hY h0
  have hlt := block_lt hbd
  have hbx := (hb.block bd hlt).trans hbd
  have CA : Hid (CallsIn Fence.wide (q - 1) Tryz.prog 141 #[.agg #[.int .i64 k, .int .i64 n, .slice a m cap], .func (.yield l) #[] #[]] W (AllEnds b0 J Jx [] t.size W)) :=
    all_in b0 W.heap.size t.size l t.nodes J Jx hJ hY 4194304 (by omega) (q - 1) t k n a m cap [] W hs (hT.below hb) (Nat.lt_of_lt_of_le hb0 hb.size) h0 (by simp) (fun i _ => by simp)
  have c0 := block_cell hbx 0
  have c1 := block_cell hbx 1
  have c2 := block_cell hbx 2
  simp at c0 c1 c2
  clear hbx hb hJ hY h0 hT hbd hs
  refine callsIn_of_wp Tryz.func140 rfl trivial ?_ rfl
  simp only [Tryz.ntmps140, List.size_toArray, List.length_cons, List.length_nil, Nat.reduceAdd, Nat.reduceSub, Array.replicate_succ, Array.replicate_zero, List.push_toArray, List.append_toArray, List.nil_append, List.cons_append]
  gi_wp2
  refine ⟨trivial, (fun h => by cases h), CA.out.mono ?_⟩
  rintro e W3 (⟨rfl, xs, hxl, hJ3, hk3⟩ | ⟨rfl, hJx3⟩)
  · gi_wp2
    go_end0
    rw [List.nil_append] at hJ3
    exact ⟨⟨_, rfl⟩, .inl ⟨xs, hxl, hJ3⟩⟩
  · gi_wp2
    go_end0
    exact ⟨⟨_, rfl⟩, .inr hJx3⟩
theorem desc_All (q : Nat) (v : Value) (k n : Int) (a : Option Addr) (m cap : Nat) (w : World) :
    CallsIn Fence.wide q Tryz.prog 114 #[.agg #[.int .i64 k, .int .i64 n, .slice a m cap]] w fun e w' => e = .returned (.func (.func 140) #[] #[.pointer (some ⟨w.heap.size, 0, none⟩)]) ∧ w' = w.alloc (.cells #[.int .i64 k, .int .i64 n, .slice a m cap] 48) := by
  refine callsIn_of_wp Tryz.func114 rfl trivial ?_ rfl
  simp only [Tryz.ntmps114, List.size_toArray, List.length_cons, List.length_nil, Nat.reduceAdd, Nat.reduceSub, Array.replicate_succ, Array.replicate_zero, List.push_toArray, List.append_toArray, List.nil_append, List.cons_append]
  gi_wp2
  go_ret
  exact ⟨rfl, rfl⟩
theorem block_from {β : Type} (B b : Nat) (o : β → Obj) (ho : ∀ s, (o s).isCells = true) : OwnFrom B (fun s W => W.heap[b]? = some (o s)) :=
  fun s A C row hs hg hr => (grownBy_keeps_cells hg (fun r e => (hr r e).2) hs (ho s)).trans hs
end Go.Proofs.YtlnlijeamflpiaaGreat

namespace Go.Proofs.YtlnlijeamflpiaaGreat
open Go.RowKit Go.Shelf
set_option linter.unusedVariables false
set_option linter.unusedSimpArgs false
set_option maxRecDepth 100000
set_option maxRecDepth 20000
attribute [local go_sem] Oper.semAt_some
/-- Is a tree too big? -/
def bigB (t : Tr) : Bool := decide (60 < t.size) || decide (12 < t.depth)
theorem big_boxes (w : World) (k n : Int) (a : Option Addr) (m c : Nat) (T U V : TypeId) :
    ∃ W0, (((w.alloc (.cells #[.int .i64 k, .int .i64 n, .slice a m c] T)).alloc (.cells #[.bool false] U)).alloc (.cells #[.int .i64 0] V)).alloc (.cells #[.int .i64 k, .int .i64 n, .slice a m c] T) = W0 ∧ Below w.heap.size w W0 ∧ W0.heap.size = w.heap.size + 4 ∧
      W0.heap[w.heap.size]? = some (.cells #[.int .i64 k, .int .i64 n, .slice a m c] T (0, 0)) ∧ W0.heap[w.heap.size + 1]? = some (.cells #[.bool false] U (0, 0)) ∧ W0.heap[w.heap.size + 1 + 1]? = some (.cells #[.int .i64 0] V (0, 0)) ∧ W0.heap[w.heap.size + 1 + 1 + 1]? = some (.cells #[.int .i64 k, .int .i64 n, .slice a m c] T (0, 0)) :=
  ⟨_, rfl, ((((Below.refl _ _).alloc (Nat.le_refl _) _).alloc (by simp) _).alloc (by simp <;> omega) _).alloc (by simp <;> omega) _, by simp, block_old (by simp <;> omega) (block_old (by simp <;> omega) (block_old (by simp) (block_new rfl))), block_old (by simp <;> omega) (block_old (by simp) (block_new (by simp))), block_old (by simp) (block_new (by simp)), block_new (by simp)⟩
set_option maxHeartbeats 4000000 in
theorem valid_big (t : Tr) (k n : Int) (a : Option Addr) (m cap : Nat) (w : World) (F : Nat → Prop) (hs : t.size ≤ 4194304) (hT : IsT w F k n a m cap t) :
    Calls Tryz.prog 88 #[.agg #[.int .i64 k, .int .i64 n, .slice a m cap]] w fun e w' => e = .returned (.bool (bigB t)) ∧ Below w.heap.size w w' := by
  have HT := Lib.hid hT.lt
  have HS := Lib.hid hs
  have HD : Hid (∀ W, Below w.heap.size w W → Calls Tryz.prog 115 #[.agg #[.int .i64 k, .int .i64 n, .slice a m cap]] W fun e w' => e = .returned (.int .i64 (t.depth : Nat)) ∧ Below W.heap.size W w') := fun W hb => desc_Depth 4194304 (by omega) t k n a m cap W _ hs (hT.below hb)
  clear hT hs
  obtain ⟨W0, hW0, hb0, hsz, x0, x1, x2, x3⟩ := big_boxes w k n a m cap 48 4 3
  refine (callsIn_wide (n := 8)).1 ?_
  refine callsIn_of_wp_marks Tryz.func88 rfl trivial ?_ rfl
  simp only [Tryz.ntmps88, List.size_toArray, List.length_cons, List.length_nil, Nat.reduceAdd, Nat.reduceSub, Array.replicate_succ, Array.replicate_zero, List.push_toArray, List.append_toArray, List.nil_append, List.cons_append]
  gi_wp2_with (refine ⟨trivial, ?_⟩; gi_at_call 114; refine (desc_All _ (.bool true) _ _ _ _ _ _).mono ?_; rintro e w' ⟨rfl, rfl⟩)
  try rw [hW0]
  clear hW0
  have HB0 := Lib.hid hb0
  have X0 := Lib.hid x0
  have X1 := Lib.hid x1
  have X2 := Lib.hid x2
  have X3 := Lib.hid x3
  have hT0 : IsT W0 (fun b => b ≠ w.heap.size + 1 + 1) k n a m cap t := (HT.out.below hb0).mono fun b hb => by unfold Lt at hb; omega
  have HSZ := Lib.hid hsz
  clear hb0 x0 x1 x2 x3 hsz
  refine wp_range_tells (gf := 140) (lb := #[.pointer (some ⟨w.heap.size + 1 + 1 + 1, 0, none⟩)]) rfl (enters_of Tryz.func140 (by kernel_rfl) rfl) (w.heap.size + 1 + 1) t.size (NextT (w.heap.size + 1 + 1) t.nodes) (nextT_putObj _ _)
    (all1_tells _ _ _ t k n a m cap W0 HS.out hT0 (by have := HSZ.out; omega) X3.out)
    (fun pre W => (W.heap[w.heap.size + 1 + 1]? = some (.cells #[.int .i64 (pre.length : Nat)] 3 (0, 0)) ∧ Below (w.heap.size + 1 + 1) W0 W) ∧ pre.length ≤ 60)
    (fun c pre W => (W.heap[w.heap.size + 1]? = some (.cells #[.bool true] 4 (0, 0)) ∧ Below w.heap.size w W) ∧ (c = .ret ∧ 60 < t.size))
    (OwnFrom.and (OwnFrom.and (block_from _ _ (fun pre : List Value => .cells #[.int .i64 (pre.length : Nat)] 3 (0, 0)) (fun _ => rfl)) (ownFrom_below (by have := HSZ.out; omega) (by have := HSZ.out; omega))) (fun _ _ _ _ h _ _ => h))
    (fun c => OwnFrom.and (OwnFrom.and (block_from _ _ (fun pre : List Value => .cells #[.bool true] 4 (0, 0)) (fun _ => rfl)) (ownFrom_below (Nat.le_refl _) (by have := HSZ.out; omega))) (fun _ _ _ _ h _ _ => h)) ⟨⟨X2.out, Below.refl _ _⟩, Nat.zero_le _⟩
    (fun x => { tmps := #[.agg #[.int .i64 k, .int .i64 n, .slice a m cap], .pointer (some ⟨w.heap.size, 0, none⟩), .pointer (some ⟨w.heap.size + 1, 0, none⟩), .pointer (some ⟨w.heap.size + 1 + 1, 0, none⟩), .agg #[.int .i64 k, .int .i64 n, .slice a m cap], .func (.func 140) #[] #[.pointer (some ⟨w.heap.size + 1 + 1 + 1, 0, none⟩)], x, undef, undef, undef, undef, undef, undef, undef], defers := [] }) ?assign ?body ?done ?stop
  case assign =>
    intro l x W K hK
    gi_wp2
    exact hK
  case body =>
    rintro l pre x W ⟨⟨hn, hbel⟩, hle⟩ hlen hG
    have h0 := block_cell hn 0
    have hf := block_free hn 0
    simp at h0
    have HN := Lib.hid hn
    have hst : (W.setCell ⟨w.heap.size + 1 + 1, 0, none⟩ (.int .i64 ((pre.length : Int) + 1))).heap[w.heap.size + 1 + 1]? = some (.cells #[.int .i64 ((pre ++ [x]).length : Nat)] 3 (0, 0)) := by
      rw [block_set hn 0 _, List.length_append, List.length_singleton]; simp
    have hv := block_cell hst 0
    simp only [List.length_append, List.length_singleton] at hv
    have HST := Lib.hid hst
    have hbe : Below (w.heap.size + 1 + 1) W0 (W.setCell ⟨w.heap.size + 1 + 1, 0, none⟩ (.int .i64 ((pre.length : Int) + 1))) := hbel.setCell (p := ⟨w.heap.size + 1 + 1, 0, none⟩) (Nat.le_refl _) _
    have HBE := Lib.hid hbe
    have hx1 := (hbe.block (w.heap.size + 1) (by omega)).trans X1.out
    have HX1 := Lib.hid hx1
    have HLEN := Lib.hid hlen
    have hpl : (pre ++ [x]).length = pre.length + 1 := by simp
    have HPL := Lib.hid hpl
    clear hpl
    obtain ⟨q, hq⟩ : ∃ q, pre.length = q := ⟨_, rfl⟩
    rw [hq] at h0 hle HST HBE hv HLEN HPL hx1 HX1
    clear hn hst hbe hG hlen hq hbel
    have hf3 : (W.setCell ⟨w.heap.size + 1 + 1, 0, none⟩ (.int .i64 ((q : Int) + 1))).frozen? ⟨w.heap.size + 1, 0, none⟩ = false := block_free HX1.out 0
    have hc3 : (W.setCell ⟨w.heap.size + 1 + 1, 0, none⟩ (.int .i64 ((q : Int) + 1))).cell? ⟨w.heap.size + 1, 0, none⟩ = some (.bool false) := block_cell HX1.out 0
    have hkf : KeepsFrom W0.heap.size W (W.setCell ⟨w.heap.size + 1 + 1, 0, none⟩ (.int .i64 ((q : Int) + 1))) := (KeepsOthers.setCell _ _ _).from _
    have hkb : KeepsBut (w.heap.size + 1 + 1) W (W.setCell ⟨w.heap.size + 1 + 1, 0, none⟩ (.int .i64 ((q : Int) + 1))) := KeepsBut.setCell _ _ _
    have HKF := Lib.hid hkf
    have HKB := Lib.hid hkb
    clear hkf hkb
    by_cases h60 : q + 1 ≤ 60
    · have d1 : decide (((q + 1 : Nat) : Int) > 60) = false := by simp; omega
      have d2 : ¬ ((60 : Int) < (q : Int) + 1) := by omega
      have d3 : ¬ (60 < q + 1) := by omega
      gi_wp2
      exact ⟨HKF.out, HKB.out, ⟨HST.out, HBE.out⟩, by rw [HPL.out]; omega⟩
    · have d1 : decide (((q + 1 : Nat) : Int) > 60) = true := by simp; omega
      have d2 : ((60 : Int) < (q : Int) + 1) := by omega
      have d3 : (60 < q + 1) := by omega
      have hfin : Below w.heap.size w ((W.setCell ⟨w.heap.size + 1 + 1, 0, none⟩ (.int .i64 ((q : Int) + 1))).setCell ⟨w.heap.size + 1, 0, none⟩ (.bool true)) := (HB0.out.trans (HBE.out.mono (by omega))).setCell (p := ⟨w.heap.size + 1, 0, none⟩) (by show w.heap.size ≤ w.heap.size + 1; omega) _
      have hset := block_set HX1.out 0 (.bool true)
      have HFIN := Lib.hid hfin
      have HSET := Lib.hid hset
      clear hfin hset
      gi_wp2
      exact ⟨HKF.out.trans ((KeepsOthers.setCell _ _ _).from _), ⟨HSET.out, HFIN.out⟩, rfl, by have := HLEN.out; omega⟩
  case done =>
    rintro D xs W hD hxl ⟨⟨hn, hbel⟩, hle⟩ hK
    rw [hxl] at hn hle
    have hbw : Below w.heap.size w W := HB0.out.trans (hbel.mono (by omega))
    have hDs : w.heap.size ≤ D := by have := HSZ.out; omega
    have hx0 := (hbel.block w.heap.size (by omega)).trans X0.out
    have hx1 := (hbel.block (w.heap.size + 1) (by omega)).trans X1.out
    have HK := Lib.hid hK
    have HBW := Lib.hid hbw
    have HX1 := Lib.hid hx1
    have c0 : W.cell? ⟨w.heap.size, 0, none⟩ = some (.int .i64 k) := block_cell hx0 0
    have c1 : W.cell? ⟨w.heap.size, 1, none⟩ = some (.int .i64 n) := block_cell hx0 1
    have c2 : W.cell? ⟨w.heap.size, 2, none⟩ = some (.slice a m cap) := block_cell hx0 2
    have HB : Hid (bigB t = decide (12 < t.depth)) := by unfold Hid bigB; rw [decide_eq_false (by omega), Bool.false_or]
    obtain ⟨d, hd⟩ : ∃ d, t.depth = d := ⟨_, rfl⟩
    rw [hd] at HD HB
    clear hn hbel hK hbw hx0 hx1 hle hd
    gi_wp2
    refine ⟨trivial, (callsIn_wide.2 (HD.out _ HBW.out)).mono ?_⟩
    rintro e w2 ⟨rfl, hb2⟩
    have hx1 := (hb2.block _ (block_lt HX1.out)).trans HX1.out
    have hk2 := (hb2.block _ (block_lt HK.out)).trans HK.out
    have c1' : w2.cell? ⟨w.heap.size + 1, 0, none⟩ = some (.bool false) := block_cell hx1 0
    have f1' : w2.frozen? ⟨w.heap.size + 1, 0, none⟩ = false := block_free hx1 0
    have hne : D ≠ w.heap.size + 1 := by have := HSZ.out; omega
    have hbw2 := chain HBW.out hb2
    have HK2 := Lib.hid hk2
    have HBW2 := Lib.hid hbw2
    clear hx1 hk2 hbw2 hb2 c0 c1 c2
    have fin : ∀ v : Bool, ((w2.setCell ⟨w.heap.size + 1, 0, none⟩ (.bool v)).heap[D]? = some (.deferred (some []))) ∧ Below w.heap.size w ((w2.setCell ⟨w.heap.size + 1, 0, none⟩ (.bool v)).putObj D (.deferred none)) ∧ ((w2.setCell ⟨w.heap.size + 1, 0, none⟩ (.bool v)).putObj D (.deferred none)).cell? ⟨w.heap.size + 1, 0, none⟩ = some (.bool v) := fun v => by
      have hke := (set_far w2 ⟨w.heap.size + 1, 0, none⟩ (.bool v) D (by show D ≠ w.heap.size + 1; omega)).trans HK2.out
      have hbe := HBW2.out.setCell (p := ⟨w.heap.size + 1, 0, none⟩) (by show w.heap.size ≤ w.heap.size + 1; omega) (.bool v)
      exact ⟨hke, hbe.trans (belowK_b (w := w) (Nat.le_refl _) _ D _ _ hDs hke rfl rfl), (World.cell?_of_block (World.putObj_heap_other (by first | exact hne | exact Ne.symm hne))).trans (World.cell?_setCell_same w2 ⟨w.heap.size + 1, 0, none⟩ (.bool v) c1')⟩
    have FIN := Lib.hid fin
    clear fin
    by_cases h12 : 12 < d
    · have d1 : decide ((d : Int) > 12) = true := by simp; omega
      have d2 : (12 : Int) < (d : Int) := by omega
      have HB12 : Hid (bigB t = true) := by rw [HB.out]; unfold Hid; simp; omega
      clear h12
      gi_wp2
      refine ⟨by simp, .inl ⟨_, _, rfl, run_takeDeferred (FIN.out true).1, ?_⟩⟩
      have hcl := (FIN.out true).2.2
      refine ⟨.bool true, ?_, by rw [HB12.out], (FIN.out true).2.1⟩
      simp [results, Tryz.results88, go_sem, hcl]
    · have d1 : decide ((d : Int) > 12) = false := by simp; omega
      have d2 : ¬ (12 : Int) < (d : Int) := by omega
      have HB12 : Hid (bigB t = false) := by rw [HB.out]; unfold Hid; simp; omega
      clear h12
      gi_wp2
      refine ⟨by simp, .inl ⟨_, _, rfl, run_takeDeferred (FIN.out false).1, ?_⟩⟩
      have hcl := (FIN.out false).2.2
      refine ⟨.bool false, ?_, by rw [HB12.out], (FIN.out false).2.1⟩
      simp [results, Tryz.results88, go_sem, hcl]
  case stop =>
    rintro D c pre W hD ⟨⟨hx1, hbel⟩, rfl, h60⟩ hK
    have HK := Lib.hid hK
    have HBW := Lib.hid hbel
    have c1 : W.cell? ⟨w.heap.size + 1, 0, none⟩ = some (.bool true) := block_cell hx1 0
    have HB : Hid (bigB t = true) := by unfold Hid bigB; rw [decide_eq_true h60, Bool.true_or]
    have hne : D ≠ w.heap.size + 1 := by have := HSZ.out; omega
    have hDs : w.heap.size ≤ D := by have := HSZ.out; omega
    have hcl : (W.putObj D (.deferred none)).cell? ⟨w.heap.size + 1, 0, none⟩ = some (.bool true) := (World.cell?_of_block (World.putObj_heap_other (by first | exact hne | exact Ne.symm hne))).trans c1
    have hbe2 : Below w.heap.size w (W.putObj D (.deferred none)) := hbel.trans (belowK_b (w := w) (Nat.le_refl _) _ D _ _ hDs hK rfl rfl)
    have HBE2 := Lib.hid hbe2
    clear hx1 hbel hK hbe2 h60
    gi_wp2
    refine ⟨by simp, .inl ⟨_, _, rfl, run_takeDeferred HK.out, ?_⟩⟩
    refine ⟨.bool true, ?_, by rw [HB.out], HBE2.out⟩
    simp [results, Tryz.results88, go_sem, hcl]
/-- Is it a plan: the error's number. -/
def chk (t : Tr) : Int := if bigB t then 12 else if t.wrong.isSome then 8 else 0
theorem GivesWr.any {ps : List Int} {r : Option (List Int)} {w : World} {e : Ending} {w' : World} (h : GivesWr ps r w e w') : ∃ a l c, e = .returned (.tuple #[.slice a l c, .bool r.isSome]) ∧ Below w.heap.size w w' := by
  cases r with
  | none => exact ⟨none, 0, 0, h.1, h.2⟩
  | some q =>
    obtain ⟨a, l, c, h1, _, _, _, h5⟩ := h
    exact ⟨a, l, c, h1, h5⟩
set_option maxHeartbeats 1000000 in
theorem valid_Check (t : Tr) (k n : Int) (a : Option Addr) (m cap : Nat) (w : World) (F : Nat → Prop) (hs : t.size ≤ 4194304) (hT : IsT w F k n a m cap t) :
    Calls Tryz.prog 57 #[.agg #[.int .i64 k, .int .i64 n, .slice a m cap]] w fun e w' => e = .returned (.int .i64 (chk t)) ∧ Below w.heap.size w w' := by
  have CB : Hid (∀ W, Below w.heap.size w W → Calls Tryz.prog 88 #[.agg #[.int .i64 k, .int .i64 n, .slice a m cap]] W fun e w' => e = .returned (.bool (bigB t)) ∧ Below W.heap.size W w') := fun W hb => valid_big t k n a m cap W F hs (hT.below hb)
  have CW : Hid (∀ W, Below w.heap.size w W → Calls Tryz.prog 89 #[.agg #[.int .i64 k, .int .i64 n, .slice a m cap]] W fun e w' => ∃ a l c, e = .returned (.tuple #[.slice a l c, .bool t.wrong.isSome]) ∧ Below W.heap.size W w') := fun W hb => (valid_Wrong t k n a m cap W F hs (hT.below hb)).mono fun e w' h => h.any
  have HC : Hid (chk t = if bigB t then 12 else if t.wrong.isSome then 8 else 0) := rfl
  obtain ⟨B, hB⟩ : ∃ B, bigB t = B := ⟨_, rfl⟩
  obtain ⟨R, hR⟩ : ∃ R, t.wrong.isSome = R := ⟨_, rfl⟩
  rw [hB] at CB HC
  rw [hR] at CW HC
  rw [HC.out]
  clear hB hR HC hT hs
  cases B with
  | true =>
    go_enter Tryz.func57, Tryz.ntmps57
    go_wp2_with fail
    refine (CB.out _ ((Below.refl _ _).alloc (Nat.le_refl _) _)).mono ?_; rintro e w1 ⟨rfl, hb1⟩
    have hb := chainA (Below.refl w.heap.size w) hb1
    clear hb1
    go_wp2_with fail
    go_ret
    exact ⟨rfl, hb⟩
  | false =>
    cases R
    all_goals
      go_enter Tryz.func57, Tryz.ntmps57
      go_wp2_with fail
      refine (CB.out _ ((Below.refl _ _).alloc (Nat.le_refl _) _)).mono ?_; rintro e w1 ⟨rfl, hb1⟩
      have hb := chainA (Below.refl w.heap.size w) hb1
      have hx := (hb1.block w.heap.size (by simp)).trans (block_new rfl)
      have x0 : w1.cell? ⟨w.heap.size, 0, none⟩ = some (.int .i64 k) := block_cell hx 0
      have x1 : w1.cell? ⟨w.heap.size, 1, none⟩ = some (.int .i64 n) := block_cell hx 1
      have x2 : w1.cell? ⟨w.heap.size, 2, none⟩ = some (.slice a m cap) := block_cell hx 2
      have HB := Lib.hid hb
      clear hb1 hx hb
      go_wp2_with fail
      refine (CW.out _ HB.out).mono ?_; rintro e w2 ⟨a2, l2, c2, rfl, hb2⟩
      have hb := chain HB.out hb2
      clear hb2 x0 x1 x2
      go_wp2_with fail
      go_ret
      exact ⟨rfl, hb⟩
end Go.Proofs.YtlnlijeamflpiaaGreat

namespace Go.Proofs.YtlnlijeamflpiaaGreat
open Go.Proofs
open Go.Shelf Go.RowKit
set_option linter.unusedVariables false
shelf_lay Lays.n125 Nm 125 at Tryz as Tryz.lays125
theorem bits_Len (x : Int) (w : World) (h0 : 0 ≤ x) (h1 : x ≤ 18446744073709551615) :
    Calls Tryz.prog 145 #[.int .u64 x] w fun e w' => e = .returned (.int .i64 (Lib.bitLen x.toNat)) ∧ w = w' :=
  (Any.bits_Len Tryz.lays125 x w h0 h1).mono fun e w' ⟨h, h2⟩ => ⟨h, h2.symm⟩
end Go.Proofs.YtlnlijeamflpiaaGreat

namespace Go.Proofs.YtlnlijeamflpiaaGreat
open Go.RowKit
set_option linter.unusedVariables false
set_option linter.unusedSimpArgs false
set_option maxRecDepth 100000
theorem bl_aux (f : Nat) : ∀ x j, x < 2 ^ f → (2 ^ j ≤ x ↔ j < Lib.bitLenAux f x) := by
  induction f with
  | zero => intro x j hx; simp at hx; subst hx; simp [Lib.bitLenAux]
  | succ f ih =>
    intro x j hx
    rw [Lib.bitLenAux]
    by_cases h0 : x = 0
    · subst h0; rw [if_pos rfl]; have := Nat.two_pow_pos j; omega
    · rw [if_neg h0]
      cases j with
      | zero => simp; omega
      | succ j =>
        have h := ih (x / 2) j (by rw [Nat.pow_succ] at hx; omega)
        rw [Nat.pow_succ]
        constructor
        · intro h1; have := h.1 (by omega); omega
        · intro h1; have := h.2 (by omega); omega
theorem bl_iff (x j : Nat) (hx : x < 18446744073709551616) : 2 ^ j ≤ x ↔ j < Lib.bitLen x := bl_aux 64 x j hx
theorem bl_24 (x : Nat) (hx : x < 16777216) : Lib.bitLen x ≤ 24 := by
  rcases Nat.lt_or_ge 24 (Lib.bitLen x) with h | h
  · have := (bl_iff x 24 (by omega)).2 h
    have e : (2 : Nat) ^ 24 = 16777216 := by decide
    omega
  · exact h
/-- The least power of two that is not below n. -/
def abv (n : Nat) : Nat := 2 ^ Lib.bitLen (n - 1)
theorem fact_there (n : Nat) (w : World) (h1 : 1 ≤ n) (h2 : n ≤ 16777216) :
    Calls Tryz.prog 144 #[.int .i64 n] w fun e w' => e = .returned (.bool true) ∧ w = w' := by
  go_enter Tryz.func144, Tryz.ntmps144
  go_wp2_with fail
  go_ret
  exact ⟨ret_bool (by simp; omega), rfl⟩
theorem fact_there_no (n : Nat) (w : World) (h2 : 16777216 < n) (h3 : n ≤ 9223372036854775807) :
    Calls Tryz.prog 144 #[.int .i64 n] w fun e w' => e = .returned (.bool false) ∧ w = w' := by
  go_enter Tryz.func144, Tryz.ntmps144
  go_wp2_with fail
  go_ret
  exact ⟨ret_bool (by simp; omega), rfl⟩
theorem fact_Above_no (n : Nat) (w : World) (h2 : 16777216 < n) (h3 : n ≤ 9223372036854775807) :
    Calls Tryz.prog 124 #[.int .i64 n] w fun e w' => e = .returned (.tuple #[.int .i64 0, .int .i64 3]) ∧ w = w' := by
  go_enter Tryz.func124, Tryz.ntmps124
  go_wp2_with fail
  refine (fact_there_no n _ h2 h3).mono ?_; rintro e w' ⟨rfl, rfl⟩
  go_wp2_with fail
  go_ret2
  exact ⟨rfl, rfl⟩
set_option maxHeartbeats 800000 in
theorem fact_Above (n : Nat) (w : World) (h1 : 1 ≤ n) (h2 : n ≤ 16777216) :
    Calls Tryz.prog 124 #[.int .i64 n] w fun e w' => e = .returned (.tuple #[.int .i64 (abv n : Nat), .int .i64 0]) ∧ w = w' := by
  have hL := bl_24 (n - 1) (by omega)
  obtain ⟨m, hm⟩ : ∃ m : Nat, n - 1 = m := ⟨n - 1, rfl⟩
  have hA : abv n = 2 ^ Lib.bitLen (n - 1) := rfl
  rw [hm] at hA hL
  have e1 : (n : Int) - 1 = (m : Int) := by omega
  have hm2 : m < 16777216 := by omega
  obtain ⟨L, hLL⟩ : ∃ L, Lib.bitLen m = L := ⟨_, rfl⟩
  have C1 : Hid (∀ w : World, Calls Tryz.prog 145 #[.int .u64 m] w fun e w' => e = .returned (.int .i64 L) ∧ w = w') := fun w => by
    have := bits_Len m w (by omega) (by omega)
    rw [Int.toNat_natCast, hLL] at this
    exact this
  rw [hLL] at hA hL
  have HA := Lib.hid hA
  clear hA hLL hm
  go_enter Tryz.func124, Tryz.ntmps124
  go_wp2_with fail
  refine (fact_there n _ h1 h2).mono ?_; rintro e w' ⟨rfl, rfl⟩
  go_wp2_with fail
  refine (C1.out _).mono ?_; rintro e w' ⟨rfl, rfl⟩
  go_wp2_with fail
  go_ret2
  have hw : wrap64 (2 ^ L) = (abv n : Nat) := by
    rw [HA.out]
    have h3 : 2 ^ L ≤ 2 ^ 24 := Nat.pow_le_pow_right (by omega) hL
    have e : (2 : Nat) ^ 24 = 16777216 := by decide
    have e4 : (2 : Int) ^ L = ((2 ^ L : Nat) : Int) := by rw [Int.natCast_pow]; rfl
    rw [e4]
    generalize 2 ^ L = q at h3 ⊢
    unfold wrap64; omega
  exact ⟨by simp [hw], rfl⟩
theorem chirp_Least_range (n : Nat) (w : World) (h : hasSz n = true) (hn : 8388608 < n) :
    Calls Tryz.prog 100 #[.int .i64 n] w fun e w' => e = .returned (.tuple #[.int .i64 0, .int .i64 3]) ∧ w = w' := by
  have H := Lib.hid h
  obtain ⟨h1, h2, _⟩ := hasSz_iff.1 h
  clear h
  obtain ⟨m, hm⟩ : ∃ m : Nat, 2 * (n : Int) - 1 = m := ⟨2 * n - 1, by omega⟩
  have hm2 : 16777216 < m := by omega
  have hm3 : m ≤ 33554432 := by omega
  go_enter Tryz.func100, Tryz.ntmps100
  go_wp2_with fail
  refine (rootHas_yes _ _ H.out).mono ?_; rintro e w' ⟨rfl, rfl⟩
  go_wp2_with fail
  refine (fact_Above_no m _ hm2 (by omega)).mono ?_; rintro e w' ⟨rfl, rfl⟩
  go_wp2_with fail
  go_ret2
  exact ⟨rfl, rfl⟩
theorem abv_le (n : Nat) (h2 : n ≤ 16777216) (h1 : 1 ≤ n) : abv n ≤ 16777216 := by
  have h3 : 2 ^ Lib.bitLen (n - 1) ≤ 2 ^ 24 := Nat.pow_le_pow_right (by omega) (bl_24 _ (by omega))
  have e : (2 : Nat) ^ 24 = 16777216 := by decide
  unfold abv; omega
theorem chirp_Least_ok (n m : Nat) (w : World) (h : hasSz n = true) (hn : n ≤ 8388608) (hm' : m = 2 * n - 1) :
    Calls Tryz.prog 100 #[.int .i64 n] w fun e w' => e = .returned (.tuple #[.int .i64 (abv m : Nat), .int .i64 0]) ∧ w = w' := by
  have H := Lib.hid h
  obtain ⟨h1, h2, _⟩ := hasSz_iff.1 h
  clear h
  have hm : 2 * (n : Int) - 1 = m := by omega
  have hm2 : 1 ≤ m := by omega
  have hm3 : m ≤ 16777216 := by omega
  have hA := abv_le m hm3 hm2
  obtain ⟨A, hAA⟩ : ∃ A, abv m = A := ⟨_, rfl⟩
  have HA := Lib.hid hAA
  rw [hAA] at hA ⊢
  clear hm' hAA
  go_enter Tryz.func100, Tryz.ntmps100
  go_wp2_with fail
  refine (rootHas_yes _ _ H.out).mono ?_; rintro e w' ⟨rfl, rfl⟩
  go_wp2_with fail
  refine (fact_Above m _ hm2 hm3).mono ?_; rintro e w' ⟨rfl, rfl⟩
  rw [HA.out]
  go_wp2_with fail
  go_ret2
  exact ⟨rfl, rfl⟩
end Go.Proofs.YtlnlijeamflpiaaGreat

namespace Go.Proofs.YtlnlijeamflpiaaGreat
open Go.RowKit
set_option linter.unusedVariables false
set_option linter.unusedSimpArgs false
set_option maxRecDepth 100000
def stL (n : Nat) : List Nat → List (Nat × Nat)
  | [] => []
  | p :: ps => (if n % p = 0 then [(p, (stripF 25 p n 0).2)] else []) ++ stL n ps
/-- The primes of a size. -/
def facS (n : Nat) : List (Nat × Nat) := stL n [2, 3, 5, 17, 257, 65537]
def lastP (ps : List (Nat × Nat)) : Nat := (ps.getD (ps.length - 1) (0, 0)).1
/-- Without a kid? -/
def noKid (n : Nat) : Bool := decide (2 ≤ n ∧ n ≤ 5) || (decide (n = 1) || (decide (n ≤ 64) && !hasP2 n)) || hasP2 n
def leafK (n : Nat) : Int := if 2 ≤ n ∧ n ≤ 5 then 2 else if n = 1 ∨ (n ≤ 64 ∧ hasP2 n = false) then 1 else 3
def planF : Nat → Nat → Tr
  | 0, n => .node 0 n []
  | f + 1, n =>
    if noKid n then .node (leafK n) n []
    else if prB (facS n) then .node 6 n [planF f (n - 1)]
    else .node 4 n [planF f (lastP (facS n)), planF f (n / lastP (facS n))]
/-- Do so many steps do? -/
def okF : Nat → Nat → Bool
  | 0, _ => false
  | f + 1, n => hasSz n && (
    if noKid n then true
    else if prB (facS n) then okF f (n - 1)
    else decide (1 ≤ (facS n).length) && decide (1 ≤ lastP (facS n)) && okF f (lastP (facS n)) && okF f (n / lastP (facS n)))
def pl (n : Nat) : Tr := planF 10 n
def leavesT (n : Nat) : List Tr := ((if n ≤ 64 then [.node 1 n []] else []) ++ (if 2 ≤ n ∧ n ≤ 5 then [.node 2 n []] else [])) ++ (if 2 ≤ n ∧ hasP2 n = true then [.node 3 n []] else [])
def splitT (n : Nat) (p : Nat × Nat) : List Tr := if p.1 = n then [] else [.node 4 n [pl p.1, pl (n / p.1)]]
def goodT (n : Nat) (p : Nat × Nat) : List Tr := if p.1 ^ p.2 = n then [] else [.node 5 n [pl (p.1 ^ p.2), pl (n / p.1 ^ p.2)]]
def splitsT (n : Nat) (ps : List (Nat × Nat)) : List Tr := ps.flatMap (splitT n)
def goodsT (n : Nat) (ps : List (Nat × Nat)) : List Tr := ps.flatMap (goodT n)
def raderT (n : Nat) : List Tr := if 3 ≤ n ∧ prB (facS n) = true then [.node 6 n [pl (n - 1)]] else []
def blueT (n : Nat) : List Tr := if 2 ≤ n ∧ n ≤ 8388608 then [.node 7 n [pl (abv (2 * n - 1))]] else []
def listT (n : Nat) : List Tr := ((leavesT n ++ (splitsT n (facS n) ++ goodsT n (facS n))) ++ raderT n) ++ blueT n
def differ : List Tr → Bool
  | [] => true
  | t :: ts => ts.all (fun u => decide (Tr.cmp u t ≠ 0)) && differ ts
def kidsB (n : Nat) : Bool :=
  okF 10 n && (facS n).all (fun p => decide (1 ≤ p.1) && decide (p.1 ≤ n) && decide (p.2 ≤ 24) && decide (1 ≤ p.1 ^ p.2) && decide (p.1 ^ p.2 ≤ n) && okF 10 p.1 && okF 10 (n / p.1) && okF 10 (p.1 ^ p.2) && okF 10 (n / p.1 ^ p.2) && decide (Tr.size (pl p.1) ≤ 60)) && decide ((facS n).length ≤ 6) && (!prB (facS n) || decide (n ≤ 2) || okF 10 (n - 1)) &&
  (decide (n < 2) || decide (8388608 < n) || okF 10 (abv (2 * n - 1)))
def listB (n : Nat) : Bool :=
  decide (chk (pl n) = 0) && decide ((pl n).num = n) && (listT n).all (fun t => decide (chk t = 0) && decide (t.num = n)) && decide (1 ≤ (listT n).length) && decide ((listT n).length ≤ 12) && differ (listT n)
def candB (n : Nat) : Bool := kidsB n && listB n && decide (facL n = facS n)
def oddL : List Nat := [1, 3, 5, 15, 17, 51, 85, 255].flatMap fun a => [a, a * 257, a * 65537, a * 257 * 65537]
theorem candAll : (oddL.all fun g => (List.range 25).all fun j => decide (16777216 < 2 ^ j * g) || candB (2 ^ j * g)) = true := by decide +kernel
theorem dvd_two (k : Nat) : ∀ d, d ∣ 2 ^ k → ∃ j, d = 2 ^ j := by
  induction k with
  | zero => intro d h; exact ⟨0, by simpa using h⟩
  | succ k ih =>
    intro d h
    by_cases h2 : d % 2 = 0
    · obtain ⟨e, rfl⟩ := Nat.dvd_of_mod_eq_zero h2
      rw [Nat.pow_succ, Nat.mul_comm (2 ^ k) 2] at h
      obtain ⟨j, rfl⟩ := ih e (Nat.dvd_of_mul_dvd_mul_left (by omega) h)
      exact ⟨j + 1, by rw [Nat.pow_succ]; omega⟩
    · have hc : Nat.Coprime d 2 := by
        unfold Nat.Coprime
        rw [Nat.gcd_comm, Nat.gcd_rec, show d % 2 = 1 by omega]
        rfl
      rw [Nat.pow_succ] at h
      exact ih d (hc.dvd_of_dvd_mul_right h)
theorem dvd_fewer {p s : Nat} (hp : 0 < p) (hs : p < (s + 1) * (s + 1)) (h : ∀ k, k < s + 1 → 2 ≤ k → p % k ≠ 0) (d : Nat) (hd : d ∣ p) : d = 1 ∨ d = p := by
  obtain ⟨e, rfl⟩ := hd
  have hd0 : d ≠ 0 := by rintro rfl; simp at hp
  have he0 : e ≠ 0 := by rintro rfl; simp at hp
  by_cases h1 : d = 1
  · exact .inl h1
  by_cases h2 : e = 1
  · exact .inr (by rw [h2, Nat.mul_one])
  exfalso
  by_cases hk : d < s + 1
  · exact h d hk (by omega) (Nat.mul_mod_right d e)
  · by_cases hk2 : e < s + 1
    · exact h e hk2 (by omega) (Nat.mul_mod_left d e)
    · have := Nat.mul_le_mul (show s + 1 ≤ d by omega) (show s + 1 ≤ e by omega)
      omega
theorem gcd_split {n a b : Nat} (hc : Nat.Coprime a b) (h : n ∣ a * b) : n = Nat.gcd n a * Nat.gcd n b := by
  rw [← hc.gcd_mul, Nat.gcd_eq_left h]
theorem size_form (n : Nat) (h1 : 1 ≤ n) (h2 : n ≤ 16777216) (h : n ∣ 18446744069414584320) : ∃ g ∈ oddL, ∃ j, j < 25 ∧ n = 2 ^ j * g := by
  have e : 18446744069414584320 = 2 ^ 32 * (3 * (5 * (17 * (257 * 65537)))) := by decide
  rw [e] at h
  obtain ⟨j, hj⟩ := dvd_two 32 (Nat.gcd n (2 ^ 32)) (Nat.gcd_dvd_right _ _)
  have s0 := gcd_split (by decide) h
  have f0 : Nat.gcd n (3 * (5 * (17 * (257 * 65537)))) ∣ 3 * (5 * (17 * (257 * 65537))) := Nat.gcd_dvd_right _ _
  rw [hj] at s0
  obtain ⟨m, hm⟩ : ∃ m, Nat.gcd n (3 * (5 * (17 * (257 * 65537)))) = m := ⟨_, rfl⟩
  rw [hm] at s0 f0
  have s1 := gcd_split (by decide) f0
  have f1 : Nat.gcd m (5 * (17 * (257 * 65537))) ∣ 5 * (17 * (257 * 65537)) := Nat.gcd_dvd_right _ _
  have g3 := dvd_fewer (p := 3) (s := 1) (by omega) (by omega) (by decide) _ (Nat.gcd_dvd_right m 3)
  obtain ⟨m1, hm1⟩ : ∃ x, Nat.gcd m (5 * (17 * (257 * 65537))) = x := ⟨_, rfl⟩
  obtain ⟨a3, ha3⟩ : ∃ x, Nat.gcd m 3 = x := ⟨_, rfl⟩
  rw [hm1] at s1 f1; rw [ha3] at s1 g3
  have s2 := gcd_split (by decide) f1
  have f2 : Nat.gcd m1 (17 * (257 * 65537)) ∣ 17 * (257 * 65537) := Nat.gcd_dvd_right _ _
  have g5 := dvd_fewer (p := 5) (s := 2) (by omega) (by omega) (by decide) _ (Nat.gcd_dvd_right m1 5)
  obtain ⟨m2, hm2⟩ : ∃ x, Nat.gcd m1 (17 * (257 * 65537)) = x := ⟨_, rfl⟩
  obtain ⟨a5, ha5⟩ : ∃ x, Nat.gcd m1 5 = x := ⟨_, rfl⟩
  rw [hm2] at s2 f2; rw [ha5] at s2 g5
  have s3 := gcd_split (by decide) f2
  have f3 : Nat.gcd m2 (257 * 65537) ∣ 257 * 65537 := Nat.gcd_dvd_right _ _
  have g17 := dvd_fewer (p := 17) (s := 4) (by omega) (by omega) (by decide) _ (Nat.gcd_dvd_right m2 17)
  obtain ⟨m3, hm3⟩ : ∃ x, Nat.gcd m2 (257 * 65537) = x := ⟨_, rfl⟩
  obtain ⟨a17, ha17⟩ : ∃ x, Nat.gcd m2 17 = x := ⟨_, rfl⟩
  rw [hm3] at s3 f3; rw [ha17] at s3 g17
  have s4 := gcd_split (by decide) f3
  have g257 := dvd_fewer (p := 257) (s := 16) (by omega) (by omega) (by decide) _ (Nat.gcd_dvd_right m3 257)
  have g655 := dvd_fewer (p := 65537) (s := 256) (by omega) (by omega) (by decide +kernel) _ (Nat.gcd_dvd_right m3 65537)
  obtain ⟨a257, ha257⟩ : ∃ x, Nat.gcd m3 257 = x := ⟨_, rfl⟩
  obtain ⟨a655, ha655⟩ : ∃ x, Nat.gcd m3 65537 = x := ⟨_, rfl⟩
  rw [ha257] at s4 g257; rw [ha655] at s4 g655
  have hmo : m ∈ oddL := by
    rw [s1, s2, s3, s4]
    clear s0 s1 s2 s3 s4 f0 f1 f2 f3 hm hm1 hm2 hm3 ha3 ha5 ha17 ha257 ha655 e h hj
    rcases g3 with rfl | rfl <;> rcases g5 with rfl | rfl <;> rcases g17 with rfl | rfl <;> rcases g257 with rfl | rfl <;> rcases g655 with rfl | rfl <;> decide
  refine ⟨m, hmo, j, ?_, s0⟩
  by_cases hj25 : j < 25
  · exact hj25
  · exfalso
    have h25 : 2 ^ 25 ≤ 2 ^ j := Nat.pow_le_pow_right (by omega) (by omega)
    have e2 : (2 : Nat) ^ 25 = 33554432 := by decide
    have hm0 : 1 ≤ m := by
      rcases Nat.eq_zero_or_pos m with h0 | h0
      · rw [h0] at s0; omega
      · exact h0
    have := Nat.mul_le_mul h25 hm0
    omega
theorem cand_sz {n : Nat} (h : hasSz n = true) : candB n = true := by
  obtain ⟨h1, h2, h3⟩ := hasSz_iff.1 h
  have hd : n ∣ 18446744069414584320 := by
    refine Nat.dvd_of_mod_eq_zero ?_
    have : ((18446744069414584320 % n : Nat) : Int) = 0 := by rw [Int.natCast_emod]; exact h3
    omega
  obtain ⟨g, hg, j, hj, hn⟩ := size_form n (by omega) (by omega) hd
  have h4 := List.all_eq_true.1 (List.all_eq_true.1 candAll g hg) j (List.mem_range.2 hj)
  rw [← hn] at h4
  rw [Bool.or_eq_true, decide_eq_true_eq] at h4
  rcases h4 with h4 | h4
  · omega
  · exact h4
theorem fac_sz {n : Nat} (h : hasSz n = true) : facL n = facS n := by
  have := cand_sz h
  unfold candB at this
  simp only [Bool.and_eq_true, decide_eq_true_eq] at this
  exact this.2
theorem kids_sz {n : Nat} (h : hasSz n = true) : kidsB n = true := by
  have := cand_sz h
  unfold candB at this
  simp only [Bool.and_eq_true] at this
  exact this.1.1
theorem list_sz {n : Nat} (h : hasSz n = true) : listB n = true := by
  have := cand_sz h
  unfold candB at this
  simp only [Bool.and_eq_true] at this
  exact this.1.2
end Go.Proofs.YtlnlijeamflpiaaGreat

namespace Go.Proofs.YtlnlijeamflpiaaGreat
open Sm
set_option linter.unusedVariables false
set_option linter.unusedSimpArgs false
set_option maxRecDepth 100000
def passAt (xs ws : List Int) (s k : Nat) : Int :=
  if k / s % 2 = 0 then (nth xs (k % s + s * (k / s / 2)) + nth xs (k % s + s * (k / s / 2) + xs.length / 2)) % 18446744069414584321
  else (nth xs (k % s + s * (k / s / 2)) - nth xs (k % s + s * (k / s / 2) + xs.length / 2)) * nth ws (k / s / 2 * s) % 18446744069414584321
def passL (xs ws : List Int) (s : Nat) : List Int := (List.range xs.length).map (passAt xs ws s)
def withTo (xs ws : List Int) : Nat → List Int
  | 0 => xs.map (· % 18446744069414584321)
  | j + 1 => passL (withTo xs ws j) ws (2 ^ j)
theorem passL_len (xs ws : List Int) (s : Nat) : (passL xs ws s).length = xs.length := by simp [passL]
theorem nth_passL (xs ws : List Int) (s k : Nat) (h : k < xs.length) : nth (passL xs ws s) k = passAt xs ws s k := nth_ofFn _ _ _ h
theorem passAt_range (xs ws : List Int) (s k : Nat) : 0 ≤ passAt xs ws s k ∧ passAt xs ws s k < 18446744069414584321 := by unfold passAt; split <;> omega
theorem passL_fits (xs ws : List Int) (s : Nat) : ∀ x ∈ passL xs ws s, fits .u64 x := by
  intro x hx
  obtain ⟨k, _, rfl⟩ := List.mem_map.1 hx
  have := passAt_range xs ws s k
  exact fits_u64.2 (by omega)
theorem withTo_len (xs ws : List Int) (j : Nat) : (withTo xs ws j).length = xs.length := by
  induction j with
  | zero => simp [withTo]
  | succ j ih => simp only [withTo]; rw [passL_len, ih]
theorem withTo_range (xs ws : List Int) (j k : Nat) (hk : k < xs.length) : 0 ≤ nth (withTo xs ws j) k ∧ nth (withTo xs ws j) k < 18446744069414584321 := by
  cases j with
  | zero => simp only [withTo]; rw [nth_map _ _ _ hk]; omega
  | succ j => simp only [withTo]; rw [nth_passL _ _ _ _ (by rw [withTo_len]; exact hk)]; exact passAt_range _ _ _ _
theorem S_double (n : Nat) (f : Nat → Int) : S (2 * n) f = S n (fun i => f (2 * i)) + S n (fun i => f (2 * i + 1)) := by
  induction n with
  | zero => rfl
  | succ n ih =>
    rw [show 2 * (n + 1) = 2 * n + 1 + 1 by omega]
    simp only [S, ih]
    omega
theorem fft_step (w : Int) (s h : Nat) (hs : 0 < s) (hm1 : Eqm (w ^ (s * h)) (-1)) (X Y Z : Nat → Int)
    (hY : ∀ q t, q < s → t < 2 * h → Eqm (Y (q + s * t)) (S s (fun i => X (t + i * (2 * h)) * w ^ (q * (t + i * (2 * h))))))
    (hZ0 : ∀ q p, q < s → p < h → Eqm (Z (q + 2 * s * p)) (Y (q + s * p) + Y (q + s * (p + h))))
    (hZ1 : ∀ q p, q < s → p < h → Eqm (Z (q + s + 2 * s * p)) ((Y (q + s * p) - Y (q + s * (p + h))) * w ^ (p * s))) :
    ∀ Q p, Q < 2 * s → p < h → Eqm (Z (Q + 2 * s * p)) (S (2 * s) (fun i => X (p + i * h) * w ^ (Q * (p + i * h)))) := by
  intro Q p hQ hp
  have e0 : ∀ i, 2 * i * h = i * (2 * h) := fun i => by rw [Nat.mul_comm 2 i, Nat.mul_assoc]
  have e1 : ∀ i, (2 * i + 1) * h = i * (2 * h) + h := fun i => by rw [Nat.add_mul, e0, Nat.one_mul]
  by_cases hlt : Q < s
  · refine (hZ0 Q p hlt hp).trans ?_
    rw [S_double]
    refine ((hY Q p hlt (by omega)).add (hY Q (p + h) hlt (by omega))).trans ?_
    have a1 : S s (fun i => X (p + h + i * (2 * h)) * w ^ (Q * (p + h + i * (2 * h)))) = S s (fun i => X (p + (2 * i + 1) * h) * w ^ (Q * (p + (2 * i + 1) * h))) := S_congr fun i _ => by
      rw [e1, show p + h + i * (2 * h) = p + (i * (2 * h) + h) by omega]
    have a0 : S s (fun i => X (p + i * (2 * h)) * w ^ (Q * (p + i * (2 * h)))) = S s (fun i => X (p + 2 * i * h) * w ^ (Q * (p + 2 * i * h))) := S_congr fun i _ => by rw [e0]
    rw [a0, a1]; exact rfl' _
  · obtain ⟨q, rfl⟩ : ∃ q, Q = q + s := ⟨Q - s, by omega⟩
    refine (hZ1 q p (by omega) hp).trans ?_
    rw [S_double]
    refine (((hY q p (by omega) (by omega)).sub (hY q (p + h) (by omega) (by omega))).mul (rfl' _)).trans ?_
    rw [Int.sub_mul, ← S_mul_r, ← S_mul_r]
    have hpow : ∀ i, Eqm ((w ^ (s * h)) ^ (2 * i)) 1 := fun i => by
      rw [Int.pow_mul]
      have h1 := (hm1.pow 2).pow i
      rw [show ((-1 : Int)) ^ 2 = 1 from rfl, Int.one_pow] at h1
      exact h1
    have t0 : ∀ i, Eqm (w ^ (q * (p + i * (2 * h))) * w ^ (p * s)) (w ^ ((q + s) * (p + 2 * i * h))) := fun i => by
      have h2 : w ^ ((q + s) * (p + 2 * i * h)) = (w ^ (q * (p + i * (2 * h))) * w ^ (p * s)) * (w ^ (s * h)) ^ (2 * i) := by
        rw [← Int.pow_add, ← Int.pow_mul, ← Int.pow_add]
        congr 1
        rw [e0]; grind
      rw [h2]
      have h3 := (rfl' (w ^ (q * (p + i * (2 * h))) * w ^ (p * s))).mul (hpow i)
      rw [Int.mul_one] at h3
      exact h3.symm
    have t1 : ∀ i, Eqm (-(w ^ (q * (p + h + i * (2 * h))) * w ^ (p * s))) (w ^ ((q + s) * (p + (2 * i + 1) * h))) := fun i => by
      have h2 : w ^ ((q + s) * (p + (2 * i + 1) * h)) = (w ^ (q * (p + h + i * (2 * h))) * w ^ (p * s)) * ((w ^ (s * h)) ^ (2 * i) * w ^ (s * h)) := by
        rw [← Int.pow_add, ← Int.pow_mul, ← Int.pow_add, ← Int.pow_add]
        congr 1
        rw [e1]; grind
      rw [h2]
      have h3 := (rfl' (w ^ (q * (p + h + i * (2 * h))) * w ^ (p * s))).mul ((hpow i).mul hm1)
      rw [show (1 : Int) * -1 = -1 from rfl, Int.mul_neg, Int.mul_one] at h3
      exact h3.symm
    have b0 : Eqm (S s (fun i => X (p + i * (2 * h)) * w ^ (q * (p + i * (2 * h))) * w ^ (p * s))) (S s (fun i => X (p + 2 * i * h) * w ^ ((q + s) * (p + 2 * i * h)))) := S_eqm fun i _ => by
      rw [Int.mul_assoc, e0 i]; have := t0 i; rw [e0 i] at this; exact (rfl' _).mul this
    have b1 : Eqm (-(S s (fun i => X (p + h + i * (2 * h)) * w ^ (q * (p + h + i * (2 * h))) * w ^ (p * s)))) (S s (fun i => X (p + (2 * i + 1) * h) * w ^ ((q + s) * (p + (2 * i + 1) * h)))) := by
      have e : -(S s (fun i => X (p + h + i * (2 * h)) * w ^ (q * (p + h + i * (2 * h))) * w ^ (p * s))) = S s (fun i => -1 * (X (p + h + i * (2 * h)) * w ^ (q * (p + h + i * (2 * h))) * w ^ (p * s))) := by
        rw [S_mul]; omega
      rw [e]
      refine S_eqm fun i _ => ?_
      have := t1 i
      rw [e1 i] at this ⊢
      rw [show p + h + i * (2 * h) = p + (i * (2 * h) + h) by omega] at *
      rw [show -1 * (X (p + (i * (2 * h) + h)) * w ^ (q * (p + (i * (2 * h) + h))) * w ^ (p * s)) = X (p + (i * (2 * h) + h)) * -(w ^ (q * (p + (i * (2 * h) + h))) * w ^ (p * s)) by grind]
      exact (rfl' _).mul this
    rw [Int.sub_eq_add_neg]
    exact b0.add b1
theorem root_half {w u : Int} {n : Nat} (hr : IsRoot w u n) (h : Nat) (hn : n = 2 * h) (h0 : 0 < h) : Eqm (w ^ h) (-1) := by
  have h1 : Eqm ((w ^ h - 1) * (w ^ h + 1)) 0 := by
    have e : (w ^ h - 1) * (w ^ h + 1) = w ^ n - 1 := by
      rw [hn, show w ^ (2 * h) = w ^ h * w ^ h by rw [← Int.pow_add]; congr 1; omega]; grind
    rw [e]
    have := hr.one.sub (rfl' 1)
    rwa [Int.sub_self] at this
  have h2 := strike' _ _ (fun e => hr.least h h0 (by omega) (by
    have := e.add (rfl' 1)
    rwa [Int.sub_add_cancel, Int.zero_add] at this)) h1
  have := h2.sub (rfl' 1)
  rw [show w ^ h + 1 - 1 = w ^ h by omega, show (0 : Int) - 1 = -1 from rfl] at this
  exact this
/-- Behind j passes. -/
theorem fft_to (xs ws : List Int) (w u : Int) (m : Nat) (hr : IsRoot w u (2 ^ m)) (hx : xs.length = 2 ^ m) (hw : ∀ i, i < 2 ^ m → Eqm (nth ws i) (w ^ i)) :
    ∀ j h, 2 ^ m = 2 ^ j * h → ∀ q t, q < 2 ^ j → t < h → Eqm (nth (withTo xs ws j) (q + 2 ^ j * t)) (S (2 ^ j) (fun i => nth xs (t + i * h) * w ^ (q * (t + i * h)))) := by
  intro j
  induction j with
  | zero =>
    intro h hh q t hq ht
    rw [Nat.pow_zero] at hh hq ⊢
    have hq0 : q = 0 := by omega
    subst hq0
    rw [Nat.one_mul] at hh
    simp only [withTo, S, Nat.zero_add, Nat.one_mul, Nat.zero_mul, Nat.add_zero, Int.pow_zero, Int.mul_one, Int.zero_add]
    rw [nth_map _ _ _ (by omega)]
    exact Eqm.mod _
  | succ j ih =>
    intro h hh
    have hs : 0 < 2 ^ j := Nat.pow_pos (by omega)
    have e : 2 ^ m = 2 ^ j * (2 * h) := by rw [hh, Nat.pow_succ, Nat.mul_assoc]
    have h0 : 0 < h := Nat.pos_of_ne_zero (fun e0 => by subst e0; have : 0 < 2 ^ m := Nat.pow_pos (by omega); omega)
    have hY := ih (2 * h) e
    have hl : (withTo xs ws j).length = 2 ^ m := by rw [withTo_len, hx]
    have e2 : 2 ^ m = 2 * (2 ^ j * h) := by rw [e]; grind
    have hm1 := root_half hr (2 ^ j * h) e2 (Nat.mul_pos hs h0)
    have hhalf : 2 ^ m / 2 = 2 ^ j * h := by omega
    rw [Nat.pow_succ, Nat.mul_comm (2 ^ j) 2]
    have place : ∀ q p r, q < 2 ^ j → r < 2 → (q + 2 ^ j * r + 2 * 2 ^ j * p) % 2 ^ j = q ∧ (q + 2 ^ j * r + 2 * 2 ^ j * p) / 2 ^ j = r + 2 * p := fun q p r hq hr => by
      have e3 : q + 2 ^ j * r + 2 * 2 ^ j * p = q + 2 ^ j * (r + 2 * p) := by grind
      rw [e3]
      exact ⟨by rw [Nat.add_mul_mod_self_left, Nat.mod_eq_of_lt hq], by rw [Nat.add_mul_div_left _ _ hs, Nat.div_eq_of_lt hq, Nat.zero_add]⟩
    have inside : ∀ q p r, q < 2 ^ j → r < 2 → p < h → q + 2 ^ j * r + 2 * 2 ^ j * p < 2 ^ m := fun q p r hq hr hp => by
      have e3 : q + 2 ^ j * r + 2 * 2 ^ j * p = q + 2 ^ j * (r + 2 * p) := by grind
      have h4 : 2 ^ j * (r + 2 * p + 1) ≤ 2 ^ j * (2 * h) := Nat.mul_le_mul_left _ (by omega)
      rw [Nat.mul_add, Nat.mul_one] at h4
      omega
    refine fft_step w (2 ^ j) h hs hm1 (nth xs) (nth (withTo xs ws j)) (nth (withTo xs ws (j + 1))) hY (fun q p hq hp => ?_) (fun q p hq hp => ?_)
    · have h1 := place q p 0 hq (by omega)
      have h2 := inside q p 0 hq (by omega) hp
      rw [Nat.mul_zero, Nat.add_zero] at h1 h2
      simp only [withTo]
      rw [nth_passL _ _ _ _ (by rw [hl]; exact h2)]
      unfold passAt
      rw [h1.1, h1.2, hl, hhalf, if_pos (by omega), show (0 + 2 * p) / 2 = p by omega]
      rw [show q + 2 ^ j * p + 2 ^ j * h = q + 2 ^ j * (p + h) by rw [Nat.mul_add]; omega]
      exact Eqm.mod _
    · have h1 := place q p 1 hq (by omega)
      have h2 := inside q p 1 hq (by omega) hp
      rw [Nat.mul_one] at h1 h2
      simp only [withTo]
      rw [nth_passL _ _ _ _ (by rw [hl]; exact h2)]
      unfold passAt
      rw [h1.1, h1.2, hl, hhalf, if_neg (by omega), show (1 + 2 * p) / 2 = p by omega]
      rw [show q + 2 ^ j * p + 2 ^ j * h = q + 2 ^ j * (p + h) by rw [Nat.mul_add]; omega]
      refine (Eqm.mod _).trans ((rfl' _).mul (hw (p * 2 ^ j) ?_))
      have h5 : 2 ^ j * (p + 1) ≤ 2 ^ j * (2 * h) := Nat.mul_le_mul_left _ (by omega)
      rw [Nat.mul_add, Nat.mul_one] at h5
      rw [Nat.mul_comm p]
      omega
theorem fft_all (xs : List Int) (z u : Int) (m : Nat) (hr : IsRoot z u (2 ^ m)) (hx : xs.length = 2 ^ m) : withTo xs (powL z (2 ^ m)) m = dftL xs z := by
  apply ext_nth (by rw [withTo_len, dftL_len])
  intro k hk
  rw [withTo_len] at hk
  have h1 := fft_to xs (powL z (2 ^ m)) z u m hr hx (fun i hi => by rw [show nth (powL z (2 ^ m)) i = pw z i from nth_ofFn _ _ _ hi]; exact pw_eqm z i) m 1 (by omega) k 0 (by omega) (by omega)
  rw [Nat.mul_zero, Nat.add_zero] at h1
  have h2 := pt_T xs z k
  rw [hx] at h2
  have e : S (2 ^ m) (fun i => nth xs (0 + i * 1) * z ^ (k * (0 + i * 1))) = T (2 ^ m) z (nth xs) k := by
    unfold T
    exact S_congr fun i _ => by rw [Nat.zero_add, Nat.mul_one, Nat.mul_comm k i]
  rw [e] at h1
  rw [nth_dftL _ _ _ hk]
  have b1 := withTo_range xs (powL z (2 ^ m)) m k hk
  have b2 := pt_range xs (pw z k)
  exact eq_of_eqm (h1.trans h2.symm) b1.1 b1.2 b2.1 b2.2
theorem hasSz_pow (m : Nat) (h : m ≤ 24) : hasSz ((2 ^ m : Nat) : Int) = true := by
  have : ∀ m ∈ List.range 25, hasSz ((2 ^ m : Nat) : Int) = true := by decide
  exact this m (by simp; omega)
end Go.Proofs.YtlnlijeamflpiaaGreat

namespace Go.Proofs.YtlnlijeamflpiaaGreat
open Sm
set_option linter.unusedVariables false
set_option linter.unusedSimpArgs false
set_option maxRecDepth 100000
theorem eqm_of (a b q : Int) (h : a = b + 18446744069414584321 * q) : Eqm a b := by
  unfold Eqm; rw [h, Int.add_mul_emod_self_left]
theorem eqm_wit {a b : Int} (h : Eqm a b) : ∃ m, a = b + 18446744069414584321 * m := by
  unfold Eqm at h
  exact ⟨a / 18446744069414584321 - b / 18446744069414584321, by omega⟩
theorem dft_of (xs ys : List Int) (z u : Int) (hr : IsRoot z u xs.length) (hl : ys.length = xs.length)
    (h : ∀ k, k < xs.length → 0 ≤ nth ys k ∧ nth ys k < 18446744069414584321 ∧ Eqm (nth ys k) (S xs.length (fun i => nth xs i * z ^ (i * k % xs.length)))) : ys = dftL xs z := by
  apply ext_nth (by rw [dftL_len, hl])
  intro k hk
  rw [hl] at hk
  rw [nth_dftL _ _ _ hk]
  obtain ⟨h1, h2, h3⟩ := h k hk
  have h4 : Eqm (S xs.length (fun i => nth xs i * z ^ (i * k % xs.length))) (T xs.length z (nth xs) k) := S_eqm fun i _ => (rfl' _).mul (hr.pow_mod (i * k))
  have b := pt_range xs (pw z k)
  exact eq_of_eqm ((h3.trans h4).trans (pt_T xs z k).symm) h1 h2 b.1 b.2
theorem ipow1 (z : Int) : z ^ 1 = z := by rw [Int.pow_succ, Int.pow_zero, Int.one_mul]
theorem two_eq (a b z u v0 v1 : Int) (hr : IsRoot z u 2) (r0 : 0 ≤ v0 ∧ v0 < 18446744069414584321) (r1 : 0 ≤ v1 ∧ v1 < 18446744069414584321) (e0 : Eqm v0 (a + b)) (e1 : Eqm v1 (a + b * z)) : [v0, v1] = dftL [a, b] z := by
  refine dft_of [a, b] [v0, v1] z u hr rfl fun k hk => ?_
  have : k = 0 ∨ k = 1 := by simp at hk; omega
  rcases this with rfl | rfl
  · exact ⟨r0.1, r0.2, by simpa [S, nth, ipow1] using e0⟩
  · exact ⟨r1.1, r1.2, by simpa [S, nth, ipow1] using e1⟩
theorem three_eq (a b c z u v0 v1 v2 : Int) (hr : IsRoot z u 3) (r0 : 0 ≤ v0 ∧ v0 < 18446744069414584321) (r1 : 0 ≤ v1 ∧ v1 < 18446744069414584321) (r2 : 0 ≤ v2 ∧ v2 < 18446744069414584321)
    (e0 : Eqm v0 (a + b + c)) (e1 : Eqm v1 (a + b * z + c * z ^ 2)) (e2 : Eqm v2 (a + b * z ^ 2 + c * z)) : [v0, v1, v2] = dftL [a, b, c] z := by
  refine dft_of [a, b, c] [v0, v1, v2] z u hr rfl fun k hk => ?_
  have : k = 0 ∨ k = 1 ∨ k = 2 := by simp at hk; omega
  rcases this with rfl | rfl | rfl
  · exact ⟨r0.1, r0.2, by simpa [S, nth, ipow1] using e0⟩
  · exact ⟨r1.1, r1.2, by simpa [S, nth, ipow1] using e1⟩
  · exact ⟨r2.1, r2.2, by simpa [S, nth, ipow1] using e2⟩
theorem four_eq (a b c d z u v0 v1 v2 v3 : Int) (hr : IsRoot z u 4) (r0 : 0 ≤ v0 ∧ v0 < 18446744069414584321) (r1 : 0 ≤ v1 ∧ v1 < 18446744069414584321) (r2 : 0 ≤ v2 ∧ v2 < 18446744069414584321) (r3 : 0 ≤ v3 ∧ v3 < 18446744069414584321)
    (e0 : Eqm v0 (a + b + c + d)) (e1 : Eqm v1 (a + b * z + c * z ^ 2 + d * z ^ 3)) (e2 : Eqm v2 (a + b * z ^ 2 + c + d * z ^ 2)) (e3 : Eqm v3 (a + b * z ^ 3 + c * z ^ 2 + d * z)) : [v0, v1, v2, v3] = dftL [a, b, c, d] z := by
  refine dft_of [a, b, c, d] [v0, v1, v2, v3] z u hr rfl fun k hk => ?_
  have : k = 0 ∨ k = 1 ∨ k = 2 ∨ k = 3 := by simp at hk; omega
  rcases this with rfl | rfl | rfl | rfl
  · exact ⟨r0.1, r0.2, by simpa [S, nth, ipow1] using e0⟩
  · exact ⟨r1.1, r1.2, by simpa [S, nth, ipow1] using e1⟩
  · exact ⟨r2.1, r2.2, by simpa [S, nth, ipow1] using e2⟩
  · exact ⟨r3.1, r3.2, by simpa [S, nth, ipow1] using e3⟩
theorem five_eq (a b c d e z u v0 v1 v2 v3 v4 : Int) (hr : IsRoot z u 5) (r0 : 0 ≤ v0 ∧ v0 < 18446744069414584321) (r1 : 0 ≤ v1 ∧ v1 < 18446744069414584321) (r2 : 0 ≤ v2 ∧ v2 < 18446744069414584321) (r3 : 0 ≤ v3 ∧ v3 < 18446744069414584321) (r4 : 0 ≤ v4 ∧ v4 < 18446744069414584321)
    (e0 : Eqm v0 (a + b + c + d + e)) (e1 : Eqm v1 (a + b * z + c * z ^ 2 + d * z ^ 3 + e * z ^ 4)) (e2 : Eqm v2 (a + b * z ^ 2 + c * z ^ 4 + d * z + e * z ^ 3))
    (e3 : Eqm v3 (a + b * z ^ 3 + c * z + d * z ^ 4 + e * z ^ 2)) (e4 : Eqm v4 (a + b * z ^ 4 + c * z ^ 3 + d * z ^ 2 + e * z)) : [v0, v1, v2, v3, v4] = dftL [a, b, c, d, e] z := by
  refine dft_of [a, b, c, d, e] [v0, v1, v2, v3, v4] z u hr rfl fun k hk => ?_
  have : k = 0 ∨ k = 1 ∨ k = 2 ∨ k = 3 ∨ k = 4 := by simp at hk; omega
  rcases this with rfl | rfl | rfl | rfl | rfl
  · exact ⟨r0.1, r0.2, by simpa [S, nth, ipow1] using e0⟩
  · exact ⟨r1.1, r1.2, by simpa [S, nth, ipow1] using e1⟩
  · exact ⟨r2.1, r2.2, by simpa [S, nth, ipow1] using e2⟩
  · exact ⟨r3.1, r3.2, by simpa [S, nth, ipow1] using e3⟩
  · exact ⟨r4.1, r4.2, by simpa [S, nth, ipow1] using e4⟩
theorem one_eq (xs : List Int) (z u : Int) (hr : IsRoot z u xs.length) (hl : xs.length = 1) : xs.map (· % 18446744069414584321) = dftL xs z := by
  refine dft_of xs _ z u hr (by simp) fun k hk => ?_
  rw [nth_map (· % 18446744069414584321) xs k hk]
  refine ⟨by omega, by omega, ?_⟩
  have : k = 0 := by omega
  subst this
  rw [hl]
  simp only [S, Nat.zero_mul, Nat.zero_mod, Int.pow_zero, Int.mul_one, Int.zero_add]
  exact Eqm.mod _
def hf : Int := 9223372034707292161
theorem hf2 : 2 * hf = 18446744069414584321 + 1 := rfl
end Go.Proofs.YtlnlijeamflpiaaGreat

namespace Go.Proofs.YtlnlijeamflpiaaGreat
open Sm
set_option linter.unusedVariables false
set_option linter.unusedSimpArgs false
set_option maxRecDepth 100000
def triT (i : Nat) : Nat := i * (i - 1) / 2
theorem triT_succ (k : Nat) : triT (k + 1) = triT k + k := by
  unfold triT
  cases k with
  | zero => rfl
  | succ j =>
    have e : (j + 1 + 1) * (j + 1 + 1 - 1) = (j + 1) * (j + 1 - 1) + 2 * (j + 1) := by
      rw [show j + 1 + 1 - 1 = j + 1 by omega, show j + 1 - 1 = j by omega]; grind
    rw [e]; omega
theorem triT_add (a b : Nat) : triT (a + b) = triT a + triT b + a * b := by
  induction b with
  | zero => rw [Nat.add_zero, Nat.mul_zero]; rfl
  | succ b ih => rw [← Nat.add_assoc, triT_succ, triT_succ, ih, Nat.mul_succ]; omega
def triN (n i : Nat) : Nat := triT i % n
theorem triN_lt (n i : Nat) (h : 0 < n) : triN n i < n := Nat.mod_lt _ h
def rowT (z : Int) (n many : Nat) : List Int := (List.range many).map fun j => pw z (triN n j)
theorem rowT_len (z : Int) (n m : Nat) : (rowT z n m).length = m := by simp [rowT]
theorem nth_rowT (z : Int) (n m i : Nat) (h : i < m) : nth (rowT z n m) i = pw z (triN n i) := nth_ofFn _ _ _ h
theorem rowT_fits (z : Int) (n m : Nat) : ∀ x ∈ rowT z n m, fits .u64 x := by
  intro x hx; obtain ⟨i, _, rfl⟩ := List.mem_map.1 hx
  have := pw_range z (triN n i)
  exact fits_u64.2 (by omega)
/-- Backwards, and turned. -/
def foreL (xs : List Int) (u : Int) (n : Nat) : List Int := (List.range n).map fun i => nth xs (n - 1 - i) * pw u (triN n (n - 1 - i)) % 18446744069414584321
theorem foreL_len (xs : List Int) (u : Int) (n : Nat) : (foreL xs u n).length = n := by simp [foreL]
theorem nth_foreL (xs : List Int) (u : Int) (n i : Nat) (h : i < n) : nth (foreL xs u n) i = nth xs (n - 1 - i) * pw u (triN n (n - 1 - i)) % 18446744069414584321 := nth_ofFn _ _ _ h
theorem foreL_fits (xs : List Int) (u : Int) (n : Nat) : ∀ x ∈ foreL xs u n, fits .u64 x := modL_fits _
/-- What is there, turned. -/
def aftL (cs : List Int) (u : Int) (n : Nat) : List Int := (List.range n).map fun k => nth cs (n - 1 + k) * pw u (triN n k) % 18446744069414584321
theorem aftL_len (cs : List Int) (u : Int) (n : Nat) : (aftL cs u n).length = n := by simp [aftL]
theorem nth_aftL (cs : List Int) (u : Int) (n k : Nat) (h : k < n) : nth (aftL cs u n) k = nth cs (n - 1 + k) * pw u (triN n k) % 18446744069414584321 := nth_ofFn _ _ _ h
/-- Noughts behind. -/
def zeroL (xs : List Int) (m : Nat) : List Int := xs ++ List.replicate (m - xs.length) 0
theorem zeroL_len (xs : List Int) (m : Nat) (h : xs.length ≤ m) : (zeroL xs m).length = m := by simp [zeroL]; omega
theorem zeroL_fits (xs : List Int) (m : Nat) (h : ∀ x ∈ xs, fits .u64 x) : ∀ x ∈ zeroL xs m, fits .u64 x := by
  intro x hx
  rcases List.mem_append.1 hx with h1 | h1
  · exact h x h1
  · rw [(List.mem_replicate.1 h1).2]; exact fits_u64.2 (by omega)
theorem zeroL_cells (xs : List Int) (m : Nat) : xs.map (Value.int .u64) ++ List.replicate (m - xs.length) (Value.int .u64 0) = (zeroL xs m).map (Value.int .u64) := by
  simp [zeroL, List.map_append]
theorem nth_zeroL (xs : List Int) (m i : Nat) : nth (zeroL xs m) i = nth xs i := by
  by_cases h : i < xs.length
  · exact nth_append_left h
  · unfold zeroL
    rw [nth_append_right (by omega), nth_out xs i (by omega)]
    simp only [nth, List.getD_eq_getElem?_getD, List.getElem?_replicate]
    split <;> rfl
theorem S_rev (n : Nat) (f : Nat → Int) : S n (fun i => f (n - 1 - i)) = S n f := by
  induction n with
  | zero => rfl
  | succ n ih =>
    rw [S_head]
    show f (n + 1 - 1 - 0) + _ = S n f + f n
    rw [← ih, show n + 1 - 1 - 0 = n by omega, Int.add_comm]
    congr 1
    exact S_congr fun i hi => by rw [show n + 1 - 1 - (i + 1) = n - 1 - i by omega]
/-- Where the further terms are noughts. -/
theorem S_short (n m : Nat) (f : Nat → Int) (h : n ≤ m) (h0 : ∀ i, n ≤ i → f i = 0) : S m f = S n f := by
  induction m with
  | zero => rw [show n = 0 by omega]
  | succ m ih =>
    by_cases he : n = m + 1
    · rw [he]
    · show S m f + f m = S n f
      rw [ih (by omega), h0 m (by omega), Int.add_zero]
theorem pw_tri {z u : Int} {n : Nat} (hr : IsRoot z u n) (i : Nat) : Eqm (pw z (triN n i)) (z ^ triT i) :=
  (pw_eqm z _).trans (hr.pow_mod (triT i))
theorem blue (xs : List Int) (z u : Int) (n m : Nat) (hr : IsRoot z u n) (hx : xs.length = n) (hn : 1 ≤ n) (hm : 2 * n - 1 ≤ m) :
    aftL (cvL (zeroL (foreL xs u n) m) (zeroL (rowT z n (2 * n - 1)) m) m) u n = dftL xs z := by
  have hxl := hx
  refine dft_of xs _ z u (by rw [hx]; exact hr) (by rw [aftL_len, hx]) fun k hk => ?_
  rw [hx] at hk ⊢
  rw [nth_aftL _ _ _ _ hk]
  refine ⟨by omega, by omega, ?_⟩
  have ht : n - 1 + k < m := by omega
  rw [nth_cvL _ _ _ _ ht, cyc_at _ _ m _ (zeroL_len _ _ (by rw [foreL_len]; omega)) (zeroL_len _ _ (by rw [rowT_len]; exact hm)) ht]
  refine (Eqm.mod _).trans ?_
  have e1 : Eqm (S m (fun i => nth (zeroL (foreL xs u n) m) i * nth (zeroL (rowT z n (2 * n - 1)) m) (othAt m (n - 1 + k) i)) % 18446744069414584321) (S n (fun j => nth xs j * (u ^ triT j * z ^ triT (j + k)))) := by
    refine (Eqm.mod _).trans ?_
    rw [S_short n m _ (by omega) (fun i hi => by rw [nth_zeroL, nth_out _ _ (by rw [foreL_len]; exact hi), Int.zero_mul]), ← S_rev n (fun j => nth xs j * (u ^ triT j * z ^ triT (j + k)))]
    refine S_eqm fun i hi => ?_
    have ho : othAt m (n - 1 + k) i = n - 1 - i + k := by
      unfold othAt; rw [show n - 1 + k + m - i = (n - 1 - i + k) + m by omega, Nat.add_mod_right, Nat.mod_eq_of_lt (by omega)]
    rw [ho, nth_zeroL, nth_zeroL, nth_foreL _ _ _ _ hi, nth_rowT _ _ _ _ (by omega)]
    have := ((Eqm.mod _).trans ((rfl' (nth xs (n - 1 - i))).mul (pw_tri hr.back (n - 1 - i)))).mul (pw_tri hr (n - 1 - i + k))
    rw [Int.mul_assoc] at this
    exact this
  refine (e1.mul (pw_tri hr.back k)).trans ?_
  rw [← S_mul_r]
  refine S_eqm fun j hj => ?_
  have i1 := hr.inv_pow (triT j)
  have i2 := hr.inv_pow (triT k)
  have i3 := (hr.pow_mod (j * k)).symm
  have e2 : z ^ triT (j + k) = z ^ triT j * z ^ triT k * z ^ (j * k) := by rw [triT_add, Int.pow_add, Int.pow_add]
  have e3 : nth xs j * (u ^ triT j * z ^ triT (j + k)) * u ^ triT k = nth xs j * ((z ^ triT j * u ^ triT j) * (z ^ triT k * u ^ triT k) * z ^ (j * k)) := by rw [e2]; grind
  rw [e3]
  have e4 := (rfl' (nth xs j)).mul ((i1.mul i2).mul i3)
  rw [Int.mul_one, Int.one_mul] at e4
  exact e4
end Go.Proofs.YtlnlijeamflpiaaGreat

namespace Go.Proofs.YtlnlijeamflpiaaGreat
open Sm
set_option linter.unusedVariables false
set_option linter.unusedSimpArgs false
set_option maxRecDepth 100000
def IsFq (q : Nat) : Prop := q = 3 ∨ q = 5 ∨ q = 17 ∨ q = 257 ∨ q = 65537
def gq (q : Nat) : Nat := if q = 3 ∨ q = 5 then 2 else 3
@[irreducible] def gp (q i : Nat) : Nat := gq q ^ i % q
theorem fq_bd {q : Nat} (h : IsFq q) : 3 ≤ q ∧ q ≤ 65537 := by unfold IsFq at h; omega
theorem fq_log {q : Nat} (h : IsFq q) : ∃ m, 1 ≤ m ∧ m ≤ 16 ∧ q - 1 = 2 ^ m := by
  rcases h with h | h | h | h | h <;> subst h
  · exact ⟨1, by decide, by decide, by decide⟩
  · exact ⟨2, by decide, by decide, by decide⟩
  · exact ⟨4, by decide, by decide, by decide⟩
  · exact ⟨8, by decide, by decide, by decide⟩
  · exact ⟨16, by decide, by decide, by decide⟩
theorem gq_bd {q : Nat} (h : IsFq q) : 2 ≤ gq q ∧ gq q ≤ 3 ∧ gq q < q := by
  rcases h with h | h | h | h | h <;> subst h <;> decide
theorem gp_lt (q i : Nat) (h : 0 < q) : gp q i < q := by unfold gp; exact Nat.mod_lt _ h
theorem gp_zero {q : Nat} (h : IsFq q) : gp q 0 = 1 := by
  have := fq_bd h
  unfold gp; rw [Nat.pow_zero]; exact Nat.mod_eq_of_lt (by omega)
theorem gp_add (q i j : Nat) : gp q (i + j) = gp q i * gp q j % q := by
  unfold gp; rw [Nat.pow_add, Nat.mul_mod]
theorem gp_succ (q i : Nat) : gp q (i + 1) = gp q i * gq q % q := by
  unfold gp; rw [Nat.pow_succ, Nat.mod_mul_mod]
theorem gp_all {q : Nat} (h : IsFq q) : gp q (q - 1) = 1 := by
  unfold gp
  rw [← Fld.pm_eq q 17 (gq q) (q - 1) (by have := fq_bd h; omega)]
  rcases h with h | h | h | h | h <;> subst h <;> decide +kernel
theorem gp_half {q : Nat} (h : IsFq q) : gp q ((q - 1) / 2) ≠ 1 := by
  unfold gp
  rw [← Fld.pm_eq q 17 (gq q) ((q - 1) / 2) (by have := fq_bd h; omega)]
  rcases h with h | h | h | h | h <;> subst h <;> decide +kernel
theorem gp_mul {q : Nat} (h : IsFq q) (k : Nat) : gp q ((q - 1) * k) = 1 := by
  have h1 := gp_all h
  have := fq_bd h
  unfold gp at *
  exact Fld.pow_mul_one _ _ _ _ (by omega) h1
theorem gp_past {q : Nat} (h : IsFq q) (i : Nat) : gp q ((q - 1) + i) = gp q i := by
  have := fq_bd h
  rw [gp_add, gp_all h, Nat.one_mul, Nat.mod_eq_of_lt (gp_lt q i (by omega))]
theorem gp_mod {q : Nat} (h : IsFq q) (i : Nat) : gp q (i % (q - 1)) = gp q i := by
  have := fq_bd h
  have e : gp q i = gp q ((q - 1) * (i / (q - 1)) + i % (q - 1)) := by rw [Nat.div_add_mod]
  rw [e, gp_add, gp_mul h, Nat.one_mul, Nat.mod_eq_of_lt (gp_lt q _ (by omega))]
theorem gp_pos {q : Nat} (h : IsFq q) (i : Nat) : 0 < gp q i := by
  have hb := fq_bd h
  apply Nat.pos_of_ne_zero
  intro e
  have h1 : i ≤ (q - 1) * i := Nat.le_mul_of_pos_left i (by omega)
  have h2 := gp_mul h i
  rw [show (q - 1) * i = i + ((q - 1) * i - i) by omega, gp_add, e, Nat.zero_mul, Nat.zero_mod] at h2
  omega
theorem gp_inj {q : Nat} (h : IsFq q) (i j : Nat) (hij : i < j) (hj : j < q - 1) : gp q i ≠ gp q j := by
  intro e
  have hb := fq_bd h
  obtain ⟨m, hm1, hm2, hm⟩ := fq_log h
  have h1 : gp q (j - i) = 1 := by
    have e1 := gp_add q (q - 1 - i) j
    rw [← e, ← gp_add, show q - 1 - i + i = q - 1 by omega, gp_all h, show q - 1 - i + j = (q - 1) + (j - i) by omega, gp_past h] at e1
    exact e1
  have h2 := gp_all h
  have h3 := gp_half h
  unfold gp at h1 h2 h3
  have hg := Fld.pow_gcd_one (gq q) q (by omega) (j - i) (q - 1) h1 h2
  have hd : Nat.gcd (j - i) (q - 1) ∣ 2 ^ m := by rw [← hm]; exact Nat.gcd_dvd_right _ _
  obtain ⟨k, hk⟩ := dvd_two m _ hd
  have hle : Nat.gcd (j - i) (q - 1) ≤ j - i := Nat.le_of_dvd (by omega) (Nat.gcd_dvd_left _ _)
  have hlt : 2 ^ k < 2 ^ m := by omega
  have hkm : k < m := (Nat.pow_lt_pow_iff_right (by omega)).1 hlt
  have he : (q - 1) / 2 = 2 ^ k * 2 ^ (m - 1 - k) := by
    rw [← Nat.pow_add, show k + (m - 1 - k) = m - 1 by omega, hm, show m = m - 1 + 1 by omega, Nat.pow_succ]
    simp
  apply h3
  rw [he, ← hk]
  exact Fld.pow_mul_one _ _ _ _ (by omega) hg
theorem gp_onto {q : Nat} (h : IsFq q) (b : Nat) (h1 : 1 ≤ b) (h2 : b < q) : ∃ i, i < q - 1 ∧ gp q i = b := by
  have hb := fq_bd h
  obtain ⟨i, hi, he⟩ := Fld.onto (q - 1) (fun i => gp q i - 1) (fun i _ => by
      have := gp_lt q i (by omega)
      show gp q i - 1 < q - 1
      omega) (fun i j hij hj => by
      have a := gp_pos h i
      have b := gp_pos h j
      have c := gp_inj h i j hij hj
      show gp q i - 1 ≠ gp q j - 1
      omega) (b - 1) (by omega)
  refine ⟨i, hi, ?_⟩
  have he' : gp q i - 1 = b - 1 := he
  have := gp_pos h i
  omega
/-- A size that is a prime from 3 on. -/
theorem fq_of {n : Nat} (h : hasSz n = true) (hp : isPr (n : Int) = true) (h3 : 3 ≤ n) : IsFq n := by
  obtain ⟨a1, a2, a3⟩ := hasSz_iff.1 h
  have hN := (isPr_iff n (by omega) (by omega)).1 hp
  have hdv : n ∣ 18446744069414584320 := by
    have h5 : ((18446744069414584320 % n : Nat) : Int) = 0 := by rw [Int.natCast_emod]; exact a3
    exact Nat.dvd_of_mod_eq_zero (by omega)
  obtain ⟨g, hg, j, hj, rfl⟩ := size_form n (by omega) (by omega) hdv
  cases j with
  | succ j =>
    exfalso
    have e : 2 ^ (j + 1) * g = 2 * (2 ^ j * g) := by rw [Nat.pow_succ]; rw [Nat.mul_comm (2 ^ j) 2, Nat.mul_assoc]
    have := hN.2 2 (Nat.le_refl _) (by omega)
    omega
  | zero =>
    rw [Nat.pow_zero, Nat.one_mul] at *
    have key : ∀ g ∈ oddL, g < 3 ∨ (g = 3 ∨ g = 5 ∨ g = 17 ∨ g = 257 ∨ g = 65537) ∨ (9 ≤ g ∧ g % 3 = 0) ∨ (25 ≤ g ∧ g % 5 = 0) ∨ (289 ≤ g ∧ g % 17 = 0) ∨ (66049 ≤ g ∧ g % 257 = 0) := by decide +kernel
    rcases key g hg with h1 | h1 | h1 | h1 | h1 | h1
    · omega
    · exact h1
    · exact absurd h1.2 (hN.2 3 (by omega) (by omega))
    · exact absurd h1.2 (hN.2 5 (by omega) (by omega))
    · exact absurd h1.2 (hN.2 17 (by omega) (by omega))
    · exact absurd h1.2 (hN.2 257 (by omega) (by omega))
theorem pr_of_fq {n : Nat} (h : IsFq n) : isPr (n : Int) = true := by
  have hb := fq_bd h
  rw [isPr_iff n (by omega) (by omega)]
  refine ⟨by omega, fun k h2 hk => ?_⟩
  have hk2 : k ≤ 256 := by
    apply Nat.le_of_not_lt; intro hc
    have : 257 * 257 ≤ k * k := Nat.mul_le_mul hc hc
    omega
  have key : ∀ q ∈ [3, 5, 17, 257, 65537], ∀ k ∈ List.range 257, k < 2 ∨ q < k * k ∨ q % k ≠ 0 := by decide +kernel
  have hq : n ∈ [3, 5, 17, 257, 65537] := by unfold IsFq at h; simp; exact h
  rcases key n hq k (by simp; omega) with h1 | h1 | h1
  · omega
  · omega
  · exact h1
/-- The powers of the generator, one by one; Rader's row. -/
def genL (q : Nat) : List Int := (List.range (q - 1)).map fun i => ((gp q i : Nat) : Int)
theorem genL_len (q : Nat) : (genL q).length = q - 1 := by simp [genL]
theorem nth_genL (q i : Nat) (h : i < q - 1) : nth (genL q) i = (gp q i : Nat) := nth_ofFn _ _ _ h
def radAt (q i : Nat) : Nat := gp q ((q - 1 - i) % (q - 1))
def radL (z : Int) (q : Nat) : List Int := (List.range (q - 1)).map fun i => pw z (radAt q i)
theorem radL_len (z : Int) (q : Nat) : (radL z q).length = q - 1 := by simp [radL]
theorem nth_radL (z : Int) (q i : Nat) (h : i < q - 1) : nth (radL z q) i = pw z (radAt q i) := nth_ofFn _ _ _ h
theorem radL_fits (z : Int) (q : Nat) : ∀ x ∈ radL z q, fits .u64 x := by
  intro x hx; obtain ⟨i, _, rfl⟩ := List.mem_map.1 hx
  have := pw_range z (radAt q i)
  exact fits_u64.2 (by omega)
theorem radAt_eq {q : Nat} (h : IsFq q) (i : Nat) (hi : i < q - 1) : radAt q i = gp q (q - 1 - i) := by
  unfold radAt; exact gp_mod h _
theorem radAt_zero {q : Nat} (h : IsFq q) : radAt q 0 = 1 := by
  unfold radAt; rw [Nat.sub_zero, Nat.mod_self, gp_zero h]
end Go.Proofs.YtlnlijeamflpiaaGreat

namespace Go.Proofs.YtlnlijeamflpiaaGreat
open Go.RowKit
set_option linter.unusedVariables false
set_option linter.unusedSimpArgs false
set_option maxRecDepth 100000
theorem sides1_yes (n : Int) (w : World) (h1 : 1 ≤ n) (h2 : n ≤ 16777216) :
    Calls Tryz.prog 211 #[.int .i64 n] w fun e w' => e = .returned (.bool true) ∧ w = w' := by
  go_enter Tryz.func211, Tryz.ntmps211
  go_wp2_with fail
  go_ret
  exact ⟨rfl, rfl⟩
/-- May there be a table of such sides? -/
def Sides (a b : Int) : Prop := 1 ≤ a ∧ a ≤ 16777216 ∧ 1 ≤ b ∧ b ≤ 16777216 ∧ a * b ≤ 16777216
instance (a b : Int) : Decidable (Sides a b) := by unfold Sides; infer_instance
theorem mul_bd (a b : Int) (h1 : 1 ≤ a) (h2 : a ≤ 16777216) (h3 : 1 ≤ b) (h4 : b ≤ 16777216) : 1 ≤ a * b ∧ a * b ≤ 281474976710656 := by
  constructor
  · have := Int.mul_le_mul h1 h3 (by omega) (by omega : (0 : Int) ≤ a); omega
  · have := Int.mul_le_mul h2 h4 (by omega) (by omega : (0 : Int) ≤ 16777216); omega
theorem permSides_yes (a b : Int) (w : World) (h : Sides a b) :
    Calls Tryz.prog 207 #[.int .i64 a, .int .i64 b] w fun e w' => e = .returned (.bool true) ∧ w = w' := by
  obtain ⟨h1, h2, h3, h4, h5⟩ := h
  have hm := mul_bd a b h1 h2 h3 h4
  go_enter Tryz.func207, Tryz.ntmps207
  go_wp2_with (go_at_call 211; refine (sides1_yes _ _ (by omega) (by omega)).mono ?_; rintro e w' ⟨rfl, rfl⟩)
  go_ret
  exact ⟨rfl, rfl⟩
/-- A table, row by row. -/
def tabL (a b : Nat) (g : Nat → Nat → Int) : List Int := (List.range (a * b)).map fun k => g (k / b) (k % b)
theorem tabL_len (a b : Nat) (g : Nat → Nat → Int) : (tabL a b g).length = a * b := by simp [tabL]
theorem row_at (b i j : Nat) (hj : j < b) : (i * b + j) / b = i ∧ (i * b + j) % b = j := by
  have h0 : 0 < b := by omega
  constructor
  · rw [Nat.add_comm, Nat.add_mul_div_right _ _ h0, Nat.div_eq_of_lt hj, Nat.zero_add]
  · rw [Nat.add_comm, Nat.add_mul_mod_self_right, Nat.mod_eq_of_lt hj]
theorem row_bd (a b i j : Nat) (hi : i < a) (hj : j < b) : i * b + j < a * b := by
  have h1 : (i + 1) * b ≤ a * b := Nat.mul_le_mul_right b hi
  rw [Nat.add_mul, Nat.one_mul] at h1
  omega
set_option maxHeartbeats 1600000 in
theorem permTable (a b : Nat) (g : Nat → Nat → Int) (fid : Nat) (caps : Array Value) (w : World) (hab : a * b ≤ 16777216) (ha : a ≤ 16777216) (hb : b ≤ 16777216) (hg : ∀ i j, i < a → j < b → fits .i64 (g i j))
    (hent : ∀ args w, (callFunc fid args).run Tryz.prog w = .ok (.enter fid args) w)
    (hf : ∀ (i j : Nat) (wr : World), i < a → j < b → Below w.heap.size w wr → Calls Tryz.prog fid (#[.int .i64 i, .int .i64 j] ++ caps) wr fun e w' => e = .returned (.int .i64 (g i j)) ∧ Below wr.heap.size wr w') :
    Calls Tryz.prog 196 #[.int .i64 a, .int .i64 b, .func (.func fid) #[] caps] w (GivesRow .i64 (tabL a b g) w) := by
  obtain ⟨i0, hi, hz0, hz1, hz2⟩ := info_parts info_int
  have HF := Lib.hid hf
  have HG := Lib.hid hg
  have hmul : (a : Int) * (b : Int) = ((a * b : Nat) : Int) := (Int.natCast_mul a b).symm
  have hw : IntKind.i64.wrap ((a : Int) * (b : Int)) = ((a * b : Nat) : Int) := by rw [hmul]; exact IntWalk.i64_in _ (by omega)
  obtain ⟨N, hN⟩ : ∃ N, a * b = N := ⟨_, rfl⟩
  rw [hN] at hw
  have HN := Lib.hid hN
  have HM := Lib.hid hmul
  have hNM : N ≤ 16777216 := by omega
  clear hf hg hN hmul hab
  go_enter Tryz.func196, Tryz.ntmps196
  go_wp2_with (at_make; refine wpList_make_own _ rfl _ _ 44 rfl w.heap.size 3 i0 (.int .i64 0) 1 Tryz.underlying44 hi hz0 hz1 .i64 .i64 N N rfl rfl rfl (by rw [hz2]; omega) (by unfold maxLen; omega) (Nat.le_refl _) ?_)
  intro w1 hown0 hgrow0
  have hown : Own .i64 3 w w1 (.slice (some ⟨w.heap.size, 0, none⟩) 0 N) 0 (fun k => g (k / b) (k % b)) := ⟨hown0, (Below.refl _ _).grown hgrow0 (Nat.le_refl _) (by simp)⟩
  clear hown0 hgrow0
  go_wp2_with fail
  go_loopw [7, 15] (fun v i wr => ∃ (k n : Nat), k ≤ a ∧ n = k * b ∧ i = .int .i64 k ∧ Own .i64 3 w wr v n (fun k => g (k / b) (k % b))) (fun _ i _ => a - (intOf i).toNat)
  case atStart => exact ⟨0, 0, Nat.zero_le _, by simp, rfl, hown⟩
  case round =>
    obtain ⟨k, n, hk, hn, rfl, hown⟩ := hrel
    have HK := Lib.hid hn
    clear hn
    by_cases hlt : k < a
    · obtain ⟨wo, hwo⟩ : ∃ wo : World, wo = wr := ⟨_, rfl⟩
      subst hwo
      go_wp2_with fail
      go_loopw [7, 19] (fun v i wr => ∃ (j n : Nat), j ≤ b ∧ Hid (n = k * b + j) ∧ i = .int .i64 j ∧ Own .i64 3 w wr v n (fun k => g (k / b) (k % b))) (fun _ i _ => b - (intOf i).toNat)
      case atStart => exact ⟨0, n, Nat.zero_le _, by have := HK.out; unfold Hid; omega, rfl, hown⟩
      case round =>
        obtain ⟨j, n', hj, HJ, rfl, hown⟩ := hrel
        by_cases hjb : j < b
        · have hcall := HF.out k j wr hlt hjb hown.below
          have HC := Lib.hid hcall
          have hnb : n' < N := by have := row_bd a b k j hlt hjb; have := HJ.out; have := HN.out; omega
          have hfit : fits .i64 (g k j) := HG.out k j hlt hjb
          have HFT := Lib.hid hfit
          clear hcall hfit
          go_wp2_with fail
          refine HC.out.mono ?_
          rintro e w' ⟨rfl, hb'⟩
          have hown := hown.later hb'
          go_wp2_with (at_builtin; refine wpList_append_own _ rfl _ _ 44 rfl w.heap.size 3 i0 (.int .i64 0) 1 8 Tryz.underlying44 hi hz0 hz1 hz2 rfl (by decide) _ _ _ rfl (hown.own.alloc _) ⟨w'.heap.size, 0, none⟩ 1 1 [.int .i64 (g k j)] rfl rfl (cell_one_new _ _ _) (one_cell _ _) (by unfold maxLen; omega) (by omega) (size_alloc_le hown.below _) ?_)
          intro v' w2 hown' hgrow _
          have hnext := hown.push (g k j) (by have := row_at b k j hjb; rw [HJ.out, this.1, this.2]) hown' hgrow
          clear hown' hgrow
          go_wp2_with fail
          go_roundw
          case rel => exact ⟨j + 1, n' + 1, by omega, by have := HJ.out; unfold Hid; omega, by go_num, hnext⟩
          case measure => simp [intOf]; omega
        · have hjj : j = b := by omega
          have HJJ := Lib.hid hjj
          clear hjj
          go_wp2_with fail
          go_roundw
          case rel => exact ⟨k + 1, n', by omega, by have h1 := HJ.out; have h2 := HJJ.out; rw [Nat.add_mul, Nat.one_mul]; omega, by go_num, hown⟩
          case measure => simp [intOf]; omega
    · have hka : k = a := by omega
      have hres := hown.gives (xs := tabL a b g) (by rw [tabL_len]; have := HK.out; rw [hka] at this; omega) (fun x hx => by
        obtain ⟨i, hi, rfl⟩ := List.mem_map.1 hx
        have hi' : i < a * b := by simpa using hi
        have hb0 : 0 < b := Nat.pos_of_ne_zero (fun e => by subst e; omega)
        exact HG.out _ _ (Nat.div_lt_of_lt_mul (by rw [Nat.mul_comm]; exact hi')) (Nat.mod_lt _ hb0)) (fun i hi => nth_ofFn _ _ _ (by have := HK.out; rw [hka] at this; omega)) (by have := HK.out; have := HN.out; rw [hka] at *; omega)
      clear hown
      go_wp2_with fail
      go_ret
      exact hres
end Go.Proofs.YtlnlijeamflpiaaGreat

namespace Go.Proofs.YtlnlijeamflpiaaGreat
open Go.RowKit
set_option linter.unusedVariables false
set_option linter.unusedSimpArgs false
set_option maxRecDepth 100000
theorem fits_nat {n : Nat} (h : n ≤ 1000000000) : fits .i64 (n : Int) := fits_i64.2 (by omega)
end Go.Proofs.YtlnlijeamflpiaaGreat

namespace Go.Proofs.YtlnlijeamflpiaaGreat
open Go.RowKit
set_option linter.unusedVariables false
set_option linter.unusedSimpArgs false
set_option maxRecDepth 100000
/-- All in range, no number twice. -/
def IsPerm (p : List Int) : Prop := (∀ i, i < p.length → 0 ≤ nth p i ∧ nth p i < p.length) ∧ ∀ i j, i < j → j < p.length → nth p i ≠ nth p j
/-- Is n among the first k? -/
def among (p : List Int) (k : Nat) (n : Nat) : Int := if ∃ i, i < k ∧ nth p i = n then 1 else 0
theorem among_zero (p : List Int) (n : Nat) : among p 0 n = 0 := by
  unfold among; rw [if_neg (by rintro ⟨i, h, _⟩; omega)]
theorem among_new (p : List Int) (k n : Nat) (h : nth p k = n) : among p (k + 1) n = 1 := by
  unfold among; rw [if_pos ⟨k, by omega, h⟩]
theorem among_old (p : List Int) (k n : Nat) (h : nth p k ≠ n) : among p (k + 1) n = among p k n := by
  unfold among
  by_cases h1 : ∃ i, i < k ∧ nth p i = n
  · obtain ⟨i, hi, e⟩ := h1
    rw [if_pos ⟨i, by omega, e⟩, if_pos ⟨i, hi, e⟩]
  · rw [if_neg h1, if_neg]
    rintro ⟨i, hi, e⟩
    by_cases hik : i = k
    · subst hik; exact h e
    · exact h1 ⟨i, by omega, e⟩
theorem among_not (p : List Int) (k n : Nat) (h : ∀ i, i < k → nth p i ≠ n) : among p k n = 0 := by
  unfold among; rw [if_neg (by rintro ⟨i, hi, e⟩; exact h i hi e)]
theorem OwnAt.eq {k : IntKind} {e : TypeId} {w wr : World} {g n : Nat} {f f' : Nat → Int} (h : OwnAt k e w wr g n f) (he : ∀ n, f' n = f n) : OwnAt k e w wr g n f' := by
  rw [show f' = f from funext he]; exact h
set_option maxHeartbeats 1600000 in
theorem permRight_yes (a : Option Addr) (n cap : Nat) (p : List Int) (w : World) (hx : Row .i64 w a p) (hn : p.length = n) (hl : n ≤ 16777216) (hp : IsPerm p) :
    Calls Tryz.prog 198 #[.slice a n cap] w fun e w' => e = .returned (.bool true) ∧ Below w.heap.size w w' := by
  subst hn
  obtain ⟨i0, hi, hz0, hz1, hz2⟩ := info_parts info_int
  have HX := Lib.hid hx
  have HP := Lib.hid hp
  clear hx hp
  go_enter Tryz.func198, Tryz.ntmps198
  go_wp2_with (at_make; refine wpList_make_full _ rfl _ _ 44 rfl w.heap.size 3 i0 (.int .i64 0) 1 Tryz.underlying44 hi hz0 hz1 .i64 .i64 p.length p.length p.length rfl rfl rfl rfl (by rw [hz2]; omega) (by unfold maxLen; omega) (Nat.le_refl _) ?_)
  intro w1 hown0 hgrow0
  have hown := Own.made hown0 hgrow0
  clear hown0 hgrow0
  go_wp2_with fail
  go_loopw [11] (fun i wr => ∃ k : Nat, k ≤ p.length ∧ i = .int .i64 k ∧ OwnAt .i64 3 w wr w.heap.size p.length (among p k)) (fun i _ => p.length - (intOf i).toNat)
  case atStart => exact ⟨0, Nat.zero_le _, rfl, OwnAt.eq hown (fun n => among_zero p n)⟩
  case round =>
    obtain ⟨k, hk, rfl, hown⟩ := hrel
    by_cases hlt : k < p.length
    · obtain ⟨b, off, rfl, hc⟩ := (HX.out.below hown.below).at (by omega)
      have hck := hc k hlt
      obtain ⟨m, hm⟩ := Int.eq_ofNat_of_zero_le (HP.out.1 k hlt).1
      have hmlt : m < p.length := by have := (HP.out.1 k hlt).2; omega
      rw [hm] at hck
      have hcell := hown.cell m hmlt
      rw [among_not p k m (fun i hik e => HP.out.2 i k hik hlt (by rw [e, hm]))] at hcell
      have hfz := hown.free m
      have hnext := hown.store m hmlt 1 (f' := among p (k + 1)) (among_new p k m hm) (fun j _ hj => among_old p k j (by rw [hm]; omega))
      have HN := Lib.hid hnext
      clear hc hnext hm
      have g1 : (0 : Int) ≤ (m : Int) := by omega
      have g2 : (m : Int) < (p.length : Int) := by omega
      go_wp2_with fail
      go_roundw
      case rel => exact ⟨k + 1, by omega, by go_num, HN.out⟩
      case measure => simp [intOf]; omega
    · have hb := hown.below
      clear hown
      go_wp2_with fail
      go_ret
      exact ⟨rfl, hb⟩
end Go.Proofs.YtlnlijeamflpiaaGreat

namespace Go.Proofs.YtlnlijeamflpiaaGreat
set_option linter.unusedVariables false
set_option linter.unusedSimpArgs false
set_option maxRecDepth 100000
/-- A list out of a map of places. -/
def mapL (N : Nat) (f : Nat → Nat) : List Int := (List.range N).map fun k => ((f k : Nat) : Int)
theorem mapL_len (N : Nat) (f : Nat → Nat) : (mapL N f).length = N := by simp [mapL]
theorem nth_mapL (N : Nat) (f : Nat → Nat) (k : Nat) (h : k < N) : nth (mapL N f) k = f k := nth_ofFn _ _ _ h
theorem isPerm_mapL (N : Nat) (f : Nat → Nat) (hf : ∀ k, k < N → f k < N) (hi : ∀ i j, i < j → j < N → f i ≠ f j) : IsPerm (mapL N f) := by
  unfold IsPerm
  rw [mapL_len]
  refine ⟨fun i h => ?_, fun i j hij hj => ?_⟩
  · rw [nth_mapL N f i h]; have := hf i h; omega
  · rw [nth_mapL N f i (by omega), nth_mapL N f j hj]; have := hi i j hij hj; omega
/-- Where a map of places has p. -/
noncomputable def invOf (N : Nat) (f : Nat → Nat) (p : Nat) : Nat := by
  classical exact if h : ∃ t, t < N ∧ f t = p then h.choose else 0
theorem invOf_spec (N : Nat) (f : Nat → Nat) (p : Nat) (h : ∃ t, t < N ∧ f t = p) : invOf N f p < N ∧ f (invOf N f p) = p := by
  unfold invOf; rw [dif_pos h]; exact h.choose_spec
theorem inj_of (N : Nat) (f : Nat → Nat) (hi : ∀ i j, i < j → j < N → f i ≠ f j) (a b : Nat) (ha : a < N) (hb : b < N) (h : f a = f b) : a = b := by
  rcases Nat.lt_trichotomy a b with h1 | h1 | h1
  · exact absurd h (hi a b h1 hb)
  · exact h1
  · exact absurd h.symm (hi b a h1 ha)
theorem invOf_of (N : Nat) (f : Nat → Nat) (hi : ∀ i j, i < j → j < N → f i ≠ f j) (t : Nat) (ht : t < N) : invOf N f (f t) = t := by
  have h := invOf_spec N f (f t) ⟨t, ht, rfl⟩
  exact inj_of N f hi _ _ h.1 ht h.2
theorem invOf_lt (N : Nat) (f : Nat → Nat) (hf : ∀ k, k < N → f k < N) (hi : ∀ i j, i < j → j < N → f i ≠ f j) (p : Nat) (hp : p < N) : invOf N f p < N ∧ f (invOf N f p) = p := by
  obtain ⟨t, ht, e⟩ := Fld.onto N f hf hi p hp
  exact invOf_spec N f p ⟨t, ht, e⟩
def gooF (a b k : Nat) : Nat := (k / b * b + k % b * a) % (a * b)
def crtF (a b k : Nat) : Nat := k % a * b + k % b
theorem dvd_sub_of (c x y : Nat) (h : x % c = y % c) : c ∣ y - x := Nat.dvd_of_mod_eq_zero (Nat.sub_mod_eq_zero_of_mod_eq h.symm)
theorem mod_inj (a b x y : Nat) (h : Nat.gcd a b = 1) (hx : x < a * b) (hy : y < a * b) (h1 : x % a = y % a) (h2 : x % b = y % b) : x = y := by
  rcases Nat.le_total x y with hle | hle
  · have d1 : a ∣ y - x := dvd_sub_of _ _ _ h1
    have d2 : b ∣ y - x := dvd_sub_of _ _ _ h2
    have d3 := Nat.Coprime.mul_dvd_of_dvd_of_dvd h d1 d2
    have := Nat.eq_zero_of_dvd_of_lt d3 (by omega)
    omega
  · have d1 : a ∣ x - y := dvd_sub_of _ _ _ h1.symm
    have d2 : b ∣ x - y := dvd_sub_of _ _ _ h2.symm
    have d3 := Nat.Coprime.mul_dvd_of_dvd_of_dvd h d1 d2
    have := Nat.eq_zero_of_dvd_of_lt d3 (by omega)
    omega
theorem crtF_lt (a b k : Nat) (h : k < a * b) : crtF a b k < a * b := by
  have ha : 0 < a := Nat.pos_of_ne_zero (fun e => by subst e; omega)
  have hb : 0 < b := Nat.pos_of_ne_zero (fun e => by subst e; omega)
  exact row_bd a b (k % a) (k % b) (Nat.mod_lt _ ha) (Nat.mod_lt _ hb)
theorem crtF_at (a b k : Nat) (hb : 0 < b) : crtF a b k / b = k % a ∧ crtF a b k % b = k % b := row_at b (k % a) (k % b) (Nat.mod_lt _ hb)
theorem crtF_inj (a b : Nat) (h : Nat.gcd a b = 1) : ∀ i j, i < j → j < a * b → crtF a b i ≠ crtF a b j := by
  intro i j hij hj e
  have hb : 0 < b := Nat.pos_of_ne_zero (fun e => by subst e; omega)
  have h1 := crtF_at a b i hb
  have h2 := crtF_at a b j hb
  rw [e] at h1
  have := mod_inj a b i j h (by omega) hj (h1.1.symm.trans h2.1) (h1.2.symm.trans h2.2)
  omega
theorem gooF_lt (a b k : Nat) (h : k < a * b) : gooF a b k < a * b := Nat.mod_lt _ (by omega)
theorem gooF_inj (a b : Nat) (h : Nat.gcd a b = 1) : ∀ i j, i < j → j < a * b → gooF a b i ≠ gooF a b j := by
  intro i j hij hj e
  have ha : 0 < a := Nat.pos_of_ne_zero (fun e => by subst e; omega)
  have hb : 0 < b := Nat.pos_of_ne_zero (fun e => by subst e; omega)
  unfold gooF at e
  -- what is left by a
  have ea : (i / b * b) % a = (j / b * b) % a := by
    have h1 := congrArg (· % a) e
    simp only [Nat.mod_mul_right_mod, Nat.add_mul_mod_self_right] at h1
    exact h1
  have eb : (i % b * a) % b = (j % b * a) % b := by
    have h1 := congrArg (· % b) e
    simp only [Nat.mod_mul_left_mod] at h1
    rw [Nat.add_comm (i / b * b), Nat.add_comm (j / b * b), Nat.add_mul_mod_self_right, Nat.add_mul_mod_self_right] at h1
    exact h1
  have hi1 : i / b < a := Nat.div_lt_of_lt_mul (by rw [Nat.mul_comm]; omega)
  have hj1 : j / b < a := Nat.div_lt_of_lt_mul (by rw [Nat.mul_comm]; omega)
  have h1 : i / b = j / b := strike_mod (i / b) (j / b) b a (by rw [Nat.gcd_comm]; rw [Nat.gcd_comm]; exact h) hi1 hj1 ea
  have h2 : i % b = j % b := strike_mod (i % b) (j % b) a b (by rw [Nat.gcd_comm]; exact h) (Nat.mod_lt _ hb) (Nat.mod_lt _ hb) eb
  have h3 := Nat.div_add_mod i b
  have h4 := Nat.div_add_mod j b
  rw [h1, h2] at h3
  omega
where
  strike_mod (x y c m : Nat) (hc : Nat.gcd m c = 1) (hx : x < m) (hy : y < m) (h : x * c % m = y * c % m) : x = y := by
    rcases Nat.le_total x y with hle | hle
    · have d := dvd_sub_of _ _ _ h
      rw [← Nat.sub_mul] at d
      have d2 : m ∣ y - x := Nat.Coprime.dvd_of_dvd_mul_right hc d
      have := Nat.eq_zero_of_dvd_of_lt d2 (by omega)
      omega
    · have d := dvd_sub_of _ _ _ h.symm
      rw [← Nat.sub_mul] at d
      have d2 : m ∣ x - y := Nat.Coprime.dvd_of_dvd_mul_right hc d
      have := Nat.eq_zero_of_dvd_of_lt d2 (by omega)
      omega
def gooL (a b : Nat) : List Int := mapL (a * b) (gooF a b)
noncomputable def crtL (a b : Nat) : List Int := mapL (a * b) (invOf (a * b) (crtF a b))
theorem isPerm_goo (a b : Nat) (h : Nat.gcd a b = 1) : IsPerm (gooL a b) := isPerm_mapL _ _ (gooF_lt a b) (gooF_inj a b h)
end Go.Proofs.YtlnlijeamflpiaaGreat

namespace Go.Proofs.YtlnlijeamflpiaaGreat
open Sm
set_option linter.unusedVariables false
set_option linter.unusedSimpArgs false
set_option maxRecDepth 100000
theorem S_append (n m : Nat) (f : Nat → Int) : S (n + m) f = S n f + S m (fun j => f (n + j)) := by
  induction m with
  | zero => rw [Nat.add_zero]; simp only [S]; omega
  | succ m ih => rw [← Nat.add_assoc]; simp only [S]; rw [ih]; omega
theorem S_grid (a b : Nat) (f : Nat → Int) : S (a * b) f = S a (fun i => S b (fun j => f (i * b + j))) := by
  induction a with
  | zero => rw [Nat.zero_mul]; rfl
  | succ a ih => rw [Nat.succ_mul, S_append, ih]; rfl
theorem S_strike (n : Nat) : ∀ (t : Nat) (f : Nat → Int), t ≤ n → S (n + 1) f = S n (fun i => f (if i < t then i else i + 1)) + f t := by
  induction n with
  | zero => intro t f h; rw [show t = 0 by omega]; rfl
  | succ n ih =>
    intro t f h
    by_cases ht : t = n + 1
    · subst ht
      show S (n + 1) f + f (n + 1) = _
      congr 1
      exact S_congr fun i hi => by rw [if_pos hi]
    · have h1 := ih t f (by omega)
      show S (n + 1) f + f (n + 1) = S n _ + f (if n < t then n else n + 1) + f t
      rw [h1, if_neg (by omega)]
      omega
theorem S_perm (n : Nat) : ∀ (f : Nat → Int) (s : Nat → Nat), (∀ i, i < n → s i < n) → (∀ i j, i < j → j < n → s i ≠ s j) → S n (fun i => f (s i)) = S n f := by
  induction n with
  | zero => intro f s _ _; rfl
  | succ n ih =>
    intro f s hs hi
    obtain ⟨t, ht⟩ : ∃ t, s n = t := ⟨_, rfl⟩
    have htn : t < n + 1 := by rw [← ht]; exact hs n (by omega)
    have hne : ∀ i, i < n → s i ≠ t := fun i h => by rw [← ht]; exact hi i n h (by omega)
    have h1 := ih (fun i => f (if i < t then i else i + 1)) (fun i => if s i < t then s i else s i - 1) (fun i h => by
        have a := hs i (by omega)
        have b := hne i h
        show (if s i < t then s i else s i - 1) < n
        split <;> omega) (fun i j hij hj => by
        have a := hi i j hij (by omega)
        have b := hne i (by omega)
        have c := hne j hj
        show (if s i < t then s i else s i - 1) ≠ (if s j < t then s j else s j - 1)
        split <;> split <;> omega)
    rw [S_strike n t f (by omega), ← h1]
    show S n (fun i => f (s i)) + f (s n) = _
    rw [ht]
    congr 1
    refine S_congr fun i h => ?_
    have b := hne i h
    show f (s i) = f (if (if s i < t then s i else s i - 1) < t then (if s i < t then s i else s i - 1) else (if s i < t then s i else s i - 1) + 1)
    congr 1
    by_cases hc : s i < t
    · rw [if_pos hc, if_pos hc]
    · rw [if_neg hc, if_neg (by omega)]; omega
theorem nth_revL (xs : List Int) (k : Nat) (h : k < xs.length) : nth (revL xs) k = nth xs (revAt xs.length k) % 18446744069414584321 := nth_ofFn _ _ _ h
theorem dft_ofT (xs ys : List Int) (z : Int) (hl : ys.length = xs.length)
    (h : ∀ k, k < xs.length → 0 ≤ nth ys k ∧ nth ys k < 18446744069414584321 ∧ Eqm (nth ys k) (T xs.length z (nth xs) k)) : ys = dftL xs z := by
  apply ext_nth (by rw [dftL_len, hl])
  intro k hk
  rw [hl] at hk
  rw [nth_dftL _ _ _ hk]
  obtain ⟨h1, h2, h3⟩ := h k hk
  have b := pt_range xs (pw z k)
  exact eq_of_eqm (h3.trans (pt_T xs z k).symm) h1 h2 b.1 b.2
theorem sz_part {a b : Nat} (h : hasSz ((a * b : Nat) : Int) = true) : hasSz (a : Int) = true ∧ hasSz (b : Int) = true := by
  obtain ⟨h1, h2, h3⟩ := hasSz_iff.1 h
  have h5 : ((18446744069414584320 % (a * b) : Nat) : Int) = 0 := by rw [Int.natCast_emod]; exact h3
  have hd : a * b ∣ 18446744069414584320 := Nat.dvd_of_mod_eq_zero (by omega)
  have ha : 0 < a := Nat.pos_of_ne_zero (fun e => by subst e; rw [Nat.zero_mul] at h1; omega)
  have hb : 0 < b := Nat.pos_of_ne_zero (fun e => by subst e; rw [Nat.mul_zero] at h1; omega)
  have la : a ≤ a * b := Nat.le_mul_of_pos_right a hb
  have lb : b ≤ a * b := Nat.le_mul_of_pos_left b ha
  have da : 18446744069414584320 % a = 0 := Nat.mod_eq_zero_of_dvd (Nat.dvd_trans ⟨b, rfl⟩ hd)
  have db : 18446744069414584320 % b = 0 := Nat.mod_eq_zero_of_dvd (Nat.dvd_trans ⟨a, Nat.mul_comm a b⟩ hd)
  have ea : ((18446744069414584320 % a : Nat) : Int) = 0 := by rw [da]; rfl
  have eb : ((18446744069414584320 % b : Nat) : Int) = 0 := by rw [db]; rfl
  rw [Int.natCast_emod] at ea eb
  exact ⟨hasSz_iff.2 ⟨by omega, by omega, ea⟩, hasSz_iff.2 ⟨by omega, by omega, eb⟩⟩
theorem inv_uniq {x y u v : Int} (h1 : Eqm (x * u) 1) (h2 : Eqm (y * v) 1) (h : Eqm x y) : Eqm u v := by
  have a := h1.mul (rfl' v)
  have b := h2.mul (rfl' u)
  rw [Int.one_mul] at a b
  have c : Eqm (x * u * v) (y * v * u) := by
    have := (h.mul (rfl' u)).mul (rfl' v)
    rwa [Int.mul_assoc y u v, Int.mul_comm u v, ← Int.mul_assoc] at this
  exact b.symm.trans (c.symm.trans a)
theorem rtExp_part {a b : Nat} (h : hasSz ((a * b : Nat) : Int) = true) : rtExp (a * b) * b = rtExp a := by
  have h1 := rtExp_mul (a * b) h
  have h2 := rtExp_mul a (sz_part h).1
  have ha : 0 < a := by have := (hasSz_iff.1 (sz_part h).1).1; omega
  have : rtExp (a * b) * b * a = rtExp a * a := by
    rw [h2, ← h1, Nat.mul_assoc, Nat.mul_comm b a]
  exact Nat.eq_of_mul_eq_mul_right ha this
theorem rt_part {a b : Nat} (h : hasSz ((a * b : Nat) : Int) = true) : Eqm (rt (a * b) ^ b) (rt a) := by
  refine (rt_pow (a * b) b).trans ?_
  rw [← Int.pow_mul, rtExp_part h]
  exact (pw_eqm 7 (rtExp a)).symm
theorem dirRt_part {a b : Nat} (d : Int) (h : hasSz ((a * b : Nat) : Int) = true) : Eqm (dirRt (a * b) d ^ b) (dirRt a d) := by
  have h1 := rt_part h
  unfold dirRt
  split
  · exact inv_uniq ((isRoot_rt (a * b) h).inv_pow b) (isRoot_rt a (sz_part h).1).inv h1
  · exact h1
theorem dirRt_part2 {a b : Nat} (d : Int) (h : hasSz ((a * b : Nat) : Int) = true) : Eqm (dirRt (a * b) d ^ a) (dirRt b d) := by
  have h2 : hasSz ((b * a : Nat) : Int) = true := by rw [Nat.mul_comm]; exact h
  have := dirRt_part (a := b) (b := a) d h2
  rwa [Nat.mul_comm b a] at this
def colL (xs : List Int) (a b j : Nat) : List Int := (List.range a).map fun i => nth xs (i * b + j)
theorem colL_len (xs : List Int) (a b j : Nat) : (colL xs a b j).length = a := by simp [colL]
theorem nth_colL (xs : List Int) (a b j i : Nat) (h : i < a) : nth (colL xs a b j) i = nth xs (i * b + j) := nth_ofFn _ _ _ h
def gtL (xs : List Int) (a b : Nat) (za : Int) (tw : Nat → Nat → Int) : List Int := (List.range (a * b)).map fun k => nth (dftL (colL xs a b (k % b)) za) (k / b) * tw (k / b) (k % b) % 18446744069414584321
theorem gtL_len (xs : List Int) (a b : Nat) (za : Int) (tw : Nat → Nat → Int) : (gtL xs a b za tw).length = a * b := by simp [gtL]
theorem nth_gtL (xs : List Int) (a b : Nat) (za : Int) (tw : Nat → Nat → Int) (k : Nat) (h : k < a * b) : nth (gtL xs a b za tw) k = nth (dftL (colL xs a b (k % b)) za) (k / b) * tw (k / b) (k % b) % 18446744069414584321 := nth_ofFn _ _ _ h
theorem gtL_fits (xs : List Int) (a b : Nat) (za : Int) (tw : Nat → Nat → Int) : ∀ x ∈ gtL xs a b za tw, fits .u64 x := modL_fits _
def rowL (ts : List Int) (b i : Nat) : List Int := (List.range b).map fun j => nth ts (i * b + j)
theorem rowL_len (ts : List Int) (b i : Nat) : (rowL ts b i).length = b := by simp [rowL]
theorem nth_rowL (ts : List Int) (b i j : Nat) (h : j < b) : nth (rowL ts b i) j = nth ts (i * b + j) := nth_ofFn _ _ _ h
def grL (ts : List Int) (a b : Nat) (zb : Int) : List Int := (List.range (a * b)).map fun k => nth (dftL (rowL ts b (k / b)) zb) (k % b)
theorem grL_len (ts : List Int) (a b : Nat) (zb : Int) : (grL ts a b zb).length = a * b := by simp [grL]
theorem nth_grL (ts : List Int) (a b : Nat) (zb : Int) (k : Nat) (h : k < a * b) : nth (grL ts a b zb) k = nth (dftL (rowL ts b (k / b)) zb) (k % b) := nth_ofFn _ _ _ h
theorem dftL_range (xs : List Int) (z : Int) (k : Nat) (h : k < xs.length) : 0 ≤ nth (dftL xs z) k ∧ nth (dftL xs z) k < 18446744069414584321 := by
  rw [nth_dftL xs z k h]; exact pt_range _ _
theorem grL_range (ts : List Int) (a b : Nat) (zb : Int) (k : Nat) (h : k < a * b) : 0 ≤ nth (grL ts a b zb) k ∧ nth (grL ts a b zb) k < 18446744069414584321 := by
  have hb : 0 < b := Nat.pos_of_ne_zero (fun e => by subst e; omega)
  rw [nth_grL _ _ _ _ _ h]
  exact dftL_range _ _ _ (by rw [rowL_len]; exact Nat.mod_lt _ hb)
theorem at_row {b i j : Nat} (hj : j < b) : (i * b + j) / b = i ∧ (i * b + j) % b = j := by
  have hb : 0 < b := by omega
  constructor
  · rw [Nat.mul_comm, Nat.mul_add_div hb, Nat.div_eq_of_lt hj, Nat.add_zero]
  · rw [Nat.mul_comm, Nat.mul_add_mod, Nat.mod_eq_of_lt hj]
theorem row_in {a b i j : Nat} (hi : i < a) (hj : j < b) : i * b + j < a * b := by
  have : (i + 1) * b ≤ a * b := Nat.mul_le_mul_right b (by omega)
  rw [Nat.succ_mul] at this
  omega
/-- What the grid holds at a place, as a sum over rows and columns. -/
theorem grid_at (xs : List Int) (a b : Nat) (za zb : Int) (tw : Nat → Nat → Int) (i j : Nat) (hi : i < a) (hj : j < b) :
    Eqm (nth (grL (gtL xs a b za tw) a b zb) (i * b + j)) (S b (fun v => S a (fun u => nth xs (u * b + v) * za ^ (u * i)) * tw i v * zb ^ (v * j))) := by
  rw [nth_grL _ _ _ _ _ (row_in hi hj), (at_row hj).1, (at_row hj).2]
  refine (dftL_T _ _ j (by rw [rowL_len]; exact hj)).trans ?_
  rw [rowL_len]
  unfold T
  refine S_eqm fun v hv => ?_
  rw [nth_rowL _ _ _ _ hv, nth_gtL _ _ _ _ _ _ (row_in hi hv), (at_row hv).1, (at_row hv).2]
  refine ((Eqm.mod _).trans ?_).mul (rfl' _)
  refine Eqm.mul ?_ (rfl' _)
  refine (dftL_T _ _ i (by rw [colL_len]; exact hi)).trans ?_
  rw [colL_len]
  unfold T
  exact S_eqm fun u hu => by rw [nth_colL _ _ _ _ _ hu]; exact rfl' _
/-- Cooley and Tukey's way. -/
def splL (xs : List Int) (a b : Nat) (za zb z : Int) : List Int :=
  (List.range (a * b)).map fun k => nth (grL (gtL xs a b za (fun i j => pw z (i * j % (a * b)))) a b zb) (k % a * b + k / a)
theorem split_eq (xs : List Int) (a b : Nat) (d : Int) (hx : xs.length = a * b) (h : hasSz ((a * b : Nat) : Int) = true) :
    splL xs a b (dirRt a d) (dirRt b d) (dirRt (a * b) d) = dftL xs (dirRt (a * b) d) := by
  have hr := isRoot_dir (a * b) d h
  have ea := dirRt_part d h
  have eb := dirRt_part2 d h
  obtain ⟨z, hz⟩ : ∃ z, dirRt (a * b) d = z := ⟨_, rfl⟩
  obtain ⟨u, hu⟩ : ∃ u, dirBk (a * b) d = u := ⟨_, rfl⟩
  rw [hz, hu] at hr
  rw [hz] at ea eb ⊢
  have ha : 0 < a := by have := (hasSz_iff.1 (sz_part h).1).1; omega
  have hb : 0 < b := by have := (hasSz_iff.1 (sz_part h).2).1; omega
  refine dft_ofT xs _ z (by rw [hx]; simp [splL]) fun k hk => ?_
  rw [hx] at hk ⊢
  have hk1 : k % a < a := Nat.mod_lt _ ha
  have hk2 : k / a < b := Nat.div_lt_of_lt_mul hk
  have e0 : nth (splL xs a b (dirRt a d) (dirRt b d) z) k = nth (grL (gtL xs a b (dirRt a d) (fun i j => pw z (i * j % (a * b)))) a b (dirRt b d)) (k % a * b + k / a) := nth_ofFn _ _ _ hk
  rw [e0]
  have hb1 := grL_range (gtL xs a b (dirRt a d) (fun i j => pw z (i * j % (a * b)))) a b (dirRt b d) _ (row_in hk1 hk2)
  refine ⟨hb1.1, hb1.2, (grid_at xs a b _ _ _ _ _ hk1 hk2).trans ?_⟩
  obtain ⟨p, hp⟩ : ∃ p, k % a = p := ⟨_, rfl⟩
  obtain ⟨q, hq⟩ : ∃ q, k / a = q := ⟨_, rfl⟩
  have hkk : k = p + a * q := by rw [← hp, ← hq]; exact (Nat.mod_add_div k a).symm
  rw [hp, hq]
  unfold T
  rw [S_grid]
  refine Eqm.trans ?_ (by rw [S_swap]; exact rfl' _)
  refine S_eqm fun v hv => ?_
  rw [← S_mul_r, ← S_mul_r]
  refine S_eqm fun s hs => ?_
  have t1 : Eqm ((dirRt a d) ^ (s * p)) (z ^ (b * (s * p))) := by
    exact (ea.symm.pow _).trans (by rw [← Int.pow_mul]; exact rfl' _)
  have t2 : Eqm ((dirRt b d) ^ (v * q)) (z ^ (a * (v * q))) := by
    exact (eb.symm.pow _).trans (by rw [← Int.pow_mul]; exact rfl' _)
  have t3 : Eqm (pw z (p * v % (a * b))) (z ^ (p * v)) := (pw_eqm _ _).trans (hr.pow_mod _)
  have t4 := hr.times (s * q)
  have key : Eqm (nth xs (s * b + v) * (dirRt a d) ^ (s * p) * pw z (p * v % (a * b)) * (dirRt b d) ^ (v * q)) (nth xs (s * b + v) * z ^ (b * (s * p)) * z ^ (p * v) * z ^ (a * (v * q))) :=
    ((((rfl' _).mul t1).mul t3).mul t2)
  refine key.trans ?_
  have ex : (s * b + v) * k = b * (s * p) + p * v + a * (v * q) + a * b * (s * q) := by rw [hkk]; grind
  have e5 : nth xs (s * b + v) * z ^ ((s * b + v) * k) = nth xs (s * b + v) * z ^ (b * (s * p)) * z ^ (p * v) * z ^ (a * (v * q)) * z ^ (a * b * (s * q)) := by
    rw [ex, Int.pow_add, Int.pow_add, Int.pow_add]; simp only [Int.mul_assoc]
  rw [e5]
  have := (rfl' (nth xs (s * b + v) * z ^ (b * (s * p)) * z ^ (p * v) * z ^ (a * (v * q)))).mul t4
  rw [Int.mul_one] at this
  exact this.symm
/-- Good and Thomas's way. -/
def gdIn (xs : List Int) (a b : Nat) : List Int := (List.range (a * b)).map fun k => nth xs (gooF a b k)
theorem gdIn_len (xs : List Int) (a b : Nat) : (gdIn xs a b).length = a * b := by simp [gdIn]
theorem nth_gdIn (xs : List Int) (a b k : Nat) (h : k < a * b) : nth (gdIn xs a b) k = nth xs (gooF a b k) := nth_ofFn _ _ _ h
def gdL (xs : List Int) (a b : Nat) (za zb : Int) : List Int :=
  (List.range (a * b)).map fun k => nth (grL (gtL (gdIn xs a b) a b za (fun _ _ => 1)) a b zb) (crtF a b k)
theorem good_eq (xs : List Int) (a b : Nat) (d : Int) (hx : xs.length = a * b) (h : hasSz ((a * b : Nat) : Int) = true) (hg : Nat.gcd a b = 1) :
    gdL xs a b (dirRt a d) (dirRt b d) = dftL xs (dirRt (a * b) d) := by
  have hr := isRoot_dir (a * b) d h
  have ea := dirRt_part d h
  have eb := dirRt_part2 d h
  obtain ⟨z, hz⟩ : ∃ z, dirRt (a * b) d = z := ⟨_, rfl⟩
  obtain ⟨u, hu⟩ : ∃ u, dirBk (a * b) d = u := ⟨_, rfl⟩
  rw [hz, hu] at hr
  rw [hz] at ea eb ⊢
  have ha : 0 < a := by have := (hasSz_iff.1 (sz_part h).1).1; omega
  have hb : 0 < b := by have := (hasSz_iff.1 (sz_part h).2).1; omega
  refine dft_ofT xs _ z (by rw [hx]; simp [gdL]) fun k hk => ?_
  rw [hx] at hk ⊢
  have hk1 : k % a < a := Nat.mod_lt _ ha
  have hk2 : k % b < b := Nat.mod_lt _ hb
  have e0 : nth (gdL xs a b (dirRt a d) (dirRt b d)) k = nth (grL (gtL (gdIn xs a b) a b (dirRt a d) (fun _ _ => 1)) a b (dirRt b d)) (k % a * b + k % b) := nth_ofFn _ _ _ hk
  rw [e0]
  have hb1 := grL_range (gtL (gdIn xs a b) a b (dirRt a d) (fun _ _ => 1)) a b (dirRt b d) _ (row_in hk1 hk2)
  refine ⟨hb1.1, hb1.2, (grid_at (gdIn xs a b) a b _ _ _ _ _ hk1 hk2).trans ?_⟩
  unfold T
  rw [← S_perm (a * b) (fun i => nth xs i * z ^ (i * k)) (gooF a b) (gooF_lt a b) (gooF_inj a b hg), S_grid]
  refine Eqm.trans ?_ (by rw [S_swap]; exact rfl' _)
  refine S_eqm fun v hv => ?_
  rw [Int.mul_one, ← S_mul_r]
  refine S_eqm fun s hs => ?_
  rw [nth_gdIn _ _ _ _ (row_in hs hv)]
  have t1 : Eqm ((dirRt a d) ^ (s * (k % a))) (z ^ (b * (s * k))) := by
    refine (ea.symm.pow _).trans ?_
    rw [← Int.pow_mul]
    have hx : b * (s * k) = b * (s * (k % a)) + a * b * (s * (k / a)) := by
      have := Nat.mod_add_div k a
      obtain ⟨p, hp⟩ : ∃ p, k % a = p := ⟨_, rfl⟩
      obtain ⟨q, hq⟩ : ∃ q, k / a = q := ⟨_, rfl⟩
      rw [hp, hq] at this ⊢
      rw [← this]; grind
    rw [hx, Int.pow_add]
    have := (rfl' (z ^ (b * (s * (k % a))))).mul (hr.times (s * (k / a)))
    rw [Int.mul_one] at this
    exact this.symm
  have t2 : Eqm ((dirRt b d) ^ (v * (k % b))) (z ^ (a * (v * k))) := by
    refine (eb.symm.pow _).trans ?_
    rw [← Int.pow_mul]
    have hx : a * (v * k) = a * (v * (k % b)) + a * b * (v * (k / b)) := by
      have := Nat.mod_add_div k b
      obtain ⟨p, hp⟩ : ∃ p, k % b = p := ⟨_, rfl⟩
      obtain ⟨q, hq⟩ : ∃ q, k / b = q := ⟨_, rfl⟩
      rw [hp, hq] at this ⊢
      rw [← this]; grind
    rw [hx, Int.pow_add]
    have := (rfl' (z ^ (a * (v * (k % b))))).mul (hr.times (v * (k / b)))
    rw [Int.mul_one] at this
    exact this.symm
  refine (((rfl' _).mul t1).mul t2).trans ?_
  have e2 : gooF a b (s * b + v) = (s * b + v * a) % (a * b) := by unfold gooF; rw [(at_row hv).1, (at_row hv).2]
  rw [Int.mul_assoc, ← Int.pow_add]
  refine (rfl' _).mul ?_
  rw [e2, show b * (s * k) + a * (v * k) = (s * b + v * a) * k by grind, Int.pow_mul, Int.pow_mul]
  exact (hr.pow_mod _).symm.pow k
def arL (xs ts : List Int) (m : Nat) : List Int := scaleL (revL (dftL (mulL (dftL xs (dirRt m 0)) ts) (dirRt m 0))) (invN m)
theorem around_eq (xs rs : List Int) (m : Nat) (hx : xs.length = m) (hr : rs.length = m) (h : hasSz (m : Int) = true) :
    arL xs (dftL rs (dirRt m 0)) m = cvL xs rs m := by
  have hro := isRoot_dir m 0 h
  unfold arL
  rw [← dft_conv xs rs m _ _ hro hx hr]
  have ht := dft_twice (cvL xs rs m) 0 (by rw [cvL_len]; exact h)
  rw [cvL_len] at ht
  rw [ht]
  have hb := hasSz_iff.1 h
  apply ext_nth (by rw [scaleL_len, revL_len, scaleL_len, revL_len])
  intro k hk
  rw [scaleL_len, revL_len, scaleL_len, revL_len, cvL_len] at hk
  have hl1 : (scaleL (revL (cvL xs rs m)) (m : Int)).length = m := by rw [scaleL_len, revL_len, cvL_len]
  rw [nth_scaleL _ _ _ (by rw [revL_len, hl1]; exact hk)]
  have e1 : nth (revL (scaleL (revL (cvL xs rs m)) (m : Int))) k = nth (scaleL (revL (cvL xs rs m)) (m : Int)) (revAt m k) % 18446744069414584321 := by
    rw [nth_revL _ _ (by rw [hl1]; exact hk), hl1]
  have hrv := revAt_lt hk
  rw [e1, nth_scaleL _ _ _ (by rw [revL_len, cvL_len]; exact hrv)]
  have e2 : nth (revL (cvL xs rs m)) (revAt m k) = nth (cvL xs rs m) (revAt m (revAt m k)) % 18446744069414584321 := by
    rw [nth_revL _ _ (by rw [cvL_len]; exact hrv), cvL_len]
  have e3 : revAt m (revAt m k) = k := by
    unfold revAt
    by_cases h0 : k = 0
    · subst h0; simp
    · rw [Nat.mod_eq_of_lt (show m - k < m by omega), show m - (m - k) = k by omega, Nat.mod_eq_of_lt hk]
  rw [e2, e3, nth_cvL _ _ _ _ hk]
  obtain ⟨c, hc⟩ : ∃ c, cvS xs rs m k = c := ⟨_, rfl⟩
  rw [hc]
  refine eq_of_eqm ?_ (by omega) (by omega) (by omega) (by omega)
  refine (Eqm.mod _).trans ?_
  have s1 : Eqm (c % 18446744069414584321 % 18446744069414584321 * (m : Int) % 18446744069414584321 % 18446744069414584321 * invN m) (c % 18446744069414584321 * (m : Int) * invN m) :=
    ((Eqm.mod _).trans ((Eqm.mod _).trans ((Eqm.mod _).mul (rfl' _)))).mul (rfl' _)
  refine s1.trans ?_
  rw [Int.mul_assoc]
  have := (rfl' (c % 18446744069414584321)).mul (inv_n m (by omega) (by omega))
  rwa [Int.mul_one] at this
def radIn (xs : List Int) (q : Nat) : List Int := (List.range (q - 1)).map fun i => nth xs (gp q i)
theorem radIn_len (xs : List Int) (q : Nat) : (radIn xs q).length = q - 1 := by simp [radIn]
theorem nth_radIn (xs : List Int) (q i : Nat) (h : i < q - 1) : nth (radIn xs q) i = nth xs (gp q i) := nth_ofFn _ _ _ h
theorem radAt_lt {q : Nat} (h : IsFq q) (i : Nat) : radAt q i < q := gp_lt q _ (by have := fq_bd h; omega)
theorem radAt_pos {q : Nat} (h : IsFq q) (i : Nat) : 0 < radAt q i := gp_pos h _
theorem radAt_inj {q : Nat} (h : IsFq q) (i j : Nat) (hij : i < j) (hj : j < q - 1) : radAt q i ≠ radAt q j := by
  have hb := fq_bd h
  unfold radAt
  by_cases h0 : i = 0
  · subst h0
    rw [Nat.sub_zero, Nat.mod_self, Nat.mod_eq_of_lt (show q - 1 - j < q - 1 by omega)]
    exact gp_inj h _ _ (by omega) (by omega)
  · rw [Nat.mod_eq_of_lt (show q - 1 - i < q - 1 by omega), Nat.mod_eq_of_lt (show q - 1 - j < q - 1 by omega)]
    exact fun e => gp_inj h _ _ (by omega) (by omega) e.symm
theorem radAt_onto {q : Nat} (h : IsFq q) (b : Nat) (h1 : 1 ≤ b) (h2 : b < q) : ∃ i, i < q - 1 ∧ radAt q i = b := by
  have hb := fq_bd h
  obtain ⟨i, hi, he⟩ := gp_onto h b h1 h2
  by_cases h0 : i = 0
  · exact ⟨0, by omega, by rw [radAt_zero h, ← he, h0, gp_zero h]⟩
  · exact ⟨q - 1 - i, by omega, by rw [radAt_eq h _ (by omega), show q - 1 - (q - 1 - i) = i by omega]; exact he⟩
theorem sumP_S (n : Nat) (f : Nat → Int) : sumP ((List.range n).map f) = S n f % 18446744069414584321 := by
  induction n with
  | zero => rfl
  | succ n ih => rw [List.range_succ, List.map_append, List.map_singleton, sumP_snoc, ih, Int.emod_add_emod]; rfl
theorem list_nth (xs : List Int) : xs = (List.range xs.length).map (nth xs) :=
  ext_nth (by simp) fun i hi => (nth_ofFn _ _ _ hi).symm
theorem sumP_nth (xs : List Int) : sumP xs = S xs.length (nth xs) % 18446744069414584321 := by
  have := sumP_S xs.length (nth xs)
  rwa [← list_nth] at this
theorem rader_eq (xs ys : List Int) (q : Nat) (d : Int) (hq : IsFq q) (hs : hasSz (q : Int) = true) (hx : xs.length = q) (hy : ys.length = q)
    (h0 : nth ys 0 = sumP xs) (h : ∀ i, i < q - 1 → nth ys (radAt q i) = (nth xs 0 + nth (cvL (radIn xs q) (radL (dirRt q d) q) (q - 1)) i) % 18446744069414584321) : ys = dftL xs (dirRt q d) := by
  have hr := isRoot_dir q d hs
  have hb := fq_bd hq
  obtain ⟨z, hz⟩ : ∃ z, dirRt q d = z := ⟨_, rfl⟩
  rw [hz] at hr h ⊢
  refine dft_ofT xs ys z (by rw [hx, hy]) fun k hk => ?_
  rw [hx] at hk ⊢
  by_cases hk0 : k = 0
  · subst hk0
    rw [h0]
    have hbd := sumP_range xs
    refine ⟨hbd.1, hbd.2, ?_⟩
    rw [sumP_nth, hx]
    refine (Eqm.mod _).trans ?_
    unfold T
    exact S_eqm fun i _ => by rw [Nat.mul_zero, Int.pow_zero, Int.mul_one]; exact rfl' _
  · obtain ⟨i, hi, rfl⟩ := radAt_onto hq k (by omega) hk
    rw [h i hi]
    refine ⟨by omega, by omega, (Eqm.mod _).trans ?_⟩
    obtain ⟨κ, hκ⟩ : ∃ κ, radAt q i = κ := ⟨_, rfl⟩
    rw [hκ]
    have e1 : T q z (nth xs) κ = nth xs 0 + S (q - 1) (fun t => nth xs (t + 1) * z ^ ((t + 1) * κ)) := by
      unfold T
      rw [show q = (q - 1) + 1 by omega, S_head, Nat.zero_mul, Int.pow_zero, Int.mul_one]
      rfl
    rw [e1]
    refine (rfl' _).add ?_
    have e2 := S_perm (q - 1) (fun t => nth xs (t + 1) * z ^ ((t + 1) * κ)) (fun t => gp q t - 1) (fun t _ => by
        have := gp_lt q t (by omega)
        show gp q t - 1 < q - 1
        omega) (fun t v htv hv => by
        have a := gp_pos hq t
        have b := gp_pos hq v
        have c := gp_inj hq t v htv hv
        show gp q t - 1 ≠ gp q v - 1
        omega)
    rw [← e2, nth_cvL _ _ _ _ hi, cyc_at _ _ (q - 1) i (radIn_len _ _) (radL_len _ _) hi]
    refine (Eqm.mod _).trans (S_eqm fun t ht => ?_)
    have hgt := gp_pos hq t
    have ho := othAt_lt (q - 1) i t (by omega)
    rw [nth_radIn _ _ _ ht, nth_radL _ _ _ ho, show gp q t - 1 + 1 = gp q t by omega]
    refine (rfl' _).mul ?_
    refine (pw_eqm _ _).trans ?_
    have e3 : radAt q (othAt (q - 1) i t) = gp q t * κ % q := by
      rw [← hκ]
      unfold radAt
      rw [gp_mod hq (q - 1 - i), ← gp_add]
      have e4 : (q - 1 - othAt (q - 1) i t) % (q - 1) = (t + (q - 1 - i)) % (q - 1) := by
        unfold othAt
        obtain ⟨m, hm⟩ : ∃ m, q - 1 = m := ⟨_, rfl⟩
        rw [hm] at hi ht ⊢
        by_cases hti : t ≤ i
        · rw [show i + m - t = (i - t) + m by omega, Nat.add_mod_right, Nat.mod_eq_of_lt (show i - t < m by omega), show m - (i - t) = t + (m - i) by omega]
        · rw [Nat.mod_eq_of_lt (show i + m - t < m by omega), show m - (i + m - t) = t - i by omega, show t + (m - i) = (t - i) + m by omega, Nat.add_mod_right]
      rw [e4, gp_mod hq]
    rw [e3]
    exact hr.pow_mod _
end Go.Proofs.YtlnlijeamflpiaaGreat

namespace Go.Proofs.YtlnlijeamflpiaaGreat
open Go.RowKit Sm
set_option linter.unusedVariables false
set_option linter.unusedSimpArgs false
set_option maxRecDepth 100000
theorem S_nil {n : Nat} {f : Nat → Int} (h : ∀ i, i < n → f i = 0) : S n f = 0 := (S_congr h).trans (S_zero n)
def fc (f g : Nat → Int) (k : Nat) : Int := S (k + 1) (fun i => f i * g (k - i))
theorem fc_comm (f g : Nat → Int) (k : Nat) : fc f g k = fc g f k := by
  unfold fc
  rw [← S_rev (k + 1) (fun i => g i * f (k - i))]
  exact S_congr fun i hi => by
    show f i * g (k - i) = g (k + 1 - 1 - i) * f (k - (k + 1 - 1 - i))
    rw [show k + 1 - 1 - i = k - i by omega, show k - (k - i) = i by omega, Int.mul_comm]
theorem fc_assoc (f g h : Nat → Int) (k : Nat) : fc (fc f g) h k = fc f (fc g h) k := by
  have e1 : fc (fc f g) h k = S (k + 1) (fun l => S (k + 1) (fun i => if i ≤ l then f i * (g (l - i) * h (k - l)) else 0)) := S_congr fun l hl => by
    show S (l + 1) (fun i => f i * g (l - i)) * h (k - l) = _
    rw [← S_mul_r, S_short (l + 1) (k + 1) _ (by omega) (fun i hi => if_neg (by omega))]
    exact S_congr fun i hi => by rw [if_pos (by omega), Int.mul_assoc]
  rw [e1, S_swap]
  refine S_congr fun i hi => ?_
  have e2 : S (i + (k - i + 1)) (fun l => if i ≤ l then f i * (g (l - i) * h (k - l)) else 0) = f i * fc g h (k - i) := by
    rw [S_append, S_nil (fun l hl => if_neg (by omega)), Int.zero_add]
    unfold fc
    rw [← S_mul]
    exact S_congr fun j hj => by rw [if_pos (by omega), show i + j - i = j by omega, show k - (i + j) = k - i - j by omega]
  rwa [show i + (k - i + 1) = k + 1 by omega] at e2
theorem fc_eqm {f f' g g' : Nat → Int} (h1 : ∀ i, Eqm (f i) (f' i)) (h2 : ∀ i, Eqm (g i) (g' i)) (k : Nat) : Eqm (fc f g k) (fc f' g' k) := S_eqm fun i _ => (h1 i).mul (h2 _)
def d0 (i : Nat) : Int := if i = 0 then 1 else 0
theorem fc_d0 (g : Nat → Int) (k : Nat) : fc d0 g k = g k := by
  unfold fc
  rw [S_head, S_nil (fun i hi => by unfold d0; rw [if_neg (by omega), Int.zero_mul])]
  unfold d0; simp
theorem fc_d0r (g : Nat → Int) (k : Nat) : fc g d0 k = g k := by rw [fc_comm, fc_d0]
def fp (f : Nat → Int) : Nat → Nat → Int
  | 0 => d0
  | n + 1 => fc (fp f n) f
theorem fp_add (f : Nat → Int) (a b : Nat) : fc (fp f a) (fp f b) = fp f (a + b) := by
  induction b with
  | zero => funext k; exact fc_d0r _ k
  | succ b ih =>
    funext k
    show fc (fp f a) (fc (fp f b) f) k = fc (fp f (a + b)) f k
    rw [← fc_assoc, ih]
theorem nth_nil (k : Nat) : nth [] k = 0 := rfl
theorem lnL_fc (xs ys : List Int) (k : Nat) : Eqm (nth (lnL xs ys) k) (fc (nth xs) (nth ys) k) := by
  by_cases h : xs.length = 0 ∨ ys.length = 0
  · rw [lnL_nil _ _ h, nth_nil]
    have e : fc (nth xs) (nth ys) k = 0 := S_nil fun i hi => by
      rcases h with h | h
      · rw [nth_out xs i (by omega), Int.zero_mul]
      · rw [nth_out ys (k - i) (by omega), Int.mul_zero]
    rw [e]; exact rfl' 0
  · rw [lnL_some _ _ h]
    by_cases hk : k < xs.length + ys.length - 1
    · rw [nth_cvL _ _ _ _ hk, lin_at xs ys _ k rfl (by omega) (by omega) hk]
      refine (Eqm.mod _).trans ?_
      have e1 : ∀ i, lnT xs ys k i = if i ≤ k then nth xs i * nth ys (k - i) else 0 := fun i => by
        unfold lnT
        by_cases h1 : i ≤ k
        · by_cases h2 : k - i < ys.length
          · rw [if_pos ⟨h1, h2⟩, if_pos h1]
          · rw [if_neg (fun e => h2 e.2), if_pos h1, nth_out ys (k - i) (by omega), Int.mul_zero]
        · rw [if_neg (fun e => h1 e.1), if_neg h1]
      rw [S_congr (fun i _ => e1 i), ← S_short xs.length (xs.length + (k + 1)) _ (by omega) (fun i hi => by rw [nth_out xs i hi, Int.zero_mul]; split <;> rfl),
        S_short (k + 1) (xs.length + (k + 1)) _ (by omega) (fun i hi => if_neg (by omega))]
      have e2 : S (k + 1) (fun i => if i ≤ k then nth xs i * nth ys (k - i) else 0) = fc (nth xs) (nth ys) k := S_congr fun i hi => if_pos (by omega)
      rw [e2]; exact rfl' _
    · rw [nth_out _ k (by rw [cvL_len]; omega)]
      have e : fc (nth xs) (nth ys) k = 0 := S_nil fun i hi => by
        by_cases hx : i < xs.length
        · rw [nth_out ys (k - i) (by omega), Int.mul_zero]
        · rw [nth_out xs i (by omega), Int.zero_mul]
      rw [e]; exact rfl' 0
theorem lnL_len (xs ys : List Int) (h : ¬ (xs.length = 0 ∨ ys.length = 0)) : (lnL xs ys).length = xs.length + ys.length - 1 := by rw [lnL_some _ _ h, cvL_len]
theorem lnL_rng (xs ys : List Int) (k : Nat) : 0 ≤ nth (lnL xs ys) k ∧ nth (lnL xs ys) k < 18446744069414584321 := by
  by_cases h : xs.length = 0 ∨ ys.length = 0
  · rw [lnL_nil _ _ h, nth_nil]; omega
  · rw [lnL_some _ _ h]
    by_cases hk : k < xs.length + ys.length - 1
    · rw [nth_cvL _ _ _ _ hk]; omega
    · rw [nth_out _ k (by rw [cvL_len]; omega)]; omega
theorem red_ext {xs ys : List Int} (hl : xs.length = ys.length) (hx : ∀ k, 0 ≤ nth xs k ∧ nth xs k < 18446744069414584321) (hy : ∀ k, 0 ≤ nth ys k ∧ nth ys k < 18446744069414584321) (h : ∀ k, Eqm (nth xs k) (nth ys k)) : xs = ys := by
  refine ext_nth hl fun k _ => ?_
  have h1 := h k
  have h2 := hx k
  have h3 := hy k
  unfold Eqm at h1
  omega
def pwR (xs : List Int) : Nat → List Int
  | 0 => [1]
  | n + 1 => lnL (pwR xs n) xs
theorem nth_one (k : Nat) : nth [1] k = d0 k := by
  unfold d0
  by_cases h : k = 0
  · subst h; rfl
  · rw [if_neg h]; exact nth_out _ _ (by simp; omega)
theorem pwR_fp (xs : List Int) (n : Nat) : ∀ k, Eqm (nth (pwR xs n) k) (fp (nth xs) n k) := by
  induction n with
  | zero => intro k; show Eqm (nth [1] k) (d0 k); rw [nth_one]; exact rfl' _
  | succ n ih =>
    intro k
    exact (lnL_fc (pwR xs n) xs k).trans (fc_eqm ih (fun i => rfl' _) k)
theorem pwR_rng (xs : List Int) (n : Nat) (k : Nat) : 0 ≤ nth (pwR xs n) k ∧ nth (pwR xs n) k < 18446744069414584321 := by
  cases n with
  | zero =>
    show 0 ≤ nth [1] k ∧ nth [1] k < 18446744069414584321
    rw [nth_one]; unfold d0; split <;> omega
  | succ n => exact lnL_rng _ _ k
theorem pwR_len (xs : List Int) (n : Nat) (h : xs.length ≠ 0) : (pwR xs n).length = (xs.length - 1) * n + 1 := by
  induction n with
  | zero => show ([1] : List Int).length = _; simp
  | succ n ih =>
    show (lnL (pwR xs n) xs).length = _
    rw [lnL_len _ _ (by rw [ih]; omega), ih, Nat.mul_succ]; omega
theorem pwR_nil (n : Nat) : pwR [] (n + 1) = [] := lnL_nil _ _ (.inr rfl)
theorem pwR_add (xs : List Int) (a b : Nat) : lnL (pwR xs a) (pwR xs b) = pwR xs (a + b) := by
  have hext : (lnL (pwR xs a) (pwR xs b)).length = (pwR xs (a + b)).length → lnL (pwR xs a) (pwR xs b) = pwR xs (a + b) := fun hl =>
    red_ext hl (lnL_rng _ _) (pwR_rng _ _) fun k => by
      refine ((lnL_fc _ _ k).trans (fc_eqm (pwR_fp xs a) (pwR_fp xs b) k)).trans ?_
      rw [fp_add]
      exact (pwR_fp xs (a + b) k).symm
  by_cases h : xs.length = 0
  · have hx : xs = [] := List.length_eq_zero_iff.1 h
    subst hx
    cases b with
    | succ b => rw [show a + (b + 1) = (a + b) + 1 by omega, pwR_nil, pwR_nil]; exact lnL_nil _ _ (.inr rfl)
    | zero =>
      cases a with
      | succ a => rw [Nat.add_zero, pwR_nil]; exact lnL_nil _ _ (.inl rfl)
      | zero => exact hext (by rw [lnL_len _ _ (by simp [pwR])]; rfl)
  · apply hext
    rw [lnL_len _ _ (by rw [pwR_len _ _ h, pwR_len _ _ h]; omega), pwR_len _ _ h, pwR_len _ _ h, pwR_len _ _ h, Nat.mul_add]; omega
theorem pwR_one (xs : List Int) : pwR xs 1 = xs.map (· % 18446744069414584321) := by
  show lnL [1] xs = _
  by_cases h : xs.length = 0
  · have hx : xs = [] := List.length_eq_zero_iff.1 h
    subst hx; exact lnL_nil _ _ (.inr rfl)
  · have hn : ∀ k, nth (xs.map (· % 18446744069414584321)) k = nth xs k % 18446744069414584321 := fun k => by
      by_cases hk : k < xs.length
      · rw [nth_map _ _ _ hk]
      · rw [nth_out _ k (by simpa using hk), nth_out xs k (by omega)]; rfl
    have hne : ¬ (([1] : List Int).length = 0 ∨ xs.length = 0) := fun e => e.elim (fun e => by cases e) h
    refine red_ext (by rw [lnL_len _ _ hne]; simp) (lnL_rng _ _) (fun k => by rw [hn]; omega) fun k => ?_
    refine (lnL_fc [1] xs k).trans ?_
    have e : fc (nth [1]) (nth xs) k = nth xs k := by rw [show nth [1] = d0 from funext nth_one, fc_d0]
    rw [e, hn]
    exact (Eqm.mod _).symm
theorem pt_long (xs : List Int) (a : Int) (n : Nat) (h : xs.length ≤ n) : Eqm (pt xs a) (S n (fun i => nth xs i * a ^ i)) := by
  rw [S_short xs.length n _ h (fun i hi => by rw [nth_out xs i hi, Int.zero_mul])]
  exact Eqm.mod _
theorem fc_val (f g : Nat → Int) (a : Int) (p q n : Nat) (hf : ∀ i, p ≤ i → f i = 0) (hg : ∀ i, q ≤ i → g i = 0) (hp : p ≤ n) (hn : p + q ≤ n + 1) :
    S n (fun k => fc f g k * a ^ k) = S p (fun i => f i * a ^ i) * S q (fun j => g j * a ^ j) := by
  have e1 : S n (fun k => fc f g k * a ^ k) = S n (fun k => S n (fun i => if i ≤ k then f i * (g (k - i) * a ^ k) else 0)) := S_congr fun k hk => by
    show S (k + 1) (fun i => f i * g (k - i)) * a ^ k = _
    rw [← S_mul_r, S_short (k + 1) n _ (by omega) (fun i hi => if_neg (by omega))]
    exact S_congr fun i hi => by rw [if_pos (by omega), Int.mul_assoc]
  rw [e1, S_swap, S_short p n _ hp (fun i hi => S_nil fun k _ => by rw [hf i hi, Int.zero_mul]; split <;> rfl), ← S_mul_r]
  refine S_congr fun i hi => ?_
  have e2 : S (i + (n - i)) (fun k => if i ≤ k then f i * (g (k - i) * a ^ k) else 0) = f i * a ^ i * S q (fun j => g j * a ^ j) := by
    rw [S_append, S_nil (fun l hl => if_neg (by omega)), Int.zero_add, ← S_mul,
      S_short q (n - i) _ (by omega) (fun j hj => by rw [if_pos (by omega), show i + j - i = j by omega, hg j hj, Int.zero_mul, Int.mul_zero])]
    exact S_congr fun j hj => by
      rw [if_pos (by omega), show i + j - i = j by omega, Int.pow_add]
      simp only [Int.mul_assoc, Int.mul_left_comm, Int.mul_comm]
  rwa [show i + (n - i) = n by omega] at e2
theorem pt_ln (xs ys : List Int) (a : Int) : pt (lnL xs ys) a = pt xs a * pt ys a % 18446744069414584321 := by
  have h : Eqm (pt (lnL xs ys) a) (pt xs a * pt ys a) := by
    by_cases h : xs.length = 0 ∨ ys.length = 0
    · rw [lnL_nil _ _ h]
      have e : pt xs a * pt ys a = 0 := by
        rcases h with h | h
        · rw [List.length_eq_zero_iff.1 h, show pt [] a = 0 from rfl, Int.zero_mul]
        · rw [List.length_eq_zero_iff.1 h, show pt [] a = 0 from rfl, Int.mul_zero]
      rw [e]; exact rfl' 0
    · refine (pt_long (lnL xs ys) a _ (Nat.le_of_eq (lnL_len _ _ h))).trans ?_
      refine (S_eqm fun k _ => (lnL_fc xs ys k).mul (rfl' (a ^ k))).trans ?_
      rw [fc_val (nth xs) (nth ys) a xs.length ys.length _ (fun i hi => nth_out xs i hi) (fun i hi => nth_out ys i hi) (by omega) (by omega)]
      exact ((pt_long xs a _ (Nat.le_refl _)).mul (pt_long ys a _ (Nat.le_refl _))).symm
  have h1 := pt_range (lnL xs ys) a
  unfold Eqm at h
  omega
theorem pt_pw (xs : List Int) (a : Int) (n : Nat) : pt (pwR xs n) a = pw (pt xs a) n := by
  induction n with
  | zero =>
    rw [pw_0]
    show pt [1] a = 1
    unfold pt
    show (0 + nth [1] 0 * a ^ 0) % 18446744069414584321 = 1
    simp [nth]
  | succ n ih =>
    show pt (lnL (pwR xs n) xs) a = _
    rw [pt_ln, ih, pw_succ]
theorem pt_wr (xs : List Int) (n : Nat) (z : Int) (hn : 0 < n) (hz : ∀ i, Eqm (z ^ (i % n)) (z ^ i)) : pt (wrL xs n) z = pt xs z := by
  have h : Eqm (pt (wrL xs n) z) (pt xs z) := by
    refine (pt_long (wrL xs n) z n (by rw [wrL_len]; exact Nat.le_refl _)).trans ?_
    refine (S_eqm (g := fun k => S xs.length (wrT xs n k) * z ^ k) fun k hk => by rw [nth_wrL _ _ _ hk]; exact (Eqm.mod _).mul (rfl' _)).trans ?_
    have e : S n (fun k => S xs.length (wrT xs n k) * z ^ k) = S xs.length (fun i => S n (fun k => wrT xs n k i * z ^ k)) := by
      rw [← S_swap]
      exact S_congr fun k _ => by rw [← S_mul_r]
    rw [e]
    refine Eqm.trans (S_eqm fun i hi => ?_) (Eqm.mod _).symm
    have h1 := S_one n (i % n) (fun k => wrT xs n k i * z ^ k) (Nat.mod_lt _ hn) (fun k hk hne => by
      show Eqm (wrT xs n k i * z ^ k) 0
      unfold wrT; rw [if_neg (fun e => hne e.symm), Int.zero_mul]; exact rfl' _)
    refine h1.trans ?_
    show Eqm (wrT xs n (i % n) i * z ^ (i % n)) _
    unfold wrT
    rw [if_pos rfl]
    exact (rfl' _).mul (hz i)
  have h1 := pt_range (wrL xs n) z
  have h2 := pt_range xs z
  unfold Eqm at h
  omega
theorem pad_nth (xs : List Int) (m i : Nat) : nth (padL xs m) i = nth xs i % 18446744069414584321 := by
  unfold padL
  by_cases h : i < xs.length
  · rw [nth_append_left (by simpa using h), nth_map _ _ _ h]
  · rw [nth_out xs i (by omega)]
    by_cases h2 : i < xs.length + (m - xs.length)
    · rw [nth_append_right (by simpa using h)]
      simp only [nth, List.length_map, List.getD_eq_getElem?_getD, List.getElem?_replicate]
      split <;> rfl
    · exact (nth_out _ _ (by simp; omega)).trans rfl
theorem pad_ln (xs ys : List Int) (m : Nat) (h : ¬ (xs.length = 0 ∨ ys.length = 0)) (hm : xs.length + ys.length - 1 ≤ m) : (cvL (padL xs m) (padL ys m) m).take (xs.length + ys.length - 1) = lnL xs ys := by
  rw [lnL_some _ _ h]
  refine ext_nth (by rw [List.length_take, cvL_len, cvL_len]; omega) fun t ht => ?_
  rw [List.length_take, cvL_len] at ht
  rw [nth_take (by omega), nth_cvL _ _ _ _ (by omega), nth_cvL _ _ _ _ (by omega)]
  refine emod_of_eqm ?_
  unfold cvS
  rw [padL_len _ _ (by omega), padL_len _ _ (by omega)]
  rw [S_short xs.length m _ (by omega) (fun i hi => S_nil fun j _ => by unfold cvT; rw [pad_nth, nth_out xs i hi]; simp)]
  refine S_eqm fun i hi => ?_
  rw [S_short ys.length m _ (by omega) (fun j hj => by unfold cvT; rw [pad_nth ys, nth_out ys j hj]; simp)]
  refine S_eqm fun j hj => ?_
  unfold cvT
  rw [Nat.mod_eq_of_lt (by omega), Nat.mod_eq_of_lt (by omega), pad_nth, pad_nth]
  split
  · exact (Eqm.mod _).mul (Eqm.mod _)
  · exact rfl' _
end Go.Proofs.YtlnlijeamflpiaaGreat

namespace Go.Proofs.YtlnlijeamflpiaaGreat
open Go.RowKit Sm
set_option linter.unusedVariables false
set_option linter.unusedSimpArgs false
set_option maxRecDepth 100000
theorem sz_top : hasSz ((16777216 : Nat) : Int) = true := by decide +kernel
def szF : Nat → Nat → Nat
  | 0, n => n
  | f + 1, n => if hasSz (n : Int) = true then n else szF f (n + 1)
/-- The least size that is not below n. -/
def szN (n : Nat) : Nat := szF (16777216 - n) n
theorem szN_yes {n : Nat} (h : hasSz (n : Int) = true) : szN n = n := by
  unfold szN
  cases h2 : 16777216 - n with
  | zero => rfl
  | succ f => unfold szF; rw [if_pos h]
theorem szN_no {n : Nat} (h : hasSz (n : Int) = false) (hn : n ≤ 16777216) : n < 16777216 ∧ szN n = szN (n + 1) := by
  have hlt : n < 16777216 := by
    rcases Nat.lt_or_ge n 16777216 with h1 | h1
    · exact h1
    · have e : n = 16777216 := by omega
      subst e
      rw [sz_top] at h; cases h
  refine ⟨hlt, ?_⟩
  unfold szN
  rw [show 16777216 - n = (16777216 - (n + 1)) + 1 by omega]
  show (if hasSz (n : Int) = true then n else szF (16777216 - (n + 1)) (n + 1)) = _
  rw [if_neg (by rw [h]; simp)]
theorem szF_ok : ∀ (f n : Nat), n + f = 16777216 → n ≤ szF f n ∧ szF f n ≤ 16777216 ∧ hasSz (szF f n : Int) = true
  | 0, n, h => by
    have e : n = 16777216 := by omega
    subst e
    exact ⟨Nat.le_refl _, Nat.le_refl _, sz_top⟩
  | f + 1, n, h => by
    unfold szF
    by_cases h1 : hasSz (n : Int) = true
    · rw [if_pos h1]; exact ⟨Nat.le_refl _, by omega, h1⟩
    · rw [if_neg h1]
      have := szF_ok f (n + 1) (by omega)
      exact ⟨by omega, this.2⟩
theorem szN_ok {n : Nat} (hn : n ≤ 16777216) : n ≤ szN n ∧ szN n ≤ 16777216 ∧ hasSz (szN n : Int) = true := szF_ok _ _ (by omega)
end Go.Proofs.YtlnlijeamflpiaaGreat

