/- Contracts: where a tree is wrong. The program. -/
import Derived.Test.YtncikklhchimdaaValB
import Derived.ArgAppend
namespace Go.Proofs.Ytncikklhchimdaa
open Go.RowKit
set_option linter.unusedVariables false
set_option linter.unusedSimpArgs false
set_option maxRecDepth 100000
set_option maxRecDepth 20000

theorem box_any (W : World) (cs : Array Value) (T : TypeId) : ∃ W', W.alloc (.cells cs T) = W' ∧ Below W.heap.size W W' ∧ W'.heap[W.heap.size]? = some (.cells cs T (0, 0)) :=
  ⟨_, rfl, (Below.refl _ _).alloc (Nat.le_refl _) _, block_new rfl⟩

/-- append of one number to a row of which nothing but its numbers is known, cut to its length: always a new row. -/
theorem wp_append_int {P : Program} {w : World} {o : Oper} {a : Act} {K : Act → World → Prop} {Q : Exit → Act → World → Prop} (s x : Operand) (t : TypeId) (hop : o.op = Op.call { callee := Callee.builtin Builtin.append, args := #[s, x], argTypes := #[t, t] })
    (e : TypeId) (i : TypeInfo) (h1 : P.underlying t = some (.slice e)) (h2 : P.info? e = some i) (h3 : i.zero = some (.int .i64 0)) (h4 : i.size = 1) (h5 : i.bytes = 8)
    (ao : Option Addr) (n : Nat) (xs : List Int) (hs : a.eval s = .slice ao n n) (hrow : Row .i64 w ao xs) (hn : xs.length = n) (hnone : ao = none → n = 0)
    (ad : Addr) (y : Int) (hy : fits .i64 y) (hx : a.eval x = .slice (some ad) 1 1) (hc : w.cell? ad = some (.int .i64 y)) (hl : n ≤ 16777216)
    (hK : ∀ g cap w', Row .i64 w' (some ⟨g, 0, none⟩) (xs ++ [y]) → n + 1 ≤ cap → Below w.heap.size w w' → K (a.put o.dst (.slice (some ⟨g, 0, none⟩) (n + 1) cap)) w') : o.wp P a w K Q := by
  have hwf : ∀ u ∈ xs ++ [y], fits .i64 u := fun u hu => by
    rcases List.mem_append.1 hu with h | h
    · exact hrow.wf u h
    · rw [List.mem_singleton.1 h]; exact hy
  have fin : ∀ v' w', w'.ownsRow w.heap.size e 1 v' (n + 1) (xs.map (Value.int .i64) ++ [.int .i64 y]) → w.grownBy w' none → ∃ g cap, v' = .slice (some ⟨g, 0, none⟩) (n + 1) cap ∧ Row .i64 w' (some ⟨g, 0, none⟩) (xs ++ [y]) ∧ n + 1 ≤ cap ∧ Below w.heap.size w w' := fun v' w' ho hg => by
    obtain ⟨a', cap, rfl, hcap, hga⟩ := own_slice2 ho
    obtain ⟨g, rfl⟩ := hga (by omega)
    refine ⟨g, cap, rfl, Row.of_own (n := n + 1) (base := w.heap.size) (e := e) (cap := cap) (by simp [hn]) (by omega) hwf ?_, hcap.1, ⟨hg.os, hg.tape, hg.output, hg.size, fun k hk => hg.block k hk (by simp)⟩⟩
    rw [List.map_append]; exact ho
  have hnew : ∀ j u, [Value.int .i64 y][j]? = some u → w.cell? (ad.add j) = some u := fun j u hj => by
    match j, hj with
    | 0, hj => simp at hj; subst hj; rw [show ad.add 0 = ad by simp [Addr.add]]; exact hc
  cases ao with
  | some b =>
    have holds : ∀ j u, (xs.map (Value.int .i64))[j]? = some u → w.cell? (b.add j) = some u := fun j u hj => by
      have hjl : j < xs.length := by simpa using (List.getElem?_eq_some_iff.1 hj).1
      obtain ⟨bb, off, hb, hcell⟩ := hrow.at (by omega)
      cases hb
      have h4 : u = .int .i64 (nth xs j) := by
        simp [hjl] at hj
        rw [← hj]; simp [nth, hjl]
      rw [h4, ← hcell j hjl]
      by_cases hj0 : j = 0
      · subst hj0; simp [Addr.add]
      · simp [Addr.add, hj0]
    obtain ⟨v', w', hrun, r1, r2⟩ := run_append_arg_grows (P := P) w t o.type e i (.int .i64 0) 1 8 h1 h2 h3 h4 h5 rfl (by omega) b n n (xs.map (Value.int .i64)) (by simp [hn]) holds ad 1 1 [.int .i64 y] rfl hnew (by omega) (by unfold maxLen; omega) (by omega)
    obtain ⟨g, cap, rfl, q1, q2, q3⟩ := fin v' w' r1 r2
    unfold Oper.wp
    simp [execOp, hop, resolve, invoke, builtin, hs, hx, hrun, Result.andThen]
    exact hK _ _ _ q1 q2 q3
  | none =>
    obtain rfl := hnone rfl
    obtain rfl : xs = [] := List.eq_nil_of_length_eq_zero hn
    obtain ⟨v', w', hrun, r1, r2, _⟩ := run_append_own (P := P) w w.heap.size t o.type e i (.int .i64 0) 1 8 h1 h2 h3 h4 h5 rfl (by omega) (.slice none 0 0) 0 [] (World.ownsRow_nil w _ e 1) ad 1 1 [.int .i64 y] rfl hnew (by intro u hu; simp at hu; subst hu; rfl) (by unfold maxLen; omega) (by omega) (Nat.le_refl _)
    obtain ⟨g, cap, rfl, q1, q2, q3⟩ := fin v' w' r1 r2
    unfold Oper.wp
    simp [execOp, hop, resolve, invoke, builtin, hs, hx, hrun, Result.andThen]
    exact hK _ _ _ q1 q2 q3
theorem step_append_int {P : Program} {w : World} {ops : Array Oper} {o : Oper} {a : Act} {K : Act → World → Prop} {Q : Exit → Act → World → Prop} {E : Prop} (hgd : o.guard = none) (s x : Operand) (t : TypeId) (hop : o.op = Op.call { callee := Callee.builtin Builtin.append, args := #[s, x], argTypes := #[t, t] })
    (e : TypeId) (i : TypeInfo) (h1 : P.underlying t = some (.slice e)) (h2 : P.info? e = some i) (h3 : i.zero = some (.int .i64 0)) (h4 : i.size = 1) (h5 : i.bytes = 8)
    (ao : Option Addr) (n : Nat) (xs : List Int) (hs : a.eval s = .slice ao n n) (hrow : Row .i64 w ao xs) (hn : xs.length = n) (hnone : ao = none → n = 0)
    (ad : Addr) (y : Int) (hy : fits .i64 y) (hx : a.eval x = .slice (some ad) 1 1) (hc : w.cell? ad = some (.int .i64 y)) (hl : n ≤ 16777216)
    (hK : ∀ g cap w', Row .i64 w' (some ⟨g, 0, none⟩) (xs ++ [y]) → n + 1 ≤ cap → Below w.heap.size w w' → K (a.put o.dst (.slice (some ⟨g, 0, none⟩) (n + 1) cap)) w') :
    if Region.wanted o (yielded ops a.tmps) = true then Oper.wp P o a w K Q else E := by
  have hw : Region.wanted o (yielded ops a.tmps) = true := by simp [Region.wanted, hgd]
  rw [if_pos hw]
  exact wp_append_int s x t hop e i h1 h2 h3 h4 h5 ao n xs hs hrow hn hnone ad y hy hx hc hl hK

/-- A result: a path (from ps on) and whether there is one. -/
def GivesWr (ps : List Int) (r : Option (List Int)) (w : World) (e : Ending) (w' : World) : Prop :=
  match r with
  | none => e = .returned (.tuple #[.slice none 0 0, .bool false]) ∧ Below w.heap.size w w'
  | some q => ∃ a l c, e = .returned (.tuple #[.slice a l c, .bool true]) ∧ (ps ++ q).length = l ∧ Row .i64 w' a (ps ++ q) ∧ OkCap a l c ∧ Below w.heap.size w w'
theorem GivesWr.from {ps : List Int} {r : Option (List Int)} {w wr : World} {e : Ending} {w' : World} (h : GivesWr ps r wr e w') (hb : Below w.heap.size w wr) : GivesWr ps r w e w' := by
  cases r with
  | none => exact ⟨h.1, chain hb h.2⟩
  | some q =>
    obtain ⟨a, l, c, h1, h2, h3, h4, h5⟩ := h
    exact ⟨a, l, c, h1, h2, h3, h4, chain hb h5⟩

namespace Tr
theorem wrongL_some {ks : List Tr} {j : Nat} {p : List Int} (h : j < ks.length) (hw : wrong (kid ks j) = some p) : wrongL j (ks.drop j) = some ((j : Int) :: p) := by
  rw [drop_kid h]; simp only [wrongL, hw]
theorem wrongL_none {ks : List Tr} {j : Nat} (h : j < ks.length) (hw : wrong (kid ks j) = none) : wrongL j (ks.drop j) = wrongL (j + 1) (ks.drop (j + 1)) := by
  rw [drop_kid h]; simp only [wrongL, hw]
theorem wrongL_end {ks : List Tr} {j : Nat} (h : ks.length ≤ j) : wrongL j (ks.drop j) = none := by
  rw [List.drop_of_length_le h]; simp only [wrongL]
end Tr

set_option maxHeartbeats 4000000 in
theorem valid_wrong (N : Nat) (hN : N ≤ 4194304) : ∀ (t : Tr) (k n : Int) (a : Option Addr) (m cap : Nat) (pa : Option Addr) (pn pc : Nat) (ps : List Int) (w : World) (F : Nat → Prop), t.size ≤ N → IsT w F k n a m cap t → Row .i64 w pa ps → ps.length = pn → OkCap pa pn pc → pn + t.size ≤ 8388608 →
    Calls Try.prog 58 #[.agg #[.int .i64 k, .int .i64 n, .slice a m cap], .slice pa pn pc] w (GivesWr ps t.wrong w) := by
  induction N with
  | zero => intro t k n a m cap pa pn pc ps w F h; have := Tr.size_pos t; omega
  | succ N ih =>
    intro t k n a m cap pa pn pc ps w F hs hT hp hpn hpc hpb
    obtain ⟨i0, hi, hz0, hz1, hz2⟩ := info_parts info_int
    have IH := Lib.hid (ih (by omega))
    clear ih
    have HT := Lib.hid hT
    have hm : m ≤ N := by
      have := Tr.len_le_sizeL t.kids
      rw [Tr.size_kids] at hs
      rw [hT.em]; omega
    have HS := Lib.hid hs
    have HP := Lib.hid hp
    have HPN := Lib.hid hpn
    have HPB := Lib.hid hpb
    have HPC := Lib.hid hpc
    obtain ⟨B, hB⟩ : ∃ B, nodeOk t = B := ⟨_, rfl⟩
    have HV : Hid (∀ W, Below w.heap.size w W → Calls Try.prog 21 #[.agg #[.int .i64 k, .int .i64 n, .slice a m cap]] W fun e w' => e = .returned (.bool B) ∧ Below W.heap.size W w') := fun W hb => by rw [← hB]; exact valid_Node t k n a m cap W F (hT.below hb)
    have HW : Hid (t.wrong = if B then Tr.wrongL 0 t.kids else some []) := by unfold Hid; rw [Tr.wrong_kids, hB]
    rw [HW.out]
    clear hT hs hp hpn hpb hpc hB HW
    cases B with
    | false =>
      rw [if_neg (by simp)]
      go_enter Try.func58, Try.ntmps58
      go_wp2_with fail
      refine (HV.out _ ((Below.refl _ _).alloc (Nat.le_refl _) _)).mono ?_; rintro e w1 ⟨rfl, hb1⟩
      have hb2 := chainA (Below.refl w.heap.size w) hb1
      have HB2 := Lib.hid hb2
      clear hb1 hb2
      go_wp2_with fail
      go_ret2
      exact ⟨pa, pn, pc, rfl, by rw [List.append_nil]; exact HPN.out, by rw [List.append_nil]; exact HP.out.below HB2.out, HPC.out, HB2.out⟩
    | true =>
      rw [if_pos rfl]
      obtain ⟨R, hR⟩ : ∃ R, Tr.wrongL 0 t.kids = R := ⟨_, rfl⟩
      rw [hR]
      have HR : Hid (Tr.wrongL 0 (t.kids.drop 0) = R) := hR
      clear hR
      go_enter Try.func58, Try.ntmps58
      go_wp2_with fail
      refine (HV.out _ ((Below.refl _ _).alloc (Nat.le_refl _) _)).mono ?_; rintro e w1 ⟨rfl, hb1⟩
      have hb2 := chainA (Below.refl w.heap.size w) hb1
      have hx := (hb1.block w.heap.size (by simp)).trans (block_new rfl)
      have x2 : w1.cell? ⟨w.heap.size, 2, none⟩ = some (.slice a m cap) := block_cell hx 2
      have HB2 := Lib.hid hb2
      clear hb1 hb2 hx
      go_wp2_with fail
      go_loopw [17] (fun i wr => ∃ j : Nat, j ≤ m ∧ i = .int .i64 j ∧ Hid (Tr.wrongL j (t.kids.drop j) = R) ∧ Below w.heap.size w wr) (fun i _ => m - (intOf i).toNat)
      case atStart => exact ⟨0, Nat.zero_le _, rfl, HR.out, HB2.out⟩
      case round =>
        obtain ⟨j, hj, rfl, HD, hbel⟩ := hrel
        by_cases hlt : j < m
        · obtain ⟨b, off, k', n', a', m', c', rfl, hF, hbl, h0, h1, h2, hT'⟩ := (HT.out.below hbel).kid j hlt
          have hj2 : j < t.kids.length := by rw [← HT.out.em]; exact hlt
          have hsz := Tr.size_kid t j hj2
          have hs1 : (Tr.kid t.kids j).size ≤ N := by have := HS.out; omega
          have hst0 := fun h => (Tr.wrongL_none hj2 h).symm.trans HD.out
          have hst1 := fun p h => HD.out.symm.trans (Tr.wrongL_some (p := p) hj2 h)
          obtain ⟨t', ht'⟩ : ∃ t', Tr.kid t.kids j = t' := ⟨_, rfl⟩
          rw [ht'] at hT' hs1 hst0 hst1 hsz
          have hpb' : pn + 1 + t'.size ≤ 8388608 := by have := HPB.out; omega
          have hjf : fits .i64 (j : Int) := fits_i64.2 (by omega)
          have CK : Hid (∀ W g c, Below wr.heap.size wr W → Row .i64 W (some ⟨g, 0, none⟩) (ps ++ [(j : Int)]) → pn + 1 ≤ c → Calls Try.prog 58 #[.agg #[.int .i64 k', .int .i64 n', .slice a' m' c'], .slice (some ⟨g, 0, none⟩) (pn + 1) c] W (GivesWr (ps ++ [(j : Int)]) t'.wrong W)) :=
            fun W g c hb hr hc => IH.out t' k' n' a' m' c' _ _ _ (ps ++ [(j : Int)]) W F hs1 (hT'.below hb) hr (by rw [List.length_append, HPN.out]; rfl) ⟨hc, fun h => by cases h⟩ hpb'
          have HJF := Lib.hid hjf
          have hpn8 : pn ≤ 16777216 := by omega
          have hsl : ∀ W, (Instr.slice 25 (.slice pa pn pc) none (some (.int .i64 (pn : Int))) (some (.int .i64 (pn : Int)))).run Try.prog W = .ok (.slice pa pn pn) W := fun W => by
            have hc := HPC.out.1
            rw [run_slice_hm W 25 pa pn pc (by kernel_rfl) .i64 .i64 (pn : Int) (pn : Int) (by omega) (by omega) (by omega)]
            cases pa <;> simp [go_sem, sliced, Addr.add]
          have HPW := Lib.hid (HP.out.below hbel)
          clear hT' hs1 hsz hj2 ht' hpb' hjf HD
          have HST0 := Lib.hid hst0
          have HST1 := Lib.hid hst1
          clear hst0 hst1
          have g1 : (0 : Int) ≤ (j : Int) := by omega
          have g2 : (j : Int) < (m : Int) := by omega
          obtain ⟨r, hwr⟩ : ∃ r, Tr.wrong t' = r := ⟨_, rfl⟩
          rw [hwr] at CK HST0 HST1
          clear hwr
          cases r with
          | none =>
            go_wp2_with fail
            obtain ⟨y, hW, hbx, hx⟩ := box_any wr #[.int .i64 k', .int .i64 n', .slice a' m' c'] 24
            rw [hW]
            have c0 : y.cell? ⟨wr.heap.size, 0, none⟩ = some (.int .i64 k') := block_cell hx 0
            have c1 : y.cell? ⟨wr.heap.size, 1, none⟩ = some (.int .i64 n') := block_cell hx 1
            have c2 : y.cell? ⟨wr.heap.size, 2, none⟩ = some (.slice a' m' c') := block_cell hx 2
            have HX := Lib.hid hx
            have HBX := Lib.hid hbx
            have hwl := block_lt hx
            have hb : Below y.heap.size y y.drew := (Below.refl _ _).drew
            clear hW hx hbx h0 h1 h2
            go_region_held3 (fun w' => w'.cell? ⟨wr.heap.size, 0, none⟩ = some (.int .i64 k') ∧ w'.cell? ⟨wr.heap.size, 1, none⟩ = some (.int .i64 n') ∧ w'.cell? ⟨wr.heap.size, 2, none⟩ = some (.slice a' m' c')) (first | exact ⟨c0, c1, c2⟩ | exact ⟨(hb.cell (p := ⟨wr.heap.size, 0, none⟩) hwl).trans c0, (hb.cell (p := ⟨wr.heap.size, 1, none⟩) hwl).trans c1, (hb.cell (p := ⟨wr.heap.size, 2, none⟩) hwl).trans c2⟩ | go_keep) ((first | (go_at_call 58; ((with_reducible refine (CK.out _ _ _ (chain HBX.out hb) hr hc).mono ?_); rintro e z ⟨rfl, hc2⟩; have hb := chain hb hc2)) | (refine step_append_int (by rfl) _ _ 25 (by rfl) 3 i0 Try.underlying25 hi hz0 hz1 hz2 pa pn ps (by rfl) (HPW.out.below (chain HBX.out ((Below.refl _ _).alloc (Nat.le_refl _) _).drew)) HPN.out (fun h => by have := HPC.out.2 h; have := HPC.out.1; omega) ⟨y.heap.size, 0, none⟩ (j : Int) HJF.out (by rfl) (one_new _ _ _) hpn8 ?_; intro g c w' hr hc hbw; have hb := chain ((Below.refl _ _).alloc (Nat.le_refl _) _).drew hbw)))
            have hbe : Below w.heap.size w z := chain (chain hbel HBX.out) hb
            have HBE := Lib.hid hbe
            clear hbe hb c0 c1 c2
            go_wp2_with fail
            go_roundw
            case rel => exact ⟨j + 1, by omega, by go_num, by first | exact HST0.out rfl | exact HST0.out trivial, HBE.out⟩
            case measure => simp [intOf]; omega
          | some q =>
            go_wp2_with fail
            obtain ⟨y, hW, hbx, hx⟩ := box_any wr #[.int .i64 k', .int .i64 n', .slice a' m' c'] 24
            rw [hW]
            have c0 : y.cell? ⟨wr.heap.size, 0, none⟩ = some (.int .i64 k') := block_cell hx 0
            have c1 : y.cell? ⟨wr.heap.size, 1, none⟩ = some (.int .i64 n') := block_cell hx 1
            have c2 : y.cell? ⟨wr.heap.size, 2, none⟩ = some (.slice a' m' c') := block_cell hx 2
            have HX := Lib.hid hx
            have HBX := Lib.hid hbx
            have hwl := block_lt hx
            have hb : Below y.heap.size y y.drew := (Below.refl _ _).drew
            clear hW hx hbx h0 h1 h2
            go_region_held3 (fun w' => w'.cell? ⟨wr.heap.size, 0, none⟩ = some (.int .i64 k') ∧ w'.cell? ⟨wr.heap.size, 1, none⟩ = some (.int .i64 n') ∧ w'.cell? ⟨wr.heap.size, 2, none⟩ = some (.slice a' m' c')) (first | exact ⟨c0, c1, c2⟩ | exact ⟨(hb.cell (p := ⟨wr.heap.size, 0, none⟩) hwl).trans c0, (hb.cell (p := ⟨wr.heap.size, 1, none⟩) hwl).trans c1, (hb.cell (p := ⟨wr.heap.size, 2, none⟩) hwl).trans c2⟩ | go_keep) ((first | (go_at_call 58; ((with_reducible refine (CK.out _ _ _ (chain HBX.out hb) hr hc).mono ?_); rintro e z ⟨a3, l3, c3, rfl, hl3, hr3, hc3, hc2⟩; have hb := chain hb hc2)) | (refine step_append_int (by rfl) _ _ 25 (by rfl) 3 i0 Try.underlying25 hi hz0 hz1 hz2 pa pn ps (by rfl) (HPW.out.below (chain HBX.out ((Below.refl _ _).alloc (Nat.le_refl _) _).drew)) HPN.out (fun h => by have := HPC.out.2 h; have := HPC.out.1; omega) ⟨y.heap.size, 0, none⟩ (j : Int) HJF.out (by rfl) (one_new _ _ _) hpn8 ?_; intro g c w' hr hc hbw; have hb := chain ((Below.refl _ _).alloc (Nat.le_refl _) _).drew hbw)))
            have hbe : Below w.heap.size w z := chain (chain hbel HBX.out) hb
            have HBE := Lib.hid hbe
            have HL3 := Lib.hid hl3
            have HR3 := Lib.hid hr3
            have HC3 := Lib.hid hc3
            clear hbe hb c0 c1 c2 hl3 hr3 hc3 hr hc
            go_wp2_with fail
            go_ret2
            rw [HST1.out q rfl]
            have e1 : ps ++ ((j : Int) :: q) = (ps ++ [(j : Int)]) ++ q := by simp
            exact ⟨a3, l3, c3, rfl, by rw [e1]; exact HL3.out, by rw [e1]; exact HR3.out, HC3.out, HBE.out⟩
        · have hjm : j = m := by omega
          have HE : Hid (R = none) := by unfold Hid; rw [← HD.out]; exact Tr.wrongL_end (by rw [← HT.out.em]; omega)
          clear HD
          go_wp2_with fail
          go_ret2
          show GivesWr ps R w _ _
          rw [HE.out]
          exact ⟨rfl, hbel⟩

theorem valid_Wrong (t : Tr) (k n : Int) (a : Option Addr) (m cap : Nat) (w : World) (F : Nat → Prop) (hs : t.size ≤ 4194304) (hT : IsT w F k n a m cap t) :
    Calls Try.prog 19 #[.agg #[.int .i64 k, .int .i64 n, .slice a m cap]] w (GivesWr [] t.wrong w) := by
  have CK : Hid (∀ W, Below w.heap.size w W → Calls Try.prog 58 #[.agg #[.int .i64 k, .int .i64 n, .slice a m cap], .slice none 0 0] W (GivesWr [] t.wrong W)) :=
    fun W hb => valid_wrong 4194304 (by omega) t k n a m cap none 0 0 [] W F hs (hT.below hb) (Row.nil _ _ _) rfl ⟨Nat.le_refl _, fun _ => rfl⟩ (by omega)
  obtain ⟨r, hr⟩ : ∃ r, t.wrong = r := ⟨_, rfl⟩
  rw [hr] at CK ⊢
  clear hT hs hr
  cases r with
  | none =>
    go_enter Try.func19, Try.ntmps19
    go_wp2_with fail
    refine (CK.out _ ((Below.refl _ _).alloc (Nat.le_refl _) _)).mono ?_; rintro e w1 ⟨rfl, hb1⟩
    go_wp2_with fail
    go_ret2
    exact ⟨rfl, chainA (Below.refl _ _) hb1⟩
  | some q =>
    go_enter Try.func19, Try.ntmps19
    go_wp2_with fail
    refine (CK.out _ ((Below.refl _ _).alloc (Nat.le_refl _) _)).mono ?_; rintro e w1 ⟨a1, l1, c1, rfl, hl1, hr1, hc1, hb1⟩
    have HL1 := Lib.hid hl1
    have HR1 := Lib.hid hr1
    have HC1 := Lib.hid hc1
    clear hl1 hr1 hc1
    go_wp2_with fail
    go_ret2
    exact ⟨a1, l1, c1, rfl, HL1.out, HR1.out, HC1.out, chainA (Below.refl _ _) hb1⟩
end Go.Proofs.Ytncikklhchimdaa
