/- Contracts: all names of a plan, by the reference. -/
import Derived.Test.YtncikklhchimdaaNeedE
import Derived.Maps.AppendAt
import Derived.Laws.AppendOwnNone
namespace Go.Proofs.Ytncikklhchimdaa
open Go.RowKit
set_option linter.unusedVariables false
set_option linter.unusedSimpArgs false
set_option maxRecDepth 100000
set_option maxRecDepth 20000

/-- append of a row that is owned (or of nothing) to a row that is owned. -/
theorem wpList_append_two {P : Program} (w : World) {ops : Array Oper} {rest : List Oper} {o : Oper} {a : Act} {Q : Exit → Act → World → Prop} (hgd : o.guard = none) (s x : Operand) (t : TypeId)
    (ho : o.op = .call { callee := .builtin .append, args := #[s, x], argTypes := #[t, t] })
    (base : Nat) (e : TypeId) (i : TypeInfo) (z : Value) (size bytes : Nat) (ht : P.underlying t = some (.slice e)) (hi : P.info? e = some i) (hz : i.zero = some z)
    (hsize : i.size = size) (hby : i.bytes = bytes) (hzs : z.cells.size = size) (hsz : 0 < size)
    (v : Value) (n : Nat) (xs : List Value) (hs : a.eval s = v) (hown : w.ownsRow base e size v n xs)
    (b2 : Nat) (v2 : Value) (m : Nat) (news : List Value) (hx : a.eval x = v2) (hsrc : w.ownsRow b2 e size v2 m news) (h1 : ∀ u ∈ news, u.oneCell' = true)
    (h63 : n + m ≤ maxLen) (hbytes : (n + m) * bytes ≤ 140737488355328) (hbase : base ≤ w.heap.size)
    (h : ∀ v' w', w'.ownsRow base e size v' (n + m) (xs ++ news) → w.grownBy w' v.ownBlock → (v'.ownBlock = v.ownBlock ∨ v'.ownBlock = some w.heap.size) → wpList P ops Q rest (a.put o.dst v') w') :
    wpList P ops Q (o :: rest) a w := by
  have hl := hsrc.1
  have hcells := fun g hg => hsrc.cells (g := g) hg
  rcases hsrc.2 with ⟨rfl, rfl⟩ | ⟨g, cap, cur, rfl, _, _, _, _, _, _⟩
  · have hn : news = [] := List.eq_nil_of_length_eq_zero (by simpa using hl)
    subst hn
    exact wpList_append_own_none hgd s x t ho base e i size ht hi v n xs hs hown hx (h v w (by simpa using hown) (World.grownBy.refl w _) (.inl rfl))
  · exact wpList_append_own_at w hgd s x t ho base e i z size bytes ht hi hz hsize hby hzs hsz v n xs hs hown ⟨g, 0, none⟩ m cap news hx hl (hcells g rfl) h1 h63 hbytes hbase fun v' w' h2 h3 _ h5 => h v' w' h2 h3 h5

theorem cellsN_one (xs : List Nm) : ∀ u ∈ cellsN xs, u.oneCell' = true := by
  intro u hu
  obtain ⟨x, _, hx⟩ := List.mem_flatMap.1 hu
  exact one_four _ _ _ _ u hx
/-- A result: names in a new row. -/
def GivesN (xs : List Nm) (w : World) (e : Ending) (w' : World) : Prop :=
  ∃ a cap, e = .returned (.slice a xs.length cap) ∧ w'.ownsRow w.heap.size 57 4 (.slice a xs.length cap) xs.length (cellsN xs) ∧ Below w.heap.size w w'
theorem cell_eight_new (w : World) (x y z u x' y' z' u' : Value) (t : TypeId) : ∀ j v, [x, y, z, u, x', y', z', u'][j]? = some v → (w.alloc (.cells #[x, y, z, u, x', y', z', u'] t)).cell? ((⟨w.heap.size, 0, none⟩ : Addr).add j) = some v := by
  intro j v hj
  match j, hj with
  | 0, hj => simp at hj; subst hj; simp [Addr.add]
  | 1, hj => simp at hj; subst hj; simp [Addr.add]
  | 2, hj => simp at hj; subst hj; simp [Addr.add]
  | 3, hj => simp at hj; subst hj; simp [Addr.add]
  | 4, hj => simp at hj; subst hj; simp [Addr.add]
  | 5, hj => simp at hj; subst hj; simp [Addr.add]
  | 6, hj => simp at hj; subst hj; simp [Addr.add]
  | 7, hj => simp at hj; subst hj; simp [Addr.add]
theorem one_eight (x y z u x' y' z' u' : Int) : ∀ v ∈ [Value.int .i64 x, Value.int .i64 y, Value.int .i64 z, Value.int .i64 u, Value.int .i64 x', Value.int .i64 y', Value.int .i64 z', Value.int .i64 u'], v.oneCell' = true := by
  intro v hv
  simp at hv
  rcases hv with rfl | rfl | rfl | rfl | rfl | rfl | rfl | rfl <;> rfl

set_option maxHeartbeats 16000000 in
theorem ref15_All (N : Nat) (hN : N ≤ 1048576) : ∀ (t : Tr) (k n : Int) (a : Option Addr) (m cap : Nat) (dir : Int) (w : World) (F : Nat → Prop), t.size ≤ N → IsT w F k n a m cap t → t.allOk → dir = 0 ∨ dir = 1 →
    Calls Try.prog 42 #[.agg #[.int .i64 k, .int .i64 n, .slice a m cap], .int .i64 dir] w (GivesN (t.names dir) w) := by
  obtain ⟨i0, hi, hz0, hz1, hz2⟩ := info_parts info_name
  induction N with
  | zero => intro t k n a m cap dir w F h; have := Tr.size_pos t; omega
  | succ N ih =>
    intro t k n a m cap dir w F hs hT hok hd
    have IH := Lib.hid (ih (by omega))
    clear ih
    have hn := (Tr.allOk_iff t).1 hok
    have HOK := Lib.hid hn.2
    have HT := Lib.hid hT
    have HS := Lib.hid hs
    have hm4 : m ≤ 1048576 := by
      have := Tr.len_le_sizeL t.kids
      rw [Tr.size_kids] at hs
      rw [hT.em]; omega
    have HLEN := Lib.hid hT.em
    have HNM : Hid (t.names dir = nmOwn k n (Tr.kid t.kids 0).num dir ++ Tr.namesL t.kids (nmBelow k dir)) := by unfold Hid; rw [Tr.names_kids, hT.ek, hT.en]
    have hd2 : nmBelow k dir = 0 ∨ nmBelow k dir = 1 := below_dir k dir hd
    obtain ⟨D, hD⟩ : ∃ x, nmBelow k dir = x := ⟨_, rfl⟩
    rw [hD] at hd2
    have hcs := node_cases hn.1
    rw [← hT.ek, ← hT.en, ← hT.em] at hcs
    have hkk : k = 1 ∨ k = 2 ∨ k = 3 ∨ k = 4 ∨ k = 5 ∨ k = 6 ∨ k = 7 := by rcases hcs with h | h | h | h | h | h <;> omega
    have hk0 : k = 7 → 0 < m ∧ ∃ b off, a = some ⟨b, off, none⟩ ∧ b < w.heap.size ∧ w.cell? ⟨b, off + 1, none⟩ = some (.int .i64 (Tr.kid t.kids 0).num) := fun hk7 => by
      have h1 : 0 < m := by rcases hcs with h | h | h | h | h | h <;> omega
      obtain ⟨b, off, e1, h2, h3, _⟩ := hT.knum 0 h1
      exact ⟨h1, b, off, e1, h2, by simpa using h3⟩
    obtain ⟨K0, hK0⟩ : ∃ x, (Tr.kid t.kids 0).num = x := ⟨_, rfl⟩
    rw [hK0, hD] at HNM
    rw [hK0] at hk0
    obtain ⟨own, hown⟩ : ∃ l, nmOwn k n K0 dir = l := ⟨_, rfl⟩
    rw [hown] at HNM
    rw [HNM.out]
    have hol : own.length ≤ 2 := by rw [← hown]; exact Tr.own_len _ _ _ _
    have IHK : Hid (∀ (j : Nat) (hj : j < m) (V : World), Below w.heap.size w V → ∃ b off k' n' a' m' c', a = some ⟨b, off, none⟩ ∧ b < V.heap.size ∧ V.cell? ⟨b, off + j * 3, none⟩ = some (.int .i64 k') ∧ V.cell? ⟨b, off + j * 3 + 1, none⟩ = some (.int .i64 n') ∧ V.cell? ⟨b, off + j * 3 + 2, none⟩ = some (.slice a' m' c') ∧
        ∀ V', Below V.heap.size V V' → Calls Try.prog 42 #[.agg #[.int .i64 k', .int .i64 n', .slice a' m' c'], .int .i64 D] V' (GivesN ((Tr.kid t.kids j).names D) V')) := fun j hj V hV => by
      have hj2 : j < t.kids.length := by rw [← HLEN.out]; exact hj
      obtain ⟨b, off, k', n', a', m', c', e1, hF, hbl, h0, h1, h2, hT'⟩ := (HT.out.below hV).kid j hj
      have hsz := Tr.size_kid t j hj2
      exact ⟨b, off, k', n', a', m', c', e1, hbl, h0, h1, h2, fun V' hb => IH.out (Tr.kid t.kids j) k' n' a' m' c' D V' F (by omega) (hT'.below hb) (HOK.out j hj2) hd2⟩
    have HTK : Hid (∀ j, j < m → own ++ Tr.namesL (t.kids.take (j + 1)) D = (own ++ Tr.namesL (t.kids.take j) D) ++ (Tr.kid t.kids j).names D) := fun j hj => by
      rw [Tr.take_kid (by rw [← HLEN.out]; exact hj), Tr.namesL_snoc, List.append_assoc]
    have HBD : Hid (∀ j, j ≤ m → (own ++ Tr.namesL (t.kids.take j) D).length ≤ 2097154) := fun j hj => by
      have h1 := Tr.namesL_len (t.kids.take j) D
      have h2 := Tr.sizeL_take t.kids j
      have h3 := Tr.size_kids t
      rw [List.length_append]; omega
    have HEND : Hid (Tr.namesL (t.kids.take m) D = Tr.namesL t.kids D) := by unfold Hid; rw [List.take_of_length_le (by have := HLEN.out; omega)]
    obtain ⟨W0, hW0, hb0, x0⟩ := box_any w #[.int .i64 k, .int .i64 n, .slice a m cap] 24
    have HW0 := Lib.hid hW0
    have HB := Lib.hid hb0
    have XD := Lib.hid x0
    have hsw := block_lt x0
    have fn := hT.fn
    clear hW0 hb0 x0 hT hs hok hn hcs hK0

    rcases hkk with rfl | rfl | rfl | rfl | rfl | rfl | rfl
    · skip
      have hown : [(1, n, 0, dir)] = own := by rw [← hown]; simp [nmOwn]
      obtain rfl : dir = D := by rw [← hD]; simp [nmBelow]
      clear hk0
      have hown := Lib.hid hown
      have hol2 := hol
      go_enter Try.func42, Try.ntmps42
      go_wp2_with (at_builtin; refine wpList_append_own _ rfl _ _ 52 rfl w.heap.size 57 i0 (.agg #[.int .i64 0, .int .i64 0, .int .i64 0, .int .i64 0]) 4 32 Try.underlying52 hi hz0 hz1 hz2 rfl (by decide) _ 0 [] rfl (World.ownsRow_nil _ _ _ _) ⟨w.heap.size + 1, 0, none⟩ 1 1 [.int .i64 1, .int .i64 n, .int .i64 0, .int .i64 dir] rfl rfl (by have := cell_four_new (w.alloc (.cells #[.int .i64 1, .int .i64 n, .slice a m cap] 24)) (.int .i64 1) (.int .i64 n) (.int .i64 0) (.int .i64 dir) 57; simpa using this) (one_four _ _ _ _) (by unfold maxLen; omega) (by omega) (by simp; omega) ?_)
      intro v' w3 ho3 hg3 _
      obtain ⟨a3, c3, rfl, _, _⟩ := own_slice2 ho3
      have HO1 : Hid (w3.ownsRow w.heap.size 57 4 (.slice a3 1 c3) 1 (cellsN [(1, n, 0, dir)])) := by unfold Hid; simpa [cellsN] using ho3
      have hg4 : (w.alloc (.cells #[.int .i64 1, .int .i64 n, .slice a m cap] 24)).grownBy w3 none := (World.grownBy_alloc _ _ _).trans hg3
      rw [HW0.out] at hg4
      have HB := Lib.hid (HB.out.grown hg4 (by have := HB.out.size; omega) (fun k hk => by cases hk))
      have XD := Lib.hid ((hg4.block _ (block_lt XD.out) (by simp)).trans XD.out)
      clear ho3 hg3 hg4
      have D0 : w3.cell? ⟨w.heap.size, 0, none⟩ = some (.int .i64 1) := block_cell XD.out 0
      have D1 : w3.cell? ⟨w.heap.size, 1, none⟩ = some (.int .i64 n) := block_cell XD.out 1
      have D2 : w3.cell? ⟨w.heap.size, 2, none⟩ = some (.slice a m cap) := block_cell XD.out 2
      go_wp2_with fail
      clear D0 D1 D2
      go_loopw [5, 7] (fun v i wr => ∃ (j L : Nat) (A : Option Addr) (c : Nat), j ≤ m ∧ i = .int .i64 j ∧ v = .slice A L c ∧ Hid (L = (own ++ Tr.namesL (t.kids.take j) dir).length) ∧ L ≤ 2097154 ∧ Hid (wr.ownsRow w.heap.size 57 4 (.slice A L c) L (cellsN (own ++ Tr.namesL (t.kids.take j) dir))) ∧ Hid (Below w.heap.size w wr) ∧ Hid (wr.heap[w.heap.size]? = some (.cells #[.int .i64 1, .int .i64 n, .slice a m cap] 24 (0, 0)))) (fun _ i _ => m - (intOf i).toNat)
      case atStart => exact ⟨0, 1, a3, c3, Nat.zero_le _, rfl, rfl, by unfold Hid; rw [← hown.out]; rfl, by omega, by unfold Hid; rw [← hown.out]; simpa [Tr.namesL] using HO1.out, HB.out, XD.out⟩
      case round =>
        obtain ⟨j, L, A, c, hj, rfl, rfl, HL, hL, HO, HB, XD⟩ := hrel
        have d2 : wr.cell? ⟨w.heap.size, 2, none⟩ = some (.slice a m cap) := block_cell XD.out 2
        by_cases hlt : j < m
        · obtain ⟨b, off, k', n', a', m', c', hab, hbl, h0, h1, h2, hcall⟩ := IHK.out j hlt wr HB.out
          subst hab
          have HCALL := Lib.hid (hcall wr (Below.refl _ _))
          have i0' : (0 : Int) ≤ (j : Int) := by omega
          have i1' : (j : Int) < (m : Int) := by omega
          have HTJ := Lib.hid (HTK.out j hlt)
          have hbd := HBD.out (j + 1) (by omega)
          rw [HTJ.out, List.length_append, ← HL.out] at hbd
          have HBJ := Lib.hid hbd
          have hbs := HB.out.size
          clear hcall hbd
          go_wp2_with fail
          refine HCALL.out.mono ?_; rintro e w2 ⟨a2, c2, rfl, ho2, hb2⟩
          obtain ⟨M, hM⟩ : ∃ M, ((Tr.kid t.kids j).names dir).length = M := ⟨_, rfl⟩
          rw [hM] at ho2 HBJ ⊢
          have HM := Lib.hid hM
          have hLM : L + M ≤ 2097154 := HBJ.out
          have HO2 := Lib.hid ho2
          have HO1 := Lib.hid (own_later3 HO.out hb2)
          have hs2 := hb2.size
          have HBB := Lib.hid (chain HB.out hb2)
          have XX := Lib.hid ((hb2.block _ (block_lt XD.out)).trans XD.out)
          clear hM ho2 hb2 h0 h1 h2 d2
          go_wp2_with (at_builtin; refine wpList_append_two _ rfl _ _ 52 rfl w.heap.size 57 i0 (.agg #[.int .i64 0, .int .i64 0, .int .i64 0, .int .i64 0]) 4 32 Try.underlying52 hi hz0 hz1 hz2 rfl (by decide) _ L _ rfl HO1.out _ _ M _ rfl HO2.out (cellsN_one _) (by unfold maxLen; omega) (by omega) (by omega) ?_)
          intro v' w3 ho3 hg3 _
          obtain ⟨a3, c3, rfl, _, _⟩ := own_slice2 ho3
          have HO3 : Hid (w3.ownsRow w.heap.size 57 4 (.slice a3 (L + M) c3) (L + M) (cellsN (own ++ Tr.namesL (t.kids.take (j + 1)) dir))) := by
            unfold Hid
            rw [HTJ.out, cellsN_append (own ++ _)]
            exact ho3
          have HL3 : Hid (L + M = (own ++ Tr.namesL (t.kids.take (j + 1)) dir).length) := by unfold Hid; rw [HTJ.out, List.length_append, ← HL.out, HM.out]
          have HB3 := Lib.hid (HBB.out.grown hg3 (by omega) (own_lt3 HO1.out))
          have XX3 := Lib.hid ((hg3.block _ (block_lt XX.out) (Ne.symm (own_type HO1.out XX.out (by decide)))).trans XX.out)
          clear ho3 hg3
          go_wp2_with fail
          go_roundw
          case rel => exact ⟨j + 1, L + M, a3, c3, by omega, by go_num, rfl, HL3.out, hLM, HO3.out, HB3.out, XX3.out⟩
          case measure => simp [intOf]; omega
        · obtain rfl : j = m := by omega
          have hE : (own ++ Tr.namesL (t.kids.take j) dir) = own ++ Tr.namesL t.kids dir := by rw [HEND.out]
          have HE := Lib.hid hE
          clear hE
          go_wp2_with fail
          go_ret
          refine ⟨A, c, ?_, ?_, HB.out⟩
          · rw [← HE.out, ← HL.out]; rfl
          · rw [← HE.out, ← HL.out]; exact HO.out
    · skip
      have hown : [] = own := by rw [← hown]; simp [nmOwn]
      obtain rfl : dir = D := by rw [← hD]; simp [nmBelow]
      clear hk0
      have hown := Lib.hid hown
      have hol2 := hol
      go_enter Try.func42, Try.ntmps42
      go_wp2_with fail
      try rw [HW0.out]
      have HO1 : Hid (W0.ownsRow w.heap.size 57 4 (.slice none 0 0) 0 (cellsN [])) := World.ownsRow_nil _ _ _ _
      go_loopw [5, 7] (fun v i wr => ∃ (j L : Nat) (A : Option Addr) (c : Nat), j ≤ m ∧ i = .int .i64 j ∧ v = .slice A L c ∧ Hid (L = (own ++ Tr.namesL (t.kids.take j) dir).length) ∧ L ≤ 2097154 ∧ Hid (wr.ownsRow w.heap.size 57 4 (.slice A L c) L (cellsN (own ++ Tr.namesL (t.kids.take j) dir))) ∧ Hid (Below w.heap.size w wr) ∧ Hid (wr.heap[w.heap.size]? = some (.cells #[.int .i64 2, .int .i64 n, .slice a m cap] 24 (0, 0)))) (fun _ i _ => m - (intOf i).toNat)
      case atStart => exact ⟨0, 0, none, 0, Nat.zero_le _, rfl, rfl, by unfold Hid; rw [← hown.out]; rfl, by omega, by unfold Hid; rw [← hown.out]; simpa [Tr.namesL] using HO1.out, HB.out, XD.out⟩
      case round =>
        obtain ⟨j, L, A, c, hj, rfl, rfl, HL, hL, HO, HB, XD⟩ := hrel
        have d2 : wr.cell? ⟨w.heap.size, 2, none⟩ = some (.slice a m cap) := block_cell XD.out 2
        by_cases hlt : j < m
        · obtain ⟨b, off, k', n', a', m', c', hab, hbl, h0, h1, h2, hcall⟩ := IHK.out j hlt wr HB.out
          subst hab
          have HCALL := Lib.hid (hcall wr (Below.refl _ _))
          have i0' : (0 : Int) ≤ (j : Int) := by omega
          have i1' : (j : Int) < (m : Int) := by omega
          have HTJ := Lib.hid (HTK.out j hlt)
          have hbd := HBD.out (j + 1) (by omega)
          rw [HTJ.out, List.length_append, ← HL.out] at hbd
          have HBJ := Lib.hid hbd
          have hbs := HB.out.size
          clear hcall hbd
          go_wp2_with fail
          refine HCALL.out.mono ?_; rintro e w2 ⟨a2, c2, rfl, ho2, hb2⟩
          obtain ⟨M, hM⟩ : ∃ M, ((Tr.kid t.kids j).names dir).length = M := ⟨_, rfl⟩
          rw [hM] at ho2 HBJ ⊢
          have HM := Lib.hid hM
          have hLM : L + M ≤ 2097154 := HBJ.out
          have HO2 := Lib.hid ho2
          have HO1 := Lib.hid (own_later3 HO.out hb2)
          have hs2 := hb2.size
          have HBB := Lib.hid (chain HB.out hb2)
          have XX := Lib.hid ((hb2.block _ (block_lt XD.out)).trans XD.out)
          clear hM ho2 hb2 h0 h1 h2 d2
          go_wp2_with (at_builtin; refine wpList_append_two _ rfl _ _ 52 rfl w.heap.size 57 i0 (.agg #[.int .i64 0, .int .i64 0, .int .i64 0, .int .i64 0]) 4 32 Try.underlying52 hi hz0 hz1 hz2 rfl (by decide) _ L _ rfl HO1.out _ _ M _ rfl HO2.out (cellsN_one _) (by unfold maxLen; omega) (by omega) (by omega) ?_)
          intro v' w3 ho3 hg3 _
          obtain ⟨a3, c3, rfl, _, _⟩ := own_slice2 ho3
          have HO3 : Hid (w3.ownsRow w.heap.size 57 4 (.slice a3 (L + M) c3) (L + M) (cellsN (own ++ Tr.namesL (t.kids.take (j + 1)) dir))) := by
            unfold Hid
            rw [HTJ.out, cellsN_append (own ++ _)]
            exact ho3
          have HL3 : Hid (L + M = (own ++ Tr.namesL (t.kids.take (j + 1)) dir).length) := by unfold Hid; rw [HTJ.out, List.length_append, ← HL.out, HM.out]
          have HB3 := Lib.hid (HBB.out.grown hg3 (by omega) (own_lt3 HO1.out))
          have XX3 := Lib.hid ((hg3.block _ (block_lt XX.out) (Ne.symm (own_type HO1.out XX.out (by decide)))).trans XX.out)
          clear ho3 hg3
          go_wp2_with fail
          go_roundw
          case rel => exact ⟨j + 1, L + M, a3, c3, by omega, by go_num, rfl, HL3.out, hLM, HO3.out, HB3.out, XX3.out⟩
          case measure => simp [intOf]; omega
        · obtain rfl : j = m := by omega
          have hE : (own ++ Tr.namesL (t.kids.take j) dir) = own ++ Tr.namesL t.kids dir := by rw [HEND.out]
          have HE := Lib.hid hE
          clear hE
          go_wp2_with fail
          go_ret
          refine ⟨A, c, ?_, ?_, HB.out⟩
          · rw [← HE.out, ← HL.out]; rfl
          · rw [← HE.out, ← HL.out]; exact HO.out
    · skip
      have hown : [(1, n, 0, dir)] = own := by rw [← hown]; simp [nmOwn]
      obtain rfl : dir = D := by rw [← hD]; simp [nmBelow]
      clear hk0
      have hown := Lib.hid hown
      have hol2 := hol
      go_enter Try.func42, Try.ntmps42
      go_wp2_with (at_builtin; refine wpList_append_own _ rfl _ _ 52 rfl w.heap.size 57 i0 (.agg #[.int .i64 0, .int .i64 0, .int .i64 0, .int .i64 0]) 4 32 Try.underlying52 hi hz0 hz1 hz2 rfl (by decide) _ 0 [] rfl (World.ownsRow_nil _ _ _ _) ⟨w.heap.size + 1, 0, none⟩ 1 1 [.int .i64 1, .int .i64 n, .int .i64 0, .int .i64 dir] rfl rfl (by have := cell_four_new (w.alloc (.cells #[.int .i64 3, .int .i64 n, .slice a m cap] 24)) (.int .i64 1) (.int .i64 n) (.int .i64 0) (.int .i64 dir) 57; simpa using this) (one_four _ _ _ _) (by unfold maxLen; omega) (by omega) (by simp; omega) ?_)
      intro v' w3 ho3 hg3 _
      obtain ⟨a3, c3, rfl, _, _⟩ := own_slice2 ho3
      have HO1 : Hid (w3.ownsRow w.heap.size 57 4 (.slice a3 1 c3) 1 (cellsN [(1, n, 0, dir)])) := by unfold Hid; simpa [cellsN] using ho3
      have hg4 : (w.alloc (.cells #[.int .i64 3, .int .i64 n, .slice a m cap] 24)).grownBy w3 none := (World.grownBy_alloc _ _ _).trans hg3
      rw [HW0.out] at hg4
      have HB := Lib.hid (HB.out.grown hg4 (by have := HB.out.size; omega) (fun k hk => by cases hk))
      have XD := Lib.hid ((hg4.block _ (block_lt XD.out) (by simp)).trans XD.out)
      clear ho3 hg3 hg4
      have D0 : w3.cell? ⟨w.heap.size, 0, none⟩ = some (.int .i64 3) := block_cell XD.out 0
      have D1 : w3.cell? ⟨w.heap.size, 1, none⟩ = some (.int .i64 n) := block_cell XD.out 1
      have D2 : w3.cell? ⟨w.heap.size, 2, none⟩ = some (.slice a m cap) := block_cell XD.out 2
      go_wp2_with fail
      clear D0 D1 D2
      go_loopw [5, 7] (fun v i wr => ∃ (j L : Nat) (A : Option Addr) (c : Nat), j ≤ m ∧ i = .int .i64 j ∧ v = .slice A L c ∧ Hid (L = (own ++ Tr.namesL (t.kids.take j) dir).length) ∧ L ≤ 2097154 ∧ Hid (wr.ownsRow w.heap.size 57 4 (.slice A L c) L (cellsN (own ++ Tr.namesL (t.kids.take j) dir))) ∧ Hid (Below w.heap.size w wr) ∧ Hid (wr.heap[w.heap.size]? = some (.cells #[.int .i64 3, .int .i64 n, .slice a m cap] 24 (0, 0)))) (fun _ i _ => m - (intOf i).toNat)
      case atStart => exact ⟨0, 1, a3, c3, Nat.zero_le _, rfl, rfl, by unfold Hid; rw [← hown.out]; rfl, by omega, by unfold Hid; rw [← hown.out]; simpa [Tr.namesL] using HO1.out, HB.out, XD.out⟩
      case round =>
        obtain ⟨j, L, A, c, hj, rfl, rfl, HL, hL, HO, HB, XD⟩ := hrel
        have d2 : wr.cell? ⟨w.heap.size, 2, none⟩ = some (.slice a m cap) := block_cell XD.out 2
        by_cases hlt : j < m
        · obtain ⟨b, off, k', n', a', m', c', hab, hbl, h0, h1, h2, hcall⟩ := IHK.out j hlt wr HB.out
          subst hab
          have HCALL := Lib.hid (hcall wr (Below.refl _ _))
          have i0' : (0 : Int) ≤ (j : Int) := by omega
          have i1' : (j : Int) < (m : Int) := by omega
          have HTJ := Lib.hid (HTK.out j hlt)
          have hbd := HBD.out (j + 1) (by omega)
          rw [HTJ.out, List.length_append, ← HL.out] at hbd
          have HBJ := Lib.hid hbd
          have hbs := HB.out.size
          clear hcall hbd
          go_wp2_with fail
          refine HCALL.out.mono ?_; rintro e w2 ⟨a2, c2, rfl, ho2, hb2⟩
          obtain ⟨M, hM⟩ : ∃ M, ((Tr.kid t.kids j).names dir).length = M := ⟨_, rfl⟩
          rw [hM] at ho2 HBJ ⊢
          have HM := Lib.hid hM
          have hLM : L + M ≤ 2097154 := HBJ.out
          have HO2 := Lib.hid ho2
          have HO1 := Lib.hid (own_later3 HO.out hb2)
          have hs2 := hb2.size
          have HBB := Lib.hid (chain HB.out hb2)
          have XX := Lib.hid ((hb2.block _ (block_lt XD.out)).trans XD.out)
          clear hM ho2 hb2 h0 h1 h2 d2
          go_wp2_with (at_builtin; refine wpList_append_two _ rfl _ _ 52 rfl w.heap.size 57 i0 (.agg #[.int .i64 0, .int .i64 0, .int .i64 0, .int .i64 0]) 4 32 Try.underlying52 hi hz0 hz1 hz2 rfl (by decide) _ L _ rfl HO1.out _ _ M _ rfl HO2.out (cellsN_one _) (by unfold maxLen; omega) (by omega) (by omega) ?_)
          intro v' w3 ho3 hg3 _
          obtain ⟨a3, c3, rfl, _, _⟩ := own_slice2 ho3
          have HO3 : Hid (w3.ownsRow w.heap.size 57 4 (.slice a3 (L + M) c3) (L + M) (cellsN (own ++ Tr.namesL (t.kids.take (j + 1)) dir))) := by
            unfold Hid
            rw [HTJ.out, cellsN_append (own ++ _)]
            exact ho3
          have HL3 : Hid (L + M = (own ++ Tr.namesL (t.kids.take (j + 1)) dir).length) := by unfold Hid; rw [HTJ.out, List.length_append, ← HL.out, HM.out]
          have HB3 := Lib.hid (HBB.out.grown hg3 (by omega) (own_lt3 HO1.out))
          have XX3 := Lib.hid ((hg3.block _ (block_lt XX.out) (Ne.symm (own_type HO1.out XX.out (by decide)))).trans XX.out)
          clear ho3 hg3
          go_wp2_with fail
          go_roundw
          case rel => exact ⟨j + 1, L + M, a3, c3, by omega, by go_num, rfl, HL3.out, hLM, HO3.out, HB3.out, XX3.out⟩
          case measure => simp [intOf]; omega
        · obtain rfl : j = m := by omega
          have hE : (own ++ Tr.namesL (t.kids.take j) dir) = own ++ Tr.namesL t.kids dir := by rw [HEND.out]
          have HE := Lib.hid hE
          clear hE
          go_wp2_with fail
          go_ret
          refine ⟨A, c, ?_, ?_, HB.out⟩
          · rw [← HE.out, ← HL.out]; rfl
          · rw [← HE.out, ← HL.out]; exact HO.out
    · skip
      have hown : [(1, n, 0, dir)] = own := by rw [← hown]; simp [nmOwn]
      obtain rfl : dir = D := by rw [← hD]; simp [nmBelow]
      clear hk0
      have hown := Lib.hid hown
      have hol2 := hol
      go_enter Try.func42, Try.ntmps42
      go_wp2_with (at_builtin; refine wpList_append_own _ rfl _ _ 52 rfl w.heap.size 57 i0 (.agg #[.int .i64 0, .int .i64 0, .int .i64 0, .int .i64 0]) 4 32 Try.underlying52 hi hz0 hz1 hz2 rfl (by decide) _ 0 [] rfl (World.ownsRow_nil _ _ _ _) ⟨w.heap.size + 1, 0, none⟩ 1 1 [.int .i64 1, .int .i64 n, .int .i64 0, .int .i64 dir] rfl rfl (by have := cell_four_new (w.alloc (.cells #[.int .i64 4, .int .i64 n, .slice a m cap] 24)) (.int .i64 1) (.int .i64 n) (.int .i64 0) (.int .i64 dir) 57; simpa using this) (one_four _ _ _ _) (by unfold maxLen; omega) (by omega) (by simp; omega) ?_)
      intro v' w3 ho3 hg3 _
      obtain ⟨a3, c3, rfl, _, _⟩ := own_slice2 ho3
      have HO1 : Hid (w3.ownsRow w.heap.size 57 4 (.slice a3 1 c3) 1 (cellsN [(1, n, 0, dir)])) := by unfold Hid; simpa [cellsN] using ho3
      have hg4 : (w.alloc (.cells #[.int .i64 4, .int .i64 n, .slice a m cap] 24)).grownBy w3 none := (World.grownBy_alloc _ _ _).trans hg3
      rw [HW0.out] at hg4
      have HB := Lib.hid (HB.out.grown hg4 (by have := HB.out.size; omega) (fun k hk => by cases hk))
      have XD := Lib.hid ((hg4.block _ (block_lt XD.out) (by simp)).trans XD.out)
      clear ho3 hg3 hg4
      have D0 : w3.cell? ⟨w.heap.size, 0, none⟩ = some (.int .i64 4) := block_cell XD.out 0
      have D1 : w3.cell? ⟨w.heap.size, 1, none⟩ = some (.int .i64 n) := block_cell XD.out 1
      have D2 : w3.cell? ⟨w.heap.size, 2, none⟩ = some (.slice a m cap) := block_cell XD.out 2
      go_wp2_with fail
      clear D0 D1 D2
      go_loopw [5, 7] (fun v i wr => ∃ (j L : Nat) (A : Option Addr) (c : Nat), j ≤ m ∧ i = .int .i64 j ∧ v = .slice A L c ∧ Hid (L = (own ++ Tr.namesL (t.kids.take j) dir).length) ∧ L ≤ 2097154 ∧ Hid (wr.ownsRow w.heap.size 57 4 (.slice A L c) L (cellsN (own ++ Tr.namesL (t.kids.take j) dir))) ∧ Hid (Below w.heap.size w wr) ∧ Hid (wr.heap[w.heap.size]? = some (.cells #[.int .i64 4, .int .i64 n, .slice a m cap] 24 (0, 0)))) (fun _ i _ => m - (intOf i).toNat)
      case atStart => exact ⟨0, 1, a3, c3, Nat.zero_le _, rfl, rfl, by unfold Hid; rw [← hown.out]; rfl, by omega, by unfold Hid; rw [← hown.out]; simpa [Tr.namesL] using HO1.out, HB.out, XD.out⟩
      case round =>
        obtain ⟨j, L, A, c, hj, rfl, rfl, HL, hL, HO, HB, XD⟩ := hrel
        have d2 : wr.cell? ⟨w.heap.size, 2, none⟩ = some (.slice a m cap) := block_cell XD.out 2
        by_cases hlt : j < m
        · obtain ⟨b, off, k', n', a', m', c', hab, hbl, h0, h1, h2, hcall⟩ := IHK.out j hlt wr HB.out
          subst hab
          have HCALL := Lib.hid (hcall wr (Below.refl _ _))
          have i0' : (0 : Int) ≤ (j : Int) := by omega
          have i1' : (j : Int) < (m : Int) := by omega
          have HTJ := Lib.hid (HTK.out j hlt)
          have hbd := HBD.out (j + 1) (by omega)
          rw [HTJ.out, List.length_append, ← HL.out] at hbd
          have HBJ := Lib.hid hbd
          have hbs := HB.out.size
          clear hcall hbd
          go_wp2_with fail
          refine HCALL.out.mono ?_; rintro e w2 ⟨a2, c2, rfl, ho2, hb2⟩
          obtain ⟨M, hM⟩ : ∃ M, ((Tr.kid t.kids j).names dir).length = M := ⟨_, rfl⟩
          rw [hM] at ho2 HBJ ⊢
          have HM := Lib.hid hM
          have hLM : L + M ≤ 2097154 := HBJ.out
          have HO2 := Lib.hid ho2
          have HO1 := Lib.hid (own_later3 HO.out hb2)
          have hs2 := hb2.size
          have HBB := Lib.hid (chain HB.out hb2)
          have XX := Lib.hid ((hb2.block _ (block_lt XD.out)).trans XD.out)
          clear hM ho2 hb2 h0 h1 h2 d2
          go_wp2_with (at_builtin; refine wpList_append_two _ rfl _ _ 52 rfl w.heap.size 57 i0 (.agg #[.int .i64 0, .int .i64 0, .int .i64 0, .int .i64 0]) 4 32 Try.underlying52 hi hz0 hz1 hz2 rfl (by decide) _ L _ rfl HO1.out _ _ M _ rfl HO2.out (cellsN_one _) (by unfold maxLen; omega) (by omega) (by omega) ?_)
          intro v' w3 ho3 hg3 _
          obtain ⟨a3, c3, rfl, _, _⟩ := own_slice2 ho3
          have HO3 : Hid (w3.ownsRow w.heap.size 57 4 (.slice a3 (L + M) c3) (L + M) (cellsN (own ++ Tr.namesL (t.kids.take (j + 1)) dir))) := by
            unfold Hid
            rw [HTJ.out, cellsN_append (own ++ _)]
            exact ho3
          have HL3 : Hid (L + M = (own ++ Tr.namesL (t.kids.take (j + 1)) dir).length) := by unfold Hid; rw [HTJ.out, List.length_append, ← HL.out, HM.out]
          have HB3 := Lib.hid (HBB.out.grown hg3 (by omega) (own_lt3 HO1.out))
          have XX3 := Lib.hid ((hg3.block _ (block_lt XX.out) (Ne.symm (own_type HO1.out XX.out (by decide)))).trans XX.out)
          clear ho3 hg3
          go_wp2_with fail
          go_roundw
          case rel => exact ⟨j + 1, L + M, a3, c3, by omega, by go_num, rfl, HL3.out, hLM, HO3.out, HB3.out, XX3.out⟩
          case measure => simp [intOf]; omega
        · obtain rfl : j = m := by omega
          have hE : (own ++ Tr.namesL (t.kids.take j) dir) = own ++ Tr.namesL t.kids dir := by rw [HEND.out]
          have HE := Lib.hid hE
          clear hE
          go_wp2_with fail
          go_ret
          refine ⟨A, c, ?_, ?_, HB.out⟩
          · rw [← HE.out, ← HL.out]; rfl
          · rw [← HE.out, ← HL.out]; exact HO.out
    · skip
      have hown : [] = own := by rw [← hown]; simp [nmOwn]
      obtain rfl : dir = D := by rw [← hD]; simp [nmBelow]
      clear hk0
      have hown := Lib.hid hown
      have hol2 := hol
      go_enter Try.func42, Try.ntmps42
      go_wp2_with fail
      try rw [HW0.out]
      have HO1 : Hid (W0.ownsRow w.heap.size 57 4 (.slice none 0 0) 0 (cellsN [])) := World.ownsRow_nil _ _ _ _
      go_loopw [5, 7] (fun v i wr => ∃ (j L : Nat) (A : Option Addr) (c : Nat), j ≤ m ∧ i = .int .i64 j ∧ v = .slice A L c ∧ Hid (L = (own ++ Tr.namesL (t.kids.take j) dir).length) ∧ L ≤ 2097154 ∧ Hid (wr.ownsRow w.heap.size 57 4 (.slice A L c) L (cellsN (own ++ Tr.namesL (t.kids.take j) dir))) ∧ Hid (Below w.heap.size w wr) ∧ Hid (wr.heap[w.heap.size]? = some (.cells #[.int .i64 5, .int .i64 n, .slice a m cap] 24 (0, 0)))) (fun _ i _ => m - (intOf i).toNat)
      case atStart => exact ⟨0, 0, none, 0, Nat.zero_le _, rfl, rfl, by unfold Hid; rw [← hown.out]; rfl, by omega, by unfold Hid; rw [← hown.out]; simpa [Tr.namesL] using HO1.out, HB.out, XD.out⟩
      case round =>
        obtain ⟨j, L, A, c, hj, rfl, rfl, HL, hL, HO, HB, XD⟩ := hrel
        have d2 : wr.cell? ⟨w.heap.size, 2, none⟩ = some (.slice a m cap) := block_cell XD.out 2
        by_cases hlt : j < m
        · obtain ⟨b, off, k', n', a', m', c', hab, hbl, h0, h1, h2, hcall⟩ := IHK.out j hlt wr HB.out
          subst hab
          have HCALL := Lib.hid (hcall wr (Below.refl _ _))
          have i0' : (0 : Int) ≤ (j : Int) := by omega
          have i1' : (j : Int) < (m : Int) := by omega
          have HTJ := Lib.hid (HTK.out j hlt)
          have hbd := HBD.out (j + 1) (by omega)
          rw [HTJ.out, List.length_append, ← HL.out] at hbd
          have HBJ := Lib.hid hbd
          have hbs := HB.out.size
          clear hcall hbd
          go_wp2_with fail
          refine HCALL.out.mono ?_; rintro e w2 ⟨a2, c2, rfl, ho2, hb2⟩
          obtain ⟨M, hM⟩ : ∃ M, ((Tr.kid t.kids j).names dir).length = M := ⟨_, rfl⟩
          rw [hM] at ho2 HBJ ⊢
          have HM := Lib.hid hM
          have hLM : L + M ≤ 2097154 := HBJ.out
          have HO2 := Lib.hid ho2
          have HO1 := Lib.hid (own_later3 HO.out hb2)
          have hs2 := hb2.size
          have HBB := Lib.hid (chain HB.out hb2)
          have XX := Lib.hid ((hb2.block _ (block_lt XD.out)).trans XD.out)
          clear hM ho2 hb2 h0 h1 h2 d2
          go_wp2_with (at_builtin; refine wpList_append_two _ rfl _ _ 52 rfl w.heap.size 57 i0 (.agg #[.int .i64 0, .int .i64 0, .int .i64 0, .int .i64 0]) 4 32 Try.underlying52 hi hz0 hz1 hz2 rfl (by decide) _ L _ rfl HO1.out _ _ M _ rfl HO2.out (cellsN_one _) (by unfold maxLen; omega) (by omega) (by omega) ?_)
          intro v' w3 ho3 hg3 _
          obtain ⟨a3, c3, rfl, _, _⟩ := own_slice2 ho3
          have HO3 : Hid (w3.ownsRow w.heap.size 57 4 (.slice a3 (L + M) c3) (L + M) (cellsN (own ++ Tr.namesL (t.kids.take (j + 1)) dir))) := by
            unfold Hid
            rw [HTJ.out, cellsN_append (own ++ _)]
            exact ho3
          have HL3 : Hid (L + M = (own ++ Tr.namesL (t.kids.take (j + 1)) dir).length) := by unfold Hid; rw [HTJ.out, List.length_append, ← HL.out, HM.out]
          have HB3 := Lib.hid (HBB.out.grown hg3 (by omega) (own_lt3 HO1.out))
          have XX3 := Lib.hid ((hg3.block _ (block_lt XX.out) (Ne.symm (own_type HO1.out XX.out (by decide)))).trans XX.out)
          clear ho3 hg3
          go_wp2_with fail
          go_roundw
          case rel => exact ⟨j + 1, L + M, a3, c3, by omega, by go_num, rfl, HL3.out, hLM, HO3.out, HB3.out, XX3.out⟩
          case measure => simp [intOf]; omega
        · obtain rfl : j = m := by omega
          have hE : (own ++ Tr.namesL (t.kids.take j) dir) = own ++ Tr.namesL t.kids dir := by rw [HEND.out]
          have HE := Lib.hid hE
          clear hE
          go_wp2_with fail
          go_ret
          refine ⟨A, c, ?_, ?_, HB.out⟩
          · rw [← HE.out, ← HL.out]; rfl
          · rw [← HE.out, ← HL.out]; exact HO.out
    · skip
      have hown : [(3, n, 0, dir)] = own := by rw [← hown]; simp [nmOwn]
      obtain rfl : D = 0 := by rw [← hD]; simp [nmBelow]
      clear hk0
      have hown := Lib.hid hown
      have hol2 := hol
      go_enter Try.func42, Try.ntmps42
      go_wp2_with (at_builtin; refine wpList_append_own _ rfl _ _ 52 rfl w.heap.size 57 i0 (.agg #[.int .i64 0, .int .i64 0, .int .i64 0, .int .i64 0]) 4 32 Try.underlying52 hi hz0 hz1 hz2 rfl (by decide) _ 0 [] rfl (World.ownsRow_nil _ _ _ _) ⟨w.heap.size + 1, 0, none⟩ 1 1 [.int .i64 3, .int .i64 n, .int .i64 0, .int .i64 dir] rfl rfl (by have := cell_four_new (w.alloc (.cells #[.int .i64 6, .int .i64 n, .slice a m cap] 24)) (.int .i64 3) (.int .i64 n) (.int .i64 0) (.int .i64 dir) 57; simpa using this) (one_four _ _ _ _) (by unfold maxLen; omega) (by omega) (by simp; omega) ?_)
      intro v' w3 ho3 hg3 _
      obtain ⟨a3, c3, rfl, _, _⟩ := own_slice2 ho3
      have HO1 : Hid (w3.ownsRow w.heap.size 57 4 (.slice a3 1 c3) 1 (cellsN [(3, n, 0, dir)])) := by unfold Hid; simpa [cellsN] using ho3
      have hg4 : (w.alloc (.cells #[.int .i64 6, .int .i64 n, .slice a m cap] 24)).grownBy w3 none := (World.grownBy_alloc _ _ _).trans hg3
      rw [HW0.out] at hg4
      have HB := Lib.hid (HB.out.grown hg4 (by have := HB.out.size; omega) (fun k hk => by cases hk))
      have XD := Lib.hid ((hg4.block _ (block_lt XD.out) (by simp)).trans XD.out)
      clear ho3 hg3 hg4
      have D0 : w3.cell? ⟨w.heap.size, 0, none⟩ = some (.int .i64 6) := block_cell XD.out 0
      have D1 : w3.cell? ⟨w.heap.size, 1, none⟩ = some (.int .i64 n) := block_cell XD.out 1
      have D2 : w3.cell? ⟨w.heap.size, 2, none⟩ = some (.slice a m cap) := block_cell XD.out 2
      go_wp2_with fail
      clear D0 D1 D2
      go_loopw [5, 7] (fun v i wr => ∃ (j L : Nat) (A : Option Addr) (c : Nat), j ≤ m ∧ i = .int .i64 j ∧ v = .slice A L c ∧ Hid (L = (own ++ Tr.namesL (t.kids.take j) 0).length) ∧ L ≤ 2097154 ∧ Hid (wr.ownsRow w.heap.size 57 4 (.slice A L c) L (cellsN (own ++ Tr.namesL (t.kids.take j) 0))) ∧ Hid (Below w.heap.size w wr) ∧ Hid (wr.heap[w.heap.size]? = some (.cells #[.int .i64 6, .int .i64 n, .slice a m cap] 24 (0, 0)))) (fun _ i _ => m - (intOf i).toNat)
      case atStart => exact ⟨0, 1, a3, c3, Nat.zero_le _, rfl, rfl, by unfold Hid; rw [← hown.out]; rfl, by omega, by unfold Hid; rw [← hown.out]; simpa [Tr.namesL] using HO1.out, HB.out, XD.out⟩
      case round =>
        obtain ⟨j, L, A, c, hj, rfl, rfl, HL, hL, HO, HB, XD⟩ := hrel
        have d2 : wr.cell? ⟨w.heap.size, 2, none⟩ = some (.slice a m cap) := block_cell XD.out 2
        by_cases hlt : j < m
        · obtain ⟨b, off, k', n', a', m', c', hab, hbl, h0, h1, h2, hcall⟩ := IHK.out j hlt wr HB.out
          subst hab
          have HCALL := Lib.hid (hcall wr (Below.refl _ _))
          have i0' : (0 : Int) ≤ (j : Int) := by omega
          have i1' : (j : Int) < (m : Int) := by omega
          have HTJ := Lib.hid (HTK.out j hlt)
          have hbd := HBD.out (j + 1) (by omega)
          rw [HTJ.out, List.length_append, ← HL.out] at hbd
          have HBJ := Lib.hid hbd
          have hbs := HB.out.size
          clear hcall hbd
          go_wp2_with fail
          refine HCALL.out.mono ?_; rintro e w2 ⟨a2, c2, rfl, ho2, hb2⟩
          obtain ⟨M, hM⟩ : ∃ M, ((Tr.kid t.kids j).names 0).length = M := ⟨_, rfl⟩
          rw [hM] at ho2 HBJ ⊢
          have HM := Lib.hid hM
          have hLM : L + M ≤ 2097154 := HBJ.out
          have HO2 := Lib.hid ho2
          have HO1 := Lib.hid (own_later3 HO.out hb2)
          have hs2 := hb2.size
          have HBB := Lib.hid (chain HB.out hb2)
          have XX := Lib.hid ((hb2.block _ (block_lt XD.out)).trans XD.out)
          clear hM ho2 hb2 h0 h1 h2 d2
          go_wp2_with (at_builtin; refine wpList_append_two _ rfl _ _ 52 rfl w.heap.size 57 i0 (.agg #[.int .i64 0, .int .i64 0, .int .i64 0, .int .i64 0]) 4 32 Try.underlying52 hi hz0 hz1 hz2 rfl (by decide) _ L _ rfl HO1.out _ _ M _ rfl HO2.out (cellsN_one _) (by unfold maxLen; omega) (by omega) (by omega) ?_)
          intro v' w3 ho3 hg3 _
          obtain ⟨a3, c3, rfl, _, _⟩ := own_slice2 ho3
          have HO3 : Hid (w3.ownsRow w.heap.size 57 4 (.slice a3 (L + M) c3) (L + M) (cellsN (own ++ Tr.namesL (t.kids.take (j + 1)) 0))) := by
            unfold Hid
            rw [HTJ.out, cellsN_append (own ++ _)]
            exact ho3
          have HL3 : Hid (L + M = (own ++ Tr.namesL (t.kids.take (j + 1)) 0).length) := by unfold Hid; rw [HTJ.out, List.length_append, ← HL.out, HM.out]
          have HB3 := Lib.hid (HBB.out.grown hg3 (by omega) (own_lt3 HO1.out))
          have XX3 := Lib.hid ((hg3.block _ (block_lt XX.out) (Ne.symm (own_type HO1.out XX.out (by decide)))).trans XX.out)
          clear ho3 hg3
          go_wp2_with fail
          go_roundw
          case rel => exact ⟨j + 1, L + M, a3, c3, by omega, by go_num, rfl, HL3.out, hLM, HO3.out, HB3.out, XX3.out⟩
          case measure => simp [intOf]; omega
        · obtain rfl : j = m := by omega
          have hE : (own ++ Tr.namesL (t.kids.take j) 0) = own ++ Tr.namesL t.kids 0 := by rw [HEND.out]
          have HE := Lib.hid hE
          clear hE
          go_wp2_with fail
          go_ret
          refine ⟨A, c, ?_, ?_, HB.out⟩
          · rw [← HE.out, ← HL.out]; rfl
          · rw [← HE.out, ← HL.out]; exact HO.out
    · skip
      have hown : [(2, n, 0, dir), (4, n, K0, dir)] = own := by rw [← hown]; simp [nmOwn]
      obtain rfl : D = 0 := by rw [← hD]; simp [nmBelow]
      obtain ⟨hm0, b0, o0, rfl, hbl0, hkz⟩ := hk0 rfl
      have n0 := (HB.out.cell (p := ⟨b0, o0 + 1, none⟩) hbl0).trans hkz
      clear hk0 hkz
      have hown := Lib.hid hown
      have hol2 := hol
      have D0 : W0.cell? ⟨w.heap.size, 0, none⟩ = some (.int .i64 7) := block_cell XD.out 0
      have D1 : W0.cell? ⟨w.heap.size, 1, none⟩ = some (.int .i64 n) := block_cell XD.out 1
      have D2 : W0.cell? ⟨w.heap.size, 2, none⟩ = some (.slice (some ⟨b0, o0, none⟩) m cap) := block_cell XD.out 2
      go_enter Try.func42, Try.ntmps42
      go_wp2_with fail
      rw [HW0.out]
      have hb0l : b0 < W0.heap.size := Nat.lt_of_lt_of_le hbl0 HB.out.size
      go_region_held3 (fun w' => w'.cell? ⟨w.heap.size, 0, none⟩ = some (.int .i64 7) ∧ w'.cell? ⟨w.heap.size, 1, none⟩ = some (.int .i64 n) ∧ w'.cell? ⟨w.heap.size, 2, none⟩ = some (.slice (some ⟨b0, o0, none⟩) m cap) ∧ w'.cell? ⟨b0, o0 + 1, none⟩ = some (.int .i64 K0)) (first | exact ⟨D0, D1, D2, n0⟩ | exact ⟨(cell_past W0 _ ⟨w.heap.size, 0, none⟩ hsw).trans D0, (cell_past W0 _ ⟨w.heap.size, 1, none⟩ hsw).trans D1, (cell_past W0 _ ⟨w.heap.size, 2, none⟩ hsw).trans D2, (cell_past W0 _ ⟨b0, o0 + 1, none⟩ hb0l).trans n0⟩ | exact ⟨E0, E1, E2, E3⟩) ((refine step_append_lies _ (by rfl) _ _ 52 (by rfl) w.heap.size 57 i0 _ 4 32 Try.underlying52 hi hz0 hz1 hz2 rfl (by omega) _ 0 [] (by rfl) (World.ownsRow_nil _ _ _ _) ⟨W0.heap.size, 0, none⟩ 2 2 [.int .i64 2, .int .i64 n, .int .i64 0, .int .i64 dir, .int .i64 4, .int .i64 n, .int .i64 K0, .int .i64 dir] (by rfl) (by rfl) (fun j u h => cell_eight_new W0 _ _ _ _ _ _ _ _ _ j u h) (one_eight _ _ _ _ _ _ _ _) (by omega) (by unfold maxLen; omega) (by omega) (by have := HB.out.size; simp; omega) (W0.heap.size + 1) (by simp) ?_; intro g3 c3 w3 ho3 hg3 hat hlt3; have hg4 : W0.grownBy w3 none := (World.grownBy_alloc W0 _ none).trans ⟨hg3.os, hg3.tape, hg3.output, hg3.size, hg3.block⟩; have E0 := hg4.cell (a := ⟨w.heap.size, 0, none⟩) D0 (by simp); have E1 := hg4.cell (a := ⟨w.heap.size, 1, none⟩) D1 (by simp); have E2 := hg4.cell (a := ⟨w.heap.size, 2, none⟩) D2 (by simp); have E3 := hg4.cell (a := ⟨b0, o0 + 1, none⟩) n0 (by simp)))
      have HO1 : Hid (w3.ownsRow w.heap.size 57 4 (.slice (some ⟨g3, 0, none⟩) 2 c3) 2 (cellsN [(2, n, 0, dir), (4, n, K0, dir)])) := by unfold Hid; simpa [cellsN] using ho3
      have HB := Lib.hid (HB.out.grown hg4 HB.out.size (fun k hk => by cases hk))
      have XD := Lib.hid ((hg4.block _ (block_lt XD.out) (by simp)).trans XD.out)
      clear ho3 hg3 hg4 hat hlt3 E0 E1 E2 E3 D0 D1 D2 n0
      simp only [Nat.zero_add]
      have D0 : w3.cell? ⟨w.heap.size, 0, none⟩ = some (.int .i64 7) := block_cell XD.out 0
      have D1 : w3.cell? ⟨w.heap.size, 1, none⟩ = some (.int .i64 n) := block_cell XD.out 1
      have D2 : w3.cell? ⟨w.heap.size, 2, none⟩ = some (.slice (some ⟨b0, o0, none⟩) m cap) := block_cell XD.out 2
      go_wp2_with fail
      clear D0 D1 D2
      go_loopw [5, 7] (fun v i wr => ∃ (j L : Nat) (A : Option Addr) (c : Nat), j ≤ m ∧ i = .int .i64 j ∧ v = .slice A L c ∧ Hid (L = (own ++ Tr.namesL (t.kids.take j) 0).length) ∧ L ≤ 2097154 ∧ Hid (wr.ownsRow w.heap.size 57 4 (.slice A L c) L (cellsN (own ++ Tr.namesL (t.kids.take j) 0))) ∧ Hid (Below w.heap.size w wr) ∧ Hid (wr.heap[w.heap.size]? = some (.cells #[.int .i64 7, .int .i64 n, .slice (some ⟨b0, o0, none⟩) m cap] 24 (0, 0)))) (fun _ i _ => m - (intOf i).toNat)
      case atStart => exact ⟨0, 2, (some ⟨g3, 0, none⟩), c3, Nat.zero_le _, rfl, rfl, by unfold Hid; rw [← hown.out]; rfl, by omega, by unfold Hid; rw [← hown.out]; simpa [Tr.namesL] using HO1.out, HB.out, XD.out⟩
      case round =>
        obtain ⟨j, L, A, c, hj, rfl, rfl, HL, hL, HO, HB, XD⟩ := hrel
        have d2 : wr.cell? ⟨w.heap.size, 2, none⟩ = some (.slice (some ⟨b0, o0, none⟩) m cap) := block_cell XD.out 2
        by_cases hlt : j < m
        · obtain ⟨b, off, k', n', a', m', c', hab, hbl, h0, h1, h2, hcall⟩ := IHK.out j hlt wr HB.out
          simp only [Option.some.injEq, Addr.mk.injEq, and_true] at hab
          obtain ⟨rfl, rfl⟩ := hab
          have HCALL := Lib.hid (hcall wr (Below.refl _ _))
          have i0' : (0 : Int) ≤ (j : Int) := by omega
          have i1' : (j : Int) < (m : Int) := by omega
          have HTJ := Lib.hid (HTK.out j hlt)
          have hbd := HBD.out (j + 1) (by omega)
          rw [HTJ.out, List.length_append, ← HL.out] at hbd
          have HBJ := Lib.hid hbd
          have hbs := HB.out.size
          clear hcall hbd
          go_wp2_with fail
          refine HCALL.out.mono ?_; rintro e w2 ⟨a2, c2, rfl, ho2, hb2⟩
          obtain ⟨M, hM⟩ : ∃ M, ((Tr.kid t.kids j).names 0).length = M := ⟨_, rfl⟩
          rw [hM] at ho2 HBJ ⊢
          have HM := Lib.hid hM
          have hLM : L + M ≤ 2097154 := HBJ.out
          have HO2 := Lib.hid ho2
          have HO1 := Lib.hid (own_later3 HO.out hb2)
          have hs2 := hb2.size
          have HBB := Lib.hid (chain HB.out hb2)
          have XX := Lib.hid ((hb2.block _ (block_lt XD.out)).trans XD.out)
          clear hM ho2 hb2 h0 h1 h2 d2
          go_wp2_with (at_builtin; refine wpList_append_two _ rfl _ _ 52 rfl w.heap.size 57 i0 (.agg #[.int .i64 0, .int .i64 0, .int .i64 0, .int .i64 0]) 4 32 Try.underlying52 hi hz0 hz1 hz2 rfl (by decide) _ L _ rfl HO1.out _ _ M _ rfl HO2.out (cellsN_one _) (by unfold maxLen; omega) (by omega) (by omega) ?_)
          intro v' w3 ho3 hg3 _
          obtain ⟨a3, c3, rfl, _, _⟩ := own_slice2 ho3
          have HO3 : Hid (w3.ownsRow w.heap.size 57 4 (.slice a3 (L + M) c3) (L + M) (cellsN (own ++ Tr.namesL (t.kids.take (j + 1)) 0))) := by
            unfold Hid
            rw [HTJ.out, cellsN_append (own ++ _)]
            exact ho3
          have HL3 : Hid (L + M = (own ++ Tr.namesL (t.kids.take (j + 1)) 0).length) := by unfold Hid; rw [HTJ.out, List.length_append, ← HL.out, HM.out]
          have HB3 := Lib.hid (HBB.out.grown hg3 (by omega) (own_lt3 HO1.out))
          have XX3 := Lib.hid ((hg3.block _ (block_lt XX.out) (Ne.symm (own_type HO1.out XX.out (by decide)))).trans XX.out)
          clear ho3 hg3
          go_wp2_with fail
          go_roundw
          case rel => exact ⟨j + 1, L + M, a3, c3, by omega, by go_num, rfl, HL3.out, hLM, HO3.out, HB3.out, XX3.out⟩
          case measure => simp [intOf]; omega
        · obtain rfl : j = m := by omega
          have hE : (own ++ Tr.namesL (t.kids.take j) 0) = own ++ Tr.namesL t.kids 0 := by rw [HEND.out]
          have HE := Lib.hid hE
          clear hE
          go_wp2_with fail
          go_ret
          refine ⟨A, c, ?_, ?_, HB.out⟩
          · rw [← HE.out, ← HL.out]; rfl
          · rw [← HE.out, ← HL.out]; exact HO.out
end Go.Proofs.Ytncikklhchimdaa
