/- Contracts: all names of a plan, each told to a function. -/
import Derived.Test.YtncikklhchimdaaNeedA
import Derived.StillTailTactics
namespace Go.Proofs.Ytncikklhchimdaa
open Go.RowKit
set_option linter.unusedVariables false
set_option linter.unusedSimpArgs false
set_option maxRecDepth 100000
set_option maxRecDepth 20000

/-- Nodes in memory stay. -/
def KeepsD (W W' : World) : Prop := ∀ (b : Nat) (cs : Array Value), W.heap[b]? = some (.cells cs 24 (0, 0)) → W'.heap[b]? = some (.cells cs 24 (0, 0))
theorem KeepsD.refl (W : World) : KeepsD W W := fun _ _ h => h
theorem KeepsD.trans {A B C : World} (h : KeepsD A B) (k : KeepsD B C) : KeepsD A C := fun b cs x => k b cs (h b cs x)
theorem KeepsD.of_below {W W' : World} (h : Below W.heap.size W W') : KeepsD W W' := fun b cs x => (h.block b (block_lt x)).trans x

theorem nmOk_mk {x y z u : Int} (h1 : -9223372036854775808 ≤ x ∧ x < 9223372036854775808) (h2 : -9223372036854775808 ≤ y ∧ y < 9223372036854775808) (h3 : -9223372036854775808 ≤ z ∧ z < 9223372036854775808) (h4 : -9223372036854775808 ≤ u ∧ u < 9223372036854775808) : NmOk (x, y, z, u) := ⟨h1, h2, h3, h4⟩
/-- A function that is told names, one by one; J: what holds when some have been told. -/
structure TellsN (g : FuncId) (p q : Addr) (w0 : World) (B C : Nat) (J : List Nm → World → Prop) : Prop where
  below : ∀ pre W, J pre W → Below B w0 W
  later : ∀ pre W W', J pre W → Below W.heap.size W W' → J pre W'
  call : ∀ (pre : List Nm) (k n m d : Int) W, J pre W → pre.length < C → NmOk (k, n, m, d) → Calls Try.prog g #[.agg #[.int .i64 k, .int .i64 n, .int .i64 m, .int .i64 d], .pointer (some p), .pointer (some q)] W fun e W' => e = .returned (.tuple #[]) ∧ J (pre ++ [(k, n, m, d)]) W' ∧ KeepsD W W'
  enter : ∀ args w, (callFunc g args).run Try.prog w = .ok (.enter g args) w

/-- The round over the children, and what stands behind it: a part of each's walk, for one kind of node. -/
def EachEnds (J : List Nm → World → Prop) (l : List Nm) (W : World) (e : Ending) (W' : World) : Prop := e = .returned (.tuple #[]) ∧ J l W' ∧ KeepsD W W'

set_option maxHeartbeats 16000000 in
theorem need_each (g : FuncId) (p q : Addr) (w0 : World) (B C : Nat) (J : List Nm → World → Prop) (HJ : TellsN g p q w0 B C J) (hB : B ≤ w0.heap.size) (N : Nat) (hN : N ≤ 4194304) :
    ∀ (t : Tr) (k n : Int) (a : Option Addr) (m cap : Nat) (dir : Int) (pre : List Nm) (W : World), t.size ≤ N → IsT w0 (Lt B) k n a m cap t → t.allOk → dir = 0 ∨ dir = 1 → J pre W → pre.length + 2 * t.size ≤ C →
    Calls Try.prog 86 #[.agg #[.int .i64 k, .int .i64 n, .slice a m cap], .int .i64 dir, .func (.func g) #[] #[.pointer (some p), .pointer (some q)]] W (EachEnds J (pre ++ t.names dir) W) := by
  have eg := HJ.enter
  induction N with
  | zero => intro t k n a m cap dir pre W h; have := Tr.size_pos t; omega
  | succ N ih =>
    intro t k n a m cap dir pre W hs hT hok hd hJ hC
    have IH := Lib.hid (ih (by omega))
    clear ih
    have hn := (Tr.allOk_iff t).1 hok
    have HOK := Lib.hid hn.2
    have HT : Hid (∀ pre V, J pre V → IsT V (Lt B) k n a m cap t) := fun pre V h => hT.stay fun b hb _ => (HJ.below pre V h).block b hb
    have HS := Lib.hid hs
    have HC := Lib.hid hC
    have hm4 : m ≤ 4194304 := by
      have := Tr.len_le_sizeL t.kids
      rw [Tr.size_kids] at hs
      rw [hT.em]; omega
    have hlen := hT.em
    have fn := hT.fn
    have fd : -9223372036854775808 ≤ dir ∧ dir < 9223372036854775808 := by omega
    have HNM : Hid (t.names dir = nmOwn k n (Tr.kid t.kids 0).num dir ++ Tr.namesL t.kids (nmBelow k dir)) := by unfold Hid; rw [Tr.names_kids, hT.ek, hT.en]
    obtain ⟨own, hown⟩ : ∃ l, nmOwn k n (Tr.kid t.kids 0).num dir = l := ⟨_, rfl⟩
    have hol : own.length ≤ 2 := by rw [← hown]; exact Tr.own_len _ _ _ _
    obtain ⟨D, hD⟩ : ∃ x, nmBelow k dir = x := ⟨_, rfl⟩
    have hd2 : D = 0 ∨ D = 1 := by rw [← hD]; exact below_dir k dir hd
    rw [hown, hD] at HNM
    rw [HNM.out]
    -- the round, for any world behind the node's own names
    have HR : Hid (∀ (V : World) (j : Nat), j < m → J (pre ++ own ++ Tr.namesL (t.kids.take j) D) V → ∀ k' n' a' m' c', IsT V (Lt B) k' n' a' m' c' (Tr.kid t.kids j) → True) := fun _ _ _ _ _ _ _ _ _ _ => trivial
    have IHK : Hid (∀ (j : Nat) (hj : j < m) (V : World), J (pre ++ own ++ Tr.namesL (t.kids.take j) D) V → ∃ b off k' n' a' m' c', a = some ⟨b, off, none⟩ ∧ b < V.heap.size ∧ V.cell? ⟨b, off + j * 3, none⟩ = some (.int .i64 k') ∧ V.cell? ⟨b, off + j * 3 + 1, none⟩ = some (.int .i64 n') ∧ V.cell? ⟨b, off + j * 3 + 2, none⟩ = some (.slice a' m' c') ∧
        ∀ V', Below V.heap.size V V' → Calls Try.prog 86 #[.agg #[.int .i64 k', .int .i64 n', .slice a' m' c'], .int .i64 D, .func (.func g) #[] #[.pointer (some p), .pointer (some q)]] V' (EachEnds J (pre ++ own ++ Tr.namesL (t.kids.take (j + 1)) D) V')) := fun j hj V hV => by
      have hj2 : j < t.kids.length := by rw [← hlen]; exact hj
      obtain ⟨b, off, k', n', a', m', c', e1, hF, hbl, h0, h1, h2, hT'⟩ := hT.kid j hj
      have hbel := HJ.below _ _ hV
      have ec : ∀ o, V.cell? ⟨b, o, none⟩ = w0.cell? ⟨b, o, none⟩ := fun o => hbel.cell (p := ⟨b, o, none⟩) hF
      have hbs : b < V.heap.size := Nat.lt_of_lt_of_le hbl hbel.size
      refine ⟨b, off, k', n', a', m', c', e1, hbs, (ec _).trans h0, (ec _).trans h1, (ec _).trans h2, fun V' hb => ?_⟩
      have hsz := Tr.size_kid t j hj2
      have htk := Tr.take_kid hj2
      have hnl := Tr.namesL_len (t.kids.take j) D
      have hsl := Tr.sizeL_append (t.kids.take (j + 1)) (t.kids.drop (j + 1))
      rw [List.take_append_drop, htk, Tr.sizeL_append] at hsl
      simp only [Tr.sizeL] at hsl
      have hts := Tr.size_kids t
      have h := IH.out (Tr.kid t.kids j) k' n' a' m' c' D (pre ++ own ++ Tr.namesL (t.kids.take j) D) V' (by omega) hT' (HOK.out j hj2) hd2 (HJ.later _ _ _ hV hb) (by
        simp only [List.length_append]
        omega)
      rw [List.append_assoc (pre ++ own), ← Tr.namesL_snoc, ← htk] at h
      exact h
    have HEND : Hid (Tr.namesL (t.kids.take m) D = Tr.namesL t.kids D) := by unfold Hid; rw [List.take_of_length_le (by omega)]
    clear HR
    have CT : Hid (∀ (l : List Nm) (x y z u : Int) V, J l V → l.length < C → NmOk (x, y, z, u) → Calls Try.prog g #[.agg #[.int .i64 x, .int .i64 y, .int .i64 z, .int .i64 u], .pointer (some p), .pointer (some q)] V fun e W' => e = .returned (.tuple #[]) ∧ J (l ++ [(x, y, z, u)]) W' ∧ KeepsD V W') := fun l x y z u V h1 h2 h3 => HJ.call l x y z u V h1 h2 h3
    have hpl : pre.length + 2 ≤ C := by have := Tr.size_pos t; omega
    obtain ⟨W0, hW0, hb0, x0⟩ := box_any W #[.int .i64 k, .int .i64 n, .slice a m cap] 24
    have HW0 := Lib.hid hW0
    have hJ0 := Lib.hid (HJ.later _ _ _ hJ hb0)
    have HK := Lib.hid (KeepsD.of_below hb0)
    have XD := Lib.hid x0
    have HL : Hid (∀ l V V', J l V → Below V.heap.size V V' → J l V') := HJ.later
    have hcs := node_cases hn.1
    rw [← hT.ek, ← hT.en, ← hT.em] at hcs
    have hk0 : k = 7 → ∃ b off, a = some ⟨b, off, none⟩ ∧ ∀ l V, J l V → V.cell? ⟨b, off + 1, none⟩ = some (.int .i64 (Tr.kid t.kids 0).num) := fun hk7 => by
      have h1 : 0 < m := by rcases hcs with h | h | h | h | h | h <;> omega
      obtain ⟨b, off, e1, _, h2, _⟩ := hT.knum 0 h1
      refine ⟨b, off, e1, fun l V h => ?_⟩
      obtain ⟨b', off', k', n', a', m', c', e1', _, _, _, h3, _, hT'⟩ := (HT.out l V h).kid 0 h1
      rw [e1] at e1'
      simp only [Option.some.injEq, Addr.mk.injEq, and_true] at e1'
      obtain ⟨rfl, rfl⟩ := e1'
      rw [hT'.en] at h3
      simpa using h3
    have fk0 : -9223372036854775808 ≤ (Tr.kid t.kids 0).num ∧ (Tr.kid t.kids 0).num < 9223372036854775808 ∨ k ≠ 7 := by
      by_cases hk7 : k = 7
      · left
        rcases hcs with h | h | h | h | h | h <;> omega
      · exact .inr hk7
    obtain ⟨K0, hK0⟩ : ∃ x, (Tr.kid t.kids 0).num = x := ⟨_, rfl⟩
    rw [hK0] at hown hk0 fk0
    have hkk : k = 1 ∨ k = 2 ∨ k = 3 ∨ k = 4 ∨ k = 5 ∨ k = 6 ∨ k = 7 := by rcases hcs with h | h | h | h | h | h <;> omega
    have HM7 : Hid (k = 7 → 0 < m) := fun h7 => by rcases hcs with h | h | h | h | h | h <;> omega
    clear hW0 hb0 x0 hJ hT hs hok hn hcs HJ hK0 hC hol hlen

    rcases hkk with rfl | rfl | rfl | rfl | rfl | rfl | rfl
    · skip
      have hown : [(1, n, 0, dir)] = own := by rw [← hown]; simp [nmOwn]
      obtain rfl : dir = D := by rw [← hD]; simp [nmBelow]
      clear hk0 fk0
      have hown := Lib.hid hown
      have D0 : W0.cell? ⟨W.heap.size, 0, none⟩ = some (.int .i64 1) := block_cell XD.out 0
      have D1 : W0.cell? ⟨W.heap.size, 1, none⟩ = some (.int .i64 n) := block_cell XD.out 1
      have D2 : W0.cell? ⟨W.heap.size, 2, none⟩ = some (.slice a m cap) := block_cell XD.out 2
      go_enter Try.func86, Try.ntmps86
      go_wp2_with fail
      rw [HW0.out]
      refine (CT.out pre _ _ _ _ _ hJ0.out (by first | omega | (simp; omega)) (nmOk_mk ⟨by omega, by omega⟩ ⟨by omega, by omega⟩ ⟨by omega, by omega⟩ ⟨by omega, by omega⟩)).mono ?_; rintro e w1 ⟨rfl, hj, hk⟩
      clear D0 D1 D2
      have XD := Lib.hid (hk _ _ XD.out)
      have HK := Lib.hid (HK.out.trans hk)
      have hJ0 := Lib.hid hj
      clear hk hj
      have D0 : w1.cell? ⟨W.heap.size, 0, none⟩ = some (.int .i64 1) := block_cell XD.out 0
      have D1 : w1.cell? ⟨W.heap.size, 1, none⟩ = some (.int .i64 n) := block_cell XD.out 1
      have D2 : w1.cell? ⟨W.heap.size, 2, none⟩ = some (.slice a m cap) := block_cell XD.out 2
      go_wp2_with fail
      go_loopw [52] (fun i wr => ∃ j : Nat, j ≤ m ∧ i = .int .i64 j ∧ Hid (J (pre ++ own ++ Tr.namesL (t.kids.take j) dir) wr) ∧ Hid (KeepsD W wr)) (fun i _ => m - (intOf i).toNat)
      case atStart => exact ⟨0, Nat.zero_le _, rfl, by unfold Hid; rw [← hown.out]; simpa [Tr.namesL] using hJ0.out, HK.out⟩
      case round =>
        obtain ⟨j, hj, rfl, HJ0, HK0⟩ := hrel
        by_cases hlt : j < m
        · obtain ⟨b, off, k', n', a', m', c', rfl, hbl, h0, h1, h2, hcall⟩ := IHK.out j hlt wr HJ0.out
          have HCALL := Lib.hid hcall
          have i0 : (0 : Int) ≤ (j : Int) := by omega
          have i1 : (j : Int) < (m : Int) := by omega
          clear hcall
          go_wp2_with fail
          refine (HCALL.out _ ((Below.refl _ _).alloc (Nat.le_refl _) _)).mono ?_; rintro e w2 ⟨rfl, hj2, hk2⟩
          have HJ2 := Lib.hid hj2
          have HK2 := Lib.hid (HK0.out.trans ((KeepsD.of_below ((Below.refl _ _).alloc (Nat.le_refl _) _)).trans hk2))
          clear hj2 hk2 h0 h1 h2
          go_wp2_with fail
          go_roundw
          case rel => exact ⟨j + 1, by omega, by go_num, HJ2.out, HK2.out⟩
          case measure => simp [intOf]; omega
        · obtain rfl : j = m := by omega
          have HF : Hid (J (pre ++ (own ++ Tr.namesL t.kids dir)) wr) := by unfold Hid; rw [← HEND.out, ← List.append_assoc]; exact HJ0.out
          clear HJ0
          go_wp2_with fail
          go_end0
          exact ⟨rfl, HF.out, HK0.out⟩
    · skip
      have hown : [] = own := by rw [← hown]; simp [nmOwn]
      obtain rfl : dir = D := by rw [← hD]; simp [nmBelow]
      clear hk0 fk0
      have hown := Lib.hid hown
      have D0 : W0.cell? ⟨W.heap.size, 0, none⟩ = some (.int .i64 2) := block_cell XD.out 0
      have D1 : W0.cell? ⟨W.heap.size, 1, none⟩ = some (.int .i64 n) := block_cell XD.out 1
      have D2 : W0.cell? ⟨W.heap.size, 2, none⟩ = some (.slice a m cap) := block_cell XD.out 2
      go_enter Try.func86, Try.ntmps86
      go_wp2_with fail
      rw [HW0.out]
      go_loopw [52] (fun i wr => ∃ j : Nat, j ≤ m ∧ i = .int .i64 j ∧ Hid (J (pre ++ own ++ Tr.namesL (t.kids.take j) dir) wr) ∧ Hid (KeepsD W wr)) (fun i _ => m - (intOf i).toNat)
      case atStart => exact ⟨0, Nat.zero_le _, rfl, by unfold Hid; rw [← hown.out]; simpa [Tr.namesL] using hJ0.out, HK.out⟩
      case round =>
        obtain ⟨j, hj, rfl, HJ0, HK0⟩ := hrel
        by_cases hlt : j < m
        · obtain ⟨b, off, k', n', a', m', c', rfl, hbl, h0, h1, h2, hcall⟩ := IHK.out j hlt wr HJ0.out
          have HCALL := Lib.hid hcall
          have i0 : (0 : Int) ≤ (j : Int) := by omega
          have i1 : (j : Int) < (m : Int) := by omega
          clear hcall
          go_wp2_with fail
          refine (HCALL.out _ ((Below.refl _ _).alloc (Nat.le_refl _) _)).mono ?_; rintro e w2 ⟨rfl, hj2, hk2⟩
          have HJ2 := Lib.hid hj2
          have HK2 := Lib.hid (HK0.out.trans ((KeepsD.of_below ((Below.refl _ _).alloc (Nat.le_refl _) _)).trans hk2))
          clear hj2 hk2 h0 h1 h2
          go_wp2_with fail
          go_roundw
          case rel => exact ⟨j + 1, by omega, by go_num, HJ2.out, HK2.out⟩
          case measure => simp [intOf]; omega
        · obtain rfl : j = m := by omega
          have HF : Hid (J (pre ++ (own ++ Tr.namesL t.kids dir)) wr) := by unfold Hid; rw [← HEND.out, ← List.append_assoc]; exact HJ0.out
          clear HJ0
          go_wp2_with fail
          go_end0
          exact ⟨rfl, HF.out, HK0.out⟩
    · skip
      have hown : [(1, n, 0, dir)] = own := by rw [← hown]; simp [nmOwn]
      obtain rfl : dir = D := by rw [← hD]; simp [nmBelow]
      clear hk0 fk0
      have hown := Lib.hid hown
      have D0 : W0.cell? ⟨W.heap.size, 0, none⟩ = some (.int .i64 3) := block_cell XD.out 0
      have D1 : W0.cell? ⟨W.heap.size, 1, none⟩ = some (.int .i64 n) := block_cell XD.out 1
      have D2 : W0.cell? ⟨W.heap.size, 2, none⟩ = some (.slice a m cap) := block_cell XD.out 2
      go_enter Try.func86, Try.ntmps86
      go_wp2_with fail
      rw [HW0.out]
      refine (CT.out pre _ _ _ _ _ hJ0.out (by first | omega | (simp; omega)) (nmOk_mk ⟨by omega, by omega⟩ ⟨by omega, by omega⟩ ⟨by omega, by omega⟩ ⟨by omega, by omega⟩)).mono ?_; rintro e w1 ⟨rfl, hj, hk⟩
      clear D0 D1 D2
      have XD := Lib.hid (hk _ _ XD.out)
      have HK := Lib.hid (HK.out.trans hk)
      have hJ0 := Lib.hid hj
      clear hk hj
      have D0 : w1.cell? ⟨W.heap.size, 0, none⟩ = some (.int .i64 3) := block_cell XD.out 0
      have D1 : w1.cell? ⟨W.heap.size, 1, none⟩ = some (.int .i64 n) := block_cell XD.out 1
      have D2 : w1.cell? ⟨W.heap.size, 2, none⟩ = some (.slice a m cap) := block_cell XD.out 2
      go_wp2_with fail
      go_loopw [52] (fun i wr => ∃ j : Nat, j ≤ m ∧ i = .int .i64 j ∧ Hid (J (pre ++ own ++ Tr.namesL (t.kids.take j) dir) wr) ∧ Hid (KeepsD W wr)) (fun i _ => m - (intOf i).toNat)
      case atStart => exact ⟨0, Nat.zero_le _, rfl, by unfold Hid; rw [← hown.out]; simpa [Tr.namesL] using hJ0.out, HK.out⟩
      case round =>
        obtain ⟨j, hj, rfl, HJ0, HK0⟩ := hrel
        by_cases hlt : j < m
        · obtain ⟨b, off, k', n', a', m', c', rfl, hbl, h0, h1, h2, hcall⟩ := IHK.out j hlt wr HJ0.out
          have HCALL := Lib.hid hcall
          have i0 : (0 : Int) ≤ (j : Int) := by omega
          have i1 : (j : Int) < (m : Int) := by omega
          clear hcall
          go_wp2_with fail
          refine (HCALL.out _ ((Below.refl _ _).alloc (Nat.le_refl _) _)).mono ?_; rintro e w2 ⟨rfl, hj2, hk2⟩
          have HJ2 := Lib.hid hj2
          have HK2 := Lib.hid (HK0.out.trans ((KeepsD.of_below ((Below.refl _ _).alloc (Nat.le_refl _) _)).trans hk2))
          clear hj2 hk2 h0 h1 h2
          go_wp2_with fail
          go_roundw
          case rel => exact ⟨j + 1, by omega, by go_num, HJ2.out, HK2.out⟩
          case measure => simp [intOf]; omega
        · obtain rfl : j = m := by omega
          have HF : Hid (J (pre ++ (own ++ Tr.namesL t.kids dir)) wr) := by unfold Hid; rw [← HEND.out, ← List.append_assoc]; exact HJ0.out
          clear HJ0
          go_wp2_with fail
          go_end0
          exact ⟨rfl, HF.out, HK0.out⟩
    · skip
      have hown : [(1, n, 0, dir)] = own := by rw [← hown]; simp [nmOwn]
      obtain rfl : dir = D := by rw [← hD]; simp [nmBelow]
      clear hk0 fk0
      have hown := Lib.hid hown
      have D0 : W0.cell? ⟨W.heap.size, 0, none⟩ = some (.int .i64 4) := block_cell XD.out 0
      have D1 : W0.cell? ⟨W.heap.size, 1, none⟩ = some (.int .i64 n) := block_cell XD.out 1
      have D2 : W0.cell? ⟨W.heap.size, 2, none⟩ = some (.slice a m cap) := block_cell XD.out 2
      go_enter Try.func86, Try.ntmps86
      go_wp2_with fail
      rw [HW0.out]
      refine (CT.out pre _ _ _ _ _ hJ0.out (by first | omega | (simp; omega)) (nmOk_mk ⟨by omega, by omega⟩ ⟨by omega, by omega⟩ ⟨by omega, by omega⟩ ⟨by omega, by omega⟩)).mono ?_; rintro e w1 ⟨rfl, hj, hk⟩
      clear D0 D1 D2
      have XD := Lib.hid (hk _ _ XD.out)
      have HK := Lib.hid (HK.out.trans hk)
      have hJ0 := Lib.hid hj
      clear hk hj
      have D0 : w1.cell? ⟨W.heap.size, 0, none⟩ = some (.int .i64 4) := block_cell XD.out 0
      have D1 : w1.cell? ⟨W.heap.size, 1, none⟩ = some (.int .i64 n) := block_cell XD.out 1
      have D2 : w1.cell? ⟨W.heap.size, 2, none⟩ = some (.slice a m cap) := block_cell XD.out 2
      go_wp2_with fail
      go_loopw [52] (fun i wr => ∃ j : Nat, j ≤ m ∧ i = .int .i64 j ∧ Hid (J (pre ++ own ++ Tr.namesL (t.kids.take j) dir) wr) ∧ Hid (KeepsD W wr)) (fun i _ => m - (intOf i).toNat)
      case atStart => exact ⟨0, Nat.zero_le _, rfl, by unfold Hid; rw [← hown.out]; simpa [Tr.namesL] using hJ0.out, HK.out⟩
      case round =>
        obtain ⟨j, hj, rfl, HJ0, HK0⟩ := hrel
        by_cases hlt : j < m
        · obtain ⟨b, off, k', n', a', m', c', rfl, hbl, h0, h1, h2, hcall⟩ := IHK.out j hlt wr HJ0.out
          have HCALL := Lib.hid hcall
          have i0 : (0 : Int) ≤ (j : Int) := by omega
          have i1 : (j : Int) < (m : Int) := by omega
          clear hcall
          go_wp2_with fail
          refine (HCALL.out _ ((Below.refl _ _).alloc (Nat.le_refl _) _)).mono ?_; rintro e w2 ⟨rfl, hj2, hk2⟩
          have HJ2 := Lib.hid hj2
          have HK2 := Lib.hid (HK0.out.trans ((KeepsD.of_below ((Below.refl _ _).alloc (Nat.le_refl _) _)).trans hk2))
          clear hj2 hk2 h0 h1 h2
          go_wp2_with fail
          go_roundw
          case rel => exact ⟨j + 1, by omega, by go_num, HJ2.out, HK2.out⟩
          case measure => simp [intOf]; omega
        · obtain rfl : j = m := by omega
          have HF : Hid (J (pre ++ (own ++ Tr.namesL t.kids dir)) wr) := by unfold Hid; rw [← HEND.out, ← List.append_assoc]; exact HJ0.out
          clear HJ0
          go_wp2_with fail
          go_end0
          exact ⟨rfl, HF.out, HK0.out⟩
    · skip
      have hown : [] = own := by rw [← hown]; simp [nmOwn]
      obtain rfl : dir = D := by rw [← hD]; simp [nmBelow]
      clear hk0 fk0
      have hown := Lib.hid hown
      have D0 : W0.cell? ⟨W.heap.size, 0, none⟩ = some (.int .i64 5) := block_cell XD.out 0
      have D1 : W0.cell? ⟨W.heap.size, 1, none⟩ = some (.int .i64 n) := block_cell XD.out 1
      have D2 : W0.cell? ⟨W.heap.size, 2, none⟩ = some (.slice a m cap) := block_cell XD.out 2
      go_enter Try.func86, Try.ntmps86
      go_wp2_with fail
      rw [HW0.out]
      go_loopw [52] (fun i wr => ∃ j : Nat, j ≤ m ∧ i = .int .i64 j ∧ Hid (J (pre ++ own ++ Tr.namesL (t.kids.take j) dir) wr) ∧ Hid (KeepsD W wr)) (fun i _ => m - (intOf i).toNat)
      case atStart => exact ⟨0, Nat.zero_le _, rfl, by unfold Hid; rw [← hown.out]; simpa [Tr.namesL] using hJ0.out, HK.out⟩
      case round =>
        obtain ⟨j, hj, rfl, HJ0, HK0⟩ := hrel
        by_cases hlt : j < m
        · obtain ⟨b, off, k', n', a', m', c', rfl, hbl, h0, h1, h2, hcall⟩ := IHK.out j hlt wr HJ0.out
          have HCALL := Lib.hid hcall
          have i0 : (0 : Int) ≤ (j : Int) := by omega
          have i1 : (j : Int) < (m : Int) := by omega
          clear hcall
          go_wp2_with fail
          refine (HCALL.out _ ((Below.refl _ _).alloc (Nat.le_refl _) _)).mono ?_; rintro e w2 ⟨rfl, hj2, hk2⟩
          have HJ2 := Lib.hid hj2
          have HK2 := Lib.hid (HK0.out.trans ((KeepsD.of_below ((Below.refl _ _).alloc (Nat.le_refl _) _)).trans hk2))
          clear hj2 hk2 h0 h1 h2
          go_wp2_with fail
          go_roundw
          case rel => exact ⟨j + 1, by omega, by go_num, HJ2.out, HK2.out⟩
          case measure => simp [intOf]; omega
        · obtain rfl : j = m := by omega
          have HF : Hid (J (pre ++ (own ++ Tr.namesL t.kids dir)) wr) := by unfold Hid; rw [← HEND.out, ← List.append_assoc]; exact HJ0.out
          clear HJ0
          go_wp2_with fail
          go_end0
          exact ⟨rfl, HF.out, HK0.out⟩
    · skip
      have hown : [(3, n, 0, dir)] = own := by rw [← hown]; simp [nmOwn]
      obtain rfl : D = 0 := by rw [← hD]; simp [nmBelow]
      clear hk0 fk0
      have hown := Lib.hid hown
      have D0 : W0.cell? ⟨W.heap.size, 0, none⟩ = some (.int .i64 6) := block_cell XD.out 0
      have D1 : W0.cell? ⟨W.heap.size, 1, none⟩ = some (.int .i64 n) := block_cell XD.out 1
      have D2 : W0.cell? ⟨W.heap.size, 2, none⟩ = some (.slice a m cap) := block_cell XD.out 2
      go_enter Try.func86, Try.ntmps86
      go_wp2_with fail
      rw [HW0.out]
      refine (CT.out pre _ _ _ _ _ hJ0.out (by first | omega | (simp; omega)) (nmOk_mk ⟨by omega, by omega⟩ ⟨by omega, by omega⟩ ⟨by omega, by omega⟩ ⟨by omega, by omega⟩)).mono ?_; rintro e w1 ⟨rfl, hj, hk⟩
      clear D0 D1 D2
      have XD := Lib.hid (hk _ _ XD.out)
      have HK := Lib.hid (HK.out.trans hk)
      have hJ0 := Lib.hid hj
      clear hk hj
      have D0 : w1.cell? ⟨W.heap.size, 0, none⟩ = some (.int .i64 6) := block_cell XD.out 0
      have D1 : w1.cell? ⟨W.heap.size, 1, none⟩ = some (.int .i64 n) := block_cell XD.out 1
      have D2 : w1.cell? ⟨W.heap.size, 2, none⟩ = some (.slice a m cap) := block_cell XD.out 2
      go_wp2_with fail
      go_loopw [52] (fun i wr => ∃ j : Nat, j ≤ m ∧ i = .int .i64 j ∧ Hid (J (pre ++ own ++ Tr.namesL (t.kids.take j) 0) wr) ∧ Hid (KeepsD W wr)) (fun i _ => m - (intOf i).toNat)
      case atStart => exact ⟨0, Nat.zero_le _, rfl, by unfold Hid; rw [← hown.out]; simpa [Tr.namesL] using hJ0.out, HK.out⟩
      case round =>
        obtain ⟨j, hj, rfl, HJ0, HK0⟩ := hrel
        by_cases hlt : j < m
        · obtain ⟨b, off, k', n', a', m', c', rfl, hbl, h0, h1, h2, hcall⟩ := IHK.out j hlt wr HJ0.out
          have HCALL := Lib.hid hcall
          have i0 : (0 : Int) ≤ (j : Int) := by omega
          have i1 : (j : Int) < (m : Int) := by omega
          clear hcall
          go_wp2_with fail
          refine (HCALL.out _ ((Below.refl _ _).alloc (Nat.le_refl _) _)).mono ?_; rintro e w2 ⟨rfl, hj2, hk2⟩
          have HJ2 := Lib.hid hj2
          have HK2 := Lib.hid (HK0.out.trans ((KeepsD.of_below ((Below.refl _ _).alloc (Nat.le_refl _) _)).trans hk2))
          clear hj2 hk2 h0 h1 h2
          go_wp2_with fail
          go_roundw
          case rel => exact ⟨j + 1, by omega, by go_num, HJ2.out, HK2.out⟩
          case measure => simp [intOf]; omega
        · obtain rfl : j = m := by omega
          have HF : Hid (J (pre ++ (own ++ Tr.namesL t.kids 0)) wr) := by unfold Hid; rw [← HEND.out, ← List.append_assoc]; exact HJ0.out
          clear HJ0
          go_wp2_with fail
          go_end0
          exact ⟨rfl, HF.out, HK0.out⟩
    · skip
      have hown : [(2, n, 0, dir), (4, n, K0, dir)] = own := by rw [← hown]; simp [nmOwn]
      obtain rfl : D = 0 := by rw [← hD]; simp [nmBelow]
      obtain ⟨b0, o0, rfl, hkz⟩ := hk0 rfl
      have HK0N := Lib.hid hkz
      have fk := fk0.resolve_right (by simp)
      clear hk0 hkz fk0
      have hm0 : 0 < m := HM7.out rfl
      have hown := Lib.hid hown
      have D0 : W0.cell? ⟨W.heap.size, 0, none⟩ = some (.int .i64 7) := block_cell XD.out 0
      have D1 : W0.cell? ⟨W.heap.size, 1, none⟩ = some (.int .i64 n) := block_cell XD.out 1
      have D2 : W0.cell? ⟨W.heap.size, 2, none⟩ = some (.slice (some ⟨b0, o0, none⟩) m cap) := block_cell XD.out 2
      go_enter Try.func86, Try.ntmps86
      go_wp2_with fail
      rw [HW0.out]
      refine (CT.out pre _ _ _ _ _ hJ0.out (by first | omega | (simp; omega)) (nmOk_mk ⟨by omega, by omega⟩ ⟨by omega, by omega⟩ ⟨by omega, by omega⟩ ⟨by omega, by omega⟩)).mono ?_; rintro e w1 ⟨rfl, hj, hk⟩
      clear D0 D1 D2
      have XD := Lib.hid (hk _ _ XD.out)
      have HK := Lib.hid (HK.out.trans hk)
      have hJ0 := Lib.hid hj
      clear hk hj
      have D0 : w1.cell? ⟨W.heap.size, 0, none⟩ = some (.int .i64 7) := block_cell XD.out 0
      have D1 : w1.cell? ⟨W.heap.size, 1, none⟩ = some (.int .i64 n) := block_cell XD.out 1
      have D2 : w1.cell? ⟨W.heap.size, 2, none⟩ = some (.slice (some ⟨b0, o0, none⟩) m cap) := block_cell XD.out 2
      go_wp2_with fail
      have hbd := (Below.refl w1.heap.size w1).drew
      have n0 := HK0N.out _ _ hJ0.out
      go_still_tail 10, (by kernel_rfl)
      change wpList _ _ _ _ _ w1.drew
      have hJ0 := Lib.hid (HL.out _ _ _ hJ0.out hbd)
      have HK := Lib.hid (HK.out.trans (KeepsD.of_below hbd))
      have XD := Lib.hid ((KeepsD.of_below hbd) _ _ XD.out)
      clear n0 D0 D1 D2
      obtain ⟨w2, hw2⟩ : ∃ w2, w1.drew = w2 := ⟨_, rfl⟩
      rw [hw2] at hJ0 HK XD ⊢
      clear hw2 hbd
      have D0 : w2.cell? ⟨W.heap.size, 0, none⟩ = some (.int .i64 7) := block_cell XD.out 0
      have D1 : w2.cell? ⟨W.heap.size, 1, none⟩ = some (.int .i64 n) := block_cell XD.out 1
      have D2 : w2.cell? ⟨W.heap.size, 2, none⟩ = some (.slice (some ⟨b0, o0, none⟩) m cap) := block_cell XD.out 2
      go_wp2_with fail
      refine (CT.out (pre ++ [(2, n, 0, _)]) _ _ _ _ _ hJ0.out (by first | omega | (simp; omega)) (nmOk_mk ⟨by omega, by omega⟩ ⟨by omega, by omega⟩ ⟨by omega, by omega⟩ ⟨by omega, by omega⟩)).mono ?_; rintro e w3 ⟨rfl, hj, hk⟩
      clear D0 D1 D2
      have XD := Lib.hid (hk _ _ XD.out)
      have HK := Lib.hid (HK.out.trans hk)
      have hJ0 := Lib.hid hj
      clear hk hj
      have D0 : w3.cell? ⟨W.heap.size, 0, none⟩ = some (.int .i64 7) := block_cell XD.out 0
      have D1 : w3.cell? ⟨W.heap.size, 1, none⟩ = some (.int .i64 n) := block_cell XD.out 1
      have D2 : w3.cell? ⟨W.heap.size, 2, none⟩ = some (.slice (some ⟨b0, o0, none⟩) m cap) := block_cell XD.out 2
      go_wp2_with fail
      go_loopw [52] (fun i wr => ∃ j : Nat, j ≤ m ∧ i = .int .i64 j ∧ Hid (J (pre ++ own ++ Tr.namesL (t.kids.take j) 0) wr) ∧ Hid (KeepsD W wr)) (fun i _ => m - (intOf i).toNat)
      case atStart => exact ⟨0, Nat.zero_le _, rfl, by unfold Hid; rw [← hown.out]; simpa [Tr.namesL] using hJ0.out, HK.out⟩
      case round =>
        obtain ⟨j, hj, rfl, HJ0, HK0⟩ := hrel
        by_cases hlt : j < m
        · obtain ⟨b, off, k', n', a', m', c', hab, hbl, h0, h1, h2, hcall⟩ := IHK.out j hlt wr HJ0.out
          simp only [Option.some.injEq, Addr.mk.injEq, and_true] at hab
          obtain ⟨rfl, rfl⟩ := hab
          have HCALL := Lib.hid hcall
          have i0 : (0 : Int) ≤ (j : Int) := by omega
          have i1 : (j : Int) < (m : Int) := by omega
          clear hcall
          go_wp2_with fail
          refine (HCALL.out _ ((Below.refl _ _).alloc (Nat.le_refl _) _)).mono ?_; rintro e w2 ⟨rfl, hj2, hk2⟩
          have HJ2 := Lib.hid hj2
          have HK2 := Lib.hid (HK0.out.trans ((KeepsD.of_below ((Below.refl _ _).alloc (Nat.le_refl _) _)).trans hk2))
          clear hj2 hk2 h0 h1 h2
          go_wp2_with fail
          go_roundw
          case rel => exact ⟨j + 1, by omega, by go_num, HJ2.out, HK2.out⟩
          case measure => simp [intOf]; omega
        · obtain rfl : j = m := by omega
          have HF : Hid (J (pre ++ (own ++ Tr.namesL t.kids 0)) wr) := by unfold Hid; rw [← HEND.out, ← List.append_assoc]; exact HJ0.out
          clear HJ0
          go_wp2_with fail
          go_end0
          exact ⟨rfl, HF.out, HK0.out⟩
end Go.Proofs.Ytncikklhchimdaa
