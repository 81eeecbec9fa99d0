/- Plans that are worth a trial: the plan of any number; the page's example. -/
import Derived.Test.YtncikklhchimdaaCandG
import Derived.Test.YtncikklhchimdaaSzA
namespace Go.Proofs.Ytncikklhchimdaa
open Go.RowKit
set_option linter.unusedVariables false
set_option linter.unusedSimpArgs false
set_option maxRecDepth 100000
set_option maxRecDepth 20000

/-- A result: a tree, and a number. -/
def GivesD2 (t : Tr) (x : Int) (w : World) (e : Ending) (w' : World) : Prop :=
  ∃ k n a m c, e = .returned (.tuple #[.agg #[.int .i64 k, .int .i64 n, .slice a m c], .int .i64 x]) ∧ IsT w' (fun _ => True) k n a m c t ∧ Below w.heap.size w w'
theorem pl_sz {n : Nat} (h : hasSz n = true) : okF 10 n = true := by
  have hk := kids_sz h
  unfold kidsB at hk
  simp only [Bool.and_eq_true] at hk
  exact hk.1.1.1.1
theorem cand_Plain (n : Nat) (w : World) (h : hasSz n = true) : Calls Try.prog 27 #[.int .i64 n] w (GivesD2 (pl n) 0 w) := by
  have CH : Hid (∀ W, Calls Try.prog 59 #[.int .i64 n] W fun e w' => e = .returned (.bool true) ∧ W = w') := fun W => rootHas_yes _ W h
  have CI : Hid (∀ W, Calls Try.prog 72 #[.int .i64 n] W (GivesD (pl n) W)) := fun W => cand_plain 10 n W (pl_sz h)
  clear h
  obtain ⟨W0, hW0, hb0, x0⟩ := zbox w 24
  have hs0 : Hid (W0.heap.size = w.heap.size + 1) := by unfold Hid; rw [← hW0]; simp
  have HB0 := Lib.hid hb0
  have X0 := Lib.hid x0
  clear hb0 x0
  go_enter Try.func27, Try.ntmps27
  go_wp2_with fail
  refine (CH.out _).mono ?_; rintro e s1 ⟨rfl, rfl⟩
  go_wp2_with fail
  refine (CI.out _).mono ?_; rintro e w1 ⟨k, m, a, l, c, rfl, hT, hb1⟩
  have HB1 := Lib.hid (chain HB0.out hb1)
  have X1 := Lib.hid ((hb1.block _ (block_lt X0.out)).trans X0.out)
  have HT1 := Lib.hid (hT.mono (G := Since (w.heap.size + 1)) fun b hb => by unfold Since at hb ⊢; have := hs0.out; omega)
  obtain ⟨q0, q1, q2, g0, g1, g2⟩ := zfacts X1.out
  clear hb1 hT
  go_wp2_with fail
  obtain ⟨w', hw', hb, r0, r1, r2, hT⟩ := fin_node HB1.out X1.out HT1.out
  rw [hw']
  exact bodyPost_ret (v := .tuple #[.agg #[.int .i64 k, .int .i64 m, .slice a l c], .int .i64 0]) (by simp [results, Try.results27, go_sem, r0, r1, r2]) rfl ⟨_, _, _, _, _, rfl, hT.mono fun _ _ => trivial, hb⟩
theorem cand_Plain_no (n : Int) (w : World) (h : hasSz n = false) (hn : -9223372036854775808 ≤ n ∧ n < 9223372036854775808) : Calls Try.prog 27 #[.int .i64 n] w (GivesD2 (.node 0 0 []) 4 w) := by
  have CH : Hid (∀ W, Calls Try.prog 59 #[.int .i64 n] W fun e w' => e = .returned (.bool false) ∧ W = w') := fun W => rootHas_no _ W h hn
  clear h
  obtain ⟨W0, hW0, hb0, x0⟩ := zbox w 24
  have HB0 := Lib.hid hb0
  have X0 := Lib.hid x0
  obtain ⟨q0, q1, q2, g0, g1, g2⟩ := zfacts X0.out
  clear hb0 x0
  go_enter Try.func27, Try.ntmps27
  go_wp2_with fail
  refine (CH.out _).mono ?_; rintro e s1 ⟨rfl, rfl⟩
  go_wp2_with fail
  obtain ⟨w', hw', hb, r0, r1, r2, _⟩ := fin3 HB0.out X0.out (.int .i64 0) (.int .i64 0) (.slice none 0 0)
  rw [hw']
  exact bodyPost_ret (v := .tuple #[.agg #[.int .i64 0, .int .i64 0, .slice none 0 0], .int .i64 4]) (by simp [results, Try.results27, go_sem, r0, r1, r2]) rfl ⟨_, _, _, _, _, rfl, isT_none _ _ fits_zero fits_zero, hb⟩

theorem ex_96 : (pl 96).kind = 4 ∧ (pl 96).kids.length = 2 ∧ (Tr.kid (pl 96).kids 1).num = 32 := by decide +kernel
theorem ex_5 : (listT 5).length = 4 ∧ (Tr.kid (listT 5) 2).kind = 6 := by decide +kernel
theorem has_96 : hasSz ((96 : Nat) : Int) = true := by decide +kernel
theorem has_5 : hasSz ((5 : Nat) : Int) = true := by decide +kernel
theorem kids_isT {w : World} {F : Nat → Prop} {a : Option Addr} {cap : Nat} {ts : List Tr} (h : Kids w F a cap ts) (ho : ∀ t ∈ ts, t.Ok) : IsT w F 0 0 a ts.length cap (.node 0 0 ts) := ⟨rfl, rfl, rfl, by simp only [Tr.Ok]; exact ⟨fits_zero, fits_zero, Tr.okL_of ho⟩, h⟩

set_option maxHeartbeats 1000000 in
theorem live19 (w : World) : Calls Try.prog 31 #[] w fun e w' => e = .returned (.bool true) ∧ Below w.heap.size w w' := by
  have C1 : Hid (∀ W, Calls Try.prog 27 #[.int .i64 96] W (GivesD2 (pl 96) 0 W)) := fun W => cand_Plain 96 W has_96
  have C2 : Hid (∀ W, Calls Try.prog 28 #[.int .i64 5] W (GivesTs2 (listT 5) 0 W)) := fun W => cand_List 5 W has_5
  obtain ⟨e1, e2, e3⟩ := ex_96
  obtain ⟨e4, e5⟩ := ex_5
  obtain ⟨t, ht⟩ : ∃ t, pl 96 = t := ⟨_, rfl⟩
  obtain ⟨ts, hts⟩ : ∃ ts, listT 5 = ts := ⟨_, rfl⟩
  rw [ht] at C1 e1 e2 e3
  rw [hts] at C2 e4 e5
  have E3 := Lib.hid e3
  have E5 := Lib.hid e5
  have E4 := Lib.hid e4
  clear ht hts e3 e5 e4
  go_enter Try.func31, Try.ntmps31
  go_wp2_with fail
  refine (C1.out _).mono ?_; rintro e w1 ⟨k, n, a, m, c, rfl, hT, hb1⟩
  obtain rfl : k = 4 := by rw [hT.ek, e1]
  obtain rfl : m = 2 := by rw [hT.em, e2]
  obtain ⟨b, off, k1, n1, a1, m1, c1, rfl, _, hbl, _, d1, _, hT1⟩ := hT.kid 1 (by omega)
  obtain rfl : n1 = 32 := by rw [hT1.en, E3.out]
  obtain ⟨W2, hW2, hb2, x2⟩ := box_fresh w1 #[.int .i64 4, .int .i64 n, .slice (some ⟨b, off, none⟩) 2 c] 24
  have HB2 := Lib.hid (chain hb1 hb2)
  have X2 := Lib.hid x2
  have D1 := Lib.hid ((hb2.cell (p := ⟨b, off + 1 * 3 + 1, none⟩) hbl).trans d1)
  clear hT hT1 d1 hb1 hb2 x2 e1 e2
  go_wp2_with fail
  refine (C2.out _).mono ?_; rintro e w3 ⟨v, rfl, hR, hb3⟩
  obtain ⟨a3, c3, rfl, hK, hok⟩ := hR.row
  have hL := kids_isT hK hok
  obtain ⟨g, o, k4, n4, a4, m4, c4, rfl, _, _, f0, _, _, hT4⟩ := hL.kid 2 (by rw [E4.out]; omega)
  obtain rfl : k4 = 6 := by rw [hT4.ek]; exact E5.out
  have hbl2 := World.block_lt_of_cell? W2 _ D1.out
  have D3 := (hb3.cell (p := ⟨b, off + 1 * 3 + 1, none⟩) hbl2).trans D1.out
  have X3 := Lib.hid ((hb3.block _ (block_lt X2.out)).trans X2.out)
  obtain ⟨q0, q1, q2, _, _, _⟩ := zfacts X3.out
  have HB3 := Lib.hid (chain HB2.out hb3)
  obtain ⟨L, hL4⟩ : ∃ L, ts.length = L := ⟨_, rfl⟩
  have hL4' : L = 4 := by rw [← hL4]; exact E4.out
  rw [hL4]
  subst hL4'
  clear hR hK hok hL hT4 hb3 hL4
  go_wp2_with fail
  go_ret
  exact ⟨rfl, HB3.out⟩
end Go.Proofs.Ytncikklhchimdaa
