/- Contracts: is a tree a plan of a key. The program and the reference. -/
import Derived.Test.YtncikklhchimdaaValE
import Derived.Test.YtncikklhchimdaaValF
namespace Go.Proofs.Ytncikklhchimdaa
open Go.RowKit
set_option linter.unusedVariables false
set_option linter.unusedSimpArgs false
set_option maxRecDepth 100000
set_option maxRecDepth 20000

set_option maxHeartbeats 2000000 in
theorem valid_For (K D : Int) (t : Tr) (k n : Int) (a : Option Addr) (m cap : Nat) (w : World) (B : Nat) (hB : B ≤ w.heap.size) (hK : -9223372036854775808 ≤ K ∧ K < 9223372036854775808) (hs : t.size ≤ 4194304) (hT : IsT w (Lt B) k n a m cap t) :
    Calls Try.prog 24 #[.agg #[.int .i64 K, .int .i64 D], .agg #[.int .i64 k, .int .i64 n, .slice a m cap]] w fun e w' => e = .returned (.int .i64 (forK K D t)) ∧ Below w.heap.size w w' := by
  have en := hT.en
  have CK : Hid (∀ W, Below w.heap.size w W → Calls Try.prog 17 #[.agg #[.int .i64 k, .int .i64 n, .slice a m cap]] W fun e w' => e = .returned (.int .i64 (chk t)) ∧ Below W.heap.size W w') := fun W hb => valid_Check t k n a m cap W (Lt B) hs (hT.below hb)
  have HF : Hid (forK K D t = if hasSz K = false then 4 else if D ≠ 0 ∧ D ≠ 1 then 2 else if chk t ≠ 0 then chk t else if n ≠ K then 8 else 0) := by unfold Hid forK; rw [en]
  rw [HF.out]
  obtain ⟨C, hC⟩ : ∃ C, chk t = C := ⟨_, rfl⟩
  rw [hC] at CK ⊢
  clear hT hs hC HF en
  obtain ⟨W0, hW0, hb0, x0, x1⟩ := key_box w K D k n a m cap 35 24
  have HW0 := Lib.hid hW0
  have HB := Lib.hid hb0
  have KX := Lib.hid x0
  have DX := Lib.hid x1
  have k0 : W0.cell? ⟨w.heap.size, 0, none⟩ = some (.int .i64 K) := block_cell x0 0
  have k1 : W0.cell? ⟨w.heap.size, 1, none⟩ = some (.int .i64 D) := block_cell x0 1
  have d0 : W0.cell? ⟨w.heap.size + 1, 0, none⟩ = some (.int .i64 k) := block_cell x1 0
  have d1 : W0.cell? ⟨w.heap.size + 1, 1, none⟩ = some (.int .i64 n) := block_cell x1 1
  have d2 : W0.cell? ⟨w.heap.size + 1, 2, none⟩ = some (.slice a m cap) := block_cell x1 2
  clear hW0 hb0 x0 x1
  by_cases hsz : hasSz K = true
  case neg =>
    have hsz' : hasSz K = false := by simpa using hsz
    have HS : Hid (∀ W, Calls Try.prog 59 #[.int .i64 K] W fun e w' => e = .returned (.bool false) ∧ W = w') := fun W => rootHas_no K W hsz' hK
    rw [if_pos hsz']
    clear hsz hsz'
    go_enter Try.func24, Try.ntmps24
    go_wp2_with fail
    rw [HW0.out]
    refine (HS.out _).mono ?_; rintro e w1 ⟨rfl, rfl⟩
    go_wp2_with fail
    go_ret
    exact ⟨rfl, HB.out⟩
  have HS : Hid (∀ W, Calls Try.prog 59 #[.int .i64 K] W fun e w' => e = .returned (.bool true) ∧ W = w') := fun W => rootHas_yes K W hsz
  rw [if_neg (by simp [hsz])]
  clear hsz
  by_cases hd : D ≠ 0 ∧ D ≠ 1
  · rw [if_pos hd]
    have t0 : (D != 0) = true := bdiff hd.1
    have t1 : (D != 1) = true := bdiff hd.2
    clear hd
    go_enter Try.func24, Try.ntmps24
    go_wp2_with fail
    rw [HW0.out]
    refine (HS.out _).mono ?_; rintro e w1 ⟨rfl, rfl⟩
    go_wp2_with fail
    go_ret
    exact ⟨rfl, HB.out⟩
  rw [if_neg hd]
  rcases (show D = 0 ∨ D = 1 by omega) with rfl | rfl
  all_goals
    clear hd
    rcases (show C ≠ 0 ∨ (C = 0 ∧ n ≠ K) ∨ (C = 0 ∧ n = K) by omega) with hc | ⟨hc, hn⟩ | ⟨hc, hn⟩
    · rw [if_pos hc]
      have tc : (C != 0) = true := bdiff hc
      clear hc
      go_enter Try.func24, Try.ntmps24
      go_wp2_with fail
      rw [HW0.out]
      refine (HS.out _).mono ?_; rintro e w1 ⟨rfl, rfl⟩
      go_wp2_with fail
      refine (CK.out _ HB.out).mono ?_; rintro e w2 ⟨rfl, hb⟩
      clear k0 k1 d0 d1 d2
      have KX := Lib.hid ((hb.block _ (block_lt KX.out)).trans KX.out)
      have DX := Lib.hid ((hb.block _ (block_lt DX.out)).trans DX.out)
      have HB := Lib.hid (chain HB.out hb)
      have k0 : w2.cell? ⟨w.heap.size, 0, none⟩ = some (.int .i64 K) := block_cell KX.out 0
      have k1 : w2.cell? ⟨w.heap.size, 1, none⟩ = some (.int .i64 _) := block_cell KX.out 1
      have d0 : w2.cell? ⟨w.heap.size + 1, 0, none⟩ = some (.int .i64 k) := block_cell DX.out 0
      have d1 : w2.cell? ⟨w.heap.size + 1, 1, none⟩ = some (.int .i64 n) := block_cell DX.out 1
      have d2 : w2.cell? ⟨w.heap.size + 1, 2, none⟩ = some (.slice a m cap) := block_cell DX.out 2
      clear hb
      go_wp2_with fail
      go_ret
      exact ⟨rfl, HB.out⟩
    · subst hc
      rw [if_neg (by simp), if_pos hn]
      have tn : (n != K) = true := bdiff hn
      clear hn
      go_enter Try.func24, Try.ntmps24
      go_wp2_with fail
      rw [HW0.out]
      refine (HS.out _).mono ?_; rintro e w1 ⟨rfl, rfl⟩
      go_wp2_with fail
      refine (CK.out _ HB.out).mono ?_; rintro e w2 ⟨rfl, hb⟩
      clear k0 k1 d0 d1 d2
      have KX := Lib.hid ((hb.block _ (block_lt KX.out)).trans KX.out)
      have DX := Lib.hid ((hb.block _ (block_lt DX.out)).trans DX.out)
      have HB := Lib.hid (chain HB.out hb)
      have k0 : w2.cell? ⟨w.heap.size, 0, none⟩ = some (.int .i64 K) := block_cell KX.out 0
      have k1 : w2.cell? ⟨w.heap.size, 1, none⟩ = some (.int .i64 _) := block_cell KX.out 1
      have d0 : w2.cell? ⟨w.heap.size + 1, 0, none⟩ = some (.int .i64 k) := block_cell DX.out 0
      have d1 : w2.cell? ⟨w.heap.size + 1, 1, none⟩ = some (.int .i64 n) := block_cell DX.out 1
      have d2 : w2.cell? ⟨w.heap.size + 1, 2, none⟩ = some (.slice a m cap) := block_cell DX.out 2
      clear hb
      go_wp2_with fail
      go_ret
      exact ⟨rfl, HB.out⟩
    · subst hc
      rw [if_neg (by simp), if_neg (by simp [hn])]
      have tn : (n != K) = false := bfalse hn
      clear hn
      go_enter Try.func24, Try.ntmps24
      go_wp2_with fail
      rw [HW0.out]
      refine (HS.out _).mono ?_; rintro e w1 ⟨rfl, rfl⟩
      go_wp2_with fail
      refine (CK.out _ HB.out).mono ?_; rintro e w2 ⟨rfl, hb⟩
      clear k0 k1 d0 d1 d2
      have KX := Lib.hid ((hb.block _ (block_lt KX.out)).trans KX.out)
      have DX := Lib.hid ((hb.block _ (block_lt DX.out)).trans DX.out)
      have HB := Lib.hid (chain HB.out hb)
      have k0 : w2.cell? ⟨w.heap.size, 0, none⟩ = some (.int .i64 K) := block_cell KX.out 0
      have k1 : w2.cell? ⟨w.heap.size, 1, none⟩ = some (.int .i64 _) := block_cell KX.out 1
      have d0 : w2.cell? ⟨w.heap.size + 1, 0, none⟩ = some (.int .i64 k) := block_cell DX.out 0
      have d1 : w2.cell? ⟨w.heap.size + 1, 1, none⟩ = some (.int .i64 n) := block_cell DX.out 1
      have d2 : w2.cell? ⟨w.heap.size + 1, 2, none⟩ = some (.slice a m cap) := block_cell DX.out 2
      clear hb
      go_wp2_with fail
      go_ret
      exact ⟨rfl, HB.out⟩

set_option maxHeartbeats 2000000 in
theorem ref14_For (K D : Int) (t : Tr) (k n : Int) (a : Option Addr) (m cap : Nat) (w : World) (B : Nat) (hB : B ≤ w.heap.size) (hK : -9223372036854775808 ≤ K ∧ K < 9223372036854775808) (hs : t.size ≤ 4194304) (hT : IsT w (Lt B) k n a m cap t) :
    Calls Try.prog 25 #[.agg #[.int .i64 K, .int .i64 D], .agg #[.int .i64 k, .int .i64 n, .slice a m cap]] w fun e w' => e = .returned (.int .i64 (forK K D t)) ∧ Below w.heap.size w w' := by
  have en := hT.en
  have CK : Hid (∀ W, Below w.heap.size w W → Calls Try.prog 23 #[.agg #[.int .i64 k, .int .i64 n, .slice a m cap]] W fun e w' => e = .returned (.int .i64 (chk t)) ∧ Below W.heap.size W w') := fun W hb => ref14_Check t k n a m cap W B (Nat.le_trans hB hb.size) hs (hT.below hb)
  have HF : Hid (forK K D t = if hasSz K = false then 4 else if D ≠ 0 ∧ D ≠ 1 then 2 else if chk t ≠ 0 then chk t else if n ≠ K then 8 else 0) := by unfold Hid forK; rw [en]
  rw [HF.out]
  obtain ⟨C, hC⟩ : ∃ C, chk t = C := ⟨_, rfl⟩
  rw [hC] at CK ⊢
  clear hT hs hC HF en
  obtain ⟨W0, hW0, hb0, x0, x1⟩ := key_box w K D k n a m cap 35 24
  have HW0 := Lib.hid hW0
  have HB := Lib.hid hb0
  have KX := Lib.hid x0
  have DX := Lib.hid x1
  have k0 : W0.cell? ⟨w.heap.size, 0, none⟩ = some (.int .i64 K) := block_cell x0 0
  have k1 : W0.cell? ⟨w.heap.size, 1, none⟩ = some (.int .i64 D) := block_cell x0 1
  have d0 : W0.cell? ⟨w.heap.size + 1, 0, none⟩ = some (.int .i64 k) := block_cell x1 0
  have d1 : W0.cell? ⟨w.heap.size + 1, 1, none⟩ = some (.int .i64 n) := block_cell x1 1
  have d2 : W0.cell? ⟨w.heap.size + 1, 2, none⟩ = some (.slice a m cap) := block_cell x1 2
  clear hW0 hb0 x0 x1
  by_cases hsz : hasSz K = true
  case neg =>
    have hsz' : hasSz K = false := by simpa using hsz
    have HS : Hid (∀ W, Calls Try.prog 29 #[.int .i64 K] W fun e w' => e = .returned (.bool false) ∧ W = w') := fun W => refHas_no K W hsz' hK
    rw [if_pos hsz']
    clear hsz hsz'
    go_enter Try.func25, Try.ntmps25
    go_wp2_with fail
    rw [HW0.out]
    refine (HS.out _).mono ?_; rintro e w1 ⟨rfl, rfl⟩
    go_wp2_with fail
    go_ret
    exact ⟨rfl, HB.out⟩
  have HS : Hid (∀ W, Calls Try.prog 29 #[.int .i64 K] W fun e w' => e = .returned (.bool true) ∧ W = w') := fun W => refHas_yes K W hsz
  rw [if_neg (by simp [hsz])]
  clear hsz
  by_cases hd : D ≠ 0 ∧ D ≠ 1
  · rw [if_pos hd]
    have t0 : (D != 0) = true := bdiff hd.1
    have t1 : (D != 1) = true := bdiff hd.2
    clear hd
    go_enter Try.func25, Try.ntmps25
    go_wp2_with fail
    rw [HW0.out]
    refine (HS.out _).mono ?_; rintro e w1 ⟨rfl, rfl⟩
    go_wp2_with fail
    go_ret
    exact ⟨rfl, HB.out⟩
  rw [if_neg hd]
  rcases (show D = 0 ∨ D = 1 by omega) with rfl | rfl
  all_goals
    clear hd
    rcases (show C ≠ 0 ∨ (C = 0 ∧ n ≠ K) ∨ (C = 0 ∧ n = K) by omega) with hc | ⟨hc, hn⟩ | ⟨hc, hn⟩
    · rw [if_pos hc]
      have tc : (C != 0) = true := bdiff hc
      clear hc
      go_enter Try.func25, Try.ntmps25
      go_wp2_with fail
      rw [HW0.out]
      refine (HS.out _).mono ?_; rintro e w1 ⟨rfl, rfl⟩
      go_wp2_with fail
      refine (CK.out _ HB.out).mono ?_; rintro e w2 ⟨rfl, hb⟩
      clear k0 k1 d0 d1 d2
      have KX := Lib.hid ((hb.block _ (block_lt KX.out)).trans KX.out)
      have DX := Lib.hid ((hb.block _ (block_lt DX.out)).trans DX.out)
      have HB := Lib.hid (chain HB.out hb)
      have k0 : w2.cell? ⟨w.heap.size, 0, none⟩ = some (.int .i64 K) := block_cell KX.out 0
      have k1 : w2.cell? ⟨w.heap.size, 1, none⟩ = some (.int .i64 _) := block_cell KX.out 1
      have d0 : w2.cell? ⟨w.heap.size + 1, 0, none⟩ = some (.int .i64 k) := block_cell DX.out 0
      have d1 : w2.cell? ⟨w.heap.size + 1, 1, none⟩ = some (.int .i64 n) := block_cell DX.out 1
      have d2 : w2.cell? ⟨w.heap.size + 1, 2, none⟩ = some (.slice a m cap) := block_cell DX.out 2
      clear hb
      go_wp2_with fail
      go_ret
      exact ⟨rfl, HB.out⟩
    · subst hc
      rw [if_neg (by simp), if_pos hn]
      have tn : (n != K) = true := bdiff hn
      clear hn
      go_enter Try.func25, Try.ntmps25
      go_wp2_with fail
      rw [HW0.out]
      refine (HS.out _).mono ?_; rintro e w1 ⟨rfl, rfl⟩
      go_wp2_with fail
      refine (CK.out _ HB.out).mono ?_; rintro e w2 ⟨rfl, hb⟩
      clear k0 k1 d0 d1 d2
      have KX := Lib.hid ((hb.block _ (block_lt KX.out)).trans KX.out)
      have DX := Lib.hid ((hb.block _ (block_lt DX.out)).trans DX.out)
      have HB := Lib.hid (chain HB.out hb)
      have k0 : w2.cell? ⟨w.heap.size, 0, none⟩ = some (.int .i64 K) := block_cell KX.out 0
      have k1 : w2.cell? ⟨w.heap.size, 1, none⟩ = some (.int .i64 _) := block_cell KX.out 1
      have d0 : w2.cell? ⟨w.heap.size + 1, 0, none⟩ = some (.int .i64 k) := block_cell DX.out 0
      have d1 : w2.cell? ⟨w.heap.size + 1, 1, none⟩ = some (.int .i64 n) := block_cell DX.out 1
      have d2 : w2.cell? ⟨w.heap.size + 1, 2, none⟩ = some (.slice a m cap) := block_cell DX.out 2
      clear hb
      go_wp2_with fail
      go_ret
      exact ⟨rfl, HB.out⟩
    · subst hc
      rw [if_neg (by simp), if_neg (by simp [hn])]
      have tn : (n != K) = false := bfalse hn
      clear hn
      go_enter Try.func25, Try.ntmps25
      go_wp2_with fail
      rw [HW0.out]
      refine (HS.out _).mono ?_; rintro e w1 ⟨rfl, rfl⟩
      go_wp2_with fail
      refine (CK.out _ HB.out).mono ?_; rintro e w2 ⟨rfl, hb⟩
      clear k0 k1 d0 d1 d2
      have KX := Lib.hid ((hb.block _ (block_lt KX.out)).trans KX.out)
      have DX := Lib.hid ((hb.block _ (block_lt DX.out)).trans DX.out)
      have HB := Lib.hid (chain HB.out hb)
      have k0 : w2.cell? ⟨w.heap.size, 0, none⟩ = some (.int .i64 K) := block_cell KX.out 0
      have k1 : w2.cell? ⟨w.heap.size, 1, none⟩ = some (.int .i64 _) := block_cell KX.out 1
      have d0 : w2.cell? ⟨w.heap.size + 1, 0, none⟩ = some (.int .i64 k) := block_cell DX.out 0
      have d1 : w2.cell? ⟨w.heap.size + 1, 1, none⟩ = some (.int .i64 n) := block_cell DX.out 1
      have d2 : w2.cell? ⟨w.heap.size + 1, 2, none⟩ = some (.slice a m cap) := block_cell DX.out 2
      clear hb
      go_wp2_with fail
      go_ret
      exact ⟨rfl, HB.out⟩

end Go.Proofs.Ytncikklhchimdaa
