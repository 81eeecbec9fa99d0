/- Contracts of transforms of three, four, five numbers. Printed by wip/py/mk_smallB.py. -/
import Derived.Test.YtlgklkhijmeldaaSmallA
namespace Go.Proofs.Ytlgklkhijmeldaa
open Go.RowKit Sm
set_option linter.unusedVariables false
set_option linter.unusedSimpArgs false
set_option maxRecDepth 100000

set_option maxHeartbeats 1000000 in
theorem small_three (ad : Option Addr) (cap : Nat) (a b c z u : Int) (w : World) (hx : Row .u64 w ad [a, b, c]) (hr : IsRoot z u 3) (hz0 : 0 ≤ z) (hz1 : z < 18446744069414584321) :
    Calls Try.prog 86 #[.slice ad 3 cap, .int .u64 z] w (GivesRow .u64 (dftL [a, b, c] z) w) := by
  obtain ⟨bk, o, rfl, hc⟩ := hx.at (by simp)
  have k0 : w.cell? ⟨bk, o + 0, none⟩ = some (.int .u64 a) := hc 0 (by simp)
  obtain ⟨p0, q0⟩ := fits_u64.1 (hx.wf a (by simp))
  have k1 : w.cell? ⟨bk, o + 1, none⟩ = some (.int .u64 b) := hc 1 (by simp)
  obtain ⟨p1, q1⟩ := fits_u64.1 (hx.wf b (by simp))
  have k2 : w.cell? ⟨bk, o + 2, none⟩ = some (.int .u64 c) := hc 2 (by simp)
  obtain ⟨p2, q2⟩ := fits_u64.1 (hx.wf c (by simp))
  rw [Nat.add_zero] at k0
  have HR := Lib.hid hr
  clear hc hx hr
  go_enter Try.func86, Try.ntmps86
  go_wp2_with fail
  refine (gold_Mul z z _ (by omega) (by omega) (by omega) (by omega)).mono ?_; rintro e w' ⟨rfl, rfl⟩
  obtain ⟨zz, hzz⟩ : ∃ v, z * z % 18446744069414584321 = v := ⟨_, rfl⟩
  rw [hzz]
  have bd_zz : 0 ≤ zz ∧ zz < 18446744069414584321 := by omega
  have Ezz : Hid (Eqm zz (z * z)) := by unfold Hid; rw [← hzz]; exact Eqm.mod _
  obtain ⟨lzz, rzz⟩ := bd_zz
  clear hzz
  go_wp2_with fail
  refine (small_halves z zz _ (by omega) (by omega) (by omega) (by omega)).mono ?_; rintro e w' ⟨rfl, rfl⟩
  obtain ⟨cc, hcc⟩ : ∃ v, (z + zz) * hf % 18446744069414584321 = v := ⟨_, rfl⟩
  rw [hcc]
  have bd_cc : 0 ≤ cc ∧ cc < 18446744069414584321 := by omega
  have Ecc : Hid (Eqm cc ((z + zz) * hf)) := by unfold Hid; rw [← hcc]; exact Eqm.mod _
  obtain ⟨lcc, rcc⟩ := bd_cc
  clear hcc
  obtain ⟨ss, hss⟩ : ∃ v, (z - zz) * hf % 18446744069414584321 = v := ⟨_, rfl⟩
  rw [hss]
  have bd_ss : 0 ≤ ss ∧ ss < 18446744069414584321 := by omega
  have Ess : Hid (Eqm ss ((z - zz) * hf)) := by unfold Hid; rw [← hss]; exact Eqm.mod _
  obtain ⟨lss, rss⟩ := bd_ss
  clear hss
  go_wp2_with fail
  go_quiet ((go_at_call 94; exact Calls.quiet_of_same (flipW (small_both b c _ (by omega) (by omega) (by omega) (by omega)))))
  obtain ⟨t, ht⟩ : ∃ v, (b + c) % 18446744069414584321 = v := ⟨_, rfl⟩
  rw [ht]
  have bd_t : 0 ≤ t ∧ t < 18446744069414584321 := by omega
  have Et : Hid (Eqm t (b + c)) := by unfold Hid; rw [← ht]; exact Eqm.mod _
  obtain ⟨lt, rt⟩ := bd_t
  clear ht
  obtain ⟨d, hd⟩ : ∃ v, (b - c) % 18446744069414584321 = v := ⟨_, rfl⟩
  rw [hd]
  have bd_d : 0 ≤ d ∧ d < 18446744069414584321 := by omega
  have Ed : Hid (Eqm d (b - c)) := by unfold Hid; rw [← hd]; exact Eqm.mod _
  obtain ⟨ld, rd⟩ := bd_d
  clear hd
  have hb1 := below_drewN (Below.refl w.heap.size w) nq
  have k0 := (hb1.cell (World.block_lt_of_cell? _ _ k0)).trans k0
  obtain ⟨w1, hw1⟩ : ∃ w', w.drewN nq = w' := ⟨_, rfl⟩
  rw [hw1] at hb1 k0 ⊢
  clear hw1
  go_wp2_with fail
  go_quiet ((first | (go_at_call 65; exact Calls.quiet_of_same (flipW (gold_Mul cc t _ (by omega) (by omega) (by omega) (by omega)))) | (go_at_call 74; exact Calls.quiet_of_same (flipW (gold_Add a (cc * t % 18446744069414584321) _ (by omega) (by omega) (by omega) (by omega))))))
  obtain ⟨v, hv⟩ : ∃ v, (a + cc * t % 18446744069414584321) % 18446744069414584321 = v := ⟨_, rfl⟩
  rw [hv]
  have bd_v : 0 ≤ v ∧ v < 18446744069414584321 := by omega
  have Ev : Hid (Eqm v (a + cc * t % 18446744069414584321)) := by unfold Hid; rw [← hv]; exact Eqm.mod _
  obtain ⟨lv, rv⟩ := bd_v
  clear hv
  have hb2 := below_drewN (Below.refl w1.heap.size w1) nq
  have k0 := (hb2.cell (World.block_lt_of_cell? _ _ k0)).trans k0
  obtain ⟨w2, hw2⟩ : ∃ w', w1.drewN nq = w' := ⟨_, rfl⟩
  rw [hw2] at hb2 k0 ⊢
  clear hw2
  go_wp2_with fail
  refine (gold_Mul ss d _ (by omega) (by omega) (by omega) (by omega)).mono ?_; rintro e w' ⟨rfl, rfl⟩
  obtain ⟨y, hy⟩ : ∃ v, ss * d % 18446744069414584321 = v := ⟨_, rfl⟩
  rw [hy]
  have bd_y : 0 ≤ y ∧ y < 18446744069414584321 := by omega
  have Ey : Hid (Eqm y (ss * d)) := by unfold Hid; rw [← hy]; exact Eqm.mod _
  obtain ⟨ly, ry⟩ := bd_y
  clear hy
  go_wp2_with fail
  refine (gold_Add a t _ (by omega) (by omega) (by omega) (by omega)).mono ?_; rintro e w' ⟨rfl, rfl⟩
  go_wp2_with fail
  refine (gold_Add v y _ (by omega) (by omega) (by omega) (by omega)).mono ?_; rintro e w' ⟨rfl, rfl⟩
  go_wp2_with fail
  refine (gold_Sub v y _ (by omega) (by omega) (by omega) (by omega)).mono ?_; rintro e w' ⟨rfl, rfl⟩
  go_wp2_with fail
  go_ret
  refine gives_lit w w2 _ _ [(a + t) % 18446744069414584321, (v + y) % 18446744069414584321, (v - y) % 18446744069414584321] 3 _ rfl rfl ?_ (dftL_fits _ _) (by simp) (chain hb1 hb2)
  have e1 : Eqm cc ((z + z * z) * hf) := Ecc.out.trans (((rfl' z).add Ezz.out).mul (rfl' hf))
  have e2 : Eqm ss ((z - z * z) * hf) := Ess.out.trans (((rfl' z).sub Ezz.out).mul (rfl' hf))
  have e3 : Eqm v (a + (z + z * z) * hf * (b + c)) := Ev.out.trans ((rfl' a).add ((Eqm.mod _).trans (e1.mul Et.out)))
  have e4 : Eqm y ((z - z * z) * hf * (b - c)) := Ey.out.trans (e2.mul Ed.out)
  have h2 := hf2
  generalize hf = h at *
  refine three_eq a b c z u _ _ _ HR.out (by omega) (by omega) (by omega) ((Eqm.mod _).trans (((rfl' a).add Et.out).trans (by rw [Int.add_assoc]; exact rfl' _))) ((Eqm.mod _).trans ((e3.add e4).trans (eqm_of _ _ (z * b + z * z * c) (by grind)))) ((Eqm.mod _).trans ((e3.sub e4).trans (eqm_of _ _ (z * c + z * z * b) (by grind))))

theorem litRowD (w : World) (t : TypeId) (n : Nat) (xs : List Int) (hn : n = w.heap.size) (hw : ∀ x ∈ xs, 0 ≤ x ∧ x < 18446744073709551616) (hl : xs.length ≤ 100) : Row .u64 ((w.alloc (.cells (xs.map (Value.int .u64)).toArray t)).drew) (some ⟨n, 0, none⟩) xs :=
  (litRow w t n xs hn hw hl).below ((Below.refl _ _).drew)
theorem gold_Sum3 (a b c : Int) (n : Nat) (W w : World) (t : TypeId) (hW : W = (w.alloc (.cells #[.int .u64 a, .int .u64 b, .int .u64 c] t)).drew) (hn : n = w.heap.size) (ha : 0 ≤ a ∧ a < 18446744073709551616) (hb : 0 ≤ b ∧ b < 18446744073709551616) (hc : 0 ≤ c ∧ c < 18446744073709551616) :
    Calls Try.prog 96 #[.slice (some ⟨n, 0, none⟩) 3 3] W fun e w' => e = .returned (.int .u64 (sumP [a, b, c])) ∧ W = w' := by
  subst hW
  refine gold_Sum (some ⟨n, 0, none⟩) 3 [a, b, c] _ (litRowD w t n [a, b, c] hn (fun x hx => ?_) (by simp))
  simp only [List.mem_cons, List.not_mem_nil, or_false] at hx
  rcases hx with rfl | rfl | rfl
  · exact ha
  · exact hb
  · exact hc
theorem gold_Sum3' (a b c : Int) (n : Nat) (W w : World) (t : TypeId) (hW : W = w.alloc (.cells #[.int .u64 a, .int .u64 b, .int .u64 c] t)) (hn : n = w.heap.size) (ha : 0 ≤ a ∧ a < 18446744073709551616) (hb : 0 ≤ b ∧ b < 18446744073709551616) (hc : 0 ≤ c ∧ c < 18446744073709551616) :
    Calls Try.prog 96 #[.slice (some ⟨n, 0, none⟩) 3 3] W fun e w' => e = .returned (.int .u64 (sumP [a, b, c])) ∧ W = w' := by
  subst hW
  refine gold_Sum (some ⟨n, 0, none⟩) 3 [a, b, c] _ (litRow w t n [a, b, c] hn (fun x hx => ?_) (by simp))
  simp only [List.mem_cons, List.not_mem_nil, or_false] at hx
  rcases hx with rfl | rfl | rfl
  · exact ha
  · exact hb
  · exact hc
theorem gives_litg (w : World) (g : Nat) (W : World) (t : TypeId) (xs ys : List Int) (n : Nat) (cs : Array Value) (hg : g = W.heap.size) (hc : cs = (ys.map (Value.int .u64)).toArray) (hn : n = ys.length) (h : ys = xs) (hf : ∀ x ∈ xs, fits .u64 x) (hl : ys.length ≤ 100) (hb : Below w.heap.size w W) :
    GivesRow .u64 xs w (.returned (.slice (some ⟨g, 0, none⟩) n n)) (W.alloc (.cells cs t)) := by
  subst hg
  exact gives_lit w W t xs ys n cs hc hn h hf hl hb
theorem sumP3 (a b c : Int) : Eqm (sumP [a, b, c]) (a + b + c) := by
  show Eqm ((((0 + a) % 18446744069414584321 + b) % 18446744069414584321 + c) % 18446744069414584321) (a + b + c)
  unfold Eqm; omega

set_option maxHeartbeats 1000000 in
theorem small_four (ad : Option Addr) (cap : Nat) (a b c d z u : Int) (w : World) (hx : Row .u64 w ad [a, b, c, d]) (hr : IsRoot z u 4) (hz0 : 0 ≤ z) (hz1 : z < 18446744069414584321) :
    Calls Try.prog 87 #[.slice ad 4 cap, .int .u64 z] w (GivesRow .u64 (dftL [a, b, c, d] z) w) := by
  obtain ⟨bk, o, rfl, hc⟩ := hx.at (by simp)
  have k0 : w.cell? ⟨bk, o + 0, none⟩ = some (.int .u64 a) := hc 0 (by simp)
  obtain ⟨p0, q0⟩ := fits_u64.1 (hx.wf a (by simp))
  have k1 : w.cell? ⟨bk, o + 1, none⟩ = some (.int .u64 b) := hc 1 (by simp)
  obtain ⟨p1, q1⟩ := fits_u64.1 (hx.wf b (by simp))
  have k2 : w.cell? ⟨bk, o + 2, none⟩ = some (.int .u64 c) := hc 2 (by simp)
  obtain ⟨p2, q2⟩ := fits_u64.1 (hx.wf c (by simp))
  have k3 : w.cell? ⟨bk, o + 3, none⟩ = some (.int .u64 d) := hc 3 (by simp)
  obtain ⟨p3, q3⟩ := fits_u64.1 (hx.wf d (by simp))
  rw [Nat.add_zero] at k0
  have HR := Lib.hid hr
  clear hc hx hr
  go_enter Try.func87, Try.ntmps87
  go_wp2_with fail
  go_quiet ((go_at_call 94; exact Calls.quiet_of_same (flipW (small_both a c _ (by omega) (by omega) (by omega) (by omega)))))
  obtain ⟨s, hs⟩ : ∃ v, (a + c) % 18446744069414584321 = v := ⟨_, rfl⟩
  rw [hs]
  have bd_s : 0 ≤ s ∧ s < 18446744069414584321 := by omega
  have Es : Hid (Eqm s (a + c)) := by unfold Hid; rw [← hs]; exact Eqm.mod _
  obtain ⟨ls, rs⟩ := bd_s
  clear hs
  obtain ⟨t, ht⟩ : ∃ v, (a - c) % 18446744069414584321 = v := ⟨_, rfl⟩
  rw [ht]
  have bd_t : 0 ≤ t ∧ t < 18446744069414584321 := by omega
  have Et : Hid (Eqm t (a - c)) := by unfold Hid; rw [← ht]; exact Eqm.mod _
  obtain ⟨lt, rt⟩ := bd_t
  clear ht
  have hb1 := below_drewN (Below.refl w.heap.size w) nq
  have k1 := (hb1.cell (World.block_lt_of_cell? _ _ k1)).trans k1
  have k3 := (hb1.cell (World.block_lt_of_cell? _ _ k3)).trans k3
  obtain ⟨w1, hw1⟩ : ∃ w', w.drewN nq = w' := ⟨_, rfl⟩
  rw [hw1] at hb1 k1 k3 ⊢
  clear hw1
  go_wp2_with fail
  go_quiet ((go_at_call 94; exact Calls.quiet_of_same (flipW (small_both b d _ (by omega) (by omega) (by omega) (by omega)))))
  obtain ⟨p, hp⟩ : ∃ v, (b + d) % 18446744069414584321 = v := ⟨_, rfl⟩
  rw [hp]
  have bd_p : 0 ≤ p ∧ p < 18446744069414584321 := by omega
  have Ep : Hid (Eqm p (b + d)) := by unfold Hid; rw [← hp]; exact Eqm.mod _
  obtain ⟨lp, rp⟩ := bd_p
  clear hp
  obtain ⟨q, hq⟩ : ∃ v, (b - d) % 18446744069414584321 = v := ⟨_, rfl⟩
  rw [hq]
  have bd_q : 0 ≤ q ∧ q < 18446744069414584321 := by omega
  have Eq_ : Hid (Eqm q (b - d)) := by unfold Hid; rw [← hq]; exact Eqm.mod _
  obtain ⟨lq, rq⟩ := bd_q
  clear hq
  have hb2 := below_drewN (Below.refl w1.heap.size w1) nq
  obtain ⟨w2, hw2⟩ : ∃ w', w1.drewN nq = w' := ⟨_, rfl⟩
  rw [hw2] at hb2 ⊢
  clear hw2
  go_wp2_with fail
  refine (gold_Mul q z _ (by omega) (by omega) (by omega) (by omega)).mono ?_; rintro e w' ⟨rfl, rfl⟩
  obtain ⟨y, hy⟩ : ∃ v, q * z % 18446744069414584321 = v := ⟨_, rfl⟩
  rw [hy]
  have bd_y : 0 ≤ y ∧ y < 18446744069414584321 := by omega
  have Ey : Hid (Eqm y (q * z)) := by unfold Hid; rw [← hy]; exact Eqm.mod _
  obtain ⟨ly, ry⟩ := bd_y
  clear hy
  go_wp2_with fail
  refine (gold_Add s p _ (by omega) (by omega) (by omega) (by omega)).mono ?_; rintro e w' ⟨rfl, rfl⟩
  go_wp2_with fail
  refine (gold_Add t y _ (by omega) (by omega) (by omega) (by omega)).mono ?_; rintro e w' ⟨rfl, rfl⟩
  go_wp2_with fail
  refine (gold_Sub s p _ (by omega) (by omega) (by omega) (by omega)).mono ?_; rintro e w' ⟨rfl, rfl⟩
  go_wp2_with fail
  refine (gold_Sub t y _ (by omega) (by omega) (by omega) (by omega)).mono ?_; rintro e w' ⟨rfl, rfl⟩
  go_wp2_with fail
  go_ret
  refine gives_lit w w2 _ _ [(s + p) % 18446744069414584321, (t + y) % 18446744069414584321, (s - p) % 18446744069414584321, (t - y) % 18446744069414584321] 4 _ rfl rfl ?_ (dftL_fits _ _) (by simp) (chain hb1 hb2)
  obtain ⟨m, hm⟩ := eqm_wit (root_half HR.out 2 rfl (by omega))
  have e1 : Eqm y ((b - d) * z) := Ey.out.trans (Eq_.out.mul (rfl' z))
  refine four_eq a b c d z u _ _ _ _ HR.out (by omega) (by omega) (by omega) (by omega) ((Eqm.mod _).trans ((Es.out.add Ep.out).trans (eqm_of _ _ 0 (by grind)))) ((Eqm.mod _).trans ((Et.out.add e1).trans (eqm_of _ _ (-(m * (c + d * z))) (by grind)))) ((Eqm.mod _).trans ((Es.out.sub Ep.out).trans (eqm_of _ _ (-(m * (b + d))) (by grind)))) ((Eqm.mod _).trans ((Et.out.sub e1).trans (eqm_of _ _ (-(m * (c + b * z))) (by grind))))

set_option maxHeartbeats 1000000 in
theorem small_five (ad : Option Addr) (cap : Nat) (a b c d e z u : Int) (w : World) (hx : Row .u64 w ad [a, b, c, d, e]) (hr : IsRoot z u 5) (hz0 : 0 ≤ z) (hz1 : z < 18446744069414584321) :
    Calls Try.prog 88 #[.slice ad 5 cap, .int .u64 z] w (GivesRow .u64 (dftL [a, b, c, d, e] z) w) := by
  obtain ⟨bk, o, rfl, hc⟩ := hx.at (by simp)
  have k0 : w.cell? ⟨bk, o + 0, none⟩ = some (.int .u64 a) := hc 0 (by simp)
  obtain ⟨p0, q0⟩ := fits_u64.1 (hx.wf a (by simp))
  have k1 : w.cell? ⟨bk, o + 1, none⟩ = some (.int .u64 b) := hc 1 (by simp)
  obtain ⟨p1, q1⟩ := fits_u64.1 (hx.wf b (by simp))
  have k2 : w.cell? ⟨bk, o + 2, none⟩ = some (.int .u64 c) := hc 2 (by simp)
  obtain ⟨p2, q2⟩ := fits_u64.1 (hx.wf c (by simp))
  have k3 : w.cell? ⟨bk, o + 3, none⟩ = some (.int .u64 d) := hc 3 (by simp)
  obtain ⟨p3, q3⟩ := fits_u64.1 (hx.wf d (by simp))
  have k4 : w.cell? ⟨bk, o + 4, none⟩ = some (.int .u64 e) := hc 4 (by simp)
  obtain ⟨p4, q4⟩ := fits_u64.1 (hx.wf e (by simp))
  rw [Nat.add_zero] at k0
  have HR := Lib.hid hr
  clear hc hx hr
  go_enter Try.func88, Try.ntmps88
  go_wp2_with fail
  refine (gold_Mul z z _ (by omega) (by omega) (by omega) (by omega)).mono ?_; rintro en w' ⟨rfl, rfl⟩
  obtain ⟨zz, hzz⟩ : ∃ v, z * z % 18446744069414584321 = v := ⟨_, rfl⟩
  rw [hzz]
  have bd_zz : 0 ≤ zz ∧ zz < 18446744069414584321 := by omega
  have Ezz : Hid (Eqm zz (z * z)) := by unfold Hid; rw [← hzz]; exact Eqm.mod _
  obtain ⟨lzz, rzz⟩ := bd_zz
  clear hzz
  go_wp2_with fail
  refine (gold_Mul zz zz _ (by omega) (by omega) (by omega) (by omega)).mono ?_; rintro en w' ⟨rfl, rfl⟩
  obtain ⟨z4, hz4⟩ : ∃ v, zz * zz % 18446744069414584321 = v := ⟨_, rfl⟩
  rw [hz4]
  have bd_z4 : 0 ≤ z4 ∧ z4 < 18446744069414584321 := by omega
  have Ez4 : Hid (Eqm z4 (zz * zz)) := by unfold Hid; rw [← hz4]; exact Eqm.mod _
  obtain ⟨lz4, rz4⟩ := bd_z4
  clear hz4
  go_wp2_with fail
  refine (small_halves z z4 _ (by omega) (by omega) (by omega) (by omega)).mono ?_; rintro en w' ⟨rfl, rfl⟩
  obtain ⟨c1, hc1⟩ : ∃ v, (z + z4) * hf % 18446744069414584321 = v := ⟨_, rfl⟩
  rw [hc1]
  have bd_c1 : 0 ≤ c1 ∧ c1 < 18446744069414584321 := by omega
  have Ec1 : Hid (Eqm c1 ((z + z4) * hf)) := by unfold Hid; rw [← hc1]; exact Eqm.mod _
  obtain ⟨lc1, rc1⟩ := bd_c1
  clear hc1
  obtain ⟨s1, hs1⟩ : ∃ v, (z - z4) * hf % 18446744069414584321 = v := ⟨_, rfl⟩
  rw [hs1]
  have bd_s1 : 0 ≤ s1 ∧ s1 < 18446744069414584321 := by omega
  have Es1 : Hid (Eqm s1 ((z - z4) * hf)) := by unfold Hid; rw [← hs1]; exact Eqm.mod _
  obtain ⟨ls1, rs1⟩ := bd_s1
  clear hs1
  go_wp2_with fail
  refine (gold_Mul zz z _ (by omega) (by omega) (by omega) (by omega)).mono ?_; rintro en w' ⟨rfl, rfl⟩
  obtain ⟨z3, hz3⟩ : ∃ v, zz * z % 18446744069414584321 = v := ⟨_, rfl⟩
  rw [hz3]
  have bd_z3 : 0 ≤ z3 ∧ z3 < 18446744069414584321 := by omega
  have Ez3 : Hid (Eqm z3 (zz * z)) := by unfold Hid; rw [← hz3]; exact Eqm.mod _
  obtain ⟨lz3, rz3⟩ := bd_z3
  clear hz3
  go_wp2_with fail
  refine (small_halves zz z3 _ (by omega) (by omega) (by omega) (by omega)).mono ?_; rintro en w' ⟨rfl, rfl⟩
  obtain ⟨c2, hc2⟩ : ∃ v, (zz + z3) * hf % 18446744069414584321 = v := ⟨_, rfl⟩
  rw [hc2]
  have bd_c2 : 0 ≤ c2 ∧ c2 < 18446744069414584321 := by omega
  have Ec2 : Hid (Eqm c2 ((zz + z3) * hf)) := by unfold Hid; rw [← hc2]; exact Eqm.mod _
  obtain ⟨lc2, rc2⟩ := bd_c2
  clear hc2
  obtain ⟨s2, hs2⟩ : ∃ v, (zz - z3) * hf % 18446744069414584321 = v := ⟨_, rfl⟩
  rw [hs2]
  have bd_s2 : 0 ≤ s2 ∧ s2 < 18446744069414584321 := by omega
  have Es2 : Hid (Eqm s2 ((zz - z3) * hf)) := by unfold Hid; rw [← hs2]; exact Eqm.mod _
  obtain ⟨ls2, rs2⟩ := bd_s2
  clear hs2
  go_wp2_with fail
  go_quiet ((go_at_call 94; exact Calls.quiet_of_same (flipW (small_both b e _ (by omega) (by omega) (by omega) (by omega)))))
  obtain ⟨t1, ht1⟩ : ∃ v, (b + e) % 18446744069414584321 = v := ⟨_, rfl⟩
  rw [ht1]
  have bd_t1 : 0 ≤ t1 ∧ t1 < 18446744069414584321 := by omega
  have Et1 : Hid (Eqm t1 (b + e)) := by unfold Hid; rw [← ht1]; exact Eqm.mod _
  obtain ⟨lt1, rt1⟩ := bd_t1
  clear ht1
  obtain ⟨d1, hd1⟩ : ∃ v, (b - e) % 18446744069414584321 = v := ⟨_, rfl⟩
  rw [hd1]
  have bd_d1 : 0 ≤ d1 ∧ d1 < 18446744069414584321 := by omega
  have Ed1 : Hid (Eqm d1 (b - e)) := by unfold Hid; rw [← hd1]; exact Eqm.mod _
  obtain ⟨ld1, rd1⟩ := bd_d1
  clear hd1
  have hb1 := below_drewN (Below.refl w.heap.size w) nq
  have k0 := (hb1.cell (World.block_lt_of_cell? _ _ k0)).trans k0
  have k2 := (hb1.cell (World.block_lt_of_cell? _ _ k2)).trans k2
  have k3 := (hb1.cell (World.block_lt_of_cell? _ _ k3)).trans k3
  obtain ⟨w1, hw1⟩ : ∃ w', w.drewN nq = w' := ⟨_, rfl⟩
  rw [hw1] at hb1 k0 k2 k3 ⊢
  clear hw1
  go_wp2_with fail
  go_quiet ((go_at_call 94; exact Calls.quiet_of_same (flipW (small_both c d _ (by omega) (by omega) (by omega) (by omega)))))
  obtain ⟨t2, ht2⟩ : ∃ v, (c + d) % 18446744069414584321 = v := ⟨_, rfl⟩
  rw [ht2]
  have bd_t2 : 0 ≤ t2 ∧ t2 < 18446744069414584321 := by omega
  have Et2 : Hid (Eqm t2 (c + d)) := by unfold Hid; rw [← ht2]; exact Eqm.mod _
  obtain ⟨lt2, rt2⟩ := bd_t2
  clear ht2
  obtain ⟨d2, hd2⟩ : ∃ v, (c - d) % 18446744069414584321 = v := ⟨_, rfl⟩
  rw [hd2]
  have bd_d2 : 0 ≤ d2 ∧ d2 < 18446744069414584321 := by omega
  have Ed2 : Hid (Eqm d2 (c - d)) := by unfold Hid; rw [← hd2]; exact Eqm.mod _
  obtain ⟨ld2, rd2⟩ := bd_d2
  clear hd2
  have hb2 := below_drewN (Below.refl w1.heap.size w1) nq
  have k0 := (hb2.cell (World.block_lt_of_cell? _ _ k0)).trans k0
  obtain ⟨w2, hw2⟩ : ∃ w', w1.drewN nq = w' := ⟨_, rfl⟩
  rw [hw2] at hb2 k0 ⊢
  clear hw2
  go_wp2_with fail
  go_region_held3 (fun w' => w'.cell? ⟨bk, o, none⟩ = some (.int .u64 a)) (go_keep) ((first | (go_at_call 65; refine (gold_Mul _ _ _ (by omega) (by omega) (by omega) (by omega)).mono ?_; rintro en w' ⟨rfl, rfl⟩) | (go_at_call 96; refine (gold_Sum3 _ _ _ _ _ w2 _ (by rfl) (by simp) ⟨p0, q0⟩ (by omega) (by omega)).mono ?_; rintro en w' ⟨rfl, rfl⟩)))
  have hb3 : Below w2.heap.size w2 ((w2.alloc (.cells #[.int .u64 a, .int .u64 (c1 * t1 % 18446744069414584321), .int .u64 (c2 * t2 % 18446744069414584321)] 45)).drew) := ((Below.refl _ _).alloc (Nat.le_refl _) _).drew
  have k0 := (hb3.cell (World.block_lt_of_cell? _ _ k0)).trans k0
  obtain ⟨w3, hw3⟩ : ∃ w', (w2.alloc (.cells #[.int .u64 a, .int .u64 (c1 * t1 % 18446744069414584321), .int .u64 (c2 * t2 % 18446744069414584321)] 45)).drew = w' := ⟨_, rfl⟩
  rw [hw3] at hb3 k0 ⊢
  clear hw3
  obtain ⟨va, hva⟩ : ∃ v, sumP [a, c1 * t1 % 18446744069414584321, c2 * t2 % 18446744069414584321] = v := ⟨_, rfl⟩
  rw [hva]
  have bd_va := sumP_range [a, c1 * t1 % 18446744069414584321, c2 * t2 % 18446744069414584321]
  rw [hva] at bd_va
  have Eva : Hid (Eqm va (a + c1 * t1 % 18446744069414584321 + c2 * t2 % 18446744069414584321)) := by unfold Hid; rw [← hva]; exact sumP3 _ _ _
  obtain ⟨lva, rva⟩ := bd_va
  clear hva
  go_wp2_with fail
  go_region_held3 (fun w' => w'.cell? ⟨bk, o, none⟩ = some (.int .u64 a)) (go_keep) ((first | (go_at_call 65; refine (gold_Mul _ _ _ (by omega) (by omega) (by omega) (by omega)).mono ?_; rintro en w' ⟨rfl, rfl⟩) | (go_at_call 96; refine (gold_Sum3 _ _ _ _ _ w3 _ (by rfl) (by simp) ⟨p0, q0⟩ (by omega) (by omega)).mono ?_; rintro en w' ⟨rfl, rfl⟩)))
  have hb4 : Below w3.heap.size w3 ((w3.alloc (.cells #[.int .u64 a, .int .u64 (c2 * t1 % 18446744069414584321), .int .u64 (c1 * t2 % 18446744069414584321)] 45)).drew) := ((Below.refl _ _).alloc (Nat.le_refl _) _).drew
  have k0 := (hb4.cell (World.block_lt_of_cell? _ _ k0)).trans k0
  obtain ⟨w4, hw4⟩ : ∃ w', (w3.alloc (.cells #[.int .u64 a, .int .u64 (c2 * t1 % 18446744069414584321), .int .u64 (c1 * t2 % 18446744069414584321)] 45)).drew = w' := ⟨_, rfl⟩
  rw [hw4] at hb4 k0 ⊢
  clear hw4
  obtain ⟨vb, hvb⟩ : ∃ v, sumP [a, c2 * t1 % 18446744069414584321, c1 * t2 % 18446744069414584321] = v := ⟨_, rfl⟩
  rw [hvb]
  have bd_vb := sumP_range [a, c2 * t1 % 18446744069414584321, c1 * t2 % 18446744069414584321]
  rw [hvb] at bd_vb
  have Evb : Hid (Eqm vb (a + c2 * t1 % 18446744069414584321 + c1 * t2 % 18446744069414584321)) := by unfold Hid; rw [← hvb]; exact sumP3 _ _ _
  obtain ⟨lvb, rvb⟩ := bd_vb
  clear hvb
  go_wp2_with fail
  refine (gold_Mul s1 d1 _ (by omega) (by omega) (by omega) (by omega)).mono ?_; rintro en w' ⟨rfl, rfl⟩
  obtain ⟨m1, hm1⟩ : ∃ v, s1 * d1 % 18446744069414584321 = v := ⟨_, rfl⟩
  rw [hm1]
  have bd_m1 : 0 ≤ m1 ∧ m1 < 18446744069414584321 := by omega
  have Em1 : Hid (Eqm m1 (s1 * d1)) := by unfold Hid; rw [← hm1]; exact Eqm.mod _
  obtain ⟨lm1, rm1⟩ := bd_m1
  clear hm1
  go_wp2_with fail
  refine (gold_Mul s2 d2 _ (by omega) (by omega) (by omega) (by omega)).mono ?_; rintro en w' ⟨rfl, rfl⟩
  obtain ⟨m2, hm2⟩ : ∃ v, s2 * d2 % 18446744069414584321 = v := ⟨_, rfl⟩
  rw [hm2]
  have bd_m2 : 0 ≤ m2 ∧ m2 < 18446744069414584321 := by omega
  have Em2 : Hid (Eqm m2 (s2 * d2)) := by unfold Hid; rw [← hm2]; exact Eqm.mod _
  obtain ⟨lm2, rm2⟩ := bd_m2
  clear hm2
  go_wp2_with fail
  refine (gold_Add m1 m2 _ (by omega) (by omega) (by omega) (by omega)).mono ?_; rintro en w' ⟨rfl, rfl⟩
  obtain ⟨vc, hvc⟩ : ∃ v, (m1 + m2) % 18446744069414584321 = v := ⟨_, rfl⟩
  rw [hvc]
  have bd_vc : 0 ≤ vc ∧ vc < 18446744069414584321 := by omega
  have Evc : Hid (Eqm vc (m1 + m2)) := by unfold Hid; rw [← hvc]; exact Eqm.mod _
  obtain ⟨lvc, rvc⟩ := bd_vc
  clear hvc
  go_wp2_with fail
  refine (gold_Mul s2 d1 _ (by omega) (by omega) (by omega) (by omega)).mono ?_; rintro en w' ⟨rfl, rfl⟩
  obtain ⟨m3, hm3⟩ : ∃ v, s2 * d1 % 18446744069414584321 = v := ⟨_, rfl⟩
  rw [hm3]
  have bd_m3 : 0 ≤ m3 ∧ m3 < 18446744069414584321 := by omega
  have Em3 : Hid (Eqm m3 (s2 * d1)) := by unfold Hid; rw [← hm3]; exact Eqm.mod _
  obtain ⟨lm3, rm3⟩ := bd_m3
  clear hm3
  go_wp2_with fail
  refine (gold_Mul s1 d2 _ (by omega) (by omega) (by omega) (by omega)).mono ?_; rintro en w' ⟨rfl, rfl⟩
  obtain ⟨m4, hm4⟩ : ∃ v, s1 * d2 % 18446744069414584321 = v := ⟨_, rfl⟩
  rw [hm4]
  have bd_m4 : 0 ≤ m4 ∧ m4 < 18446744069414584321 := by omega
  have Em4 : Hid (Eqm m4 (s1 * d2)) := by unfold Hid; rw [← hm4]; exact Eqm.mod _
  obtain ⟨lm4, rm4⟩ := bd_m4
  clear hm4
  go_wp2_with fail
  refine (gold_Sub m3 m4 _ (by omega) (by omega) (by omega) (by omega)).mono ?_; rintro en w' ⟨rfl, rfl⟩
  obtain ⟨vd, hvd⟩ : ∃ v, (m3 - m4) % 18446744069414584321 = v := ⟨_, rfl⟩
  rw [hvd]
  have bd_vd : 0 ≤ vd ∧ vd < 18446744069414584321 := by omega
  have Evd : Hid (Eqm vd (m3 - m4)) := by unfold Hid; rw [← hvd]; exact Eqm.mod _
  obtain ⟨lvd, rvd⟩ := bd_vd
  clear hvd
  go_wp2_with fail
  refine (gold_Sum3' a t1 t2 _ _ w4 _ rfl rfl ⟨p0, q0⟩ (by omega) (by omega)).mono ?_; rintro en w' ⟨rfl, rfl⟩
  obtain ⟨v0, hv0⟩ : ∃ v, sumP [a, t1, t2] = v := ⟨_, rfl⟩
  rw [hv0]
  have bd_v0 := sumP_range [a, t1, t2]
  rw [hv0] at bd_v0
  have Ev0 : Hid (Eqm v0 (a + t1 + t2)) := by unfold Hid; rw [← hv0]; exact sumP3 _ _ _
  obtain ⟨lv0, rv0⟩ := bd_v0
  clear hv0
  go_wp2_with fail
  refine (gold_Add va vc _ (by omega) (by omega) (by omega) (by omega)).mono ?_; rintro en w' ⟨rfl, rfl⟩
  go_wp2_with fail
  refine (gold_Add vb vd _ (by omega) (by omega) (by omega) (by omega)).mono ?_; rintro en w' ⟨rfl, rfl⟩
  go_wp2_with fail
  refine (gold_Sub vb vd _ (by omega) (by omega) (by omega) (by omega)).mono ?_; rintro en w' ⟨rfl, rfl⟩
  go_wp2_with fail
  refine (gold_Sub va vc _ (by omega) (by omega) (by omega) (by omega)).mono ?_; rintro en w' ⟨rfl, rfl⟩
  go_wp2_with fail
  go_ret
  refine gives_litg w (w4.heap.size + 1) (w4.alloc (.cells #[.int .u64 a, .int .u64 t1, .int .u64 t2] 45)) _ _ [v0, (va + vc) % 18446744069414584321, (vb + vd) % 18446744069414584321, (vb - vd) % 18446744069414584321, (va - vc) % 18446744069414584321] 5 _ (by simp) rfl rfl ?_ (dftL_fits _ _) (by simp) ((chain (chain (chain hb1 hb2) hb3) hb4).alloc (chain (chain (chain hb1 hb2) hb3) hb4).size _)
  have e4 : Eqm z4 (z * z * (z * z)) := Ez4.out.trans (Ezz.out.mul Ezz.out)
  have e3 : Eqm z3 (z * z * z) := Ez3.out.trans (Ezz.out.mul (rfl' z))
  have ec1 : Eqm c1 ((z + z * z * (z * z)) * hf) := Ec1.out.trans (((rfl' z).add e4).mul (rfl' hf))
  have es1 : Eqm s1 ((z - z * z * (z * z)) * hf) := Es1.out.trans (((rfl' z).sub e4).mul (rfl' hf))
  have ec2 : Eqm c2 ((z * z + z * z * z) * hf) := Ec2.out.trans ((Ezz.out.add e3).mul (rfl' hf))
  have es2 : Eqm s2 ((z * z - z * z * z) * hf) := Es2.out.trans ((Ezz.out.sub e3).mul (rfl' hf))
  have ea : Eqm va (a + (z + z * z * (z * z)) * hf * (b + e) + (z * z + z * z * z) * hf * (c + d)) := Eva.out.trans (((rfl' a).add ((Eqm.mod _).trans (ec1.mul Et1.out))).add ((Eqm.mod _).trans (ec2.mul Et2.out)))
  have eb : Eqm vb (a + (z * z + z * z * z) * hf * (b + e) + (z + z * z * (z * z)) * hf * (c + d)) := Evb.out.trans (((rfl' a).add ((Eqm.mod _).trans (ec2.mul Et1.out))).add ((Eqm.mod _).trans (ec1.mul Et2.out)))
  have ecc : Eqm vc ((z - z * z * (z * z)) * hf * (b - e) + (z * z - z * z * z) * hf * (c - d)) := Evc.out.trans ((Em1.out.trans (es1.mul Ed1.out)).add (Em2.out.trans (es2.mul Ed2.out)))
  have ed : Eqm vd ((z * z - z * z * z) * hf * (b - e) - (z - z * z * (z * z)) * hf * (c - d)) := Evd.out.trans ((Em3.out.trans (es2.mul Ed1.out)).sub (Em4.out.trans (es1.mul Ed2.out)))
  have h2 := hf2
  generalize hf = h at *
  refine five_eq a b c d e z u _ _ _ _ _ HR.out ⟨lv0, rv0⟩ (by omega) (by omega) (by omega) (by omega) (Ev0.out.trans ((((rfl' a).add Et1.out).add Et2.out).trans (eqm_of _ _ 0 (by grind)))) ((Eqm.mod _).trans ((ea.add ecc).trans (eqm_of _ _ (z * b + z ^ 2 * c + z ^ 3 * d + z ^ 4 * e) (by grind)))) ((Eqm.mod _).trans ((eb.add ed).trans (eqm_of _ _ (z ^ 2 * b + z ^ 4 * c + z * d + z ^ 3 * e) (by grind)))) ((Eqm.mod _).trans ((eb.sub ed).trans (eqm_of _ _ (z ^ 3 * b + z * c + z ^ 4 * d + z ^ 2 * e) (by grind)))) ((Eqm.mod _).trans ((ea.sub ecc).trans (eqm_of _ _ (z ^ 4 * b + z ^ 3 * c + z ^ 2 * d + z * e) (by grind))))

end Go.Proofs.Ytlgklkhijmeldaa
