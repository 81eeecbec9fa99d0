/- The contracts and plain laws that the statements ChooseFirst ChooseMeasures ChooseBest need, part 6 of 11: SmallB SmallC SmallD ChirpE MapB NeedL NeedA NeedB TabA TabB RowAdd NeedC NeedD. -/
import Derived.Test.YtlnlijeamflpiaaGreatChB5
namespace Go.Proofs.YtlnlijeamflpiaaGreat
open Go.RowKit Sm
set_option linter.unusedVariables false
set_option linter.unusedSimpArgs false
set_option maxRecDepth 100000
set_option maxHeartbeats 1000000 in
theorem small_three (ad : Option Addr) (cap : Nat) (a b c z u : Int) (w : World) (hx : Row .u64 w ad [a, b, c]) (hr : IsRoot z u 3) (hz0 : 0 ≤ z) (hz1 : z < 18446744069414584321) :
    Calls Tryz.prog 204 #[.slice ad 3 cap, .int .u64 z] w (GivesOwn .u64 23 (dftL [a, b, c] z) w) := by
  obtain ⟨bk, o, rfl, hc⟩ := hx.at (by simp)
  have k0 : w.cell? ⟨bk, o + 0, none⟩ = some (.int .u64 a) := hc 0 (by simp)
  obtain ⟨p0, q0⟩ := fits_u64.1 (hx.wf a (by simp))
  have k1 : w.cell? ⟨bk, o + 1, none⟩ = some (.int .u64 b) := hc 1 (by simp)
  obtain ⟨p1, q1⟩ := fits_u64.1 (hx.wf b (by simp))
  have k2 : w.cell? ⟨bk, o + 2, none⟩ = some (.int .u64 c) := hc 2 (by simp)
  obtain ⟨p2, q2⟩ := fits_u64.1 (hx.wf c (by simp))
  rw [Nat.add_zero] at k0
  have HR := Lib.hid hr
  clear hc hx hr
  go_enter Tryz.func204, Tryz.ntmps204
  go_wp2_with fail
  refine (gold_Mul z z _ (by omega) (by omega) (by omega) (by omega)).mono ?_; rintro e w' ⟨rfl, rfl⟩
  obtain ⟨zz, hzz⟩ : ∃ v, z * z % 18446744069414584321 = v := ⟨_, rfl⟩
  rw [hzz]
  have bd_zz : 0 ≤ zz ∧ zz < 18446744069414584321 := by omega
  have Ezz : Hid (Eqm zz (z * z)) := by unfold Hid; rw [← hzz]; exact Eqm.mod _
  obtain ⟨lzz, rzz⟩ := bd_zz
  clear hzz
  go_wp2_with fail
  refine (small_halves z zz _ (by omega) (by omega) (by omega) (by omega)).mono ?_; rintro e w' ⟨rfl, rfl⟩
  obtain ⟨cc, hcc⟩ : ∃ v, (z + zz) * hf % 18446744069414584321 = v := ⟨_, rfl⟩
  rw [hcc]
  have bd_cc : 0 ≤ cc ∧ cc < 18446744069414584321 := by omega
  have Ecc : Hid (Eqm cc ((z + zz) * hf)) := by unfold Hid; rw [← hcc]; exact Eqm.mod _
  obtain ⟨lcc, rcc⟩ := bd_cc
  clear hcc
  obtain ⟨ss, hss⟩ : ∃ v, (z - zz) * hf % 18446744069414584321 = v := ⟨_, rfl⟩
  rw [hss]
  have bd_ss : 0 ≤ ss ∧ ss < 18446744069414584321 := by omega
  have Ess : Hid (Eqm ss ((z - zz) * hf)) := by unfold Hid; rw [← hss]; exact Eqm.mod _
  obtain ⟨lss, rss⟩ := bd_ss
  clear hss
  go_wp2_with fail
  go_quiet ((go_at_call 209; exact Calls.quiet_of_same (flipW (small_both b c _ (by omega) (by omega) (by omega) (by omega)))))
  obtain ⟨t, ht⟩ : ∃ v, (b + c) % 18446744069414584321 = v := ⟨_, rfl⟩
  rw [ht]
  have bd_t : 0 ≤ t ∧ t < 18446744069414584321 := by omega
  have Et : Hid (Eqm t (b + c)) := by unfold Hid; rw [← ht]; exact Eqm.mod _
  obtain ⟨lt, rt⟩ := bd_t
  clear ht
  obtain ⟨d, hd⟩ : ∃ v, (b - c) % 18446744069414584321 = v := ⟨_, rfl⟩
  rw [hd]
  have bd_d : 0 ≤ d ∧ d < 18446744069414584321 := by omega
  have Ed : Hid (Eqm d (b - c)) := by unfold Hid; rw [← hd]; exact Eqm.mod _
  obtain ⟨ld, rd⟩ := bd_d
  clear hd
  have hb1 := below_drewN (Below.refl w.heap.size w) nq
  have k0 := (hb1.cell (World.block_lt_of_cell? _ _ k0)).trans k0
  obtain ⟨w1, hw1⟩ : ∃ w', w.drewN nq = w' := ⟨_, rfl⟩
  rw [hw1] at hb1 k0 ⊢
  clear hw1
  go_wp2_with fail
  go_quiet ((first | (go_at_call 46; exact Calls.quiet_of_same (flipW (gold_Mul cc t _ (by omega) (by omega) (by omega) (by omega)))) | (go_at_call 45; exact Calls.quiet_of_same (flipW (gold_Add a (cc * t % 18446744069414584321) _ (by omega) (by omega) (by omega) (by omega))))))
  obtain ⟨v, hv⟩ : ∃ v, (a + cc * t % 18446744069414584321) % 18446744069414584321 = v := ⟨_, rfl⟩
  rw [hv]
  have bd_v : 0 ≤ v ∧ v < 18446744069414584321 := by omega
  have Ev : Hid (Eqm v (a + cc * t % 18446744069414584321)) := by unfold Hid; rw [← hv]; exact Eqm.mod _
  obtain ⟨lv, rv⟩ := bd_v
  clear hv
  have hb2 := below_drewN (Below.refl w1.heap.size w1) nq
  have k0 := (hb2.cell (World.block_lt_of_cell? _ _ k0)).trans k0
  obtain ⟨w2, hw2⟩ : ∃ w', w1.drewN nq = w' := ⟨_, rfl⟩
  rw [hw2] at hb2 k0 ⊢
  clear hw2
  go_wp2_with fail
  refine (gold_Mul ss d _ (by omega) (by omega) (by omega) (by omega)).mono ?_; rintro e w' ⟨rfl, rfl⟩
  obtain ⟨y, hy⟩ : ∃ v, ss * d % 18446744069414584321 = v := ⟨_, rfl⟩
  rw [hy]
  have bd_y : 0 ≤ y ∧ y < 18446744069414584321 := by omega
  have Ey : Hid (Eqm y (ss * d)) := by unfold Hid; rw [← hy]; exact Eqm.mod _
  obtain ⟨ly, ry⟩ := bd_y
  clear hy
  go_wp2_with fail
  refine (gold_Add a t _ (by omega) (by omega) (by omega) (by omega)).mono ?_; rintro e w' ⟨rfl, rfl⟩
  go_wp2_with fail
  refine (gold_Add v y _ (by omega) (by omega) (by omega) (by omega)).mono ?_; rintro e w' ⟨rfl, rfl⟩
  go_wp2_with fail
  refine (gold_Sub v y _ (by omega) (by omega) (by omega) (by omega)).mono ?_; rintro e w' ⟨rfl, rfl⟩
  go_wp2_with fail
  go_ret
  refine gives_lit w w2 _ _ [(a + t) % 18446744069414584321, (v + y) % 18446744069414584321, (v - y) % 18446744069414584321] 3 _ rfl rfl ?_ (dftL_fits _ _) (by simp) (chain hb1 hb2)
  have e1 : Eqm cc ((z + z * z) * hf) := Ecc.out.trans (((rfl' z).add Ezz.out).mul (rfl' hf))
  have e2 : Eqm ss ((z - z * z) * hf) := Ess.out.trans (((rfl' z).sub Ezz.out).mul (rfl' hf))
  have e3 : Eqm v (a + (z + z * z) * hf * (b + c)) := Ev.out.trans ((rfl' a).add ((Eqm.mod _).trans (e1.mul Et.out)))
  have e4 : Eqm y ((z - z * z) * hf * (b - c)) := Ey.out.trans (e2.mul Ed.out)
  have h2 := hf2
  generalize hf = h at *
  refine three_eq a b c z u _ _ _ HR.out (by omega) (by omega) (by omega) ((Eqm.mod _).trans (((rfl' a).add Et.out).trans (by rw [Int.add_assoc]; exact rfl' _))) ((Eqm.mod _).trans ((e3.add e4).trans (eqm_of _ _ (z * b + z * z * c) (by grind)))) ((Eqm.mod _).trans ((e3.sub e4).trans (eqm_of _ _ (z * c + z * z * b) (by grind))))
theorem litRowD (w : World) (t : TypeId) (n : Nat) (xs : List Int) (hn : n = w.heap.size) (hw : ∀ x ∈ xs, 0 ≤ x ∧ x < 18446744073709551616) (hl : xs.length ≤ 100) : Row .u64 ((w.alloc (.cells (xs.map (Value.int .u64)).toArray t)).drew) (some ⟨n, 0, none⟩) xs :=
  (litRow w t n xs hn hw hl).below ((Below.refl _ _).drew)
theorem gold_Sum3 (a b c : Int) (n : Nat) (W w : World) (t : TypeId) (hW : W = (w.alloc (.cells #[.int .u64 a, .int .u64 b, .int .u64 c] t)).drew) (hn : n = w.heap.size) (ha : 0 ≤ a ∧ a < 18446744073709551616) (hb : 0 ≤ b ∧ b < 18446744073709551616) (hc : 0 ≤ c ∧ c < 18446744073709551616) :
    Calls Tryz.prog 189 #[.slice (some ⟨n, 0, none⟩) 3 3] W fun e w' => e = .returned (.int .u64 (sumP [a, b, c])) ∧ W = w' := by
  subst hW
  refine gold_Sum (some ⟨n, 0, none⟩) 3 [a, b, c] _ (litRowD w t n [a, b, c] hn (fun x hx => ?_) (by simp))
  simp only [List.mem_cons, List.not_mem_nil, or_false] at hx
  rcases hx with rfl | rfl | rfl
  · exact ha
  · exact hb
  · exact hc
theorem gold_Sum3' (a b c : Int) (n : Nat) (W w : World) (t : TypeId) (hW : W = w.alloc (.cells #[.int .u64 a, .int .u64 b, .int .u64 c] t)) (hn : n = w.heap.size) (ha : 0 ≤ a ∧ a < 18446744073709551616) (hb : 0 ≤ b ∧ b < 18446744073709551616) (hc : 0 ≤ c ∧ c < 18446744073709551616) :
    Calls Tryz.prog 189 #[.slice (some ⟨n, 0, none⟩) 3 3] W fun e w' => e = .returned (.int .u64 (sumP [a, b, c])) ∧ W = w' := by
  subst hW
  refine gold_Sum (some ⟨n, 0, none⟩) 3 [a, b, c] _ (litRow w t n [a, b, c] hn (fun x hx => ?_) (by simp))
  simp only [List.mem_cons, List.not_mem_nil, or_false] at hx
  rcases hx with rfl | rfl | rfl
  · exact ha
  · exact hb
  · exact hc
theorem gives_litg (w : World) (g : Nat) (W : World) (t : TypeId) (xs ys : List Int) (n : Nat) (cs : Array Value) (hg : g = W.heap.size) (hc : cs = (ys.map (Value.int .u64)).toArray) (hn : n = ys.length) (h : ys = xs) (hf : ∀ x ∈ xs, fits .u64 x) (hl : ys.length ≤ 100) (hb : Below w.heap.size w W) :
    GivesOwn .u64 t xs w (.returned (.slice (some ⟨g, 0, none⟩) n n)) (W.alloc (.cells cs t)) := by
  subst hg
  exact gives_lit w W t xs ys n cs hc hn h hf hl hb
theorem sumP3 (a b c : Int) : Eqm (sumP [a, b, c]) (a + b + c) := by
  show Eqm ((((0 + a) % 18446744069414584321 + b) % 18446744069414584321 + c) % 18446744069414584321) (a + b + c)
  unfold Eqm; omega
set_option maxHeartbeats 1000000 in
theorem small_four (ad : Option Addr) (cap : Nat) (a b c d z u : Int) (w : World) (hx : Row .u64 w ad [a, b, c, d]) (hr : IsRoot z u 4) (hz0 : 0 ≤ z) (hz1 : z < 18446744069414584321) :
    Calls Tryz.prog 205 #[.slice ad 4 cap, .int .u64 z] w (GivesOwn .u64 23 (dftL [a, b, c, d] z) w) := by
  obtain ⟨bk, o, rfl, hc⟩ := hx.at (by simp)
  have k0 : w.cell? ⟨bk, o + 0, none⟩ = some (.int .u64 a) := hc 0 (by simp)
  obtain ⟨p0, q0⟩ := fits_u64.1 (hx.wf a (by simp))
  have k1 : w.cell? ⟨bk, o + 1, none⟩ = some (.int .u64 b) := hc 1 (by simp)
  obtain ⟨p1, q1⟩ := fits_u64.1 (hx.wf b (by simp))
  have k2 : w.cell? ⟨bk, o + 2, none⟩ = some (.int .u64 c) := hc 2 (by simp)
  obtain ⟨p2, q2⟩ := fits_u64.1 (hx.wf c (by simp))
  have k3 : w.cell? ⟨bk, o + 3, none⟩ = some (.int .u64 d) := hc 3 (by simp)
  obtain ⟨p3, q3⟩ := fits_u64.1 (hx.wf d (by simp))
  rw [Nat.add_zero] at k0
  have HR := Lib.hid hr
  clear hc hx hr
  go_enter Tryz.func205, Tryz.ntmps205
  go_wp2_with fail
  go_quiet ((go_at_call 209; exact Calls.quiet_of_same (flipW (small_both a c _ (by omega) (by omega) (by omega) (by omega)))))
  obtain ⟨s, hs⟩ : ∃ v, (a + c) % 18446744069414584321 = v := ⟨_, rfl⟩
  rw [hs]
  have bd_s : 0 ≤ s ∧ s < 18446744069414584321 := by omega
  have Es : Hid (Eqm s (a + c)) := by unfold Hid; rw [← hs]; exact Eqm.mod _
  obtain ⟨ls, rs⟩ := bd_s
  clear hs
  obtain ⟨t, ht⟩ : ∃ v, (a - c) % 18446744069414584321 = v := ⟨_, rfl⟩
  rw [ht]
  have bd_t : 0 ≤ t ∧ t < 18446744069414584321 := by omega
  have Et : Hid (Eqm t (a - c)) := by unfold Hid; rw [← ht]; exact Eqm.mod _
  obtain ⟨lt, rt⟩ := bd_t
  clear ht
  have hb1 := below_drewN (Below.refl w.heap.size w) nq
  have k1 := (hb1.cell (World.block_lt_of_cell? _ _ k1)).trans k1
  have k3 := (hb1.cell (World.block_lt_of_cell? _ _ k3)).trans k3
  obtain ⟨w1, hw1⟩ : ∃ w', w.drewN nq = w' := ⟨_, rfl⟩
  rw [hw1] at hb1 k1 k3 ⊢
  clear hw1
  go_wp2_with fail
  go_quiet ((go_at_call 209; exact Calls.quiet_of_same (flipW (small_both b d _ (by omega) (by omega) (by omega) (by omega)))))
  obtain ⟨p, hp⟩ : ∃ v, (b + d) % 18446744069414584321 = v := ⟨_, rfl⟩
  rw [hp]
  have bd_p : 0 ≤ p ∧ p < 18446744069414584321 := by omega
  have Ep : Hid (Eqm p (b + d)) := by unfold Hid; rw [← hp]; exact Eqm.mod _
  obtain ⟨lp, rp⟩ := bd_p
  clear hp
  obtain ⟨q, hq⟩ : ∃ v, (b - d) % 18446744069414584321 = v := ⟨_, rfl⟩
  rw [hq]
  have bd_q : 0 ≤ q ∧ q < 18446744069414584321 := by omega
  have Eq_ : Hid (Eqm q (b - d)) := by unfold Hid; rw [← hq]; exact Eqm.mod _
  obtain ⟨lq, rq⟩ := bd_q
  clear hq
  have hb2 := below_drewN (Below.refl w1.heap.size w1) nq
  obtain ⟨w2, hw2⟩ : ∃ w', w1.drewN nq = w' := ⟨_, rfl⟩
  rw [hw2] at hb2 ⊢
  clear hw2
  go_wp2_with fail
  refine (gold_Mul q z _ (by omega) (by omega) (by omega) (by omega)).mono ?_; rintro e w' ⟨rfl, rfl⟩
  obtain ⟨y, hy⟩ : ∃ v, q * z % 18446744069414584321 = v := ⟨_, rfl⟩
  rw [hy]
  have bd_y : 0 ≤ y ∧ y < 18446744069414584321 := by omega
  have Ey : Hid (Eqm y (q * z)) := by unfold Hid; rw [← hy]; exact Eqm.mod _
  obtain ⟨ly, ry⟩ := bd_y
  clear hy
  go_wp2_with fail
  refine (gold_Add s p _ (by omega) (by omega) (by omega) (by omega)).mono ?_; rintro e w' ⟨rfl, rfl⟩
  go_wp2_with fail
  refine (gold_Add t y _ (by omega) (by omega) (by omega) (by omega)).mono ?_; rintro e w' ⟨rfl, rfl⟩
  go_wp2_with fail
  refine (gold_Sub s p _ (by omega) (by omega) (by omega) (by omega)).mono ?_; rintro e w' ⟨rfl, rfl⟩
  go_wp2_with fail
  refine (gold_Sub t y _ (by omega) (by omega) (by omega) (by omega)).mono ?_; rintro e w' ⟨rfl, rfl⟩
  go_wp2_with fail
  go_ret
  refine gives_lit w w2 _ _ [(s + p) % 18446744069414584321, (t + y) % 18446744069414584321, (s - p) % 18446744069414584321, (t - y) % 18446744069414584321] 4 _ rfl rfl ?_ (dftL_fits _ _) (by simp) (chain hb1 hb2)
  obtain ⟨m, hm⟩ := eqm_wit (root_half HR.out 2 rfl (by omega))
  have e1 : Eqm y ((b - d) * z) := Ey.out.trans (Eq_.out.mul (rfl' z))
  refine four_eq a b c d z u _ _ _ _ HR.out (by omega) (by omega) (by omega) (by omega) ((Eqm.mod _).trans ((Es.out.add Ep.out).trans (eqm_of _ _ 0 (by grind)))) ((Eqm.mod _).trans ((Et.out.add e1).trans (eqm_of _ _ (-(m * (c + d * z))) (by grind)))) ((Eqm.mod _).trans ((Es.out.sub Ep.out).trans (eqm_of _ _ (-(m * (b + d))) (by grind)))) ((Eqm.mod _).trans ((Et.out.sub e1).trans (eqm_of _ _ (-(m * (c + b * z))) (by grind))))
set_option maxHeartbeats 1000000 in
theorem small_five (ad : Option Addr) (cap : Nat) (a b c d e z u : Int) (w : World) (hx : Row .u64 w ad [a, b, c, d, e]) (hr : IsRoot z u 5) (hz0 : 0 ≤ z) (hz1 : z < 18446744069414584321) :
    Calls Tryz.prog 206 #[.slice ad 5 cap, .int .u64 z] w (GivesOwn .u64 23 (dftL [a, b, c, d, e] z) w) := by
  obtain ⟨bk, o, rfl, hc⟩ := hx.at (by simp)
  have k0 : w.cell? ⟨bk, o + 0, none⟩ = some (.int .u64 a) := hc 0 (by simp)
  obtain ⟨p0, q0⟩ := fits_u64.1 (hx.wf a (by simp))
  have k1 : w.cell? ⟨bk, o + 1, none⟩ = some (.int .u64 b) := hc 1 (by simp)
  obtain ⟨p1, q1⟩ := fits_u64.1 (hx.wf b (by simp))
  have k2 : w.cell? ⟨bk, o + 2, none⟩ = some (.int .u64 c) := hc 2 (by simp)
  obtain ⟨p2, q2⟩ := fits_u64.1 (hx.wf c (by simp))
  have k3 : w.cell? ⟨bk, o + 3, none⟩ = some (.int .u64 d) := hc 3 (by simp)
  obtain ⟨p3, q3⟩ := fits_u64.1 (hx.wf d (by simp))
  have k4 : w.cell? ⟨bk, o + 4, none⟩ = some (.int .u64 e) := hc 4 (by simp)
  obtain ⟨p4, q4⟩ := fits_u64.1 (hx.wf e (by simp))
  rw [Nat.add_zero] at k0
  have HR := Lib.hid hr
  clear hc hx hr
  go_enter Tryz.func206, Tryz.ntmps206
  go_wp2_with fail
  refine (gold_Mul z z _ (by omega) (by omega) (by omega) (by omega)).mono ?_; rintro en w' ⟨rfl, rfl⟩
  obtain ⟨zz, hzz⟩ : ∃ v, z * z % 18446744069414584321 = v := ⟨_, rfl⟩
  rw [hzz]
  have bd_zz : 0 ≤ zz ∧ zz < 18446744069414584321 := by omega
  have Ezz : Hid (Eqm zz (z * z)) := by unfold Hid; rw [← hzz]; exact Eqm.mod _
  obtain ⟨lzz, rzz⟩ := bd_zz
  clear hzz
  go_wp2_with fail
  refine (gold_Mul zz zz _ (by omega) (by omega) (by omega) (by omega)).mono ?_; rintro en w' ⟨rfl, rfl⟩
  obtain ⟨z4, hz4⟩ : ∃ v, zz * zz % 18446744069414584321 = v := ⟨_, rfl⟩
  rw [hz4]
  have bd_z4 : 0 ≤ z4 ∧ z4 < 18446744069414584321 := by omega
  have Ez4 : Hid (Eqm z4 (zz * zz)) := by unfold Hid; rw [← hz4]; exact Eqm.mod _
  obtain ⟨lz4, rz4⟩ := bd_z4
  clear hz4
  go_wp2_with fail
  refine (small_halves z z4 _ (by omega) (by omega) (by omega) (by omega)).mono ?_; rintro en w' ⟨rfl, rfl⟩
  obtain ⟨c1, hc1⟩ : ∃ v, (z + z4) * hf % 18446744069414584321 = v := ⟨_, rfl⟩
  rw [hc1]
  have bd_c1 : 0 ≤ c1 ∧ c1 < 18446744069414584321 := by omega
  have Ec1 : Hid (Eqm c1 ((z + z4) * hf)) := by unfold Hid; rw [← hc1]; exact Eqm.mod _
  obtain ⟨lc1, rc1⟩ := bd_c1
  clear hc1
  obtain ⟨s1, hs1⟩ : ∃ v, (z - z4) * hf % 18446744069414584321 = v := ⟨_, rfl⟩
  rw [hs1]
  have bd_s1 : 0 ≤ s1 ∧ s1 < 18446744069414584321 := by omega
  have Es1 : Hid (Eqm s1 ((z - z4) * hf)) := by unfold Hid; rw [← hs1]; exact Eqm.mod _
  obtain ⟨ls1, rs1⟩ := bd_s1
  clear hs1
  go_wp2_with fail
  refine (gold_Mul zz z _ (by omega) (by omega) (by omega) (by omega)).mono ?_; rintro en w' ⟨rfl, rfl⟩
  obtain ⟨z3, hz3⟩ : ∃ v, zz * z % 18446744069414584321 = v := ⟨_, rfl⟩
  rw [hz3]
  have bd_z3 : 0 ≤ z3 ∧ z3 < 18446744069414584321 := by omega
  have Ez3 : Hid (Eqm z3 (zz * z)) := by unfold Hid; rw [← hz3]; exact Eqm.mod _
  obtain ⟨lz3, rz3⟩ := bd_z3
  clear hz3
  go_wp2_with fail
  refine (small_halves zz z3 _ (by omega) (by omega) (by omega) (by omega)).mono ?_; rintro en w' ⟨rfl, rfl⟩
  obtain ⟨c2, hc2⟩ : ∃ v, (zz + z3) * hf % 18446744069414584321 = v := ⟨_, rfl⟩
  rw [hc2]
  have bd_c2 : 0 ≤ c2 ∧ c2 < 18446744069414584321 := by omega
  have Ec2 : Hid (Eqm c2 ((zz + z3) * hf)) := by unfold Hid; rw [← hc2]; exact Eqm.mod _
  obtain ⟨lc2, rc2⟩ := bd_c2
  clear hc2
  obtain ⟨s2, hs2⟩ : ∃ v, (zz - z3) * hf % 18446744069414584321 = v := ⟨_, rfl⟩
  rw [hs2]
  have bd_s2 : 0 ≤ s2 ∧ s2 < 18446744069414584321 := by omega
  have Es2 : Hid (Eqm s2 ((zz - z3) * hf)) := by unfold Hid; rw [← hs2]; exact Eqm.mod _
  obtain ⟨ls2, rs2⟩ := bd_s2
  clear hs2
  go_wp2_with fail
  go_quiet ((go_at_call 209; exact Calls.quiet_of_same (flipW (small_both b e _ (by omega) (by omega) (by omega) (by omega)))))
  obtain ⟨t1, ht1⟩ : ∃ v, (b + e) % 18446744069414584321 = v := ⟨_, rfl⟩
  rw [ht1]
  have bd_t1 : 0 ≤ t1 ∧ t1 < 18446744069414584321 := by omega
  have Et1 : Hid (Eqm t1 (b + e)) := by unfold Hid; rw [← ht1]; exact Eqm.mod _
  obtain ⟨lt1, rt1⟩ := bd_t1
  clear ht1
  obtain ⟨d1, hd1⟩ : ∃ v, (b - e) % 18446744069414584321 = v := ⟨_, rfl⟩
  rw [hd1]
  have bd_d1 : 0 ≤ d1 ∧ d1 < 18446744069414584321 := by omega
  have Ed1 : Hid (Eqm d1 (b - e)) := by unfold Hid; rw [← hd1]; exact Eqm.mod _
  obtain ⟨ld1, rd1⟩ := bd_d1
  clear hd1
  have hb1 := below_drewN (Below.refl w.heap.size w) nq
  have k0 := (hb1.cell (World.block_lt_of_cell? _ _ k0)).trans k0
  have k2 := (hb1.cell (World.block_lt_of_cell? _ _ k2)).trans k2
  have k3 := (hb1.cell (World.block_lt_of_cell? _ _ k3)).trans k3
  obtain ⟨w1, hw1⟩ : ∃ w', w.drewN nq = w' := ⟨_, rfl⟩
  rw [hw1] at hb1 k0 k2 k3 ⊢
  clear hw1
  go_wp2_with fail
  go_quiet ((go_at_call 209; exact Calls.quiet_of_same (flipW (small_both c d _ (by omega) (by omega) (by omega) (by omega)))))
  obtain ⟨t2, ht2⟩ : ∃ v, (c + d) % 18446744069414584321 = v := ⟨_, rfl⟩
  rw [ht2]
  have bd_t2 : 0 ≤ t2 ∧ t2 < 18446744069414584321 := by omega
  have Et2 : Hid (Eqm t2 (c + d)) := by unfold Hid; rw [← ht2]; exact Eqm.mod _
  obtain ⟨lt2, rt2⟩ := bd_t2
  clear ht2
  obtain ⟨d2, hd2⟩ : ∃ v, (c - d) % 18446744069414584321 = v := ⟨_, rfl⟩
  rw [hd2]
  have bd_d2 : 0 ≤ d2 ∧ d2 < 18446744069414584321 := by omega
  have Ed2 : Hid (Eqm d2 (c - d)) := by unfold Hid; rw [← hd2]; exact Eqm.mod _
  obtain ⟨ld2, rd2⟩ := bd_d2
  clear hd2
  have hb2 := below_drewN (Below.refl w1.heap.size w1) nq
  have k0 := (hb2.cell (World.block_lt_of_cell? _ _ k0)).trans k0
  obtain ⟨w2, hw2⟩ : ∃ w', w1.drewN nq = w' := ⟨_, rfl⟩
  rw [hw2] at hb2 k0 ⊢
  clear hw2
  go_wp2_with fail
  go_region_held3 (fun w' => w'.cell? ⟨bk, o, none⟩ = some (.int .u64 a)) (go_keep) ((first | (go_at_call 46; refine (gold_Mul _ _ _ (by omega) (by omega) (by omega) (by omega)).mono ?_; rintro en w' ⟨rfl, rfl⟩) | (go_at_call 189; refine (gold_Sum3 _ _ _ _ _ w2 _ (by rfl) (by simp) ⟨p0, q0⟩ (by omega) (by omega)).mono ?_; rintro en w' ⟨rfl, rfl⟩)))
  have hb3 : Below w2.heap.size w2 ((w2.alloc (.cells #[.int .u64 a, .int .u64 (c1 * t1 % 18446744069414584321), .int .u64 (c2 * t2 % 18446744069414584321)] 23)).drew) := ((Below.refl _ _).alloc (Nat.le_refl _) _).drew
  have k0 := (hb3.cell (World.block_lt_of_cell? _ _ k0)).trans k0
  obtain ⟨w3, hw3⟩ : ∃ w', (w2.alloc (.cells #[.int .u64 a, .int .u64 (c1 * t1 % 18446744069414584321), .int .u64 (c2 * t2 % 18446744069414584321)] 23)).drew = w' := ⟨_, rfl⟩
  rw [hw3] at hb3 k0 ⊢
  clear hw3
  obtain ⟨va, hva⟩ : ∃ v, sumP [a, c1 * t1 % 18446744069414584321, c2 * t2 % 18446744069414584321] = v := ⟨_, rfl⟩
  rw [hva]
  have bd_va := sumP_range [a, c1 * t1 % 18446744069414584321, c2 * t2 % 18446744069414584321]
  rw [hva] at bd_va
  have Eva : Hid (Eqm va (a + c1 * t1 % 18446744069414584321 + c2 * t2 % 18446744069414584321)) := by unfold Hid; rw [← hva]; exact sumP3 _ _ _
  obtain ⟨lva, rva⟩ := bd_va
  clear hva
  go_wp2_with fail
  go_region_held3 (fun w' => w'.cell? ⟨bk, o, none⟩ = some (.int .u64 a)) (go_keep) ((first | (go_at_call 46; refine (gold_Mul _ _ _ (by omega) (by omega) (by omega) (by omega)).mono ?_; rintro en w' ⟨rfl, rfl⟩) | (go_at_call 189; refine (gold_Sum3 _ _ _ _ _ w3 _ (by rfl) (by simp) ⟨p0, q0⟩ (by omega) (by omega)).mono ?_; rintro en w' ⟨rfl, rfl⟩)))
  have hb4 : Below w3.heap.size w3 ((w3.alloc (.cells #[.int .u64 a, .int .u64 (c2 * t1 % 18446744069414584321), .int .u64 (c1 * t2 % 18446744069414584321)] 23)).drew) := ((Below.refl _ _).alloc (Nat.le_refl _) _).drew
  have k0 := (hb4.cell (World.block_lt_of_cell? _ _ k0)).trans k0
  obtain ⟨w4, hw4⟩ : ∃ w', (w3.alloc (.cells #[.int .u64 a, .int .u64 (c2 * t1 % 18446744069414584321), .int .u64 (c1 * t2 % 18446744069414584321)] 23)).drew = w' := ⟨_, rfl⟩
  rw [hw4] at hb4 k0 ⊢
  clear hw4
  obtain ⟨vb, hvb⟩ : ∃ v, sumP [a, c2 * t1 % 18446744069414584321, c1 * t2 % 18446744069414584321] = v := ⟨_, rfl⟩
  rw [hvb]
  have bd_vb := sumP_range [a, c2 * t1 % 18446744069414584321, c1 * t2 % 18446744069414584321]
  rw [hvb] at bd_vb
  have Evb : Hid (Eqm vb (a + c2 * t1 % 18446744069414584321 + c1 * t2 % 18446744069414584321)) := by unfold Hid; rw [← hvb]; exact sumP3 _ _ _
  obtain ⟨lvb, rvb⟩ := bd_vb
  clear hvb
  go_wp2_with fail
  refine (gold_Mul s1 d1 _ (by omega) (by omega) (by omega) (by omega)).mono ?_; rintro en w' ⟨rfl, rfl⟩
  obtain ⟨m1, hm1⟩ : ∃ v, s1 * d1 % 18446744069414584321 = v := ⟨_, rfl⟩
  rw [hm1]
  have bd_m1 : 0 ≤ m1 ∧ m1 < 18446744069414584321 := by omega
  have Em1 : Hid (Eqm m1 (s1 * d1)) := by unfold Hid; rw [← hm1]; exact Eqm.mod _
  obtain ⟨lm1, rm1⟩ := bd_m1
  clear hm1
  go_wp2_with fail
  refine (gold_Mul s2 d2 _ (by omega) (by omega) (by omega) (by omega)).mono ?_; rintro en w' ⟨rfl, rfl⟩
  obtain ⟨m2, hm2⟩ : ∃ v, s2 * d2 % 18446744069414584321 = v := ⟨_, rfl⟩
  rw [hm2]
  have bd_m2 : 0 ≤ m2 ∧ m2 < 18446744069414584321 := by omega
  have Em2 : Hid (Eqm m2 (s2 * d2)) := by unfold Hid; rw [← hm2]; exact Eqm.mod _
  obtain ⟨lm2, rm2⟩ := bd_m2
  clear hm2
  go_wp2_with fail
  refine (gold_Add m1 m2 _ (by omega) (by omega) (by omega) (by omega)).mono ?_; rintro en w' ⟨rfl, rfl⟩
  obtain ⟨vc, hvc⟩ : ∃ v, (m1 + m2) % 18446744069414584321 = v := ⟨_, rfl⟩
  rw [hvc]
  have bd_vc : 0 ≤ vc ∧ vc < 18446744069414584321 := by omega
  have Evc : Hid (Eqm vc (m1 + m2)) := by unfold Hid; rw [← hvc]; exact Eqm.mod _
  obtain ⟨lvc, rvc⟩ := bd_vc
  clear hvc
  go_wp2_with fail
  refine (gold_Mul s2 d1 _ (by omega) (by omega) (by omega) (by omega)).mono ?_; rintro en w' ⟨rfl, rfl⟩
  obtain ⟨m3, hm3⟩ : ∃ v, s2 * d1 % 18446744069414584321 = v := ⟨_, rfl⟩
  rw [hm3]
  have bd_m3 : 0 ≤ m3 ∧ m3 < 18446744069414584321 := by omega
  have Em3 : Hid (Eqm m3 (s2 * d1)) := by unfold Hid; rw [← hm3]; exact Eqm.mod _
  obtain ⟨lm3, rm3⟩ := bd_m3
  clear hm3
  go_wp2_with fail
  refine (gold_Mul s1 d2 _ (by omega) (by omega) (by omega) (by omega)).mono ?_; rintro en w' ⟨rfl, rfl⟩
  obtain ⟨m4, hm4⟩ : ∃ v, s1 * d2 % 18446744069414584321 = v := ⟨_, rfl⟩
  rw [hm4]
  have bd_m4 : 0 ≤ m4 ∧ m4 < 18446744069414584321 := by omega
  have Em4 : Hid (Eqm m4 (s1 * d2)) := by unfold Hid; rw [← hm4]; exact Eqm.mod _
  obtain ⟨lm4, rm4⟩ := bd_m4
  clear hm4
  go_wp2_with fail
  refine (gold_Sub m3 m4 _ (by omega) (by omega) (by omega) (by omega)).mono ?_; rintro en w' ⟨rfl, rfl⟩
  obtain ⟨vd, hvd⟩ : ∃ v, (m3 - m4) % 18446744069414584321 = v := ⟨_, rfl⟩
  rw [hvd]
  have bd_vd : 0 ≤ vd ∧ vd < 18446744069414584321 := by omega
  have Evd : Hid (Eqm vd (m3 - m4)) := by unfold Hid; rw [← hvd]; exact Eqm.mod _
  obtain ⟨lvd, rvd⟩ := bd_vd
  clear hvd
  go_wp2_with fail
  refine (gold_Sum3' a t1 t2 _ _ w4 _ rfl rfl ⟨p0, q0⟩ (by omega) (by omega)).mono ?_; rintro en w' ⟨rfl, rfl⟩
  obtain ⟨v0, hv0⟩ : ∃ v, sumP [a, t1, t2] = v := ⟨_, rfl⟩
  rw [hv0]
  have bd_v0 := sumP_range [a, t1, t2]
  rw [hv0] at bd_v0
  have Ev0 : Hid (Eqm v0 (a + t1 + t2)) := by unfold Hid; rw [← hv0]; exact sumP3 _ _ _
  obtain ⟨lv0, rv0⟩ := bd_v0
  clear hv0
  go_wp2_with fail
  refine (gold_Add va vc _ (by omega) (by omega) (by omega) (by omega)).mono ?_; rintro en w' ⟨rfl, rfl⟩
  go_wp2_with fail
  refine (gold_Add vb vd _ (by omega) (by omega) (by omega) (by omega)).mono ?_; rintro en w' ⟨rfl, rfl⟩
  go_wp2_with fail
  refine (gold_Sub vb vd _ (by omega) (by omega) (by omega) (by omega)).mono ?_; rintro en w' ⟨rfl, rfl⟩
  go_wp2_with fail
  refine (gold_Sub va vc _ (by omega) (by omega) (by omega) (by omega)).mono ?_; rintro en w' ⟨rfl, rfl⟩
  go_wp2_with fail
  go_ret
  refine gives_litg w (w4.heap.size + 1) (w4.alloc (.cells #[.int .u64 a, .int .u64 t1, .int .u64 t2] 23)) _ _ [v0, (va + vc) % 18446744069414584321, (vb + vd) % 18446744069414584321, (vb - vd) % 18446744069414584321, (va - vc) % 18446744069414584321] 5 _ (by simp) rfl rfl ?_ (dftL_fits _ _) (by simp) ((chain (chain (chain hb1 hb2) hb3) hb4).alloc (chain (chain (chain hb1 hb2) hb3) hb4).size _)
  have e4 : Eqm z4 (z * z * (z * z)) := Ez4.out.trans (Ezz.out.mul Ezz.out)
  have e3 : Eqm z3 (z * z * z) := Ez3.out.trans (Ezz.out.mul (rfl' z))
  have ec1 : Eqm c1 ((z + z * z * (z * z)) * hf) := Ec1.out.trans (((rfl' z).add e4).mul (rfl' hf))
  have es1 : Eqm s1 ((z - z * z * (z * z)) * hf) := Es1.out.trans (((rfl' z).sub e4).mul (rfl' hf))
  have ec2 : Eqm c2 ((z * z + z * z * z) * hf) := Ec2.out.trans ((Ezz.out.add e3).mul (rfl' hf))
  have es2 : Eqm s2 ((z * z - z * z * z) * hf) := Es2.out.trans ((Ezz.out.sub e3).mul (rfl' hf))
  have ea : Eqm va (a + (z + z * z * (z * z)) * hf * (b + e) + (z * z + z * z * z) * hf * (c + d)) := Eva.out.trans (((rfl' a).add ((Eqm.mod _).trans (ec1.mul Et1.out))).add ((Eqm.mod _).trans (ec2.mul Et2.out)))
  have eb : Eqm vb (a + (z * z + z * z * z) * hf * (b + e) + (z + z * z * (z * z)) * hf * (c + d)) := Evb.out.trans (((rfl' a).add ((Eqm.mod _).trans (ec2.mul Et1.out))).add ((Eqm.mod _).trans (ec1.mul Et2.out)))
  have ecc : Eqm vc ((z - z * z * (z * z)) * hf * (b - e) + (z * z - z * z * z) * hf * (c - d)) := Evc.out.trans ((Em1.out.trans (es1.mul Ed1.out)).add (Em2.out.trans (es2.mul Ed2.out)))
  have ed : Eqm vd ((z * z - z * z * z) * hf * (b - e) - (z - z * z * (z * z)) * hf * (c - d)) := Evd.out.trans ((Em3.out.trans (es2.mul Ed1.out)).sub (Em4.out.trans (es1.mul Ed2.out)))
  have h2 := hf2
  generalize hf = h at *
  refine five_eq a b c d e z u _ _ _ _ _ HR.out ⟨lv0, rv0⟩ (by omega) (by omega) (by omega) (by omega) (Ev0.out.trans ((((rfl' a).add Et1.out).add Et2.out).trans (eqm_of _ _ 0 (by grind)))) ((Eqm.mod _).trans ((ea.add ecc).trans (eqm_of _ _ (z * b + z ^ 2 * c + z ^ 3 * d + z ^ 4 * e) (by grind)))) ((Eqm.mod _).trans ((eb.add ed).trans (eqm_of _ _ (z ^ 2 * b + z ^ 4 * c + z * d + z ^ 3 * e) (by grind)))) ((Eqm.mod _).trans ((eb.sub ed).trans (eqm_of _ _ (z ^ 3 * b + z * c + z ^ 4 * d + z ^ 2 * e) (by grind)))) ((Eqm.mod _).trans ((ea.sub ecc).trans (eqm_of _ _ (z ^ 4 * b + z ^ 3 * c + z ^ 2 * d + z * e) (by grind))))
end Go.Proofs.YtlnlijeamflpiaaGreat

namespace Go.Proofs.YtlnlijeamflpiaaGreat
open Go.RowKit Sm
set_option linter.unusedVariables false
set_option linter.unusedSimpArgs false
set_option maxRecDepth 100000
set_option maxHeartbeats 1000000 in
theorem small_done2 (ad : Option Addr) (cap : Nat) (a b z u : Int) (w : World) (hx : Row .u64 w ad [a, b]) (hr : IsRoot z u 2) (hz0 : 0 ≤ z) (hz1 : z < 18446744069414584321) :
    Calls Tryz.prog 193 #[.slice ad 2 cap, .int .u64 z] w (GivesOwn .u64 23 (dftL [a, b] z) w) := by
  have HT := Lib.hid (small_two ad cap a b z u w hx hr)
  have HL := Lib.hid (dftL_len [a, b] z)
  clear hx hr
  go_enter Tryz.func193, Tryz.ntmps193
  go_wp2_with fail
  refine wp_scope_jumps 0 (fun a' w' => ∃ v u2 u3 u6 u7 u8 u9 u10 u11 u12 u13 u14 u15 u16 u17 u18 u19 u20 u21 u22 u23 u24 u25 u26 u27 u28 u29, a' = { tmps := #[.slice ad 2 cap, .int .u64 z, u2, u3, .slice none 0 0, v, u6, u7, u8, u9, u10, u11, u12, u13, u14, u15, u16, u17, u18, u19, u20, u21, u22, u23, u24, u25, u26, u27, u28, u29], defers := [] } ∧ GivesOwn .u64 23 (dftL [a, b] z) w (.returned v) w') (fun _ _ => 0) rfl ?_ ?_
  · go_wp2_with fail
    refine HT.out.mono ?_; rintro en w' ⟨a2, cap2, rfl, hrow, hca, hcl, hb⟩
    go_wp2_with fail
    go_step3
    exact ⟨rfl, _, _, _, _, _, _, _, _, _, _, _, _, _, _, _, _, _, _, _, _, _, _, _, _, _, _, _, rfl, a2, cap2, rfl, hrow, hca, hcl, hb⟩
  · rintro a' w' ⟨v, u2, u3, u6, u7, u8, u9, u10, u11, u12, u13, u14, u15, u16, u17, u18, u19, u20, u21, u22, u23, u24, u25, u26, u27, u28, u29, rfl, hg⟩
    go_wp2_with fail
    simp only [Exit.jump]
    go_ret
    exact hg
set_option maxHeartbeats 1000000 in
theorem small_done3 (ad : Option Addr) (cap : Nat) (a b c z u : Int) (w : World) (hx : Row .u64 w ad [a, b, c]) (hr : IsRoot z u 3) (hz0 : 0 ≤ z) (hz1 : z < 18446744069414584321) :
    Calls Tryz.prog 193 #[.slice ad 3 cap, .int .u64 z] w (GivesOwn .u64 23 (dftL [a, b, c] z) w) := by
  have HT := Lib.hid (small_three ad cap a b c z u w hx hr hz0 hz1)
  have HL := Lib.hid (dftL_len [a, b, c] z)
  clear hx hr
  go_enter Tryz.func193, Tryz.ntmps193
  go_wp2_with fail
  refine wp_scope_jumps 0 (fun a' w' => ∃ v u2 u3 u6 u7 u8 u9 u10 u11 u12 u13 u14 u15 u16 u17 u18 u19 u20 u21 u22 u23 u24 u25 u26 u27 u28 u29, a' = { tmps := #[.slice ad 3 cap, .int .u64 z, u2, u3, .slice none 0 0, v, u6, u7, u8, u9, u10, u11, u12, u13, u14, u15, u16, u17, u18, u19, u20, u21, u22, u23, u24, u25, u26, u27, u28, u29], defers := [] } ∧ GivesOwn .u64 23 (dftL [a, b, c] z) w (.returned v) w') (fun _ _ => 0) rfl ?_ ?_
  · go_wp2_with fail
    refine HT.out.mono ?_; rintro en w' ⟨a2, cap2, rfl, hrow, hca, hcl, hb⟩
    go_wp2_with fail
    go_step3
    exact ⟨rfl, _, _, _, _, _, _, _, _, _, _, _, _, _, _, _, _, _, _, _, _, _, _, _, _, _, _, _, rfl, a2, cap2, rfl, hrow, hca, hcl, hb⟩
  · rintro a' w' ⟨v, u2, u3, u6, u7, u8, u9, u10, u11, u12, u13, u14, u15, u16, u17, u18, u19, u20, u21, u22, u23, u24, u25, u26, u27, u28, u29, rfl, hg⟩
    go_wp2_with fail
    simp only [Exit.jump]
    go_ret
    exact hg
set_option maxHeartbeats 1000000 in
theorem small_done4 (ad : Option Addr) (cap : Nat) (a b c d z u : Int) (w : World) (hx : Row .u64 w ad [a, b, c, d]) (hr : IsRoot z u 4) (hz0 : 0 ≤ z) (hz1 : z < 18446744069414584321) :
    Calls Tryz.prog 193 #[.slice ad 4 cap, .int .u64 z] w (GivesOwn .u64 23 (dftL [a, b, c, d] z) w) := by
  have HT := Lib.hid (small_four ad cap a b c d z u w hx hr hz0 hz1)
  have HL := Lib.hid (dftL_len [a, b, c, d] z)
  clear hx hr
  go_enter Tryz.func193, Tryz.ntmps193
  go_wp2_with fail
  refine wp_scope_jumps 0 (fun a' w' => ∃ v u2 u3 u6 u7 u8 u9 u10 u11 u12 u13 u14 u15 u16 u17 u18 u19 u20 u21 u22 u23 u24 u25 u26 u27 u28 u29, a' = { tmps := #[.slice ad 4 cap, .int .u64 z, u2, u3, .slice none 0 0, v, u6, u7, u8, u9, u10, u11, u12, u13, u14, u15, u16, u17, u18, u19, u20, u21, u22, u23, u24, u25, u26, u27, u28, u29], defers := [] } ∧ GivesOwn .u64 23 (dftL [a, b, c, d] z) w (.returned v) w') (fun _ _ => 0) rfl ?_ ?_
  · go_wp2_with fail
    refine HT.out.mono ?_; rintro en w' ⟨a2, cap2, rfl, hrow, hca, hcl, hb⟩
    go_wp2_with fail
    go_step3
    exact ⟨rfl, _, _, _, _, _, _, _, _, _, _, _, _, _, _, _, _, _, _, _, _, _, _, _, _, _, _, _, rfl, a2, cap2, rfl, hrow, hca, hcl, hb⟩
  · rintro a' w' ⟨v, u2, u3, u6, u7, u8, u9, u10, u11, u12, u13, u14, u15, u16, u17, u18, u19, u20, u21, u22, u23, u24, u25, u26, u27, u28, u29, rfl, hg⟩
    go_wp2_with fail
    simp only [Exit.jump]
    go_ret
    exact hg
set_option maxHeartbeats 1000000 in
theorem small_done5 (ad : Option Addr) (cap : Nat) (a b c d e z u : Int) (w : World) (hx : Row .u64 w ad [a, b, c, d, e]) (hr : IsRoot z u 5) (hz0 : 0 ≤ z) (hz1 : z < 18446744069414584321) :
    Calls Tryz.prog 193 #[.slice ad 5 cap, .int .u64 z] w (GivesOwn .u64 23 (dftL [a, b, c, d, e] z) w) := by
  have HT := Lib.hid (small_five ad cap a b c d e z u w hx hr hz0 hz1)
  have HL := Lib.hid (dftL_len [a, b, c, d, e] z)
  clear hx hr
  go_enter Tryz.func193, Tryz.ntmps193
  go_wp2_with fail
  refine wp_scope_jumps 0 (fun a' w' => ∃ v u2 u3 u6 u7 u8 u9 u10 u11 u12 u13 u14 u15 u16 u17 u18 u19 u20 u21 u22 u23 u24 u25 u26 u27 u28 u29, a' = { tmps := #[.slice ad 5 cap, .int .u64 z, u2, u3, .slice none 0 0, v, u6, u7, u8, u9, u10, u11, u12, u13, u14, u15, u16, u17, u18, u19, u20, u21, u22, u23, u24, u25, u26, u27, u28, u29], defers := [] } ∧ GivesOwn .u64 23 (dftL [a, b, c, d, e] z) w (.returned v) w') (fun _ _ => 0) rfl ?_ ?_
  · go_wp2_with fail
    refine HT.out.mono ?_; rintro en w' ⟨a2, cap2, rfl, hrow, hca, hcl, hb⟩
    go_wp2_with fail
    go_step3
    exact ⟨rfl, _, _, _, _, _, _, _, _, _, _, _, _, _, _, _, _, _, _, _, _, _, _, _, _, _, _, _, rfl, a2, cap2, rfl, hrow, hca, hcl, hb⟩
  · rintro a' w' ⟨v, u2, u3, u6, u7, u8, u9, u10, u11, u12, u13, u14, u15, u16, u17, u18, u19, u20, u21, u22, u23, u24, u25, u26, u27, u28, u29, rfl, hg⟩
    go_wp2_with fail
    simp only [Exit.jump]
    go_ret
    exact hg
set_option maxHeartbeats 1000000 in
theorem small_done1 (ad : Option Addr) (cap : Nat) (a z u : Int) (w : World) (hx : Row .u64 w ad [a]) (hr : IsRoot z u 1) :
    Calls Tryz.prog 193 #[.slice ad 1 cap, .int .u64 z] w (GivesOwn .u64 23 (dftL [a] z) w) := by
  have HT := Lib.hid (vec_RedO ad cap [a] w hx (by simp))
  have HL := Lib.hid (one_eq [a] z u hr rfl)
  clear hx hr
  go_enter Tryz.func193, Tryz.ntmps193
  go_wp2_with fail
  refine wp_scope_jumps 0 (fun a' w' => False) (fun _ _ => 0) rfl ?_ ?_
  · go_wp2_with fail
    refine HT.out.mono ?_
    rw [HL.out]
    rintro en w' ⟨a2, cap2, rfl, hrow, hca, hcl, hb⟩
    go_wp2_with fail
    go_step3
    go_wp2_with fail
    simp only [Exit.jump]
    go_ret
    exact ⟨a2, cap2, rfl, hrow, hca, hcl, hb⟩
  · rintro a' w' h
    exact h.elim
theorem small_doneO (ad : Option Addr) (cap n : Nat) (xs : List Int) (z u : Int) (w : World) (hx : Row .u64 w ad xs) (hn : n = xs.length) (h1 : 1 ≤ n) (h5 : n ≤ 5) (hr : IsRoot z u n) (hz0 : 0 ≤ z) (hz1 : z < 18446744069414584321) :
    Calls Tryz.prog 193 #[.slice ad n cap, .int .u64 z] w (GivesOwn .u64 23 (dftL xs z) w) := by
  match xs, hn with
  | [], hn => simp at hn; omega
  | [a], hn => subst hn; exact small_done1 ad cap a z u w hx hr
  | [a, b], hn => subst hn; exact small_done2 ad cap a b z u w hx hr hz0 hz1
  | [a, b, c], hn => subst hn; exact small_done3 ad cap a b c z u w hx hr hz0 hz1
  | [a, b, c, d], hn => subst hn; exact small_done4 ad cap a b c d z u w hx hr hz0 hz1
  | [a, b, c, d, e], hn => subst hn; exact small_done5 ad cap a b c d e z u w hx hr hz0 hz1
  | a :: b :: c :: d :: e :: f :: t, hn => simp at hn; omega
end Go.Proofs.YtlnlijeamflpiaaGreat

namespace Go.Proofs.YtlnlijeamflpiaaGreat
open Go.RowKit Sm
set_option linter.unusedVariables false
set_option linter.unusedSimpArgs false
set_option maxRecDepth 100000
theorem few_size (n : Nat) (h1 : 1 ≤ n) (h5 : n ≤ 5) : hasSz (n : Int) = true := by
  have : n = 1 ∨ n = 2 ∨ n = 3 ∨ n = 4 ∨ n = 5 := by omega
  rcases this with rfl | rfl | rfl | rfl | rfl <;> exact hasSz_iff.2 (by decide)
theorem small_way (n : Nat) (d : Int) (w : World) (hs : hasSz n = true) (hd : d = 0 ∨ d = 1) :
    Calls Tryz.prog 194 #[.int .i64 n, .int .i64 d] w fun e w' => e = .returned (.int .u64 (dirRt n d)) ∧ w = w' := by
  have HS := Lib.hid hs
  clear hs
  rcases hd with h1 | h1
  · subst h1
    go_enter Tryz.func194, Tryz.ntmps194
    go_wp2_with fail
    refine (rootRoot_yes n _ HS.out).mono ?_; rintro e w' ⟨rfl, rfl⟩
    go_wp2_with fail
    go_ret
    exact ⟨rfl, rfl⟩
  · subst h1
    go_enter Tryz.func194, Tryz.ntmps194
    go_wp2_with fail
    refine (rootRoot_yes n _ HS.out).mono ?_; rintro e w' ⟨rfl, rfl⟩
    go_wp2_with fail
    refine (rootBack_yes n _ HS.out).mono ?_; rintro e w' ⟨rfl, rfl⟩
    go_wp2_with fail
    go_ret
    exact ⟨rfl, rfl⟩
end Go.Proofs.YtlnlijeamflpiaaGreat

namespace Go.Proofs.YtlnlijeamflpiaaGreat
open Go.RowKit Sm
set_option linter.unusedVariables false
set_option linter.unusedSimpArgs false
set_option maxRecDepth 100000
set_option maxHeartbeats 1000000 in
theorem kernel_ok (n m : Nat) (d : Int) (w : World) (h : hasSz n = true) (hd : d = 0 ∨ d = 1) (hm : hasSz m = true) (hl : 2 * n - 1 ≤ m) :
    Calls Tryz.prog 151 #[.int .i64 n, .int .i64 m, .int .i64 d] w (GivesRowE .u64 (zeroL (rowT (dirRt n d) n (2 * n - 1)) m) 0 w) := by
  obtain ⟨i0, hi, hz0, hz1, hz2⟩ := info_parts info_u64
  have C1 : Hid (∀ w : World, Calls Tryz.prog 172 #[.int .i64 n, .int .i64 d] w fun e w' => e = .returned (.tuple #[.int .u64 (dirRt n d), .int .i64 0]) ∧ w = w') := fun w => chirp_way n d w h hd
  obtain ⟨h1, h2, _⟩ := hasSz_iff.1 h
  obtain ⟨h3, h4, _⟩ := hasSz_iff.1 hm
  obtain ⟨q, hq⟩ : ∃ q : Nat, 2 * n - 1 = q := ⟨2 * n - 1, rfl⟩
  rw [hq] at hl ⊢
  have C2 : Hid (∀ (w : World), Calls Tryz.prog 148 #[.int .i64 n, .int .i64 d, .int .i64 q] w (GivesOwnE .u64 23 (rowT (dirRt n d) n q) w)) := fun w => chirp_Row n q d w h hd (by omega)
  have hq1 : 2 * (n : Int) - 1 = q := by omega
  have hql : ¬ (m : Int) < (q : Int) := by omega
  have hxl : (rowT (dirRt n d) n q).length = q := rowT_len _ _ _
  have hxf := rowT_fits (dirRt n d) n q
  obtain ⟨xs, hxs⟩ : ∃ xs, rowT (dirRt n d) n q = xs := ⟨_, rfl⟩
  rw [hxs] at C2 hxl hxf ⊢
  obtain ⟨dd, hdd⟩ : ∃ dd : Nat, m - q = dd := ⟨m - q, rfl⟩
  have hd1 : (m : Int) - (q : Int) = dd := by omega
  have H := Lib.hid h
  have HM := Lib.hid hm
  have HXL := Lib.hid hxl
  have HXF := Lib.hid hxf
  have HDD := Lib.hid hdd
  have HZL : Hid ((zeroL xs m).length = m) := zeroL_len xs m (by omega)
  have hqd : q + dd ≤ 100000000 := by omega
  have hm1 : m ≤ 16777216 := by omega
  clear h hd hm hxl hxf hxs hq hdd
  go_enter Tryz.func151, Tryz.ntmps151
  go_wp2_with fail
  refine (C1.out _).mono ?_; rintro e w' ⟨rfl, rfl⟩
  go_wp2_with fail
  refine (rootHas_yes _ _ HM.out).mono ?_; rintro e w' ⟨rfl, rfl⟩
  go_wp2_with fail
  refine (C2.out _).mono ?_; rintro e w1 ⟨a1, cap1, rfl, ho1, hr1, hcap1, hb1⟩
  rw [HXL.out] at ho1 ⊢
  have HO := Lib.hid ho1
  have hsz := hb1.size
  clear ho1 hr1 hcap1
  go_wp2_with (at_builtin; refine wpList_append_zeros _ rfl _ _ 22 3 rfl w.heap.size 23 i0 .u64 .i64 .i64 Tryz.underlying22 Tryz.underlying3 hi hz0 hz1 hz2 _ q _ rfl HO.out dd rfl (by omega) hsz ?_)
  intro v' w2 hown' hgrow
  have hb2 : Below w.heap.size w w2 := append_below hb1 hsz HO.out hgrow
  obtain ⟨a2, cap2, rfl, hcap2⟩ := own_slice hown'
  rw [show List.replicate dd (Value.int .u64 0) = List.replicate (m - xs.length) (Value.int .u64 0) by rw [HXL.out, HDD.out], zeroL_cells, show q + dd = m by have := HDD.out; omega] at hown'
  rw [show q + dd = m by have := HDD.out; omega] at hcap2 ⊢
  have hrow := Row.of_own (a := a2) (cap := cap2) HZL.out (by omega) (zeroL_fits xs m HXF.out) hown'
  have HR := Lib.hid hrow
  clear hown' hgrow hrow
  go_wp2_with fail
  go_ret2
  exact ⟨a2, cap2, by simp [HZL.out], HR.out, by rw [HZL.out]; exact hcap2, hb2⟩
end Go.Proofs.YtlnlijeamflpiaaGreat

namespace Go.Proofs.YtlnlijeamflpiaaGreat
open Go.RowKit
set_option linter.unusedVariables false
set_option linter.unusedSimpArgs false
set_option maxRecDepth 100000
def ents (l : List (Value × Value)) : List MapEntry := l.mapIdx fun i p => { key := p.1, val := p.2, born := i }
def mapObj (l : List (Value × Value)) : Obj := .map (ents l).toArray l.length
theorem ents_len (l : List (Value × Value)) : (ents l).length = l.length := by simp [ents]
theorem ents_get (l : List (Value × Value)) (i : Nat) : (ents l)[i]? = (l[i]?).map fun p => { key := p.1, val := p.2, born := i } := by
  simp [ents]
theorem ents_snoc (l : List (Value × Value)) (k v : Value) : ents (l ++ [(k, v)]) = ents l ++ [{ key := k, val := v, born := l.length }] := by
  simp [ents, List.mapIdx_append]
theorem ents_modify (l : List (Value × Value)) (j : Nat) (v : Value) : (ents l).modify j (fun e => { e with val := v }) = ents (l.modify j fun p => (p.1, v)) := by
  refine List.ext_getElem? fun i => ?_
  rw [List.getElem?_modify, ents_get, ents_get, List.getElem?_modify]
  cases l[i]? with
  | none => simp
  | some p => simp only [Option.map_some]; split <;> simp
/-- What a struct's type as a key has to say. -/
structure KeyOk (P : Program) (T : TypeId) (KV : Value → Prop) : Prop where
  wide : (match P.underlying T with | some (.array _ _) | some (.struct _) => true | _ => false) = true
  check : ∀ (e : Bool) (w : World) (k : Value), KV k → (Instr.checkKey e 10000 T k).run P w = .ok () w
  eq : ∀ (w : World) (x y : Value), KV x → KV y → ∃ b : Bool, (Op.equal T x y).run P w = .ok b w ∧ (b = true ↔ x = y)
  stays : ∀ (w : World) (k : Value), KV k → (Instr.keyThatStays k k).run P w = .ok k w
section
variable {P : Program} {T : TypeId} {KV : Value → Prop} (K : KeyOk P T KV)
include K
theorem KeyOk.asking (w : World) (k : Value) (hk : KV k) : ∀ (es : List MapEntry) (i : Nat), (∀ e ∈ es, KV e.key) →
    ((Instr.findAsking T k es i).run P w = .ok none w ∧ ∀ e ∈ es, e.key ≠ k) ∨ ∃ (j : Nat) (e : MapEntry), (Instr.findAsking T k es i).run P w = .ok (some (i + j, e.val)) w ∧ es[j]? = some e ∧ e.key = k
  | [], i, _ => .inl ⟨by simp [Instr.findAsking], fun _ h => by cases h⟩
  | e :: es, i, h => by
    obtain ⟨b, hb, hiff⟩ := K.eq w k e.key hk (h e (by simp))
    cases b with
    | true => exact .inr ⟨0, e, by simp [Instr.findAsking, hb, Result.andThen], by simp, (hiff.1 rfl).symm⟩
    | false =>
      have hne : e.key ≠ k := fun h2 => by have := hiff.2 h2.symm; cases this
      rcases KeyOk.asking w k hk es (i + 1) (fun x hx => h x (by simp [hx])) with ⟨h1, h2⟩ | ⟨j, e', h1, h2, h3⟩
      · refine .inl ⟨by simp [Instr.findAsking, hb, h1, Result.andThen], fun x hx => ?_⟩
        rcases List.mem_cons.1 hx with rfl | hx
        · exact hne
        · exact h2 x hx
      · exact .inr ⟨j + 1, e', by simp [Instr.findAsking, hb, h1, Result.andThen]; omega, by simpa using h2, h3⟩
theorem KeyOk.find_no (w : World) (k : Value) (hk : KV k) (l : List (Value × Value)) (hl : ∀ p ∈ l, KV p.1) (hn : ∀ p ∈ l, p.1 ≠ k) : (Instr.findKey T k (ents l)).run P w = .ok none w := by
  rw [run_findKey_eq _ K.wide]
  have hm : ∀ e ∈ ents l, ∃ p ∈ l, e.key = p.1 := fun e he => by
    obtain ⟨i, hi⟩ := List.getElem?_of_mem he
    rw [ents_get] at hi
    obtain ⟨p, hp, rfl⟩ := Option.map_eq_some_iff.1 hi
    exact ⟨p, List.mem_of_getElem? hp, rfl⟩
  rcases K.asking w k hk (ents l) 0 (fun e he => by obtain ⟨p, hp, h⟩ := hm e he; rw [h]; exact hl p hp) with ⟨h1, _⟩ | ⟨j, e, _, h2, h3⟩
  · exact h1
  · obtain ⟨p, hp, h⟩ := hm e (List.mem_of_getElem? h2)
    exact absurd (h.symm.trans h3) (hn p hp)
theorem KeyOk.find_yes (w : World) (k v : Value) (hk : KV k) (l : List (Value × Value)) (hl : ∀ p ∈ l, KV p.1) (hd : (l.map (·.1)).Nodup) (j : Nat) (hj : l[j]? = some (k, v)) : (Instr.findKey T k (ents l)).run P w = .ok (some (j, v)) w := by
  rw [run_findKey_eq _ K.wide]
  have hm : ∀ e ∈ ents l, ∃ p ∈ l, e.key = p.1 := fun e he => by
    obtain ⟨i, hi⟩ := List.getElem?_of_mem he
    rw [ents_get] at hi
    obtain ⟨p, hp, rfl⟩ := Option.map_eq_some_iff.1 hi
    exact ⟨p, List.mem_of_getElem? hp, rfl⟩
  rcases K.asking w k hk (ents l) 0 (fun e he => by obtain ⟨p, hp, h⟩ := hm e he; rw [h]; exact hl p hp) with ⟨_, h2⟩ | ⟨i, e, h1, h2, h3⟩
  · refine absurd rfl (h2 { key := k, val := v, born := j } (List.mem_of_getElem? (i := j) ?_))
    rw [ents_get, hj]; rfl
  · rw [ents_get] at h2
    obtain ⟨p, hp, rfl⟩ := Option.map_eq_some_iff.1 h2
    have hij : i = j := by
      have a1 : (l.map (·.1))[i]? = some k := by simp [hp]; exact h3
      have a2 : (l.map (·.1))[j]? = some k := by simp [hj]
      exact (List.getElem?_inj (by rw [List.length_map]; exact (List.getElem?_eq_some_iff.1 hp).1) hd).1 (a1.trans a2.symm)
    subst hij
    rw [hp] at hj
    cases hj
    rw [h1, Nat.zero_add]
variable {M E : TypeId} (hM : P.underlying M = some (.map T E)) {w : World} {b : Nat} {l : List (Value × Value)} (hb : w.heap[b]? = some (mapObj l)) (hl : ∀ p ∈ l, KV p.1) {k : Value} (hk : KV k)
include hM hb hl hk
theorem KeyOk.lookup_no {z : Value} (hz : ∀ u : World, (zeroValue E).run P u = .ok z u) (hn : ∀ p ∈ l, p.1 ≠ k) (ok : Bool) : (Instr.lookup M (.map (some b)) k ok).run P w = .ok (if ok then .tuple #[z, .bool false] else z) w := by
  unfold mapObj at hb
  simp [Instr.lookup, run_underlying hM, MapKept.run_getObj_map hb, K.check _ w k hk, K.find_no w k hk l hl hn, hz, Result.andThen]
theorem KeyOk.lookup_yes {v : Value} {j : Nat} (hd : (l.map (·.1)).Nodup) (hj : l[j]? = some (k, v)) (ok : Bool) : (Instr.lookup M (.map (some b)) k ok).run P w = .ok (if ok then .tuple #[v, .bool true] else v) w := by
  unfold mapObj at hb
  simp [Instr.lookup, run_underlying hM, MapKept.run_getObj_map hb, K.check _ w k hk, K.find_yes w k v hk l hl hd j hj, Result.andThen]
theorem KeyOk.entry_no {z : Value} (hz : ∀ u : World, (zeroValue E).run P u = .ok z u) (hn : ∀ p ∈ l, p.1 ≠ k) : (Instr.mapEntry M (.map (some b)) k).run P w = .ok (.tuple #[z, goInt l.length]) (w.putObj b (mapObj (l ++ [(k, z)]))) := by
  unfold mapObj at hb
  simp [Instr.mapEntry, run_underlying hM, MapKept.run_getObj_map hb, K.check false w k hk, K.find_no w k hk l hl hn, hz, MapKept.run_setObj_map _ hb, Result.andThen, World.putObj, mapObj, ents_snoc]
theorem KeyOk.entry_yes {v : Value} {j : Nat} (hd : (l.map (·.1)).Nodup) (hj : l[j]? = some (k, v)) : (Instr.mapEntry M (.map (some b)) k).run P w = .ok (.tuple #[v, goInt j]) (w.putObj b (mapObj l)) := by
  unfold mapObj at hb
  have he : (ents l)[j]? = some { key := k, val := v, born := j } := by rw [ents_get, hj]; rfl
  have hs : (ents l).modify j (fun e => { e with key := k }) = ents l := by
    refine List.ext_getElem? fun i => ?_
    rw [List.getElem?_modify]
    split
    · rename_i hij; subst hij; rw [he]; rfl
    · simp
  simp [Instr.mapEntry, run_underlying hM, MapKept.run_getObj_map hb, K.check false w k hk, K.find_yes w k v hk l hl hd j hj, he, K.stays w k hk, hs, MapKept.run_setObj_map _ hb, Result.andThen, World.putObj, mapObj]
theorem KeyOk.update_no {v : Value} (hn : ∀ p ∈ l, p.1 ≠ k) : (Instr.mapUpdate M (.map (some b)) k v).run P w = .ok () (w.putObj b (mapObj (l ++ [(k, v)]))) := by
  unfold mapObj at hb
  simp [Instr.mapUpdate, run_underlying hM, MapKept.run_getObj_map hb, K.check false w k hk, K.find_no w k hk l hl hn, MapKept.run_setObj_map _ hb, Result.andThen, World.putObj, mapObj, ents_snoc]
end
theorem run_entryStore {P : Program} {M : TypeId} {w : World} {b : Nat} {l : List (Value × Value)} (hb : w.heap[b]? = some (mapObj l)) (j : Nat) (hj : j < l.length) (v : Value) : (Instr.entryStore M (.map (some b)) (goInt j) v).run P w = .ok () (w.putObj b (mapObj (l.modify j fun p => (p.1, v)))) := by
  unfold mapObj at hb
  have hidx : (ents l).toArray.findIdx? (fun e => ((e.born : Nat) : Int) == ((j : Nat) : Int)) = some j := by
    have h1 : (ents l).findIdx? (fun e => ((e.born : Nat) : Int) == ((j : Nat) : Int)) = some j := by
      rw [List.findIdx?_eq_some_iff_getElem]
      refine ⟨by rw [ents_len]; exact hj, ?_, fun i hij => ?_⟩
      · simp [ents]
      · simp [ents]; omega
    simpa using h1
  have hm : (ents l).modify j (fun e => { e with val := v }) = ents (l.modify j fun p => (p.1, v)) := ents_modify l j v
  simp [Instr.entryStore, MapKept.run_getObj_map hb, asInt, asIntOf, goInt, hidx, hm, MapKept.run_setObj_map _ hb, Result.andThen, World.putObj, mapObj]
theorem put_same (w : World) (b : Nat) (o : Obj) (h : w.heap[b]? = some o) : w.putObj b o = w := by
  have h2 : w.heap.setIfInBounds b o = w.heap := by
    apply Array.ext_getElem?
    intro i
    by_cases hi : b = i
    · subst hi; rw [Array.getElem?_setIfInBounds_self_of_lt (Array.getElem?_eq_some_iff.1 h).1, h]
    · rw [Array.getElem?_setIfInBounds_ne hi]
  cases w
  simp only [World.putObj] at *
  rw [h2]
theorem put_below {B : Nat} {w w' : World} (h : Below B w w') (b : Nat) (hb : B ≤ b) (o : Obj) : Below B w (w'.putObj b o) :=
  ⟨h.os, h.tape, h.output, by simpa using h.size, fun j hj => (World.putObj_heap_other (by omega)).trans (h.block j hj)⟩
/-- A name: four numbers. -/
abbrev Nm := Int × Int × Int × Int
def nv (x : Nm) : Value := .agg #[.int .i64 x.1, .int .i64 x.2.1, .int .i64 x.2.2.1, .int .i64 x.2.2.2]
theorem int_eqIn (a b : Int) (w : World) : (Op.equalIn 9999 3 (.int .i64 a) (.int .i64 b)).run Tryz.prog w = .ok (a == b) w := by
  have hI := Tryz.underlying3
  unfold Op.equalIn
  simp [run_underlying hI]
theorem name_eq (x y : Nm) (w : World) : (Op.equal 112 (nv x) (nv y)).run Tryz.prog w = .ok (x.1 == y.1 && (x.2.1 == y.2.1 && (x.2.2.1 == y.2.2.1 && x.2.2.2 == y.2.2.2))) w := by
  have hT := Tryz.underlying112
  have hI := Tryz.underlying3
  have p0 : ∀ (a b c d : Int) (w : World), (part 3 #[.int .i64 a, .int .i64 b, .int .i64 c, .int .i64 d] 0).run Tryz.prog w = .ok (.int .i64 a) w := fun _ _ _ _ _ => by kernel_rfl
  have p1 : ∀ (a b c d : Int) (w : World), (part 3 #[.int .i64 a, .int .i64 b, .int .i64 c, .int .i64 d] 1).run Tryz.prog w = .ok (.int .i64 b) w := fun _ _ _ _ _ => by kernel_rfl
  have p2 : ∀ (a b c d : Int) (w : World), (part 3 #[.int .i64 a, .int .i64 b, .int .i64 c, .int .i64 d] 2).run Tryz.prog w = .ok (.int .i64 c) w := fun _ _ _ _ _ => by kernel_rfl
  have p3 : ∀ (a b c d : Int) (w : World), (part 3 #[.int .i64 a, .int .i64 b, .int .i64 c, .int .i64 d] 3).run Tryz.prog w = .ok (.int .i64 d) w := fun _ _ _ _ _ => by kernel_rfl
  unfold Op.equal Op.maxDepth nv
  unfold Op.equalIn
  simp [run_underlying hT, p0, p1, p2, p3, int_eqIn, Result.andThen]
  by_cases h0 : x.1 = y.1 <;> by_cases h1 : x.2.1 = y.2.1 <;> by_cases h2 : x.2.2.1 = y.2.2.1 <;> by_cases h3 : x.2.2.2 = y.2.2.2 <;> simp [h0, h1, h2, h3, p0, p1, p2, p3, int_eqIn, Result.andThen]
theorem name_check (x : Nm) (e : Bool) (w : World) : (Instr.checkKey e 10000 112 (nv x)).run Tryz.prog w = .ok () w := by kernel_rfl
/-- It is a name's value. -/
def isNv (v : Value) : Prop := ∃ x : Nm, v = nv x
theorem nv_inj {x y : Nm} (h : nv x = nv y) : x = y := by
  obtain ⟨a, b, c, d⟩ := x
  obtain ⟨a', b', c', d'⟩ := y
  simp only [nv, Value.agg.injEq, Array.mk.injEq, List.cons.injEq, Value.int.injEq, true_and, and_true] at h
  obtain ⟨rfl, rfl, rfl, rfl⟩ := h
  rfl
theorem name_eqB (x y : Nm) (w : World) : (Op.equal 112 (nv x) (nv y)).run Tryz.prog w = .ok (decide (x = y)) w := by
  rw [name_eq]
  congr 1
  obtain ⟨a, b, c, d⟩ := x
  obtain ⟨a', b', c', d'⟩ := y
  rw [Bool.eq_iff_iff]
  simp
theorem name_keys : KeyOk Tryz.prog 112 isNv where
  wide := by kernel_rfl
  check := fun e w k h => by obtain ⟨x, rfl⟩ := h; exact name_check x e w
  eq := fun w x y hx hy => by
    obtain ⟨x, rfl⟩ := hx
    obtain ⟨y, rfl⟩ := hy
    refine ⟨_, name_eqB x y w, ?_⟩
    rw [decide_eq_true_eq]
    exact ⟨fun h => by rw [h], nv_inj⟩
  stays := fun w k h => by
    obtain ⟨x, rfl⟩ := h
    simp [Instr.keyThatStays, nv, Instr.sameBits]
end Go.Proofs.YtlnlijeamflpiaaGreat

namespace Go.Proofs.YtlnlijeamflpiaaGreat
open Go.RowKit
set_option linter.unusedVariables false
set_option linter.unusedSimpArgs false
set_option maxRecDepth 100000
/-- What a node names itself. -/
def nmOwn (k n k0 dir : Int) : List Nm := if k = 1 ∨ k = 3 ∨ k = 4 then [(1, n, 0, dir)] else if k = 6 then [(3, n, 0, dir)] else if k = 7 then [(2, n, 0, dir), (4, n, k0, dir)] else []
/-- The direction below. -/
def nmBelow (k dir : Int) : Int := if k = 6 ∨ k = 7 then 0 else dir
namespace Tr
mutual
/-- All names, as often as they are named. -/
def names : Tr → Int → List Nm
  | node k n ks, dir => nmOwn k n (kid ks 0).num dir ++ namesL ks (nmBelow k dir)
def namesL : List Tr → Int → List Nm
  | [], _ => []
  | t :: ts, dir => names t dir ++ namesL ts dir
end
theorem names_kids (t : Tr) (dir : Int) : t.names dir = nmOwn t.kind t.num (kid t.kids 0).num dir ++ namesL t.kids (nmBelow t.kind dir) := by cases t; simp [names, kind, num, kids]
theorem namesL_append (l r : List Tr) (dir : Int) : namesL (l ++ r) dir = namesL l dir ++ namesL r dir := by
  induction l with
  | nil => simp [namesL]
  | cons t ts ih => simp only [List.cons_append, namesL, ih, List.append_assoc]
theorem namesL_snoc (l : List Tr) (t : Tr) (dir : Int) : namesL (l ++ [t]) dir = namesL l dir ++ t.names dir := by rw [namesL_append]; simp [namesL]
theorem own_len (k n k0 dir : Int) : (nmOwn k n k0 dir).length ≤ 2 := by unfold nmOwn; repeat' split
                                                                         all_goals simp
theorem names_len (N : Nat) : ∀ (t : Tr) (dir : Int), t.size ≤ N → (t.names dir).length ≤ 2 * t.size := by
  induction N with
  | zero => intro t dir h; have := size_pos t; omega
  | succ N ih =>
    intro t dir h
    have h2 : ∀ (ks : List Tr) (d : Int), sizeL ks ≤ N → (namesL ks d).length ≤ 2 * sizeL ks := by
      intro ks
      induction ks with
      | nil => intro d _; simp [namesL, sizeL]
      | cons t ts ih2 => intro d hk; simp only [sizeL] at hk; simp only [namesL, sizeL, List.length_append]; have := ih t d (by omega); have := ih2 d (by omega); omega
    rw [size_kids] at h ⊢
    rw [names_kids, List.length_append]
    have := h2 t.kids (nmBelow t.kind dir) (by omega)
    have := own_len t.kind t.num (kid t.kids 0).num dir
    omega
theorem namesL_len (ks : List Tr) (dir : Int) : (namesL ks dir).length ≤ 2 * sizeL ks := by
  induction ks with
  | nil => simp [namesL, sizeL]
  | cons t ts ih => simp only [namesL, sizeL, List.length_append]; have := names_len _ t dir (Nat.le_refl _); omega
theorem mem_namesL {ks : List Tr} {dir : Int} {x : Nm} : x ∈ namesL ks dir ↔ ∃ i, i < ks.length ∧ x ∈ (kid ks i).names dir := by
  induction ks with
  | nil => simp [namesL]
  | cons y r ih =>
    simp only [namesL, List.mem_append, ih]
    constructor
    · rintro (h | ⟨i, hi, h⟩)
      · exact ⟨0, by simp, h⟩
      · exact ⟨i + 1, by simpa using hi, h⟩
    · rintro ⟨i, hi, h⟩
      cases i with
      | zero => exact .inl h
      | succ i => exact .inr ⟨i, by simpa using hi, h⟩
end Tr
/-- Each name where it comes first. -/
def once (l : List Nm) : List Nm := l.foldl (fun out x => if x ∈ out then out else out ++ [x]) []
theorem once_snoc (l : List Nm) (x : Nm) : once (l ++ [x]) = if x ∈ once l then once l else once l ++ [x] := by unfold once; rw [List.foldl_append]; rfl
theorem list_snoc {α : Type} {motive : List α → Prop} (nil : motive []) (snoc : ∀ l x, motive l → motive (l ++ [x])) (l : List α) : motive l := by
  have h : ∀ n (l : List α), l.length = n → motive l := by
    intro n
    induction n with
    | zero => intro l h; rw [List.eq_nil_of_length_eq_zero h]; exact nil
    | succ n ih =>
      intro l h
      have hne : l ≠ [] := fun e => by subst e; simp at h
      rw [← List.dropLast_concat_getLast hne]
      exact snoc _ _ (ih _ (by simp; omega))
  exact h _ l rfl
theorem mem_once (l : List Nm) : ∀ x, x ∈ once l ↔ x ∈ l := by
  refine list_snoc (motive := fun l => ∀ x, x ∈ once l ↔ x ∈ l) (by simp [once]) (fun l y ih x => ?_) l
  rw [once_snoc]
  split
  · rename_i h
    rw [ih, List.mem_append, List.mem_singleton]
    exact ⟨.inl, fun h2 => h2.elim id fun e => by subst e; exact (ih _).1 h⟩
  · rw [List.mem_append, List.mem_append, ih]
theorem nodup_once (l : List Nm) : (once l).Nodup := by
  refine list_snoc (motive := fun l => (once l).Nodup) (by simp [once]) (fun l y ih => ?_) l
  rw [once_snoc]
  split
  · exact ih
  · rename_i h
    exact List.nodup_append.2 ⟨ih, by simp, fun a ha b hb e => by simp at hb; subst hb; subst e; exact h ha⟩
theorem once_len (l : List Nm) : (once l).length ≤ l.length := by
  refine list_snoc (motive := fun l => (once l).length ≤ l.length) (by simp [once]) (fun l y ih => ?_) l
  rw [once_snoc]
  split <;> simp <;> omega
/-- What the map of counts holds. -/
def cntL (l : List Nm) : List (Value × Value) := (once l).map fun x => (nv x, .int .i64 (l.count x : Nat))
theorem cntL_len (l : List Nm) : (cntL l).length = (once l).length := by simp [cntL]
theorem cntL_keys (l : List Nm) : ∀ p ∈ cntL l, isNv p.1 := by
  intro p hp
  obtain ⟨x, _, rfl⟩ := List.mem_map.1 hp
  exact ⟨x, rfl⟩
theorem cntL_nodup (l : List Nm) : ((cntL l).map (·.1)).Nodup := by
  have h : (cntL l).map (·.1) = (once l).map nv := by simp [cntL]
  rw [h]
  exact List.Pairwise.map nv (fun a b hab e => hab (nv_inj e)) (nodup_once l)
theorem cntL_no {l : List Nm} {x : Nm} (h : x ∉ l) : ∀ p ∈ cntL l, p.1 ≠ nv x := by
  intro p hp e
  obtain ⟨y, hy, rfl⟩ := List.mem_map.1 hp
  exact h (by rw [← nv_inj e]; exact (mem_once l y).1 hy)
theorem cntL_yes {l : List Nm} {x : Nm} (h : x ∈ l) : ∃ j, j < (once l).length ∧ (once l)[j]? = some x ∧ (cntL l)[j]? = some (nv x, .int .i64 (l.count x : Nat)) := by
  obtain ⟨j, hj⟩ := List.getElem?_of_mem ((mem_once l x).2 h)
  exact ⟨j, (List.getElem?_eq_some_iff.1 hj).1, hj, by simp [cntL, hj]⟩
theorem cntL_new {l : List Nm} {x : Nm} (h : x ∉ l) : cntL (l ++ [x]) = cntL l ++ [(nv x, .int .i64 1)] := by
  have h1 : x ∉ once l := fun e => h ((mem_once l x).1 e)
  unfold cntL
  rw [once_snoc, if_neg h1, List.map_append]
  congr 1
  · refine List.map_congr_left fun y hy => ?_
    have hne : y ≠ x := fun e => by subst e; exact h1 hy
    rw [List.count_append]
    simp [List.count_singleton, hne, Ne.symm hne]
  · have : l.count x = 0 := List.count_eq_zero.2 h
    simp [List.count_append, this]
theorem cntL_more {l : List Nm} {x : Nm} {j : Nat} (h : x ∈ l) (hj : (once l)[j]? = some x) : cntL (l ++ [x]) = (cntL l).modify j fun p => (p.1, .int .i64 ((l.count x : Nat) + 1)) := by
  have h1 : x ∈ once l := (mem_once l x).2 h
  unfold cntL
  rw [once_snoc, if_pos h1]
  refine List.ext_getElem? fun i => ?_
  rw [List.getElem?_modify, List.getElem?_map, List.getElem?_map]
  cases hi : (once l)[i]? with
  | none => simp
  | some y =>
    simp only [Option.map_some]
    by_cases hji : j = i
    · subst hji
      rw [hj] at hi
      cases hi
      simp [List.count_append]
    · have hne : y ≠ x := fun e => by
        subst e
        exact hji ((List.getElem?_inj (List.getElem?_eq_some_iff.1 hj).1 (nodup_once l)).1 (hj.trans hi.symm))
      simp [hji, List.count_append, List.count_singleton, hne, Ne.symm hne]
/-- Is it a name? -/
def rightB (x : Nm) : Bool :=
  hasSz x.2.1 && decide (x.2.2.2 = 0 ∨ x.2.2.2 = 1) &&
    if x.1 = 1 ∨ x.1 = 2 then decide (x.2.2.1 = 0)
    else if x.1 = 3 then decide (x.2.2.1 = 0 ∧ 3 ≤ x.2.1) && isPr x.2.1
    else if x.1 = 4 then decide (2 ≤ x.2.1 ∧ 2 * x.2.1 - 1 ≤ x.2.2.1) && hasP2 x.2.2.1
    else false
/-- How many numbers. -/
def roomN (x : Nm) : Int := if rightB x = false then 0 else if x.1 = 3 then x.2.1 - 1 else if x.1 = 4 then x.2.2.1 else x.2.1
theorem pow_size (j : Nat) (hj : j ≤ 24) : hasSz ((2 ^ j : Nat) : Int) = true := by
  have h : ∀ i : Fin 25, hasSz ((2 ^ i.val : Nat) : Int) = true := by decide +kernel
  exact h ⟨j, by omega⟩
theorem own_right {t : Tr} (h : nodeOk t = true) (dir : Int) (hd : dir = 0 ∨ dir = 1) : ∀ x ∈ nmOwn t.kind t.num (Tr.kid t.kids 0).num dir, rightB x = true := by
  intro x hx
  have hd' : decide (dir = 0 ∨ dir = 1) = true := decide_eq_true hd
  unfold nodeOk nodeB at h
  unfold nmOwn at hx
  by_cases h1 : t.kind = 1
  · rw [if_pos h1] at h
    rw [if_pos (.inl h1)] at hx
    simp only [Bool.and_eq_true, decide_eq_true_eq] at h
    simp only [List.mem_singleton] at hx
    subst hx
    simp [rightB, h.2, hd']
  rw [if_neg h1] at h
  by_cases h2 : t.kind = 2
  · rw [if_neg (by omega), if_neg (by omega), if_neg (by omega)] at hx
    cases hx
  rw [if_neg h2] at h
  by_cases h3 : t.kind = 3
  · rw [if_pos h3] at h
    rw [if_pos (.inr (.inl h3))] at hx
    simp only [Bool.and_eq_true, decide_eq_true_eq] at h
    obtain ⟨j, hj, e⟩ := (hasP2_iff _).1 h.2
    simp only [List.mem_singleton] at hx
    subst hx
    have hz := pow_size j hj
    rw [← e] at hz
    simp [rightB, hz, hd']
  rw [if_neg h3] at h
  by_cases h4 : t.kind = 4
  · rw [if_pos h4] at h
    rw [if_pos (.inr (.inr h4))] at hx
    obtain ⟨_, g⟩ := sides_iff.1 h
    simp only [List.mem_singleton] at hx
    subst hx
    simp [rightB, g, hd']
  rw [if_neg h4] at h
  by_cases h5 : t.kind = 5
  · rw [if_neg (by omega), if_neg (by omega), if_neg (by omega)] at hx
    cases hx
  rw [if_neg h5] at h
  rw [if_neg (by omega)] at hx
  by_cases h6 : t.kind = 6
  · rw [if_pos h6] at h
    rw [if_pos h6] at hx
    simp only [Bool.and_eq_true, decide_eq_true_eq] at h
    simp only [List.mem_singleton] at hx
    subst hx
    simp [rightB, h.1.2, hd', h.2, h.1.1.2.1]
  rw [if_neg h6] at h hx
  by_cases h7 : t.kind = 7
  · rw [if_pos h7] at h
    rw [if_pos h7] at hx
    simp only [Bool.and_eq_true, decide_eq_true_eq] at h
    simp only [List.mem_cons, List.not_mem_nil, or_false] at hx
    rcases hx with rfl | rfl
    · simp [rightB, h.1.2, hd']
    · have := h.1.1.2.2
      simp [rightB, h.1.2, hd', h.2, h.1.1.2.1, this]
  rw [if_neg h7] at h
  cases h
theorem below_dir (k dir : Int) (hd : dir = 0 ∨ dir = 1) : nmBelow k dir = 0 ∨ nmBelow k dir = 1 := by unfold nmBelow; split <;> omega
theorem names_right (N : Nat) : ∀ (t : Tr) (dir : Int), t.size ≤ N → t.allOk → dir = 0 ∨ dir = 1 → ∀ x ∈ t.names dir, rightB x = true := by
  induction N with
  | zero => intro t dir h; have := Tr.size_pos t; omega
  | succ N ih =>
    intro t dir hs hok hd x hx
    have hn := (Tr.allOk_iff t).1 hok
    rw [Tr.names_kids, List.mem_append] at hx
    rcases hx with hx | hx
    · exact own_right hn.1 dir hd x hx
    · obtain ⟨i, hi, hx⟩ := Tr.mem_namesL.1 hx
      exact ih _ _ (by have := Tr.size_kid t i hi; omega) (hn.2 i hi) (below_dir _ _ hd) x hx
end Go.Proofs.YtlnlijeamflpiaaGreat

namespace Go.Proofs.YtlnlijeamflpiaaGreat
open Go.RowKit
set_option linter.unusedVariables false
set_option linter.unusedSimpArgs false
set_option maxRecDepth 100000
set_option maxRecDepth 20000
/-- Four numbers that may be. -/
def NmOk (x : Nm) : Prop := (-9223372036854775808 ≤ x.1 ∧ x.1 < 9223372036854775808) ∧ (-9223372036854775808 ≤ x.2.1 ∧ x.2.1 < 9223372036854775808) ∧ (-9223372036854775808 ≤ x.2.2.1 ∧ x.2.2.1 < 9223372036854775808) ∧ (-9223372036854775808 ≤ x.2.2.2 ∧ x.2.2.2 < 9223372036854775808)
set_option maxHeartbeats 4000000 in
theorem need_Right (k n m d : Int) (w : World) (hx : NmOk (k, n, m, d)) :
    Calls Tryz.prog 131 #[.agg #[.int .i64 k, .int .i64 n, .int .i64 m, .int .i64 d]] w fun e w' => e = .returned (.bool (rightB (k, n, m, d))) ∧ Below w.heap.size w w' := by
  obtain ⟨hk, hn, hm, hd⟩ := hx
  simp only at hk hn hm hd
  obtain ⟨W0, hW0, hb0, x0⟩ := box_any w #[.int .i64 k, .int .i64 n, .int .i64 m, .int .i64 d] 112
  have HW0 := Lib.hid hW0
  have HB := Lib.hid hb0
  have D0 : W0.cell? ⟨w.heap.size, 0, none⟩ = some (.int .i64 k) := block_cell x0 0
  have D1 : W0.cell? ⟨w.heap.size, 1, none⟩ = some (.int .i64 n) := block_cell x0 1
  have D2 : W0.cell? ⟨w.heap.size, 2, none⟩ = some (.int .i64 m) := block_cell x0 2
  have D3 : W0.cell? ⟨w.heap.size, 3, none⟩ = some (.int .i64 d) := block_cell x0 3
  clear hW0 hb0 x0
  by_cases hsz : hasSz n = true
  case neg =>
    have hsz' : hasSz n = false := by simpa using hsz
    have HS : Hid (∀ W, Calls Tryz.prog 41 #[.int .i64 n] W fun e w' => e = .returned (.bool false) ∧ W = w') := fun W => rootHas_no n W hsz' hn
    have HV : Hid (rightB (k, n, m, d) = false) := by simp [Hid, rightB, hsz']
    clear hsz hsz'
    go_enter Tryz.func131, Tryz.ntmps131
    go_wp2_with fail
    rw [HW0.out]
    refine (HS.out _).mono ?_; rintro e w1 ⟨rfl, rfl⟩
    go_wp2_with fail
    go_ret
    exact ⟨ret_bool HV.out.symm, HB.out⟩
  have HS : Hid (∀ W, Calls Tryz.prog 41 #[.int .i64 n] W fun e w' => e = .returned (.bool true) ∧ W = w') := fun W => rootHas_yes n W hsz
  have hnb := hasSz_bd hsz
  by_cases hdd : d = 0 ∨ d = 1
  case neg =>
    have HV : Hid (rightB (k, n, m, d) = false) := by simp [Hid, rightB, hdd]
    have t0 : (d != 0) = true := bdiff (by omega)
    have t1 : (d != 1) = true := bdiff (by omega)
    clear hsz hdd
    go_enter Tryz.func131, Tryz.ntmps131
    go_wp2_with fail
    rw [HW0.out]
    refine (HS.out _).mono ?_; rintro e w1 ⟨rfl, rfl⟩
    go_wp2_with fail
    go_ret
    exact ⟨ret_bool HV.out.symm, HB.out⟩
  have HD : Hid (decide (d = 0 ∨ d = 1) = true) := decide_eq_true hdd
  have HZ := Lib.hid hsz
  rcases hdd with rfl | rfl

  · clear hsz
    rcases (show k = 1 ∨ k = 2 ∨ k = 3 ∨ k = 4 ∨ (k ≠ 1 ∧ k ≠ 2 ∧ k ≠ 3 ∧ k ≠ 4) by omega) with rfl | rfl | rfl | rfl | ⟨k1, k2, k3, k4⟩
    · by_cases hm0 : m = 0
      · subst hm0
        have HV : Hid (rightB (1, n, 0, 0) = true) := by unfold Hid rightB; simp only [HZ.out]; simp
        clear HZ HD
        go_enter Tryz.func131, Tryz.ntmps131
        go_wp2_with fail
        rw [HW0.out]
        refine (HS.out _).mono ?_; rintro e w1 ⟨rfl, rfl⟩
        go_wp2_with fail
        go_ret
        exact ⟨ret_bool HV.out.symm, HB.out⟩
      · have t2 : (m == 0) = false := bno hm0
        have HV : Hid (rightB (1, n, m, 0) = false) := by unfold Hid rightB; simp only [HZ.out]; simp [hm0]
        clear HZ HD hm0
        go_enter Tryz.func131, Tryz.ntmps131
        go_wp2_with fail
        rw [HW0.out]
        refine (HS.out _).mono ?_; rintro e w1 ⟨rfl, rfl⟩
        go_wp2_with fail
        go_ret
        exact ⟨ret_bool HV.out.symm, HB.out⟩
    · by_cases hm0 : m = 0
      · subst hm0
        have HV : Hid (rightB (2, n, 0, 0) = true) := by unfold Hid rightB; simp only [HZ.out]; simp
        clear HZ HD
        go_enter Tryz.func131, Tryz.ntmps131
        go_wp2_with fail
        rw [HW0.out]
        refine (HS.out _).mono ?_; rintro e w1 ⟨rfl, rfl⟩
        go_wp2_with fail
        go_ret
        exact ⟨ret_bool HV.out.symm, HB.out⟩
      · have t2 : (m == 0) = false := bno hm0
        have HV : Hid (rightB (2, n, m, 0) = false) := by unfold Hid rightB; simp only [HZ.out]; simp [hm0]
        clear HZ HD hm0
        go_enter Tryz.func131, Tryz.ntmps131
        go_wp2_with fail
        rw [HW0.out]
        refine (HS.out _).mono ?_; rintro e w1 ⟨rfl, rfl⟩
        go_wp2_with fail
        go_ret
        exact ⟨ret_bool HV.out.symm, HB.out⟩
    · by_cases hm0 : m = 0
      · subst hm0
        by_cases h3 : 3 ≤ n
        · have t3 : decide (n ≥ 3) = true := by simp; omega
          obtain ⟨P, hP⟩ : ∃ P, isPr n = P := ⟨_, rfl⟩
          have HP : Hid (∀ W, Calls Tryz.prog 97 #[.int .i64 n] W fun e w' => e = .returned (.bool P) ∧ Below W.heap.size W w') := fun W => by rw [← hP]; exact fact_Prime n W hn
          have HV : Hid (rightB (3, n, 0, 0) = P) := by unfold Hid rightB; simp only [HZ.out]; simp [h3, hP]
          clear HZ HD hP
          go_enter Tryz.func131, Tryz.ntmps131
          go_wp2_with fail
          rw [HW0.out]
          refine (HS.out _).mono ?_; rintro e w1 ⟨rfl, rfl⟩
          go_wp2_with fail
          refine (HP.out _).mono ?_; rintro e w2 ⟨rfl, hb2⟩
          have HB := Lib.hid (chain HB.out hb2)
          clear hb2 D0 D1 D2 D3
          go_wp2_with fail
          go_ret
          exact ⟨ret_bool HV.out.symm, HB.out⟩
        · have t3 : decide (n ≥ 3) = false := by simp; omega
          have HV : Hid (rightB (3, n, 0, 0) = false) := by unfold Hid rightB; simp only [HZ.out]; simp [h3]
          clear HZ HD h3
          go_enter Tryz.func131, Tryz.ntmps131
          go_wp2_with fail
          rw [HW0.out]
          refine (HS.out _).mono ?_; rintro e w1 ⟨rfl, rfl⟩
          go_wp2_with fail
          go_ret
          exact ⟨ret_bool HV.out.symm, HB.out⟩
      · have t2 : (m == 0) = false := bno hm0
        have HV : Hid (rightB (3, n, m, 0) = false) := by unfold Hid rightB; simp only [HZ.out]; simp [hm0]
        clear HZ HD hm0
        go_enter Tryz.func131, Tryz.ntmps131
        go_wp2_with fail
        rw [HW0.out]
        refine (HS.out _).mono ?_; rintro e w1 ⟨rfl, rfl⟩
        go_wp2_with fail
        go_ret
        exact ⟨ret_bool HV.out.symm, HB.out⟩
    · by_cases h2 : 2 ≤ n
      · have t4 : decide (n ≥ 2) = true := by simp; omega
        by_cases h5 : 2 * n - 1 ≤ m
        · have t5 : decide (m ≥ 2 * n - 1) = true := by simp; omega
          obtain ⟨P, hP⟩ : ∃ P, hasP2 m = P := ⟨_, rfl⟩
          have HP : Hid (∀ W, Calls Tryz.prog 121 #[.int .i64 m] W fun e w' => e = .returned (.bool P) ∧ W = w') := fun W => by rw [← hP]; exact stock_Has m W ⟨hm.1, by omega⟩
          have HV : Hid (rightB (4, n, m, 0) = P) := by unfold Hid rightB; simp only [HZ.out]; simp [h2, h5, hP]
          clear HZ HD hP
          go_enter Tryz.func131, Tryz.ntmps131
          go_wp2_with fail
          rw [HW0.out]
          refine (HS.out _).mono ?_; rintro e w1 ⟨rfl, rfl⟩
          go_wp2_with fail
          refine (HP.out _).mono ?_; rintro e w2 ⟨rfl, rfl⟩
          go_wp2_with fail
          go_ret
          exact ⟨ret_bool HV.out.symm, HB.out⟩
        · have t5 : decide (m ≥ 2 * n - 1) = false := by simp; omega
          have HV : Hid (rightB (4, n, m, 0) = false) := by unfold Hid rightB; simp only [HZ.out]; simp [h5]
          clear HZ HD h5
          go_enter Tryz.func131, Tryz.ntmps131
          go_wp2_with fail
          rw [HW0.out]
          refine (HS.out _).mono ?_; rintro e w1 ⟨rfl, rfl⟩
          go_wp2_with fail
          go_ret
          exact ⟨ret_bool HV.out.symm, HB.out⟩
      · have t4 : decide (n ≥ 2) = false := by simp; omega
        have HV : Hid (rightB (4, n, m, 0) = false) := by unfold Hid rightB; simp only [HZ.out]; simp [h2]
        clear HZ HD h2
        go_enter Tryz.func131, Tryz.ntmps131
        go_wp2_with fail
        rw [HW0.out]
        refine (HS.out _).mono ?_; rintro e w1 ⟨rfl, rfl⟩
        go_wp2_with fail
        go_ret
        exact ⟨ret_bool HV.out.symm, HB.out⟩
    · have u1 := bno k1
      have u2 := bno k2
      have u3 := bno k3
      have u4 := bno k4
      have HV : Hid (rightB (k, n, m, 0) = false) := by unfold Hid rightB; simp only [HZ.out]; simp [k1, k2, k3, k4]
      clear HZ HD k1 k2 k3 k4
      go_enter Tryz.func131, Tryz.ntmps131
      go_wp2_with fail
      rw [HW0.out]
      refine (HS.out _).mono ?_; rintro e w1 ⟨rfl, rfl⟩
      go_wp2_with fail
      go_ret
      exact ⟨ret_bool HV.out.symm, HB.out⟩

  · clear hsz
    rcases (show k = 1 ∨ k = 2 ∨ k = 3 ∨ k = 4 ∨ (k ≠ 1 ∧ k ≠ 2 ∧ k ≠ 3 ∧ k ≠ 4) by omega) with rfl | rfl | rfl | rfl | ⟨k1, k2, k3, k4⟩
    · by_cases hm0 : m = 0
      · subst hm0
        have HV : Hid (rightB (1, n, 0, 1) = true) := by unfold Hid rightB; simp only [HZ.out]; simp
        clear HZ HD
        go_enter Tryz.func131, Tryz.ntmps131
        go_wp2_with fail
        rw [HW0.out]
        refine (HS.out _).mono ?_; rintro e w1 ⟨rfl, rfl⟩
        go_wp2_with fail
        go_ret
        exact ⟨ret_bool HV.out.symm, HB.out⟩
      · have t2 : (m == 0) = false := bno hm0
        have HV : Hid (rightB (1, n, m, 1) = false) := by unfold Hid rightB; simp only [HZ.out]; simp [hm0]
        clear HZ HD hm0
        go_enter Tryz.func131, Tryz.ntmps131
        go_wp2_with fail
        rw [HW0.out]
        refine (HS.out _).mono ?_; rintro e w1 ⟨rfl, rfl⟩
        go_wp2_with fail
        go_ret
        exact ⟨ret_bool HV.out.symm, HB.out⟩
    · by_cases hm0 : m = 0
      · subst hm0
        have HV : Hid (rightB (2, n, 0, 1) = true) := by unfold Hid rightB; simp only [HZ.out]; simp
        clear HZ HD
        go_enter Tryz.func131, Tryz.ntmps131
        go_wp2_with fail
        rw [HW0.out]
        refine (HS.out _).mono ?_; rintro e w1 ⟨rfl, rfl⟩
        go_wp2_with fail
        go_ret
        exact ⟨ret_bool HV.out.symm, HB.out⟩
      · have t2 : (m == 0) = false := bno hm0
        have HV : Hid (rightB (2, n, m, 1) = false) := by unfold Hid rightB; simp only [HZ.out]; simp [hm0]
        clear HZ HD hm0
        go_enter Tryz.func131, Tryz.ntmps131
        go_wp2_with fail
        rw [HW0.out]
        refine (HS.out _).mono ?_; rintro e w1 ⟨rfl, rfl⟩
        go_wp2_with fail
        go_ret
        exact ⟨ret_bool HV.out.symm, HB.out⟩
    · by_cases hm0 : m = 0
      · subst hm0
        by_cases h3 : 3 ≤ n
        · have t3 : decide (n ≥ 3) = true := by simp; omega
          obtain ⟨P, hP⟩ : ∃ P, isPr n = P := ⟨_, rfl⟩
          have HP : Hid (∀ W, Calls Tryz.prog 97 #[.int .i64 n] W fun e w' => e = .returned (.bool P) ∧ Below W.heap.size W w') := fun W => by rw [← hP]; exact fact_Prime n W hn
          have HV : Hid (rightB (3, n, 0, 1) = P) := by unfold Hid rightB; simp only [HZ.out]; simp [h3, hP]
          clear HZ HD hP
          go_enter Tryz.func131, Tryz.ntmps131
          go_wp2_with fail
          rw [HW0.out]
          refine (HS.out _).mono ?_; rintro e w1 ⟨rfl, rfl⟩
          go_wp2_with fail
          refine (HP.out _).mono ?_; rintro e w2 ⟨rfl, hb2⟩
          have HB := Lib.hid (chain HB.out hb2)
          clear hb2 D0 D1 D2 D3
          go_wp2_with fail
          go_ret
          exact ⟨ret_bool HV.out.symm, HB.out⟩
        · have t3 : decide (n ≥ 3) = false := by simp; omega
          have HV : Hid (rightB (3, n, 0, 1) = false) := by unfold Hid rightB; simp only [HZ.out]; simp [h3]
          clear HZ HD h3
          go_enter Tryz.func131, Tryz.ntmps131
          go_wp2_with fail
          rw [HW0.out]
          refine (HS.out _).mono ?_; rintro e w1 ⟨rfl, rfl⟩
          go_wp2_with fail
          go_ret
          exact ⟨ret_bool HV.out.symm, HB.out⟩
      · have t2 : (m == 0) = false := bno hm0
        have HV : Hid (rightB (3, n, m, 1) = false) := by unfold Hid rightB; simp only [HZ.out]; simp [hm0]
        clear HZ HD hm0
        go_enter Tryz.func131, Tryz.ntmps131
        go_wp2_with fail
        rw [HW0.out]
        refine (HS.out _).mono ?_; rintro e w1 ⟨rfl, rfl⟩
        go_wp2_with fail
        go_ret
        exact ⟨ret_bool HV.out.symm, HB.out⟩
    · by_cases h2 : 2 ≤ n
      · have t4 : decide (n ≥ 2) = true := by simp; omega
        by_cases h5 : 2 * n - 1 ≤ m
        · have t5 : decide (m ≥ 2 * n - 1) = true := by simp; omega
          obtain ⟨P, hP⟩ : ∃ P, hasP2 m = P := ⟨_, rfl⟩
          have HP : Hid (∀ W, Calls Tryz.prog 121 #[.int .i64 m] W fun e w' => e = .returned (.bool P) ∧ W = w') := fun W => by rw [← hP]; exact stock_Has m W ⟨hm.1, by omega⟩
          have HV : Hid (rightB (4, n, m, 1) = P) := by unfold Hid rightB; simp only [HZ.out]; simp [h2, h5, hP]
          clear HZ HD hP
          go_enter Tryz.func131, Tryz.ntmps131
          go_wp2_with fail
          rw [HW0.out]
          refine (HS.out _).mono ?_; rintro e w1 ⟨rfl, rfl⟩
          go_wp2_with fail
          refine (HP.out _).mono ?_; rintro e w2 ⟨rfl, rfl⟩
          go_wp2_with fail
          go_ret
          exact ⟨ret_bool HV.out.symm, HB.out⟩
        · have t5 : decide (m ≥ 2 * n - 1) = false := by simp; omega
          have HV : Hid (rightB (4, n, m, 1) = false) := by unfold Hid rightB; simp only [HZ.out]; simp [h5]
          clear HZ HD h5
          go_enter Tryz.func131, Tryz.ntmps131
          go_wp2_with fail
          rw [HW0.out]
          refine (HS.out _).mono ?_; rintro e w1 ⟨rfl, rfl⟩
          go_wp2_with fail
          go_ret
          exact ⟨ret_bool HV.out.symm, HB.out⟩
      · have t4 : decide (n ≥ 2) = false := by simp; omega
        have HV : Hid (rightB (4, n, m, 1) = false) := by unfold Hid rightB; simp only [HZ.out]; simp [h2]
        clear HZ HD h2
        go_enter Tryz.func131, Tryz.ntmps131
        go_wp2_with fail
        rw [HW0.out]
        refine (HS.out _).mono ?_; rintro e w1 ⟨rfl, rfl⟩
        go_wp2_with fail
        go_ret
        exact ⟨ret_bool HV.out.symm, HB.out⟩
    · have u1 := bno k1
      have u2 := bno k2
      have u3 := bno k3
      have u4 := bno k4
      have HV : Hid (rightB (k, n, m, 1) = false) := by unfold Hid rightB; simp only [HZ.out]; simp [k1, k2, k3, k4]
      clear HZ HD k1 k2 k3 k4
      go_enter Tryz.func131, Tryz.ntmps131
      go_wp2_with fail
      rw [HW0.out]
      refine (HS.out _).mono ?_; rintro e w1 ⟨rfl, rfl⟩
      go_wp2_with fail
      go_ret
      exact ⟨ret_bool HV.out.symm, HB.out⟩
end Go.Proofs.YtlnlijeamflpiaaGreat

namespace Go.Proofs.YtlnlijeamflpiaaGreat
open Go.RowKit
set_option linter.unusedVariables false
set_option linter.unusedSimpArgs false
set_option maxRecDepth 100000
set_option maxRecDepth 20000
theorem right_bd {x : Nm} (h : rightB x = true) : 1 ≤ x.2.1 ∧ x.2.1 ≤ 16777216 := by
  unfold rightB at h
  simp only [Bool.and_eq_true] at h
  exact hasSz_bd h.1.1
theorem roomN_no {x : Nm} (h : rightB x = false) : roomN x = 0 := if_pos h
theorem roomN_yes {x : Nm} (h : rightB x = true) : roomN x = if x.1 = 3 then x.2.1 - 1 else if x.1 = 4 then x.2.2.1 else x.2.1 := if_neg (by rw [h]; simp)
set_option maxHeartbeats 2000000 in
theorem need_Room (k n m d : Int) (w : World) (hx : NmOk (k, n, m, d)) :
    Calls Tryz.prog 153 #[.agg #[.int .i64 k, .int .i64 n, .int .i64 m, .int .i64 d]] w fun e w' => e = .returned (.int .i64 (roomN (k, n, m, d))) ∧ Below w.heap.size w w' := by
  have CR : Hid (∀ W, Below w.heap.size w W → Calls Tryz.prog 131 #[.agg #[.int .i64 k, .int .i64 n, .int .i64 m, .int .i64 d]] W fun e w' => e = .returned (.bool (rightB (k, n, m, d))) ∧ Below W.heap.size W w') := fun W _ => need_Right k n m d W hx
  have hbd : rightB (k, n, m, d) = true → 1 ≤ n ∧ n ≤ 16777216 := right_bd
  have hno : rightB (k, n, m, d) = false → roomN (k, n, m, d) = 0 := roomN_no
  have hyes : rightB (k, n, m, d) = true → roomN (k, n, m, d) = if k = 3 then n - 1 else if k = 4 then m else n := roomN_yes
  obtain ⟨W0, hW0, hb0, x0⟩ := box_any w #[.int .i64 k, .int .i64 n, .int .i64 m, .int .i64 d] 112
  have HW0 := Lib.hid hW0
  have HB := Lib.hid hb0
  have XD := Lib.hid x0
  have D0 : W0.cell? ⟨w.heap.size, 0, none⟩ = some (.int .i64 k) := block_cell XD.out 0
  have D1 : W0.cell? ⟨w.heap.size, 1, none⟩ = some (.int .i64 n) := block_cell XD.out 1
  have D2 : W0.cell? ⟨w.heap.size, 2, none⟩ = some (.int .i64 m) := block_cell XD.out 2
  have D3 : W0.cell? ⟨w.heap.size, 3, none⟩ = some (.int .i64 d) := block_cell XD.out 3
  clear hW0 hb0 x0
  obtain ⟨R, hR⟩ : ∃ R, rightB (k, n, m, d) = R := ⟨_, rfl⟩
  rw [hR] at CR hbd hno hyes
  clear hR hx
  cases R with
  | false =>
    rw [hno rfl]
    clear hbd hno hyes
    go_enter Tryz.func153, Tryz.ntmps153
    go_wp2_with fail
    rw [HW0.out]
    refine (CR.out _ HB.out).mono ?_; rintro e w1 ⟨rfl, hb1⟩
    clear D0 D1 D2 D3
    have XD := Lib.hid ((hb1.block _ (block_lt XD.out)).trans XD.out)
    have HB := Lib.hid (chain HB.out hb1)
    clear hb1
    have D0 : w1.cell? ⟨w.heap.size, 0, none⟩ = some (.int .i64 k) := block_cell XD.out 0
    have D1 : w1.cell? ⟨w.heap.size, 1, none⟩ = some (.int .i64 n) := block_cell XD.out 1
    have D2 : w1.cell? ⟨w.heap.size, 2, none⟩ = some (.int .i64 m) := block_cell XD.out 2
    have D3 : w1.cell? ⟨w.heap.size, 3, none⟩ = some (.int .i64 d) := block_cell XD.out 3
    go_wp2_with fail
    go_ret
    exact ⟨rfl, HB.out⟩
  | true =>
    have hb := hbd rfl
    rw [hyes rfl]
    clear hbd hno hyes
    by_cases h3 : k = 3
    · subst h3
      rw [if_pos rfl]
      go_enter Tryz.func153, Tryz.ntmps153
      go_wp2_with fail
      rw [HW0.out]
      refine (CR.out _ HB.out).mono ?_; rintro e w1 ⟨rfl, hb1⟩
      clear D0 D1 D2 D3
      have XD := Lib.hid ((hb1.block _ (block_lt XD.out)).trans XD.out)
      have HB := Lib.hid (chain HB.out hb1)
      clear hb1
      have D0 : w1.cell? ⟨w.heap.size, 0, none⟩ = some (.int .i64 3) := block_cell XD.out 0
      have D1 : w1.cell? ⟨w.heap.size, 1, none⟩ = some (.int .i64 n) := block_cell XD.out 1
      have D2 : w1.cell? ⟨w.heap.size, 2, none⟩ = some (.int .i64 m) := block_cell XD.out 2
      have D3 : w1.cell? ⟨w.heap.size, 3, none⟩ = some (.int .i64 d) := block_cell XD.out 3
      go_wp2_with fail
      go_ret
      exact ⟨rfl, HB.out⟩
    · rw [if_neg h3]
      have t3 : (k == 3) = false := bno h3
      by_cases h4 : k = 4
      · subst h4
        rw [if_pos rfl]
        clear h3
        go_enter Tryz.func153, Tryz.ntmps153
        go_wp2_with fail
        rw [HW0.out]
        refine (CR.out _ HB.out).mono ?_; rintro e w1 ⟨rfl, hb1⟩
        clear D0 D1 D2 D3
        have XD := Lib.hid ((hb1.block _ (block_lt XD.out)).trans XD.out)
        have HB := Lib.hid (chain HB.out hb1)
        clear hb1
        have D0 : w1.cell? ⟨w.heap.size, 0, none⟩ = some (.int .i64 4) := block_cell XD.out 0
        have D1 : w1.cell? ⟨w.heap.size, 1, none⟩ = some (.int .i64 n) := block_cell XD.out 1
        have D2 : w1.cell? ⟨w.heap.size, 2, none⟩ = some (.int .i64 m) := block_cell XD.out 2
        have D3 : w1.cell? ⟨w.heap.size, 3, none⟩ = some (.int .i64 d) := block_cell XD.out 3
        go_wp2_with fail
        go_ret
        exact ⟨rfl, HB.out⟩
      · rw [if_neg h4]
        have t4 : (k == 4) = false := bno h4
        clear h3 h4
        go_enter Tryz.func153, Tryz.ntmps153
        go_wp2_with fail
        rw [HW0.out]
        refine (CR.out _ HB.out).mono ?_; rintro e w1 ⟨rfl, hb1⟩
        clear D0 D1 D2 D3
        have XD := Lib.hid ((hb1.block _ (block_lt XD.out)).trans XD.out)
        have HB := Lib.hid (chain HB.out hb1)
        clear hb1
        have D0 : w1.cell? ⟨w.heap.size, 0, none⟩ = some (.int .i64 k) := block_cell XD.out 0
        have D1 : w1.cell? ⟨w.heap.size, 1, none⟩ = some (.int .i64 n) := block_cell XD.out 1
        have D2 : w1.cell? ⟨w.heap.size, 2, none⟩ = some (.int .i64 m) := block_cell XD.out 2
        have D3 : w1.cell? ⟨w.heap.size, 3, none⟩ = some (.int .i64 d) := block_cell XD.out 3
        go_wp2_with fail
        go_ret
        exact ⟨rfl, HB.out⟩
end Go.Proofs.YtlnlijeamflpiaaGreat

namespace Go.Proofs.YtlnlijeamflpiaaGreat
open Go.RowKit
set_option linter.unusedVariables false
set_option linter.unusedSimpArgs false
set_option maxRecDepth 100000
theorem dirRt_zero (n : Nat) : dirRt n 0 = rt n := by unfold dirRt; rw [if_neg (by omega)]
theorem dirRt_one (n : Nat) : dirRt n 1 = bk n := by unfold dirRt; rw [if_pos rfl]
set_option maxHeartbeats 1000000 in
theorem tab_way (k : Int) (n : Nat) (m d : Int) (w : World) (h : hasSz n = true) (hd : d = 0 ∨ d = 1) :
    Calls Tryz.prog 147 #[.agg #[.int .i64 k, .int .i64 n, .int .i64 m, .int .i64 d]] w fun e w' => e = .returned (.int .u64 (dirRt n d)) ∧ Below w.heap.size w w' := by
  have HS := Lib.hid h
  clear h
  obtain ⟨W0, hW0, hb0, x0⟩ := box_any w #[.int .i64 k, .int .i64 n, .int .i64 m, .int .i64 d] 133
  have HW0 := Lib.hid hW0
  have HB := Lib.hid hb0
  have D1 : W0.cell? ⟨w.heap.size, 1, none⟩ = some (.int .i64 n) := block_cell x0 1
  have D3 : W0.cell? ⟨w.heap.size, 3, none⟩ = some (.int .i64 d) := block_cell x0 3
  clear hW0 hb0 x0
  rcases hd with rfl | rfl
  · go_enter Tryz.func147, Tryz.ntmps147
    go_wp2_with fail
    rw [HW0.out]
    refine (rootRoot_yes n _ HS.out).mono ?_; rintro e w' ⟨rfl, rfl⟩
    go_wp2_with fail
    go_ret
    exact ⟨by simp [dirRt_zero], HB.out⟩
  · go_enter Tryz.func147, Tryz.ntmps147
    go_wp2_with fail
    rw [HW0.out]
    refine (rootRoot_yes n _ HS.out).mono ?_; rintro e w' ⟨rfl, rfl⟩
    go_wp2_with fail
    refine (rootBack_yes n _ HS.out).mono ?_; rintro e w' ⟨rfl, rfl⟩
    go_wp2_with fail
    go_ret
    exact ⟨by simp [dirRt_one], HB.out⟩
set_option maxHeartbeats 1000000 in
theorem tab_powers (k : Int) (n : Nat) (m d : Int) (w : World) (h : hasSz n = true) (hd : d = 0 ∨ d = 1) :
    Calls Tryz.prog 132 #[.agg #[.int .i64 k, .int .i64 n, .int .i64 m, .int .i64 d]] w (GivesRow .u64 (powL (dirRt n d) n) w) := by
  have hn2 : n ≤ 16777216 := by have := (hasSz_iff.1 h).2.1; omega
  have hz := dirRt_range n d
  have C0 : Hid (∀ W, Calls Tryz.prog 147 #[.agg #[.int .i64 k, .int .i64 n, .int .i64 m, .int .i64 d]] W fun e w' => e = .returned (.int .u64 (dirRt n d)) ∧ Below W.heap.size W w') := fun W => tab_way k n m d W h hd
  obtain ⟨z, hz'⟩ : ∃ z, dirRt n d = z := ⟨_, rfl⟩
  rw [hz'] at C0 hz ⊢
  have C1 : Hid (∀ W, Calls Tryz.prog 146 #[.int .u64 z, .int .i64 n] W (GivesRowE .u64 (powL z n) 0 W)) := fun W => rootPowers z n W hz.1 (by omega) hn2
  have HL : Hid ((powL z n).length = n) := powL_len z n
  clear h hd hz hz'
  obtain ⟨W0, hW0, hb0, x0⟩ := box_any w #[.int .i64 k, .int .i64 n, .int .i64 m, .int .i64 d] 133
  have HW0 := Lib.hid hW0
  have HB := Lib.hid hb0
  have D0 : W0.cell? ⟨w.heap.size, 0, none⟩ = some (.int .i64 k) := block_cell x0 0
  have D1 : W0.cell? ⟨w.heap.size, 1, none⟩ = some (.int .i64 n) := block_cell x0 1
  have D2 : W0.cell? ⟨w.heap.size, 2, none⟩ = some (.int .i64 m) := block_cell x0 2
  have D3 : W0.cell? ⟨w.heap.size, 3, none⟩ = some (.int .i64 d) := block_cell x0 3
  have lD := block_lt x0
  clear hW0 hb0 x0
  go_enter Tryz.func132, Tryz.ntmps132
  go_wp2_with fail
  rw [HW0.out]
  have hb : Below W0.heap.size W0 W0.drew := (Below.refl _ _).drew
  go_region_held3 (fun w' => w'.cell? ⟨w.heap.size, 0, none⟩ = some (.int .i64 k) ∧ w'.cell? ⟨w.heap.size, 1, none⟩ = some (.int .i64 n) ∧ w'.cell? ⟨w.heap.size, 2, none⟩ = some (.int .i64 m) ∧ w'.cell? ⟨w.heap.size, 3, none⟩ = some (.int .i64 d))
    (first | exact ⟨D0, D1, D2, D3⟩ | exact ⟨(hb.cell (p := ⟨w.heap.size, 0, none⟩) lD).trans D0, (hb.cell (p := ⟨w.heap.size, 1, none⟩) lD).trans D1, (hb.cell (p := ⟨w.heap.size, 2, none⟩) lD).trans D2, (hb.cell (p := ⟨w.heap.size, 3, none⟩) lD).trans D3⟩)
    ((first
      | (go_at_call 147; ((with_reducible refine (C0.out _).mono ?_); rintro e z1 ⟨rfl, hc⟩; have hb := chain hb hc))
      | (go_at_call 146; ((with_reducible refine (C1.out _).mono ?_); rintro e z1 ⟨a1, cap1, rfl, hr1, hcap1, hc⟩; have hb := chain hb hc))))
  simp only [HL.out] at hcap1 ⊢
  have HBF := Lib.hid (chain HB.out hb)
  clear hb
  go_wp2_with fail
  go_ret
  exact ⟨a1, cap1, by simp [HL.out], hr1, by rw [HL.out]; exact hcap1, HBF.out⟩
set_option maxHeartbeats 1000000 in
theorem tab_chirps (k : Int) (n : Nat) (m d d' : Int) (w : World) (h : hasSz n = true) (hd : d = 0 ∨ d = 1) (hd' : d' = 1 - d) :
    Calls Tryz.prog 133 #[.agg #[.int .i64 k, .int .i64 n, .int .i64 m, .int .i64 d]] w (GivesRow .u64 (rowT (dirRt n d') n n) w) := by
  have hn2 : n ≤ 16777216 := by have := (hasSz_iff.1 h).2.1; omega
  have C1 : Hid (∀ W, Calls Tryz.prog 148 #[.int .i64 n, .int .i64 d', .int .i64 n] W (GivesOwnE .u64 23 (rowT (dirRt n d') n n) W)) := fun W => chirp_Row n n d' W h (by omega) hn2
  obtain ⟨z, hz⟩ : ∃ z, rowT (dirRt n d') n n = z := ⟨_, rfl⟩
  have HL : Hid (z.length = n) := by unfold Hid; rw [← hz]; exact rowT_len _ _ _
  have HF : Hid (∀ x ∈ z, fits .u64 x) := by unfold Hid; rw [← hz]; exact rowT_fits _ _ _
  rw [hz] at C1 ⊢
  have hdd : 1 - d = d' := hd'.symm
  clear h hz hd'
  obtain ⟨W0, hW0, hb0, x0⟩ := box_any w #[.int .i64 k, .int .i64 n, .int .i64 m, .int .i64 d] 133
  have HW0 := Lib.hid hW0
  have HB := Lib.hid hb0
  have D1 : W0.cell? ⟨w.heap.size, 1, none⟩ = some (.int .i64 n) := block_cell x0 1
  have D3 : W0.cell? ⟨w.heap.size, 3, none⟩ = some (.int .i64 d) := block_cell x0 3
  clear hW0 hb0 x0
  go_enter Tryz.func133, Tryz.ntmps133
  go_wp2_with fail
  rw [HW0.out]
  refine (C1.out _).mono ?_; rintro e w1 ⟨a1, cap1, rfl, _, hr1, hcap1, hb1⟩
  simp only [HL.out] at hcap1 ⊢
  have HBF := Lib.hid (chain HB.out hb1)
  clear D1 D3 hb1
  go_wp2_with fail
  go_ret
  exact ⟨a1, cap1, by simp [HL.out], hr1, by rw [HL.out]; exact hcap1, HBF.out⟩
def tabRaderL (n : Nat) (d : Int) : List Int := dftL (radL (dirRt n d) n) (dirRt (n - 1) 0)
set_option maxHeartbeats 2000000 in
theorem tab_raders (k : Int) (n : Nat) (m d : Int) (w : World) (h : hasSz n = true) (hd : d = 0 ∨ d = 1) (hq : IsFq n) :
    Calls Tryz.prog 134 #[.agg #[.int .i64 k, .int .i64 n, .int .i64 m, .int .i64 d]] w (GivesRow .u64 (tabRaderL n d) w) := by
  have hbq := fq_bd hq
  obtain ⟨lg, hlg1, hlg2, hlg⟩ := fq_log hq
  have C0 : Hid (∀ W, Calls Tryz.prog 132 #[.agg #[.int .i64 k, .int .i64 n, .int .i64 m, .int .i64 d]] W (GivesRow .u64 (powL (dirRt n d) n) W)) := fun W => tab_powers k n m d W h hd
  have C1 : Hid (∀ W, Calls Tryz.prog 149 #[.int .i64 n] W (GivesRowE .i64 (genL n) 0 W)) := fun W => gen_Powers W hq
  have C2 : Hid (∀ (a : Option Addr) (c : Nat) (xs : List Int) (W : World), Row .u64 W a xs → xs.length = n - 1 → Calls Tryz.prog 150 #[.slice a (n - 1 : Nat) c, .int .i64 0] W (GivesRowE .u64 (dftL xs (dirRt (n - 1) 0)) 0 W)) := fun a c xs W hx hl => do_ok a (n - 1) lg c 0 xs W hx hl (Or.inl rfl) (by omega) hlg
  have HG : Hid (∀ i, gp n i < n) := fun i => gp_lt n i (by omega)
  have HRL : Hid ((tabRaderL n d).length = n - 1) := by unfold Hid tabRaderL; rw [dftL_len, radL_len]
  have HPL : Hid ((powL (dirRt n d) n).length = n) := powL_len _ _
  have HGL : Hid ((genL n).length = n - 1) := genL_len _
  have HRD : Hid (dftL (radL (dirRt n d) n) (dirRt (n - 1) 0) = tabRaderL n d) := rfl
  obtain ⟨z, hz⟩ : ∃ z, dirRt n d = z := ⟨_, rfl⟩
  obtain ⟨q1, hq1⟩ : ∃ q1, n - 1 = q1 := ⟨_, rfl⟩
  obtain ⟨RL, hRL⟩ : ∃ L, tabRaderL n d = L := ⟨_, rfl⟩
  rw [hz, hq1] at HRD
  rw [hz] at C0 HPL
  rw [hq1] at C2 HGL HRL
  rw [hRL] at HRD HRL ⊢
  have HQ1 := Lib.hid hq1
  have hq2 : 2 ≤ q1 ∧ q1 ≤ 65536 := by omega
  clear h hd hq hlg hz hq1 hRL
  obtain ⟨i0, hi, hz0, hz1, hz2⟩ := info_parts info_u64
  obtain ⟨W0, hW0, hb0, x0⟩ := box_any w #[.int .i64 k, .int .i64 n, .int .i64 m, .int .i64 d] 133
  have HW0 := Lib.hid hW0
  have HB := Lib.hid hb0
  have X0 := Lib.hid x0
  have D0 : W0.cell? ⟨w.heap.size, 0, none⟩ = some (.int .i64 k) := block_cell x0 0
  have D1 : W0.cell? ⟨w.heap.size, 1, none⟩ = some (.int .i64 n) := block_cell x0 1
  have D2 : W0.cell? ⟨w.heap.size, 2, none⟩ = some (.int .i64 m) := block_cell x0 2
  have D3 : W0.cell? ⟨w.heap.size, 3, none⟩ = some (.int .i64 d) := block_cell x0 3
  clear hW0 hb0 x0
  go_enter Tryz.func134, Tryz.ntmps134
  go_wp2_with fail
  rw [HW0.out]
  go_wp2_with fail
  refine (C0.out _).mono ?_; rintro e w1 ⟨a1, cap1, rfl, hr1, hcap1, hb1⟩
  clear D0 D1 D2 D3
  have D1 : w1.cell? ⟨w.heap.size, 1, none⟩ = some (.int .i64 n) := (hb1.cell (p := ⟨w.heap.size, 1, none⟩) (block_lt X0.out)).trans (block_cell X0.out 1)
  simp only [HPL.out] at hcap1 ⊢
  go_wp2_with fail
  refine (C1.out _).mono ?_; rintro e w2 ⟨a2, cap2, rfl, hr2, hcap2, hb2⟩
  simp only [HGL.out] at hcap2 ⊢
  have hb12 := chain hb1 hb2
  have HR1 := Lib.hid (hr1.below hb2)
  have HR2 := Lib.hid hr2
  have HB2 := Lib.hid (chain HB.out hb12)
  clear hr1 hr2 hb1 hb2 hb12 D1 hcap1 hcap2
  go_wp2_with (at_make; refine wpList_make_full _ rfl _ _ 22 rfl w2.heap.size 23 i0 (.int .u64 0) 1 Tryz.underlying22 hi hz0 hz1 .i64 .i64 q1 q1 q1 rfl rfl rfl rfl (by rw [hz2]; omega) (by unfold maxLen; omega) (Nat.le_refl _) ?_)
  intro w3 hown0 hgrow0
  have hown := Own.made hown0 hgrow0
  clear hown0 hgrow0
  go_wp2_with fail
  have HRV : Hid (∀ i, i < q1 → revAt q1 (revAt q1 i) = i) := fun i hi => by
    unfold revAt
    by_cases h0 : i = 0
    · subst h0; simp
    · rw [Nat.mod_eq_of_lt (show q1 - i < q1 by omega), show q1 - (q1 - i) = i by omega, Nat.mod_eq_of_lt hi]
  go_loopw [23] (fun i wr => ∃ k : Nat, k ≤ q1 ∧ i = .int .i64 k ∧ OwnAt .u64 23 w2 wr w2.heap.size q1 (fun j => if revAt q1 j < k then pw z (gp n (revAt q1 j)) else 0)) (fun i _ => q1 - (intOf i).toNat)
  case atStart => exact ⟨0, Nat.zero_le _, rfl, own_eqz hown (fun j => if_neg (by omega))⟩
  case round =>
    obtain ⟨k, hk, rfl, hown⟩ := hrel
    by_cases hlt : k < q1
    · obtain ⟨b1, o1, rfl, hc1⟩ := (HR2.out.below hown.below).at (by rw [HGL.out]; omega)
      obtain ⟨b2, o2, rfl, hc2⟩ := (HR1.out.below hown.below).at (by rw [HPL.out]; omega)
      have h1 := hc1 k (by rw [HGL.out]; exact hlt)
      rw [nth_genL n k (by rw [HQ1.out]; exact hlt)] at h1
      have hgl := HG.out k
      obtain ⟨x, hx⟩ : ∃ x, gp n k = x := ⟨_, rfl⟩
      rw [hx] at h1 hgl
      have h2 := hc2 x (by rw [HPL.out]; exact hgl)
      rw [show nth (powL z n) x = pw z x from nth_ofFn _ _ _ hgl] at h2
      have hrl := revAt_lt hlt
      have e1 := revAt_int hlt
      obtain ⟨r, hr⟩ : ∃ r, revAt q1 k = r := ⟨_, rfl⟩
      have hrr : revAt q1 r = k := by rw [← hr]; exact HRV.out k hlt
      rw [hr] at hrl e1
      have e2 : ((q1 : Int) - (k : Int)) % (q1 : Int) = (r : Int) := by rw [← e1, Int.tmod_eq_emod_of_nonneg (by omega)]
      have z1 : ((q1 : Int) == 0) = false := bno (by omega)
      have z2 : ¬ (q1 : Int) = 0 := by omega
      have z3 : ¬ q1 = 0 := by omega
      have e0 : IntKind.i64.wrap ((q1 : Int) - (k : Int)) = (q1 : Int) - (k : Int) := IntWalk.i64_in _ (by omega)
      have hcell := hown.cell r hrl
      have hfz := hown.free r
      have hpr := pw_range z x
      have hnext := hown.store r hrl (pw z x) (f' := fun j => if revAt q1 j < k + 1 then pw z (gp n (revAt q1 j)) else 0) (by show (if revAt q1 r < k + 1 then _ else _) = _; rw [hrr, if_pos (by omega), hx]) (fun j hj hjr => by
        show (if revAt q1 j < k + 1 then _ else _) = (if revAt q1 j < k then _ else _)
        have hne : revAt q1 j ≠ k := fun e => hjr (by rw [← HRV.out j hj, e, hr])
        by_cases h : revAt q1 j < k
        · rw [if_pos h, if_pos (by omega)]
        · rw [if_neg h, if_neg (by omega)])
      have HNX := Lib.hid hnext
      obtain ⟨v, hv⟩ : ∃ v : Int, (if revAt q1 r < k then pw z (gp n (revAt q1 r)) else 0) = v := ⟨_, rfl⟩
      rw [hv] at hcell
      have g1 : (0 : Int) ≤ (r : Int) := by omega
      have g2 : (r : Int) < (q1 : Int) := by omega
      have g3 : (0 : Int) ≤ (x : Int) := by omega
      have g4 : (x : Int) < (n : Int) := by omega
      obtain ⟨y, hy⟩ : ∃ y, pw z x = y := ⟨_, rfl⟩
      rw [hy] at h2 hpr HNX
      clear hc1 hc2 hx hr hrr hnext hv hown hy
      go_wp2_with fail
      go_still_tail 13, (by kernel_rfl)
      go_wp2_with fail
      go_roundw
      case rel => exact ⟨k + 1, by omega, by go_num, HNX.out.later (Below.refl _ _).drew⟩
      case measure => simp [intOf]; omega
    · have hkn : k = q1 := by omega
      have hrow := hown.row (xs := radL z n) (by rw [radL_len]; exact HQ1.out) (radL_fits z n) (fun i hi => by
        rw [nth_radL z n i (by rw [HQ1.out]; exact hi), if_pos (by have := revAt_lt hi; omega)]
        unfold radAt revAt; rw [HQ1.out]) (by omega)
      have HB3 := Lib.hid (chain HB2.out hown.below)
      have HR := Lib.hid hrow
      have HLR : Hid ((radL z n).length = q1) := (radL_len z n).trans HQ1.out
      clear hown hrow
      go_wp2_with fail
      refine (C2.out _ _ _ _ HR.out HLR.out).mono ?_; rintro e w4 ⟨a4, cap4, rfl, hr4, hcap4, hb4⟩
      rw [HRD.out] at hr4 hcap4 ⊢
      have HB4 := Lib.hid (chain HB3.out hb4)
      have HR4 := Lib.hid hr4
      have HC4 := Lib.hid hcap4
      clear hr4 hcap4 hb4
      go_wp2_with fail
      go_ret
      exact ⟨a4, cap4, rfl, HR4.out, HC4.out, HB4.out⟩
def tabBlueL (n m : Nat) (d : Int) : List Int := dftL (zeroL (rowT (dirRt n d) n (2 * n - 1)) m) (dirRt m 0)
set_option maxHeartbeats 1000000 in
theorem tab_blues (k : Int) (n m lg : Nat) (d : Int) (w : World) (h : hasSz n = true) (hd : d = 0 ∨ d = 1) (hlg : lg ≤ 24) (hm : m = 2 ^ lg) (hl : 2 * n - 1 ≤ m) :
    Calls Tryz.prog 135 #[.agg #[.int .i64 k, .int .i64 n, .int .i64 m, .int .i64 d]] w (GivesRow .u64 (tabBlueL n m d) w) := by
  have hms : hasSz m = true := by rw [hm]; exact hasSz_pow lg hlg
  have C0 : Hid (∀ W, Calls Tryz.prog 151 #[.int .i64 n, .int .i64 m, .int .i64 d] W (GivesRowE .u64 (zeroL (rowT (dirRt n d) n (2 * n - 1)) m) 0 W)) := fun W => kernel_ok n m d W h hd hms hl
  have C1 : Hid (∀ (a : Option Addr) (c : Nat) (xs : List Int) (W : World), Row .u64 W a xs → xs.length = m → Calls Tryz.prog 150 #[.slice a m c, .int .i64 0] W (GivesRowE .u64 (dftL xs (dirRt m 0)) 0 W)) := fun a c xs W hx hl => do_ok a m lg c 0 xs W hx hl (Or.inl rfl) (by omega) hm
  have HD : Hid (dftL (zeroL (rowT (dirRt n d) n (2 * n - 1)) m) (dirRt m 0) = tabBlueL n m d) := rfl
  have HZ : Hid ((zeroL (rowT (dirRt n d) n (2 * n - 1)) m).length = m) := zeroL_len _ _ (by rw [rowT_len]; exact hl)
  have HL : Hid ((tabBlueL n m d).length = m) := by unfold Hid; rw [← HD.out, dftL_len]; exact HZ.out
  obtain ⟨K, hK⟩ : ∃ K, zeroL (rowT (dirRt n d) n (2 * n - 1)) m = K := ⟨_, rfl⟩
  rw [hK] at C0 HD HZ
  clear h hd hm hms hK
  obtain ⟨W0, hW0, hb0, x0⟩ := box_any w #[.int .i64 k, .int .i64 n, .int .i64 m, .int .i64 d] 133
  have HW0 := Lib.hid hW0
  have HB := Lib.hid hb0
  have D1 : W0.cell? ⟨w.heap.size, 1, none⟩ = some (.int .i64 n) := block_cell x0 1
  have D2 : W0.cell? ⟨w.heap.size, 2, none⟩ = some (.int .i64 m) := block_cell x0 2
  have D3 : W0.cell? ⟨w.heap.size, 3, none⟩ = some (.int .i64 d) := block_cell x0 3
  clear hW0 hb0 x0
  go_enter Tryz.func135, Tryz.ntmps135
  go_wp2_with fail
  rw [HW0.out]
  refine (C0.out _).mono ?_; rintro e w1 ⟨a1, cap1, rfl, hr1, hcap1, hb1⟩
  rw [HZ.out]
  clear D1 D2 D3
  go_wp2_with fail
  refine (C1.out _ _ _ _ hr1 HZ.out).mono ?_; rintro e w4 ⟨a4, cap4, rfl, hr4, hcap4, hb4⟩
  rw [HD.out] at hr4 hcap4 ⊢
  have HB4 := Lib.hid (chain (chain HB.out hb1) hb4)
  have HR4 := Lib.hid hr4
  have HC4 := Lib.hid hcap4
  clear hr4 hcap4 hb4
  go_wp2_with fail
  go_ret
  exact ⟨a4, cap4, rfl, HR4.out, HC4.out, HB4.out⟩
end Go.Proofs.YtlnlijeamflpiaaGreat

namespace Go.Proofs.YtlnlijeamflpiaaGreat
open Go.RowKit
set_option linter.unusedVariables false
set_option linter.unusedSimpArgs false
set_option maxRecDepth 100000
def tblL (k : Int) (n m : Nat) (d : Int) : List Int :=
  if k = 1 then powL (dirRt n d) n else if k = 2 then rowT (dirRt n (1 - d)) n n else if k = 3 then tabRaderL n d else tabBlueL n m d
theorem tab1 (n m : Nat) (d : Int) : tblL 1 n m d = powL (dirRt n d) n := rfl
theorem tab2 (n m : Nat) (d : Int) : tblL 2 n m d = rowT (dirRt n (1 - d)) n n := rfl
theorem tab3 (n m : Nat) (d : Int) : tblL 3 n m d = tabRaderL n d := rfl
theorem tab4 (n m : Nat) (d : Int) : tblL 4 n m d = tabBlueL n m d := rfl
/-- Reduced. -/
def RedL (xs : List Int) : Prop := ∀ x ∈ xs, 0 ≤ x ∧ x < 18446744069414584321
theorem red_id {xs : List Int} (h : RedL xs) : xs.map (· % 18446744069414584321) = xs := by
  have : ∀ x ∈ xs, (x % 18446744069414584321) = id x := fun x hx => by have := h x hx; exact Int.emod_eq_of_lt this.1 this.2
  rw [List.map_congr_left this, List.map_id]
theorem red_pow (z : Int) (n : Nat) : RedL (powL z n) := by
  intro x hx; obtain ⟨i, _, rfl⟩ := List.mem_map.1 hx; exact pw_range z i
theorem red_rowT (z : Int) (n m : Nat) : RedL (rowT z n m) := by
  intro x hx; obtain ⟨i, _, rfl⟩ := List.mem_map.1 hx; exact pw_range z _
theorem red_dft (xs : List Int) (z : Int) : RedL (dftL xs z) := by
  intro x hx; obtain ⟨i, _, rfl⟩ := List.mem_map.1 hx; exact pt_range xs _
theorem red_tab (k : Int) (n m : Nat) (d : Int) : RedL (tblL k n m d) := by
  unfold tblL
  split
  · exact red_pow _ _
  · split
    · exact red_rowT _ _ _
    · split
      · exact red_dft _ _
      · exact red_dft _ _
/-- What a right name is. -/
theorem right_cases {k n m d : Int} (h : rightB (k, n, m, d) = true) : ∃ N : Nat, n = N ∧ hasSz (N : Int) = true ∧ (d = 0 ∨ d = 1) ∧
    ((k = 1 ∧ m = 0) ∨ (k = 2 ∧ m = 0) ∨ (k = 3 ∧ m = 0 ∧ IsFq N) ∨ (k = 4 ∧ ∃ M lg : Nat, m = M ∧ 2 ≤ N ∧ lg ≤ 24 ∧ M = 2 ^ lg ∧ 2 * N - 1 ≤ M)) := by
  simp only [rightB, Bool.and_eq_true, decide_eq_true_eq] at h
  obtain ⟨⟨h1, h2⟩, h3⟩ := h
  have hb := hasSz_iff.1 h1
  obtain ⟨N, rfl⟩ := Int.eq_ofNat_of_zero_le (show 0 ≤ n by omega)
  refine ⟨N, rfl, h1, h2, ?_⟩
  by_cases k1 : k = 1 ∨ k = 2
  · rw [if_pos k1] at h3
    have := of_decide_eq_true h3
    rcases k1 with k1 | k1
    · exact Or.inl ⟨k1, this⟩
    · exact Or.inr (Or.inl ⟨k1, this⟩)
  · rw [if_neg k1] at h3
    by_cases k3 : k = 3
    · rw [if_pos k3] at h3
      simp only [Bool.and_eq_true, decide_eq_true_eq] at h3
      exact Or.inr (Or.inr (Or.inl ⟨k3, h3.1.1, fq_of h1 h3.2 (by omega)⟩))
    · rw [if_neg k3] at h3
      by_cases k4 : k = 4
      · rw [if_pos k4] at h3
        simp only [Bool.and_eq_true, decide_eq_true_eq] at h3
        obtain ⟨lg, hlg, he⟩ := (hasP2_iff _).1 h3.2
        exact Or.inr (Or.inr (Or.inr ⟨k4, 2 ^ lg, lg, he, by omega, hlg, rfl, by omega⟩))
      · rw [if_neg k4] at h3; cases h3
theorem room_right {k n m d : Int} (h : rightB (k, n, m, d) = true) (N M : Nat) (hn : n = N) (hm : m = M) : roomN (k, n, m, d) = ((tblL k N M d).length : Nat) ∧ (tblL k N M d).length ≤ 16777216 := by
  obtain ⟨N', hN, hs, hd, hc⟩ := right_cases h
  have hb := hasSz_iff.1 hs
  have : N' = N := by omega
  subst this
  unfold roomN
  rw [if_neg (by rw [h]; simp)]
  simp only
  rcases hc with ⟨rfl, _⟩ | ⟨rfl, _⟩ | ⟨rfl, _, hq⟩ | ⟨rfl, M', lg, hM, h2, hlg, he, hle⟩
  · rw [if_neg (by omega), if_neg (by omega), tab1, powL_len]; exact ⟨hN, by omega⟩
  · rw [if_neg (by omega), if_neg (by omega), tab2, rowT_len]; exact ⟨hN, by omega⟩
  · have := fq_bd hq
    rw [if_pos rfl, tab3, tabRaderL, dftL_len, radL_len]; omega
  · have hMM : M' = M := by omega
    subst hMM
    have := (hasSz_iff.1 (hasSz_pow lg hlg)).2.1
    rw [← he] at this
    rw [if_neg (by omega), if_pos rfl, tab4, tabBlueL, dftL_len, zeroL_len _ _ (by rw [rowT_len]; exact hle)]
    omega
set_option maxHeartbeats 1000000 in
theorem table_made (k n m d : Int) (xs : List Int) (L : Nat) (w : World) (hx : NmOk (k, n, m, d)) (h : rightB (k, n, m, d) = true) (hl : xs.length = L) (hl2 : L ≤ 16777216) (hr : RedL xs)
    (hc : ∀ W, Calls Tryz.prog (if k = 2 then 133 else if k = 3 then 134 else if k = 4 then 135 else 132) #[.agg #[.int .i64 k, .int .i64 n, .int .i64 m, .int .i64 d]] W (GivesRow .u64 xs W)) (hk : k = 1 ∨ k = 2 ∨ k = 3 ∨ k = 4) :
    Calls Tryz.prog 108 #[.agg #[.int .i64 k, .int .i64 n, .int .i64 m, .int .i64 d]] w (GivesRowE .u64 xs 0 w) := by
  have C0 : Hid (∀ W, Calls Tryz.prog 131 #[.agg #[.int .i64 k, .int .i64 n, .int .i64 m, .int .i64 d]] W fun e w' => e = .returned (.bool true) ∧ Below W.heap.size W w') := fun W => by rw [← h]; exact need_Right k n m d W hx
  have C2 : Hid (∀ (a : Option Addr) (c : Nat) (W : World), Row .u64 W a xs → Calls Tryz.prog 49 #[.slice a L c] W (GivesRow .u64 xs W)) := fun a c W hr' => by
    have := vec_RedN2 a L c xs W hr' hl hl2
    rwa [red_id hr] at this
  have HL := Lib.hid hl
  clear h hx hr hl
  obtain ⟨W0, hW0, hb0, x0⟩ := box_any w #[.int .i64 k, .int .i64 n, .int .i64 m, .int .i64 d] 112
  have HW0 := Lib.hid hW0
  have HB := Lib.hid hb0
  have X0 := Lib.hid x0
  have D0 : W0.cell? ⟨w.heap.size, 0, none⟩ = some (.int .i64 k) := block_cell x0 0
  have D1 : W0.cell? ⟨w.heap.size, 1, none⟩ = some (.int .i64 n) := block_cell x0 1
  have D2 : W0.cell? ⟨w.heap.size, 2, none⟩ = some (.int .i64 m) := block_cell x0 2
  have D3 : W0.cell? ⟨w.heap.size, 3, none⟩ = some (.int .i64 d) := block_cell x0 3
  clear hW0 hb0 x0
  rcases hk with rfl | rfl | rfl | rfl
  · have C1 : Hid (∀ W, Calls Tryz.prog 132 #[.agg #[.int .i64 1, .int .i64 n, .int .i64 m, .int .i64 d]] W (GivesRow .u64 xs W)) := hc
    clear hc
    go_enter Tryz.func108, Tryz.ntmps108
    go_wp2_with fail
    rw [HW0.out]
    refine (C0.out _).mono ?_; rintro e w1 ⟨rfl, hb1⟩
    have HB1 := Lib.hid (chain HB.out hb1)
    clear D0 D1 D2 D3
    have X1 := Lib.hid ((hb1.block _ (block_lt X0.out)).trans X0.out)
    have D0 : w1.cell? ⟨w.heap.size, 0, none⟩ = some (.int .i64 1) := block_cell X1.out 0
    have D1 : w1.cell? ⟨w.heap.size, 1, none⟩ = some (.int .i64 n) := block_cell X1.out 1
    have D2 : w1.cell? ⟨w.heap.size, 2, none⟩ = some (.int .i64 m) := block_cell X1.out 2
    have D3 : w1.cell? ⟨w.heap.size, 3, none⟩ = some (.int .i64 d) := block_cell X1.out 3
    obtain ⟨W2, hW2, hb2, x2⟩ := box_any w1 #[.int .i64 1, .int .i64 n, .int .i64 m, .int .i64 d] 133
    have E0 : (w1.alloc (.cells #[.int .i64 1, .int .i64 n, .int .i64 m, .int .i64 d] 133)).cell? ⟨w.heap.size, 0, none⟩ = some (.int .i64 1) := (cell_past _ _ _ (block_lt X1.out)).trans D0
    have HW2 := Lib.hid hW2
    have HB2 := Lib.hid (chain HB1.out hb2)
    clear hb1 hW2 hb2 x2
    go_wp2_with fail
    rw [HW2.out]
    refine (C1.out _).mono ?_; rintro e w3 ⟨a3, cap3, rfl, hr3, hcap3, hb3⟩
    simp only [HL.out] at hcap3 ⊢
    have HB3 := Lib.hid (chain HB2.out hb3)
    have HR3 := Lib.hid hr3
    clear D0 D1 D2 D3 E0 hr3 hcap3 hb3
    go_wp2_with fail
    refine (C2.out _ _ _ HR3.out).mono ?_; rintro e w4 ⟨a4, cap4, rfl, hr4, hcap4, hb4⟩
    simp only [HL.out] at hcap4 ⊢
    have HB4 := Lib.hid (chain HB3.out hb4)
    have HR4 := Lib.hid hr4
    clear hr4 hb4
    go_wp2_with fail
    go_ret2
    exact ⟨a4, cap4, by simp [HL.out], HR4.out, by rw [HL.out]; exact hcap4, HB4.out⟩
  · have C1 : Hid (∀ W, Calls Tryz.prog 133 #[.agg #[.int .i64 2, .int .i64 n, .int .i64 m, .int .i64 d]] W (GivesRow .u64 xs W)) := hc
    clear hc
    go_enter Tryz.func108, Tryz.ntmps108
    go_wp2_with fail
    rw [HW0.out]
    refine (C0.out _).mono ?_; rintro e w1 ⟨rfl, hb1⟩
    have HB1 := Lib.hid (chain HB.out hb1)
    clear D0 D1 D2 D3
    have X1 := Lib.hid ((hb1.block _ (block_lt X0.out)).trans X0.out)
    have D0 : w1.cell? ⟨w.heap.size, 0, none⟩ = some (.int .i64 2) := block_cell X1.out 0
    have D1 : w1.cell? ⟨w.heap.size, 1, none⟩ = some (.int .i64 n) := block_cell X1.out 1
    have D2 : w1.cell? ⟨w.heap.size, 2, none⟩ = some (.int .i64 m) := block_cell X1.out 2
    have D3 : w1.cell? ⟨w.heap.size, 3, none⟩ = some (.int .i64 d) := block_cell X1.out 3
    obtain ⟨W2, hW2, hb2, x2⟩ := box_any w1 #[.int .i64 2, .int .i64 n, .int .i64 m, .int .i64 d] 133
    have E0 : (w1.alloc (.cells #[.int .i64 2, .int .i64 n, .int .i64 m, .int .i64 d] 133)).cell? ⟨w.heap.size, 0, none⟩ = some (.int .i64 2) := (cell_past _ _ _ (block_lt X1.out)).trans D0
    have HW2 := Lib.hid hW2
    have HB2 := Lib.hid (chain HB1.out hb2)
    clear hb1 hW2 hb2 x2
    go_wp2_with fail
    rw [HW2.out]
    refine (C1.out _).mono ?_; rintro e w3 ⟨a3, cap3, rfl, hr3, hcap3, hb3⟩
    simp only [HL.out] at hcap3 ⊢
    have HB3 := Lib.hid (chain HB2.out hb3)
    have HR3 := Lib.hid hr3
    clear D0 D1 D2 D3 E0 hr3 hcap3 hb3
    go_wp2_with fail
    refine (C2.out _ _ _ HR3.out).mono ?_; rintro e w4 ⟨a4, cap4, rfl, hr4, hcap4, hb4⟩
    simp only [HL.out] at hcap4 ⊢
    have HB4 := Lib.hid (chain HB3.out hb4)
    have HR4 := Lib.hid hr4
    clear hr4 hb4
    go_wp2_with fail
    go_ret2
    exact ⟨a4, cap4, by simp [HL.out], HR4.out, by rw [HL.out]; exact hcap4, HB4.out⟩
  · have C1 : Hid (∀ W, Calls Tryz.prog 134 #[.agg #[.int .i64 3, .int .i64 n, .int .i64 m, .int .i64 d]] W (GivesRow .u64 xs W)) := hc
    clear hc
    go_enter Tryz.func108, Tryz.ntmps108
    go_wp2_with fail
    rw [HW0.out]
    refine (C0.out _).mono ?_; rintro e w1 ⟨rfl, hb1⟩
    have HB1 := Lib.hid (chain HB.out hb1)
    clear D0 D1 D2 D3
    have X1 := Lib.hid ((hb1.block _ (block_lt X0.out)).trans X0.out)
    have D0 : w1.cell? ⟨w.heap.size, 0, none⟩ = some (.int .i64 3) := block_cell X1.out 0
    have D1 : w1.cell? ⟨w.heap.size, 1, none⟩ = some (.int .i64 n) := block_cell X1.out 1
    have D2 : w1.cell? ⟨w.heap.size, 2, none⟩ = some (.int .i64 m) := block_cell X1.out 2
    have D3 : w1.cell? ⟨w.heap.size, 3, none⟩ = some (.int .i64 d) := block_cell X1.out 3
    obtain ⟨W2, hW2, hb2, x2⟩ := box_any w1 #[.int .i64 3, .int .i64 n, .int .i64 m, .int .i64 d] 133
    have E0 : (w1.alloc (.cells #[.int .i64 3, .int .i64 n, .int .i64 m, .int .i64 d] 133)).cell? ⟨w.heap.size, 0, none⟩ = some (.int .i64 3) := (cell_past _ _ _ (block_lt X1.out)).trans D0
    have HW2 := Lib.hid hW2
    have HB2 := Lib.hid (chain HB1.out hb2)
    clear hb1 hW2 hb2 x2
    go_wp2_with fail
    rw [HW2.out]
    refine (C1.out _).mono ?_; rintro e w3 ⟨a3, cap3, rfl, hr3, hcap3, hb3⟩
    simp only [HL.out] at hcap3 ⊢
    have HB3 := Lib.hid (chain HB2.out hb3)
    have HR3 := Lib.hid hr3
    clear D0 D1 D2 D3 E0 hr3 hcap3 hb3
    go_wp2_with fail
    refine (C2.out _ _ _ HR3.out).mono ?_; rintro e w4 ⟨a4, cap4, rfl, hr4, hcap4, hb4⟩
    simp only [HL.out] at hcap4 ⊢
    have HB4 := Lib.hid (chain HB3.out hb4)
    have HR4 := Lib.hid hr4
    clear hr4 hb4
    go_wp2_with fail
    go_ret2
    exact ⟨a4, cap4, by simp [HL.out], HR4.out, by rw [HL.out]; exact hcap4, HB4.out⟩
  · have C1 : Hid (∀ W, Calls Tryz.prog 135 #[.agg #[.int .i64 4, .int .i64 n, .int .i64 m, .int .i64 d]] W (GivesRow .u64 xs W)) := hc
    clear hc
    go_enter Tryz.func108, Tryz.ntmps108
    go_wp2_with fail
    rw [HW0.out]
    refine (C0.out _).mono ?_; rintro e w1 ⟨rfl, hb1⟩
    have HB1 := Lib.hid (chain HB.out hb1)
    clear D0 D1 D2 D3
    have X1 := Lib.hid ((hb1.block _ (block_lt X0.out)).trans X0.out)
    have D0 : w1.cell? ⟨w.heap.size, 0, none⟩ = some (.int .i64 4) := block_cell X1.out 0
    have D1 : w1.cell? ⟨w.heap.size, 1, none⟩ = some (.int .i64 n) := block_cell X1.out 1
    have D2 : w1.cell? ⟨w.heap.size, 2, none⟩ = some (.int .i64 m) := block_cell X1.out 2
    have D3 : w1.cell? ⟨w.heap.size, 3, none⟩ = some (.int .i64 d) := block_cell X1.out 3
    obtain ⟨W2, hW2, hb2, x2⟩ := box_any w1 #[.int .i64 4, .int .i64 n, .int .i64 m, .int .i64 d] 133
    have E0 : (w1.alloc (.cells #[.int .i64 4, .int .i64 n, .int .i64 m, .int .i64 d] 133)).cell? ⟨w.heap.size, 0, none⟩ = some (.int .i64 4) := (cell_past _ _ _ (block_lt X1.out)).trans D0
    have HW2 := Lib.hid hW2
    have HB2 := Lib.hid (chain HB1.out hb2)
    clear hb1 hW2 hb2 x2
    go_wp2_with fail
    rw [HW2.out]
    refine (C1.out _).mono ?_; rintro e w3 ⟨a3, cap3, rfl, hr3, hcap3, hb3⟩
    simp only [HL.out] at hcap3 ⊢
    have HB3 := Lib.hid (chain HB2.out hb3)
    have HR3 := Lib.hid hr3
    clear D0 D1 D2 D3 E0 hr3 hcap3 hb3
    go_wp2_with fail
    refine (C2.out _ _ _ HR3.out).mono ?_; rintro e w4 ⟨a4, cap4, rfl, hr4, hcap4, hb4⟩
    simp only [HL.out] at hcap4 ⊢
    have HB4 := Lib.hid (chain HB3.out hb4)
    have HR4 := Lib.hid hr4
    clear hr4 hb4
    go_wp2_with fail
    go_ret2
    exact ⟨a4, cap4, by simp [HL.out], HR4.out, by rw [HL.out]; exact hcap4, HB4.out⟩
theorem table_Make (k n m d : Int) (N M : Nat) (w : World) (hx : NmOk (k, n, m, d)) (h : rightB (k, n, m, d) = true) (hn : n = N) (hm : m = M) :
    Calls Tryz.prog 108 #[.agg #[.int .i64 k, .int .i64 n, .int .i64 m, .int .i64 d]] w (GivesRowE .u64 (tblL k N M d) 0 w) := by
  have hl := (room_right h N M hn hm).2
  obtain ⟨N', hN, hs, hd, hc⟩ := right_cases h
  have : N' = N := by omega
  subst this
  subst hn
  refine table_made k N' m d _ _ w hx h rfl hl (red_tab _ _ _ _) ?_ (by rcases hc with ⟨h, _⟩ | ⟨h, _⟩ | ⟨h, _⟩ | ⟨h, _⟩ <;> omega)
  intro W
  rcases hc with ⟨rfl, _⟩ | ⟨rfl, _⟩ | ⟨rfl, _, hq⟩ | ⟨rfl, M', lg, hM, h2, hlg, he, hle⟩
  · exact tab_powers 1 N' m d W hs hd
  · exact tab_chirps 2 N' m d _ W hs hd rfl
  · exact tab_raders 3 N' m d W hs hd hq
  · have hMM : M' = M := by omega
    subst hMM
    rw [hm]
    exact tab_blues 4 N' M' lg d W hs hd hlg he hle
end Go.Proofs.YtlnlijeamflpiaaGreat

namespace Go.Proofs.YtlnlijeamflpiaaGreat
open Go.RowKit
set_option linter.unusedVariables false
set_option linter.unusedSimpArgs false
set_option maxRecDepth 100000
set_option maxRecDepth 20000
/-- append of a row that is owned (or of nothing) to a row that is owned. -/
theorem wpList_append_two {P : Program} (w : World) {ops : Array Oper} {rest : List Oper} {o : Oper} {a : Act} {Q : Exit → Act → World → Prop} (hgd : o.guard = none) (s x : Operand) (t : TypeId)
    (ho : o.op = .call { callee := .builtin .append, args := #[s, x], argTypes := #[t, t] })
    (base : Nat) (e : TypeId) (i : TypeInfo) (z : Value) (size bytes : Nat) (ht : P.underlying t = some (.slice e)) (hi : P.info? e = some i) (hz : i.zero = some z)
    (hsize : i.size = size) (hby : i.bytes = bytes) (hzs : z.cells.size = size) (hsz : 0 < size)
    (v : Value) (n : Nat) (xs : List Value) (hs : a.eval s = v) (hown : w.ownsRow base e size v n xs)
    (b2 : Nat) (v2 : Value) (m : Nat) (news : List Value) (hx : a.eval x = v2) (hsrc : w.ownsRow b2 e size v2 m news) (h1 : ∀ u ∈ news, u.oneCell' = true)
    (h63 : n + m ≤ maxLen) (hbytes : (n + m) * bytes ≤ 140737488355328) (hbase : base ≤ w.heap.size)
    (h : ∀ v' w', w'.ownsRow base e size v' (n + m) (xs ++ news) → w.grownBy w' v.ownBlock → (v'.ownBlock = v.ownBlock ∨ v'.ownBlock = some w.heap.size) → wpList P ops Q rest (a.put o.dst v') w') :
    wpList P ops Q (o :: rest) a w := by
  have hl := hsrc.1
  have hcells := fun g hg => hsrc.cells (g := g) hg
  rcases hsrc.2 with ⟨rfl, rfl⟩ | ⟨g, cap, cur, rfl, _, _, _, _, _, _⟩
  · have hn : news = [] := List.eq_nil_of_length_eq_zero (by simpa using hl)
    subst hn
    exact wpList_append_own_none hgd s x t ho base e i size ht hi v n xs hs hown hx (h v w (by simpa using hown) (World.grownBy.refl w _) (.inl rfl))
  · exact wpList_append_own_at w hgd s x t ho base e i z size bytes ht hi hz hsize hby hzs hsz v n xs hs hown ⟨g, 0, none⟩ m cap news hx hl (hcells g rfl) h1 h63 hbytes hbase fun v' w' h2 h3 _ h5 => h v' w' h2 h3 h5
end Go.Proofs.YtlnlijeamflpiaaGreat

namespace Go.Proofs.YtlnlijeamflpiaaGreat
open Go.RowKit
set_option linter.unusedVariables false
set_option linter.unusedSimpArgs false
set_option maxRecDepth 100000
set_option maxRecDepth 20000
/-- Nodes in memory stay. -/
def KeepsD (W W' : World) : Prop := ∀ (b : Nat) (cs : Array Value), W.heap[b]? = some (.cells cs 48 (0, 0)) → W'.heap[b]? = some (.cells cs 48 (0, 0))
theorem KeepsD.refl (W : World) : KeepsD W W := fun _ _ h => h
theorem KeepsD.trans {A B C : World} (h : KeepsD A B) (k : KeepsD B C) : KeepsD A C := fun b cs x => k b cs (h b cs x)
theorem KeepsD.of_below {W W' : World} (h : Below W.heap.size W W') : KeepsD W W' := fun b cs x => (h.block b (block_lt x)).trans x
theorem nmOk_mk {x y z u : Int} (h1 : -9223372036854775808 ≤ x ∧ x < 9223372036854775808) (h2 : -9223372036854775808 ≤ y ∧ y < 9223372036854775808) (h3 : -9223372036854775808 ≤ z ∧ z < 9223372036854775808) (h4 : -9223372036854775808 ≤ u ∧ u < 9223372036854775808) : NmOk (x, y, z, u) := ⟨h1, h2, h3, h4⟩
/-- A function that is told names, one by one; J: what holds when some have been told. -/
structure TellsN (g : FuncId) (p q : Addr) (w0 : World) (B C : Nat) (J : List Nm → World → Prop) : Prop where
  below : ∀ pre W, J pre W → Below B w0 W
  later : ∀ pre W W', J pre W → Below W.heap.size W W' → J pre W'
  call : ∀ (pre : List Nm) (k n m d : Int) W, J pre W → pre.length < C → NmOk (k, n, m, d) → Calls Tryz.prog g #[.agg #[.int .i64 k, .int .i64 n, .int .i64 m, .int .i64 d], .pointer (some p), .pointer (some q)] W fun e W' => e = .returned (.tuple #[]) ∧ J (pre ++ [(k, n, m, d)]) W' ∧ KeepsD W W'
  enter : ∀ args w, (callFunc g args).run Tryz.prog w = .ok (.enter g args) w
/-- The round over the children, and what stands behind it: a part of each's walk, for one kind of node. -/
def EachEnds (J : List Nm → World → Prop) (l : List Nm) (W : World) (e : Ending) (W' : World) : Prop := e = .returned (.tuple #[]) ∧ J l W' ∧ KeepsD W W'
set_option maxHeartbeats 16000000 in
theorem need_each (g : FuncId) (p q : Addr) (w0 : World) (B C : Nat) (J : List Nm → World → Prop) (HJ : TellsN g p q w0 B C J) (hB : B ≤ w0.heap.size) (N : Nat) (hN : N ≤ 4194304) :
    ∀ (t : Tr) (k n : Int) (a : Option Addr) (m cap : Nat) (dir : Int) (pre : List Nm) (W : World), t.size ≤ N → IsT w0 (Lt B) k n a m cap t → t.allOk → dir = 0 ∨ dir = 1 → J pre W → pre.length + 2 * t.size ≤ C →
    Calls Tryz.prog 178 #[.agg #[.int .i64 k, .int .i64 n, .slice a m cap], .int .i64 dir, .func (.func g) #[] #[.pointer (some p), .pointer (some q)]] W (EachEnds J (pre ++ t.names dir) W) := by
  have eg := HJ.enter
  induction N with
  | zero => intro t k n a m cap dir pre W h; have := Tr.size_pos t; omega
  | succ N ih =>
    intro t k n a m cap dir pre W hs hT hok hd hJ hC
    have IH := Lib.hid (ih (by omega))
    clear ih
    have hn := (Tr.allOk_iff t).1 hok
    have HOK := Lib.hid hn.2
    have HT : Hid (∀ pre V, J pre V → IsT V (Lt B) k n a m cap t) := fun pre V h => hT.stay fun b hb _ => (HJ.below pre V h).block b hb
    have HS := Lib.hid hs
    have HC := Lib.hid hC
    have hm4 : m ≤ 4194304 := by
      have := Tr.len_le_sizeL t.kids
      rw [Tr.size_kids] at hs
      rw [hT.em]; omega
    have hlen := hT.em
    have fn := hT.fn
    have fd : -9223372036854775808 ≤ dir ∧ dir < 9223372036854775808 := by omega
    have HNM : Hid (t.names dir = nmOwn k n (Tr.kid t.kids 0).num dir ++ Tr.namesL t.kids (nmBelow k dir)) := by unfold Hid; rw [Tr.names_kids, hT.ek, hT.en]
    obtain ⟨own, hown⟩ : ∃ l, nmOwn k n (Tr.kid t.kids 0).num dir = l := ⟨_, rfl⟩
    have hol : own.length ≤ 2 := by rw [← hown]; exact Tr.own_len _ _ _ _
    obtain ⟨D, hD⟩ : ∃ x, nmBelow k dir = x := ⟨_, rfl⟩
    have hd2 : D = 0 ∨ D = 1 := by rw [← hD]; exact below_dir k dir hd
    rw [hown, hD] at HNM
    rw [HNM.out]
    -- the round, for any world behind the node's own names
    have HR : Hid (∀ (V : World) (j : Nat), j < m → J (pre ++ own ++ Tr.namesL (t.kids.take j) D) V → ∀ k' n' a' m' c', IsT V (Lt B) k' n' a' m' c' (Tr.kid t.kids j) → True) := fun _ _ _ _ _ _ _ _ _ _ => trivial
    have IHK : Hid (∀ (j : Nat) (hj : j < m) (V : World), J (pre ++ own ++ Tr.namesL (t.kids.take j) D) V → ∃ b off k' n' a' m' c', a = some ⟨b, off, none⟩ ∧ b < V.heap.size ∧ V.cell? ⟨b, off + j * 3, none⟩ = some (.int .i64 k') ∧ V.cell? ⟨b, off + j * 3 + 1, none⟩ = some (.int .i64 n') ∧ V.cell? ⟨b, off + j * 3 + 2, none⟩ = some (.slice a' m' c') ∧
        ∀ V', Below V.heap.size V V' → Calls Tryz.prog 178 #[.agg #[.int .i64 k', .int .i64 n', .slice a' m' c'], .int .i64 D, .func (.func g) #[] #[.pointer (some p), .pointer (some q)]] V' (EachEnds J (pre ++ own ++ Tr.namesL (t.kids.take (j + 1)) D) V')) := fun j hj V hV => by
      have hj2 : j < t.kids.length := by rw [← hlen]; exact hj
      obtain ⟨b, off, k', n', a', m', c', e1, hF, hbl, h0, h1, h2, hT'⟩ := hT.kid j hj
      have hbel := HJ.below _ _ hV
      have ec : ∀ o, V.cell? ⟨b, o, none⟩ = w0.cell? ⟨b, o, none⟩ := fun o => hbel.cell (p := ⟨b, o, none⟩) hF
      have hbs : b < V.heap.size := Nat.lt_of_lt_of_le hbl hbel.size
      refine ⟨b, off, k', n', a', m', c', e1, hbs, (ec _).trans h0, (ec _).trans h1, (ec _).trans h2, fun V' hb => ?_⟩
      have hsz := Tr.size_kid t j hj2
      have htk := Tr.take_kid hj2
      have hnl := Tr.namesL_len (t.kids.take j) D
      have hsl := Tr.sizeL_append (t.kids.take (j + 1)) (t.kids.drop (j + 1))
      rw [List.take_append_drop, htk, Tr.sizeL_append] at hsl
      simp only [Tr.sizeL] at hsl
      have hts := Tr.size_kids t
      have h := IH.out (Tr.kid t.kids j) k' n' a' m' c' D (pre ++ own ++ Tr.namesL (t.kids.take j) D) V' (by omega) hT' (HOK.out j hj2) hd2 (HJ.later _ _ _ hV hb) (by
        simp only [List.length_append]
        omega)
      rw [List.append_assoc (pre ++ own), ← Tr.namesL_snoc, ← htk] at h
      exact h
    have HEND : Hid (Tr.namesL (t.kids.take m) D = Tr.namesL t.kids D) := by unfold Hid; rw [List.take_of_length_le (by omega)]
    clear HR
    have CT : Hid (∀ (l : List Nm) (x y z u : Int) V, J l V → l.length < C → NmOk (x, y, z, u) → Calls Tryz.prog g #[.agg #[.int .i64 x, .int .i64 y, .int .i64 z, .int .i64 u], .pointer (some p), .pointer (some q)] V fun e W' => e = .returned (.tuple #[]) ∧ J (l ++ [(x, y, z, u)]) W' ∧ KeepsD V W') := fun l x y z u V h1 h2 h3 => HJ.call l x y z u V h1 h2 h3
    have hpl : pre.length + 2 ≤ C := by have := Tr.size_pos t; omega
    obtain ⟨W0, hW0, hb0, x0⟩ := box_any W #[.int .i64 k, .int .i64 n, .slice a m cap] 48
    have HW0 := Lib.hid hW0
    have hJ0 := Lib.hid (HJ.later _ _ _ hJ hb0)
    have HK := Lib.hid (KeepsD.of_below hb0)
    have XD := Lib.hid x0
    have HL : Hid (∀ l V V', J l V → Below V.heap.size V V' → J l V') := HJ.later
    have hcs := node_cases hn.1
    rw [← hT.ek, ← hT.en, ← hT.em] at hcs
    have hk0 : k = 7 → ∃ b off, a = some ⟨b, off, none⟩ ∧ ∀ l V, J l V → V.cell? ⟨b, off + 1, none⟩ = some (.int .i64 (Tr.kid t.kids 0).num) := fun hk7 => by
      have h1 : 0 < m := by rcases hcs with h | h | h | h | h | h <;> omega
      obtain ⟨b, off, e1, _, h2, _⟩ := hT.knum 0 h1
      refine ⟨b, off, e1, fun l V h => ?_⟩
      obtain ⟨b', off', k', n', a', m', c', e1', _, _, _, h3, _, hT'⟩ := (HT.out l V h).kid 0 h1
      rw [e1] at e1'
      simp only [Option.some.injEq, Addr.mk.injEq, and_true] at e1'
      obtain ⟨rfl, rfl⟩ := e1'
      rw [hT'.en] at h3
      simpa using h3
    have fk0 : -9223372036854775808 ≤ (Tr.kid t.kids 0).num ∧ (Tr.kid t.kids 0).num < 9223372036854775808 ∨ k ≠ 7 := by
      by_cases hk7 : k = 7
      · left
        rcases hcs with h | h | h | h | h | h <;> omega
      · exact .inr hk7
    obtain ⟨K0, hK0⟩ : ∃ x, (Tr.kid t.kids 0).num = x := ⟨_, rfl⟩
    rw [hK0] at hown hk0 fk0
    have hkk : k = 1 ∨ k = 2 ∨ k = 3 ∨ k = 4 ∨ k = 5 ∨ k = 6 ∨ k = 7 := by rcases hcs with h | h | h | h | h | h <;> omega
    have HM7 : Hid (k = 7 → 0 < m) := fun h7 => by rcases hcs with h | h | h | h | h | h <;> omega
    clear hW0 hb0 x0 hJ hT hs hok hn hcs HJ hK0 hC hol hlen

    rcases hkk with rfl | rfl | rfl | rfl | rfl | rfl | rfl
    · skip
      have hown : [(1, n, 0, dir)] = own := by rw [← hown]; simp [nmOwn]
      obtain rfl : dir = D := by rw [← hD]; simp [nmBelow]
      clear hk0 fk0
      have hown := Lib.hid hown
      have D0 : W0.cell? ⟨W.heap.size, 0, none⟩ = some (.int .i64 1) := block_cell XD.out 0
      have D1 : W0.cell? ⟨W.heap.size, 1, none⟩ = some (.int .i64 n) := block_cell XD.out 1
      have D2 : W0.cell? ⟨W.heap.size, 2, none⟩ = some (.slice a m cap) := block_cell XD.out 2
      go_enter Tryz.func178, Tryz.ntmps178
      go_wp2_with fail
      rw [HW0.out]
      refine (CT.out pre _ _ _ _ _ hJ0.out (by first | omega | (simp; omega)) (nmOk_mk ⟨by omega, by omega⟩ ⟨by omega, by omega⟩ ⟨by omega, by omega⟩ ⟨by omega, by omega⟩)).mono ?_; rintro e w1 ⟨rfl, hj, hk⟩
      clear D0 D1 D2
      have XD := Lib.hid (hk _ _ XD.out)
      have HK := Lib.hid (HK.out.trans hk)
      have hJ0 := Lib.hid hj
      clear hk hj
      have D0 : w1.cell? ⟨W.heap.size, 0, none⟩ = some (.int .i64 1) := block_cell XD.out 0
      have D1 : w1.cell? ⟨W.heap.size, 1, none⟩ = some (.int .i64 n) := block_cell XD.out 1
      have D2 : w1.cell? ⟨W.heap.size, 2, none⟩ = some (.slice a m cap) := block_cell XD.out 2
      go_wp2_with fail
      go_loopw [52] (fun i wr => ∃ j : Nat, j ≤ m ∧ i = .int .i64 j ∧ Hid (J (pre ++ own ++ Tr.namesL (t.kids.take j) dir) wr) ∧ Hid (KeepsD W wr)) (fun i _ => m - (intOf i).toNat)
      case atStart => exact ⟨0, Nat.zero_le _, rfl, by unfold Hid; rw [← hown.out]; simpa [Tr.namesL] using hJ0.out, HK.out⟩
      case round =>
        obtain ⟨j, hj, rfl, HJ0, HK0⟩ := hrel
        by_cases hlt : j < m
        · obtain ⟨b, off, k', n', a', m', c', rfl, hbl, h0, h1, h2, hcall⟩ := IHK.out j hlt wr HJ0.out
          have HCALL := Lib.hid hcall
          have i0 : (0 : Int) ≤ (j : Int) := by omega
          have i1 : (j : Int) < (m : Int) := by omega
          clear hcall
          go_wp2_with fail
          refine (HCALL.out _ ((Below.refl _ _).alloc (Nat.le_refl _) _)).mono ?_; rintro e w2 ⟨rfl, hj2, hk2⟩
          have HJ2 := Lib.hid hj2
          have HK2 := Lib.hid (HK0.out.trans ((KeepsD.of_below ((Below.refl _ _).alloc (Nat.le_refl _) _)).trans hk2))
          clear hj2 hk2 h0 h1 h2
          go_wp2_with fail
          go_roundw
          case rel => exact ⟨j + 1, by omega, by go_num, HJ2.out, HK2.out⟩
          case measure => simp [intOf]; omega
        · obtain rfl : j = m := by omega
          have HF : Hid (J (pre ++ (own ++ Tr.namesL t.kids dir)) wr) := by unfold Hid; rw [← HEND.out, ← List.append_assoc]; exact HJ0.out
          clear HJ0
          go_wp2_with fail
          go_end0
          exact ⟨rfl, HF.out, HK0.out⟩
    · skip
      have hown : [] = own := by rw [← hown]; simp [nmOwn]
      obtain rfl : dir = D := by rw [← hD]; simp [nmBelow]
      clear hk0 fk0
      have hown := Lib.hid hown
      have D0 : W0.cell? ⟨W.heap.size, 0, none⟩ = some (.int .i64 2) := block_cell XD.out 0
      have D1 : W0.cell? ⟨W.heap.size, 1, none⟩ = some (.int .i64 n) := block_cell XD.out 1
      have D2 : W0.cell? ⟨W.heap.size, 2, none⟩ = some (.slice a m cap) := block_cell XD.out 2
      go_enter Tryz.func178, Tryz.ntmps178
      go_wp2_with fail
      rw [HW0.out]
      go_loopw [52] (fun i wr => ∃ j : Nat, j ≤ m ∧ i = .int .i64 j ∧ Hid (J (pre ++ own ++ Tr.namesL (t.kids.take j) dir) wr) ∧ Hid (KeepsD W wr)) (fun i _ => m - (intOf i).toNat)
      case atStart => exact ⟨0, Nat.zero_le _, rfl, by unfold Hid; rw [← hown.out]; simpa [Tr.namesL] using hJ0.out, HK.out⟩
      case round =>
        obtain ⟨j, hj, rfl, HJ0, HK0⟩ := hrel
        by_cases hlt : j < m
        · obtain ⟨b, off, k', n', a', m', c', rfl, hbl, h0, h1, h2, hcall⟩ := IHK.out j hlt wr HJ0.out
          have HCALL := Lib.hid hcall
          have i0 : (0 : Int) ≤ (j : Int) := by omega
          have i1 : (j : Int) < (m : Int) := by omega
          clear hcall
          go_wp2_with fail
          refine (HCALL.out _ ((Below.refl _ _).alloc (Nat.le_refl _) _)).mono ?_; rintro e w2 ⟨rfl, hj2, hk2⟩
          have HJ2 := Lib.hid hj2
          have HK2 := Lib.hid (HK0.out.trans ((KeepsD.of_below ((Below.refl _ _).alloc (Nat.le_refl _) _)).trans hk2))
          clear hj2 hk2 h0 h1 h2
          go_wp2_with fail
          go_roundw
          case rel => exact ⟨j + 1, by omega, by go_num, HJ2.out, HK2.out⟩
          case measure => simp [intOf]; omega
        · obtain rfl : j = m := by omega
          have HF : Hid (J (pre ++ (own ++ Tr.namesL t.kids dir)) wr) := by unfold Hid; rw [← HEND.out, ← List.append_assoc]; exact HJ0.out
          clear HJ0
          go_wp2_with fail
          go_end0
          exact ⟨rfl, HF.out, HK0.out⟩
    · skip
      have hown : [(1, n, 0, dir)] = own := by rw [← hown]; simp [nmOwn]
      obtain rfl : dir = D := by rw [← hD]; simp [nmBelow]
      clear hk0 fk0
      have hown := Lib.hid hown
      have D0 : W0.cell? ⟨W.heap.size, 0, none⟩ = some (.int .i64 3) := block_cell XD.out 0
      have D1 : W0.cell? ⟨W.heap.size, 1, none⟩ = some (.int .i64 n) := block_cell XD.out 1
      have D2 : W0.cell? ⟨W.heap.size, 2, none⟩ = some (.slice a m cap) := block_cell XD.out 2
      go_enter Tryz.func178, Tryz.ntmps178
      go_wp2_with fail
      rw [HW0.out]
      refine (CT.out pre _ _ _ _ _ hJ0.out (by first | omega | (simp; omega)) (nmOk_mk ⟨by omega, by omega⟩ ⟨by omega, by omega⟩ ⟨by omega, by omega⟩ ⟨by omega, by omega⟩)).mono ?_; rintro e w1 ⟨rfl, hj, hk⟩
      clear D0 D1 D2
      have XD := Lib.hid (hk _ _ XD.out)
      have HK := Lib.hid (HK.out.trans hk)
      have hJ0 := Lib.hid hj
      clear hk hj
      have D0 : w1.cell? ⟨W.heap.size, 0, none⟩ = some (.int .i64 3) := block_cell XD.out 0
      have D1 : w1.cell? ⟨W.heap.size, 1, none⟩ = some (.int .i64 n) := block_cell XD.out 1
      have D2 : w1.cell? ⟨W.heap.size, 2, none⟩ = some (.slice a m cap) := block_cell XD.out 2
      go_wp2_with fail
      go_loopw [52] (fun i wr => ∃ j : Nat, j ≤ m ∧ i = .int .i64 j ∧ Hid (J (pre ++ own ++ Tr.namesL (t.kids.take j) dir) wr) ∧ Hid (KeepsD W wr)) (fun i _ => m - (intOf i).toNat)
      case atStart => exact ⟨0, Nat.zero_le _, rfl, by unfold Hid; rw [← hown.out]; simpa [Tr.namesL] using hJ0.out, HK.out⟩
      case round =>
        obtain ⟨j, hj, rfl, HJ0, HK0⟩ := hrel
        by_cases hlt : j < m
        · obtain ⟨b, off, k', n', a', m', c', rfl, hbl, h0, h1, h2, hcall⟩ := IHK.out j hlt wr HJ0.out
          have HCALL := Lib.hid hcall
          have i0 : (0 : Int) ≤ (j : Int) := by omega
          have i1 : (j : Int) < (m : Int) := by omega
          clear hcall
          go_wp2_with fail
          refine (HCALL.out _ ((Below.refl _ _).alloc (Nat.le_refl _) _)).mono ?_; rintro e w2 ⟨rfl, hj2, hk2⟩
          have HJ2 := Lib.hid hj2
          have HK2 := Lib.hid (HK0.out.trans ((KeepsD.of_below ((Below.refl _ _).alloc (Nat.le_refl _) _)).trans hk2))
          clear hj2 hk2 h0 h1 h2
          go_wp2_with fail
          go_roundw
          case rel => exact ⟨j + 1, by omega, by go_num, HJ2.out, HK2.out⟩
          case measure => simp [intOf]; omega
        · obtain rfl : j = m := by omega
          have HF : Hid (J (pre ++ (own ++ Tr.namesL t.kids dir)) wr) := by unfold Hid; rw [← HEND.out, ← List.append_assoc]; exact HJ0.out
          clear HJ0
          go_wp2_with fail
          go_end0
          exact ⟨rfl, HF.out, HK0.out⟩
    · skip
      have hown : [(1, n, 0, dir)] = own := by rw [← hown]; simp [nmOwn]
      obtain rfl : dir = D := by rw [← hD]; simp [nmBelow]
      clear hk0 fk0
      have hown := Lib.hid hown
      have D0 : W0.cell? ⟨W.heap.size, 0, none⟩ = some (.int .i64 4) := block_cell XD.out 0
      have D1 : W0.cell? ⟨W.heap.size, 1, none⟩ = some (.int .i64 n) := block_cell XD.out 1
      have D2 : W0.cell? ⟨W.heap.size, 2, none⟩ = some (.slice a m cap) := block_cell XD.out 2
      go_enter Tryz.func178, Tryz.ntmps178
      go_wp2_with fail
      rw [HW0.out]
      refine (CT.out pre _ _ _ _ _ hJ0.out (by first | omega | (simp; omega)) (nmOk_mk ⟨by omega, by omega⟩ ⟨by omega, by omega⟩ ⟨by omega, by omega⟩ ⟨by omega, by omega⟩)).mono ?_; rintro e w1 ⟨rfl, hj, hk⟩
      clear D0 D1 D2
      have XD := Lib.hid (hk _ _ XD.out)
      have HK := Lib.hid (HK.out.trans hk)
      have hJ0 := Lib.hid hj
      clear hk hj
      have D0 : w1.cell? ⟨W.heap.size, 0, none⟩ = some (.int .i64 4) := block_cell XD.out 0
      have D1 : w1.cell? ⟨W.heap.size, 1, none⟩ = some (.int .i64 n) := block_cell XD.out 1
      have D2 : w1.cell? ⟨W.heap.size, 2, none⟩ = some (.slice a m cap) := block_cell XD.out 2
      go_wp2_with fail
      go_loopw [52] (fun i wr => ∃ j : Nat, j ≤ m ∧ i = .int .i64 j ∧ Hid (J (pre ++ own ++ Tr.namesL (t.kids.take j) dir) wr) ∧ Hid (KeepsD W wr)) (fun i _ => m - (intOf i).toNat)
      case atStart => exact ⟨0, Nat.zero_le _, rfl, by unfold Hid; rw [← hown.out]; simpa [Tr.namesL] using hJ0.out, HK.out⟩
      case round =>
        obtain ⟨j, hj, rfl, HJ0, HK0⟩ := hrel
        by_cases hlt : j < m
        · obtain ⟨b, off, k', n', a', m', c', rfl, hbl, h0, h1, h2, hcall⟩ := IHK.out j hlt wr HJ0.out
          have HCALL := Lib.hid hcall
          have i0 : (0 : Int) ≤ (j : Int) := by omega
          have i1 : (j : Int) < (m : Int) := by omega
          clear hcall
          go_wp2_with fail
          refine (HCALL.out _ ((Below.refl _ _).alloc (Nat.le_refl _) _)).mono ?_; rintro e w2 ⟨rfl, hj2, hk2⟩
          have HJ2 := Lib.hid hj2
          have HK2 := Lib.hid (HK0.out.trans ((KeepsD.of_below ((Below.refl _ _).alloc (Nat.le_refl _) _)).trans hk2))
          clear hj2 hk2 h0 h1 h2
          go_wp2_with fail
          go_roundw
          case rel => exact ⟨j + 1, by omega, by go_num, HJ2.out, HK2.out⟩
          case measure => simp [intOf]; omega
        · obtain rfl : j = m := by omega
          have HF : Hid (J (pre ++ (own ++ Tr.namesL t.kids dir)) wr) := by unfold Hid; rw [← HEND.out, ← List.append_assoc]; exact HJ0.out
          clear HJ0
          go_wp2_with fail
          go_end0
          exact ⟨rfl, HF.out, HK0.out⟩
    · skip
      have hown : [] = own := by rw [← hown]; simp [nmOwn]
      obtain rfl : dir = D := by rw [← hD]; simp [nmBelow]
      clear hk0 fk0
      have hown := Lib.hid hown
      have D0 : W0.cell? ⟨W.heap.size, 0, none⟩ = some (.int .i64 5) := block_cell XD.out 0
      have D1 : W0.cell? ⟨W.heap.size, 1, none⟩ = some (.int .i64 n) := block_cell XD.out 1
      have D2 : W0.cell? ⟨W.heap.size, 2, none⟩ = some (.slice a m cap) := block_cell XD.out 2
      go_enter Tryz.func178, Tryz.ntmps178
      go_wp2_with fail
      rw [HW0.out]
      go_loopw [52] (fun i wr => ∃ j : Nat, j ≤ m ∧ i = .int .i64 j ∧ Hid (J (pre ++ own ++ Tr.namesL (t.kids.take j) dir) wr) ∧ Hid (KeepsD W wr)) (fun i _ => m - (intOf i).toNat)
      case atStart => exact ⟨0, Nat.zero_le _, rfl, by unfold Hid; rw [← hown.out]; simpa [Tr.namesL] using hJ0.out, HK.out⟩
      case round =>
        obtain ⟨j, hj, rfl, HJ0, HK0⟩ := hrel
        by_cases hlt : j < m
        · obtain ⟨b, off, k', n', a', m', c', rfl, hbl, h0, h1, h2, hcall⟩ := IHK.out j hlt wr HJ0.out
          have HCALL := Lib.hid hcall
          have i0 : (0 : Int) ≤ (j : Int) := by omega
          have i1 : (j : Int) < (m : Int) := by omega
          clear hcall
          go_wp2_with fail
          refine (HCALL.out _ ((Below.refl _ _).alloc (Nat.le_refl _) _)).mono ?_; rintro e w2 ⟨rfl, hj2, hk2⟩
          have HJ2 := Lib.hid hj2
          have HK2 := Lib.hid (HK0.out.trans ((KeepsD.of_below ((Below.refl _ _).alloc (Nat.le_refl _) _)).trans hk2))
          clear hj2 hk2 h0 h1 h2
          go_wp2_with fail
          go_roundw
          case rel => exact ⟨j + 1, by omega, by go_num, HJ2.out, HK2.out⟩
          case measure => simp [intOf]; omega
        · obtain rfl : j = m := by omega
          have HF : Hid (J (pre ++ (own ++ Tr.namesL t.kids dir)) wr) := by unfold Hid; rw [← HEND.out, ← List.append_assoc]; exact HJ0.out
          clear HJ0
          go_wp2_with fail
          go_end0
          exact ⟨rfl, HF.out, HK0.out⟩
    · skip
      have hown : [(3, n, 0, dir)] = own := by rw [← hown]; simp [nmOwn]
      obtain rfl : D = 0 := by rw [← hD]; simp [nmBelow]
      clear hk0 fk0
      have hown := Lib.hid hown
      have D0 : W0.cell? ⟨W.heap.size, 0, none⟩ = some (.int .i64 6) := block_cell XD.out 0
      have D1 : W0.cell? ⟨W.heap.size, 1, none⟩ = some (.int .i64 n) := block_cell XD.out 1
      have D2 : W0.cell? ⟨W.heap.size, 2, none⟩ = some (.slice a m cap) := block_cell XD.out 2
      go_enter Tryz.func178, Tryz.ntmps178
      go_wp2_with fail
      rw [HW0.out]
      refine (CT.out pre _ _ _ _ _ hJ0.out (by first | omega | (simp; omega)) (nmOk_mk ⟨by omega, by omega⟩ ⟨by omega, by omega⟩ ⟨by omega, by omega⟩ ⟨by omega, by omega⟩)).mono ?_; rintro e w1 ⟨rfl, hj, hk⟩
      clear D0 D1 D2
      have XD := Lib.hid (hk _ _ XD.out)
      have HK := Lib.hid (HK.out.trans hk)
      have hJ0 := Lib.hid hj
      clear hk hj
      have D0 : w1.cell? ⟨W.heap.size, 0, none⟩ = some (.int .i64 6) := block_cell XD.out 0
      have D1 : w1.cell? ⟨W.heap.size, 1, none⟩ = some (.int .i64 n) := block_cell XD.out 1
      have D2 : w1.cell? ⟨W.heap.size, 2, none⟩ = some (.slice a m cap) := block_cell XD.out 2
      go_wp2_with fail
      go_loopw [52] (fun i wr => ∃ j : Nat, j ≤ m ∧ i = .int .i64 j ∧ Hid (J (pre ++ own ++ Tr.namesL (t.kids.take j) 0) wr) ∧ Hid (KeepsD W wr)) (fun i _ => m - (intOf i).toNat)
      case atStart => exact ⟨0, Nat.zero_le _, rfl, by unfold Hid; rw [← hown.out]; simpa [Tr.namesL] using hJ0.out, HK.out⟩
      case round =>
        obtain ⟨j, hj, rfl, HJ0, HK0⟩ := hrel
        by_cases hlt : j < m
        · obtain ⟨b, off, k', n', a', m', c', rfl, hbl, h0, h1, h2, hcall⟩ := IHK.out j hlt wr HJ0.out
          have HCALL := Lib.hid hcall
          have i0 : (0 : Int) ≤ (j : Int) := by omega
          have i1 : (j : Int) < (m : Int) := by omega
          clear hcall
          go_wp2_with fail
          refine (HCALL.out _ ((Below.refl _ _).alloc (Nat.le_refl _) _)).mono ?_; rintro e w2 ⟨rfl, hj2, hk2⟩
          have HJ2 := Lib.hid hj2
          have HK2 := Lib.hid (HK0.out.trans ((KeepsD.of_below ((Below.refl _ _).alloc (Nat.le_refl _) _)).trans hk2))
          clear hj2 hk2 h0 h1 h2
          go_wp2_with fail
          go_roundw
          case rel => exact ⟨j + 1, by omega, by go_num, HJ2.out, HK2.out⟩
          case measure => simp [intOf]; omega
        · obtain rfl : j = m := by omega
          have HF : Hid (J (pre ++ (own ++ Tr.namesL t.kids 0)) wr) := by unfold Hid; rw [← HEND.out, ← List.append_assoc]; exact HJ0.out
          clear HJ0
          go_wp2_with fail
          go_end0
          exact ⟨rfl, HF.out, HK0.out⟩
    · skip
      have hown : [(2, n, 0, dir), (4, n, K0, dir)] = own := by rw [← hown]; simp [nmOwn]
      obtain rfl : D = 0 := by rw [← hD]; simp [nmBelow]
      obtain ⟨b0, o0, rfl, hkz⟩ := hk0 rfl
      have HK0N := Lib.hid hkz
      have fk := fk0.resolve_right (by simp)
      clear hk0 hkz fk0
      have hm0 : 0 < m := HM7.out rfl
      have hown := Lib.hid hown
      have D0 : W0.cell? ⟨W.heap.size, 0, none⟩ = some (.int .i64 7) := block_cell XD.out 0
      have D1 : W0.cell? ⟨W.heap.size, 1, none⟩ = some (.int .i64 n) := block_cell XD.out 1
      have D2 : W0.cell? ⟨W.heap.size, 2, none⟩ = some (.slice (some ⟨b0, o0, none⟩) m cap) := block_cell XD.out 2
      go_enter Tryz.func178, Tryz.ntmps178
      go_wp2_with fail
      rw [HW0.out]
      refine (CT.out pre _ _ _ _ _ hJ0.out (by first | omega | (simp; omega)) (nmOk_mk ⟨by omega, by omega⟩ ⟨by omega, by omega⟩ ⟨by omega, by omega⟩ ⟨by omega, by omega⟩)).mono ?_; rintro e w1 ⟨rfl, hj, hk⟩
      clear D0 D1 D2
      have XD := Lib.hid (hk _ _ XD.out)
      have HK := Lib.hid (HK.out.trans hk)
      have hJ0 := Lib.hid hj
      clear hk hj
      have D0 : w1.cell? ⟨W.heap.size, 0, none⟩ = some (.int .i64 7) := block_cell XD.out 0
      have D1 : w1.cell? ⟨W.heap.size, 1, none⟩ = some (.int .i64 n) := block_cell XD.out 1
      have D2 : w1.cell? ⟨W.heap.size, 2, none⟩ = some (.slice (some ⟨b0, o0, none⟩) m cap) := block_cell XD.out 2
      go_wp2_with fail
      have hbd := (Below.refl w1.heap.size w1).drew
      have n0 := HK0N.out _ _ hJ0.out
      go_still_tail 10, (by kernel_rfl)
      change wpList _ _ _ _ _ w1.drew
      have hJ0 := Lib.hid (HL.out _ _ _ hJ0.out hbd)
      have HK := Lib.hid (HK.out.trans (KeepsD.of_below hbd))
      have XD := Lib.hid ((KeepsD.of_below hbd) _ _ XD.out)
      clear n0 D0 D1 D2
      obtain ⟨w2, hw2⟩ : ∃ w2, w1.drew = w2 := ⟨_, rfl⟩
      rw [hw2] at hJ0 HK XD ⊢
      clear hw2 hbd
      have D0 : w2.cell? ⟨W.heap.size, 0, none⟩ = some (.int .i64 7) := block_cell XD.out 0
      have D1 : w2.cell? ⟨W.heap.size, 1, none⟩ = some (.int .i64 n) := block_cell XD.out 1
      have D2 : w2.cell? ⟨W.heap.size, 2, none⟩ = some (.slice (some ⟨b0, o0, none⟩) m cap) := block_cell XD.out 2
      go_wp2_with fail
      refine (CT.out (pre ++ [(2, n, 0, _)]) _ _ _ _ _ hJ0.out (by first | omega | (simp; omega)) (nmOk_mk ⟨by omega, by omega⟩ ⟨by omega, by omega⟩ ⟨by omega, by omega⟩ ⟨by omega, by omega⟩)).mono ?_; rintro e w3 ⟨rfl, hj, hk⟩
      clear D0 D1 D2
      have XD := Lib.hid (hk _ _ XD.out)
      have HK := Lib.hid (HK.out.trans hk)
      have hJ0 := Lib.hid hj
      clear hk hj
      have D0 : w3.cell? ⟨W.heap.size, 0, none⟩ = some (.int .i64 7) := block_cell XD.out 0
      have D1 : w3.cell? ⟨W.heap.size, 1, none⟩ = some (.int .i64 n) := block_cell XD.out 1
      have D2 : w3.cell? ⟨W.heap.size, 2, none⟩ = some (.slice (some ⟨b0, o0, none⟩) m cap) := block_cell XD.out 2
      go_wp2_with fail
      go_loopw [52] (fun i wr => ∃ j : Nat, j ≤ m ∧ i = .int .i64 j ∧ Hid (J (pre ++ own ++ Tr.namesL (t.kids.take j) 0) wr) ∧ Hid (KeepsD W wr)) (fun i _ => m - (intOf i).toNat)
      case atStart => exact ⟨0, Nat.zero_le _, rfl, by unfold Hid; rw [← hown.out]; simpa [Tr.namesL] using hJ0.out, HK.out⟩
      case round =>
        obtain ⟨j, hj, rfl, HJ0, HK0⟩ := hrel
        by_cases hlt : j < m
        · obtain ⟨b, off, k', n', a', m', c', hab, hbl, h0, h1, h2, hcall⟩ := IHK.out j hlt wr HJ0.out
          simp only [Option.some.injEq, Addr.mk.injEq, and_true] at hab
          obtain ⟨rfl, rfl⟩ := hab
          have HCALL := Lib.hid hcall
          have i0 : (0 : Int) ≤ (j : Int) := by omega
          have i1 : (j : Int) < (m : Int) := by omega
          clear hcall
          go_wp2_with fail
          refine (HCALL.out _ ((Below.refl _ _).alloc (Nat.le_refl _) _)).mono ?_; rintro e w2 ⟨rfl, hj2, hk2⟩
          have HJ2 := Lib.hid hj2
          have HK2 := Lib.hid (HK0.out.trans ((KeepsD.of_below ((Below.refl _ _).alloc (Nat.le_refl _) _)).trans hk2))
          clear hj2 hk2 h0 h1 h2
          go_wp2_with fail
          go_roundw
          case rel => exact ⟨j + 1, by omega, by go_num, HJ2.out, HK2.out⟩
          case measure => simp [intOf]; omega
        · obtain rfl : j = m := by omega
          have HF : Hid (J (pre ++ (own ++ Tr.namesL t.kids 0)) wr) := by unfold Hid; rw [← HEND.out, ← List.append_assoc]; exact HJ0.out
          clear HJ0
          go_wp2_with fail
          go_end0
          exact ⟨rfl, HF.out, HK0.out⟩
end Go.Proofs.YtlnlijeamflpiaaGreat

namespace Go.Proofs.YtlnlijeamflpiaaGreat
open Go.RowKit
set_option linter.unusedVariables false
set_option linter.unusedSimpArgs false
set_option maxRecDepth 100000
set_option maxRecDepth 20000
/-- What holds when some names have been told to the one who counts. -/
def CountJ (w0 : World) (bt bn : Nat) (t : Nm) (pre : List Nm) (W : World) : Prop :=
  Below w0.heap.size w0 W ∧ W.heap[bt]? = some (.cells #[.int .i64 t.1, .int .i64 t.2.1, .int .i64 t.2.2.1, .int .i64 t.2.2.2] 112 (0, 0)) ∧ W.heap[bn]? = some (.cells #[.int .i64 (pre.count t : Nat)] 3 (0, 0))
theorem CountJ.later {w0 : World} {bt bn : Nat} {t : Nm} {pre : List Nm} {W W' : World} (h : CountJ w0 bt bn t pre W) (hb : Below W.heap.size W W') : CountJ w0 bt bn t pre W' :=
  ⟨h.1.trans (hb.mono h.1.size), (hb.block _ (block_lt h.2.1)).trans h.2.1, (hb.block _ (block_lt h.2.2)).trans h.2.2⟩
theorem need_check (t : Tr) (k n : Int) (a : Option Addr) (m cap : Nat) (dir : Int) (w : World) (F : Nat → Prop) (hs : t.size ≤ 4194304) (hT : IsT w F k n a m cap t) :
    Calls Tryz.prog 177 #[.agg #[.int .i64 k, .int .i64 n, .slice a m cap], .int .i64 dir] w fun e w' => e = .returned (.int .i64 (if dir ≠ 0 ∧ dir ≠ 1 then 2 else chk t)) ∧ Below w.heap.size w w' := by
  by_cases hd : dir ≠ 0 ∧ dir ≠ 1
  · rw [if_pos hd]
    have t0 : (dir != 0) = true := bdiff hd.1
    have t1 : (dir != 1) = true := bdiff hd.2
    clear hd hT
    go_enter Tryz.func177, Tryz.ntmps177
    go_wp2_with fail
    go_ret
    exact ⟨rfl, (Below.refl _ _).alloc (Nat.le_refl _) _⟩
  · rw [if_neg hd]
    have CC : Hid (∀ W, Below w.heap.size w W → Calls Tryz.prog 57 #[.agg #[.int .i64 k, .int .i64 n, .slice a m cap]] W fun e w' => e = .returned (.int .i64 (chk t)) ∧ Below W.heap.size W w') := fun W hb => valid_Check t k n a m cap W F hs (hT.below hb)
    rcases (show dir = 0 ∨ dir = 1 by omega) with rfl | rfl
    all_goals
      clear hd hT
      go_enter Tryz.func177, Tryz.ntmps177
      go_wp2_with fail
      refine (CC.out _ ((Below.refl _ _).alloc (Nat.le_refl _) _)).mono ?_; rintro e w1 ⟨rfl, hb⟩
      have hb1 := chainA (Below.refl w.heap.size w) hb
      clear hb
      go_wp2_with fail
      go_ret
      exact ⟨rfl, hb1⟩
/-- The names of a tree in a direction, if it may be asked. -/
def namesB (t : Tr) (dir : Int) : List Nm := if (dir ≠ 0 ∧ dir ≠ 1) ∨ chk t ≠ 0 then [] else t.names dir
end Go.Proofs.YtlnlijeamflpiaaGreat

