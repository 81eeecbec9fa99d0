/- Plain laws of the transform, over lists. -/
import Derived.Test.YtlgklkhijmeldaaDftC
namespace Go.Proofs.Ytlgklkhijmeldaa
open Sm
set_option linter.unusedVariables false
set_option linter.unusedSimpArgs false
set_option maxRecDepth 100000

theorem eq_of_eqm {a b : Int} (h : Eqm a b) (a0 : 0 ≤ a) (a1 : a < 18446744069414584321) (b0 : 0 ≤ b) (b1 : b < 18446744069414584321) : a = b := by
  unfold Eqm at h
  rwa [Int.emod_eq_of_lt a0 a1, Int.emod_eq_of_lt b0 b1] at h

theorem pt_T (xs : List Int) (z : Int) (k : Nat) : Eqm (pt xs (pw z k)) (T xs.length z (nth xs) k) := by
  unfold pt T
  refine (Eqm.mod _).trans (S_eqm fun i _ => (rfl' _).mul ?_)
  rw [Nat.mul_comm, Int.pow_mul]
  exact (pw_eqm z k).pow i

theorem nth_dftL (xs : List Int) (z : Int) (k : Nat) (h : k < xs.length) : nth (dftL xs z) k = pt xs (pw z k) := nth_ofFn _ _ _ h
theorem dftL_T (xs : List Int) (z : Int) (k : Nat) (h : k < xs.length) : Eqm (nth (dftL xs z) k) (T xs.length z (nth xs) k) := by
  rw [nth_dftL xs z k h]; exact pt_T xs z k

theorem nth_scaleL (xs : List Int) (c : Int) (k : Nat) (h : k < xs.length) : nth (scaleL xs c) k = nth xs k * c % 18446744069414584321 := nth_ofFn _ _ _ h

theorem T_scale (n : Nat) (w c : Int) (Y : Nat → Int) (k : Nat) : T n w (fun i => Y i * c) k = T n w Y k * c := by
  unfold T
  rw [← S_mul_r]
  exact S_congr (fun i _ => by rw [Int.mul_assoc, Int.mul_comm c, ← Int.mul_assoc])

theorem inv_n (n : Nat) (h1 : 1 ≤ n) (h2 : n ≤ 16777216) : Eqm ((n : Int) * invN n) 1 := by
  have := pw_inv (n : Int) (by omega) (by omega)
  unfold Eqm invN
  rw [this]; rfl

theorem dir_swap (n : Nat) (d : Int) (hd : d = 0 ∨ d = 1) : dirRt n (1 - d) = dirBk n d := by
  unfold dirRt dirBk
  rcases hd with h | h
  · rw [if_pos (by omega), if_neg (by omega)]
  · rw [if_neg (by omega), if_pos h]

theorem undo_T (xs : List Int) (d : Int) (hd : d = 0 ∨ d = 1) (k : Nat) (h : k < xs.length) : Eqm (nth (undoL xs d) k) (T xs.length (dirBk xs.length d) (nth xs) k * invN xs.length) := by
  unfold undoL
  rw [nth_scaleL _ _ _ (by rw [dftL_len]; exact h), dir_swap _ _ hd]
  exact (Eqm.mod _).trans ((dftL_T xs _ k h).mul (rfl' _))

theorem nth_redL (xs : List Int) (k : Nat) (h : k < xs.length) : nth (redL xs) k = nth xs k % 18446744069414584321 := nth_map (· % 18446744069414584321) xs k h

/-- The transform undoes what undoing does. -/
theorem dft_undo (xs : List Int) (d : Int) (hd : d = 0 ∨ d = 1) (hs : hasSz xs.length = true) (hl : xs.length ≤ 16777216) : dftL (undoL xs d) (dirRt xs.length d) = redL xs := by
  have hr := isRoot_dir xs.length d hs
  have h1 := (hasSz_iff.1 hs).1
  apply ext_nth (by rw [dftL_len, undoL_len, redL_len])
  intro k hk
  have hk' : k < xs.length := by rwa [dftL_len, undoL_len] at hk
  have hku : k < (undoL xs d).length := by rwa [undoL_len]
  have e1 := dftL_T (undoL xs d) (dirRt xs.length d) k hku
  rw [undoL_len] at e1
  have e2 : Eqm (T xs.length (dirRt xs.length d) (nth (undoL xs d)) k) (nth xs k) := by
    refine (T_eqm (rfl' _) (fun i hi => undo_T xs d hd i hi) k).trans ?_
    rw [T_scale]
    refine ((T_back hr.back (nth xs) k hk').mul (rfl' _)).trans ?_
    rw [Int.mul_comm (xs.length : Int), Int.mul_assoc]
    have := (rfl' (nth xs k)).mul (inv_n xs.length (by omega) hl)
    rwa [Int.mul_one] at this
  rw [nth_redL xs k hk']
  refine eq_of_eqm ((e1.trans e2).trans (Eqm.mod _).symm) ?_ ?_ (by omega) (by omega)
  · rw [nth_dftL _ _ _ hku]; exact (pt_range _ _).1
  · rw [nth_dftL _ _ _ hku]; exact (pt_range _ _).2

/-- .. and the other way round. -/
theorem undo_dft (xs : List Int) (d : Int) (hd : d = 0 ∨ d = 1) (hs : hasSz xs.length = true) (hl : xs.length ≤ 16777216) : undoL (dftL xs (dirRt xs.length d)) d = redL xs := by
  have hr := isRoot_dir xs.length d hs
  have h1 := (hasSz_iff.1 hs).1
  apply ext_nth (by rw [undoL_len, dftL_len, redL_len])
  intro k hk
  have hk' : k < xs.length := by rwa [undoL_len, dftL_len] at hk
  have hku : k < (dftL xs (dirRt xs.length d)).length := by rwa [dftL_len]
  have e1 := undo_T (dftL xs (dirRt xs.length d)) d hd k hku
  rw [dftL_len] at e1
  have e2 : Eqm (T xs.length (dirBk xs.length d) (nth (dftL xs (dirRt xs.length d))) k * invN xs.length) (nth xs k) := by
    refine ((T_eqm (rfl' _) (fun i hi => dftL_T xs _ i hi) k).mul (rfl' _)).trans ?_
    refine ((T_back hr (nth xs) k hk').mul (rfl' _)).trans ?_
    rw [Int.mul_comm (xs.length : Int), Int.mul_assoc]
    have := (rfl' (nth xs k)).mul (inv_n xs.length (by omega) hl)
    rwa [Int.mul_one] at this
  rw [nth_redL xs k hk']
  have hsc : nth (undoL (dftL xs (dirRt xs.length d)) d) k = nth (dftL (dftL xs (dirRt xs.length d)) (dirRt (dftL xs (dirRt xs.length d)).length (1 - d))) k * invN (dftL xs (dirRt xs.length d)).length % 18446744069414584321 := nth_scaleL _ _ _ (by rw [dftL_len]; exact hku)
  refine eq_of_eqm ((e1.trans e2).trans (Eqm.mod _).symm) ?_ ?_ (by omega) (by omega)
  · rw [hsc]; omega
  · rw [hsc]; omega

theorem dft_twice (xs : List Int) (d : Int) (hs : hasSz xs.length = true) : dftL (dftL xs (dirRt xs.length d)) (dirRt xs.length d) = scaleL (revL xs) xs.length := by
  have hr := isRoot_dir xs.length d hs
  apply ext_nth (by rw [dftL_len, dftL_len, scaleL_len, revL_len])
  intro k hk
  have hk' : k < xs.length := by rwa [dftL_len, dftL_len] at hk
  have hku : k < (dftL xs (dirRt xs.length d)).length := by rwa [dftL_len]
  have e1 := dftL_T (dftL xs (dirRt xs.length d)) (dirRt xs.length d) k hku
  rw [dftL_len] at e1
  have e2 := (T_eqm (rfl' (dirRt xs.length d)) (fun i hi => dftL_T xs (dirRt xs.length d) i hi) k).trans (T_twice hr (nth xs) k hk')
  rw [nth_scaleL _ _ _ (by rw [revL_len]; exact hk')]
  have e3 : nth (revL xs) k = nth xs (revAt xs.length k) % 18446744069414584321 := nth_ofFn _ _ _ hk'
  rw [e3]
  refine eq_of_eqm ((e1.trans e2).trans ?_) ?_ ?_ (by omega) (by omega)
  · rw [Int.mul_comm]
    exact (((Eqm.mod _).symm).mul (rfl' _)).trans (Eqm.mod _).symm
  · rw [nth_dftL _ _ _ hku]; exact (pt_range _ _).1
  · rw [nth_dftL _ _ _ hku]; exact (pt_range _ _).2

theorem nth_addL (xs ys : List Int) (k : Nat) (h : k < xs.length) : nth (addL xs ys) k = (nth xs k + nth ys k) % 18446744069414584321 := nth_ofFn _ _ _ h

theorem dft_add (xs ys : List Int) (z : Int) (hl : xs.length = ys.length) : dftL (addL xs ys) z = addL (dftL xs z) (dftL ys z) := by
  apply ext_nth (by rw [dftL_len, addL_len, addL_len, dftL_len])
  intro k hk
  have hk' : k < xs.length := by rwa [dftL_len, addL_len] at hk
  have hku : k < (addL xs ys).length := by rwa [addL_len]
  have e1 := dftL_T (addL xs ys) z k hku
  rw [addL_len] at e1
  rw [nth_addL _ _ _ (by rw [dftL_len]; exact hk')]
  have e2 : Eqm (T xs.length z (nth (addL xs ys)) k) (T xs.length z (nth xs) k + T xs.length z (nth ys) k) := by
    unfold T
    rw [← S_add]
    refine S_eqm (fun i hi => ?_)
    rw [← Int.add_mul, nth_addL xs ys i hi]
    exact (Eqm.mod _).mul (rfl' _)
  have e3 := dftL_T ys z k (by omega)
  rw [← hl] at e3
  refine eq_of_eqm ((e1.trans e2).trans (((dftL_T xs z k hk').symm.add e3.symm).trans (Eqm.mod _).symm)) ?_ ?_ (by omega) (by omega)
  · rw [nth_dftL _ _ _ hku]; exact (pt_range _ _).1
  · rw [nth_dftL _ _ _ hku]; exact (pt_range _ _).2

theorem nth_turnL (xs : List Int) (m : Int) (k : Nat) (h : k < xs.length) : nth (turnL xs m) k = nth xs (turnAt xs.length m k) % 18446744069414584321 := nth_ofFn _ _ _ h
theorem turnAt_nat (n m i : Nat) : turnAt n (m : Int) i = (i + m) % n := by
  unfold turnAt
  rw [← Int.natCast_add, ← Int.natCast_emod, Int.toNat_natCast]

/-- A turned row's transform, at a place. -/
theorem dft_turn (xs : List Int) (m k : Nat) (hs : hasSz xs.length = true) (hk : k < xs.length) :
    nth (dftL (turnL xs m) (rt xs.length)) k = nth (dftL xs (rt xs.length)) k * pw (bk xs.length) (m % xs.length * k % xs.length) % 18446744069414584321 := by
  have hr := isRoot_rt xs.length hs
  have hku : k < (turnL xs m).length := by rwa [turnL_len]
  have e1 := dftL_T (turnL xs m) (rt xs.length) k hku
  rw [turnL_len] at e1
  have e2 : Eqm (T xs.length (rt xs.length) (nth (turnL xs m)) k) (T xs.length (rt xs.length) (fun i => nth xs ((i + m) % xs.length)) k) :=
    T_eqm (rfl' _) (fun i hi => by rw [nth_turnL xs m i hi, turnAt_nat]; exact Eqm.mod _) k
  have e3 := T_turn hr (nth xs) m k
  have e4 : Eqm (bk xs.length ^ (m * k)) (pw (bk xs.length) (m % xs.length * k % xs.length)) := by
    refine Eqm.trans ?_ (pw_eqm _ _).symm
    refine Eqm.trans ?_ (hr.back.pow_mod _).symm
    rw [Int.pow_mul, Int.pow_mul]
    exact (hr.back.pow_mod m).symm.pow k
  refine eq_of_eqm (((e1.trans e2).trans e3).trans (((dftL_T xs _ k hk).symm.mul e4).trans (Eqm.mod _).symm)) ?_ ?_ (by omega) (by omega)
  · rw [nth_dftL _ _ _ hku]; exact (pt_range _ _).1
  · rw [nth_dftL _ _ _ hku]; exact (pt_range _ _).2

/-- A 1 at a place. -/
theorem dft_unit (n k : Nat) (z : Int) (hk : k < n) : dftL (unitL n k) z = powL (pw z k) n := by
  have hl : (unitL n k).length = n := by simp [unitL]
  apply ext_nth (by rw [dftL_len, powL_len, hl])
  intro j hj
  have hj' : j < n := by rwa [dftL_len, hl] at hj
  have e1 := dftL_T (unitL n k) z j (by rw [hl]; exact hj')
  rw [hl] at e1
  have e2 : Eqm (T n z (nth (unitL n k)) j) (1 * z ^ (k * j)) := by
    unfold T
    have h1 := S_one n k (fun i => nth (unitL n k) i * z ^ (i * j)) hk (fun i hi hik => by
      have : nth (unitL n k) i = 0 := by unfold unitL; rw [nth_ofFn _ _ _ hi, if_neg hik]
      show Eqm (nth (unitL n k) i * _) 0
      rw [this, Int.zero_mul]; exact rfl' _)
    have h2 : nth (unitL n k) k = 1 := by unfold unitL; rw [nth_ofFn _ _ _ hk, if_pos rfl]
    simp only [h2] at h1
    exact h1
  rw [Int.one_mul] at e2
  have e3 : nth (powL (pw z k) n) j = pw (pw z k) j := nth_ofFn _ _ _ hj'
  rw [e3]
  have e4 : Eqm (pw (pw z k) j) (z ^ (k * j)) := by
    refine (pw_eqm _ _).trans ?_
    rw [Int.pow_mul]
    exact (pw_eqm z k).pow j
  have hr := pw_range (pw z k) j
  refine eq_of_eqm ((e1.trans e2).trans e4.symm) ?_ ?_ hr.1 hr.2
  · rw [nth_dftL _ _ _ (by rw [hl]; exact hj')]; exact (pt_range _ _).1
  · rw [nth_dftL _ _ _ (by rw [hl]; exact hj')]; exact (pt_range _ _).2
#print axioms dft_unit
end Go.Proofs.Ytlgklkhijmeldaa
