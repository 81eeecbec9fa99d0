/- Trees: how two stand to each other, by the program. -/
import Derived.Test.YtncikklhchimdaaTreeF
import Derived.StillTailTactics
namespace Go.Proofs.Ytncikklhchimdaa
open Go.RowKit
set_option linter.unusedVariables false
set_option linter.unusedSimpArgs false
set_option maxRecDepth 100000

theorem sameW {P : Program} {f : FuncId} {args : Array Value} {w : World} {x : Ending} (h : Calls P f args w fun e w' => e = x ∧ w = w') : Calls P f args w fun e w' => e = x ∧ w' = w := h.mono fun _ _ ⟨h1, h2⟩ => ⟨h1, h2.symm⟩

theorem ref13_Same (t u : Tr) (k n : Int) (a : Option Addr) (m cap : Nat) (k' n' : Int) (a' : Option Addr) (m' cap' : Nat) (w : World) (F G : Nat → Prop) (hs : t.size ≤ 4194304) (hu : u.size ≤ 4194304) (hT : IsT w F k n a m cap t) (hU : IsT w G k' n' a' m' cap' u) :
    Calls Try.prog 30 #[.agg #[.int .i64 k, .int .i64 n, .slice a m cap], .agg #[.int .i64 k', .int .i64 n', .slice a' m' cap']] w fun e w' => e = .returned (.bool (decide (Tr.cmp t u = 0))) ∧ Below w.heap.size w w' := by
  have C1 : Hid (∀ W, Below w.heap.size w W → Calls Try.prog 77 #[.agg #[.int .i64 k, .int .i64 n, .slice a m cap], .agg #[.int .i64 k', .int .i64 n', .slice a' m' cap']] W fun e w' => e = .returned (.int .i64 (Tr.cmp t u)) ∧ Below W.heap.size W w') :=
    fun W hb => ref13_Cmp 4194304 (by omega) t u k n a m cap k' n' a' m' cap' W F G hs hu (hT.below hb) (hU.below hb)
  obtain ⟨C, hC⟩ : ∃ C, Tr.cmp t u = C := ⟨_, rfl⟩
  rw [hC] at C1 ⊢
  clear hT hU hC
  by_cases h : C = 0
  · subst h
    go_enter Try.func30, Try.ntmps30
    go_wp2_with fail
    refine (C1.out _ (((Below.refl _ _).alloc (Nat.le_refl _) _).alloc (by simp) _)).mono ?_; rintro e1 w1 ⟨rfl, hb1⟩
    have hb := chain (((Below.refl w.heap.size w).alloc (Nat.le_refl _) _).alloc (by simp) _) hb1
    clear hb1
    go_wp2_with fail
    go_ret
    exact ⟨by simp, hb⟩
  · have h1 : (C == 0) = false := by simp; omega
    have h2 : decide (C = 0) = false := by simp; omega
    go_enter Try.func30, Try.ntmps30
    go_wp2_with fail
    refine (C1.out _ (((Below.refl _ _).alloc (Nat.le_refl _) _).alloc (by simp) _)).mono ?_; rintro e1 w1 ⟨rfl, hb1⟩
    have hb := chain (((Below.refl w.heap.size w).alloc (Nat.le_refl _) _).alloc (by simp) _) hb1
    clear hb1
    go_wp2_with fail
    go_ret
    exact ⟨by simp [h, h1], hb⟩

theorem cmp_isNaN (x : Int) (w : World) : Calls Try.prog 107 #[.int .i64 x] w fun e w' => e = .returned (.bool false) ∧ w = w' := by
  go_enter Try.func107, Try.ntmps107
  go_wp2_with fail
  go_ret
  exact ⟨by simp, rfl⟩

theorem cmp_Compare (x y : Int) (w : World) : Calls Try.prog 93 #[.int .i64 x, .int .i64 y] w fun e w' => e = .returned (.int .i64 (cmpI x y)) ∧ w = w' := by
  by_cases h1 : x < y
  · have e : cmpI x y = -1 := by unfold cmpI; rw [if_pos h1]
    rw [e]
    clear e
    go_enter Try.func93, Try.ntmps93
    go_wp2_with (go_at_call 107; refine (cmp_isNaN _ _).mono ?_; rintro e w' ⟨rfl, rfl⟩)
    go_ret
    exact ⟨rfl, rfl⟩
  · by_cases h2 : y < x
    · have e : cmpI x y = 1 := by unfold cmpI; rw [if_neg h1, if_pos h2]
      have q1 : decide (x < y) = false := by simp; omega
      have q2 : decide (x > y) = true := by simp; omega
      rw [e]
      clear e
      go_enter Try.func93, Try.ntmps93
      go_wp2_with (go_at_call 107; refine (cmp_isNaN _ _).mono ?_; rintro e w' ⟨rfl, rfl⟩)
      go_ret
      exact ⟨rfl, rfl⟩
    · have e : cmpI x y = 0 := by unfold cmpI; rw [if_neg h1, if_neg h2]
      have q1 : decide (x < y) = false := by simp; omega
      have q2 : decide (x > y) = false := by simp; omega
      rw [e]
      clear e
      go_enter Try.func93, Try.ntmps93
      go_wp2_with (go_at_call 107; refine (cmp_isNaN _ _).mono ?_; rintro e w' ⟨rfl, rfl⟩)
      go_ret
      exact ⟨rfl, rfl⟩

theorem dropT (xs : List Int) (k : Nat) (h : k < xs.length) : xs.drop k = nth xs k :: xs.drop (k + 1) := by rw [List.drop_eq_getElem_cons h]; simp [nth, h]
/-- The first one of a row that is not 0. -/
def orL : List Int → Int
  | [] => 0
  | x :: xs => orI x (orL xs)
theorem orL_three (x y z : Int) : orL [x, y, z] = orI x (orI y z) := by
  simp only [orL]
  unfold orI
  split <;> (try split) <;> (try split) <;> first | rfl | omega

set_option maxHeartbeats 1000000 in
theorem cmp_Or (a : Option Addr) (n c : Nat) (xs : List Int) (w : World) (hx : Row .i64 w a xs) (hl : xs.length = n) (hn : n ≤ 4194304) :
    Calls Try.prog 92 #[.slice a n c] w fun e w' => e = .returned (.int .i64 (orL xs)) ∧ w = w' := by
  have HX := Lib.hid hx
  have HN := Lib.hid hl
  obtain ⟨V, hV⟩ : ∃ V, orL xs = V := ⟨_, rfl⟩
  rw [hV]
  have HV := Lib.hid hV
  clear hx hl hV
  go_enter Try.func92, Try.ntmps92
  go_wp2_with fail
  go_loopw [8] (fun i wr => ∃ j : Nat, j ≤ n ∧ i = .int .i64 j ∧ Hid (orL (xs.drop j) = V) ∧ w = wr) (fun i _ => n - (intOf i).toNat)
  case atStart => exact ⟨0, Nat.zero_le _, rfl, HV.out, rfl⟩
  case round =>
    obtain ⟨j, hj, rfl, HE, rfl⟩ := hrel
    by_cases hlt : j < n
    · obtain ⟨b, off, rfl, hc⟩ := HX.out.at (by rw [HN.out]; omega)
      have h1 := hc j (by rw [HN.out]; exact hlt)
      have hd := dropT xs j (by rw [HN.out]; exact hlt)
      have he := HE.out
      rw [hd] at he
      have he2 : orI (nth xs j) (orL (xs.drop (j + 1))) = V := he
      obtain ⟨x, hx⟩ : ∃ x, nth xs j = x := ⟨_, rfl⟩
      rw [hx] at h1 he2
      clear hc hd he hx HE
      by_cases h0 : x = 0
      · subst h0
        have HZ : Hid (orL (xs.drop (j + 1)) = V) := he2
        clear he2
        go_wp2_with fail
        go_roundw
        case rel => exact ⟨j + 1, by omega, by go_num, HZ.out, trivial⟩
        case measure => simp [intOf]; omega
      · have HZ : Hid (x = V) := by have := he2; unfold orI at this; rwa [if_neg h0] at this
        have h2 : (x != 0) = true := by simp; omega
        clear he2
        go_wp2_with fail
        go_ret
        exact ⟨by simp [HZ.out], rfl⟩
    · have hjn : j = n := by omega
      have he := HE.out
      rw [List.drop_eq_nil_of_le (by rw [HN.out]; omega)] at he
      have HZ : Hid (0 = V) := he
      clear he HE
      go_wp2_with fail
      go_ret
      exact ⟨by simp [← HZ.out], rfl⟩

/-- The slices of two rows of trees, side by side, where the same size. -/
theorem slices_CompareFunc (N : Nat) (IH : Hid (∀ (t u : Tr) (k n : Int) (a : Option Addr) (m cap : Nat) (k' n' : Int) (a' : Option Addr) (m' cap' : Nat) (w : World) (F G : Nat → Prop), t.size ≤ N → u.size ≤ 4194304 → IsT w F k n a m cap t → IsT w G k' n' a' m' cap' u →
    Calls Try.prog 95 #[.agg #[.int .i64 k, .int .i64 n, .slice a m cap], .agg #[.int .i64 k', .int .i64 n', .slice a' m' cap']] w fun e w' => e = .returned (.int .i64 (Tr.cmp t u)) ∧ Below w.heap.size w w'))
    (t u : Tr) (k n : Int) (a : Option Addr) (m cap : Nat) (k' n' : Int) (a' : Option Addr) (cap' : Nat) (w : World) (F G : Nat → Prop) (hs : t.size ≤ N + 1) (hsu : u.size ≤ 4194304) (hm : m ≤ 4194304) (hT : IsT w F k n a m cap t) (hU : IsT w G k' n' a' m cap' u) :
    Calls Try.prog 108 #[.slice a m cap, .slice a' m cap', .func (.func 95) #[] #[]] w fun e w' => e = .returned (.int .i64 (Tr.cmpL t.kids u.kids)) ∧ Below w.heap.size w w' := by
  have HT := Lib.hid hT
  have HU := Lib.hid hU
  have HS := Lib.hid hs
  have HSU := Lib.hid hsu
  obtain ⟨V, hV⟩ : ∃ V, Tr.cmpL t.kids u.kids = V := ⟨_, rfl⟩
  rw [hV]
  have HV := Lib.hid hV
  clear hT hU hs hsu hV
  go_enter Try.func108, Try.ntmps108
  go_wp2_with fail
  go_loopw [13] (fun i wr => ∃ j : Nat, j ≤ m ∧ i = .int .i64 j ∧ Hid (Tr.cmpL (t.kids.drop j) (u.kids.drop j) = V) ∧ Below w.heap.size w wr) (fun i _ => m - (intOf i).toNat)
  case atStart => exact ⟨0, Nat.zero_le _, rfl, HV.out, Below.refl _ _⟩
  case round =>
    obtain ⟨j, hj, rfl, HE, hbel⟩ := hrel
    by_cases hlt : j < m
    · obtain ⟨b, off, k2, n2, a2, m2, c2, rfl, hF, hbl, h0, h1, h2, hT'⟩ := (HT.out.below hbel).kid j hlt
      obtain ⟨b', off', k3, n3, a3, m3, c3, rfl, hF', hbl', h0', h1', h2', hU'⟩ := (HU.out.below hbel).kid j hlt
      have hj2 : j < t.kids.length := by rw [← HT.out.em]; exact hlt
      have hj3 : j < u.kids.length := by rw [← HU.out.em]; exact hlt
      have hst := Tr.cmpL_step t.kids u.kids j hj2 hj3
      have hsz' := Tr.size_kid t j hj2
      have hs1 : (Tr.kid t.kids j).size ≤ N := by have := HS.out; omega
      have hsu1 : (Tr.kid u.kids j).size ≤ 4194304 := by have := HSU.out; have := Tr.size_kid u j hj3; omega
      rw [HE.out] at hst
      obtain ⟨t', ht'⟩ : ∃ t', Tr.kid t.kids j = t' := ⟨_, rfl⟩
      obtain ⟨u', hu'⟩ : ∃ u', Tr.kid u.kids j = u' := ⟨_, rfl⟩
      rw [ht'] at hT' hst hs1
      rw [hu'] at hU' hst hsu1
      have HST := Lib.hid hst
      have CK : Hid (∀ W, Below wr.heap.size wr W → Calls Try.prog 95 #[.agg #[.int .i64 k2, .int .i64 n2, .slice a2 m2 c2], .agg #[.int .i64 k3, .int .i64 n3, .slice a3 m3 c3]] W fun e w' => e = .returned (.int .i64 (Tr.cmp t' u')) ∧ Below W.heap.size W w') :=
        fun W hb => IH.out t' u' k2 n2 a2 m2 c2 k3 n3 a3 m3 c3 W F G hs1 hsu1 (hT'.below hb) (hU'.below hb)
      obtain ⟨C, hC⟩ : ∃ C, Tr.cmp t' u' = C := ⟨_, rfl⟩
      rw [hC] at CK HST
      clear hT' hU' hst ht' hu' hC hs1 hsu1 hsz' hj2 hj3 hF hF' HE
      go_wp2_with fail
      refine (CK.out _ (((Below.refl _ _).alloc (Nat.le_refl _) _).alloc (by simp) _)).mono ?_; rintro e1 w1 ⟨rfl, hb1⟩
      have hb1' := chain (((Below.refl wr.heap.size wr).alloc (Nat.le_refl _) _).alloc (by simp) _) hb1
      clear hb1 h0 h1 h2 h0' h1' h2'
      by_cases hC0 : C = 0
      · subst hC0
        have HQ : Hid (Tr.cmpL (t.kids.drop (j + 1)) (u.kids.drop (j + 1)) = V) := by unfold Hid; rw [HST.out]; rfl
        go_wp2_with fail
        go_roundw
        case rel => exact ⟨j + 1, by omega, by go_num, HQ.out, chain hbel hb1'⟩
        case measure => simp [intOf]; omega
      · have HQ : Hid (V = C) := by unfold Hid; rw [HST.out]; unfold orI; rw [if_neg hC0]
        have hne : (C != 0) = true := by simp; omega
        go_wp2_with fail
        go_ret
        exact ⟨by simp [HQ.out], chain hbel hb1'⟩
    · have hjm : j = m := by omega
      have hz : V = 0 := by
        rw [← HE.out, List.drop_eq_nil_of_le (by rw [← HT.out.em]; omega)]; simp [Tr.cmpL]
      have HZ := Lib.hid hz
      clear hz HE
      go_wp2_with fail
      go_ret
      exact ⟨by simp [HZ.out], hbel⟩

set_option maxHeartbeats 2000000 in
theorem desc_Cmp (N : Nat) (hN : N ≤ 4194304) : ∀ (t u : Tr) (k n : Int) (a : Option Addr) (m cap : Nat) (k' n' : Int) (a' : Option Addr) (m' cap' : Nat) (w : World) (F G : Nat → Prop), t.size ≤ N → u.size ≤ 4194304 → IsT w F k n a m cap t → IsT w G k' n' a' m' cap' u →
    Calls Try.prog 95 #[.agg #[.int .i64 k, .int .i64 n, .slice a m cap], .agg #[.int .i64 k', .int .i64 n', .slice a' m' cap']] w fun e w' => e = .returned (.int .i64 (Tr.cmp t u)) ∧ Below w.heap.size w w' := by
  induction N with
  | zero => intro t u k n a m cap k' n' a' m' cap' w F G h; have := Tr.size_pos t; omega
  | succ N ih =>
    intro t u k n a m cap k' n' a' m' cap' w F G hs hsu hT hU
    have IH := Lib.hid (ih (by omega))
    clear ih
    have hm : m ≤ N := by
      have := Tr.len_le_sizeL t.kids
      rw [Tr.size_kids] at hs
      rw [hT.em]; omega
    have hm' : m' ≤ 4194304 := by
      have := Tr.len_le_sizeL u.kids
      rw [Tr.size_kids] at hsu
      rw [hU.em]; omega
    have CF : Hid (m = m' → ∀ W, Below w.heap.size w W → Calls Try.prog 108 #[.slice a m cap, .slice a' m' cap', .func (.func 95) #[] #[]] W fun e w' => e = .returned (.int .i64 (Tr.cmpL t.kids u.kids)) ∧ Below W.heap.size W w') := by
      intro e W hb
      subst e
      exact slices_CompareFunc N IH t u k n a m cap k' n' a' cap' W F G hs hsu (by omega) (hT.below hb) (hU.below hb)
    have fk := hT.fk
    have fn := hT.fn
    have fk' := hU.fk
    have fn' := hU.fn
    have HR : Hid (Tr.cmp t u = orI (cmpI k k') (orI (cmpI n n') (orI (cmpI m m') (Tr.cmpL t.kids u.kids)))) := by unfold Hid; rw [Tr.cmp_kids, hT.ek, hT.en, hT.em, hU.ek, hU.en, hU.em]
    have HI : Hid (cmpI (m : Int) (m' : Int) = 0 → m = m') := fun h => by have := cmpI_zero h; omega
    have CC0 : Hid (∀ W, Calls Try.prog 93 #[.int .i64 k, .int .i64 k'] W fun e w' => e = .returned (.int .i64 (cmpI k k')) ∧ W = w') := fun W => cmp_Compare _ _ _
    have CC1 : Hid (∀ W, Calls Try.prog 93 #[.int .i64 n, .int .i64 n'] W fun e w' => e = .returned (.int .i64 (cmpI n n')) ∧ W = w') := fun W => cmp_Compare _ _ _
    have CC2 : Hid (∀ W, Calls Try.prog 93 #[.int .i64 (m : Int), .int .i64 (m' : Int)] W fun e w' => e = .returned (.int .i64 (cmpI m m')) ∧ W = w') := fun W => cmp_Compare _ _ _
    have y0 := cmpI_bd k k'
    have y1 := cmpI_bd n n'
    have y2 := cmpI_bd (m : Int) (m' : Int)
    obtain ⟨x0, hx0⟩ : ∃ x, cmpI k k' = x := ⟨_, rfl⟩
    obtain ⟨x1, hx1⟩ : ∃ x, cmpI n n' = x := ⟨_, rfl⟩
    obtain ⟨x2, hx2⟩ : ∃ x, cmpI (m : Int) (m' : Int) = x := ⟨_, rfl⟩
    rw [hx0] at CC0 y0 HR
    rw [hx1] at CC1 y1 HR
    rw [hx2] at CC2 y2 HR HI
    obtain ⟨V, hV⟩ : ∃ V, Tr.cmpL t.kids u.kids = V := ⟨_, rfl⟩
    rw [hV] at HR CF
    have COr : Hid (∀ (W : World) (b : Nat), Row .i64 W (some ⟨b, 0, none⟩) [x0, x1, x2] → Calls Try.prog 92 #[.slice (some ⟨b, 0, none⟩) 3 3] W fun e w' => e = .returned (.int .i64 (orI x0 (orI x1 x2))) ∧ W = w') := fun W b hr => by
      have := cmp_Or (some ⟨b, 0, none⟩) 3 3 [x0, x1, x2] W hr rfl (by omega)
      rwa [orL_three] at this
    have hfr : ∀ x ∈ [x0, x1, x2], fits .i64 x := by
      intro x hx
      simp only [List.mem_cons, List.not_mem_nil, or_false] at hx
      rcases hx with rfl | rfl | rfl <;> exact fits_i64.2 (by omega)
    have HFR := Lib.hid hfr
    clear hT hU hs hsu IH hx0 hx1 hx2 hV hfr
    go_enter Try.func95, Try.ntmps95
    go_wp2_with fail
    obtain ⟨W0, hW0⟩ : ∃ W0, (w.alloc (.cells #[.int .i64 k, .int .i64 n, .slice a m cap] 24)).alloc (.cells #[.int .i64 k', .int .i64 n', .slice a' m' cap'] 24) = W0 := ⟨_, rfl⟩
    have hb0 : Below w.heap.size w W0 := by rw [← hW0]; exact ((Below.refl _ _).alloc (Nat.le_refl _) _).alloc (by simp) _
    have hba : W0.heap[w.heap.size]? = some (.cells #[.int .i64 k, .int .i64 n, .slice a m cap] 24 (0, 0)) := by rw [← hW0]; exact block_old (by simp) (block_new rfl)
    have hbb : W0.heap[w.heap.size + 1]? = some (.cells #[.int .i64 k', .int .i64 n', .slice a' m' cap'] 24 (0, 0)) := by rw [← hW0]; exact block_new (by simp)
    have hsz : w.heap.size + 1 < W0.heap.size := by rw [← hW0]; simp
    rw [hW0]
    clear hW0
    have a0 := block_cell hba 0
    have a1 := block_cell hba 1
    have a2 := block_cell hba 2
    have b0 := block_cell hbb 0
    have b1 := block_cell hbb 1
    have b2 := block_cell hbb 2
    simp at a0 a1 a2 b0 b1 b2
    have HBA := Lib.hid hba
    have HBB := Lib.hid hbb
    clear hba hbb
    refine wp_region_still_tail 17 (by kernel_rfl) (by kernel_rfl) ?_; simp only [List.take_succ_cons, List.take_zero, List.drop_succ_cons, List.drop_zero]
    repeat still_step
    still_call (sameW (CC0.out _))
    repeat still_step
    still_call (sameW (CC1.out _))
    repeat still_step
    still_call (sameW (CC2.out _))
    try refine wpStill_nil ?_
    have hrow : Row .i64 (W0.alloc (.cells #[.int .i64 x0, .int .i64 x1, .int .i64 x2] 3)).drew (some ⟨W0.heap.size, 0, none⟩) [x0, x1, x2] := (row_new .i64 W0 3 [x0, x1, x2] HFR.out (by simp)).below (Below.refl _ _).drew
    have HROW := Lib.hid hrow
    have hbR : Below w.heap.size w (W0.alloc (.cells #[.int .i64 x0, .int .i64 x1, .int .i64 x2] 3)).drew := (hb0.alloc hb0.size _).drew
    have HBR := Lib.hid hbR
    clear hrow hbR
    go_wp2_with fail
    refine (COr.out _ _ HROW.out).mono ?_; rintro e1 w1 ⟨rfl, rfl⟩
    obtain ⟨y, hy⟩ : ∃ y, orI x0 (orI x1 x2) = y := ⟨_, rfl⟩
    rw [hy]
    by_cases h0 : y = 0
    · have hz : x0 = 0 ∧ x1 = 0 ∧ x2 = 0 := by
        unfold orI at hy
        split at hy
        · rename_i e0
          split at hy
          · rename_i e1; exact ⟨e0, e1, by omega⟩
          · omega
        · omega
      have HV : Hid (Tr.cmp t u = V) := by unfold Hid; rw [HR.out, hz.1, hz.2.1, hz.2.2]; rfl
      have CFF := Lib.hid (CF.out (HI.out hz.2.2))
      subst h0
      have b0 : ((W0.alloc (.cells #[.int .i64 x0, .int .i64 x1, .int .i64 x2] 3)).drew).cell? ⟨w.heap.size, 2, none⟩ = some (.slice a m cap) := (cell_past W0 _ _ (by show w.heap.size < _; omega)).trans a2
      have b1' : ((W0.alloc (.cells #[.int .i64 x0, .int .i64 x1, .int .i64 x2] 3)).drew).cell? ⟨w.heap.size + 1, 2, none⟩ = some (.slice a' m' cap') := (cell_past W0 _ _ (by show w.heap.size + 1 < _; omega)).trans b2
      obtain ⟨W1, hW1⟩ : ∃ W1, (W0.alloc (.cells #[.int .i64 x0, .int .i64 x1, .int .i64 x2] 3)).drew = W1 := ⟨_, rfl⟩
      rw [hW1] at HBR b0 b1' ⊢
      clear hW1 hz hy HROW COr CC0 CC1 CC2 HR HI CF
      go_wp2_with fail
      refine (CFF.out _ HBR.out).mono ?_; rintro e2 w2 ⟨rfl, hb2⟩
      have hbe := chain HBR.out hb2
      clear hb2
      go_wp2_with fail
      go_ret
      exact ⟨by simp [HV.out], hbe⟩
    · have HV : Hid (Tr.cmp t u = y) := by
        unfold Hid; rw [HR.out, ← hy]
        unfold orI at hy ⊢
        repeat' split
        all_goals first | rfl | omega
      have hne : (y != 0) = true := by simp; omega
      clear hy
      go_wp2_with fail
      go_ret
      exact ⟨by simp [HV.out], HBR.out⟩

end Go.Proofs.Ytncikklhchimdaa
