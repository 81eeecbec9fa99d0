/- The law of two sides without a common divisor. -/
import Derived.Test.YtpehbgcbifgokaaPermF
namespace Go.Proofs.Ytpehbgcbifgokaa
open Go.RowKit
set_option linter.unusedVariables false
set_option linter.unusedSimpArgs false

theorem permGood_err (a b er : Int) (w : World) (hne : (er != 0) = true)
    (hc : ∀ w : World, Calls Try.prog 57 #[.int .i64 a, .int .i64 b] w fun e w' => e = .returned (.int .i64 er) ∧ Below w.heap.size w w') :
    Calls Try.prog 27 #[.int .i64 a, .int .i64 b] w fun e w' => e = .returned (.tuple #[.slice none 0 0, .int .i64 er]) ∧ Below w.heap.size w w' := by
  have HC := Lib.hid hc
  have hbel : Below w.heap.size w ((w.alloc (.cells #[.int .i64 a] 3)).alloc (.cells #[.int .i64 b] 3)) := ((Below.refl _ _).alloc (Nat.le_refl _) _).alloc (by simp) _
  have HBL := Lib.hid hbel
  have ca : ((w.alloc (.cells #[.int .i64 a] 3)).alloc (.cells #[.int .i64 b] 3)).cell? ⟨w.heap.size, 0, none⟩ = some (.int .i64 a) := by
    rw [cell_past _ _ _ (by simp)]; exact one_new _ _ _
  have cb : ((w.alloc (.cells #[.int .i64 a] 3)).alloc (.cells #[.int .i64 b] 3)).cell? ⟨w.heap.size + 1, 0, none⟩ = some (.int .i64 b) := cell_new (by simp)
  clear hc hbel
  go_enter Try.func27, Try.ntmps27
  go_wp2_with fail
  refine (HC.out _).mono ?_
  rintro e w1 ⟨rfl, hb1⟩
  have hbl : Below w.heap.size w w1 := HBL.out.trans (hb1.mono (by simp; omega))
  go_wp2_with fail
  go_ret2
  exact ⟨rfl, hbl⟩

theorem permCrt_err (a b er : Int) (w : World) (hne : (er != 0) = true)
    (hc : ∀ w : World, Calls Try.prog 57 #[.int .i64 a, .int .i64 b] w fun e w' => e = .returned (.int .i64 er) ∧ Below w.heap.size w w') :
    Calls Try.prog 28 #[.int .i64 a, .int .i64 b] w fun e w' => e = .returned (.tuple #[.slice none 0 0, .int .i64 er]) ∧ Below w.heap.size w w' := by
  have HC := Lib.hid hc
  clear hc
  go_enter Try.func28, Try.ntmps28
  go_wp2_with fail
  refine (HC.out _).mono ?_
  rintro e w1 ⟨rfl, hb1⟩
  go_wp2_with fail
  go_ret2
  exact ⟨rfl, hb1⟩

theorem refCheck_no (a b : Int) (w : World) (h : ¬ Sides a b) (ha : -9223372036854775808 ≤ a ∧ a ≤ 9223372036854775807) (hb : -9223372036854775808 ≤ b ∧ b ≤ 9223372036854775807) :
    Calls Try.prog 29 #[.int .i64 a, .int .i64 b] w fun e w' => e = .returned (.int .i64 3) ∧ w = w' := by
  have H := Lib.hid h
  clear h
  go_enter Try.func29, Try.ntmps29
  go_wp2_with fail
  refine (refSides_no _ _ _ H.out ha hb).mono ?_; rintro e w' ⟨rfl, rfl⟩
  go_wp2_with fail
  go_ret
  exact ⟨rfl, rfl⟩

theorem refCheck_yes (a b : Nat) (w : World) (h : Sides a b) (er : Int) (h0 : Nat.gcd a b = 1 → er = 0) (h9 : Nat.gcd a b ≠ 1 → er = 2) :
    Calls Try.prog 29 #[.int .i64 a, .int .i64 b] w fun e w' => e = .returned (.int .i64 er) ∧ w = w' := by
  have H := Lib.hid h
  obtain ⟨G, hG⟩ : ∃ G, Nat.gcd a b = G := ⟨_, rfl⟩
  rw [hG] at h0 h9
  have HG := Lib.hid hG
  obtain ⟨h1, h2, h3, h4, h5⟩ := h
  by_cases hg : G = 1
  · have her := h0 hg
    subst hg her
    clear h5 hG h0 h9
    go_enter Try.func29, Try.ntmps29
    go_wp2_with fail
    refine (refSides_yes _ _ _ H.out).mono ?_; rintro e w' ⟨rfl, rfl⟩
    go_wp2_with fail
    refine (refGcd (a + b) a b _ (Nat.le_refl _) (by omega) (by omega)).mono ?_; rintro e w' ⟨rfl, rfl⟩
    rw [HG.out]
    go_wp2_with fail
    go_ret
    exact ⟨rfl, rfl⟩
  · have her := h9 hg
    have hne : ((G : Int) != 1) = true := bdiff (by omega)
    subst her
    clear h5 hG hg h0 h9
    go_enter Try.func29, Try.ntmps29
    go_wp2_with fail
    refine (refSides_yes _ _ _ H.out).mono ?_; rintro e w' ⟨rfl, rfl⟩
    go_wp2_with fail
    refine (refGcd (a + b) a b _ (Nat.le_refl _) (by omega) (by omega)).mono ?_; rintro e w' ⟨rfl, rfl⟩
    rw [HG.out]
    go_wp2_with fail
    go_ret
    exact ⟨rfl, rfl⟩

/-- The next number that leaves the same by b. -/
theorem next_mod (a b n T : Nat) (hb : 0 < b) (hn : n ≤ T) (hm : n % b = T % b) (hne : n ≠ T) : n + b ≤ T := by
  obtain ⟨d, hd⟩ := dvd_sub_of b n T hm
  have h1 : T = n + b * d := by omega
  have h2 : d ≠ 0 := by rintro rfl; omega
  have h3 : b * 1 ≤ b * d := Nat.mul_le_mul_left b (by omega)
  omega

set_option maxHeartbeats 1600000 in
theorem refCrt (a b : Nat) (w : World) (h : Sides a b) (hg : Nat.gcd a b = 1) (hl : a * b ≤ 400) :
    Calls Try.prog 32 #[.int .i64 a, .int .i64 b] w (GivesRow .i64 (crtL a b) w) := by
  obtain ⟨i0, hi, hz0, hz1, hz2⟩ := info_parts info_int
  obtain ⟨h1, h2, h3, h4, h5⟩ := h
  have hw : IntKind.i64.wrap ((a : Int) * (b : Int)) = ((a * b : Nat) : Int) := by rw [← Int.natCast_mul]; exact IntWalk.i64_in _ (by omega)
  have hfits : ∀ x ∈ crtL a b, fits .i64 x := mapL_fits _ _ (fun k hk => (invOf_lt _ _ (crtF_lt a b) (crtF_inj a b hg) k hk).1) (by omega)
  have HB : Hid (∀ k, k < a * b → ∃ T, invOf (a * b) (crtF a b) k = T ∧ T < a * b ∧ T % a = k / b ∧ T % b = k % b) := fun k hk => by
    obtain ⟨e1, e2⟩ := invOf_lt _ _ (crtF_lt a b) (crtF_inj a b hg) k hk
    have e3 := crtF_at a b (invOf (a * b) (crtF a b) k) (by omega)
    rw [e2] at e3
    exact ⟨_, rfl, e1, e3.1.symm, e3.2.symm⟩
  have HI : Hid (∀ n T, n < a * b → T < a * b → n % a = T % a → n % b = T % b → n = T) := fun n T hn hT e1 e2 => mod_inj a b n T hg hn hT e1 e2
  have HL := Lib.hid (crtL_len a b)
  have HFT := Lib.hid hfits
  have ha0 : ((a : Int) == 0) = false := bno (by omega)
  have ha0' : ¬ (a : Int) = 0 := by omega
  have ha0'' : ¬ a = 0 := by omega
  have hb0 : ((b : Int) == 0) = false := bno (by omega)
  have hb0' : ¬ (b : Int) = 0 := by omega
  have hb0'' : ¬ b = 0 := by omega
  obtain ⟨N, hN⟩ : ∃ N, a * b = N := ⟨_, rfl⟩
  rw [hN] at hw hl
  have HN := Lib.hid hN
  clear hN h5 hfits hg
  go_enter Try.func32, Try.ntmps32
  go_wp2_with fail
  go_loopw [5, 6] (fun v i wr => ∃ k : Nat, k ≤ N ∧ i = .int .i64 k ∧ Own .i64 3 w wr v k (fun k => ((invOf N (crtF a b) k : Nat) : Int))) (fun _ i _ => N - (intOf i).toNat)
  case atStart => exact ⟨0, Nat.zero_le _, rfl, Own.nil _ _ _ _⟩
  case round =>
    obtain ⟨k, hk, rfl, hown⟩ := hrel
    by_cases hlt : k < N
    · obtain ⟨T, hT, hTN, hTa, hTb⟩ := HB.out k (by rw [HN.out]; exact hlt)
      rw [HN.out] at hT hTN
      obtain ⟨x, y, hx, hy⟩ : ∃ x y : Nat, k / b = x ∧ k % b = y := ⟨_, _, rfl, rfl⟩
      rw [hx] at hTa
      rw [hy] at hTb
      have hyT : y ≤ T := by rw [← hTb]; exact Nat.mod_le _ _
      have hyy : y % b = y := by rw [← hy]; exact Nat.mod_mod _ _
      have hxk : x ≤ k := by rw [← hx]; exact Nat.div_le_self _ _
      have e1 : (k : Int).tmod (b : Int) = (y : Int) := by rw [Int.tmod_eq_emod_of_nonneg (by omega), ← Int.natCast_emod, hy]
      have e1' : (k : Int) % (b : Int) = (y : Int) := by rw [← Int.natCast_emod, hy]
      have e2 : IntKind.i64.wrap ((k : Int).tdiv (b : Int)) = (x : Int) := by rw [Int.tdiv_eq_ediv_of_nonneg (by omega), ← Int.natCast_ediv, hx]; exact IntWalk.i64_in _ (by omega)
      have e2' : (k : Int) / (b : Int) = (x : Int) := by rw [← Int.natCast_ediv, hx]
      have e2w : IntKind.i64.wrap (x : Int) = (x : Int) := IntWalk.i64_in _ (by omega)
      have hk0 : (0 : Int) ≤ (k : Int) := by omega
      have hb1 : (1 : Int) ≤ (b : Int) := by omega
      have ha1 : (1 : Int) ≤ (a : Int) := by omega
      have HT := Lib.hid (And.intro hT (And.intro hTa hTb))
      have HY := Lib.hid hyy
      clear hx hy hT hTa hTb hyy
      go_wp2_with fail
      go_loopw [7] (fun n wq => ∃ m : Nat, m ≤ T ∧ n = .int .i64 m ∧ Hid (m % b = T % b) ∧ Own .i64 3 w wq u5 k (fun k => ((invOf N (crtF a b) k : Nat) : Int))) (fun n _ => T - (intOf n).toNat)
      case atStart => exact ⟨y, hyT, rfl, by unfold Hid; rw [HY.out, HT.out.2.2], hown⟩
      case round =>
        obtain ⟨m, hm, rfl, HM, hown⟩ := hrel
        obtain ⟨r, hr⟩ : ∃ r, m % a = r := ⟨_, rfl⟩
        have e3 : (m : Int).tmod (a : Int) = (r : Int) := by rw [Int.tmod_eq_emod_of_nonneg (by omega), ← Int.natCast_emod, hr]
        have e3' : (m : Int) % (a : Int) = (r : Int) := by rw [← Int.natCast_emod, hr]
        have hm0 : (0 : Int) ≤ (m : Int) := by omega
        by_cases hrx : r = x
        · have hbe : ((r : Int) != (x : Int)) = false := bfalse (by omega)
          have hmT : m = T := HI.out m T (by rw [HN.out]; omega) (by rw [HN.out]; omega) (by rw [hr, hrx, HT.out.2.1]) HM.out
          have HE := Lib.hid hmT
          clear hmT hr hrx
          go_wp2_with fail
          go_quiet (fail)
          have hown := hown.later (below_drewN (Below.refl _ _) nq)
          go_wp2_with (at_builtin; refine wpList_append_own _ rfl _ _ 35 rfl w.heap.size 3 i0 (.int .i64 0) 1 8 Try.underlying35 hi hz0 hz1 hz2 rfl (by decide) _ _ _ rfl (hown.own.alloc _) ⟨wr.heap.size, 0, none⟩ 1 1 [.int .i64 (m : Int)] rfl rfl (cell_one_new _ _ _) (one_cell _ _) (by unfold maxLen; omega) (by omega) (size_alloc_le hown.below _) ?_)
          intro v' w2 hown' hgrow _
          have hnext := hown.push (m : Int) (by rw [HT.out.1, HE.out]) hown' hgrow
          clear hown' hgrow
          go_wp2_with fail
          go_roundw
          case rel => exact ⟨k + 1, by omega, by go_num, hnext⟩
          case measure => simp [intOf]; omega
        · have hbe : ((r : Int) != (x : Int)) = true := bdiff (by omega)
          have hne : m ≠ T := by rintro rfl; exact hrx (hr.symm.trans HT.out.2.1)
          have hnx := next_mod a b m T (by omega) hm HM.out hne
          have e4 : IntKind.i64.wrap ((m : Int) + (b : Int)) = ((m + b : Nat) : Int) := by rw [← Int.natCast_add]; exact IntWalk.i64_in _ (by omega)
          have HMB : Hid ((m + b) % b = T % b) := by unfold Hid; rw [Nat.add_mod_right]; exact HM.out
          clear hr hrx
          go_wp2_with fail
          go_quiet (fail)
          go_wp2_with fail
          go_roundw
          case rel => exact ⟨m + b, hnx, rfl, HMB, hown.later (by first | exact below_drewN (Below.refl _ _) _ | exact (Below.refl _ _).drew)⟩
          case measure => simp [intOf]; omega
    · have hres := hown.gives (xs := crtL a b) (by rw [HL.out, HN.out]; omega) HFT.out (fun i hi => by unfold crtL; rw [nth_mapL _ _ _ (by rw [HN.out]; omega), HN.out]) (by omega)
      clear hown
      go_wp2_with fail
      go_ret
      exact hres

set_option maxHeartbeats 800000 in
/-- In an order each number is there once. -/
theorem refHas_perm (a : Option Addr) (n cap : Nat) (p : List Int) (m : Nat) (w : World) (hx : Row .i64 w a p) (hn : p.length = n) (hl : n ≤ 16777216) (hp : IsPerm p) (hm : m < n) :
    Calls Try.prog 61 #[.slice a n cap, .int .i64 m] w fun e w' => e = .returned (.int .i64 1) ∧ w = w' := by
  subst hn
  have HX := Lib.hid hx
  have HP := Lib.hid hp
  clear hx hp
  go_enter Try.func61, Try.ntmps61
  go_wp2_with fail
  go_loopw [5, 6] (fun c i wr => ∃ (k : Nat) (z : Int), k ≤ p.length ∧ i = .int .i64 k ∧ c = .int .i64 z ∧ Hid (z = among p k m) ∧ 0 ≤ z ∧ z ≤ 1 ∧ w = wr) (fun _ i _ => p.length - (intOf i).toNat)
  case atStart => exact ⟨0, 0, Nat.zero_le _, rfl, rfl, (among_zero p m).symm, by omega, by omega, rfl⟩
  case round =>
    obtain ⟨k, z, hk, rfl, rfl, HZ, hz0, hz1, rfl⟩ := hrel
    by_cases hlt : k < p.length
    · obtain ⟨b, off, rfl, hc⟩ := HX.out.at (by omega)
      have hck := hc k hlt
      have g1 : (0 : Int) ≤ (k : Int) := by omega
      have g2 : (k : Int) < (p.length : Int) := by omega
      by_cases he : nth p k = m
      · have hzz : z = 0 := by rw [HZ.out]; exact among_not p k m (fun i hik e => HP.out.2 i k hik hlt (by rw [e, he]))
        have hnew := among_new p k m he
        have HNW := Lib.hid hnew
        subst hzz
        rw [he] at hck
        clear hc he hnew
        go_wp2_with fail
        go_roundw
        case rel => exact ⟨k + 1, 1, by omega, by go_num, rfl, HNW.out.symm, by omega, by omega, trivial⟩
        case measure => simp [intOf]; omega
      · have hbe : (nth p k == (m : Int)) = false := bno he
        have hold : Hid (z = among p (k + 1) m) := by unfold Hid; rw [among_old p k m he]; exact HZ.out
        clear hc he
        go_wp2_with fail
        go_roundw
        case rel => exact ⟨k + 1, z, by omega, by go_num, rfl, hold, hz0, hz1, trivial⟩
        case measure => simp [intOf]; omega
    · have hkp : k = p.length := by omega
      have hz1 : z = 1 := by
        obtain ⟨i, hi, e⟩ := Fld.onto p.length (fun i => (nth p i).toNat) (fun i hi => by have := HP.out.1 i hi; omega) (fun i j hij hj e => by
          have h1 := HP.out.1 i (by omega); have h2 := HP.out.1 j hj
          exact HP.out.2 i j hij hj (by omega)) m hm
        rw [HZ.out]
        unfold among
        rw [if_pos ⟨i, by omega, by have := HP.out.1 i hi; omega⟩]
      subst hz1
      clear hkp
      go_wp2_with fail
      go_ret
      exact ⟨rfl, rfl⟩

set_option maxHeartbeats 400000 in
theorem refRight_yes (a : Option Addr) (n cap : Nat) (p : List Int) (w : World) (hx : Row .i64 w a p) (hn : p.length = n) (hl : n ≤ 16777216) (hp : IsPerm p) :
    Calls Try.prog 33 #[.slice a n cap] w fun e w' => e = .returned (.bool true) ∧ w = w' := by
  have HH : Hid (∀ m, m < n → Calls Try.prog 61 #[.slice a n cap, .int .i64 m] w fun e w' => e = .returned (.int .i64 1) ∧ w = w') := fun m hm => refHas_perm a n cap p m w hx hn hl hp hm
  clear hx hp hn
  go_enter Try.func33, Try.ntmps33
  go_wp2_with fail
  go_loopw [3] (fun i wr => ∃ (k : Nat), k ≤ n ∧ i = .int .i64 k ∧ w = wr) (fun i _ => n - (intOf i).toNat)
  case atStart => exact ⟨0, Nat.zero_le _, rfl, rfl⟩
  case round =>
    obtain ⟨k, hk, rfl, rfl⟩ := hrel
    by_cases hlt : k < n
    · go_wp2_with fail
      refine (HH.out k hlt).mono ?_; rintro e w' ⟨rfl, rfl⟩
      go_wp2_with fail
      go_roundw
      case rel => exact ⟨k + 1, by omega, by go_num, trivial⟩
      case measure => simp [intOf]; omega
    · go_wp2_with fail
      go_ret
      exact ⟨rfl, rfl⟩
end Go.Proofs.Ytpehbgcbifgokaa
