/- Digits: the reference's product; one number turned; the order. -/
import Derived.Test.YtpehbgcbifgokaaDigA
namespace Go.Proofs.Ytpehbgcbifgokaa
open Go.RowKit
set_option linter.unusedVariables false
set_option linter.unusedSimpArgs false

theorem great_div2 (R n : Nat) (hn : 1 ≤ n) : 16777216 / n < R ↔ 16777216 < R * n := by rw [Nat.div_lt_iff_lt_mul (by omega)]

set_option maxHeartbeats 1000000 in
theorem ref_product (a : Option Addr) (n c : Nat) (xs : List Int) (w : World) (hx : Row .i64 w a xs) (hxl : xs.length = n) :
    Calls Try.prog 52 #[.slice a n c] w fun e w' => e = .returned (.int .i64 (prN xs 1 : Nat)) ∧ Below w.heap.size w w' := by
  have HX := Lib.hid hx
  have HN := Lib.hid hxl
  have hl := hx.len
  rw [hxl] at hl
  obtain ⟨V, hV⟩ : ∃ V, prN xs 1 = V := ⟨_, rfl⟩
  rw [hV]
  have HV := Lib.hid hV
  clear hx hxl hV
  go_enter Try.func52, Try.ntmps52
  go_wp2_with fail
  go_loopw [3, 4] (fun v i wr => ∃ k m : Nat, k ≤ n ∧ i = .int .i64 k ∧ v = .int .i64 m ∧ 1 ≤ m ∧ m ≤ 16777216 ∧ Hid (prN (xs.drop k) m = V) ∧ Below w.heap.size w wr) (fun _ i _ => n - (intOf i).toNat)
  case atStart => exact ⟨0, 1, Nat.zero_le _, rfl, rfl, by omega, by omega, HV.out, Below.refl _ _⟩
  case round =>
    obtain ⟨k, m, hk, rfl, rfl, hm1, hm2, HP, hbel⟩ := hrel
    by_cases hlt : k < n
    · obtain ⟨b, off, rfl, hc⟩ := (HX.out.below hbel).at (by rw [HN.out]; omega)
      have hck := hc k (by rw [HN.out]; exact hlt)
      have hd := drop_nth xs k (by rw [HN.out]; exact hlt)
      have hf := fits_i64.1 (HX.out.wf _ (nth_mem (show k < xs.length by rw [HN.out]; exact hlt)))
      have hp := HP.out
      rw [hd] at hp
      obtain ⟨r, hr⟩ : ∃ r, nth xs k = r := ⟨_, rfl⟩
      rw [hr] at hck hf hp
      obtain ⟨Q, hQ⟩ : ∃ Q, 16777216 / m = Q := ⟨_, rfl⟩
      have q1 : (16777216 : Int) / (m : Int) = (Q : Int) := by rw [← hQ]; rfl
      have q2 : Int.tdiv 16777216 (m : Int) = (Q : Int) := by rw [Int.tdiv_eq_ediv_of_nonneg (by omega)]; exact q1
      have q3 : ((m : Int) == 0) = false := by simp; omega
      have q4 : Q ≤ 16777216 := by rw [← hQ]; exact Nat.div_le_self _ _
      have q5 : IntKind.i64.wrap (Q : Int) = (Q : Int) := IntWalk.i64_in _ (by omega)
      have q6 : ¬ (m : Int) = 0 := by omega
      have q7 : ¬ m = 0 := by omega
      have g1 : (0 : Int) ≤ (k : Int) := by omega
      have g2 : (k : Int) < (n : Int) := by omega
      clear hc hd hr HP
      by_cases h2 : r < 2
      · rw [prN_small r _ _ h2] at hp
        have HZ := Lib.hid hp
        clear hp hQ
        go_wp2_with fail
        go_quiet (fail)
        have hb := below_drewN (Below.refl wr.heap.size wr) nq
        obtain ⟨w1, hw1⟩ : ∃ w1, wr.drewN nq = w1 := ⟨_, rfl⟩
        rw [hw1] at hb ⊢
        clear hw1
        go_wp2_with fail
        go_ret
        exact ⟨by simp [← HZ.out], chain hbel hb⟩
      · obtain ⟨R, rfl⟩ := Int.eq_ofNat_of_zero_le (show 0 ≤ r by omega)
        have hg := great_div2 R m hm1
        rw [hQ] at hg
        clear hQ
        by_cases h4 : Q < R
        · rw [prN_great R _ _ (hg.1 h4)] at hp
          have HZ := Lib.hid hp
          have h4' : (Q : Int) < (R : Int) := by omega
          clear hp hg
          go_wp2_with fail
          go_quiet (fail)
          have hb := below_drewN (Below.refl wr.heap.size wr) nq
          obtain ⟨w1, hw1⟩ : ∃ w1, wr.drewN nq = w1 := ⟨_, rfl⟩
          rw [hw1] at hb ⊢
          clear hw1
          go_wp2_with fail
          go_ret
          exact ⟨by simp [← HZ.out], chain hbel hb⟩
        · have h5 : R * m ≤ 16777216 := by
            rcases Nat.lt_or_ge 16777216 (R * m) with h | h
            · exact absurd (hg.2 h) h4
            · exact h
          rw [prN_step R _ _ (by omega) h5] at hp
          obtain ⟨X, hX⟩ : ∃ X, m * R = X := ⟨_, rfl⟩
          have hX1 : (m : Int) * (R : Int) = (X : Int) := by rw [← hX, Int.natCast_mul]
          have hX2 : X ≤ 16777216 := by rw [← hX, Nat.mul_comm]; exact h5
          have hX3 : 1 ≤ X := by rw [← hX]; exact Nat.mul_pos hm1 (by omega)
          rw [hX] at hp
          have HZ := Lib.hid hp
          have h4' : ¬ (Q : Int) < (R : Int) := by omega
          clear hp hX h5 hg
          go_wp2_with fail
          go_quiet (fail)
          have hb := below_drewN (Below.refl wr.heap.size wr) nq
          have hck := (hb.cell (World.block_lt_of_cell? _ _ hck)).trans hck
          obtain ⟨w1, hw1⟩ : ∃ w1, wr.drewN nq = w1 := ⟨_, rfl⟩
          rw [hw1] at hb hck ⊢
          clear hw1
          go_wp2_with fail
          go_roundw
          case rel => exact ⟨k + 1, X, by omega, by go_num, rfl, hX3, hX2, HZ.out, chain hbel hb⟩
          case measure => simp [intOf]; omega
    · have hkn : k = n := by omega
      have hp := HP.out
      rw [List.drop_eq_nil_of_le (by rw [HN.out]; omega)] at hp
      have HZ : Hid (m = V) := hp
      clear hp HP
      go_wp2_with fail
      go_ret
      exact ⟨by simp [HZ.out], hbel⟩

/-! ### One number turned -/
def natL (rs : List Nat) : List Int := rs.map fun r : Nat => (r : Int)
theorem natL_len (rs : List Nat) : (natL rs).length = rs.length := by simp [natL]
theorem nth_natL (rs : List Nat) (k : Nat) (h : k < rs.length) : nth (natL rs) k = (rs[k] : Nat) := by simp [natL, nth, h]

set_option maxHeartbeats 1000000 in
theorem perm_turned (x : Nat) (a : Option Addr) (n c : Nat) (rs : List Nat) (w : World) (hx : Row .i64 w a (natL rs)) (hxl : rs.length = n) (h2 : ∀ r ∈ rs, 2 ≤ r) (hp : pdN rs ≤ 16777216) (hx2 : x ≤ 16777216) :
    Calls Try.prog 73 #[.int .i64 x, .slice a n c] w fun e w' => e = .returned (.int .i64 (tn rs x 0 : Nat)) ∧ w = w' := by
  have HX := Lib.hid hx
  have HN := Lib.hid hxl
  have H2 := Lib.hid h2
  have hl := hx.len
  rw [natL_len, hxl] at hl
  have HB : Hid (tn rs x 0 ≤ 16777216) := Nat.le_trans (Nat.le_of_lt (tn_lt rs h2 x)) hp
  obtain ⟨V, hV⟩ : ∃ V, tn rs x 0 = V := ⟨_, rfl⟩
  rw [hV] at HB ⊢
  have HV := Lib.hid hV
  clear hx hxl hV h2 hp
  go_enter Try.func73, Try.ntmps73
  go_wp2_with fail
  go_loopw [0, 5, 10] (fun u v i wr => ∃ k m o : Nat, k ≤ n ∧ i = .int .i64 k ∧ u = .int .i64 m ∧ v = .int .i64 o ∧ m ≤ 16777216 ∧ o ≤ 16777216 ∧ Hid (tn (rs.drop k) m o = V) ∧ w = wr) (fun _ _ i _ => n - (intOf i).toNat)
  case atStart => exact ⟨0, x, 0, Nat.zero_le _, rfl, rfl, rfl, hx2, by omega, HV.out, rfl⟩
  case round =>
    obtain ⟨k, m, o, hk, rfl, rfl, rfl, hm, ho, HP, rfl⟩ := hrel
    by_cases hlt : k < n
    · have hkl : k < rs.length := by rw [HN.out]; exact hlt
      obtain ⟨b, off, rfl, hc⟩ := HX.out.at (by rw [natL_len]; omega)
      have hck := hc k (by rw [natL_len]; exact hkl)
      rw [nth_natL _ _ hkl] at hck
      have hR := H2.out _ (List.getElem_mem hkl)
      have hd : rs.drop k = rs[k] :: rs.drop (k + 1) := List.drop_eq_getElem_cons hkl
      have hp := HP.out
      rw [hd] at hp
      have hdl : ∀ r ∈ rs.drop (k + 1), 2 ≤ r := fun r hr => H2.out r (List.mem_of_mem_drop hr)
      obtain ⟨R, hRR⟩ : ∃ R, rs[k] = R := ⟨_, rfl⟩
      rw [hRR] at hck hR hp
      have hp2 : tn (rs.drop (k + 1)) (m / R) (o * R + m % R) = V := hp
      have hbd : o * R + m % R ≤ 16777216 := by
        have h1 := tn_out (rs.drop (k + 1)) (m / R) (o * R + m % R)
        have h2 := pdN_pos _ hdl
        have h3 : o * R + m % R ≤ (o * R + m % R) * pdN (rs.drop (k + 1)) := Nat.le_mul_of_pos_right _ h2
        have := HB.out
        omega
      obtain ⟨X, hX⟩ : ∃ X, o * R = X := ⟨_, rfl⟩
      obtain ⟨Y, hY⟩ : ∃ Y, m % R = Y := ⟨_, rfl⟩
      obtain ⟨Z, hZ⟩ : ∃ Z, m / R = Z := ⟨_, rfl⟩
      rw [hX, hY] at hbd hp2
      rw [hZ] at hp2
      have hX1 : (o : Int) * (R : Int) = (X : Int) := by rw [← hX, Int.natCast_mul]
      have hY1 : (m : Int) % (R : Int) = (Y : Int) := by rw [← hY, Int.natCast_emod]
      have hZ1 : (m : Int) / (R : Int) = (Z : Int) := by rw [← hZ, Int.natCast_ediv]
      have hZ2 : Z ≤ 16777216 := by rw [← hZ]; exact Nat.le_trans (Nat.div_le_self _ _) hm
      have q3 : ((R : Int) == 0) = false := by simp; omega
      have HZ := Lib.hid hp2
      clear hX hY hZ hp hp2 hd hdl hc hRR HP
      go_wp2_with fail
      go_roundw
      case rel => exact ⟨k + 1, Z, X + Y, by omega, by go_num, rfl, by go_num, hZ2, hbd, HZ.out, trivial⟩
      case measure => simp [intOf]; omega
    · have hkn : k = n := by omega
      have hp := HP.out
      rw [List.drop_eq_nil_of_le (by rw [HN.out]; omega)] at hp
      have HZ : Hid (o = V) := hp
      clear hp HP
      go_wp2_with fail
      go_ret
      exact ⟨by simp [HZ.out], rfl⟩

theorem perm_Digits_no (a : Option Addr) (n c : Nat) (xs : List Int) (w : World) (hx : Row .i64 w a xs) (hxl : xs.length = n) (h0 : prN xs 1 = 0) :
    Calls Try.prog 53 #[.slice a n c] w fun e w' => e = .returned (.tuple #[.slice none 0 0, .int .i64 3]) ∧ w = w' := by
  have C1 : Hid (Calls Try.prog 72 #[.slice a n c] w fun e w' => e = .returned (.int .i64 0) ∧ w = w') := by
    have := perm_product a n c xs w hx hxl
    rw [h0] at this
    exact this
  clear hx hxl h0
  go_enter Try.func53, Try.ntmps53
  go_wp2_with fail
  refine C1.out.mono ?_; rintro e w' ⟨rfl, rfl⟩
  go_wp2_with fail
  go_ret2
  exact ⟨rfl, rfl⟩

set_option maxHeartbeats 1000000 in
theorem perm_Digits (a : Option Addr) (n c N : Nat) (rs : List Nat) (w : World) (hx : Row .i64 w a (natL rs)) (hxl : rs.length = n) (h2 : ∀ r ∈ rs, 2 ≤ r) (hN : prN (natL rs) 1 = N) (hp : pdN rs = N) (hM : N ≤ 16777216) (hN0 : 1 ≤ N) :
    Calls Try.prog 53 #[.slice a n c] w (GivesRowE .i64 (digL rs) 0 w) := by
  obtain ⟨i0, hi, hz0, hz1, hz2⟩ := info_parts info_int
  have C1 : Hid (Calls Try.prog 72 #[.slice a n c] w fun e w' => e = .returned (.int .i64 N) ∧ w = w') := by
    have := perm_product a n c (natL rs) w hx (by rw [natL_len]; exact hxl)
    rw [hN] at this
    exact this
  have HX := Lib.hid hx
  have C2 : Hid (∀ (k : Nat) (wr : World), k < N → Below w.heap.size w wr → Calls Try.prog 73 #[.int .i64 k, .slice a n c] wr fun e w' => e = .returned (.int .i64 (tn rs k 0 : Nat)) ∧ wr = w') := fun k wr hk hb => perm_turned k a n c rs wr (hx.below hb) hxl h2 (by omega) (by omega)
  have HDL : Hid ((digL rs).length = N) := (digL_len rs).trans hp
  have HND : Hid (∀ k, k < N → nth (digL rs) k = (tn rs k 0 : Nat)) := fun k hk => nth_digL rs k (by omega)
  have HTB : Hid (∀ k, tn rs k 0 < N) := fun k => by rw [← hp]; exact tn_lt rs h2 k
  have HDF : Hid (∀ x ∈ digL rs, fits .i64 x) := fun x hx => by
    obtain ⟨i, _, rfl⟩ := List.mem_map.1 hx
    have := HTB.out i
    exact fits_i64.2 (by omega)
  have q3 : ((N : Int) == 0) = false := by simp; omega
  clear hx hxl h2 hN hp
  go_enter Try.func53, Try.ntmps53
  go_wp2_with fail
  refine C1.out.mono ?_; rintro e w' ⟨rfl, rfl⟩
  go_wp2_with (at_make; refine wpList_make_full _ rfl _ _ 35 rfl w.heap.size 3 i0 (.int .i64 0) 1 Try.underlying35 hi hz0 hz1 .i64 .i64 N N N rfl rfl rfl rfl (by rw [hz2]; omega) (by unfold maxLen; omega) (Nat.le_refl _) ?_)
  intro w2 hown0 hgrow0
  have hown := Own.made hown0 hgrow0
  clear hown0 hgrow0
  go_wp2_with fail
  go_loopw [14] (fun i wr => ∃ k : Nat, k ≤ N ∧ i = .int .i64 k ∧ OwnAt .i64 3 w wr w.heap.size N (fun j => if j < k then nth (digL rs) j else 0)) (fun i _ => N - (intOf i).toNat)
  case atStart => exact ⟨0, Nat.zero_le _, rfl, by simpa using hown⟩
  case round =>
    obtain ⟨k, hk, rfl, hown⟩ := hrel
    by_cases hlt : k < N
    · have hcell := hown.cell k hlt
      rw [if_neg (Nat.lt_irrefl k)] at hcell
      have hfz := hown.free k
      obtain ⟨t, ht⟩ : ∃ t, tn rs k 0 = t := ⟨_, rfl⟩
      have CT := C2.out k wr hlt hown.below
      have hv := HND.out k hlt
      rw [ht] at CT hv
      have CT := Lib.hid CT
      have hnext := hown.store k hlt (t : Int) (f' := fun j => if j < k + 1 then nth (digL rs) j else 0) (by rw [if_pos (by omega)]; exact hv) (fun j _ hj => by
        by_cases h : j < k
        · rw [if_pos h, if_pos (by omega)]
        · rw [if_neg h, if_neg (by omega)])
      have HNX := Lib.hid hnext
      clear hown hnext ht hv
      go_wp2_with fail
      refine CT.out.mono ?_; rintro e w' ⟨rfl, rfl⟩
      go_wp2_with fail
      go_roundw
      case rel => exact ⟨k + 1, by omega, by go_num, HNX.out⟩
      case measure => simp [intOf]; omega
    · have hkn : k = N := by omega
      obtain ⟨a2, cap2, he, hr2, hcap2, hb2⟩ := hown.gives (xs := digL rs) HDL.out HDF.out (fun i hi => by rw [if_pos (by omega)]) (by omega)
      simp only [Ending.returned.injEq, Value.slice.injEq] at he
      obtain ⟨rfl, hx1, rfl⟩ := he
      rw [HDL.out] at hcap2
      have HR := Lib.hid hr2
      clear hown hr2 hx1
      go_wp2_with fail
      go_ret2
      exact ⟨some ⟨w.heap.size, 0, none⟩, N, by simp [HDL.out], HR.out, by rw [HDL.out]; exact hcap2, hb2⟩
end Go.Proofs.Ytpehbgcbifgokaa
