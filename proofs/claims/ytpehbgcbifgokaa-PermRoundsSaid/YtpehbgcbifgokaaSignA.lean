/- The reference's number of pairs that stand the other way round. -/
import Derived.Test.YtpehbgcbifgokaaSignN
import Derived.Test.YtpehbgcbifgokaaPermO
namespace Go.Proofs.Ytpehbgcbifgokaa
open Go.RowKit Sm
set_option linter.unusedVariables false
set_option linter.unusedSimpArgs false

def pf (p : List Int) (i : Nat) : Nat := (nth p i).toNat

set_option maxHeartbeats 1000000 in
theorem ref_Turns (a : Option Addr) (n c : Nat) (p : List Int) (w : World) (hx : Row .i64 w a p) (hn : p.length = n) (hl : n ≤ 60) (hp : IsPerm p) :
    Calls Try.prog 47 #[.slice a n c] w fun e w' => ∃ t : Nat, e = .returned (.int .i64 t) ∧ (t : Int) = turns n (pf p) ∧ t ≤ 3600 ∧ Below w.heap.size w w' := by
  have HX := Lib.hid hx
  have HN := Lib.hid hn
  have HP := Lib.hid hp
  clear hx hn hp
  go_enter Try.func47, Try.ntmps47
  go_wp2_with fail
  go_loopw [3, 4] (fun v i wr => ∃ k t : Nat, k ≤ n ∧ i = .int .i64 k ∧ v = .int .i64 t ∧ t ≤ 60 * k ∧ Hid ((t : Int) = H k (tw (pf p))) ∧ Below w.heap.size w wr) (fun _ i _ => n - (intOf i).toNat)
  case atStart => exact ⟨0, 0, Nat.zero_le _, rfl, rfl, by omega, rfl, Below.refl _ _⟩
  case round =>
    obtain ⟨k, t, hk, rfl, rfl, ht, HT, hbel⟩ := hrel
    by_cases hlt : k < n
    · have HB := Lib.hid hbel
      clear hbel
      obtain ⟨wo, hwo⟩ : ∃ wo : World, wo = wr := ⟨_, rfl⟩
      subst hwo
      go_wp2_with fail
      go_loopw [3, 5] (fun v i wr => ∃ j u : Nat, j ≤ k ∧ i = .int .i64 j ∧ v = .int .i64 u ∧ u ≤ 60 * k + j ∧ Hid ((u : Int) = H k (tw (pf p)) + S j (fun j => tw (pf p) k j)) ∧ Below w.heap.size w wr) (fun _ i _ => k - (intOf i).toNat)
      case atStart => exact ⟨0, t, Nat.zero_le _, rfl, rfl, by omega, by unfold Hid; rw [HT.out]; simp [S], HB.out⟩
      case round =>
        obtain ⟨j, u, hj, rfl, rfl, hu, HU, hbel⟩ := hrel
        by_cases hjk : j < k
        · obtain ⟨b, off, rfl, hc⟩ := (HX.out.below hbel).at (by rw [HN.out]; omega)
          have h1 := hc j (by rw [HN.out]; omega)
          have h2 := hc k (by rw [HN.out]; omega)
          have r1 := HP.out.1 j (by rw [HN.out]; omega)
          have r2 := HP.out.1 k (by rw [HN.out]; omega)
          have e1 : S (j + 1) (fun j => tw (pf p) k j) = S j (fun j => tw (pf p) k j) + tw (pf p) k j := rfl
          have e2 : tw (pf p) k j = if nth p k < nth p j then 1 else 0 := by
            unfold tw pf
            by_cases h : nth p k < nth p j
            · rw [if_pos h, if_pos (by omega)]
            · rw [if_neg h, if_neg (by omega)]
          have HE : Hid (S (j + 1) (fun j => tw (pf p) k j) = S j (fun j => tw (pf p) k j) + if nth p k < nth p j then 1 else 0) := by unfold Hid; rw [e1, e2]
          obtain ⟨x, hx⟩ : ∃ x, nth p j = x := ⟨_, rfl⟩
          obtain ⟨y, hy⟩ : ∃ y, nth p k = y := ⟨_, rfl⟩
          rw [hx] at h1 r1 HE
          rw [hy] at h2 r2 HE
          have g1 : (0 : Int) ≤ (j : Int) := by omega
          have g2 : (j : Int) < (n : Int) := by omega
          have g3 : (0 : Int) ≤ (k : Int) := by omega
          have g4 : (k : Int) < (n : Int) := by omega
          have hb60 : u ≤ 3660 := by omega
          clear hc e1 e2 hx hy
          by_cases hyx : y < x
          · have HV : Hid (((u + 1 : Nat) : Int) = H k (tw (pf p)) + S (j + 1) (fun j => tw (pf p) k j)) := by
              unfold Hid; rw [HE.out, if_pos hyx, ← Int.add_assoc, ← HU.out]; rfl
            clear HU HE
            go_wp2_with fail
            go_quiet (fail)
            have hb := below_drewN (Below.refl wr.heap.size wr) nq
            obtain ⟨w1, hw1⟩ : ∃ w1, wr.drewN nq = w1 := ⟨_, rfl⟩
            rw [hw1] at hb ⊢
            clear hw1
            go_wp2_with fail
            go_roundw
            case rel => exact ⟨j + 1, u + 1, by omega, by go_num, by go_num, by omega, HV.out, chain hbel hb⟩
            case measure => simp [intOf]; omega
          · have HV : Hid ((u : Int) = H k (tw (pf p)) + S (j + 1) (fun j => tw (pf p) k j)) := by
              unfold Hid; rw [HE.out, if_neg hyx, Int.add_zero, ← HU.out]
            clear HU HE
            go_wp2_with fail
            go_quiet (fail)
            have hb := below_drewN (Below.refl wr.heap.size wr) nq
            obtain ⟨w1, hw1⟩ : ∃ w1, wr.drewN nq = w1 := ⟨_, rfl⟩
            rw [hw1] at hb ⊢
            clear hw1
            go_wp2_with fail
            go_roundw
            case rel => exact ⟨j + 1, u, by omega, by go_num, rfl, by omega, HV.out, chain hbel hb⟩
            case measure => simp [intOf]; omega
        · have hjk' : j = k := by omega
          subst hjk'
          have HV : Hid ((u : Int) = H (j + 1) (tw (pf p))) := HU.out
          clear HU
          go_wp2_with fail
          go_roundw
          case rel => exact ⟨j + 1, u, by omega, by go_num, rfl, by omega, HV.out, hbel⟩
          case measure => simp [intOf]; omega
    · have hkn : k = n := by omega
      subst hkn
      go_wp2_with fail
      go_ret
      exact ⟨t, rfl, HT.out, by omega, hbel⟩
end Go.Proofs.Ytpehbgcbifgokaa
