/- The sign of an order: the walk. -/
import Derived.Test.YtpehbgcbifgokaaSignD
namespace Go.Proofs.Ytpehbgcbifgokaa
open Go.RowKit Sm
set_option linter.unusedVariables false
set_option linter.unusedSimpArgs false

def sgn (t : Int) : Int := 1 - 2 * (t % 2)
theorem sgn_cases (t : Int) : (t % 2 = 0 ∧ sgn t = 1) ∨ (t % 2 = 1 ∧ sgn t = -1) := by unfold sgn; omega
theorem sgn_join (a b z : Int) : sgn (a + b - 2 * z) = sgn a * sgn b := by
  rcases sgn_cases a with ⟨h1, h2⟩ | ⟨h1, h2⟩ <;> rcases sgn_cases b with ⟨h3, h4⟩ | ⟨h3, h4⟩ <;> rw [h2, h4] <;> unfold sgn <;> omega
def lsum (cs : List (List Nat)) (k : Nat) : Nat := ((cs.take k).map fun l => l.length - 1).sum
theorem lsum_succ (cs : List (List Nat)) (k : Nat) (hk : k < cs.length) : lsum cs (k + 1) = lsum cs k + ((cs.getD k []).length - 1) := by
  unfold lsum
  rw [List.take_add_one, List.map_append, List.sum_append]
  congr 1
  simp [List.getD, hk]
theorem lsum_all (cs : List (List Nat)) : lsum cs cs.length = (cs.map fun l => l.length - 1).sum := by unfold lsum; rw [List.take_length]
theorem sgn_even (t len : Nat) (h1 : 0 < len) (h : (len : Int) % 2 = 0) : sgn ((t + (len - 1) : Nat) : Int) = - sgn t := by unfold sgn; omega
theorem sgn_odd (t len : Nat) (h1 : 0 < len) (h : (len : Int) % 2 = 1) : sgn ((t + (len - 1) : Nat) : Int) = sgn t := by unfold sgn; omega

/-- Reading a row of its own. -/
theorem row_read {w : World} {B : Nat} {e : TypeId} {a : Option Addr} {n c : Nat} {xs : List Value} (h : w.ownsRow B e 1 (.slice a n c) n xs) (k : Nat) (hk : k < n) : ∃ g, a = some ⟨g, 0, none⟩ ∧ B ≤ g ∧ w.cell? ⟨g, k, none⟩ = xs[k]? := by
  rcases h.form (by omega) with ⟨g, cap, hv, h1, h2⟩
  simp only [Value.slice.injEq, true_and] at hv
  obtain ⟨rfl, rfl⟩ := hv
  exact ⟨g, rfl, h1, h.cellAt k (by omega)⟩

theorem perm_Sign_no (a : Option Addr) (n cap : Nat) (p : List Int) (w : World) (hx : Row .i64 w a p) (hn : p.length = n) (hl : n ≤ 60) (hp : ¬ IsPerm p) :
    Calls Try.prog 46 #[.slice a n cap] w fun e w' => e = .returned (.int .i64 0) ∧ Below w.heap.size w w' := by
  have C1 := Lib.hid (perm_Cycles_no a n cap p w hx hn hl hp)
  clear hx hn hp
  go_enter Try.func46, Try.ntmps46
  go_wp2_with fail
  refine C1.out.mono ?_; rintro e w1 ⟨rfl, hb1⟩
  go_wp2_with fail
  go_ret
  exact ⟨rfl, hb1⟩

set_option maxHeartbeats 1000000 in
theorem perm_Sign (a : Option Addr) (n cap : Nat) (p : List Int) (w : World) (hx : Row .i64 w a p) (hn : p.length = n) (hl : n ≤ 60) (hp : IsPerm p) :
    Calls Try.prog 46 #[.slice a n cap] w fun e w' => e = .returned (.int .i64 (sgn (turns n (pf p)))) ∧ Below w.heap.size w w' := by
  have C1 := Lib.hid (perm_Cycles a n cap p w hx hn hl hp)
  clear hx hn hp
  go_enter Try.func46, Try.ntmps46
  go_wp2_with fail
  refine C1.out.mono ?_; rintro e w1 ⟨cs, s, t, B, v, vs, rfl, hR, hB, hV, hC, hb1⟩
  have HT : Hid (sgn (lsum cs cs.length) = sgn (turns n (pf p))) := by
    obtain ⟨z, hz⟩ := hR.turns
    unfold Hid
    rw [lsum_all, ← hR.sum, hz]
    unfold sgn; omega
  have HE : Hid (∀ k, k < cs.length → 0 < (cs.getD k []).length) := fun k hk => by
    have hm : cs.getD k [] ∈ cs := by simp [hk]
    exact (hR.each _ hm).1
  have HM : cs.length ≤ 60 := by have := hR.room; omega
  obtain ⟨av, cv, rfl, _⟩ := own_slice hV
  obtain ⟨m, hm⟩ : ∃ m, cs.length = m := ⟨_, rfl⟩
  rw [hm] at hV HT HE HM
  have HSUC : Hid (∀ k, k < m → lsum cs (k + 1) = lsum cs k + ((cs.getD k []).length - 1)) := fun k hk => lsum_succ cs k (by omega)
  have HAT : Hid (∀ k, k < m → ∃ g a3 c3, av = some ⟨g, 0, none⟩ ∧ w1.cell? ⟨g, k, none⟩ = some (.slice a3 (cs.getD k []).length c3)) := fun k hk => by
    obtain ⟨g, rfl, _, h1⟩ := row_read hV k hk
    obtain ⟨v, h2, h3⟩ := hC.at k (by omega)
    obtain ⟨a3, c3, rfl, _⟩ := own_slice h3
    exact ⟨g, a3, c3, rfl, by rw [h1, h2]⟩
  clear hV hC hR
  have HB := Lib.hid hb1
  clear hb1
  go_wp2_with fail
  go_loopw [5, 17] (fun v iv wr => ∃ (k : Nat) (x : Int), k ≤ m ∧ iv = .int .i64 (k : Int) ∧ v = .int .i64 x ∧ -1 ≤ x ∧ x ≤ 1 ∧ Hid (x = sgn (lsum cs k)) ∧ w1 = wr) (fun _ iv _ => m - (intOf iv).toNat)
  case atStart => exact ⟨0, 1, by omega, rfl, rfl, by omega, by omega, rfl, rfl⟩
  case round =>
    obtain ⟨k, x, hk, rfl, rfl, hx0, hx1, HX, rfl⟩ := hrel
    by_cases hlt : k < m
    · obtain ⟨g, a3, c3, rfl, hc⟩ := HAT.out k hlt
      have he1 := HE.out k hlt
      have hs := HSUC.out k hlt
      have HS := Lib.hid hs
      clear hs
      obtain ⟨len, hlen⟩ : ∃ len, (cs.getD k []).length = len := ⟨_, rfl⟩
      have HL := Lib.hid hlen
      rw [hlen] at hc he1
      have HS' : Hid (lsum cs (k + 1) = lsum cs k + (len - 1)) := by unfold Hid; rw [HS.out, hlen]
      clear hlen HS
      have g0 : (0 : Int) ≤ (k : Int) := by omega
      have g1 : (k : Int) < (m : Int) := by omega
      by_cases h2 : (len : Int) % 2 = 0
      · have HX' : Hid (-x = sgn (lsum cs (k + 1))) := by unfold Hid; rw [HS'.out, sgn_even _ _ he1 h2, ← HX.out]
        go_wp2_with fail
        go_roundw
        case rel => exact ⟨k + 1, -x, by omega, by go_num, by go_num, by omega, by omega, HX'.out, trivial⟩
        case measure => simp [intOf]; omega
      · have h2' : (len : Int) % 2 = 1 := by omega
        have HX' : Hid (x = sgn (lsum cs (k + 1))) := by unfold Hid; rw [HS'.out, sgn_odd _ _ he1 h2', ← HX.out]
        clear h2
        go_wp2_with fail
        go_roundw
        case rel => exact ⟨k + 1, x, by omega, by go_num, by go_num, by omega, by omega, HX'.out, trivial⟩
        case measure => simp [intOf]; omega
    · have hkm : k = m := by omega
      have HX' : Hid (x = sgn (turns n (pf p))) := by have h := HX.out; rw [hkm, HT.out] at h; exact h
      go_wp2_with fail
      go_ret
      exact ⟨by rw [HX'.out]; rfl, HB.out⟩
end Go.Proofs.Ytpehbgcbifgokaa
