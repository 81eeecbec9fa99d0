/- Two rows of integers: are they the same? -/
import Derived.Test.YtncikklhchimdaaSzC
namespace Go.Proofs.Ytncikklhchimdaa
open Go.RowKit
set_option linter.unusedVariables false
set_option linter.unusedSimpArgs false
set_option maxRecDepth 100000

set_option maxHeartbeats 400000 in
/-- Two rows: are they the same? -/
theorem ref3_Same (a b : Option Addr) (ca cb : Nat) (xs ys : List Int) (w : World) (hx : Row .i64 w a xs) (hy : Row .i64 w b ys) :
    Calls Try.prog 26 #[.slice a xs.length ca, .slice b ys.length cb] w fun e w' => e = .returned (.bool (decide (xs = ys))) ∧ Below w.heap.size w w' := by
  have hlx := hx.len
  have hly := hy.len
  by_cases hl : xs.length = ys.length
  · have HL := Lib.hid hl
    have HX := Lib.hid hx
    have HY := Lib.hid hy
    have hne : ((xs.length : Int) != (ys.length : Int)) = false := by simp [hl]
    clear hx hy hl
    go_enter Try.func26, Try.ntmps26
    go_wp2_with fail
    go_loopw [5] (fun i wr => ∃ k : Nat, k ≤ xs.length ∧ i = .int .i64 k ∧ Below w.heap.size w wr ∧ Hid (∀ j, j < k → nth xs j = nth ys j)) (fun i _ => xs.length - (intOf i).toNat)
    case atStart => exact ⟨0, Nat.zero_le _, rfl, Below.refl _ _, fun j hj => by omega⟩
    case round =>
      obtain ⟨k, hk, rfl, hb, H⟩ := hrel
      by_cases hlt : k < xs.length
      · have hlt' : k < ys.length := by have := HL.out; omega
        have i1 : (0 : Int) ≤ (k : Int) := by omega
        have i2 : (k : Int) < (xs.length : Int) := by omega
        have i3 : (k : Int) < (ys.length : Int) := by omega
        obtain ⟨b1, o1, rfl, hc1⟩ := (HX.out.below hb).at (by omega)
        obtain ⟨b2, o2, rfl, hc2⟩ := (HY.out.below hb).at (by omega)
        have h1 := hc1 k hlt
        have h2 := hc2 k hlt'
        clear hc1 hc2
        by_cases he : nth xs k = nth ys k
        · have hbe : (nth xs k != nth ys k) = false := by simp [he]
          have HE := Lib.hid he
          clear he
          go_wp2_with fail
          go_quiet (fail)
          go_wp2_with fail
          go_roundw
          case rel =>
            refine ⟨k + 1, by omega, by go_num, by first | exact below_drewN hb _ | exact hb.drew, ?_⟩
            intro j hj
            by_cases hjk : j < k
            · exact H.out j hjk
            · obtain rfl : j = k := by omega
              exact HE.out
          case measure => simp [intOf]; omega
        · have hbe : (nth xs k != nth ys k) = true := by simp [he]
          have HE : Hid (xs ≠ ys) := by
            intro h; apply he; rw [h]
          clear he
          go_wp2_with fail
          go_quiet (fail)
          go_wp2_with fail
          go_ret
          exact ⟨ret_bool (by have := HE.out; simp [this]), by first | exact below_drewN hb _ | exact hb.drew⟩
      · go_wp2_with fail
        go_ret
        have : xs = ys := ext_nth HL.out (fun i hi => H.out i (by omega))
        exact ⟨ret_bool (by simp [this]), hb⟩
  · have HL := Lib.hid hl
    have hne : ((xs.length : Int) != (ys.length : Int)) = true := by simp; omega
    have : xs ≠ ys := fun h => hl (by rw [h])
    have HE := Lib.hid this
    clear this hl hx hy
    go_enter Try.func26, Try.ntmps26
    go_wp2_with fail
    go_ret
    exact ⟨ret_bool (by have := HE.out; simp [this]), Below.refl _ _⟩

theorem ref3_SameT (a b : Option Addr) (n m ca cb : Nat) (xs ys : List Int) (w : World) (hx : Row .i64 w a xs) (hy : Row .i64 w b ys) (hn : xs.length = n) (hm : ys.length = m) (h : xs = ys) :
    Calls Try.prog 26 #[.slice a n ca, .slice b m cb] w fun e w' => e = .returned (.bool true) ∧ Below w.heap.size w w' := by
  subst hn hm
  exact (ref3_Same a b ca cb xs ys w hx hy).mono fun e w' ⟨he, hb⟩ => ⟨by rw [he]; simp [h], hb⟩

end Go.Proofs.Ytncikklhchimdaa
