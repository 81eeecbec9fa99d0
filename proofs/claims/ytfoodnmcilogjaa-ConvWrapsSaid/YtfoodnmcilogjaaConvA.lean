/- The products of two rows, as an iterator. -/
import Derived.Test.YtfoodnmcilogjaaVecC
import Derived.Test.YtfoodnmcilogjaaSums
import Derived.RangeFuncNested
import Derived.RangeFuncBound
import Derived.RangeFuncCalls
import Derived.RangeFuncLeaves
import Derived.RangeFuncBox
import Derived.RangeFuncWrites
import Derived.Shelf.Abstract
import Derived.Shelf.RegionOpen
import Derived.OwnWalkIn
import Derived.TacticsInMore
import Derived.LoopNIn
import Derived.LoopIn
namespace Go.Proofs.Ytfoodnmcilogjaa
open Go.RowKit Go.Shelf
set_option linter.unusedVariables false
set_option linter.unusedSimpArgs false
attribute [local go_sem] Oper.semAt_some

/-- A place, and a number of the field. -/
abbrev Pr : Type := { x : Int × Int // 0 ≤ x.1 ∧ x.1 ≤ 100000 ∧ 0 ≤ x.2 ∧ x.2 < 18446744069414584321 }
abbrev encPr (x : Pr) : Array Value := #[.int .i64 x.1.1, .int .u64 x.1.2]
def el (xs ys : List Int) (i j : Nat) : Pr :=
  if h : (i : Int) + (j : Int) ≤ 100000 then ⟨((i : Int) + (j : Int), nth xs i * nth ys j % 18446744069414584321), by refine ⟨?_, h, ?_, ?_⟩ <;> simp only [] <;> omega⟩ else ⟨(0, 0), by simp⟩
theorem el_val (xs ys : List Int) (i j : Nat) (h : i + j ≤ 100000) : (el xs ys i j).1 = ((i : Int) + (j : Int), nth xs i * nth ys j % 18446744069414584321) := by
  unfold el; rw [dif_pos (by omega)]
/-- The first t products. -/
def prodTo (xs ys : List Int) (t : Nat) : List Pr := (List.range t).map fun t => el xs ys (t / ys.length) (t % ys.length)
theorem prodTo_len (xs ys : List Int) (t : Nat) : (prodTo xs ys t).length = t := by simp [prodTo]
theorem prodTo_succ (xs ys : List Int) (t i j : Nat) (h1 : t / ys.length = i) (h2 : t % ys.length = j) : prodTo xs ys (t + 1) = prodTo xs ys t ++ [el xs ys i j] := by
  unfold prodTo; rw [List.range_succ, List.map_append, List.map_singleton, h1, h2]
def prodL (xs ys : List Int) : List Pr := prodTo xs ys (xs.length * ys.length)
theorem place_at (b i j : Nat) (hj : j < b) : (i * b + j) / b = i ∧ (i * b + j) % b = j := by
  have h0 : 0 < b := by omega
  constructor
  · rw [Nat.add_comm, Nat.add_mul_div_right _ _ h0, Nat.div_eq_of_lt hj, Nat.zero_add]
  · rw [Nat.add_comm, Nat.add_mul_mod_self_right, Nat.mod_eq_of_lt hj]
theorem place_bd (a b i j : Nat) (hi : i < a) (hj : j < b) : i * b + j < a * b := by
  have h1 : (i + 1) * b ≤ a * b := Nat.mul_le_mul_right b hi
  rw [Nat.add_mul, Nat.one_mul] at h1
  omega

/-- What a round keeps: what lay ahead, and the second row's box. -/
def KeepsBox (n₀ py : Nat) (A B : World) : Prop := Below n₀ A B ∧ B.cell? ⟨py, 0, none⟩ = A.cell? ⟨py, 0, none⟩

set_option maxRecDepth 100000 in
set_option maxHeartbeats 4000000 in
theorem products1_in (n : Nat) (hn : 1 ≤ n) (l px py : Nat) (ax ay : Option Addr) (lx ly cx cy : Nat) (xs ys : List Int) (w0 : World) (hx : Row .u64 w0 ax xs) (hy : Row .u64 w0 ay ys) (hlx : xs.length = lx) (hly : ys.length = ly) (h1 : lx ≤ 4096) (h2 : ly ≤ 4096)
    (J Jx : List Pr → World → Prop)
    (hY : ∀ pre x W, J pre W → pre.length < lx * ly → YieldAt Fence.wide (n - 1) Try.prog l (encPr x) W fun e W' =>
      (e = .returned (.bool true) ∧ J (pre ++ [x]) W' ∧ KeepsBox w0.heap.size py W W') ∨ (e = .returned (.bool false) ∧ Jx (pre ++ [x]) W'))
    (W : World) (hW : Below w0.heap.size w0 W) (hpx : W.cell? ⟨px, 0, none⟩ = some (.slice ax lx cx)) (hpy : W.cell? ⟨py, 0, none⟩ = some (.slice ay ly cy)) (h0 : J [] W) :
    CallsIn Fence.wide n Try.prog 94 #[.func (.yield l) #[] #[], .pointer (some ⟨px, 0, none⟩), .pointer (some ⟨py, 0, none⟩)] W fun e W' => (∃ v, e = .returned v) ∧
      ((∃ zs, zs = prodL xs ys ∧ J zs W') ∨ (∃ pre, True ∧ Jx pre W')) := by
  have HX := Lib.hid hx
  have HY := Lib.hid hy
  have HLX := Lib.hid hlx
  have HLY := Lib.hid hly
  have HYY := Lib.hid hY
  clear hx hy hlx hly hY
  refine callsIn_of_wp Try.func94 rfl trivial ?_ rfl
  simp only [Try.ntmps94, List.size_toArray, List.length_cons, List.length_nil, Nat.reduceAdd, Nat.reduceSub, Array.replicate_succ, Array.replicate_zero, List.push_toArray, List.append_toArray, List.nil_append, List.cons_append]
  gi_wp2
  clear hpx
  gi_loopw [10] (fun v wr => ∃ i : Nat, i ≤ lx ∧ v = .int .i64 i ∧ J (prodTo xs ys (i * ly)) wr ∧ Below w0.heap.size w0 wr ∧ wr.cell? ⟨py, 0, none⟩ = some (.slice ay ly cy))
    (fun v _ => lx - (intOf v).toNat)
  case atStart => exact ⟨0, Nat.zero_le _, rfl, by rw [Nat.zero_mul]; exact h0, hW, hpy⟩
  case round =>
    obtain ⟨i, hi, rfl, hJ, hB, hcy⟩ := hrel
    by_cases hlt : i < lx
    · obtain ⟨b1, o1, rfl, hc1⟩ := (HX.out.below hB).at (by have := HLX.out; omega)
      have hc := hc1 i (by have := HLX.out; omega)
      have hfx := fits_u64.1 (HX.out.wf (nth xs i) (nth_mem (by have := HLX.out; omega)))
      obtain ⟨a, ha⟩ : ∃ a, nth xs i = a := ⟨_, rfl⟩
      rw [ha] at hc hfx
      have HA := Lib.hid ha
      have g1 : (0 : Int) ≤ (i : Int) := by omega
      have g2 : (i : Int) < (lx : Int) := by omega
      obtain ⟨hfx0, hfx1⟩ := hfx
      clear hc1 ha
      gi_wp2
      obtain ⟨wo, rfl⟩ : ∃ wo : World, wo = wr := ⟨_, rfl⟩
      gi_loopw [17] (fun v wq => ∃ j : Nat, j ≤ ly ∧ v = .int .i64 j ∧ J (prodTo xs ys (i * ly + j)) wq ∧ Below w0.heap.size w0 wq ∧ wq.cell? ⟨py, 0, none⟩ = some (.slice ay ly cy))
        (fun v _ => ly - (intOf v).toNat)
      case atStart => exact ⟨0, Nat.zero_le _, rfl, hJ, hB, hcy⟩
      case round =>
        obtain ⟨j, hj, rfl, hJ2, hB2, hcy2⟩ := hrel
        by_cases hjt : j < ly
        · obtain ⟨b2, o2, rfl, hc2⟩ := (HY.out.below hB2).at (by have := HLY.out; omega)
          have hcb := hc2 j (by have := HLY.out; omega)
          have hfy := fits_u64.1 (HY.out.wf (nth ys j) (nth_mem (by have := HLY.out; omega)))
          obtain ⟨b, hb⟩ : ∃ b, nth ys j = b := ⟨_, rfl⟩
          rw [hb] at hcb hfy
          obtain ⟨hfy0, hfy1⟩ := hfy
          have hval : (el xs ys i j).1 = ((i : Int) + (j : Int), a * b % 18446744069414584321) := by rw [el_val xs ys i j (by omega), HA.out, hb]
          have hsucc : prodTo xs ys (i * ly + j + 1) = prodTo xs ys (i * ly + j) ++ [el xs ys i j] := by
            have h3 := place_at ly i j hjt
            exact prodTo_succ xs ys _ i j (by rw [HLY.out]; exact h3.1) (by rw [HLY.out]; exact h3.2)
          have HS := Lib.hid hsucc
          obtain ⟨fn, tmps, assign, body, hy, hR⟩ := HYY.out _ (el xs ys i j) wr hJ2 (by rw [prodTo_len]; exact place_bd lx ly i j hlt hjt)
          have henc : encPr (el xs ys i j) = #[.int .i64 ((i : Int) + (j : Int)), .int .u64 (a * b % 18446744069414584321)] := by unfold encPr; rw [hval]
          rw [henc] at hy
          have HR := Lib.hid hR
          have g3 : (0 : Int) ≤ (j : Int) := by omega
          have g4 : (j : Int) < (ly : Int) := by omega
          clear hc2 hb hval hsucc hR henc
          gi_wp2_with (refine ⟨trivial, ?_⟩; gi_at_call 32; refine (callsIn_wide.2 (gold_Mul a b _ (by omega) (by omega) (by omega) (by omega))).mono ?_; rintro e w' ⟨rfl, rfl⟩)
          refine HR.out.mono ?_
          rintro e W3 (⟨rfl, hJ3, hk3, hk4⟩ | ⟨rfl, hJx3⟩)
          · have hcy3 := hk4.trans hcy2
            gi_wp2
            go_roundw
            case rel => exact ⟨j + 1, by omega, by go_num, by rw [← Nat.add_assoc, HS.out]; exact hJ3, hB2.trans hk3, hcy3⟩
            case measure => simp [intOf]; omega
          · gi_wp2
            refine bodyPost_ret (results_none rfl _ _ _) rfl ?_
            exact ⟨⟨_, rfl⟩, .inr ⟨_, trivial, hJx3⟩⟩
        · have hjj : j = ly := by omega
          have HJJ := Lib.hid hjj
          clear hjj
          gi_wp2
          go_roundw
          case rel => exact ⟨i + 1, by omega, by go_num, by rw [Nat.add_mul, Nat.one_mul]; rw [HJJ.out] at hJ2; exact hJ2, hB2, hcy2⟩
          case measure => simp [intOf]; omega
    · have hii : i = lx := by omega
      have HII := Lib.hid hii
      clear hii
      gi_wp2
      go_end0
      exact ⟨⟨_, rfl⟩, .inl ⟨_, rfl, by unfold prodL; rw [HLX.out, HLY.out]; rw [HII.out] at hJ; exact hJ⟩⟩

theorem products_in (n : Nat) (ax ay : Option Addr) (lx ly cx cy : Nat) (w : World) :
    CallsIn Fence.wide n Try.prog 89 #[.slice ax lx cx, .slice ay ly cy] w fun e w' => e = .returned (.func (.func 94) #[] #[.pointer (some ⟨w.heap.size, 0, none⟩), .pointer (some ⟨w.heap.size + 1, 0, none⟩)]) ∧ w' = (w.alloc (.cells #[.slice ax lx cx] 22)).alloc (.cells #[.slice ay ly cy] 22) := by
  refine callsIn_of_wp Try.func89 rfl trivial ?_ rfl
  simp only [Try.ntmps89, List.size_toArray, List.length_cons, List.length_nil, Nat.reduceAdd, Nat.reduceSub, Array.replicate_succ, Array.replicate_zero, List.push_toArray, List.append_toArray, List.nil_append, List.cons_append]
  gi_wp2
  go_ret
  exact ⟨rfl, rfl⟩
end Go.Proofs.Ytfoodnmcilogjaa
