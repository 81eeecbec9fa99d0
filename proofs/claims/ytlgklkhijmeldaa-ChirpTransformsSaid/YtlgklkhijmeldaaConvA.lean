/- The products of two rows, as an iterator. -/
import Derived.Test.YtlgklkhijmeldaaVecC
import Derived.Test.YtlgklkhijmeldaaSums
import Derived.RangeFuncNested
import Derived.RangeFuncBound
import Derived.RangeFuncCalls
import Derived.RangeFuncLeaves
import Derived.RangeFuncBox
import Derived.RangeFuncWrites
import Derived.Shelf.Abstract
import Derived.Shelf.RegionOpen
import Derived.OwnWalkIn
import Derived.TacticsInMore
import Derived.LoopNIn
import Derived.LoopIn
namespace Go.Proofs.Ytlgklkhijmeldaa
open Go.RowKit Go.Shelf
set_option linter.unusedVariables false
set_option linter.unusedSimpArgs false
set_option maxRecDepth 100000
attribute [local go_sem] Oper.semAt_some

/-- A place, and a number of the field. -/
abbrev Pr : Type := { x : Int × Int // 0 ≤ x.1 ∧ x.1 ≤ 100000 ∧ 0 ≤ x.2 ∧ x.2 < 18446744069414584321 }
abbrev encPr (x : Pr) : Array Value := #[.int .i64 x.1.1, .int .u64 x.1.2]
def el (xs ys : List Int) (i j : Nat) : Pr :=
  if h : (i : Int) + (j : Int) ≤ 100000 then ⟨((i : Int) + (j : Int), nth xs i * nth ys j % 18446744069414584321), by refine ⟨?_, h, ?_, ?_⟩ <;> simp only [] <;> omega⟩ else ⟨(0, 0), by simp⟩
theorem el_val (xs ys : List Int) (i j : Nat) (h : i + j ≤ 100000) : (el xs ys i j).1 = ((i : Int) + (j : Int), nth xs i * nth ys j % 18446744069414584321) := by
  unfold el; rw [dif_pos (by omega)]
/-- The first t products. -/
def prodTo (xs ys : List Int) (t : Nat) : List Pr := (List.range t).map fun t => el xs ys (t / ys.length) (t % ys.length)
theorem prodTo_len (xs ys : List Int) (t : Nat) : (prodTo xs ys t).length = t := by simp [prodTo]
theorem prodTo_succ (xs ys : List Int) (t i j : Nat) (h1 : t / ys.length = i) (h2 : t % ys.length = j) : prodTo xs ys (t + 1) = prodTo xs ys t ++ [el xs ys i j] := by
  unfold prodTo; rw [List.range_succ, List.map_append, List.map_singleton, h1, h2]
def prodL (xs ys : List Int) : List Pr := prodTo xs ys (xs.length * ys.length)
theorem place_at (b i j : Nat) (hj : j < b) : (i * b + j) / b = i ∧ (i * b + j) % b = j := by
  have h0 : 0 < b := by omega
  constructor
  · rw [Nat.add_comm, Nat.add_mul_div_right _ _ h0, Nat.div_eq_of_lt hj, Nat.zero_add]
  · rw [Nat.add_comm, Nat.add_mul_mod_self_right, Nat.mod_eq_of_lt hj]
theorem place_bd (a b i j : Nat) (hi : i < a) (hj : j < b) : i * b + j < a * b := by
  have h1 : (i + 1) * b ≤ a * b := Nat.mul_le_mul_right b hi
  rw [Nat.add_mul, Nat.one_mul] at h1
  omega

/-- What a round keeps: what lay ahead, and the second row's box. -/
def KeepsBox (n₀ py : Nat) (A B : World) : Prop := Below n₀ A B ∧ B.cell? ⟨py, 0, none⟩ = A.cell? ⟨py, 0, none⟩

end Go.Proofs.Ytlgklkhijmeldaa
