/- The contracts and plain laws that the statements PolyMuls PolySizes PolyPowers PolyBig need, part 5 of 9: NeedL CostA CostB CostG NeedA NeedB TabA TabB RowAdd NeedC NeedD. -/
import Derived.Test.YtlnlijeamflpiaaGreatPlB4
namespace Go.Proofs.YtlnlijeamflpiaaGreat
open Go.RowKit
set_option linter.unusedVariables false
set_option linter.unusedSimpArgs false
set_option maxRecDepth 100000
/-- What a node names itself. -/
def nmOwn (k n k0 dir : Int) : List Nm := if k = 1 ∨ k = 3 ∨ k = 4 then [(1, n, 0, dir)] else if k = 6 then [(3, n, 0, dir)] else if k = 7 then [(2, n, 0, dir), (4, n, k0, dir)] else []
/-- The direction below. -/
def nmBelow (k dir : Int) : Int := if k = 6 ∨ k = 7 then 0 else dir
namespace Tr
mutual
/-- All names, as often as they are named. -/
def names : Tr → Int → List Nm
  | node k n ks, dir => nmOwn k n (kid ks 0).num dir ++ namesL ks (nmBelow k dir)
def namesL : List Tr → Int → List Nm
  | [], _ => []
  | t :: ts, dir => names t dir ++ namesL ts dir
end
theorem names_kids (t : Tr) (dir : Int) : t.names dir = nmOwn t.kind t.num (kid t.kids 0).num dir ++ namesL t.kids (nmBelow t.kind dir) := by cases t; simp [names, kind, num, kids]
theorem namesL_append (l r : List Tr) (dir : Int) : namesL (l ++ r) dir = namesL l dir ++ namesL r dir := by
  induction l with
  | nil => simp [namesL]
  | cons t ts ih => simp only [List.cons_append, namesL, ih, List.append_assoc]
theorem namesL_snoc (l : List Tr) (t : Tr) (dir : Int) : namesL (l ++ [t]) dir = namesL l dir ++ t.names dir := by rw [namesL_append]; simp [namesL]
theorem own_len (k n k0 dir : Int) : (nmOwn k n k0 dir).length ≤ 2 := by unfold nmOwn; repeat' split
                                                                         all_goals simp
theorem names_len (N : Nat) : ∀ (t : Tr) (dir : Int), t.size ≤ N → (t.names dir).length ≤ 2 * t.size := by
  induction N with
  | zero => intro t dir h; have := size_pos t; omega
  | succ N ih =>
    intro t dir h
    have h2 : ∀ (ks : List Tr) (d : Int), sizeL ks ≤ N → (namesL ks d).length ≤ 2 * sizeL ks := by
      intro ks
      induction ks with
      | nil => intro d _; simp [namesL, sizeL]
      | cons t ts ih2 => intro d hk; simp only [sizeL] at hk; simp only [namesL, sizeL, List.length_append]; have := ih t d (by omega); have := ih2 d (by omega); omega
    rw [size_kids] at h ⊢
    rw [names_kids, List.length_append]
    have := h2 t.kids (nmBelow t.kind dir) (by omega)
    have := own_len t.kind t.num (kid t.kids 0).num dir
    omega
theorem namesL_len (ks : List Tr) (dir : Int) : (namesL ks dir).length ≤ 2 * sizeL ks := by
  induction ks with
  | nil => simp [namesL, sizeL]
  | cons t ts ih => simp only [namesL, sizeL, List.length_append]; have := names_len _ t dir (Nat.le_refl _); omega
theorem mem_namesL {ks : List Tr} {dir : Int} {x : Nm} : x ∈ namesL ks dir ↔ ∃ i, i < ks.length ∧ x ∈ (kid ks i).names dir := by
  induction ks with
  | nil => simp [namesL]
  | cons y r ih =>
    simp only [namesL, List.mem_append, ih]
    constructor
    · rintro (h | ⟨i, hi, h⟩)
      · exact ⟨0, by simp, h⟩
      · exact ⟨i + 1, by simpa using hi, h⟩
    · rintro ⟨i, hi, h⟩
      cases i with
      | zero => exact .inl h
      | succ i => exact .inr ⟨i, by simpa using hi, h⟩
end Tr
/-- Each name where it comes first. -/
def once (l : List Nm) : List Nm := l.foldl (fun out x => if x ∈ out then out else out ++ [x]) []
theorem once_snoc (l : List Nm) (x : Nm) : once (l ++ [x]) = if x ∈ once l then once l else once l ++ [x] := by unfold once; rw [List.foldl_append]; rfl
theorem list_snoc {α : Type} {motive : List α → Prop} (nil : motive []) (snoc : ∀ l x, motive l → motive (l ++ [x])) (l : List α) : motive l := by
  have h : ∀ n (l : List α), l.length = n → motive l := by
    intro n
    induction n with
    | zero => intro l h; rw [List.eq_nil_of_length_eq_zero h]; exact nil
    | succ n ih =>
      intro l h
      have hne : l ≠ [] := fun e => by subst e; simp at h
      rw [← List.dropLast_concat_getLast hne]
      exact snoc _ _ (ih _ (by simp; omega))
  exact h _ l rfl
theorem mem_once (l : List Nm) : ∀ x, x ∈ once l ↔ x ∈ l := by
  refine list_snoc (motive := fun l => ∀ x, x ∈ once l ↔ x ∈ l) (by simp [once]) (fun l y ih x => ?_) l
  rw [once_snoc]
  split
  · rename_i h
    rw [ih, List.mem_append, List.mem_singleton]
    exact ⟨.inl, fun h2 => h2.elim id fun e => by subst e; exact (ih _).1 h⟩
  · rw [List.mem_append, List.mem_append, ih]
theorem nodup_once (l : List Nm) : (once l).Nodup := by
  refine list_snoc (motive := fun l => (once l).Nodup) (by simp [once]) (fun l y ih => ?_) l
  rw [once_snoc]
  split
  · exact ih
  · rename_i h
    exact List.nodup_append.2 ⟨ih, by simp, fun a ha b hb e => by simp at hb; subst hb; subst e; exact h ha⟩
theorem once_len (l : List Nm) : (once l).length ≤ l.length := by
  refine list_snoc (motive := fun l => (once l).length ≤ l.length) (by simp [once]) (fun l y ih => ?_) l
  rw [once_snoc]
  split <;> simp <;> omega
/-- What the map of counts holds. -/
def cntL (l : List Nm) : List (Value × Value) := (once l).map fun x => (nv x, .int .i64 (l.count x : Nat))
theorem cntL_len (l : List Nm) : (cntL l).length = (once l).length := by simp [cntL]
theorem cntL_keys (l : List Nm) : ∀ p ∈ cntL l, isNv p.1 := by
  intro p hp
  obtain ⟨x, _, rfl⟩ := List.mem_map.1 hp
  exact ⟨x, rfl⟩
theorem cntL_nodup (l : List Nm) : ((cntL l).map (·.1)).Nodup := by
  have h : (cntL l).map (·.1) = (once l).map nv := by simp [cntL]
  rw [h]
  exact List.Pairwise.map nv (fun a b hab e => hab (nv_inj e)) (nodup_once l)
theorem cntL_no {l : List Nm} {x : Nm} (h : x ∉ l) : ∀ p ∈ cntL l, p.1 ≠ nv x := by
  intro p hp e
  obtain ⟨y, hy, rfl⟩ := List.mem_map.1 hp
  exact h (by rw [← nv_inj e]; exact (mem_once l y).1 hy)
theorem cntL_yes {l : List Nm} {x : Nm} (h : x ∈ l) : ∃ j, j < (once l).length ∧ (once l)[j]? = some x ∧ (cntL l)[j]? = some (nv x, .int .i64 (l.count x : Nat)) := by
  obtain ⟨j, hj⟩ := List.getElem?_of_mem ((mem_once l x).2 h)
  exact ⟨j, (List.getElem?_eq_some_iff.1 hj).1, hj, by simp [cntL, hj]⟩
theorem cntL_new {l : List Nm} {x : Nm} (h : x ∉ l) : cntL (l ++ [x]) = cntL l ++ [(nv x, .int .i64 1)] := by
  have h1 : x ∉ once l := fun e => h ((mem_once l x).1 e)
  unfold cntL
  rw [once_snoc, if_neg h1, List.map_append]
  congr 1
  · refine List.map_congr_left fun y hy => ?_
    have hne : y ≠ x := fun e => by subst e; exact h1 hy
    rw [List.count_append]
    simp [List.count_singleton, hne, Ne.symm hne]
  · have : l.count x = 0 := List.count_eq_zero.2 h
    simp [List.count_append, this]
theorem cntL_more {l : List Nm} {x : Nm} {j : Nat} (h : x ∈ l) (hj : (once l)[j]? = some x) : cntL (l ++ [x]) = (cntL l).modify j fun p => (p.1, .int .i64 ((l.count x : Nat) + 1)) := by
  have h1 : x ∈ once l := (mem_once l x).2 h
  unfold cntL
  rw [once_snoc, if_pos h1]
  refine List.ext_getElem? fun i => ?_
  rw [List.getElem?_modify, List.getElem?_map, List.getElem?_map]
  cases hi : (once l)[i]? with
  | none => simp
  | some y =>
    simp only [Option.map_some]
    by_cases hji : j = i
    · subst hji
      rw [hj] at hi
      cases hi
      simp [List.count_append]
    · have hne : y ≠ x := fun e => by
        subst e
        exact hji ((List.getElem?_inj (List.getElem?_eq_some_iff.1 hj).1 (nodup_once l)).1 (hj.trans hi.symm))
      simp [hji, List.count_append, List.count_singleton, hne, Ne.symm hne]
/-- Is it a name? -/
def rightB (x : Nm) : Bool :=
  hasSz x.2.1 && decide (x.2.2.2 = 0 ∨ x.2.2.2 = 1) &&
    if x.1 = 1 ∨ x.1 = 2 then decide (x.2.2.1 = 0)
    else if x.1 = 3 then decide (x.2.2.1 = 0 ∧ 3 ≤ x.2.1) && isPr x.2.1
    else if x.1 = 4 then decide (2 ≤ x.2.1 ∧ 2 * x.2.1 - 1 ≤ x.2.2.1) && hasP2 x.2.2.1
    else false
/-- How many numbers. -/
def roomN (x : Nm) : Int := if rightB x = false then 0 else if x.1 = 3 then x.2.1 - 1 else if x.1 = 4 then x.2.2.1 else x.2.1
theorem pow_size (j : Nat) (hj : j ≤ 24) : hasSz ((2 ^ j : Nat) : Int) = true := by
  have h : ∀ i : Fin 25, hasSz ((2 ^ i.val : Nat) : Int) = true := by decide +kernel
  exact h ⟨j, by omega⟩
theorem own_right {t : Tr} (h : nodeOk t = true) (dir : Int) (hd : dir = 0 ∨ dir = 1) : ∀ x ∈ nmOwn t.kind t.num (Tr.kid t.kids 0).num dir, rightB x = true := by
  intro x hx
  have hd' : decide (dir = 0 ∨ dir = 1) = true := decide_eq_true hd
  unfold nodeOk nodeB at h
  unfold nmOwn at hx
  by_cases h1 : t.kind = 1
  · rw [if_pos h1] at h
    rw [if_pos (.inl h1)] at hx
    simp only [Bool.and_eq_true, decide_eq_true_eq] at h
    simp only [List.mem_singleton] at hx
    subst hx
    simp [rightB, h.2, hd']
  rw [if_neg h1] at h
  by_cases h2 : t.kind = 2
  · rw [if_neg (by omega), if_neg (by omega), if_neg (by omega)] at hx
    cases hx
  rw [if_neg h2] at h
  by_cases h3 : t.kind = 3
  · rw [if_pos h3] at h
    rw [if_pos (.inr (.inl h3))] at hx
    simp only [Bool.and_eq_true, decide_eq_true_eq] at h
    obtain ⟨j, hj, e⟩ := (hasP2_iff _).1 h.2
    simp only [List.mem_singleton] at hx
    subst hx
    have hz := pow_size j hj
    rw [← e] at hz
    simp [rightB, hz, hd']
  rw [if_neg h3] at h
  by_cases h4 : t.kind = 4
  · rw [if_pos h4] at h
    rw [if_pos (.inr (.inr h4))] at hx
    obtain ⟨_, g⟩ := sides_iff.1 h
    simp only [List.mem_singleton] at hx
    subst hx
    simp [rightB, g, hd']
  rw [if_neg h4] at h
  by_cases h5 : t.kind = 5
  · rw [if_neg (by omega), if_neg (by omega), if_neg (by omega)] at hx
    cases hx
  rw [if_neg h5] at h
  rw [if_neg (by omega)] at hx
  by_cases h6 : t.kind = 6
  · rw [if_pos h6] at h
    rw [if_pos h6] at hx
    simp only [Bool.and_eq_true, decide_eq_true_eq] at h
    simp only [List.mem_singleton] at hx
    subst hx
    simp [rightB, h.1.2, hd', h.2, h.1.1.2.1]
  rw [if_neg h6] at h hx
  by_cases h7 : t.kind = 7
  · rw [if_pos h7] at h
    rw [if_pos h7] at hx
    simp only [Bool.and_eq_true, decide_eq_true_eq] at h
    simp only [List.mem_cons, List.not_mem_nil, or_false] at hx
    rcases hx with rfl | rfl
    · simp [rightB, h.1.2, hd']
    · have := h.1.1.2.2
      simp [rightB, h.1.2, hd', h.2, h.1.1.2.1, this]
  rw [if_neg h7] at h
  cases h
theorem below_dir (k dir : Int) (hd : dir = 0 ∨ dir = 1) : nmBelow k dir = 0 ∨ nmBelow k dir = 1 := by unfold nmBelow; split <;> omega
theorem names_right (N : Nat) : ∀ (t : Tr) (dir : Int), t.size ≤ N → t.allOk → dir = 0 ∨ dir = 1 → ∀ x ∈ t.names dir, rightB x = true := by
  induction N with
  | zero => intro t dir h; have := Tr.size_pos t; omega
  | succ N ih =>
    intro t dir hs hok hd x hx
    have hn := (Tr.allOk_iff t).1 hok
    rw [Tr.names_kids, List.mem_append] at hx
    rcases hx with hx | hx
    · exact own_right hn.1 dir hd x hx
    · obtain ⟨i, hi, hx⟩ := Tr.mem_namesL.1 hx
      exact ih _ _ (by have := Tr.size_kid t i hi; omega) (hn.2 i hi) (below_dir _ _ hd) x hx
end Go.Proofs.YtlnlijeamflpiaaGreat

namespace Go.Proofs.YtlnlijeamflpiaaGreat
open Go.RowKit
set_option linter.unusedVariables false
set_option linter.unusedSimpArgs false
set_option maxRecDepth 100000
set_option maxRecDepth 20000
theorem sat_min (x : Int) : min x 1152921504606846976 = sat x := by unfold sat; split <;> omega
theorem cost_add (a b : Int) (w : World) (a0 : 0 ≤ a) (a1 : a ≤ 1152921504606846976) (b0 : 0 ≤ b) (b1 : b ≤ 1152921504606846976) :
    Calls Tryz.prog 161 #[.int .i64 a, .int .i64 b] w fun e w' => e = .returned (.int .i64 (sat (a + b))) ∧ w = w' := by
  obtain ⟨S, hS⟩ : ∃ S, a + b = S := ⟨_, rfl⟩
  rw [hS, ← sat_min]
  go_enter Tryz.func161, Tryz.ntmps161
  go_wp2_with fail
  go_ret
  exact ⟨rfl, rfl⟩
theorem sat_over {a b q : Int} (ha : 1 ≤ a) (hq : 1152921504606846976 / a = q) (h : q < b) : sat (a * b) = 1152921504606846976 := by
  have h1 := Int.lt_mul_ediv_self_add (x := 1152921504606846976) (k := a) (by omega)
  rw [hq] at h1
  have h2 : a * (q + 1) ≤ a * b := Int.mul_le_mul_of_nonneg_left (by omega) (by omega)
  rw [Int.mul_add, Int.mul_one] at h2
  exact sat_top (by omega)
theorem mul_under {a b q : Int} (ha : 1 ≤ a) (hb : 0 ≤ b) (hq : 1152921504606846976 / a = q) (h : b ≤ q) : 0 ≤ a * b ∧ a * b ≤ 1152921504606846976 := by
  have h1 := Int.mul_ediv_self_le (x := 1152921504606846976) (k := a) (by omega)
  rw [hq] at h1
  have h2 : a * b ≤ a * q := Int.mul_le_mul_of_nonneg_left h (by omega)
  exact ⟨Int.mul_nonneg (by omega) hb, by omega⟩
theorem cost_times (a b : Int) (w : World) (a0 : 0 ≤ a) (a1 : a ≤ 16777216) (b0 : 0 ≤ b) (b1 : b ≤ 1152921504606846976) :
    Calls Tryz.prog 162 #[.int .i64 a, .int .i64 b] w fun e w' => e = .returned (.int .i64 (sat (a * b))) ∧ w = w' := by
  by_cases ha : a = 0
  · subst ha
    rw [show sat (0 * b) = 0 by rw [Int.zero_mul]; rfl]
    go_enter Tryz.func162, Tryz.ntmps162
    go_wp2_with fail
    go_ret
    exact ⟨rfl, rfl⟩
  · have t1 : (a != 0) = true := bdiff ha
    have t2 : (a == 0) = false := bno ha
    have q0 : 0 ≤ 1152921504606846976 / a := Int.ediv_nonneg (by omega) (by omega)
    have q1 : 1152921504606846976 / a ≤ 1152921504606846976 := Int.ediv_le_self _ (by omega)
    have e1 : (1152921504606846976 : Int).tdiv a = 1152921504606846976 / a := Int.tdiv_eq_ediv_of_nonneg (by omega)
    obtain ⟨q, hq⟩ : ∃ q, 1152921504606846976 / a = q := ⟨_, rfl⟩
    rw [hq] at q0 q1 e1
    have wq : IntKind.i64.wrap q = q := IntWalk.i64_in _ (by omega)
    by_cases hb : q < b
    · have t3 : decide (b > q) = true := by simp; omega
      rw [sat_over (by omega) hq hb]
      go_enter Tryz.func162, Tryz.ntmps162
      go_wp2_with fail
      go_ret
      exact ⟨rfl, rfl⟩
    · have t3 : decide (b > q) = false := by simp; omega
      have hm := mul_under (a := a) (by omega) b0 hq (by omega)
      obtain ⟨S, hS⟩ : ∃ S, a * b = S := ⟨_, rfl⟩
      rw [hS] at hm ⊢
      rw [← sat_min]
      go_enter Tryz.func162, Tryz.ntmps162
      go_wp2_with fail
      go_ret
      exact ⟨rfl, rfl⟩
theorem sat_nn {x : Int} (h : 0 ≤ x) : 0 ≤ sat x := sat_ge h (by omega)
set_option maxHeartbeats 4000000 in
theorem cost_est_leaf (t : Tr) (k n : Int) (a : Option Addr) (m cap : Nat) (w : World) (F : Nat → Prop) (hT : IsT w F k n a m cap t) (hok : t.allOk) (hm : m = 0) :
    Calls Tryz.prog 139 #[.agg #[.int .i64 k, .int .i64 n, .slice a m cap]] w fun e w' => e = .returned (.int .i64 t.est) ∧ Below w.heap.size w w' := by
  have hn := ((Tr.allOk_iff t).1 hok).1
  have hv : Hid (t.est = estB k n ((Tr.estL t.kids).getD 0 0) ((Tr.estL t.kids).getD 1 0) (Tr.kid t.kids 0).num (Tr.kid t.kids 1).num) := by unfold Hid; rw [Tr.est_kids, hT.ek, hT.en]
  have hb : (k = 1 ∧ 1 ≤ n ∧ n ≤ 64) ∨ (k = 2 ∧ 2 ≤ n ∧ n ≤ 5) ∨ (k = 3 ∧ ∃ j, 1 ≤ j ∧ j ≤ 24 ∧ n = ((2 ^ j : Nat) : Int)) := by
    rw [hT.ek, hT.en]
    have hl : t.kids.length = 0 := by rw [← hT.em]; exact hm
    rcases node_cases hn with h | h | h | h | h | h
    · exact .inl ⟨h.1, h.2.2⟩
    · exact .inr (.inl ⟨h.1, h.2.2⟩)
    · exact .inr (.inr ⟨h.1, h.2.2⟩)
    all_goals (exfalso; omega)
  rw [hv.out]
  generalize (Tr.estL t.kids).getD 0 0 = e0
  generalize (Tr.estL t.kids).getD 1 0 = e1
  generalize (Tr.kid t.kids 0).num = k0
  generalize (Tr.kid t.kids 1).num = k1
  clear hv hn hok hT
  rcases hb with ⟨rfl, h1, h2⟩ | ⟨rfl, h1, h2⟩ | ⟨rfl, j, h1, h2, h3⟩
  · rw [show estB 1 n e0 e1 k0 k1 = n * n by unfold estB; rw [if_pos rfl]]
    have a1 := Int.mul_le_mul h1 h1 (by omega) (by omega)
    have a2 := Int.mul_le_mul h2 h2 (by omega) (by omega)
    obtain ⟨S, hS⟩ : ∃ S, n * n = S := ⟨_, rfl⟩
    rw [hS] at a1 a2 ⊢
    go_enter Tryz.func139, Tryz.ntmps139
    go_wp2_with fail
    go_ret
    exact ⟨rfl, (Below.refl _ _).alloc (Nat.le_refl _) _⟩
  · rw [show estB 2 n e0 e1 k0 k1 = 2 * n by unfold estB; rw [if_neg (by omega), if_pos rfl]]
    go_enter Tryz.func139, Tryz.ntmps139
    go_wp2_with fail
    go_ret
    exact ⟨rfl, (Below.refl _ _).alloc (Nat.le_refl _) _⟩
  · rw [show estB 3 n e0 e1 k0 k1 = n * lg n by unfold estB; rw [if_neg (by omega), if_neg (by omega), if_pos rfl]]
    have h9 : 2 ^ j ≤ 2 ^ 24 := Nat.pow_le_pow_right (by omega) h2
    have e9 : (2 : Nat) ^ 24 = 16777216 := by decide
    have h8 : 0 < 2 ^ j := Nat.pos_of_ne_zero (by simp)
    have hn0 : 0 ≤ n := by omega
    have hn1 : n ≤ 16777216 := by omega
    have HB : Hid (∀ W, Calls Tryz.prog 145 #[.int .u64 n] W fun e w' => e = .returned (.int .i64 (lg n + 1)) ∧ W = w') := fun W => by
      have := bits_Len n W (by omega) (by omega)
      rwa [show ((Lib.bitLen n.toNat : Nat) : Int) = lg n + 1 by unfold lg; omega] at this
    have hlg : lg n = j := by rw [h3]; exact lg_pow j h2
    have hm2 := Int.mul_le_mul hn1 (show (j : Int) ≤ 24 by omega) (by omega) (by omega)
    have hm3 := Int.mul_nonneg hn0 (show (0 : Int) ≤ (j : Int) by omega)
    rw [hlg] at HB ⊢
    obtain ⟨S, hS⟩ : ∃ S, n * (j : Int) = S := ⟨_, rfl⟩
    rw [hS] at hm2 hm3 ⊢
    clear h3 h9 e9 h8 hlg
    have e1 : (j : Int) + 1 - 1 = (j : Int) := by omega
    go_enter Tryz.func139, Tryz.ntmps139
    go_wp2_with fail
    go_quiet ((go_at_call 145; exact Calls.quiet_of_same (sameW (HB.out _))))
    go_wp2_with fail
    go_ret
    exact ⟨rfl, below_drewN ((Below.refl _ _).alloc (Nat.le_refl _) _) _⟩
end Go.Proofs.YtlnlijeamflpiaaGreat

namespace Go.Proofs.YtlnlijeamflpiaaGreat
open Go.RowKit
set_option linter.unusedVariables false
set_option linter.unusedSimpArgs false
set_option maxRecDepth 100000
set_option maxRecDepth 20000
set_option maxHeartbeats 8000000 in
theorem cost_est (N : Nat) (hN : N ≤ 4194304) : ∀ (t : Tr) (k n : Int) (a : Option Addr) (m cap : Nat) (w : World) (F : Nat → Prop), t.size ≤ N → IsT w F k n a m cap t → t.allOk →
    Calls Tryz.prog 139 #[.agg #[.int .i64 k, .int .i64 n, .slice a m cap]] w fun e w' => e = .returned (.int .i64 t.est) ∧ Below w.heap.size w w' := by
  induction N with
  | zero => intro t k n a m cap w F h; have := Tr.size_pos t; omega
  | succ N ih =>
    intro t k n a m cap w F hs hT hok
    by_cases hm : m = 0
    · exact cost_est_leaf t k n a m cap w F hT hok hm
    have hn := ((Tr.allOk_iff t).1 hok)
    have hlen := hT.em
    have hv : Hid (t.est = estB k n ((Tr.estL t.kids).getD 0 0) ((Tr.estL t.kids).getD 1 0) (Tr.kid t.kids 0).num (Tr.kid t.kids 1).num) := by unfold Hid; rw [Tr.est_kids, hT.ek, hT.en]
    rw [hv.out, Tr.estL_at _ 0 (by omega)]
    obtain ⟨b, off, k0, n0, a0, m0, c0, rfl, hF0, hbl, x0, x1, x2, hT0⟩ := hT.kid 0 (by omega)
    rw [Nat.zero_mul, Nat.add_zero] at x0 x1 x2
    have ok0 := hn.2 0 (by omega)
    have bd0 := est_bd ok0
    have s0 : (Tr.kid t.kids 0).size ≤ N := by have := Tr.size_kid t 0 (by omega); omega
    have CE0 : Hid (∀ W, Below w.heap.size w W → Calls Tryz.prog 139 #[.agg #[.int .i64 k0, .int .i64 n0, .slice a0 m0 c0]] W fun e w' => e = .returned (.int .i64 (Tr.kid t.kids 0).est) ∧ Below W.heap.size W w') := fun W hb => ih (by omega) _ k0 n0 a0 m0 c0 W F s0 (hT0.below hb) ok0
    have hen0 : (Tr.kid t.kids 0).num = n0 := hT0.en.symm
    obtain ⟨E0, hE0⟩ : ∃ E, (Tr.kid t.kids 0).est = E := ⟨_, rfl⟩
    rw [hE0] at CE0 bd0 ⊢
    have hbx : (w.alloc (.cells #[.int .i64 k, .int .i64 n, .slice (some ⟨b, off, none⟩) m cap] 48)).heap[w.heap.size]? = some (.cells #[.int .i64 k, .int .i64 n, .slice (some ⟨b, off, none⟩) m cap] 48 (0, 0)) := block_new rfl
    have HBX := Lib.hid hbx
    have HX0 := Lib.hid x0
    have HX1 := Lib.hid x1
    have HX2 := Lib.hid x2
    have HBL := Lib.hid hbl
    clear hbx hE0 s0
    rcases (show (m = 1 ∧ ((k = 6 ∧ 3 ≤ n ∧ n ≤ 16777216) ∨ (k = 7 ∧ 2 ≤ n ∧ n ≤ 16777216 ∧ 0 ≤ n0 ∧ n0 ≤ 16777216))) ∨ (m = 2 ∧ (k = 4 ∨ k = 5) ∧ 1 ≤ n ∧ n ≤ 16777216 ∧ 2 ≤ n0 ∧ n0 ≤ n ∧ 2 ≤ (Tr.kid t.kids 1).num ∧ (Tr.kid t.kids 1).num ≤ n) by
      rw [hT.ek, hT.en, ← hen0]
      rcases node_cases hn.1 with h | h | h | h | h | h
      all_goals omega) with ⟨rfl, ⟨rfl, g1, g2⟩ | ⟨rfl, g1, g2, g3, g4⟩⟩ | ⟨rfl, hk, g1, g2, g3, g4, g5, g6⟩
    · -- Rader
      rw [show estB 6 n E0 ((Tr.estL t.kids).getD 1 0) (Tr.kid t.kids 0).num (Tr.kid t.kids 1).num = sat (sat (2 * E0) + 2 * n) by unfold estB; rw [if_neg (by omega), if_neg (by omega), if_neg (by omega), if_pos rfl]]
      have CT : Hid (∀ W, Calls Tryz.prog 162 #[.int .i64 2, .int .i64 E0] W fun e w' => e = .returned (.int .i64 (sat (2 * E0))) ∧ W = w') := fun W => cost_times 2 E0 W (by omega) (by omega) (by omega) (by omega)
      have p0 := sat_nn (show 0 ≤ 2 * E0 by omega)
      have p1 := sat_le (2 * E0)
      obtain ⟨S, hS⟩ : ∃ S, sat (2 * E0) = S := ⟨_, rfl⟩
      rw [hS] at CT p0 p1 ⊢
      have CA : Hid (∀ W, Calls Tryz.prog 161 #[.int .i64 S, .int .i64 (2 * n)] W fun e w' => e = .returned (.int .i64 (sat (S + 2 * n))) ∧ W = w') := fun W => cost_add S (2 * n) W (by omega) (by omega) (by omega) (by omega)
      obtain ⟨V, hV⟩ : ∃ V, sat (S + 2 * n) = V := ⟨_, rfl⟩
      rw [hV] at CA ⊢
      have y0 := (cell_past w (.cells #[.int .i64 6, .int .i64 n, .slice (some ⟨b, off, none⟩) 1 cap] 48) ⟨b, off, none⟩ hbl).trans x0
      have y1 := (cell_past w (.cells #[.int .i64 6, .int .i64 n, .slice (some ⟨b, off, none⟩) 1 cap] 48) ⟨b, off + 1, none⟩ hbl).trans x1
      have y2 := (cell_past w (.cells #[.int .i64 6, .int .i64 n, .slice (some ⟨b, off, none⟩) 1 cap] 48) ⟨b, off + 2, none⟩ hbl).trans x2
      have ne1 : b ≠ w.heap.size := by omega
      clear hS hV hv hT hT0 hn hok hlen hs x0 x1 x2 ok0 hm ih
      go_enter Tryz.func139, Tryz.ntmps139
      go_wp2_with fail
      refine (CE0.out _ ((Below.refl _ _).alloc (Nat.le_refl _) _)).mono ?_; rintro e w1 ⟨rfl, hb⟩
      have hb1 := chainA (Below.refl w.heap.size w) hb
      have hx := (hb.block _ (block_lt HBX.out)).trans HBX.out
      have z0 : w1.cell? ⟨w.heap.size, 0, none⟩ = some (.int .i64 6) := block_cell hx 0
      have z1 : w1.cell? ⟨w.heap.size, 1, none⟩ = some (.int .i64 n) := block_cell hx 1
      have z2 : w1.cell? ⟨w.heap.size, 2, none⟩ = some (.slice (some ⟨b, off, none⟩) 1 cap) := block_cell hx 2
      have HB1 := Lib.hid hb1
      clear hb hb1 hx y0 y1 y2
      go_wp2_with fail
      go_quiet ((first | (go_at_call 162; exact Calls.quiet_of_same (sameW (CT.out _))) | (go_at_call 161; exact Calls.quiet_of_same (sameW (CA.out _)))))
      go_wp2_with fail
      go_ret
      exact ⟨rfl, below_drewN HB1.out _⟩
    · -- Bluestein
      rw [show estB 7 n E0 ((Tr.estL t.kids).getD 1 0) (Tr.kid t.kids 0).num (Tr.kid t.kids 1).num = sat (sat (sat (2 * E0) + n0) + 3 * n) by unfold estB; rw [if_neg (by omega), if_neg (by omega), if_neg (by omega), if_neg (by omega), if_pos rfl, hen0]]
      have CT : Hid (∀ W, Calls Tryz.prog 162 #[.int .i64 2, .int .i64 E0] W fun e w' => e = .returned (.int .i64 (sat (2 * E0))) ∧ W = w') := fun W => cost_times 2 E0 W (by omega) (by omega) (by omega) (by omega)
      have p0 := sat_nn (show 0 ≤ 2 * E0 by omega)
      have p1 := sat_le (2 * E0)
      obtain ⟨S, hS⟩ : ∃ S, sat (2 * E0) = S := ⟨_, rfl⟩
      rw [hS] at CT p0 p1 ⊢
      have CA : Hid (∀ W, Calls Tryz.prog 161 #[.int .i64 S, .int .i64 n0] W fun e w' => e = .returned (.int .i64 (sat (S + n0))) ∧ W = w') := fun W => cost_add S n0 W (by omega) (by omega) (by omega) (by omega)
      have p2 := sat_nn (show 0 ≤ S + n0 by omega)
      have p3 := sat_le (S + n0)
      obtain ⟨V, hV⟩ : ∃ V, sat (S + n0) = V := ⟨_, rfl⟩
      rw [hV] at CA p2 p3 ⊢
      have CA2 : Hid (∀ W, Calls Tryz.prog 161 #[.int .i64 V, .int .i64 (3 * n)] W fun e w' => e = .returned (.int .i64 (sat (V + 3 * n))) ∧ W = w') := fun W => cost_add V (3 * n) W (by omega) (by omega) (by omega) (by omega)
      obtain ⟨V2, hV2⟩ : ∃ V2, sat (V + 3 * n) = V2 := ⟨_, rfl⟩
      rw [hV2] at CA2 ⊢
      have y0 := (cell_past w (.cells #[.int .i64 7, .int .i64 n, .slice (some ⟨b, off, none⟩) 1 cap] 48) ⟨b, off, none⟩ hbl).trans x0
      have y1 := (cell_past w (.cells #[.int .i64 7, .int .i64 n, .slice (some ⟨b, off, none⟩) 1 cap] 48) ⟨b, off + 1, none⟩ hbl).trans x1
      have y2 := (cell_past w (.cells #[.int .i64 7, .int .i64 n, .slice (some ⟨b, off, none⟩) 1 cap] 48) ⟨b, off + 2, none⟩ hbl).trans x2
      clear hS hV hV2 hv hT hT0 hn hok hlen hs x0 x1 x2 ok0 hm ih
      go_enter Tryz.func139, Tryz.ntmps139
      go_wp2_with fail
      refine (CE0.out _ ((Below.refl _ _).alloc (Nat.le_refl _) _)).mono ?_; rintro e w1 ⟨rfl, hb⟩
      have hb1 := chainA (Below.refl w.heap.size w) hb
      have hx := (hb.block _ (block_lt HBX.out)).trans HBX.out
      have z0 : w1.cell? ⟨w.heap.size, 0, none⟩ = some (.int .i64 7) := block_cell hx 0
      have z1 : w1.cell? ⟨w.heap.size, 1, none⟩ = some (.int .i64 n) := block_cell hx 1
      have z2 : w1.cell? ⟨w.heap.size, 2, none⟩ = some (.slice (some ⟨b, off, none⟩) 1 cap) := block_cell hx 2
      have u1 := (hb1.cell (p := ⟨b, off + 1, none⟩) hbl).trans HX1.out
      have HB1 := Lib.hid hb1
      clear hb hb1 hx y0 y1 y2
      go_wp2_with fail
      go_quiet ((first | (go_at_call 162; exact Calls.quiet_of_same (sameW (CT.out _))) | (go_at_call 161; exact Calls.quiet_of_same (sameW (CA.out _))) | (go_at_call 161; exact Calls.quiet_of_same (sameW (CA2.out _)))))
      go_wp2_with fail
      go_ret
      exact ⟨rfl, below_drewN HB1.out _⟩
    · -- products
      obtain ⟨b', off', k1, n1, a1, m1, c1, hab, hF1, _, v0, v1, v2, hT1⟩ := hT.kid 1 (by omega)
      simp only [Option.some.injEq, Addr.mk.injEq, and_true] at hab
      obtain ⟨rfl, rfl⟩ := hab
      rw [Nat.one_mul] at v0 v1 v2
      have ok1 := hn.2 1 (by omega)
      have bd1 := est_bd ok1
      have s1 : (Tr.kid t.kids 1).size ≤ N := by have := Tr.size_kid t 1 (by omega); omega
      have CE1 : Hid (∀ W, Below w.heap.size w W → Calls Tryz.prog 139 #[.agg #[.int .i64 k1, .int .i64 n1, .slice a1 m1 c1]] W fun e w' => e = .returned (.int .i64 (Tr.kid t.kids 1).est) ∧ Below W.heap.size W w') := fun W hb => ih (by omega) _ k1 n1 a1 m1 c1 W F s1 (hT1.below hb) ok1
      have hen1 : (Tr.kid t.kids 1).num = n1 := hT1.en.symm
      rw [Tr.estL_at _ 1 (by omega), hen0, hen1]
      rw [hen1] at g5 g6
      obtain ⟨E1, hE1⟩ : ∃ E, (Tr.kid t.kids 1).est = E := ⟨_, rfl⟩
      rw [hE1] at CE1 bd1 ⊢
      clear hE1 s1 ok1
      have CT0 : Hid (∀ W, Calls Tryz.prog 162 #[.int .i64 n1, .int .i64 E0] W fun e w' => e = .returned (.int .i64 (sat (n1 * E0))) ∧ W = w') := fun W => cost_times n1 E0 W (by omega) (by omega) (by omega) (by omega)
      have CT1 : Hid (∀ W, Calls Tryz.prog 162 #[.int .i64 n0, .int .i64 E1] W fun e w' => e = .returned (.int .i64 (sat (n0 * E1))) ∧ W = w') := fun W => cost_times n0 E1 W (by omega) (by omega) (by omega) (by omega)
      have p0 := sat_nn (Int.mul_nonneg (show 0 ≤ n1 by omega) (show 0 ≤ E0 by omega))
      have p1 := sat_le (n1 * E0)
      have p2 := sat_nn (Int.mul_nonneg (show 0 ≤ n0 by omega) (show 0 ≤ E1 by omega))
      have p3 := sat_le (n0 * E1)
      have hval : Hid (estB k n E0 E1 n0 n1 = if k = 4 then sat (sat (sat (n1 * E0) + sat (n0 * E1)) + n) else sat (sat (n1 * E0) + sat (n0 * E1))) := by
        unfold Hid estB
        rw [if_neg (by omega), if_neg (by omega), if_neg (by omega), if_neg (by omega), if_neg (by omega)]
      rw [hval.out]
      obtain ⟨S, hS⟩ : ∃ S, sat (n1 * E0) = S := ⟨_, rfl⟩
      rw [hS] at CT0 p0 p1 ⊢
      obtain ⟨S2, hS2⟩ : ∃ S, sat (n0 * E1) = S := ⟨_, rfl⟩
      rw [hS2] at CT1 p2 p3 ⊢
      have CA : Hid (∀ W, Calls Tryz.prog 161 #[.int .i64 S, .int .i64 S2] W fun e w' => e = .returned (.int .i64 (sat (S + S2))) ∧ W = w') := fun W => cost_add S S2 W (by omega) (by omega) (by omega) (by omega)
      have p4 := sat_nn (show 0 ≤ S + S2 by omega)
      have p5 := sat_le (S + S2)
      obtain ⟨V, hV⟩ : ∃ V, sat (S + S2) = V := ⟨_, rfl⟩
      rw [hV] at CA p4 p5 ⊢
      have CA2 : Hid (∀ W, Calls Tryz.prog 161 #[.int .i64 V, .int .i64 n] W fun e w' => e = .returned (.int .i64 (sat (V + n))) ∧ W = w') := fun W => cost_add V n W (by omega) (by omega) (by omega) (by omega)
      obtain ⟨V2, hV2⟩ : ∃ V2, sat (V + n) = V2 := ⟨_, rfl⟩
      rw [hV2] at CA2 ⊢
      have y0 := (cell_past w (.cells #[.int .i64 k, .int .i64 n, .slice (some ⟨b, off, none⟩) 2 cap] 48) ⟨b, off, none⟩ hbl).trans x0
      have y1 := (cell_past w (.cells #[.int .i64 k, .int .i64 n, .slice (some ⟨b, off, none⟩) 2 cap] 48) ⟨b, off + 1, none⟩ hbl).trans x1
      have y2 := (cell_past w (.cells #[.int .i64 k, .int .i64 n, .slice (some ⟨b, off, none⟩) 2 cap] 48) ⟨b, off + 2, none⟩ hbl).trans x2
      have HV0 := Lib.hid v0
      have HV1 := Lib.hid v1
      have HV2 := Lib.hid v2
      clear hS hV hV2 hS2 hv hval hT hT0 hT1 hn hok hlen hs x0 x1 x2 v0 v1 v2 ok0 hm ih hen0 hen1
      rcases hk with rfl | rfl
      · skip
        go_enter Tryz.func139, Tryz.ntmps139
        go_wp2_with fail
        refine (CE0.out _ ((Below.refl _ _).alloc (Nat.le_refl _) _)).mono ?_; rintro e w1 ⟨rfl, hb⟩
        have hb1 := chainA (Below.refl w.heap.size w) hb
        have hx := (hb.block _ (block_lt HBX.out)).trans HBX.out
        have z0 : w1.cell? ⟨w.heap.size, 0, none⟩ = some (.int .i64 4) := block_cell hx 0
        have z1 : w1.cell? ⟨w.heap.size, 1, none⟩ = some (.int .i64 n) := block_cell hx 1
        have z2 : w1.cell? ⟨w.heap.size, 2, none⟩ = some (.slice (some ⟨b, off, none⟩) 2 cap) := block_cell hx 2
        have u1 := (hb1.cell (p := ⟨b, off + 1, none⟩) hbl).trans HX1.out
        have u3 := (hb1.cell (p := ⟨b, off + 3, none⟩) hbl).trans HV0.out
        have u4 := (hb1.cell (p := ⟨b, off + 3 + 1, none⟩) hbl).trans HV1.out
        have u5 := (hb1.cell (p := ⟨b, off + 3 + 2, none⟩) hbl).trans HV2.out
        have HB1 := Lib.hid hb1
        have HXX := Lib.hid hx
        have hlx := block_lt hx
        have hlb : b < w1.heap.size := Nat.lt_of_lt_of_le hbl hb1.size
        clear hb hb1 hx y0 y1 y2
        go_wp2_with fail
        have hb : Below w1.heap.size w1 w1.drew := (Below.refl _ _).drew
        go_region_held3 (fun w' => (w'.cell? ⟨w.heap.size, 2, none⟩ = some (.slice (some ⟨b, off, none⟩) 2 cap) ∧ w'.cell? ⟨b, off + 1, none⟩ = some (.int .i64 n0)) ∧ (w'.cell? ⟨b, off + 3, none⟩ = some (.int .i64 k1) ∧ w'.cell? ⟨b, off + 3 + 1, none⟩ = some (.int .i64 n1) ∧ w'.cell? ⟨b, off + 3 + 2, none⟩ = some (.slice a1 m1 c1))) (first | exact ⟨⟨z2, u1⟩, u3, u4, u5⟩ | exact ⟨⟨(hb.cell (p := ⟨w.heap.size, 2, none⟩) hlx).trans z2, (hb.cell (p := ⟨b, off + 1, none⟩) hlb).trans u1⟩, (hb.cell (p := ⟨b, off + 3, none⟩) hlb).trans u3, (hb.cell (p := ⟨b, off + 3 + 1, none⟩) hlb).trans u4, (hb.cell (p := ⟨b, off + 3 + 2, none⟩) hlb).trans u5⟩) ((first | (go_at_call 139; ((with_reducible refine (CE1.out _ (chain HB1.out hb)).mono ?_); rintro e z ⟨rfl, hc⟩; have hb := chain hb hc)) | (go_at_call 162; ((with_reducible refine (CT0.out _).mono ?_); rintro e z ⟨rfl, rfl⟩)) | (go_at_call 162; ((with_reducible refine (CT1.out _).mono ?_); rintro e z ⟨rfl, rfl⟩)) | (go_at_call 161; ((with_reducible refine (CA.out _).mono ?_); rintro e z ⟨rfl, rfl⟩))))
        clear z0 z1 z2 u1 u3 u4 u5
        have hx := (hb.block _ hlx).trans HXX.out
        have z0 : z.cell? ⟨w.heap.size, 0, none⟩ = some (.int .i64 4) := block_cell hx 0
        have z1 : z.cell? ⟨w.heap.size, 1, none⟩ = some (.int .i64 n) := block_cell hx 1
        have HBZ := Lib.hid (chain HB1.out hb)
        clear hx hb
        go_wp2_with fail
        refine (CA2.out _).mono ?_; rintro e z2 ⟨rfl, rfl⟩
        go_wp2_with fail
        go_ret
        exact ⟨rfl, HBZ.out⟩
      · skip
        go_enter Tryz.func139, Tryz.ntmps139
        go_wp2_with fail
        refine (CE0.out _ ((Below.refl _ _).alloc (Nat.le_refl _) _)).mono ?_; rintro e w1 ⟨rfl, hb⟩
        have hb1 := chainA (Below.refl w.heap.size w) hb
        have hx := (hb.block _ (block_lt HBX.out)).trans HBX.out
        have z0 : w1.cell? ⟨w.heap.size, 0, none⟩ = some (.int .i64 5) := block_cell hx 0
        have z1 : w1.cell? ⟨w.heap.size, 1, none⟩ = some (.int .i64 n) := block_cell hx 1
        have z2 : w1.cell? ⟨w.heap.size, 2, none⟩ = some (.slice (some ⟨b, off, none⟩) 2 cap) := block_cell hx 2
        have u1 := (hb1.cell (p := ⟨b, off + 1, none⟩) hbl).trans HX1.out
        have u3 := (hb1.cell (p := ⟨b, off + 3, none⟩) hbl).trans HV0.out
        have u4 := (hb1.cell (p := ⟨b, off + 3 + 1, none⟩) hbl).trans HV1.out
        have u5 := (hb1.cell (p := ⟨b, off + 3 + 2, none⟩) hbl).trans HV2.out
        have HB1 := Lib.hid hb1
        have HXX := Lib.hid hx
        have hlx := block_lt hx
        have hlb : b < w1.heap.size := Nat.lt_of_lt_of_le hbl hb1.size
        clear hb hb1 hx y0 y1 y2
        go_wp2_with fail
        have hb : Below w1.heap.size w1 w1.drew := (Below.refl _ _).drew
        go_region_held3 (fun w' => (w'.cell? ⟨w.heap.size, 2, none⟩ = some (.slice (some ⟨b, off, none⟩) 2 cap) ∧ w'.cell? ⟨b, off + 1, none⟩ = some (.int .i64 n0)) ∧ (w'.cell? ⟨b, off + 3, none⟩ = some (.int .i64 k1) ∧ w'.cell? ⟨b, off + 3 + 1, none⟩ = some (.int .i64 n1) ∧ w'.cell? ⟨b, off + 3 + 2, none⟩ = some (.slice a1 m1 c1))) (first | exact ⟨⟨z2, u1⟩, u3, u4, u5⟩ | exact ⟨⟨(hb.cell (p := ⟨w.heap.size, 2, none⟩) hlx).trans z2, (hb.cell (p := ⟨b, off + 1, none⟩) hlb).trans u1⟩, (hb.cell (p := ⟨b, off + 3, none⟩) hlb).trans u3, (hb.cell (p := ⟨b, off + 3 + 1, none⟩) hlb).trans u4, (hb.cell (p := ⟨b, off + 3 + 2, none⟩) hlb).trans u5⟩) ((first | (go_at_call 139; ((with_reducible refine (CE1.out _ (chain HB1.out hb)).mono ?_); rintro e z ⟨rfl, hc⟩; have hb := chain hb hc)) | (go_at_call 162; ((with_reducible refine (CT0.out _).mono ?_); rintro e z ⟨rfl, rfl⟩)) | (go_at_call 162; ((with_reducible refine (CT1.out _).mono ?_); rintro e z ⟨rfl, rfl⟩)) | (go_at_call 161; ((with_reducible refine (CA.out _).mono ?_); rintro e z ⟨rfl, rfl⟩))))
        clear z0 z1 z2 u1 u3 u4 u5
        have hx := (hb.block _ hlx).trans HXX.out
        have z0 : z.cell? ⟨w.heap.size, 0, none⟩ = some (.int .i64 5) := block_cell hx 0
        have z1 : z.cell? ⟨w.heap.size, 1, none⟩ = some (.int .i64 n) := block_cell hx 1
        have HBZ := Lib.hid (chain HB1.out hb)
        clear hx hb
        go_wp2_with fail
        go_ret
        exact ⟨rfl, HBZ.out⟩
theorem cost_Est (t : Tr) (k n : Int) (a : Option Addr) (m cap : Nat) (w : World) (F : Nat → Prop) (hs : t.size ≤ 4194304) (hT : IsT w F k n a m cap t) :
    Calls Tryz.prog 110 #[.agg #[.int .i64 k, .int .i64 n, .slice a m cap]] w fun e w' => e = .returned (.tuple #[.int .i64 (if chk t = 0 then t.est else 0), .int .i64 (chk t)]) ∧ Below w.heap.size w w' := by
  have CC : Hid (∀ W, Below w.heap.size w W → Calls Tryz.prog 57 #[.agg #[.int .i64 k, .int .i64 n, .slice a m cap]] W fun e w' => e = .returned (.int .i64 (chk t)) ∧ Below W.heap.size W w') := fun W hb => valid_Check t k n a m cap W F hs (hT.below hb)
  have CE : Hid (chk t = 0 → ∀ W, Below w.heap.size w W → Calls Tryz.prog 139 #[.agg #[.int .i64 k, .int .i64 n, .slice a m cap]] W fun e w' => e = .returned (.int .i64 t.est) ∧ Below W.heap.size W w') := fun h W hb => cost_est 4194304 (by omega) t k n a m cap W F hs (hT.below hb) (chk_zero.1 h).2
  obtain ⟨C, hC⟩ : ∃ C, chk t = C := ⟨_, rfl⟩
  rw [hC] at CC CE ⊢
  clear hC hT hs
  by_cases hc : C = 0
  · subst hc
    have CE1 := Lib.hid (CE.out rfl)
    clear CE
    rw [if_pos rfl]
    obtain ⟨E, hE⟩ : ∃ E, t.est = E := ⟨_, rfl⟩
    rw [hE] at CE1 ⊢
    clear hE
    go_enter Tryz.func110, Tryz.ntmps110
    go_wp2_with fail
    refine (CC.out _ ((Below.refl _ _).alloc (Nat.le_refl _) _)).mono ?_; rintro e w1 ⟨rfl, hb⟩
    have hb1 := chainA (Below.refl w.heap.size w) hb
    have hx := (hb.block w.heap.size (by simp)).trans (block_new rfl)
    have z0 : w1.cell? ⟨w.heap.size, 0, none⟩ = some (.int .i64 k) := block_cell hx 0
    have z1 : w1.cell? ⟨w.heap.size, 1, none⟩ = some (.int .i64 n) := block_cell hx 1
    have z2 : w1.cell? ⟨w.heap.size, 2, none⟩ = some (.slice a m cap) := block_cell hx 2
    have HB1 := Lib.hid hb1
    clear hb hb1 hx
    go_wp2_with fail
    refine (CE1.out _ HB1.out).mono ?_; rintro e w2 ⟨rfl, hb2⟩
    have hbe := chain HB1.out hb2
    clear hb2
    go_wp2_with fail
    go_ret2
    exact ⟨rfl, hbe⟩
  · have t1 : (C != 0) = true := bdiff hc
    rw [if_neg hc]
    clear hc CE
    go_enter Tryz.func110, Tryz.ntmps110
    go_wp2_with fail
    refine (CC.out _ ((Below.refl _ _).alloc (Nat.le_refl _) _)).mono ?_; rintro e w1 ⟨rfl, hb⟩
    have hb1 := chainA (Below.refl w.heap.size w) hb
    clear hb
    go_wp2_with fail
    go_ret2
    exact ⟨rfl, hb1⟩
end Go.Proofs.YtlnlijeamflpiaaGreat

namespace Go.Proofs.YtlnlijeamflpiaaGreat
open Go.RowKit
set_option linter.unusedVariables false
set_option linter.unusedSimpArgs false
set_option maxRecDepth 100000
set_option maxRecDepth 20000
/-- A plan's estimate; of others more than all. -/
def wt (t : Tr) : Int := if chk t = 0 then t.est else 1152921504606846977
/-- By the estimate, then as trees. -/
def wcmp (t u : Tr) : Int := orI (cmpI (wt t) (wt u)) (Tr.cmp t u)
theorem wt_bd (t : Tr) : 1 ≤ wt t ∧ wt t ≤ 1152921504606846977 := by
  unfold wt
  split
  · rename_i h
    have := est_bd (chk_zero.1 h).2
    omega
  · omega
theorem wcmp_neg (t u : Tr) : wcmp u t = - wcmp t u := orI_neg (cmpI_neg _ _) (fun _ => Tr.cmp_neg _ _)
theorem orL_two (x y : Int) : orL [x, y] = orI x y := by
  simp only [orL]
  unfold orI
  split <;> (try split) <;> first | rfl | omega
theorem two_boxes (w : World) (cs ds : Array Value) (T U : TypeId) : ∃ W0, (w.alloc (.cells cs T)).alloc (.cells ds U) = W0 ∧ Below w.heap.size w W0 ∧ W0.heap[w.heap.size]? = some (.cells cs T (0, 0)) ∧ W0.heap[w.heap.size + 1]? = some (.cells ds U (0, 0)) :=
  ⟨_, rfl, ((Below.refl _ _).alloc (Nat.le_refl _) _).alloc (by simp) _, block_old (by simp) (block_new rfl), block_new (by simp)⟩
theorem cost_weight (t : Tr) (k n : Int) (a : Option Addr) (m cap : Nat) (w : World) (F : Nat → Prop) (hs : t.size ≤ 4194304) (hT : IsT w F k n a m cap t) :
    Calls Tryz.prog 85 #[.agg #[.int .i64 k, .int .i64 n, .slice a m cap]] w fun e w' => e = .returned (.int .i64 (wt t)) ∧ Below w.heap.size w w' := by
  have CE : Hid (∀ W, Below w.heap.size w W → Calls Tryz.prog 110 #[.agg #[.int .i64 k, .int .i64 n, .slice a m cap]] W fun e w' => e = .returned (.tuple #[.int .i64 (if chk t = 0 then t.est else 0), .int .i64 (chk t)]) ∧ Below W.heap.size W w') := fun W hb => cost_Est t k n a m cap W F hs (hT.below hb)
  have hw : Hid (wt t = if chk t = 0 then t.est else 1152921504606846977) := rfl
  rw [hw.out]
  obtain ⟨C, hC⟩ : ∃ C, chk t = C := ⟨_, rfl⟩
  obtain ⟨E, hE⟩ : ∃ E, t.est = E := ⟨_, rfl⟩
  rw [hC, hE] at CE ⊢
  clear hC hE hT hs hw
  by_cases hc : C = 0
  · subst hc
    rw [if_pos rfl] at CE ⊢
    go_enter Tryz.func85, Tryz.ntmps85
    go_wp2_with fail
    refine (CE.out _ ((Below.refl _ _).alloc (Nat.le_refl _) _)).mono ?_; rintro e w1 ⟨rfl, hb⟩
    have hb1 := chainA (Below.refl w.heap.size w) hb
    clear hb
    go_wp2_with fail
    go_ret
    exact ⟨rfl, hb1⟩
  · have t1 : (C == 0) = false := bno hc
    rw [if_neg hc] at CE ⊢
    clear hc
    go_enter Tryz.func85, Tryz.ntmps85
    go_wp2_with fail
    refine (CE.out _ ((Below.refl _ _).alloc (Nat.le_refl _) _)).mono ?_; rintro e w1 ⟨rfl, hb⟩
    have hb1 := chainA (Below.refl w.heap.size w) hb
    clear hb
    go_wp2_with fail
    go_ret
    exact ⟨rfl, hb1⟩
set_option maxHeartbeats 2000000 in
theorem cost_Cmp (t u : Tr) (k n : Int) (a : Option Addr) (m c : Nat) (k' n' : Int) (a' : Option Addr) (m' c' : Nat) (w : World) (F G : Nat → Prop) (hs : t.size ≤ 4194304) (hu : u.size ≤ 4194304) (hT : IsT w F k n a m c t) (hU : IsT w G k' n' a' m' c' u) :
    Calls Tryz.prog 54 #[.agg #[.int .i64 k, .int .i64 n, .slice a m c], .agg #[.int .i64 k', .int .i64 n', .slice a' m' c']] w fun e w' => e = .returned (.int .i64 (wcmp t u)) ∧ Below w.heap.size w w' := by
  have C0 : Hid (∀ W, Below w.heap.size w W → Calls Tryz.prog 85 #[.agg #[.int .i64 k, .int .i64 n, .slice a m c]] W fun e w' => e = .returned (.int .i64 (wt t)) ∧ Below W.heap.size W w') := fun W hb => cost_weight t _ _ _ _ _ W F hs (hT.below hb)
  have C1 : Hid (∀ W, Below w.heap.size w W → Calls Tryz.prog 85 #[.agg #[.int .i64 k', .int .i64 n', .slice a' m' c']] W fun e w' => e = .returned (.int .i64 (wt u)) ∧ Below W.heap.size W w') := fun W hb => cost_weight u _ _ _ _ _ W G hu (hU.below hb)
  have CD : Hid (∀ W, Below w.heap.size w W → Calls Tryz.prog 86 #[.agg #[.int .i64 k, .int .i64 n, .slice a m c], .agg #[.int .i64 k', .int .i64 n', .slice a' m' c']] W fun e w' => e = .returned (.int .i64 (Tr.cmp t u)) ∧ Below W.heap.size W w') := fun W hb => desc_Cmp 4194304 (by omega) _ _ _ _ _ _ _ _ _ _ _ _ W _ _ hs hu (hT.below hb) (hU.below hb)
  have bt := wt_bd t
  have bu := wt_bd u
  have HR : Hid (wcmp t u = orI (cmpI (wt t) (wt u)) (Tr.cmp t u)) := rfl
  rw [HR.out]
  have bq := Tr.cmp_bd _ t u (Nat.le_refl _)
  obtain ⟨x, hx⟩ : ∃ x, wt t = x := ⟨_, rfl⟩
  obtain ⟨y, hy⟩ : ∃ y, wt u = y := ⟨_, rfl⟩
  obtain ⟨q, hq⟩ : ∃ q, Tr.cmp t u = q := ⟨_, rfl⟩
  rw [hx] at C0 bt ⊢
  rw [hy] at C1 bu ⊢
  rw [hq] at CD bq ⊢
  clear hx hy hq HR hT hU hs hu
  have CC : Hid (∀ W, Calls Tryz.prog 53 #[.int .i64 x, .int .i64 y] W fun e w' => e = .returned (.int .i64 (cmpI x y)) ∧ W = w') := fun W => cmp_Compare _ _ _
  have bp := cmpI_bd x y
  obtain ⟨p, hp⟩ : ∃ p, cmpI x y = p := ⟨_, rfl⟩
  rw [hp] at CC bp ⊢
  have COr : Hid (∀ W : World, Calls Tryz.prog 52 #[.slice (some ⟨W.heap.size, 0, none⟩) 2 2] (W.alloc (.cells #[.int .i64 p, .int .i64 q] 3)) fun e w' => e = .returned (.int .i64 (orI p q)) ∧ W.alloc (.cells #[.int .i64 p, .int .i64 q] 3) = w') := fun W => by
    have := cmp_Or (some ⟨W.heap.size, 0, none⟩) 2 2 [p, q] (W.alloc (.cells #[.int .i64 p, .int .i64 q] 3)) (row_new .i64 W 3 [p, q] (by
      intro z hz
      simp only [List.mem_cons, List.not_mem_nil, or_false] at hz
      rcases hz with rfl | rfl <;> exact fits_i64.2 (by omega)) (by simp)) rfl (by omega)
    rwa [orL_two] at this
  clear hp bt bu bp bq
  obtain ⟨W0, hW0, hb0, x0, x1⟩ := two_boxes w #[.int .i64 k, .int .i64 n, .slice a m c] #[.int .i64 k', .int .i64 n', .slice a' m' c'] 48 48
  have HB := Lib.hid hb0
  have HW0 := Lib.hid hW0
  have XD := Lib.hid x0
  have XE := Lib.hid x1
  clear hb0 hW0 x0 x1
  go_enter Tryz.func54, Tryz.ntmps54
  go_wp2_with fail
  rw [HW0.out]
  have D0 : W0.cell? ⟨w.heap.size, 0, none⟩ = some (.int .i64 k) := block_cell XD.out 0
  have D1 : W0.cell? ⟨w.heap.size, 1, none⟩ = some (.int .i64 n) := block_cell XD.out 1
  have D2 : W0.cell? ⟨w.heap.size, 2, none⟩ = some (.slice a m c) := block_cell XD.out 2
  have E0 : W0.cell? ⟨w.heap.size + 1, 0, none⟩ = some (.int .i64 k') := block_cell XE.out 0
  have E1 : W0.cell? ⟨w.heap.size + 1, 1, none⟩ = some (.int .i64 n') := block_cell XE.out 1
  have E2 : W0.cell? ⟨w.heap.size + 1, 2, none⟩ = some (.slice a' m' c') := block_cell XE.out 2
  have lD := block_lt XD.out
  have lE := block_lt XE.out
  have hb : Below W0.heap.size W0 W0.drew := (Below.refl _ _).drew
  go_region_held3 (fun w' => (w'.cell? ⟨w.heap.size, 0, none⟩ = some (.int .i64 k) ∧ w'.cell? ⟨w.heap.size, 1, none⟩ = some (.int .i64 n) ∧ w'.cell? ⟨w.heap.size, 2, none⟩ = some (.slice a m c)) ∧ (w'.cell? ⟨w.heap.size + 1, 0, none⟩ = some (.int .i64 k') ∧ w'.cell? ⟨w.heap.size + 1, 1, none⟩ = some (.int .i64 n') ∧ w'.cell? ⟨w.heap.size + 1, 2, none⟩ = some (.slice a' m' c'))) (first | exact ⟨⟨D0, D1, D2⟩, E0, E1, E2⟩ | exact ⟨⟨(hb.cell (p := ⟨w.heap.size, 0, none⟩) lD).trans D0, (hb.cell (p := ⟨w.heap.size, 1, none⟩) lD).trans D1, (hb.cell (p := ⟨w.heap.size, 2, none⟩) lD).trans D2⟩, (hb.cell (p := ⟨w.heap.size + 1, 0, none⟩) lE).trans E0, (hb.cell (p := ⟨w.heap.size + 1, 1, none⟩) lE).trans E1, (hb.cell (p := ⟨w.heap.size + 1, 2, none⟩) lE).trans E2⟩ | exact ⟨⟨((hb.alloc hb.size _).cell (p := ⟨w.heap.size, 0, none⟩) lD).trans D0, ((hb.alloc hb.size _).cell (p := ⟨w.heap.size, 1, none⟩) lD).trans D1, ((hb.alloc hb.size _).cell (p := ⟨w.heap.size, 2, none⟩) lD).trans D2⟩, ((hb.alloc hb.size _).cell (p := ⟨w.heap.size + 1, 0, none⟩) lE).trans E0, ((hb.alloc hb.size _).cell (p := ⟨w.heap.size + 1, 1, none⟩) lE).trans E1, ((hb.alloc hb.size _).cell (p := ⟨w.heap.size + 1, 2, none⟩) lE).trans E2⟩) ((first | (go_at_call 85; ((with_reducible refine (C0.out _ (chain HB.out hb)).mono ?_); rintro e z ⟨rfl, hc⟩; have hb := chain hb hc)) | (go_at_call 85; ((with_reducible refine (C1.out _ (chain HB.out hb)).mono ?_); rintro e z ⟨rfl, hc⟩; have hb := chain hb hc)) | (go_at_call 53; ((with_reducible refine (CC.out _).mono ?_); rintro e z ⟨rfl, rfl⟩)) | (go_at_call 86; ((with_reducible refine (CD.out _ (chain HB.out hb)).mono ?_); rintro e z ⟨rfl, hc⟩; have hb := chain hb hc)) | (go_at_call 52; ((with_reducible refine (COr.out _).mono ?_); rintro e z ⟨rfl, rfl⟩))))
  all_goals
    go_wp2_with fail
    go_ret
    exact ⟨rfl, chain HB.out (hb.alloc hb.size _)⟩
end Go.Proofs.YtlnlijeamflpiaaGreat

namespace Go.Proofs.YtlnlijeamflpiaaGreat
open Go.RowKit
set_option linter.unusedVariables false
set_option linter.unusedSimpArgs false
set_option maxRecDepth 100000
set_option maxRecDepth 20000
/-- Four numbers that may be. -/
def NmOk (x : Nm) : Prop := (-9223372036854775808 ≤ x.1 ∧ x.1 < 9223372036854775808) ∧ (-9223372036854775808 ≤ x.2.1 ∧ x.2.1 < 9223372036854775808) ∧ (-9223372036854775808 ≤ x.2.2.1 ∧ x.2.2.1 < 9223372036854775808) ∧ (-9223372036854775808 ≤ x.2.2.2 ∧ x.2.2.2 < 9223372036854775808)
set_option maxHeartbeats 4000000 in
theorem need_Right (k n m d : Int) (w : World) (hx : NmOk (k, n, m, d)) :
    Calls Tryz.prog 131 #[.agg #[.int .i64 k, .int .i64 n, .int .i64 m, .int .i64 d]] w fun e w' => e = .returned (.bool (rightB (k, n, m, d))) ∧ Below w.heap.size w w' := by
  obtain ⟨hk, hn, hm, hd⟩ := hx
  simp only at hk hn hm hd
  obtain ⟨W0, hW0, hb0, x0⟩ := box_any w #[.int .i64 k, .int .i64 n, .int .i64 m, .int .i64 d] 112
  have HW0 := Lib.hid hW0
  have HB := Lib.hid hb0
  have D0 : W0.cell? ⟨w.heap.size, 0, none⟩ = some (.int .i64 k) := block_cell x0 0
  have D1 : W0.cell? ⟨w.heap.size, 1, none⟩ = some (.int .i64 n) := block_cell x0 1
  have D2 : W0.cell? ⟨w.heap.size, 2, none⟩ = some (.int .i64 m) := block_cell x0 2
  have D3 : W0.cell? ⟨w.heap.size, 3, none⟩ = some (.int .i64 d) := block_cell x0 3
  clear hW0 hb0 x0
  by_cases hsz : hasSz n = true
  case neg =>
    have hsz' : hasSz n = false := by simpa using hsz
    have HS : Hid (∀ W, Calls Tryz.prog 41 #[.int .i64 n] W fun e w' => e = .returned (.bool false) ∧ W = w') := fun W => rootHas_no n W hsz' hn
    have HV : Hid (rightB (k, n, m, d) = false) := by simp [Hid, rightB, hsz']
    clear hsz hsz'
    go_enter Tryz.func131, Tryz.ntmps131
    go_wp2_with fail
    rw [HW0.out]
    refine (HS.out _).mono ?_; rintro e w1 ⟨rfl, rfl⟩
    go_wp2_with fail
    go_ret
    exact ⟨ret_bool HV.out.symm, HB.out⟩
  have HS : Hid (∀ W, Calls Tryz.prog 41 #[.int .i64 n] W fun e w' => e = .returned (.bool true) ∧ W = w') := fun W => rootHas_yes n W hsz
  have hnb := hasSz_bd hsz
  by_cases hdd : d = 0 ∨ d = 1
  case neg =>
    have HV : Hid (rightB (k, n, m, d) = false) := by simp [Hid, rightB, hdd]
    have t0 : (d != 0) = true := bdiff (by omega)
    have t1 : (d != 1) = true := bdiff (by omega)
    clear hsz hdd
    go_enter Tryz.func131, Tryz.ntmps131
    go_wp2_with fail
    rw [HW0.out]
    refine (HS.out _).mono ?_; rintro e w1 ⟨rfl, rfl⟩
    go_wp2_with fail
    go_ret
    exact ⟨ret_bool HV.out.symm, HB.out⟩
  have HD : Hid (decide (d = 0 ∨ d = 1) = true) := decide_eq_true hdd
  have HZ := Lib.hid hsz
  rcases hdd with rfl | rfl

  · clear hsz
    rcases (show k = 1 ∨ k = 2 ∨ k = 3 ∨ k = 4 ∨ (k ≠ 1 ∧ k ≠ 2 ∧ k ≠ 3 ∧ k ≠ 4) by omega) with rfl | rfl | rfl | rfl | ⟨k1, k2, k3, k4⟩
    · by_cases hm0 : m = 0
      · subst hm0
        have HV : Hid (rightB (1, n, 0, 0) = true) := by unfold Hid rightB; simp only [HZ.out]; simp
        clear HZ HD
        go_enter Tryz.func131, Tryz.ntmps131
        go_wp2_with fail
        rw [HW0.out]
        refine (HS.out _).mono ?_; rintro e w1 ⟨rfl, rfl⟩
        go_wp2_with fail
        go_ret
        exact ⟨ret_bool HV.out.symm, HB.out⟩
      · have t2 : (m == 0) = false := bno hm0
        have HV : Hid (rightB (1, n, m, 0) = false) := by unfold Hid rightB; simp only [HZ.out]; simp [hm0]
        clear HZ HD hm0
        go_enter Tryz.func131, Tryz.ntmps131
        go_wp2_with fail
        rw [HW0.out]
        refine (HS.out _).mono ?_; rintro e w1 ⟨rfl, rfl⟩
        go_wp2_with fail
        go_ret
        exact ⟨ret_bool HV.out.symm, HB.out⟩
    · by_cases hm0 : m = 0
      · subst hm0
        have HV : Hid (rightB (2, n, 0, 0) = true) := by unfold Hid rightB; simp only [HZ.out]; simp
        clear HZ HD
        go_enter Tryz.func131, Tryz.ntmps131
        go_wp2_with fail
        rw [HW0.out]
        refine (HS.out _).mono ?_; rintro e w1 ⟨rfl, rfl⟩
        go_wp2_with fail
        go_ret
        exact ⟨ret_bool HV.out.symm, HB.out⟩
      · have t2 : (m == 0) = false := bno hm0
        have HV : Hid (rightB (2, n, m, 0) = false) := by unfold Hid rightB; simp only [HZ.out]; simp [hm0]
        clear HZ HD hm0
        go_enter Tryz.func131, Tryz.ntmps131
        go_wp2_with fail
        rw [HW0.out]
        refine (HS.out _).mono ?_; rintro e w1 ⟨rfl, rfl⟩
        go_wp2_with fail
        go_ret
        exact ⟨ret_bool HV.out.symm, HB.out⟩
    · by_cases hm0 : m = 0
      · subst hm0
        by_cases h3 : 3 ≤ n
        · have t3 : decide (n ≥ 3) = true := by simp; omega
          obtain ⟨P, hP⟩ : ∃ P, isPr n = P := ⟨_, rfl⟩
          have HP : Hid (∀ W, Calls Tryz.prog 97 #[.int .i64 n] W fun e w' => e = .returned (.bool P) ∧ Below W.heap.size W w') := fun W => by rw [← hP]; exact fact_Prime n W hn
          have HV : Hid (rightB (3, n, 0, 0) = P) := by unfold Hid rightB; simp only [HZ.out]; simp [h3, hP]
          clear HZ HD hP
          go_enter Tryz.func131, Tryz.ntmps131
          go_wp2_with fail
          rw [HW0.out]
          refine (HS.out _).mono ?_; rintro e w1 ⟨rfl, rfl⟩
          go_wp2_with fail
          refine (HP.out _).mono ?_; rintro e w2 ⟨rfl, hb2⟩
          have HB := Lib.hid (chain HB.out hb2)
          clear hb2 D0 D1 D2 D3
          go_wp2_with fail
          go_ret
          exact ⟨ret_bool HV.out.symm, HB.out⟩
        · have t3 : decide (n ≥ 3) = false := by simp; omega
          have HV : Hid (rightB (3, n, 0, 0) = false) := by unfold Hid rightB; simp only [HZ.out]; simp [h3]
          clear HZ HD h3
          go_enter Tryz.func131, Tryz.ntmps131
          go_wp2_with fail
          rw [HW0.out]
          refine (HS.out _).mono ?_; rintro e w1 ⟨rfl, rfl⟩
          go_wp2_with fail
          go_ret
          exact ⟨ret_bool HV.out.symm, HB.out⟩
      · have t2 : (m == 0) = false := bno hm0
        have HV : Hid (rightB (3, n, m, 0) = false) := by unfold Hid rightB; simp only [HZ.out]; simp [hm0]
        clear HZ HD hm0
        go_enter Tryz.func131, Tryz.ntmps131
        go_wp2_with fail
        rw [HW0.out]
        refine (HS.out _).mono ?_; rintro e w1 ⟨rfl, rfl⟩
        go_wp2_with fail
        go_ret
        exact ⟨ret_bool HV.out.symm, HB.out⟩
    · by_cases h2 : 2 ≤ n
      · have t4 : decide (n ≥ 2) = true := by simp; omega
        by_cases h5 : 2 * n - 1 ≤ m
        · have t5 : decide (m ≥ 2 * n - 1) = true := by simp; omega
          obtain ⟨P, hP⟩ : ∃ P, hasP2 m = P := ⟨_, rfl⟩
          have HP : Hid (∀ W, Calls Tryz.prog 121 #[.int .i64 m] W fun e w' => e = .returned (.bool P) ∧ W = w') := fun W => by rw [← hP]; exact stock_Has m W ⟨hm.1, by omega⟩
          have HV : Hid (rightB (4, n, m, 0) = P) := by unfold Hid rightB; simp only [HZ.out]; simp [h2, h5, hP]
          clear HZ HD hP
          go_enter Tryz.func131, Tryz.ntmps131
          go_wp2_with fail
          rw [HW0.out]
          refine (HS.out _).mono ?_; rintro e w1 ⟨rfl, rfl⟩
          go_wp2_with fail
          refine (HP.out _).mono ?_; rintro e w2 ⟨rfl, rfl⟩
          go_wp2_with fail
          go_ret
          exact ⟨ret_bool HV.out.symm, HB.out⟩
        · have t5 : decide (m ≥ 2 * n - 1) = false := by simp; omega
          have HV : Hid (rightB (4, n, m, 0) = false) := by unfold Hid rightB; simp only [HZ.out]; simp [h5]
          clear HZ HD h5
          go_enter Tryz.func131, Tryz.ntmps131
          go_wp2_with fail
          rw [HW0.out]
          refine (HS.out _).mono ?_; rintro e w1 ⟨rfl, rfl⟩
          go_wp2_with fail
          go_ret
          exact ⟨ret_bool HV.out.symm, HB.out⟩
      · have t4 : decide (n ≥ 2) = false := by simp; omega
        have HV : Hid (rightB (4, n, m, 0) = false) := by unfold Hid rightB; simp only [HZ.out]; simp [h2]
        clear HZ HD h2
        go_enter Tryz.func131, Tryz.ntmps131
        go_wp2_with fail
        rw [HW0.out]
        refine (HS.out _).mono ?_; rintro e w1 ⟨rfl, rfl⟩
        go_wp2_with fail
        go_ret
        exact ⟨ret_bool HV.out.symm, HB.out⟩
    · have u1 := bno k1
      have u2 := bno k2
      have u3 := bno k3
      have u4 := bno k4
      have HV : Hid (rightB (k, n, m, 0) = false) := by unfold Hid rightB; simp only [HZ.out]; simp [k1, k2, k3, k4]
      clear HZ HD k1 k2 k3 k4
      go_enter Tryz.func131, Tryz.ntmps131
      go_wp2_with fail
      rw [HW0.out]
      refine (HS.out _).mono ?_; rintro e w1 ⟨rfl, rfl⟩
      go_wp2_with fail
      go_ret
      exact ⟨ret_bool HV.out.symm, HB.out⟩

  · clear hsz
    rcases (show k = 1 ∨ k = 2 ∨ k = 3 ∨ k = 4 ∨ (k ≠ 1 ∧ k ≠ 2 ∧ k ≠ 3 ∧ k ≠ 4) by omega) with rfl | rfl | rfl | rfl | ⟨k1, k2, k3, k4⟩
    · by_cases hm0 : m = 0
      · subst hm0
        have HV : Hid (rightB (1, n, 0, 1) = true) := by unfold Hid rightB; simp only [HZ.out]; simp
        clear HZ HD
        go_enter Tryz.func131, Tryz.ntmps131
        go_wp2_with fail
        rw [HW0.out]
        refine (HS.out _).mono ?_; rintro e w1 ⟨rfl, rfl⟩
        go_wp2_with fail
        go_ret
        exact ⟨ret_bool HV.out.symm, HB.out⟩
      · have t2 : (m == 0) = false := bno hm0
        have HV : Hid (rightB (1, n, m, 1) = false) := by unfold Hid rightB; simp only [HZ.out]; simp [hm0]
        clear HZ HD hm0
        go_enter Tryz.func131, Tryz.ntmps131
        go_wp2_with fail
        rw [HW0.out]
        refine (HS.out _).mono ?_; rintro e w1 ⟨rfl, rfl⟩
        go_wp2_with fail
        go_ret
        exact ⟨ret_bool HV.out.symm, HB.out⟩
    · by_cases hm0 : m = 0
      · subst hm0
        have HV : Hid (rightB (2, n, 0, 1) = true) := by unfold Hid rightB; simp only [HZ.out]; simp
        clear HZ HD
        go_enter Tryz.func131, Tryz.ntmps131
        go_wp2_with fail
        rw [HW0.out]
        refine (HS.out _).mono ?_; rintro e w1 ⟨rfl, rfl⟩
        go_wp2_with fail
        go_ret
        exact ⟨ret_bool HV.out.symm, HB.out⟩
      · have t2 : (m == 0) = false := bno hm0
        have HV : Hid (rightB (2, n, m, 1) = false) := by unfold Hid rightB; simp only [HZ.out]; simp [hm0]
        clear HZ HD hm0
        go_enter Tryz.func131, Tryz.ntmps131
        go_wp2_with fail
        rw [HW0.out]
        refine (HS.out _).mono ?_; rintro e w1 ⟨rfl, rfl⟩
        go_wp2_with fail
        go_ret
        exact ⟨ret_bool HV.out.symm, HB.out⟩
    · by_cases hm0 : m = 0
      · subst hm0
        by_cases h3 : 3 ≤ n
        · have t3 : decide (n ≥ 3) = true := by simp; omega
          obtain ⟨P, hP⟩ : ∃ P, isPr n = P := ⟨_, rfl⟩
          have HP : Hid (∀ W, Calls Tryz.prog 97 #[.int .i64 n] W fun e w' => e = .returned (.bool P) ∧ Below W.heap.size W w') := fun W => by rw [← hP]; exact fact_Prime n W hn
          have HV : Hid (rightB (3, n, 0, 1) = P) := by unfold Hid rightB; simp only [HZ.out]; simp [h3, hP]
          clear HZ HD hP
          go_enter Tryz.func131, Tryz.ntmps131
          go_wp2_with fail
          rw [HW0.out]
          refine (HS.out _).mono ?_; rintro e w1 ⟨rfl, rfl⟩
          go_wp2_with fail
          refine (HP.out _).mono ?_; rintro e w2 ⟨rfl, hb2⟩
          have HB := Lib.hid (chain HB.out hb2)
          clear hb2 D0 D1 D2 D3
          go_wp2_with fail
          go_ret
          exact ⟨ret_bool HV.out.symm, HB.out⟩
        · have t3 : decide (n ≥ 3) = false := by simp; omega
          have HV : Hid (rightB (3, n, 0, 1) = false) := by unfold Hid rightB; simp only [HZ.out]; simp [h3]
          clear HZ HD h3
          go_enter Tryz.func131, Tryz.ntmps131
          go_wp2_with fail
          rw [HW0.out]
          refine (HS.out _).mono ?_; rintro e w1 ⟨rfl, rfl⟩
          go_wp2_with fail
          go_ret
          exact ⟨ret_bool HV.out.symm, HB.out⟩
      · have t2 : (m == 0) = false := bno hm0
        have HV : Hid (rightB (3, n, m, 1) = false) := by unfold Hid rightB; simp only [HZ.out]; simp [hm0]
        clear HZ HD hm0
        go_enter Tryz.func131, Tryz.ntmps131
        go_wp2_with fail
        rw [HW0.out]
        refine (HS.out _).mono ?_; rintro e w1 ⟨rfl, rfl⟩
        go_wp2_with fail
        go_ret
        exact ⟨ret_bool HV.out.symm, HB.out⟩
    · by_cases h2 : 2 ≤ n
      · have t4 : decide (n ≥ 2) = true := by simp; omega
        by_cases h5 : 2 * n - 1 ≤ m
        · have t5 : decide (m ≥ 2 * n - 1) = true := by simp; omega
          obtain ⟨P, hP⟩ : ∃ P, hasP2 m = P := ⟨_, rfl⟩
          have HP : Hid (∀ W, Calls Tryz.prog 121 #[.int .i64 m] W fun e w' => e = .returned (.bool P) ∧ W = w') := fun W => by rw [← hP]; exact stock_Has m W ⟨hm.1, by omega⟩
          have HV : Hid (rightB (4, n, m, 1) = P) := by unfold Hid rightB; simp only [HZ.out]; simp [h2, h5, hP]
          clear HZ HD hP
          go_enter Tryz.func131, Tryz.ntmps131
          go_wp2_with fail
          rw [HW0.out]
          refine (HS.out _).mono ?_; rintro e w1 ⟨rfl, rfl⟩
          go_wp2_with fail
          refine (HP.out _).mono ?_; rintro e w2 ⟨rfl, rfl⟩
          go_wp2_with fail
          go_ret
          exact ⟨ret_bool HV.out.symm, HB.out⟩
        · have t5 : decide (m ≥ 2 * n - 1) = false := by simp; omega
          have HV : Hid (rightB (4, n, m, 1) = false) := by unfold Hid rightB; simp only [HZ.out]; simp [h5]
          clear HZ HD h5
          go_enter Tryz.func131, Tryz.ntmps131
          go_wp2_with fail
          rw [HW0.out]
          refine (HS.out _).mono ?_; rintro e w1 ⟨rfl, rfl⟩
          go_wp2_with fail
          go_ret
          exact ⟨ret_bool HV.out.symm, HB.out⟩
      · have t4 : decide (n ≥ 2) = false := by simp; omega
        have HV : Hid (rightB (4, n, m, 1) = false) := by unfold Hid rightB; simp only [HZ.out]; simp [h2]
        clear HZ HD h2
        go_enter Tryz.func131, Tryz.ntmps131
        go_wp2_with fail
        rw [HW0.out]
        refine (HS.out _).mono ?_; rintro e w1 ⟨rfl, rfl⟩
        go_wp2_with fail
        go_ret
        exact ⟨ret_bool HV.out.symm, HB.out⟩
    · have u1 := bno k1
      have u2 := bno k2
      have u3 := bno k3
      have u4 := bno k4
      have HV : Hid (rightB (k, n, m, 1) = false) := by unfold Hid rightB; simp only [HZ.out]; simp [k1, k2, k3, k4]
      clear HZ HD k1 k2 k3 k4
      go_enter Tryz.func131, Tryz.ntmps131
      go_wp2_with fail
      rw [HW0.out]
      refine (HS.out _).mono ?_; rintro e w1 ⟨rfl, rfl⟩
      go_wp2_with fail
      go_ret
      exact ⟨ret_bool HV.out.symm, HB.out⟩
end Go.Proofs.YtlnlijeamflpiaaGreat

namespace Go.Proofs.YtlnlijeamflpiaaGreat
open Go.RowKit
set_option linter.unusedVariables false
set_option linter.unusedSimpArgs false
set_option maxRecDepth 100000
set_option maxRecDepth 20000
theorem right_bd {x : Nm} (h : rightB x = true) : 1 ≤ x.2.1 ∧ x.2.1 ≤ 16777216 := by
  unfold rightB at h
  simp only [Bool.and_eq_true] at h
  exact hasSz_bd h.1.1
theorem roomN_no {x : Nm} (h : rightB x = false) : roomN x = 0 := if_pos h
theorem roomN_yes {x : Nm} (h : rightB x = true) : roomN x = if x.1 = 3 then x.2.1 - 1 else if x.1 = 4 then x.2.2.1 else x.2.1 := if_neg (by rw [h]; simp)
set_option maxHeartbeats 2000000 in
theorem need_Room (k n m d : Int) (w : World) (hx : NmOk (k, n, m, d)) :
    Calls Tryz.prog 153 #[.agg #[.int .i64 k, .int .i64 n, .int .i64 m, .int .i64 d]] w fun e w' => e = .returned (.int .i64 (roomN (k, n, m, d))) ∧ Below w.heap.size w w' := by
  have CR : Hid (∀ W, Below w.heap.size w W → Calls Tryz.prog 131 #[.agg #[.int .i64 k, .int .i64 n, .int .i64 m, .int .i64 d]] W fun e w' => e = .returned (.bool (rightB (k, n, m, d))) ∧ Below W.heap.size W w') := fun W _ => need_Right k n m d W hx
  have hbd : rightB (k, n, m, d) = true → 1 ≤ n ∧ n ≤ 16777216 := right_bd
  have hno : rightB (k, n, m, d) = false → roomN (k, n, m, d) = 0 := roomN_no
  have hyes : rightB (k, n, m, d) = true → roomN (k, n, m, d) = if k = 3 then n - 1 else if k = 4 then m else n := roomN_yes
  obtain ⟨W0, hW0, hb0, x0⟩ := box_any w #[.int .i64 k, .int .i64 n, .int .i64 m, .int .i64 d] 112
  have HW0 := Lib.hid hW0
  have HB := Lib.hid hb0
  have XD := Lib.hid x0
  have D0 : W0.cell? ⟨w.heap.size, 0, none⟩ = some (.int .i64 k) := block_cell XD.out 0
  have D1 : W0.cell? ⟨w.heap.size, 1, none⟩ = some (.int .i64 n) := block_cell XD.out 1
  have D2 : W0.cell? ⟨w.heap.size, 2, none⟩ = some (.int .i64 m) := block_cell XD.out 2
  have D3 : W0.cell? ⟨w.heap.size, 3, none⟩ = some (.int .i64 d) := block_cell XD.out 3
  clear hW0 hb0 x0
  obtain ⟨R, hR⟩ : ∃ R, rightB (k, n, m, d) = R := ⟨_, rfl⟩
  rw [hR] at CR hbd hno hyes
  clear hR hx
  cases R with
  | false =>
    rw [hno rfl]
    clear hbd hno hyes
    go_enter Tryz.func153, Tryz.ntmps153
    go_wp2_with fail
    rw [HW0.out]
    refine (CR.out _ HB.out).mono ?_; rintro e w1 ⟨rfl, hb1⟩
    clear D0 D1 D2 D3
    have XD := Lib.hid ((hb1.block _ (block_lt XD.out)).trans XD.out)
    have HB := Lib.hid (chain HB.out hb1)
    clear hb1
    have D0 : w1.cell? ⟨w.heap.size, 0, none⟩ = some (.int .i64 k) := block_cell XD.out 0
    have D1 : w1.cell? ⟨w.heap.size, 1, none⟩ = some (.int .i64 n) := block_cell XD.out 1
    have D2 : w1.cell? ⟨w.heap.size, 2, none⟩ = some (.int .i64 m) := block_cell XD.out 2
    have D3 : w1.cell? ⟨w.heap.size, 3, none⟩ = some (.int .i64 d) := block_cell XD.out 3
    go_wp2_with fail
    go_ret
    exact ⟨rfl, HB.out⟩
  | true =>
    have hb := hbd rfl
    rw [hyes rfl]
    clear hbd hno hyes
    by_cases h3 : k = 3
    · subst h3
      rw [if_pos rfl]
      go_enter Tryz.func153, Tryz.ntmps153
      go_wp2_with fail
      rw [HW0.out]
      refine (CR.out _ HB.out).mono ?_; rintro e w1 ⟨rfl, hb1⟩
      clear D0 D1 D2 D3
      have XD := Lib.hid ((hb1.block _ (block_lt XD.out)).trans XD.out)
      have HB := Lib.hid (chain HB.out hb1)
      clear hb1
      have D0 : w1.cell? ⟨w.heap.size, 0, none⟩ = some (.int .i64 3) := block_cell XD.out 0
      have D1 : w1.cell? ⟨w.heap.size, 1, none⟩ = some (.int .i64 n) := block_cell XD.out 1
      have D2 : w1.cell? ⟨w.heap.size, 2, none⟩ = some (.int .i64 m) := block_cell XD.out 2
      have D3 : w1.cell? ⟨w.heap.size, 3, none⟩ = some (.int .i64 d) := block_cell XD.out 3
      go_wp2_with fail
      go_ret
      exact ⟨rfl, HB.out⟩
    · rw [if_neg h3]
      have t3 : (k == 3) = false := bno h3
      by_cases h4 : k = 4
      · subst h4
        rw [if_pos rfl]
        clear h3
        go_enter Tryz.func153, Tryz.ntmps153
        go_wp2_with fail
        rw [HW0.out]
        refine (CR.out _ HB.out).mono ?_; rintro e w1 ⟨rfl, hb1⟩
        clear D0 D1 D2 D3
        have XD := Lib.hid ((hb1.block _ (block_lt XD.out)).trans XD.out)
        have HB := Lib.hid (chain HB.out hb1)
        clear hb1
        have D0 : w1.cell? ⟨w.heap.size, 0, none⟩ = some (.int .i64 4) := block_cell XD.out 0
        have D1 : w1.cell? ⟨w.heap.size, 1, none⟩ = some (.int .i64 n) := block_cell XD.out 1
        have D2 : w1.cell? ⟨w.heap.size, 2, none⟩ = some (.int .i64 m) := block_cell XD.out 2
        have D3 : w1.cell? ⟨w.heap.size, 3, none⟩ = some (.int .i64 d) := block_cell XD.out 3
        go_wp2_with fail
        go_ret
        exact ⟨rfl, HB.out⟩
      · rw [if_neg h4]
        have t4 : (k == 4) = false := bno h4
        clear h3 h4
        go_enter Tryz.func153, Tryz.ntmps153
        go_wp2_with fail
        rw [HW0.out]
        refine (CR.out _ HB.out).mono ?_; rintro e w1 ⟨rfl, hb1⟩
        clear D0 D1 D2 D3
        have XD := Lib.hid ((hb1.block _ (block_lt XD.out)).trans XD.out)
        have HB := Lib.hid (chain HB.out hb1)
        clear hb1
        have D0 : w1.cell? ⟨w.heap.size, 0, none⟩ = some (.int .i64 k) := block_cell XD.out 0
        have D1 : w1.cell? ⟨w.heap.size, 1, none⟩ = some (.int .i64 n) := block_cell XD.out 1
        have D2 : w1.cell? ⟨w.heap.size, 2, none⟩ = some (.int .i64 m) := block_cell XD.out 2
        have D3 : w1.cell? ⟨w.heap.size, 3, none⟩ = some (.int .i64 d) := block_cell XD.out 3
        go_wp2_with fail
        go_ret
        exact ⟨rfl, HB.out⟩
end Go.Proofs.YtlnlijeamflpiaaGreat

namespace Go.Proofs.YtlnlijeamflpiaaGreat
open Go.RowKit
set_option linter.unusedVariables false
set_option linter.unusedSimpArgs false
set_option maxRecDepth 100000
theorem dirRt_zero (n : Nat) : dirRt n 0 = rt n := by unfold dirRt; rw [if_neg (by omega)]
theorem dirRt_one (n : Nat) : dirRt n 1 = bk n := by unfold dirRt; rw [if_pos rfl]
set_option maxHeartbeats 1000000 in
theorem tab_way (k : Int) (n : Nat) (m d : Int) (w : World) (h : hasSz n = true) (hd : d = 0 ∨ d = 1) :
    Calls Tryz.prog 147 #[.agg #[.int .i64 k, .int .i64 n, .int .i64 m, .int .i64 d]] w fun e w' => e = .returned (.int .u64 (dirRt n d)) ∧ Below w.heap.size w w' := by
  have HS := Lib.hid h
  clear h
  obtain ⟨W0, hW0, hb0, x0⟩ := box_any w #[.int .i64 k, .int .i64 n, .int .i64 m, .int .i64 d] 133
  have HW0 := Lib.hid hW0
  have HB := Lib.hid hb0
  have D1 : W0.cell? ⟨w.heap.size, 1, none⟩ = some (.int .i64 n) := block_cell x0 1
  have D3 : W0.cell? ⟨w.heap.size, 3, none⟩ = some (.int .i64 d) := block_cell x0 3
  clear hW0 hb0 x0
  rcases hd with rfl | rfl
  · go_enter Tryz.func147, Tryz.ntmps147
    go_wp2_with fail
    rw [HW0.out]
    refine (rootRoot_yes n _ HS.out).mono ?_; rintro e w' ⟨rfl, rfl⟩
    go_wp2_with fail
    go_ret
    exact ⟨by simp [dirRt_zero], HB.out⟩
  · go_enter Tryz.func147, Tryz.ntmps147
    go_wp2_with fail
    rw [HW0.out]
    refine (rootRoot_yes n _ HS.out).mono ?_; rintro e w' ⟨rfl, rfl⟩
    go_wp2_with fail
    refine (rootBack_yes n _ HS.out).mono ?_; rintro e w' ⟨rfl, rfl⟩
    go_wp2_with fail
    go_ret
    exact ⟨by simp [dirRt_one], HB.out⟩
set_option maxHeartbeats 1000000 in
theorem tab_powers (k : Int) (n : Nat) (m d : Int) (w : World) (h : hasSz n = true) (hd : d = 0 ∨ d = 1) :
    Calls Tryz.prog 132 #[.agg #[.int .i64 k, .int .i64 n, .int .i64 m, .int .i64 d]] w (GivesRow .u64 (powL (dirRt n d) n) w) := by
  have hn2 : n ≤ 16777216 := by have := (hasSz_iff.1 h).2.1; omega
  have hz := dirRt_range n d
  have C0 : Hid (∀ W, Calls Tryz.prog 147 #[.agg #[.int .i64 k, .int .i64 n, .int .i64 m, .int .i64 d]] W fun e w' => e = .returned (.int .u64 (dirRt n d)) ∧ Below W.heap.size W w') := fun W => tab_way k n m d W h hd
  obtain ⟨z, hz'⟩ : ∃ z, dirRt n d = z := ⟨_, rfl⟩
  rw [hz'] at C0 hz ⊢
  have C1 : Hid (∀ W, Calls Tryz.prog 146 #[.int .u64 z, .int .i64 n] W (GivesRowE .u64 (powL z n) 0 W)) := fun W => rootPowers z n W hz.1 (by omega) hn2
  have HL : Hid ((powL z n).length = n) := powL_len z n
  clear h hd hz hz'
  obtain ⟨W0, hW0, hb0, x0⟩ := box_any w #[.int .i64 k, .int .i64 n, .int .i64 m, .int .i64 d] 133
  have HW0 := Lib.hid hW0
  have HB := Lib.hid hb0
  have D0 : W0.cell? ⟨w.heap.size, 0, none⟩ = some (.int .i64 k) := block_cell x0 0
  have D1 : W0.cell? ⟨w.heap.size, 1, none⟩ = some (.int .i64 n) := block_cell x0 1
  have D2 : W0.cell? ⟨w.heap.size, 2, none⟩ = some (.int .i64 m) := block_cell x0 2
  have D3 : W0.cell? ⟨w.heap.size, 3, none⟩ = some (.int .i64 d) := block_cell x0 3
  have lD := block_lt x0
  clear hW0 hb0 x0
  go_enter Tryz.func132, Tryz.ntmps132
  go_wp2_with fail
  rw [HW0.out]
  have hb : Below W0.heap.size W0 W0.drew := (Below.refl _ _).drew
  go_region_held3 (fun w' => w'.cell? ⟨w.heap.size, 0, none⟩ = some (.int .i64 k) ∧ w'.cell? ⟨w.heap.size, 1, none⟩ = some (.int .i64 n) ∧ w'.cell? ⟨w.heap.size, 2, none⟩ = some (.int .i64 m) ∧ w'.cell? ⟨w.heap.size, 3, none⟩ = some (.int .i64 d))
    (first | exact ⟨D0, D1, D2, D3⟩ | exact ⟨(hb.cell (p := ⟨w.heap.size, 0, none⟩) lD).trans D0, (hb.cell (p := ⟨w.heap.size, 1, none⟩) lD).trans D1, (hb.cell (p := ⟨w.heap.size, 2, none⟩) lD).trans D2, (hb.cell (p := ⟨w.heap.size, 3, none⟩) lD).trans D3⟩)
    ((first
      | (go_at_call 147; ((with_reducible refine (C0.out _).mono ?_); rintro e z1 ⟨rfl, hc⟩; have hb := chain hb hc))
      | (go_at_call 146; ((with_reducible refine (C1.out _).mono ?_); rintro e z1 ⟨a1, cap1, rfl, hr1, hcap1, hc⟩; have hb := chain hb hc))))
  simp only [HL.out] at hcap1 ⊢
  have HBF := Lib.hid (chain HB.out hb)
  clear hb
  go_wp2_with fail
  go_ret
  exact ⟨a1, cap1, by simp [HL.out], hr1, by rw [HL.out]; exact hcap1, HBF.out⟩
set_option maxHeartbeats 1000000 in
theorem tab_chirps (k : Int) (n : Nat) (m d d' : Int) (w : World) (h : hasSz n = true) (hd : d = 0 ∨ d = 1) (hd' : d' = 1 - d) :
    Calls Tryz.prog 133 #[.agg #[.int .i64 k, .int .i64 n, .int .i64 m, .int .i64 d]] w (GivesRow .u64 (rowT (dirRt n d') n n) w) := by
  have hn2 : n ≤ 16777216 := by have := (hasSz_iff.1 h).2.1; omega
  have C1 : Hid (∀ W, Calls Tryz.prog 148 #[.int .i64 n, .int .i64 d', .int .i64 n] W (GivesOwnE .u64 23 (rowT (dirRt n d') n n) W)) := fun W => chirp_Row n n d' W h (by omega) hn2
  obtain ⟨z, hz⟩ : ∃ z, rowT (dirRt n d') n n = z := ⟨_, rfl⟩
  have HL : Hid (z.length = n) := by unfold Hid; rw [← hz]; exact rowT_len _ _ _
  have HF : Hid (∀ x ∈ z, fits .u64 x) := by unfold Hid; rw [← hz]; exact rowT_fits _ _ _
  rw [hz] at C1 ⊢
  have hdd : 1 - d = d' := hd'.symm
  clear h hz hd'
  obtain ⟨W0, hW0, hb0, x0⟩ := box_any w #[.int .i64 k, .int .i64 n, .int .i64 m, .int .i64 d] 133
  have HW0 := Lib.hid hW0
  have HB := Lib.hid hb0
  have D1 : W0.cell? ⟨w.heap.size, 1, none⟩ = some (.int .i64 n) := block_cell x0 1
  have D3 : W0.cell? ⟨w.heap.size, 3, none⟩ = some (.int .i64 d) := block_cell x0 3
  clear hW0 hb0 x0
  go_enter Tryz.func133, Tryz.ntmps133
  go_wp2_with fail
  rw [HW0.out]
  refine (C1.out _).mono ?_; rintro e w1 ⟨a1, cap1, rfl, _, hr1, hcap1, hb1⟩
  simp only [HL.out] at hcap1 ⊢
  have HBF := Lib.hid (chain HB.out hb1)
  clear D1 D3 hb1
  go_wp2_with fail
  go_ret
  exact ⟨a1, cap1, by simp [HL.out], hr1, by rw [HL.out]; exact hcap1, HBF.out⟩
def tabRaderL (n : Nat) (d : Int) : List Int := dftL (radL (dirRt n d) n) (dirRt (n - 1) 0)
set_option maxHeartbeats 2000000 in
theorem tab_raders (k : Int) (n : Nat) (m d : Int) (w : World) (h : hasSz n = true) (hd : d = 0 ∨ d = 1) (hq : IsFq n) :
    Calls Tryz.prog 134 #[.agg #[.int .i64 k, .int .i64 n, .int .i64 m, .int .i64 d]] w (GivesRow .u64 (tabRaderL n d) w) := by
  have hbq := fq_bd hq
  obtain ⟨lg, hlg1, hlg2, hlg⟩ := fq_log hq
  have C0 : Hid (∀ W, Calls Tryz.prog 132 #[.agg #[.int .i64 k, .int .i64 n, .int .i64 m, .int .i64 d]] W (GivesRow .u64 (powL (dirRt n d) n) W)) := fun W => tab_powers k n m d W h hd
  have C1 : Hid (∀ W, Calls Tryz.prog 149 #[.int .i64 n] W (GivesRowE .i64 (genL n) 0 W)) := fun W => gen_Powers W hq
  have C2 : Hid (∀ (a : Option Addr) (c : Nat) (xs : List Int) (W : World), Row .u64 W a xs → xs.length = n - 1 → Calls Tryz.prog 150 #[.slice a (n - 1 : Nat) c, .int .i64 0] W (GivesRowE .u64 (dftL xs (dirRt (n - 1) 0)) 0 W)) := fun a c xs W hx hl => do_ok a (n - 1) lg c 0 xs W hx hl (Or.inl rfl) (by omega) hlg
  have HG : Hid (∀ i, gp n i < n) := fun i => gp_lt n i (by omega)
  have HRL : Hid ((tabRaderL n d).length = n - 1) := by unfold Hid tabRaderL; rw [dftL_len, radL_len]
  have HPL : Hid ((powL (dirRt n d) n).length = n) := powL_len _ _
  have HGL : Hid ((genL n).length = n - 1) := genL_len _
  have HRD : Hid (dftL (radL (dirRt n d) n) (dirRt (n - 1) 0) = tabRaderL n d) := rfl
  obtain ⟨z, hz⟩ : ∃ z, dirRt n d = z := ⟨_, rfl⟩
  obtain ⟨q1, hq1⟩ : ∃ q1, n - 1 = q1 := ⟨_, rfl⟩
  obtain ⟨RL, hRL⟩ : ∃ L, tabRaderL n d = L := ⟨_, rfl⟩
  rw [hz, hq1] at HRD
  rw [hz] at C0 HPL
  rw [hq1] at C2 HGL HRL
  rw [hRL] at HRD HRL ⊢
  have HQ1 := Lib.hid hq1
  have hq2 : 2 ≤ q1 ∧ q1 ≤ 65536 := by omega
  clear h hd hq hlg hz hq1 hRL
  obtain ⟨i0, hi, hz0, hz1, hz2⟩ := info_parts info_u64
  obtain ⟨W0, hW0, hb0, x0⟩ := box_any w #[.int .i64 k, .int .i64 n, .int .i64 m, .int .i64 d] 133
  have HW0 := Lib.hid hW0
  have HB := Lib.hid hb0
  have X0 := Lib.hid x0
  have D0 : W0.cell? ⟨w.heap.size, 0, none⟩ = some (.int .i64 k) := block_cell x0 0
  have D1 : W0.cell? ⟨w.heap.size, 1, none⟩ = some (.int .i64 n) := block_cell x0 1
  have D2 : W0.cell? ⟨w.heap.size, 2, none⟩ = some (.int .i64 m) := block_cell x0 2
  have D3 : W0.cell? ⟨w.heap.size, 3, none⟩ = some (.int .i64 d) := block_cell x0 3
  clear hW0 hb0 x0
  go_enter Tryz.func134, Tryz.ntmps134
  go_wp2_with fail
  rw [HW0.out]
  go_wp2_with fail
  refine (C0.out _).mono ?_; rintro e w1 ⟨a1, cap1, rfl, hr1, hcap1, hb1⟩
  clear D0 D1 D2 D3
  have D1 : w1.cell? ⟨w.heap.size, 1, none⟩ = some (.int .i64 n) := (hb1.cell (p := ⟨w.heap.size, 1, none⟩) (block_lt X0.out)).trans (block_cell X0.out 1)
  simp only [HPL.out] at hcap1 ⊢
  go_wp2_with fail
  refine (C1.out _).mono ?_; rintro e w2 ⟨a2, cap2, rfl, hr2, hcap2, hb2⟩
  simp only [HGL.out] at hcap2 ⊢
  have hb12 := chain hb1 hb2
  have HR1 := Lib.hid (hr1.below hb2)
  have HR2 := Lib.hid hr2
  have HB2 := Lib.hid (chain HB.out hb12)
  clear hr1 hr2 hb1 hb2 hb12 D1 hcap1 hcap2
  go_wp2_with (at_make; refine wpList_make_full _ rfl _ _ 22 rfl w2.heap.size 23 i0 (.int .u64 0) 1 Tryz.underlying22 hi hz0 hz1 .i64 .i64 q1 q1 q1 rfl rfl rfl rfl (by rw [hz2]; omega) (by unfold maxLen; omega) (Nat.le_refl _) ?_)
  intro w3 hown0 hgrow0
  have hown := Own.made hown0 hgrow0
  clear hown0 hgrow0
  go_wp2_with fail
  have HRV : Hid (∀ i, i < q1 → revAt q1 (revAt q1 i) = i) := fun i hi => by
    unfold revAt
    by_cases h0 : i = 0
    · subst h0; simp
    · rw [Nat.mod_eq_of_lt (show q1 - i < q1 by omega), show q1 - (q1 - i) = i by omega, Nat.mod_eq_of_lt hi]
  go_loopw [23] (fun i wr => ∃ k : Nat, k ≤ q1 ∧ i = .int .i64 k ∧ OwnAt .u64 23 w2 wr w2.heap.size q1 (fun j => if revAt q1 j < k then pw z (gp n (revAt q1 j)) else 0)) (fun i _ => q1 - (intOf i).toNat)
  case atStart => exact ⟨0, Nat.zero_le _, rfl, own_eqz hown (fun j => if_neg (by omega))⟩
  case round =>
    obtain ⟨k, hk, rfl, hown⟩ := hrel
    by_cases hlt : k < q1
    · obtain ⟨b1, o1, rfl, hc1⟩ := (HR2.out.below hown.below).at (by rw [HGL.out]; omega)
      obtain ⟨b2, o2, rfl, hc2⟩ := (HR1.out.below hown.below).at (by rw [HPL.out]; omega)
      have h1 := hc1 k (by rw [HGL.out]; exact hlt)
      rw [nth_genL n k (by rw [HQ1.out]; exact hlt)] at h1
      have hgl := HG.out k
      obtain ⟨x, hx⟩ : ∃ x, gp n k = x := ⟨_, rfl⟩
      rw [hx] at h1 hgl
      have h2 := hc2 x (by rw [HPL.out]; exact hgl)
      rw [show nth (powL z n) x = pw z x from nth_ofFn _ _ _ hgl] at h2
      have hrl := revAt_lt hlt
      have e1 := revAt_int hlt
      obtain ⟨r, hr⟩ : ∃ r, revAt q1 k = r := ⟨_, rfl⟩
      have hrr : revAt q1 r = k := by rw [← hr]; exact HRV.out k hlt
      rw [hr] at hrl e1
      have e2 : ((q1 : Int) - (k : Int)) % (q1 : Int) = (r : Int) := by rw [← e1, Int.tmod_eq_emod_of_nonneg (by omega)]
      have z1 : ((q1 : Int) == 0) = false := bno (by omega)
      have z2 : ¬ (q1 : Int) = 0 := by omega
      have z3 : ¬ q1 = 0 := by omega
      have e0 : IntKind.i64.wrap ((q1 : Int) - (k : Int)) = (q1 : Int) - (k : Int) := IntWalk.i64_in _ (by omega)
      have hcell := hown.cell r hrl
      have hfz := hown.free r
      have hpr := pw_range z x
      have hnext := hown.store r hrl (pw z x) (f' := fun j => if revAt q1 j < k + 1 then pw z (gp n (revAt q1 j)) else 0) (by show (if revAt q1 r < k + 1 then _ else _) = _; rw [hrr, if_pos (by omega), hx]) (fun j hj hjr => by
        show (if revAt q1 j < k + 1 then _ else _) = (if revAt q1 j < k then _ else _)
        have hne : revAt q1 j ≠ k := fun e => hjr (by rw [← HRV.out j hj, e, hr])
        by_cases h : revAt q1 j < k
        · rw [if_pos h, if_pos (by omega)]
        · rw [if_neg h, if_neg (by omega)])
      have HNX := Lib.hid hnext
      obtain ⟨v, hv⟩ : ∃ v : Int, (if revAt q1 r < k then pw z (gp n (revAt q1 r)) else 0) = v := ⟨_, rfl⟩
      rw [hv] at hcell
      have g1 : (0 : Int) ≤ (r : Int) := by omega
      have g2 : (r : Int) < (q1 : Int) := by omega
      have g3 : (0 : Int) ≤ (x : Int) := by omega
      have g4 : (x : Int) < (n : Int) := by omega
      obtain ⟨y, hy⟩ : ∃ y, pw z x = y := ⟨_, rfl⟩
      rw [hy] at h2 hpr HNX
      clear hc1 hc2 hx hr hrr hnext hv hown hy
      go_wp2_with fail
      go_still_tail 13, (by kernel_rfl)
      go_wp2_with fail
      go_roundw
      case rel => exact ⟨k + 1, by omega, by go_num, HNX.out.later (Below.refl _ _).drew⟩
      case measure => simp [intOf]; omega
    · have hkn : k = q1 := by omega
      have hrow := hown.row (xs := radL z n) (by rw [radL_len]; exact HQ1.out) (radL_fits z n) (fun i hi => by
        rw [nth_radL z n i (by rw [HQ1.out]; exact hi), if_pos (by have := revAt_lt hi; omega)]
        unfold radAt revAt; rw [HQ1.out]) (by omega)
      have HB3 := Lib.hid (chain HB2.out hown.below)
      have HR := Lib.hid hrow
      have HLR : Hid ((radL z n).length = q1) := (radL_len z n).trans HQ1.out
      clear hown hrow
      go_wp2_with fail
      refine (C2.out _ _ _ _ HR.out HLR.out).mono ?_; rintro e w4 ⟨a4, cap4, rfl, hr4, hcap4, hb4⟩
      rw [HRD.out] at hr4 hcap4 ⊢
      have HB4 := Lib.hid (chain HB3.out hb4)
      have HR4 := Lib.hid hr4
      have HC4 := Lib.hid hcap4
      clear hr4 hcap4 hb4
      go_wp2_with fail
      go_ret
      exact ⟨a4, cap4, rfl, HR4.out, HC4.out, HB4.out⟩
def tabBlueL (n m : Nat) (d : Int) : List Int := dftL (zeroL (rowT (dirRt n d) n (2 * n - 1)) m) (dirRt m 0)
set_option maxHeartbeats 1000000 in
theorem tab_blues (k : Int) (n m lg : Nat) (d : Int) (w : World) (h : hasSz n = true) (hd : d = 0 ∨ d = 1) (hlg : lg ≤ 24) (hm : m = 2 ^ lg) (hl : 2 * n - 1 ≤ m) :
    Calls Tryz.prog 135 #[.agg #[.int .i64 k, .int .i64 n, .int .i64 m, .int .i64 d]] w (GivesRow .u64 (tabBlueL n m d) w) := by
  have hms : hasSz m = true := by rw [hm]; exact hasSz_pow lg hlg
  have C0 : Hid (∀ W, Calls Tryz.prog 151 #[.int .i64 n, .int .i64 m, .int .i64 d] W (GivesRowE .u64 (zeroL (rowT (dirRt n d) n (2 * n - 1)) m) 0 W)) := fun W => kernel_ok n m d W h hd hms hl
  have C1 : Hid (∀ (a : Option Addr) (c : Nat) (xs : List Int) (W : World), Row .u64 W a xs → xs.length = m → Calls Tryz.prog 150 #[.slice a m c, .int .i64 0] W (GivesRowE .u64 (dftL xs (dirRt m 0)) 0 W)) := fun a c xs W hx hl => do_ok a m lg c 0 xs W hx hl (Or.inl rfl) (by omega) hm
  have HD : Hid (dftL (zeroL (rowT (dirRt n d) n (2 * n - 1)) m) (dirRt m 0) = tabBlueL n m d) := rfl
  have HZ : Hid ((zeroL (rowT (dirRt n d) n (2 * n - 1)) m).length = m) := zeroL_len _ _ (by rw [rowT_len]; exact hl)
  have HL : Hid ((tabBlueL n m d).length = m) := by unfold Hid; rw [← HD.out, dftL_len]; exact HZ.out
  obtain ⟨K, hK⟩ : ∃ K, zeroL (rowT (dirRt n d) n (2 * n - 1)) m = K := ⟨_, rfl⟩
  rw [hK] at C0 HD HZ
  clear h hd hm hms hK
  obtain ⟨W0, hW0, hb0, x0⟩ := box_any w #[.int .i64 k, .int .i64 n, .int .i64 m, .int .i64 d] 133
  have HW0 := Lib.hid hW0
  have HB := Lib.hid hb0
  have D1 : W0.cell? ⟨w.heap.size, 1, none⟩ = some (.int .i64 n) := block_cell x0 1
  have D2 : W0.cell? ⟨w.heap.size, 2, none⟩ = some (.int .i64 m) := block_cell x0 2
  have D3 : W0.cell? ⟨w.heap.size, 3, none⟩ = some (.int .i64 d) := block_cell x0 3
  clear hW0 hb0 x0
  go_enter Tryz.func135, Tryz.ntmps135
  go_wp2_with fail
  rw [HW0.out]
  refine (C0.out _).mono ?_; rintro e w1 ⟨a1, cap1, rfl, hr1, hcap1, hb1⟩
  rw [HZ.out]
  clear D1 D2 D3
  go_wp2_with fail
  refine (C1.out _ _ _ _ hr1 HZ.out).mono ?_; rintro e w4 ⟨a4, cap4, rfl, hr4, hcap4, hb4⟩
  rw [HD.out] at hr4 hcap4 ⊢
  have HB4 := Lib.hid (chain (chain HB.out hb1) hb4)
  have HR4 := Lib.hid hr4
  have HC4 := Lib.hid hcap4
  clear hr4 hcap4 hb4
  go_wp2_with fail
  go_ret
  exact ⟨a4, cap4, rfl, HR4.out, HC4.out, HB4.out⟩
end Go.Proofs.YtlnlijeamflpiaaGreat

namespace Go.Proofs.YtlnlijeamflpiaaGreat
open Go.RowKit
set_option linter.unusedVariables false
set_option linter.unusedSimpArgs false
set_option maxRecDepth 100000
def tblL (k : Int) (n m : Nat) (d : Int) : List Int :=
  if k = 1 then powL (dirRt n d) n else if k = 2 then rowT (dirRt n (1 - d)) n n else if k = 3 then tabRaderL n d else tabBlueL n m d
theorem tab1 (n m : Nat) (d : Int) : tblL 1 n m d = powL (dirRt n d) n := rfl
theorem tab2 (n m : Nat) (d : Int) : tblL 2 n m d = rowT (dirRt n (1 - d)) n n := rfl
theorem tab3 (n m : Nat) (d : Int) : tblL 3 n m d = tabRaderL n d := rfl
theorem tab4 (n m : Nat) (d : Int) : tblL 4 n m d = tabBlueL n m d := rfl
/-- Reduced. -/
def RedL (xs : List Int) : Prop := ∀ x ∈ xs, 0 ≤ x ∧ x < 18446744069414584321
theorem red_id {xs : List Int} (h : RedL xs) : xs.map (· % 18446744069414584321) = xs := by
  have : ∀ x ∈ xs, (x % 18446744069414584321) = id x := fun x hx => by have := h x hx; exact Int.emod_eq_of_lt this.1 this.2
  rw [List.map_congr_left this, List.map_id]
theorem red_pow (z : Int) (n : Nat) : RedL (powL z n) := by
  intro x hx; obtain ⟨i, _, rfl⟩ := List.mem_map.1 hx; exact pw_range z i
theorem red_rowT (z : Int) (n m : Nat) : RedL (rowT z n m) := by
  intro x hx; obtain ⟨i, _, rfl⟩ := List.mem_map.1 hx; exact pw_range z _
theorem red_dft (xs : List Int) (z : Int) : RedL (dftL xs z) := by
  intro x hx; obtain ⟨i, _, rfl⟩ := List.mem_map.1 hx; exact pt_range xs _
theorem red_tab (k : Int) (n m : Nat) (d : Int) : RedL (tblL k n m d) := by
  unfold tblL
  split
  · exact red_pow _ _
  · split
    · exact red_rowT _ _ _
    · split
      · exact red_dft _ _
      · exact red_dft _ _
/-- What a right name is. -/
theorem right_cases {k n m d : Int} (h : rightB (k, n, m, d) = true) : ∃ N : Nat, n = N ∧ hasSz (N : Int) = true ∧ (d = 0 ∨ d = 1) ∧
    ((k = 1 ∧ m = 0) ∨ (k = 2 ∧ m = 0) ∨ (k = 3 ∧ m = 0 ∧ IsFq N) ∨ (k = 4 ∧ ∃ M lg : Nat, m = M ∧ 2 ≤ N ∧ lg ≤ 24 ∧ M = 2 ^ lg ∧ 2 * N - 1 ≤ M)) := by
  simp only [rightB, Bool.and_eq_true, decide_eq_true_eq] at h
  obtain ⟨⟨h1, h2⟩, h3⟩ := h
  have hb := hasSz_iff.1 h1
  obtain ⟨N, rfl⟩ := Int.eq_ofNat_of_zero_le (show 0 ≤ n by omega)
  refine ⟨N, rfl, h1, h2, ?_⟩
  by_cases k1 : k = 1 ∨ k = 2
  · rw [if_pos k1] at h3
    have := of_decide_eq_true h3
    rcases k1 with k1 | k1
    · exact Or.inl ⟨k1, this⟩
    · exact Or.inr (Or.inl ⟨k1, this⟩)
  · rw [if_neg k1] at h3
    by_cases k3 : k = 3
    · rw [if_pos k3] at h3
      simp only [Bool.and_eq_true, decide_eq_true_eq] at h3
      exact Or.inr (Or.inr (Or.inl ⟨k3, h3.1.1, fq_of h1 h3.2 (by omega)⟩))
    · rw [if_neg k3] at h3
      by_cases k4 : k = 4
      · rw [if_pos k4] at h3
        simp only [Bool.and_eq_true, decide_eq_true_eq] at h3
        obtain ⟨lg, hlg, he⟩ := (hasP2_iff _).1 h3.2
        exact Or.inr (Or.inr (Or.inr ⟨k4, 2 ^ lg, lg, he, by omega, hlg, rfl, by omega⟩))
      · rw [if_neg k4] at h3; cases h3
theorem room_right {k n m d : Int} (h : rightB (k, n, m, d) = true) (N M : Nat) (hn : n = N) (hm : m = M) : roomN (k, n, m, d) = ((tblL k N M d).length : Nat) ∧ (tblL k N M d).length ≤ 16777216 := by
  obtain ⟨N', hN, hs, hd, hc⟩ := right_cases h
  have hb := hasSz_iff.1 hs
  have : N' = N := by omega
  subst this
  unfold roomN
  rw [if_neg (by rw [h]; simp)]
  simp only
  rcases hc with ⟨rfl, _⟩ | ⟨rfl, _⟩ | ⟨rfl, _, hq⟩ | ⟨rfl, M', lg, hM, h2, hlg, he, hle⟩
  · rw [if_neg (by omega), if_neg (by omega), tab1, powL_len]; exact ⟨hN, by omega⟩
  · rw [if_neg (by omega), if_neg (by omega), tab2, rowT_len]; exact ⟨hN, by omega⟩
  · have := fq_bd hq
    rw [if_pos rfl, tab3, tabRaderL, dftL_len, radL_len]; omega
  · have hMM : M' = M := by omega
    subst hMM
    have := (hasSz_iff.1 (hasSz_pow lg hlg)).2.1
    rw [← he] at this
    rw [if_neg (by omega), if_pos rfl, tab4, tabBlueL, dftL_len, zeroL_len _ _ (by rw [rowT_len]; exact hle)]
    omega
set_option maxHeartbeats 1000000 in
theorem table_made (k n m d : Int) (xs : List Int) (L : Nat) (w : World) (hx : NmOk (k, n, m, d)) (h : rightB (k, n, m, d) = true) (hl : xs.length = L) (hl2 : L ≤ 16777216) (hr : RedL xs)
    (hc : ∀ W, Calls Tryz.prog (if k = 2 then 133 else if k = 3 then 134 else if k = 4 then 135 else 132) #[.agg #[.int .i64 k, .int .i64 n, .int .i64 m, .int .i64 d]] W (GivesRow .u64 xs W)) (hk : k = 1 ∨ k = 2 ∨ k = 3 ∨ k = 4) :
    Calls Tryz.prog 108 #[.agg #[.int .i64 k, .int .i64 n, .int .i64 m, .int .i64 d]] w (GivesRowE .u64 xs 0 w) := by
  have C0 : Hid (∀ W, Calls Tryz.prog 131 #[.agg #[.int .i64 k, .int .i64 n, .int .i64 m, .int .i64 d]] W fun e w' => e = .returned (.bool true) ∧ Below W.heap.size W w') := fun W => by rw [← h]; exact need_Right k n m d W hx
  have C2 : Hid (∀ (a : Option Addr) (c : Nat) (W : World), Row .u64 W a xs → Calls Tryz.prog 49 #[.slice a L c] W (GivesRow .u64 xs W)) := fun a c W hr' => by
    have := vec_RedN2 a L c xs W hr' hl hl2
    rwa [red_id hr] at this
  have HL := Lib.hid hl
  clear h hx hr hl
  obtain ⟨W0, hW0, hb0, x0⟩ := box_any w #[.int .i64 k, .int .i64 n, .int .i64 m, .int .i64 d] 112
  have HW0 := Lib.hid hW0
  have HB := Lib.hid hb0
  have X0 := Lib.hid x0
  have D0 : W0.cell? ⟨w.heap.size, 0, none⟩ = some (.int .i64 k) := block_cell x0 0
  have D1 : W0.cell? ⟨w.heap.size, 1, none⟩ = some (.int .i64 n) := block_cell x0 1
  have D2 : W0.cell? ⟨w.heap.size, 2, none⟩ = some (.int .i64 m) := block_cell x0 2
  have D3 : W0.cell? ⟨w.heap.size, 3, none⟩ = some (.int .i64 d) := block_cell x0 3
  clear hW0 hb0 x0
  rcases hk with rfl | rfl | rfl | rfl
  · have C1 : Hid (∀ W, Calls Tryz.prog 132 #[.agg #[.int .i64 1, .int .i64 n, .int .i64 m, .int .i64 d]] W (GivesRow .u64 xs W)) := hc
    clear hc
    go_enter Tryz.func108, Tryz.ntmps108
    go_wp2_with fail
    rw [HW0.out]
    refine (C0.out _).mono ?_; rintro e w1 ⟨rfl, hb1⟩
    have HB1 := Lib.hid (chain HB.out hb1)
    clear D0 D1 D2 D3
    have X1 := Lib.hid ((hb1.block _ (block_lt X0.out)).trans X0.out)
    have D0 : w1.cell? ⟨w.heap.size, 0, none⟩ = some (.int .i64 1) := block_cell X1.out 0
    have D1 : w1.cell? ⟨w.heap.size, 1, none⟩ = some (.int .i64 n) := block_cell X1.out 1
    have D2 : w1.cell? ⟨w.heap.size, 2, none⟩ = some (.int .i64 m) := block_cell X1.out 2
    have D3 : w1.cell? ⟨w.heap.size, 3, none⟩ = some (.int .i64 d) := block_cell X1.out 3
    obtain ⟨W2, hW2, hb2, x2⟩ := box_any w1 #[.int .i64 1, .int .i64 n, .int .i64 m, .int .i64 d] 133
    have E0 : (w1.alloc (.cells #[.int .i64 1, .int .i64 n, .int .i64 m, .int .i64 d] 133)).cell? ⟨w.heap.size, 0, none⟩ = some (.int .i64 1) := (cell_past _ _ _ (block_lt X1.out)).trans D0
    have HW2 := Lib.hid hW2
    have HB2 := Lib.hid (chain HB1.out hb2)
    clear hb1 hW2 hb2 x2
    go_wp2_with fail
    rw [HW2.out]
    refine (C1.out _).mono ?_; rintro e w3 ⟨a3, cap3, rfl, hr3, hcap3, hb3⟩
    simp only [HL.out] at hcap3 ⊢
    have HB3 := Lib.hid (chain HB2.out hb3)
    have HR3 := Lib.hid hr3
    clear D0 D1 D2 D3 E0 hr3 hcap3 hb3
    go_wp2_with fail
    refine (C2.out _ _ _ HR3.out).mono ?_; rintro e w4 ⟨a4, cap4, rfl, hr4, hcap4, hb4⟩
    simp only [HL.out] at hcap4 ⊢
    have HB4 := Lib.hid (chain HB3.out hb4)
    have HR4 := Lib.hid hr4
    clear hr4 hb4
    go_wp2_with fail
    go_ret2
    exact ⟨a4, cap4, by simp [HL.out], HR4.out, by rw [HL.out]; exact hcap4, HB4.out⟩
  · have C1 : Hid (∀ W, Calls Tryz.prog 133 #[.agg #[.int .i64 2, .int .i64 n, .int .i64 m, .int .i64 d]] W (GivesRow .u64 xs W)) := hc
    clear hc
    go_enter Tryz.func108, Tryz.ntmps108
    go_wp2_with fail
    rw [HW0.out]
    refine (C0.out _).mono ?_; rintro e w1 ⟨rfl, hb1⟩
    have HB1 := Lib.hid (chain HB.out hb1)
    clear D0 D1 D2 D3
    have X1 := Lib.hid ((hb1.block _ (block_lt X0.out)).trans X0.out)
    have D0 : w1.cell? ⟨w.heap.size, 0, none⟩ = some (.int .i64 2) := block_cell X1.out 0
    have D1 : w1.cell? ⟨w.heap.size, 1, none⟩ = some (.int .i64 n) := block_cell X1.out 1
    have D2 : w1.cell? ⟨w.heap.size, 2, none⟩ = some (.int .i64 m) := block_cell X1.out 2
    have D3 : w1.cell? ⟨w.heap.size, 3, none⟩ = some (.int .i64 d) := block_cell X1.out 3
    obtain ⟨W2, hW2, hb2, x2⟩ := box_any w1 #[.int .i64 2, .int .i64 n, .int .i64 m, .int .i64 d] 133
    have E0 : (w1.alloc (.cells #[.int .i64 2, .int .i64 n, .int .i64 m, .int .i64 d] 133)).cell? ⟨w.heap.size, 0, none⟩ = some (.int .i64 2) := (cell_past _ _ _ (block_lt X1.out)).trans D0
    have HW2 := Lib.hid hW2
    have HB2 := Lib.hid (chain HB1.out hb2)
    clear hb1 hW2 hb2 x2
    go_wp2_with fail
    rw [HW2.out]
    refine (C1.out _).mono ?_; rintro e w3 ⟨a3, cap3, rfl, hr3, hcap3, hb3⟩
    simp only [HL.out] at hcap3 ⊢
    have HB3 := Lib.hid (chain HB2.out hb3)
    have HR3 := Lib.hid hr3
    clear D0 D1 D2 D3 E0 hr3 hcap3 hb3
    go_wp2_with fail
    refine (C2.out _ _ _ HR3.out).mono ?_; rintro e w4 ⟨a4, cap4, rfl, hr4, hcap4, hb4⟩
    simp only [HL.out] at hcap4 ⊢
    have HB4 := Lib.hid (chain HB3.out hb4)
    have HR4 := Lib.hid hr4
    clear hr4 hb4
    go_wp2_with fail
    go_ret2
    exact ⟨a4, cap4, by simp [HL.out], HR4.out, by rw [HL.out]; exact hcap4, HB4.out⟩
  · have C1 : Hid (∀ W, Calls Tryz.prog 134 #[.agg #[.int .i64 3, .int .i64 n, .int .i64 m, .int .i64 d]] W (GivesRow .u64 xs W)) := hc
    clear hc
    go_enter Tryz.func108, Tryz.ntmps108
    go_wp2_with fail
    rw [HW0.out]
    refine (C0.out _).mono ?_; rintro e w1 ⟨rfl, hb1⟩
    have HB1 := Lib.hid (chain HB.out hb1)
    clear D0 D1 D2 D3
    have X1 := Lib.hid ((hb1.block _ (block_lt X0.out)).trans X0.out)
    have D0 : w1.cell? ⟨w.heap.size, 0, none⟩ = some (.int .i64 3) := block_cell X1.out 0
    have D1 : w1.cell? ⟨w.heap.size, 1, none⟩ = some (.int .i64 n) := block_cell X1.out 1
    have D2 : w1.cell? ⟨w.heap.size, 2, none⟩ = some (.int .i64 m) := block_cell X1.out 2
    have D3 : w1.cell? ⟨w.heap.size, 3, none⟩ = some (.int .i64 d) := block_cell X1.out 3
    obtain ⟨W2, hW2, hb2, x2⟩ := box_any w1 #[.int .i64 3, .int .i64 n, .int .i64 m, .int .i64 d] 133
    have E0 : (w1.alloc (.cells #[.int .i64 3, .int .i64 n, .int .i64 m, .int .i64 d] 133)).cell? ⟨w.heap.size, 0, none⟩ = some (.int .i64 3) := (cell_past _ _ _ (block_lt X1.out)).trans D0
    have HW2 := Lib.hid hW2
    have HB2 := Lib.hid (chain HB1.out hb2)
    clear hb1 hW2 hb2 x2
    go_wp2_with fail
    rw [HW2.out]
    refine (C1.out _).mono ?_; rintro e w3 ⟨a3, cap3, rfl, hr3, hcap3, hb3⟩
    simp only [HL.out] at hcap3 ⊢
    have HB3 := Lib.hid (chain HB2.out hb3)
    have HR3 := Lib.hid hr3
    clear D0 D1 D2 D3 E0 hr3 hcap3 hb3
    go_wp2_with fail
    refine (C2.out _ _ _ HR3.out).mono ?_; rintro e w4 ⟨a4, cap4, rfl, hr4, hcap4, hb4⟩
    simp only [HL.out] at hcap4 ⊢
    have HB4 := Lib.hid (chain HB3.out hb4)
    have HR4 := Lib.hid hr4
    clear hr4 hb4
    go_wp2_with fail
    go_ret2
    exact ⟨a4, cap4, by simp [HL.out], HR4.out, by rw [HL.out]; exact hcap4, HB4.out⟩
  · have C1 : Hid (∀ W, Calls Tryz.prog 135 #[.agg #[.int .i64 4, .int .i64 n, .int .i64 m, .int .i64 d]] W (GivesRow .u64 xs W)) := hc
    clear hc
    go_enter Tryz.func108, Tryz.ntmps108
    go_wp2_with fail
    rw [HW0.out]
    refine (C0.out _).mono ?_; rintro e w1 ⟨rfl, hb1⟩
    have HB1 := Lib.hid (chain HB.out hb1)
    clear D0 D1 D2 D3
    have X1 := Lib.hid ((hb1.block _ (block_lt X0.out)).trans X0.out)
    have D0 : w1.cell? ⟨w.heap.size, 0, none⟩ = some (.int .i64 4) := block_cell X1.out 0
    have D1 : w1.cell? ⟨w.heap.size, 1, none⟩ = some (.int .i64 n) := block_cell X1.out 1
    have D2 : w1.cell? ⟨w.heap.size, 2, none⟩ = some (.int .i64 m) := block_cell X1.out 2
    have D3 : w1.cell? ⟨w.heap.size, 3, none⟩ = some (.int .i64 d) := block_cell X1.out 3
    obtain ⟨W2, hW2, hb2, x2⟩ := box_any w1 #[.int .i64 4, .int .i64 n, .int .i64 m, .int .i64 d] 133
    have E0 : (w1.alloc (.cells #[.int .i64 4, .int .i64 n, .int .i64 m, .int .i64 d] 133)).cell? ⟨w.heap.size, 0, none⟩ = some (.int .i64 4) := (cell_past _ _ _ (block_lt X1.out)).trans D0
    have HW2 := Lib.hid hW2
    have HB2 := Lib.hid (chain HB1.out hb2)
    clear hb1 hW2 hb2 x2
    go_wp2_with fail
    rw [HW2.out]
    refine (C1.out _).mono ?_; rintro e w3 ⟨a3, cap3, rfl, hr3, hcap3, hb3⟩
    simp only [HL.out] at hcap3 ⊢
    have HB3 := Lib.hid (chain HB2.out hb3)
    have HR3 := Lib.hid hr3
    clear D0 D1 D2 D3 E0 hr3 hcap3 hb3
    go_wp2_with fail
    refine (C2.out _ _ _ HR3.out).mono ?_; rintro e w4 ⟨a4, cap4, rfl, hr4, hcap4, hb4⟩
    simp only [HL.out] at hcap4 ⊢
    have HB4 := Lib.hid (chain HB3.out hb4)
    have HR4 := Lib.hid hr4
    clear hr4 hb4
    go_wp2_with fail
    go_ret2
    exact ⟨a4, cap4, by simp [HL.out], HR4.out, by rw [HL.out]; exact hcap4, HB4.out⟩
theorem table_Make (k n m d : Int) (N M : Nat) (w : World) (hx : NmOk (k, n, m, d)) (h : rightB (k, n, m, d) = true) (hn : n = N) (hm : m = M) :
    Calls Tryz.prog 108 #[.agg #[.int .i64 k, .int .i64 n, .int .i64 m, .int .i64 d]] w (GivesRowE .u64 (tblL k N M d) 0 w) := by
  have hl := (room_right h N M hn hm).2
  obtain ⟨N', hN, hs, hd, hc⟩ := right_cases h
  have : N' = N := by omega
  subst this
  subst hn
  refine table_made k N' m d _ _ w hx h rfl hl (red_tab _ _ _ _) ?_ (by rcases hc with ⟨h, _⟩ | ⟨h, _⟩ | ⟨h, _⟩ | ⟨h, _⟩ <;> omega)
  intro W
  rcases hc with ⟨rfl, _⟩ | ⟨rfl, _⟩ | ⟨rfl, _, hq⟩ | ⟨rfl, M', lg, hM, h2, hlg, he, hle⟩
  · exact tab_powers 1 N' m d W hs hd
  · exact tab_chirps 2 N' m d _ W hs hd rfl
  · exact tab_raders 3 N' m d W hs hd hq
  · have hMM : M' = M := by omega
    subst hMM
    rw [hm]
    exact tab_blues 4 N' M' lg d W hs hd hlg he hle
end Go.Proofs.YtlnlijeamflpiaaGreat

namespace Go.Proofs.YtlnlijeamflpiaaGreat
open Go.RowKit
set_option linter.unusedVariables false
set_option linter.unusedSimpArgs false
set_option maxRecDepth 100000
set_option maxRecDepth 20000
/-- append of a row that is owned (or of nothing) to a row that is owned. -/
theorem wpList_append_two {P : Program} (w : World) {ops : Array Oper} {rest : List Oper} {o : Oper} {a : Act} {Q : Exit → Act → World → Prop} (hgd : o.guard = none) (s x : Operand) (t : TypeId)
    (ho : o.op = .call { callee := .builtin .append, args := #[s, x], argTypes := #[t, t] })
    (base : Nat) (e : TypeId) (i : TypeInfo) (z : Value) (size bytes : Nat) (ht : P.underlying t = some (.slice e)) (hi : P.info? e = some i) (hz : i.zero = some z)
    (hsize : i.size = size) (hby : i.bytes = bytes) (hzs : z.cells.size = size) (hsz : 0 < size)
    (v : Value) (n : Nat) (xs : List Value) (hs : a.eval s = v) (hown : w.ownsRow base e size v n xs)
    (b2 : Nat) (v2 : Value) (m : Nat) (news : List Value) (hx : a.eval x = v2) (hsrc : w.ownsRow b2 e size v2 m news) (h1 : ∀ u ∈ news, u.oneCell' = true)
    (h63 : n + m ≤ maxLen) (hbytes : (n + m) * bytes ≤ 140737488355328) (hbase : base ≤ w.heap.size)
    (h : ∀ v' w', w'.ownsRow base e size v' (n + m) (xs ++ news) → w.grownBy w' v.ownBlock → (v'.ownBlock = v.ownBlock ∨ v'.ownBlock = some w.heap.size) → wpList P ops Q rest (a.put o.dst v') w') :
    wpList P ops Q (o :: rest) a w := by
  have hl := hsrc.1
  have hcells := fun g hg => hsrc.cells (g := g) hg
  rcases hsrc.2 with ⟨rfl, rfl⟩ | ⟨g, cap, cur, rfl, _, _, _, _, _, _⟩
  · have hn : news = [] := List.eq_nil_of_length_eq_zero (by simpa using hl)
    subst hn
    exact wpList_append_own_none hgd s x t ho base e i size ht hi v n xs hs hown hx (h v w (by simpa using hown) (World.grownBy.refl w _) (.inl rfl))
  · exact wpList_append_own_at w hgd s x t ho base e i z size bytes ht hi hz hsize hby hzs hsz v n xs hs hown ⟨g, 0, none⟩ m cap news hx hl (hcells g rfl) h1 h63 hbytes hbase fun v' w' h2 h3 _ h5 => h v' w' h2 h3 h5
end Go.Proofs.YtlnlijeamflpiaaGreat

namespace Go.Proofs.YtlnlijeamflpiaaGreat
open Go.RowKit
set_option linter.unusedVariables false
set_option linter.unusedSimpArgs false
set_option maxRecDepth 100000
set_option maxRecDepth 20000
/-- Nodes in memory stay. -/
def KeepsD (W W' : World) : Prop := ∀ (b : Nat) (cs : Array Value), W.heap[b]? = some (.cells cs 48 (0, 0)) → W'.heap[b]? = some (.cells cs 48 (0, 0))
theorem KeepsD.refl (W : World) : KeepsD W W := fun _ _ h => h
theorem KeepsD.trans {A B C : World} (h : KeepsD A B) (k : KeepsD B C) : KeepsD A C := fun b cs x => k b cs (h b cs x)
theorem KeepsD.of_below {W W' : World} (h : Below W.heap.size W W') : KeepsD W W' := fun b cs x => (h.block b (block_lt x)).trans x
theorem nmOk_mk {x y z u : Int} (h1 : -9223372036854775808 ≤ x ∧ x < 9223372036854775808) (h2 : -9223372036854775808 ≤ y ∧ y < 9223372036854775808) (h3 : -9223372036854775808 ≤ z ∧ z < 9223372036854775808) (h4 : -9223372036854775808 ≤ u ∧ u < 9223372036854775808) : NmOk (x, y, z, u) := ⟨h1, h2, h3, h4⟩
/-- A function that is told names, one by one; J: what holds when some have been told. -/
structure TellsN (g : FuncId) (p q : Addr) (w0 : World) (B C : Nat) (J : List Nm → World → Prop) : Prop where
  below : ∀ pre W, J pre W → Below B w0 W
  later : ∀ pre W W', J pre W → Below W.heap.size W W' → J pre W'
  call : ∀ (pre : List Nm) (k n m d : Int) W, J pre W → pre.length < C → NmOk (k, n, m, d) → Calls Tryz.prog g #[.agg #[.int .i64 k, .int .i64 n, .int .i64 m, .int .i64 d], .pointer (some p), .pointer (some q)] W fun e W' => e = .returned (.tuple #[]) ∧ J (pre ++ [(k, n, m, d)]) W' ∧ KeepsD W W'
  enter : ∀ args w, (callFunc g args).run Tryz.prog w = .ok (.enter g args) w
/-- The round over the children, and what stands behind it: a part of each's walk, for one kind of node. -/
def EachEnds (J : List Nm → World → Prop) (l : List Nm) (W : World) (e : Ending) (W' : World) : Prop := e = .returned (.tuple #[]) ∧ J l W' ∧ KeepsD W W'
set_option maxHeartbeats 16000000 in
theorem need_each (g : FuncId) (p q : Addr) (w0 : World) (B C : Nat) (J : List Nm → World → Prop) (HJ : TellsN g p q w0 B C J) (hB : B ≤ w0.heap.size) (N : Nat) (hN : N ≤ 4194304) :
    ∀ (t : Tr) (k n : Int) (a : Option Addr) (m cap : Nat) (dir : Int) (pre : List Nm) (W : World), t.size ≤ N → IsT w0 (Lt B) k n a m cap t → t.allOk → dir = 0 ∨ dir = 1 → J pre W → pre.length + 2 * t.size ≤ C →
    Calls Tryz.prog 178 #[.agg #[.int .i64 k, .int .i64 n, .slice a m cap], .int .i64 dir, .func (.func g) #[] #[.pointer (some p), .pointer (some q)]] W (EachEnds J (pre ++ t.names dir) W) := by
  have eg := HJ.enter
  induction N with
  | zero => intro t k n a m cap dir pre W h; have := Tr.size_pos t; omega
  | succ N ih =>
    intro t k n a m cap dir pre W hs hT hok hd hJ hC
    have IH := Lib.hid (ih (by omega))
    clear ih
    have hn := (Tr.allOk_iff t).1 hok
    have HOK := Lib.hid hn.2
    have HT : Hid (∀ pre V, J pre V → IsT V (Lt B) k n a m cap t) := fun pre V h => hT.stay fun b hb _ => (HJ.below pre V h).block b hb
    have HS := Lib.hid hs
    have HC := Lib.hid hC
    have hm4 : m ≤ 4194304 := by
      have := Tr.len_le_sizeL t.kids
      rw [Tr.size_kids] at hs
      rw [hT.em]; omega
    have hlen := hT.em
    have fn := hT.fn
    have fd : -9223372036854775808 ≤ dir ∧ dir < 9223372036854775808 := by omega
    have HNM : Hid (t.names dir = nmOwn k n (Tr.kid t.kids 0).num dir ++ Tr.namesL t.kids (nmBelow k dir)) := by unfold Hid; rw [Tr.names_kids, hT.ek, hT.en]
    obtain ⟨own, hown⟩ : ∃ l, nmOwn k n (Tr.kid t.kids 0).num dir = l := ⟨_, rfl⟩
    have hol : own.length ≤ 2 := by rw [← hown]; exact Tr.own_len _ _ _ _
    obtain ⟨D, hD⟩ : ∃ x, nmBelow k dir = x := ⟨_, rfl⟩
    have hd2 : D = 0 ∨ D = 1 := by rw [← hD]; exact below_dir k dir hd
    rw [hown, hD] at HNM
    rw [HNM.out]
    -- the round, for any world behind the node's own names
    have HR : Hid (∀ (V : World) (j : Nat), j < m → J (pre ++ own ++ Tr.namesL (t.kids.take j) D) V → ∀ k' n' a' m' c', IsT V (Lt B) k' n' a' m' c' (Tr.kid t.kids j) → True) := fun _ _ _ _ _ _ _ _ _ _ => trivial
    have IHK : Hid (∀ (j : Nat) (hj : j < m) (V : World), J (pre ++ own ++ Tr.namesL (t.kids.take j) D) V → ∃ b off k' n' a' m' c', a = some ⟨b, off, none⟩ ∧ b < V.heap.size ∧ V.cell? ⟨b, off + j * 3, none⟩ = some (.int .i64 k') ∧ V.cell? ⟨b, off + j * 3 + 1, none⟩ = some (.int .i64 n') ∧ V.cell? ⟨b, off + j * 3 + 2, none⟩ = some (.slice a' m' c') ∧
        ∀ V', Below V.heap.size V V' → Calls Tryz.prog 178 #[.agg #[.int .i64 k', .int .i64 n', .slice a' m' c'], .int .i64 D, .func (.func g) #[] #[.pointer (some p), .pointer (some q)]] V' (EachEnds J (pre ++ own ++ Tr.namesL (t.kids.take (j + 1)) D) V')) := fun j hj V hV => by
      have hj2 : j < t.kids.length := by rw [← hlen]; exact hj
      obtain ⟨b, off, k', n', a', m', c', e1, hF, hbl, h0, h1, h2, hT'⟩ := hT.kid j hj
      have hbel := HJ.below _ _ hV
      have ec : ∀ o, V.cell? ⟨b, o, none⟩ = w0.cell? ⟨b, o, none⟩ := fun o => hbel.cell (p := ⟨b, o, none⟩) hF
      have hbs : b < V.heap.size := Nat.lt_of_lt_of_le hbl hbel.size
      refine ⟨b, off, k', n', a', m', c', e1, hbs, (ec _).trans h0, (ec _).trans h1, (ec _).trans h2, fun V' hb => ?_⟩
      have hsz := Tr.size_kid t j hj2
      have htk := Tr.take_kid hj2
      have hnl := Tr.namesL_len (t.kids.take j) D
      have hsl := Tr.sizeL_append (t.kids.take (j + 1)) (t.kids.drop (j + 1))
      rw [List.take_append_drop, htk, Tr.sizeL_append] at hsl
      simp only [Tr.sizeL] at hsl
      have hts := Tr.size_kids t
      have h := IH.out (Tr.kid t.kids j) k' n' a' m' c' D (pre ++ own ++ Tr.namesL (t.kids.take j) D) V' (by omega) hT' (HOK.out j hj2) hd2 (HJ.later _ _ _ hV hb) (by
        simp only [List.length_append]
        omega)
      rw [List.append_assoc (pre ++ own), ← Tr.namesL_snoc, ← htk] at h
      exact h
    have HEND : Hid (Tr.namesL (t.kids.take m) D = Tr.namesL t.kids D) := by unfold Hid; rw [List.take_of_length_le (by omega)]
    clear HR
    have CT : Hid (∀ (l : List Nm) (x y z u : Int) V, J l V → l.length < C → NmOk (x, y, z, u) → Calls Tryz.prog g #[.agg #[.int .i64 x, .int .i64 y, .int .i64 z, .int .i64 u], .pointer (some p), .pointer (some q)] V fun e W' => e = .returned (.tuple #[]) ∧ J (l ++ [(x, y, z, u)]) W' ∧ KeepsD V W') := fun l x y z u V h1 h2 h3 => HJ.call l x y z u V h1 h2 h3
    have hpl : pre.length + 2 ≤ C := by have := Tr.size_pos t; omega
    obtain ⟨W0, hW0, hb0, x0⟩ := box_any W #[.int .i64 k, .int .i64 n, .slice a m cap] 48
    have HW0 := Lib.hid hW0
    have hJ0 := Lib.hid (HJ.later _ _ _ hJ hb0)
    have HK := Lib.hid (KeepsD.of_below hb0)
    have XD := Lib.hid x0
    have HL : Hid (∀ l V V', J l V → Below V.heap.size V V' → J l V') := HJ.later
    have hcs := node_cases hn.1
    rw [← hT.ek, ← hT.en, ← hT.em] at hcs
    have hk0 : k = 7 → ∃ b off, a = some ⟨b, off, none⟩ ∧ ∀ l V, J l V → V.cell? ⟨b, off + 1, none⟩ = some (.int .i64 (Tr.kid t.kids 0).num) := fun hk7 => by
      have h1 : 0 < m := by rcases hcs with h | h | h | h | h | h <;> omega
      obtain ⟨b, off, e1, _, h2, _⟩ := hT.knum 0 h1
      refine ⟨b, off, e1, fun l V h => ?_⟩
      obtain ⟨b', off', k', n', a', m', c', e1', _, _, _, h3, _, hT'⟩ := (HT.out l V h).kid 0 h1
      rw [e1] at e1'
      simp only [Option.some.injEq, Addr.mk.injEq, and_true] at e1'
      obtain ⟨rfl, rfl⟩ := e1'
      rw [hT'.en] at h3
      simpa using h3
    have fk0 : -9223372036854775808 ≤ (Tr.kid t.kids 0).num ∧ (Tr.kid t.kids 0).num < 9223372036854775808 ∨ k ≠ 7 := by
      by_cases hk7 : k = 7
      · left
        rcases hcs with h | h | h | h | h | h <;> omega
      · exact .inr hk7
    obtain ⟨K0, hK0⟩ : ∃ x, (Tr.kid t.kids 0).num = x := ⟨_, rfl⟩
    rw [hK0] at hown hk0 fk0
    have hkk : k = 1 ∨ k = 2 ∨ k = 3 ∨ k = 4 ∨ k = 5 ∨ k = 6 ∨ k = 7 := by rcases hcs with h | h | h | h | h | h <;> omega
    have HM7 : Hid (k = 7 → 0 < m) := fun h7 => by rcases hcs with h | h | h | h | h | h <;> omega
    clear hW0 hb0 x0 hJ hT hs hok hn hcs HJ hK0 hC hol hlen

    rcases hkk with rfl | rfl | rfl | rfl | rfl | rfl | rfl
    · skip
      have hown : [(1, n, 0, dir)] = own := by rw [← hown]; simp [nmOwn]
      obtain rfl : dir = D := by rw [← hD]; simp [nmBelow]
      clear hk0 fk0
      have hown := Lib.hid hown
      have D0 : W0.cell? ⟨W.heap.size, 0, none⟩ = some (.int .i64 1) := block_cell XD.out 0
      have D1 : W0.cell? ⟨W.heap.size, 1, none⟩ = some (.int .i64 n) := block_cell XD.out 1
      have D2 : W0.cell? ⟨W.heap.size, 2, none⟩ = some (.slice a m cap) := block_cell XD.out 2
      go_enter Tryz.func178, Tryz.ntmps178
      go_wp2_with fail
      rw [HW0.out]
      refine (CT.out pre _ _ _ _ _ hJ0.out (by first | omega | (simp; omega)) (nmOk_mk ⟨by omega, by omega⟩ ⟨by omega, by omega⟩ ⟨by omega, by omega⟩ ⟨by omega, by omega⟩)).mono ?_; rintro e w1 ⟨rfl, hj, hk⟩
      clear D0 D1 D2
      have XD := Lib.hid (hk _ _ XD.out)
      have HK := Lib.hid (HK.out.trans hk)
      have hJ0 := Lib.hid hj
      clear hk hj
      have D0 : w1.cell? ⟨W.heap.size, 0, none⟩ = some (.int .i64 1) := block_cell XD.out 0
      have D1 : w1.cell? ⟨W.heap.size, 1, none⟩ = some (.int .i64 n) := block_cell XD.out 1
      have D2 : w1.cell? ⟨W.heap.size, 2, none⟩ = some (.slice a m cap) := block_cell XD.out 2
      go_wp2_with fail
      go_loopw [52] (fun i wr => ∃ j : Nat, j ≤ m ∧ i = .int .i64 j ∧ Hid (J (pre ++ own ++ Tr.namesL (t.kids.take j) dir) wr) ∧ Hid (KeepsD W wr)) (fun i _ => m - (intOf i).toNat)
      case atStart => exact ⟨0, Nat.zero_le _, rfl, by unfold Hid; rw [← hown.out]; simpa [Tr.namesL] using hJ0.out, HK.out⟩
      case round =>
        obtain ⟨j, hj, rfl, HJ0, HK0⟩ := hrel
        by_cases hlt : j < m
        · obtain ⟨b, off, k', n', a', m', c', rfl, hbl, h0, h1, h2, hcall⟩ := IHK.out j hlt wr HJ0.out
          have HCALL := Lib.hid hcall
          have i0 : (0 : Int) ≤ (j : Int) := by omega
          have i1 : (j : Int) < (m : Int) := by omega
          clear hcall
          go_wp2_with fail
          refine (HCALL.out _ ((Below.refl _ _).alloc (Nat.le_refl _) _)).mono ?_; rintro e w2 ⟨rfl, hj2, hk2⟩
          have HJ2 := Lib.hid hj2
          have HK2 := Lib.hid (HK0.out.trans ((KeepsD.of_below ((Below.refl _ _).alloc (Nat.le_refl _) _)).trans hk2))
          clear hj2 hk2 h0 h1 h2
          go_wp2_with fail
          go_roundw
          case rel => exact ⟨j + 1, by omega, by go_num, HJ2.out, HK2.out⟩
          case measure => simp [intOf]; omega
        · obtain rfl : j = m := by omega
          have HF : Hid (J (pre ++ (own ++ Tr.namesL t.kids dir)) wr) := by unfold Hid; rw [← HEND.out, ← List.append_assoc]; exact HJ0.out
          clear HJ0
          go_wp2_with fail
          go_end0
          exact ⟨rfl, HF.out, HK0.out⟩
    · skip
      have hown : [] = own := by rw [← hown]; simp [nmOwn]
      obtain rfl : dir = D := by rw [← hD]; simp [nmBelow]
      clear hk0 fk0
      have hown := Lib.hid hown
      have D0 : W0.cell? ⟨W.heap.size, 0, none⟩ = some (.int .i64 2) := block_cell XD.out 0
      have D1 : W0.cell? ⟨W.heap.size, 1, none⟩ = some (.int .i64 n) := block_cell XD.out 1
      have D2 : W0.cell? ⟨W.heap.size, 2, none⟩ = some (.slice a m cap) := block_cell XD.out 2
      go_enter Tryz.func178, Tryz.ntmps178
      go_wp2_with fail
      rw [HW0.out]
      go_loopw [52] (fun i wr => ∃ j : Nat, j ≤ m ∧ i = .int .i64 j ∧ Hid (J (pre ++ own ++ Tr.namesL (t.kids.take j) dir) wr) ∧ Hid (KeepsD W wr)) (fun i _ => m - (intOf i).toNat)
      case atStart => exact ⟨0, Nat.zero_le _, rfl, by unfold Hid; rw [← hown.out]; simpa [Tr.namesL] using hJ0.out, HK.out⟩
      case round =>
        obtain ⟨j, hj, rfl, HJ0, HK0⟩ := hrel
        by_cases hlt : j < m
        · obtain ⟨b, off, k', n', a', m', c', rfl, hbl, h0, h1, h2, hcall⟩ := IHK.out j hlt wr HJ0.out
          have HCALL := Lib.hid hcall
          have i0 : (0 : Int) ≤ (j : Int) := by omega
          have i1 : (j : Int) < (m : Int) := by omega
          clear hcall
          go_wp2_with fail
          refine (HCALL.out _ ((Below.refl _ _).alloc (Nat.le_refl _) _)).mono ?_; rintro e w2 ⟨rfl, hj2, hk2⟩
          have HJ2 := Lib.hid hj2
          have HK2 := Lib.hid (HK0.out.trans ((KeepsD.of_below ((Below.refl _ _).alloc (Nat.le_refl _) _)).trans hk2))
          clear hj2 hk2 h0 h1 h2
          go_wp2_with fail
          go_roundw
          case rel => exact ⟨j + 1, by omega, by go_num, HJ2.out, HK2.out⟩
          case measure => simp [intOf]; omega
        · obtain rfl : j = m := by omega
          have HF : Hid (J (pre ++ (own ++ Tr.namesL t.kids dir)) wr) := by unfold Hid; rw [← HEND.out, ← List.append_assoc]; exact HJ0.out
          clear HJ0
          go_wp2_with fail
          go_end0
          exact ⟨rfl, HF.out, HK0.out⟩
    · skip
      have hown : [(1, n, 0, dir)] = own := by rw [← hown]; simp [nmOwn]
      obtain rfl : dir = D := by rw [← hD]; simp [nmBelow]
      clear hk0 fk0
      have hown := Lib.hid hown
      have D0 : W0.cell? ⟨W.heap.size, 0, none⟩ = some (.int .i64 3) := block_cell XD.out 0
      have D1 : W0.cell? ⟨W.heap.size, 1, none⟩ = some (.int .i64 n) := block_cell XD.out 1
      have D2 : W0.cell? ⟨W.heap.size, 2, none⟩ = some (.slice a m cap) := block_cell XD.out 2
      go_enter Tryz.func178, Tryz.ntmps178
      go_wp2_with fail
      rw [HW0.out]
      refine (CT.out pre _ _ _ _ _ hJ0.out (by first | omega | (simp; omega)) (nmOk_mk ⟨by omega, by omega⟩ ⟨by omega, by omega⟩ ⟨by omega, by omega⟩ ⟨by omega, by omega⟩)).mono ?_; rintro e w1 ⟨rfl, hj, hk⟩
      clear D0 D1 D2
      have XD := Lib.hid (hk _ _ XD.out)
      have HK := Lib.hid (HK.out.trans hk)
      have hJ0 := Lib.hid hj
      clear hk hj
      have D0 : w1.cell? ⟨W.heap.size, 0, none⟩ = some (.int .i64 3) := block_cell XD.out 0
      have D1 : w1.cell? ⟨W.heap.size, 1, none⟩ = some (.int .i64 n) := block_cell XD.out 1
      have D2 : w1.cell? ⟨W.heap.size, 2, none⟩ = some (.slice a m cap) := block_cell XD.out 2
      go_wp2_with fail
      go_loopw [52] (fun i wr => ∃ j : Nat, j ≤ m ∧ i = .int .i64 j ∧ Hid (J (pre ++ own ++ Tr.namesL (t.kids.take j) dir) wr) ∧ Hid (KeepsD W wr)) (fun i _ => m - (intOf i).toNat)
      case atStart => exact ⟨0, Nat.zero_le _, rfl, by unfold Hid; rw [← hown.out]; simpa [Tr.namesL] using hJ0.out, HK.out⟩
      case round =>
        obtain ⟨j, hj, rfl, HJ0, HK0⟩ := hrel
        by_cases hlt : j < m
        · obtain ⟨b, off, k', n', a', m', c', rfl, hbl, h0, h1, h2, hcall⟩ := IHK.out j hlt wr HJ0.out
          have HCALL := Lib.hid hcall
          have i0 : (0 : Int) ≤ (j : Int) := by omega
          have i1 : (j : Int) < (m : Int) := by omega
          clear hcall
          go_wp2_with fail
          refine (HCALL.out _ ((Below.refl _ _).alloc (Nat.le_refl _) _)).mono ?_; rintro e w2 ⟨rfl, hj2, hk2⟩
          have HJ2 := Lib.hid hj2
          have HK2 := Lib.hid (HK0.out.trans ((KeepsD.of_below ((Below.refl _ _).alloc (Nat.le_refl _) _)).trans hk2))
          clear hj2 hk2 h0 h1 h2
          go_wp2_with fail
          go_roundw
          case rel => exact ⟨j + 1, by omega, by go_num, HJ2.out, HK2.out⟩
          case measure => simp [intOf]; omega
        · obtain rfl : j = m := by omega
          have HF : Hid (J (pre ++ (own ++ Tr.namesL t.kids dir)) wr) := by unfold Hid; rw [← HEND.out, ← List.append_assoc]; exact HJ0.out
          clear HJ0
          go_wp2_with fail
          go_end0
          exact ⟨rfl, HF.out, HK0.out⟩
    · skip
      have hown : [(1, n, 0, dir)] = own := by rw [← hown]; simp [nmOwn]
      obtain rfl : dir = D := by rw [← hD]; simp [nmBelow]
      clear hk0 fk0
      have hown := Lib.hid hown
      have D0 : W0.cell? ⟨W.heap.size, 0, none⟩ = some (.int .i64 4) := block_cell XD.out 0
      have D1 : W0.cell? ⟨W.heap.size, 1, none⟩ = some (.int .i64 n) := block_cell XD.out 1
      have D2 : W0.cell? ⟨W.heap.size, 2, none⟩ = some (.slice a m cap) := block_cell XD.out 2
      go_enter Tryz.func178, Tryz.ntmps178
      go_wp2_with fail
      rw [HW0.out]
      refine (CT.out pre _ _ _ _ _ hJ0.out (by first | omega | (simp; omega)) (nmOk_mk ⟨by omega, by omega⟩ ⟨by omega, by omega⟩ ⟨by omega, by omega⟩ ⟨by omega, by omega⟩)).mono ?_; rintro e w1 ⟨rfl, hj, hk⟩
      clear D0 D1 D2
      have XD := Lib.hid (hk _ _ XD.out)
      have HK := Lib.hid (HK.out.trans hk)
      have hJ0 := Lib.hid hj
      clear hk hj
      have D0 : w1.cell? ⟨W.heap.size, 0, none⟩ = some (.int .i64 4) := block_cell XD.out 0
      have D1 : w1.cell? ⟨W.heap.size, 1, none⟩ = some (.int .i64 n) := block_cell XD.out 1
      have D2 : w1.cell? ⟨W.heap.size, 2, none⟩ = some (.slice a m cap) := block_cell XD.out 2
      go_wp2_with fail
      go_loopw [52] (fun i wr => ∃ j : Nat, j ≤ m ∧ i = .int .i64 j ∧ Hid (J (pre ++ own ++ Tr.namesL (t.kids.take j) dir) wr) ∧ Hid (KeepsD W wr)) (fun i _ => m - (intOf i).toNat)
      case atStart => exact ⟨0, Nat.zero_le _, rfl, by unfold Hid; rw [← hown.out]; simpa [Tr.namesL] using hJ0.out, HK.out⟩
      case round =>
        obtain ⟨j, hj, rfl, HJ0, HK0⟩ := hrel
        by_cases hlt : j < m
        · obtain ⟨b, off, k', n', a', m', c', rfl, hbl, h0, h1, h2, hcall⟩ := IHK.out j hlt wr HJ0.out
          have HCALL := Lib.hid hcall
          have i0 : (0 : Int) ≤ (j : Int) := by omega
          have i1 : (j : Int) < (m : Int) := by omega
          clear hcall
          go_wp2_with fail
          refine (HCALL.out _ ((Below.refl _ _).alloc (Nat.le_refl _) _)).mono ?_; rintro e w2 ⟨rfl, hj2, hk2⟩
          have HJ2 := Lib.hid hj2
          have HK2 := Lib.hid (HK0.out.trans ((KeepsD.of_below ((Below.refl _ _).alloc (Nat.le_refl _) _)).trans hk2))
          clear hj2 hk2 h0 h1 h2
          go_wp2_with fail
          go_roundw
          case rel => exact ⟨j + 1, by omega, by go_num, HJ2.out, HK2.out⟩
          case measure => simp [intOf]; omega
        · obtain rfl : j = m := by omega
          have HF : Hid (J (pre ++ (own ++ Tr.namesL t.kids dir)) wr) := by unfold Hid; rw [← HEND.out, ← List.append_assoc]; exact HJ0.out
          clear HJ0
          go_wp2_with fail
          go_end0
          exact ⟨rfl, HF.out, HK0.out⟩
    · skip
      have hown : [] = own := by rw [← hown]; simp [nmOwn]
      obtain rfl : dir = D := by rw [← hD]; simp [nmBelow]
      clear hk0 fk0
      have hown := Lib.hid hown
      have D0 : W0.cell? ⟨W.heap.size, 0, none⟩ = some (.int .i64 5) := block_cell XD.out 0
      have D1 : W0.cell? ⟨W.heap.size, 1, none⟩ = some (.int .i64 n) := block_cell XD.out 1
      have D2 : W0.cell? ⟨W.heap.size, 2, none⟩ = some (.slice a m cap) := block_cell XD.out 2
      go_enter Tryz.func178, Tryz.ntmps178
      go_wp2_with fail
      rw [HW0.out]
      go_loopw [52] (fun i wr => ∃ j : Nat, j ≤ m ∧ i = .int .i64 j ∧ Hid (J (pre ++ own ++ Tr.namesL (t.kids.take j) dir) wr) ∧ Hid (KeepsD W wr)) (fun i _ => m - (intOf i).toNat)
      case atStart => exact ⟨0, Nat.zero_le _, rfl, by unfold Hid; rw [← hown.out]; simpa [Tr.namesL] using hJ0.out, HK.out⟩
      case round =>
        obtain ⟨j, hj, rfl, HJ0, HK0⟩ := hrel
        by_cases hlt : j < m
        · obtain ⟨b, off, k', n', a', m', c', rfl, hbl, h0, h1, h2, hcall⟩ := IHK.out j hlt wr HJ0.out
          have HCALL := Lib.hid hcall
          have i0 : (0 : Int) ≤ (j : Int) := by omega
          have i1 : (j : Int) < (m : Int) := by omega
          clear hcall
          go_wp2_with fail
          refine (HCALL.out _ ((Below.refl _ _).alloc (Nat.le_refl _) _)).mono ?_; rintro e w2 ⟨rfl, hj2, hk2⟩
          have HJ2 := Lib.hid hj2
          have HK2 := Lib.hid (HK0.out.trans ((KeepsD.of_below ((Below.refl _ _).alloc (Nat.le_refl _) _)).trans hk2))
          clear hj2 hk2 h0 h1 h2
          go_wp2_with fail
          go_roundw
          case rel => exact ⟨j + 1, by omega, by go_num, HJ2.out, HK2.out⟩
          case measure => simp [intOf]; omega
        · obtain rfl : j = m := by omega
          have HF : Hid (J (pre ++ (own ++ Tr.namesL t.kids dir)) wr) := by unfold Hid; rw [← HEND.out, ← List.append_assoc]; exact HJ0.out
          clear HJ0
          go_wp2_with fail
          go_end0
          exact ⟨rfl, HF.out, HK0.out⟩
    · skip
      have hown : [(3, n, 0, dir)] = own := by rw [← hown]; simp [nmOwn]
      obtain rfl : D = 0 := by rw [← hD]; simp [nmBelow]
      clear hk0 fk0
      have hown := Lib.hid hown
      have D0 : W0.cell? ⟨W.heap.size, 0, none⟩ = some (.int .i64 6) := block_cell XD.out 0
      have D1 : W0.cell? ⟨W.heap.size, 1, none⟩ = some (.int .i64 n) := block_cell XD.out 1
      have D2 : W0.cell? ⟨W.heap.size, 2, none⟩ = some (.slice a m cap) := block_cell XD.out 2
      go_enter Tryz.func178, Tryz.ntmps178
      go_wp2_with fail
      rw [HW0.out]
      refine (CT.out pre _ _ _ _ _ hJ0.out (by first | omega | (simp; omega)) (nmOk_mk ⟨by omega, by omega⟩ ⟨by omega, by omega⟩ ⟨by omega, by omega⟩ ⟨by omega, by omega⟩)).mono ?_; rintro e w1 ⟨rfl, hj, hk⟩
      clear D0 D1 D2
      have XD := Lib.hid (hk _ _ XD.out)
      have HK := Lib.hid (HK.out.trans hk)
      have hJ0 := Lib.hid hj
      clear hk hj
      have D0 : w1.cell? ⟨W.heap.size, 0, none⟩ = some (.int .i64 6) := block_cell XD.out 0
      have D1 : w1.cell? ⟨W.heap.size, 1, none⟩ = some (.int .i64 n) := block_cell XD.out 1
      have D2 : w1.cell? ⟨W.heap.size, 2, none⟩ = some (.slice a m cap) := block_cell XD.out 2
      go_wp2_with fail
      go_loopw [52] (fun i wr => ∃ j : Nat, j ≤ m ∧ i = .int .i64 j ∧ Hid (J (pre ++ own ++ Tr.namesL (t.kids.take j) 0) wr) ∧ Hid (KeepsD W wr)) (fun i _ => m - (intOf i).toNat)
      case atStart => exact ⟨0, Nat.zero_le _, rfl, by unfold Hid; rw [← hown.out]; simpa [Tr.namesL] using hJ0.out, HK.out⟩
      case round =>
        obtain ⟨j, hj, rfl, HJ0, HK0⟩ := hrel
        by_cases hlt : j < m
        · obtain ⟨b, off, k', n', a', m', c', rfl, hbl, h0, h1, h2, hcall⟩ := IHK.out j hlt wr HJ0.out
          have HCALL := Lib.hid hcall
          have i0 : (0 : Int) ≤ (j : Int) := by omega
          have i1 : (j : Int) < (m : Int) := by omega
          clear hcall
          go_wp2_with fail
          refine (HCALL.out _ ((Below.refl _ _).alloc (Nat.le_refl _) _)).mono ?_; rintro e w2 ⟨rfl, hj2, hk2⟩
          have HJ2 := Lib.hid hj2
          have HK2 := Lib.hid (HK0.out.trans ((KeepsD.of_below ((Below.refl _ _).alloc (Nat.le_refl _) _)).trans hk2))
          clear hj2 hk2 h0 h1 h2
          go_wp2_with fail
          go_roundw
          case rel => exact ⟨j + 1, by omega, by go_num, HJ2.out, HK2.out⟩
          case measure => simp [intOf]; omega
        · obtain rfl : j = m := by omega
          have HF : Hid (J (pre ++ (own ++ Tr.namesL t.kids 0)) wr) := by unfold Hid; rw [← HEND.out, ← List.append_assoc]; exact HJ0.out
          clear HJ0
          go_wp2_with fail
          go_end0
          exact ⟨rfl, HF.out, HK0.out⟩
    · skip
      have hown : [(2, n, 0, dir), (4, n, K0, dir)] = own := by rw [← hown]; simp [nmOwn]
      obtain rfl : D = 0 := by rw [← hD]; simp [nmBelow]
      obtain ⟨b0, o0, rfl, hkz⟩ := hk0 rfl
      have HK0N := Lib.hid hkz
      have fk := fk0.resolve_right (by simp)
      clear hk0 hkz fk0
      have hm0 : 0 < m := HM7.out rfl
      have hown := Lib.hid hown
      have D0 : W0.cell? ⟨W.heap.size, 0, none⟩ = some (.int .i64 7) := block_cell XD.out 0
      have D1 : W0.cell? ⟨W.heap.size, 1, none⟩ = some (.int .i64 n) := block_cell XD.out 1
      have D2 : W0.cell? ⟨W.heap.size, 2, none⟩ = some (.slice (some ⟨b0, o0, none⟩) m cap) := block_cell XD.out 2
      go_enter Tryz.func178, Tryz.ntmps178
      go_wp2_with fail
      rw [HW0.out]
      refine (CT.out pre _ _ _ _ _ hJ0.out (by first | omega | (simp; omega)) (nmOk_mk ⟨by omega, by omega⟩ ⟨by omega, by omega⟩ ⟨by omega, by omega⟩ ⟨by omega, by omega⟩)).mono ?_; rintro e w1 ⟨rfl, hj, hk⟩
      clear D0 D1 D2
      have XD := Lib.hid (hk _ _ XD.out)
      have HK := Lib.hid (HK.out.trans hk)
      have hJ0 := Lib.hid hj
      clear hk hj
      have D0 : w1.cell? ⟨W.heap.size, 0, none⟩ = some (.int .i64 7) := block_cell XD.out 0
      have D1 : w1.cell? ⟨W.heap.size, 1, none⟩ = some (.int .i64 n) := block_cell XD.out 1
      have D2 : w1.cell? ⟨W.heap.size, 2, none⟩ = some (.slice (some ⟨b0, o0, none⟩) m cap) := block_cell XD.out 2
      go_wp2_with fail
      have hbd := (Below.refl w1.heap.size w1).drew
      have n0 := HK0N.out _ _ hJ0.out
      go_still_tail 10, (by kernel_rfl)
      change wpList _ _ _ _ _ w1.drew
      have hJ0 := Lib.hid (HL.out _ _ _ hJ0.out hbd)
      have HK := Lib.hid (HK.out.trans (KeepsD.of_below hbd))
      have XD := Lib.hid ((KeepsD.of_below hbd) _ _ XD.out)
      clear n0 D0 D1 D2
      obtain ⟨w2, hw2⟩ : ∃ w2, w1.drew = w2 := ⟨_, rfl⟩
      rw [hw2] at hJ0 HK XD ⊢
      clear hw2 hbd
      have D0 : w2.cell? ⟨W.heap.size, 0, none⟩ = some (.int .i64 7) := block_cell XD.out 0
      have D1 : w2.cell? ⟨W.heap.size, 1, none⟩ = some (.int .i64 n) := block_cell XD.out 1
      have D2 : w2.cell? ⟨W.heap.size, 2, none⟩ = some (.slice (some ⟨b0, o0, none⟩) m cap) := block_cell XD.out 2
      go_wp2_with fail
      refine (CT.out (pre ++ [(2, n, 0, _)]) _ _ _ _ _ hJ0.out (by first | omega | (simp; omega)) (nmOk_mk ⟨by omega, by omega⟩ ⟨by omega, by omega⟩ ⟨by omega, by omega⟩ ⟨by omega, by omega⟩)).mono ?_; rintro e w3 ⟨rfl, hj, hk⟩
      clear D0 D1 D2
      have XD := Lib.hid (hk _ _ XD.out)
      have HK := Lib.hid (HK.out.trans hk)
      have hJ0 := Lib.hid hj
      clear hk hj
      have D0 : w3.cell? ⟨W.heap.size, 0, none⟩ = some (.int .i64 7) := block_cell XD.out 0
      have D1 : w3.cell? ⟨W.heap.size, 1, none⟩ = some (.int .i64 n) := block_cell XD.out 1
      have D2 : w3.cell? ⟨W.heap.size, 2, none⟩ = some (.slice (some ⟨b0, o0, none⟩) m cap) := block_cell XD.out 2
      go_wp2_with fail
      go_loopw [52] (fun i wr => ∃ j : Nat, j ≤ m ∧ i = .int .i64 j ∧ Hid (J (pre ++ own ++ Tr.namesL (t.kids.take j) 0) wr) ∧ Hid (KeepsD W wr)) (fun i _ => m - (intOf i).toNat)
      case atStart => exact ⟨0, Nat.zero_le _, rfl, by unfold Hid; rw [← hown.out]; simpa [Tr.namesL] using hJ0.out, HK.out⟩
      case round =>
        obtain ⟨j, hj, rfl, HJ0, HK0⟩ := hrel
        by_cases hlt : j < m
        · obtain ⟨b, off, k', n', a', m', c', hab, hbl, h0, h1, h2, hcall⟩ := IHK.out j hlt wr HJ0.out
          simp only [Option.some.injEq, Addr.mk.injEq, and_true] at hab
          obtain ⟨rfl, rfl⟩ := hab
          have HCALL := Lib.hid hcall
          have i0 : (0 : Int) ≤ (j : Int) := by omega
          have i1 : (j : Int) < (m : Int) := by omega
          clear hcall
          go_wp2_with fail
          refine (HCALL.out _ ((Below.refl _ _).alloc (Nat.le_refl _) _)).mono ?_; rintro e w2 ⟨rfl, hj2, hk2⟩
          have HJ2 := Lib.hid hj2
          have HK2 := Lib.hid (HK0.out.trans ((KeepsD.of_below ((Below.refl _ _).alloc (Nat.le_refl _) _)).trans hk2))
          clear hj2 hk2 h0 h1 h2
          go_wp2_with fail
          go_roundw
          case rel => exact ⟨j + 1, by omega, by go_num, HJ2.out, HK2.out⟩
          case measure => simp [intOf]; omega
        · obtain rfl : j = m := by omega
          have HF : Hid (J (pre ++ (own ++ Tr.namesL t.kids 0)) wr) := by unfold Hid; rw [← HEND.out, ← List.append_assoc]; exact HJ0.out
          clear HJ0
          go_wp2_with fail
          go_end0
          exact ⟨rfl, HF.out, HK0.out⟩
end Go.Proofs.YtlnlijeamflpiaaGreat

namespace Go.Proofs.YtlnlijeamflpiaaGreat
open Go.RowKit
set_option linter.unusedVariables false
set_option linter.unusedSimpArgs false
set_option maxRecDepth 100000
set_option maxRecDepth 20000
/-- What holds when some names have been told to the one who counts. -/
def CountJ (w0 : World) (bt bn : Nat) (t : Nm) (pre : List Nm) (W : World) : Prop :=
  Below w0.heap.size w0 W ∧ W.heap[bt]? = some (.cells #[.int .i64 t.1, .int .i64 t.2.1, .int .i64 t.2.2.1, .int .i64 t.2.2.2] 112 (0, 0)) ∧ W.heap[bn]? = some (.cells #[.int .i64 (pre.count t : Nat)] 3 (0, 0))
theorem CountJ.later {w0 : World} {bt bn : Nat} {t : Nm} {pre : List Nm} {W W' : World} (h : CountJ w0 bt bn t pre W) (hb : Below W.heap.size W W') : CountJ w0 bt bn t pre W' :=
  ⟨h.1.trans (hb.mono h.1.size), (hb.block _ (block_lt h.2.1)).trans h.2.1, (hb.block _ (block_lt h.2.2)).trans h.2.2⟩
theorem need_check (t : Tr) (k n : Int) (a : Option Addr) (m cap : Nat) (dir : Int) (w : World) (F : Nat → Prop) (hs : t.size ≤ 4194304) (hT : IsT w F k n a m cap t) :
    Calls Tryz.prog 177 #[.agg #[.int .i64 k, .int .i64 n, .slice a m cap], .int .i64 dir] w fun e w' => e = .returned (.int .i64 (if dir ≠ 0 ∧ dir ≠ 1 then 2 else chk t)) ∧ Below w.heap.size w w' := by
  by_cases hd : dir ≠ 0 ∧ dir ≠ 1
  · rw [if_pos hd]
    have t0 : (dir != 0) = true := bdiff hd.1
    have t1 : (dir != 1) = true := bdiff hd.2
    clear hd hT
    go_enter Tryz.func177, Tryz.ntmps177
    go_wp2_with fail
    go_ret
    exact ⟨rfl, (Below.refl _ _).alloc (Nat.le_refl _) _⟩
  · rw [if_neg hd]
    have CC : Hid (∀ W, Below w.heap.size w W → Calls Tryz.prog 57 #[.agg #[.int .i64 k, .int .i64 n, .slice a m cap]] W fun e w' => e = .returned (.int .i64 (chk t)) ∧ Below W.heap.size W w') := fun W hb => valid_Check t k n a m cap W F hs (hT.below hb)
    rcases (show dir = 0 ∨ dir = 1 by omega) with rfl | rfl
    all_goals
      clear hd hT
      go_enter Tryz.func177, Tryz.ntmps177
      go_wp2_with fail
      refine (CC.out _ ((Below.refl _ _).alloc (Nat.le_refl _) _)).mono ?_; rintro e w1 ⟨rfl, hb⟩
      have hb1 := chainA (Below.refl w.heap.size w) hb
      clear hb
      go_wp2_with fail
      go_ret
      exact ⟨rfl, hb1⟩
/-- The names of a tree in a direction, if it may be asked. -/
def namesB (t : Tr) (dir : Int) : List Nm := if (dir ≠ 0 ∧ dir ≠ 1) ∨ chk t ≠ 0 then [] else t.names dir
end Go.Proofs.YtlnlijeamflpiaaGreat

