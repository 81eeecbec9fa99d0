/- Plain laws: the tables that a plan names. No program in sight. -/
import Derived.Test.YtncikklhchimdaaCostL
import Derived.Test.YtncikklhchimdaaMapB
import Derived.Test.YtncikklhchimdaaTreeO
namespace Go.Proofs.Ytncikklhchimdaa
open Go.RowKit
set_option linter.unusedVariables false
set_option linter.unusedSimpArgs false
set_option maxRecDepth 100000

/-- What a node names itself. -/
def nmOwn (k n k0 dir : Int) : List Nm := if k = 1 ∨ k = 3 ∨ k = 4 then [(1, n, 0, dir)] else if k = 6 then [(3, n, 0, dir)] else if k = 7 then [(2, n, 0, dir), (4, n, k0, dir)] else []
/-- The direction below. -/
def nmBelow (k dir : Int) : Int := if k = 6 ∨ k = 7 then 0 else dir
namespace Tr
mutual
/-- All names, as often as they are named. -/
def names : Tr → Int → List Nm
  | node k n ks, dir => nmOwn k n (kid ks 0).num dir ++ namesL ks (nmBelow k dir)
def namesL : List Tr → Int → List Nm
  | [], _ => []
  | t :: ts, dir => names t dir ++ namesL ts dir
end
theorem names_kids (t : Tr) (dir : Int) : t.names dir = nmOwn t.kind t.num (kid t.kids 0).num dir ++ namesL t.kids (nmBelow t.kind dir) := by cases t; simp [names, kind, num, kids]
theorem namesL_append (l r : List Tr) (dir : Int) : namesL (l ++ r) dir = namesL l dir ++ namesL r dir := by
  induction l with
  | nil => simp [namesL]
  | cons t ts ih => simp only [List.cons_append, namesL, ih, List.append_assoc]
theorem namesL_snoc (l : List Tr) (t : Tr) (dir : Int) : namesL (l ++ [t]) dir = namesL l dir ++ t.names dir := by rw [namesL_append]; simp [namesL]
theorem own_len (k n k0 dir : Int) : (nmOwn k n k0 dir).length ≤ 2 := by unfold nmOwn; repeat' split
                                                                         all_goals simp
theorem names_len (N : Nat) : ∀ (t : Tr) (dir : Int), t.size ≤ N → (t.names dir).length ≤ 2 * t.size := by
  induction N with
  | zero => intro t dir h; have := size_pos t; omega
  | succ N ih =>
    intro t dir h
    have h2 : ∀ (ks : List Tr) (d : Int), sizeL ks ≤ N → (namesL ks d).length ≤ 2 * sizeL ks := by
      intro ks
      induction ks with
      | nil => intro d _; simp [namesL, sizeL]
      | cons t ts ih2 => intro d hk; simp only [sizeL] at hk; simp only [namesL, sizeL, List.length_append]; have := ih t d (by omega); have := ih2 d (by omega); omega
    rw [size_kids] at h ⊢
    rw [names_kids, List.length_append]
    have := h2 t.kids (nmBelow t.kind dir) (by omega)
    have := own_len t.kind t.num (kid t.kids 0).num dir
    omega
theorem namesL_len (ks : List Tr) (dir : Int) : (namesL ks dir).length ≤ 2 * sizeL ks := by
  induction ks with
  | nil => simp [namesL, sizeL]
  | cons t ts ih => simp only [namesL, sizeL, List.length_append]; have := names_len _ t dir (Nat.le_refl _); omega
theorem mem_namesL {ks : List Tr} {dir : Int} {x : Nm} : x ∈ namesL ks dir ↔ ∃ i, i < ks.length ∧ x ∈ (kid ks i).names dir := by
  induction ks with
  | nil => simp [namesL]
  | cons y r ih =>
    simp only [namesL, List.mem_append, ih]
    constructor
    · rintro (h | ⟨i, hi, h⟩)
      · exact ⟨0, by simp, h⟩
      · exact ⟨i + 1, by simpa using hi, h⟩
    · rintro ⟨i, hi, h⟩
      cases i with
      | zero => exact .inl h
      | succ i => exact .inr ⟨i, by simpa using hi, h⟩
end Tr

/-- Each name where it comes first. -/
def once (l : List Nm) : List Nm := l.foldl (fun out x => if x ∈ out then out else out ++ [x]) []
theorem once_snoc (l : List Nm) (x : Nm) : once (l ++ [x]) = if x ∈ once l then once l else once l ++ [x] := by unfold once; rw [List.foldl_append]; rfl
theorem list_snoc {α : Type} {motive : List α → Prop} (nil : motive []) (snoc : ∀ l x, motive l → motive (l ++ [x])) (l : List α) : motive l := by
  have h : ∀ n (l : List α), l.length = n → motive l := by
    intro n
    induction n with
    | zero => intro l h; rw [List.eq_nil_of_length_eq_zero h]; exact nil
    | succ n ih =>
      intro l h
      have hne : l ≠ [] := fun e => by subst e; simp at h
      rw [← List.dropLast_concat_getLast hne]
      exact snoc _ _ (ih _ (by simp; omega))
  exact h _ l rfl
theorem mem_once (l : List Nm) : ∀ x, x ∈ once l ↔ x ∈ l := by
  refine list_snoc (motive := fun l => ∀ x, x ∈ once l ↔ x ∈ l) (by simp [once]) (fun l y ih x => ?_) l
  rw [once_snoc]
  split
  · rename_i h
    rw [ih, List.mem_append, List.mem_singleton]
    exact ⟨.inl, fun h2 => h2.elim id fun e => by subst e; exact (ih _).1 h⟩
  · rw [List.mem_append, List.mem_append, ih]
theorem nodup_once (l : List Nm) : (once l).Nodup := by
  refine list_snoc (motive := fun l => (once l).Nodup) (by simp [once]) (fun l y ih => ?_) l
  rw [once_snoc]
  split
  · exact ih
  · rename_i h
    exact List.nodup_append.2 ⟨ih, by simp, fun a ha b hb e => by simp at hb; subst hb; subst e; exact h ha⟩
theorem once_len (l : List Nm) : (once l).length ≤ l.length := by
  refine list_snoc (motive := fun l => (once l).length ≤ l.length) (by simp [once]) (fun l y ih => ?_) l
  rw [once_snoc]
  split <;> simp <;> omega
/-- A list without twos whose members are all in another one is no longer. -/
theorem nodup_sub {α : Type} [DecidableEq α] : ∀ (l r : List α), l.Nodup → (∀ x ∈ l, x ∈ r) → l.length ≤ r.length
  | [], _, _, _ => by simp
  | x :: l, r, hn, hs => by
    rw [List.nodup_cons] at hn
    have hx := hs x (by simp)
    have h := nodup_sub l (r.erase x) hn.2 (fun y hy => (List.mem_erase_of_ne (fun e => by subst e; exact hn.1 hy)).2 (hs y (by simp [hy])))
    rw [List.length_erase_of_mem hx] at h
    have := List.length_pos_of_mem hx
    simp only [List.length_cons]; omega

/-- What the map of counts holds. -/
def cntL (l : List Nm) : List (Value × Value) := (once l).map fun x => (nv x, .int .i64 (l.count x : Nat))
theorem cntL_len (l : List Nm) : (cntL l).length = (once l).length := by simp [cntL]
theorem cntL_keys (l : List Nm) : ∀ p ∈ cntL l, isNv p.1 := by
  intro p hp
  obtain ⟨x, _, rfl⟩ := List.mem_map.1 hp
  exact ⟨x, rfl⟩
theorem cntL_nodup (l : List Nm) : ((cntL l).map (·.1)).Nodup := by
  have h : (cntL l).map (·.1) = (once l).map nv := by simp [cntL]
  rw [h]
  exact List.Pairwise.map nv (fun a b hab e => hab (nv_inj e)) (nodup_once l)
theorem cntL_no {l : List Nm} {x : Nm} (h : x ∉ l) : ∀ p ∈ cntL l, p.1 ≠ nv x := by
  intro p hp e
  obtain ⟨y, hy, rfl⟩ := List.mem_map.1 hp
  exact h (by rw [← nv_inj e]; exact (mem_once l y).1 hy)
theorem cntL_yes {l : List Nm} {x : Nm} (h : x ∈ l) : ∃ j, j < (once l).length ∧ (once l)[j]? = some x ∧ (cntL l)[j]? = some (nv x, .int .i64 (l.count x : Nat)) := by
  obtain ⟨j, hj⟩ := List.getElem?_of_mem ((mem_once l x).2 h)
  exact ⟨j, (List.getElem?_eq_some_iff.1 hj).1, hj, by simp [cntL, hj]⟩
theorem cntL_new {l : List Nm} {x : Nm} (h : x ∉ l) : cntL (l ++ [x]) = cntL l ++ [(nv x, .int .i64 1)] := by
  have h1 : x ∉ once l := fun e => h ((mem_once l x).1 e)
  unfold cntL
  rw [once_snoc, if_neg h1, List.map_append]
  congr 1
  · refine List.map_congr_left fun y hy => ?_
    have hne : y ≠ x := fun e => by subst e; exact h1 hy
    rw [List.count_append]
    simp [List.count_singleton, hne, Ne.symm hne]
  · have : l.count x = 0 := List.count_eq_zero.2 h
    simp [List.count_append, this]
theorem cntL_more {l : List Nm} {x : Nm} {j : Nat} (h : x ∈ l) (hj : (once l)[j]? = some x) : cntL (l ++ [x]) = (cntL l).modify j fun p => (p.1, .int .i64 ((l.count x : Nat) + 1)) := by
  have h1 : x ∈ once l := (mem_once l x).2 h
  unfold cntL
  rw [once_snoc, if_pos h1]
  refine List.ext_getElem? fun i => ?_
  rw [List.getElem?_modify, List.getElem?_map, List.getElem?_map]
  cases hi : (once l)[i]? with
  | none => simp
  | some y =>
    simp only [Option.map_some]
    by_cases hji : j = i
    · subst hji
      rw [hj] at hi
      cases hi
      simp [List.count_append]
    · have hne : y ≠ x := fun e => by
        subst e
        exact hji ((List.getElem?_inj (List.getElem?_eq_some_iff.1 hj).1 (nodup_once l)).1 (hj.trans hi.symm))
      simp [hji, List.count_append, List.count_singleton, hne, Ne.symm hne]

/-- Is it a name? -/
def rightB (x : Nm) : Bool :=
  hasSz x.2.1 && decide (x.2.2.2 = 0 ∨ x.2.2.2 = 1) &&
    if x.1 = 1 ∨ x.1 = 2 then decide (x.2.2.1 = 0)
    else if x.1 = 3 then decide (x.2.2.1 = 0 ∧ 3 ≤ x.2.1) && isPr x.2.1
    else if x.1 = 4 then decide (2 ≤ x.2.1 ∧ 2 * x.2.1 - 1 ≤ x.2.2.1) && hasP2 x.2.2.1
    else false
/-- How many numbers. -/
def roomN (x : Nm) : Int := if rightB x = false then 0 else if x.1 = 3 then x.2.1 - 1 else if x.1 = 4 then x.2.2.1 else x.2.1
/-- How names stand to each other. -/
def cmpN (x y : Nm) : Int := orI (cmpI x.1 y.1) (orI (cmpI x.2.1 y.2.1) (orI (cmpI x.2.2.1 y.2.2.1) (cmpI x.2.2.2 y.2.2.2)))

theorem pow_size (j : Nat) (hj : j ≤ 24) : hasSz ((2 ^ j : Nat) : Int) = true := by
  have h : ∀ i : Fin 25, hasSz ((2 ^ i.val : Nat) : Int) = true := by decide +kernel
  exact h ⟨j, by omega⟩
theorem own_right {t : Tr} (h : nodeOk t = true) (dir : Int) (hd : dir = 0 ∨ dir = 1) : ∀ x ∈ nmOwn t.kind t.num (Tr.kid t.kids 0).num dir, rightB x = true := by
  intro x hx
  have hd' : decide (dir = 0 ∨ dir = 1) = true := decide_eq_true hd
  unfold nodeOk nodeB at h
  unfold nmOwn at hx
  by_cases h1 : t.kind = 1
  · rw [if_pos h1] at h
    rw [if_pos (.inl h1)] at hx
    simp only [Bool.and_eq_true, decide_eq_true_eq] at h
    simp only [List.mem_singleton] at hx
    subst hx
    simp [rightB, h.2, hd']
  rw [if_neg h1] at h
  by_cases h2 : t.kind = 2
  · rw [if_neg (by omega), if_neg (by omega), if_neg (by omega)] at hx
    cases hx
  rw [if_neg h2] at h
  by_cases h3 : t.kind = 3
  · rw [if_pos h3] at h
    rw [if_pos (.inr (.inl h3))] at hx
    simp only [Bool.and_eq_true, decide_eq_true_eq] at h
    obtain ⟨j, hj, e⟩ := (hasP2_iff _).1 h.2
    simp only [List.mem_singleton] at hx
    subst hx
    have hz := pow_size j hj
    rw [← e] at hz
    simp [rightB, hz, hd']
  rw [if_neg h3] at h
  by_cases h4 : t.kind = 4
  · rw [if_pos h4] at h
    rw [if_pos (.inr (.inr h4))] at hx
    obtain ⟨_, g⟩ := sides_iff.1 h
    simp only [List.mem_singleton] at hx
    subst hx
    simp [rightB, g, hd']
  rw [if_neg h4] at h
  by_cases h5 : t.kind = 5
  · rw [if_neg (by omega), if_neg (by omega), if_neg (by omega)] at hx
    cases hx
  rw [if_neg h5] at h
  rw [if_neg (by omega)] at hx
  by_cases h6 : t.kind = 6
  · rw [if_pos h6] at h
    rw [if_pos h6] at hx
    simp only [Bool.and_eq_true, decide_eq_true_eq] at h
    simp only [List.mem_singleton] at hx
    subst hx
    simp [rightB, h.1.2, hd', h.2, h.1.1.2.1]
  rw [if_neg h6] at h hx
  by_cases h7 : t.kind = 7
  · rw [if_pos h7] at h
    rw [if_pos h7] at hx
    simp only [Bool.and_eq_true, decide_eq_true_eq] at h
    simp only [List.mem_cons, List.not_mem_nil, or_false] at hx
    rcases hx with rfl | rfl
    · simp [rightB, h.1.2, hd']
    · have := h.1.1.2.2
      simp [rightB, h.1.2, hd', h.2, h.1.1.2.1, this]
  rw [if_neg h7] at h
  cases h
theorem below_dir (k dir : Int) (hd : dir = 0 ∨ dir = 1) : nmBelow k dir = 0 ∨ nmBelow k dir = 1 := by unfold nmBelow; split <;> omega
theorem names_right (N : Nat) : ∀ (t : Tr) (dir : Int), t.size ≤ N → t.allOk → dir = 0 ∨ dir = 1 → ∀ x ∈ t.names dir, rightB x = true := by
  induction N with
  | zero => intro t dir h; have := Tr.size_pos t; omega
  | succ N ih =>
    intro t dir hs hok hd x hx
    have hn := (Tr.allOk_iff t).1 hok
    rw [Tr.names_kids, List.mem_append] at hx
    rcases hx with hx | hx
    · exact own_right hn.1 dir hd x hx
    · obtain ⟨i, hi, hx⟩ := Tr.mem_namesL.1 hx
      exact ih _ _ (by have := Tr.size_kid t i hi; omega) (hn.2 i hi) (below_dir _ _ hd) x hx

/-- A name in the direction there. -/
def there0 (x : Nm) : Nm := (x.1, x.2.1, x.2.2.1, 0)
theorem names_zero (N : Nat) : ∀ (t : Tr) (dir : Int), t.size ≤ N → t.names 0 = (t.names dir).map there0 := by
  induction N with
  | zero => intro t dir h; have := Tr.size_pos t; omega
  | succ N ih =>
    intro t dir hs
    have h2 : ∀ (ks : List Tr) (d : Int), Tr.sizeL ks ≤ N → Tr.namesL ks 0 = (Tr.namesL ks d).map there0 := by
      intro ks
      induction ks with
      | nil => intro d _; simp [Tr.namesL]
      | cons t ts ih2 => intro d hk; simp only [Tr.sizeL] at hk; simp only [Tr.namesL, List.map_append]; rw [← ih t d (by omega), ← ih2 d (by omega)]
    rw [Tr.size_kids] at hs
    rw [Tr.names_kids t 0, Tr.names_kids t dir, List.map_append, show nmBelow t.kind 0 = 0 by unfold nmBelow; split <;> rfl, h2 t.kids (nmBelow t.kind dir) (by omega)]
    congr 1
    unfold nmOwn
    repeat' split
    all_goals simp [there0]
/-- The direction 0 needs no more tables. -/
theorem once_zero (t : Tr) : (once (t.names 0)).length ≤ (once (t.names 1)).length := by
  have h := nodup_sub (once (t.names 0)) ((once (t.names 1)).map there0) (nodup_once _) (fun x hx => by
    rw [mem_once, names_zero _ t 1 (Nat.le_refl _)] at hx
    obtain ⟨y, hy, rfl⟩ := List.mem_map.1 hx
    exact List.mem_map.2 ⟨y, (mem_once _ _).2 hy, rfl⟩)
  rwa [List.length_map] at h
/-- Without children it needs as many. -/
theorem once_leaf {t : Tr} (h : nodeOk t = true) (hl : t.kids.length = 0) : (once (t.names 0)).length = (once (t.names 1)).length := by
  rw [Tr.names_kids, Tr.names_kids, List.eq_nil_of_length_eq_zero hl]
  have hk : t.kind = 1 ∨ t.kind = 2 ∨ t.kind = 3 := by
    rcases node_cases h with h | h | h | h | h | h
    · exact .inl h.1
    · exact .inr (.inl h.1)
    · exact .inr (.inr h.1)
    all_goals (exfalso; omega)
  simp only [Tr.namesL, List.append_nil]
  rcases hk with e | e | e <;> rw [e] <;> simp [nmOwn, once]
/-- What is below needs no other tables. -/
theorem once_below {t : Tr} (i : Nat) (hi : i < t.kids.length) (h : nodeOk t = true) (dir : Int) (hdir : dir = if t.kind > 5 then 0 else 1) : ∀ x ∈ once ((Tr.kid t.kids i).names dir), x ∈ once (t.names 1) := by
  intro x hx
  rw [mem_once] at hx ⊢
  rw [Tr.names_kids, List.mem_append]
  refine .inr (Tr.mem_namesL.2 ⟨i, hi, ?_⟩)
  have : nmBelow t.kind 1 = dir := by
    rw [hdir]
    unfold nmBelow
    rcases node_cases h with h | h | h | h | h | h
    all_goals (split <;> split <;> omega)
  rwa [this]
theorem cmpN_neg (x y : Nm) : cmpN y x = - cmpN x y := orI_neg (cmpI_neg _ _) fun _ => orI_neg (cmpI_neg _ _) fun _ => orI_neg (cmpI_neg _ _) fun _ => cmpI_neg _ _
theorem cmpN_bd (x y : Nm) : -1 ≤ cmpN x y ∧ cmpN x y ≤ 1 := Tr.orI_bd (cmpI_bd _ _) (Tr.orI_bd (cmpI_bd _ _) (Tr.orI_bd (cmpI_bd _ _) (cmpI_bd _ _)))
end Go.Proofs.Ytncikklhchimdaa
