/- All rounds of an order, and its sign: the walks. -/
import Derived.Test.YtpehbgcbifgokaaSignC
import Derived.Test.YtpehbgcbifgokaaPermN
namespace Go.Proofs.Ytpehbgcbifgokaa
open Go.RowKit Sm
set_option linter.unusedVariables false
set_option linter.unusedSimpArgs false

theorem info_rows : (Try.prog.info? 35).map (fun i => (i.zero, i.size, i.bytes)) = some (some (.slice none 0 0), 1, 24) := by kernel_rfl

theorem ord_of {p : List Int} (h : IsPerm p) : Ord p.length (pf p) (fun i => (nth (invP p) i).toNat) := by
  have h1 := isPerm_invP p h
  have hl := invP_len p
  refine ⟨fun i hi => permF_lt p h i hi, fun i hi => ?_, fun i hi => ?_, fun i hi => ?_⟩
  · have := permF_lt _ h1 i (by omega); omega
  · have := invP_at p h i hi
    unfold pf
    rw [this]; simp
  · have hlt : (nth (invP p) i).toNat < p.length := by have := permF_lt _ h1 i (by omega); omega
    have e1 := invP_at p h _ hlt
    have hlt2 := permF_lt p h _ hlt
    unfold pf
    by_cases he : (nth p (nth (invP p) i).toNat).toNat = i
    · exact he
    · exfalso
      have h0 := (h1.1 i (by omega)).1
      have e2 : (nth (invP p) (nth p (nth (invP p) i).toNat).toNat).toNat = (nth (invP p) i).toNat := by rw [e1]; omega
      rcases Nat.lt_or_gt_of_ne he with h2 | h2
      · exact permF_inj _ h1 _ _ h2 (by omega) e2
      · exact permF_inj _ h1 _ _ h2 (by omega) e2.symm

/-- Values that are the call's own lists of numbers, from the block B on. -/
inductive CycV (w : World) (B : Nat) : List Value → List (List Nat) → Prop
  | nil : CycV w B [] []
  | cons {v : Value} {vs : List Value} {l : List Nat} {ls : List (List Nat)} (h : w.ownsRow B 3 1 v l.length (intL l)) (hs : CycV w B vs ls) : CycV w B (v :: vs) (l :: ls)
theorem CycV.len {w : World} {B : Nat} {vs : List Value} {ls : List (List Nat)} (h : CycV w B vs ls) : vs.length = ls.length := by
  induction h with
  | nil => rfl
  | cons _ _ ih => simp [ih]
theorem CycV.snoc {w : World} {B : Nat} {vs : List Value} {ls : List (List Nat)} {v : Value} {l : List Nat} (h : CycV w B vs ls) (hv : w.ownsRow B 3 1 v l.length (intL l)) : CycV w B (vs ++ [v]) (ls ++ [l]) := by
  induction h with
  | nil => exact .cons hv .nil
  | cons h _ ih => exact .cons h ih
theorem CycV.kept {w w' : World} {B : Nat} {vs : List Value} {ls : List (List Nat)} {row : Option Nat} (h : CycV w B vs ls) (hg : w.grownBy w' row) (hr : ∀ v, ∀ n xs, w.ownsRow B 3 1 v n xs → v.ownBlock = none ∨ v.ownBlock ≠ row) : CycV w' B vs ls := by
  induction h with
  | nil => exact .nil
  | cons h _ ih => exact .cons (h.kept hg (hr _ _ _ h)) ih
theorem CycV.at {w : World} {B : Nat} {vs : List Value} {ls : List (List Nat)} (h : CycV w B vs ls) : ∀ j, j < ls.length → ∃ v, vs[j]? = some v ∧ w.ownsRow B 3 1 v (ls.getD j []).length (intL (ls.getD j [])) := by
  induction h with
  | nil => intro j hj; simp at hj
  | cons h _ ih =>
    intro j hj
    cases j with
    | zero => exact ⟨_, rfl, h⟩
    | succ j =>
      obtain ⟨v, h1, h2⟩ := ih j (by simpa using hj)
      exact ⟨v, h1, h2⟩
theorem CycV.one {w : World} {B : Nat} {vs : List Value} {ls : List (List Nat)} (h : CycV w B vs ls) : ∀ u ∈ vs, u.oneCell' = true := by
  induction h with
  | nil => intro u hu; cases hu
  | cons h _ ih =>
    intro u hu
    rcases List.mem_cons.1 hu with rfl | hu
    · rcases h.2 with ⟨rfl, _⟩ | ⟨g, cap, cur, rfl, _⟩ <;> rfl
    · exact ih u hu
/-- Two rows of elements of different types lie in different blocks. -/
theorem rows_apart {w : World} {B B' : Nat} {e e' : TypeId} {s s' : Nat} {v v' : Value} {n n' : Nat} {xs xs' : List Value} (h : w.ownsRow B e s v n xs) (h' : w.ownsRow B' e' s' v' n' xs') (hne : e ≠ e') : v.ownBlock = none ∨ v.ownBlock ≠ v'.ownBlock := by
  rcases h.2 with ⟨rfl, _⟩ | ⟨g, cap, cur, rfl, _, hg, _⟩
  · left; rfl
  · right
    rcases h'.2 with ⟨rfl, _⟩ | ⟨g', cap', cur', rfl, _, hg', _⟩
    · intro e1; cases e1
    · intro e1
      simp only [Value.ownBlock, Option.some.injEq] at e1
      subst e1
      rw [hg] at hg'
      simp only [Option.some.injEq, Obj.cells.injEq] at hg'
      exact hne hg'.2.1

/-- What Cycles leaves. -/
def CycEnds (n : Nat) (p : Nat → Nat) (w : World) (e : Ending) (w' : World) : Prop :=
  ∃ (cs : List (List Nat)) (s : Nat → Int) (t B : Nat) (v : Value) (vs : List Value), e = .returned (.tuple #[v, .int .i64 0]) ∧ Rounds n p cs s n t ∧ w.heap.size ≤ B ∧ w'.ownsRow B 35 1 v cs.length vs ∧ CycV w' B vs cs ∧ Below w.heap.size w w'

theorem perm_Cycles_no (a : Option Addr) (n cap : Nat) (p : List Int) (w : World) (hx : Row .i64 w a p) (hn : p.length = n) (hl : n ≤ 60) (hp : ¬ IsPerm p) :
    Calls Try.prog 45 #[.slice a n cap] w fun e w' => e = .returned (.tuple #[.slice none 0 0, .int .i64 2]) ∧ Below w.heap.size w w' := by
  have C1 := Lib.hid (permRight_no a n cap p w hx hn (by omega) hp)
  clear hx hn hp
  go_enter Try.func45, Try.ntmps45
  go_wp2_with fail
  refine C1.out.mono ?_; rintro e w1 ⟨rfl, hb1⟩
  go_wp2_with fail
  go_ret2
  exact ⟨rfl, hb1⟩

set_option maxHeartbeats 2000000 in
theorem perm_Cycles (a : Option Addr) (n cap : Nat) (p : List Int) (w : World) (hx : Row .i64 w a p) (hn : p.length = n) (hl : n ≤ 60) (hp : IsPerm p) :
    Calls Try.prog 45 #[.slice a n cap] w (CycEnds n (pf p) w) := by
  obtain ⟨i0, hi, hz0, hz1, hz2⟩ := info_parts info_int
  obtain ⟨i1, hi1, hy0, hy1, hy2⟩ := info_parts info_rows
  have C1 := Lib.hid (permRight_yes a n cap p w hx hn (by omega) hp)
  have HX := Lib.hid hx
  have HN := Lib.hid hn
  have HP : Hid (∀ i, i < n → 0 ≤ nth p i ∧ nth p i < n) := by rw [← hn]; exact hp.1
  have HST : Hid (Rounds n (pf p) [] (fun _ => 0) 0 0) := by rw [← hn]; exact Rounds.start _ _ _ (ord_of hp)
  clear hx hn hp
  go_enter Try.func45, Try.ntmps45
  go_wp2_with fail
  refine C1.out.mono ?_; rintro e w1 ⟨rfl, hb1⟩
  have hs1 := hb1.size
  go_wp2_with (at_make; refine wpList_make_full _ rfl _ _ 35 rfl w.heap.size 3 i0 (.int .i64 0) 1 Try.underlying35 hi hz0 hz1 .i64 .i64 n n n rfl rfl rfl rfl (by rw [hz2]; omega) (by unfold maxLen; omega) hs1 ?_)
  intro w2 hown0 hgrow0
  have hown : OwnAt .i64 3 w w2 w1.heap.size n (fun _ => 0) := by
    have h := hown0
    refine ⟨?_, hb1.grown hgrow0 hs1 (by simp)⟩
    have e1 : (madeCells #[Value.int .i64 0] n).toList = (List.range n).map fun j => Value.int .i64 0 := by
      rw [toList_madeCells_one]
      apply List.ext_getElem (by simp)
      intro i h1 h2
      simp
    rw [e1] at h
    exact h
  have HOW := Lib.hid hown
  have hs2 := hown.base.2
  clear hown0 hgrow0 hb1 hown
  go_wp2_with fail
  go_loopw [4, 16] (fun v iv wr => ∃ (q t : Nat) (cs : List (List Nat)) (s : Nat → Int) (vs : List Value), q ≤ n ∧ iv = .int .i64 (q : Int) ∧ Hid (Rounds n (pf p) cs s q t) ∧ Hid (OwnAt .i64 3 w wr w1.heap.size n s) ∧ Hid (wr.ownsRow (w1.heap.size + 1) 35 1 v cs.length vs) ∧ Hid (CycV wr (w1.heap.size + 1) vs cs)) (fun _ iv _ => n - (intOf iv).toNat)
  case atStart => exact ⟨0, 0, [], fun _ => 0, [], Nat.zero_le _, rfl, HST.out, HOW.out, World.ownsRow_nil _ _ _ _, .nil⟩
  case round =>
    obtain ⟨q, t, cs, s, vs, hq, rfl, HR, HO, HV, HC⟩ := hrel
    by_cases hlt : q < n
    · have CR : Hid (Calls Try.prog 69 #[.slice a n cap, .int .i64 (q : Int), .slice (some ⟨w1.heap.size, 0, none⟩) n n] wr (RoundEnds n (pf p) s q t w1.heap.size w wr)) :=
        perm_round w a n cap p w1.heap.size q t s wr HX.out HN.out hl HP.out HO.out HR.out.red HR.out.bits hlt
      have hwr := HO.out.base.2
      go_wp2_with fail
      refine CR.out.mono ?_
      rintro e w3 ⟨ls, s', i, v', rfl, HRS, hs0, HO3, HL3, HG3⟩
      have hz : lenOf v' = ls.length := by
        rcases HL3.2 with ⟨rfl, h⟩ | ⟨g', cap', cur', rfl, _⟩
        · simp [lenOf, h]
        · rfl
      obtain ⟨a3, l3, c3, rfl⟩ : ∃ a l c, v' = .slice a l c := by
        rcases HL3.2 with ⟨rfl, h⟩ | ⟨g', cap', cur', rfl, _⟩
        · exact ⟨_, _, _, rfl⟩
        · exact ⟨_, _, _, rfl⟩
      have hll : l3 = ls.length := hz
      subst hll
      have hV3 : w3.ownsRow (w1.heap.size + 1) 35 1 u4 cs.length vs := HV.out.kept HG3 (.inr (fun e => by have := (HV.out.lt _ e).1; omega))
      have hC3 : CycV w3 (w1.heap.size + 1) vs cs := HC.out.kept HG3 (fun v n xs h => .inr (fun e => by have := (h.lt _ e).1; omega))
      have hs3 := HG3.size
      have HVV := Lib.hid hV3
      have HCC := Lib.hid hC3
      have HOO := Lib.hid HO3
      by_cases h1 : 0 < ls.length
      · obtain ⟨hiq, hR3, hl3⟩ := HRS.done hlt h1 hs0
        subst hiq
        have hR' : Rounds n (pf p) (cs ++ [ls]) s' (i + 1) (t + (ls.length - 1)) := HR.out.add hlt HRS h1 hR3 hl3 (by
          rcases HRS.open' with ⟨rfl, _⟩ | ⟨_, h2, _⟩
          · simp at h1
          · exact h2)
        have hroom := HR.out.room
        have HR' := Lib.hid hR'
        have hL3' : w3.ownsRow (w1.heap.size + 1) 3 1 (.slice a3 ls.length c3) ls.length (intL ls) := by
          refine ⟨HL3.1, ?_⟩
          rcases HL3.2 with h | ⟨g', cap', cur', h1', h2', h3'⟩
          · exact .inl h
          · exact .inr ⟨g', cap', cur', h1', by omega, h3'⟩
        have HLL := Lib.hid hL3'
        have hgt : decide ((ls.length : Int) > 0) = true := by simp; omega
        clear hV3 hC3 HO3 HL3 HRS hR' hL3' hR3 hl3 hz hs0
        go_wp2_with (at_builtin; refine wpList_append_own_at _ rfl _ _ 59 rfl (w1.heap.size + 1) 35 i1 (.slice none 0 0) 1 24 Try.underlying59 hi1 hy0 hy1 hy2 rfl (by decide) _ cs.length vs rfl (HVV.out.alloc _) ⟨w3.heap.size, 0, none⟩ 1 1 [.slice a3 ls.length c3] rfl rfl (cell_one_new _ _ _) (fun u hu => by simp at hu; subst hu; rfl) (by unfold maxLen; omega) (by omega) (by simp; omega) ?_)
        intro v5 w5 hown5 hgrow5 _ hat5
        have hrr : ∀ k, u4.ownBlock = some k → w1.heap.size + 1 ≤ k := fun k hk => (HVV.out.lt k hk).1
        have HO5 : Hid (OwnAt .i64 3 w w5 w1.heap.size n s') := HOO.out.grownA hgrow5 (fun e => by have := hrr _ e; omega) (fun k hk => by have := hrr k hk; omega)
        have hne : (3 : TypeId) ≠ 35 := by decide
        have HC5 : Hid (CycV w5 (w1.heap.size + 1) (vs ++ [.slice a3 ls.length c3]) (cs ++ [ls])) := by
          have h1 := ((HCC.out.snoc HLL.out).kept (World.grownBy_alloc w3 (.cells #[.slice a3 ls.length c3] 35) none) (fun v n xs h => by cases v.ownBlock <;> simp))
          exact h1.kept hgrow5 (fun v n xs h => rows_apart h (HVV.out.alloc _) hne)
        have HV5 : Hid (w5.ownsRow (w1.heap.size + 1) 35 1 v5 (cs ++ [ls]).length (vs ++ [.slice a3 ls.length c3])) := by
          unfold Hid; rw [List.length_append]; exact hown5
        clear hown5 hgrow5 hat5
        go_wp2_with fail
        go_roundw
        case rel => exact ⟨i + 1, t + (ls.length - 1), cs ++ [ls], s', vs ++ [Value.slice a3 ls.length c3], by omega, by go_num, HR'.out, HO5.out, HV5.out, HC5.out⟩
        case measure => simp [intOf]; omega
      · have hl0 : ls = [] := List.length_eq_zero_iff.1 (by omega)
        subst hl0
        have hiq : i = q ∧ s' q ≠ 0 ∧ ∀ v, s' v = s v := by
          rcases HRS.open' with ⟨_, h2, _⟩ | ⟨h2, _⟩
          · exact ⟨h2, by rw [← h2]; exact hs0, fun v => by have := HRS.marks v; simpa using this⟩
          · simp at h2
        obtain ⟨rfl, hq0, hmk⟩ := hiq
        have hR' : Rounds n (pf p) cs s (i + 1) t := HR.out.skip (by
          have := HR.out.bits i hlt
          rw [hmk] at hq0
          omega)
        have HR' := Lib.hid hR'
        have HO5 : Hid (OwnAt .i64 3 w w3 w1.heap.size n s) := HOO.out.eq (fun v => (hmk v).symm)
        clear hV3 hC3 HO3 HL3 HRS hR' hz hs0 hmk hq0 h1
        go_wp2_with fail
        go_roundw
        case rel => exact ⟨i + 1, t, cs, s, vs, by omega, by go_num, HR'.out, HO5.out, HVV.out, HCC.out⟩
        case measure => simp [intOf]; omega
    · have hqn : q = n := by omega
      have HR' : Hid (Rounds n (pf p) cs s n t) := by have h := HR.out; rw [hqn] at h; exact h
      have hb := HO.out.below
      go_wp2_with fail
      go_ret2
      exact ⟨cs, s, t, w1.heap.size + 1, _, vs, rfl, HR'.out, by omega, HV.out, HC.out, hb⟩
end Go.Proofs.Ytpehbgcbifgokaa
