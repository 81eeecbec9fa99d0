/- Plans that are worth a trial: nodes, the plan without a choice. -/
import Derived.Test.YtncikklhchimdaaCandL
import Derived.Test.YtncikklhchimdaaFactA
import Derived.Test.YtncikklhchimdaaTreeB
import Derived.Test.YtncikklhchimdaaTreeH
import Derived.Test.YtncikklhchimdaaSzB
namespace Go.Proofs.Ytncikklhchimdaa
open Go.RowKit
set_option linter.unusedVariables false
set_option linter.unusedSimpArgs false
set_option maxRecDepth 100000
set_option maxRecDepth 20000

/-! ### Nodes -/
/-- Blocks from B on. -/
def Since (B : Nat) (b : Nat) : Prop := B ≤ b
theorem kids_one {w : World} {g : Nat} {k n : Int} {a : Option Addr} {m c : Nat} {T : TypeId} {F : Nat → Prop} {t : Tr} (hF : F g) (h : w.heap[g]? = some (.cells #[.int .i64 k, .int .i64 n, .slice a m c] T (0, 0))) (hT : IsT w F k n a m c t) : Kids w F (some ⟨g, 0, none⟩) 1 [t] := by
  refine .row g 0 1 _ (fun _ => a) (fun _ => c) (by simp) (by simp) hF ?_ ?_ ?_ ?_
  all_goals
    intro i hi
    obtain rfl : i = 0 := by simpa using hi
  · rw [block_cell h]; exact congrArg (fun x => some (Value.int .i64 x)) hT.ek
  · rw [block_cell h]; exact congrArg (fun x => some (Value.int .i64 x)) hT.en
  · rw [block_cell h]; exact congrArg (fun x => some (Value.slice a x c)) hT.em
  · exact hT.kids
theorem kids_twoT {w : World} {g : Nat} {k n k' n' : Int} {a a' : Option Addr} {m c m' c' : Nat} {T : TypeId} {F : Nat → Prop} {t u : Tr} (hF : F g) (h : w.heap[g]? = some (.cells #[.int .i64 k, .int .i64 n, .slice a m c, .int .i64 k', .int .i64 n', .slice a' m' c'] T (0, 0)))
    (hT : IsT w F k n a m c t) (hU : IsT w F k' n' a' m' c' u) : Kids w F (some ⟨g, 0, none⟩) 2 [t, u] := by
  refine .row g 0 2 _ (fun i => if i = 0 then a else a') (fun i => if i = 0 then c else c') (by simp) (by simp) hF ?_ ?_ ?_ ?_
  all_goals
    intro i hi
    obtain rfl | rfl : i = 0 ∨ i = 1 := by simp at hi; omega
  · rw [block_cell h]; exact congrArg (fun x => some (Value.int .i64 x)) hT.ek
  · rw [block_cell h]; exact congrArg (fun x => some (Value.int .i64 x)) hU.ek
  · rw [block_cell h]; exact congrArg (fun x => some (Value.int .i64 x)) hT.en
  · rw [block_cell h]; exact congrArg (fun x => some (Value.int .i64 x)) hU.en
  · rw [block_cell h]; exact congrArg (fun x => some (Value.slice a x c)) hT.em
  · rw [block_cell h]; exact congrArg (fun x => some (Value.slice a' x c')) hU.em
  · exact hT.kids
  · exact hU.kids
theorem isT_none (w : World) (F : Nat → Prop) {k n : Int} (hk : fits .i64 k) (hn : fits .i64 n) : IsT w F k n none 0 0 (.node k n []) := ⟨rfl, rfl, rfl, by simp only [Tr.Ok, Tr.OkL]; exact ⟨hk, hn, trivial⟩, .nil⟩
theorem isT_node {w : World} {F : Nat → Prop} {k n : Int} {a : Option Addr} {c : Nat} {ts : List Tr} (hk : fits .i64 k) (hn : fits .i64 n) (ho : ∀ t ∈ ts, t.Ok) (h : Kids w F a c ts) : IsT w F k n a ts.length c (.node k n ts) := ⟨rfl, rfl, rfl, by simp only [Tr.Ok]; exact ⟨hk, hn, Tr.okL_of ho⟩, h⟩

/-- A result: a new tree. -/
def GivesD (t : Tr) (w : World) (e : Ending) (w' : World) : Prop :=
  ∃ k n a m c, e = .returned (.agg #[.int .i64 k, .int .i64 n, .slice a m c]) ∧ IsT w' (Since w.heap.size) k n a m c t ∧ Below w.heap.size w w'

theorem fin3 {w wr : World} {x y z : Value} {T : TypeId} (hb : Below w.heap.size w wr) (hx : wr.heap[w.heap.size]? = some (.cells #[x, y, z] T (0, 0))) (x' y' z' : Value) :
    ∃ w', ((wr.setCell ⟨w.heap.size, 0, none⟩ x').setCell ⟨w.heap.size, 1, none⟩ y').setCell ⟨w.heap.size, 2, none⟩ z' = w' ∧ Below w.heap.size w w' ∧ w'.cell? ⟨w.heap.size, 0, none⟩ = some x' ∧ w'.cell? ⟨w.heap.size, 1, none⟩ = some y' ∧ w'.cell? ⟨w.heap.size, 2, none⟩ = some z' ∧ (∀ c, c ≠ w.heap.size → w'.heap[c]? = wr.heap[c]?) := by
  have h := set3 (x' := x') (y' := y') (z' := z') hx
  exact ⟨_, rfl, set3_below hb _ (Nat.le_refl _) _ _ _, block_cell h 0, block_cell h 1, block_cell h 2, fun c hc => set3_far wr w.heap.size _ _ _ c hc⟩
theorem box_fresh (W : World) (cs : Array Value) (T : TypeId) : ∃ W', W.alloc (.cells cs T) = W' ∧ Below W.heap.size W W' ∧ W'.heap[W.heap.size]? = some (.cells cs T (0, 0)) := ⟨_, rfl, (Below.refl _ _).alloc (Nat.le_refl _) _, block_new rfl⟩
theorem okF_sz {f n : Nat} (h : okF f n = true) : hasSz n = true := by
  cases f with
  | zero => cases h
  | succ f => unfold okF at h; rw [Bool.and_eq_true] at h; exact h.1
theorem zfacts {w : World} {b : Nat} {x y z : Value} {T : TypeId} (h : w.heap[b]? = some (.cells #[x, y, z] T (0, 0))) : w.cell? ⟨b, 0, none⟩ = some x ∧ w.cell? ⟨b, 1, none⟩ = some y ∧ w.cell? ⟨b, 2, none⟩ = some z ∧ w.frozen? ⟨b, 0, none⟩ = false ∧ w.frozen? ⟨b, 1, none⟩ = false ∧ w.frozen? ⟨b, 2, none⟩ = false :=
  ⟨block_cell h 0, block_cell h 1, block_cell h 2, block_free h 0, block_free h 1, block_free h 2⟩
theorem zbox (w : World) (T : TypeId) : ∃ W0, w.alloc (.cells #[.int .i64 0, .int .i64 0, .slice none 0 0] T) = W0 ∧ Below w.heap.size w W0 ∧ W0.heap[w.heap.size]? = some (.cells #[.int .i64 0, .int .i64 0, .slice none 0 0] T (0, 0)) := ⟨_, rfl, (Below.refl _ _).alloc (Nat.le_refl _) _, block_new rfl⟩

theorem cand_node (k n : Int) (a : Option Addr) (m c : Nat) (w : World) :
    Calls Try.prog 75 #[.int .i64 k, .int .i64 n, .slice a m c] w fun e w' => e = .returned (.agg #[.int .i64 k, .int .i64 n, .slice a m c]) ∧ Below w.heap.size w w' := by
  obtain ⟨W0, hW0, hb0, x0⟩ := zbox w 24
  obtain ⟨p0, p1, p2, f0, f1, f2⟩ := zfacts x0
  go_enter Try.func75, Try.ntmps75
  go_wp2_with fail
  obtain ⟨w', hw', hb, r0, r1, r2, _⟩ := fin3 hb0 x0 (.int .i64 k) (.int .i64 n) (.slice a m c)
  rw [hw']
  exact bodyPost_ret (v := .agg #[.int .i64 k, .int .i64 n, .slice a m c]) (by simp [results, Try.results75, go_sem, r0, r1, r2]) rfl ⟨rfl, hb⟩
theorem ref19_leaf (k n : Int) (w : World) :
    Calls Try.prog 78 #[.int .i64 k, .int .i64 n] w fun e w' => e = .returned (.agg #[.int .i64 k, .int .i64 n, .slice none 0 0]) ∧ Below w.heap.size w w' := by
  obtain ⟨W0, hW0, hb0, x0⟩ := zbox w 24
  obtain ⟨p0, p1, p2, f0, f1, f2⟩ := zfacts x0
  go_enter Try.func78, Try.ntmps78
  go_wp2_with fail
  obtain ⟨w', hw', hb, r0, r1, r2, _⟩ := fin3 hb0 x0 (.int .i64 k) (.int .i64 n) (.slice none 0 0)
  rw [hw']
  exact bodyPost_ret (v := .agg #[.int .i64 k, .int .i64 n, .slice none 0 0]) (by simp [results, Try.results78, go_sem, r0, r1, r2]) rfl ⟨rfl, hb⟩
end Go.Proofs.Ytncikklhchimdaa

namespace Go.Proofs.Ytncikklhchimdaa
open Go.RowKit
set_option linter.unusedVariables false
set_option linter.unusedSimpArgs false
set_option maxRecDepth 20000

theorem noKid_cases {n : Nat} (h1 : 1 ≤ n) (h : noKid n = true) : (2 ≤ n ∧ n ≤ 5 ∧ leafK n = 2) ∨ (n = 1 ∧ leafK n = 1) ∨ (6 ≤ n ∧ n ≤ 64 ∧ hasP2 n = false ∧ leafK n = 1) ∨ (6 ≤ n ∧ n ≤ 64 ∧ hasP2 n = true ∧ leafK n = 3) ∨ (65 ≤ n ∧ hasP2 n = true ∧ leafK n = 3) := by
  by_cases a : 2 ≤ n ∧ n ≤ 5
  · exact .inl ⟨a.1, a.2, if_pos a⟩
  by_cases b : n = 1
  · exact .inr (.inl ⟨b, by unfold leafK; rw [if_neg a, if_pos (.inl b)]⟩)
  cases hp : hasP2 n
  · by_cases c : n ≤ 64
    · exact .inr (.inr (.inl ⟨by omega, c, rfl, by unfold leafK; rw [if_neg a, if_pos (.inr ⟨c, hp⟩)]⟩))
    · exfalso
      have a' : ¬ (2 ≤ n ∧ n ≤ 5) := a
      unfold noKid at h
      rw [hp] at h
      simp at h
      omega
  · have e : leafK n = 3 := by unfold leafK; rw [if_neg a, if_neg (by rintro (x | ⟨_, x⟩); exact b x; rw [hp] at x; cases x)]
    by_cases c : n ≤ 64
    · exact .inr (.inr (.inr (.inl ⟨by omega, c, rfl, e⟩)))
    · exact .inr (.inr (.inr (.inr ⟨by omega, rfl, e⟩)))
theorem noKid_no {n : Nat} (h1 : 1 ≤ n) (h : noKid n = false) : 65 ≤ n ∧ hasP2 n = false := by
  unfold noKid at h
  cases hp : hasP2 n
  · rw [hp] at h
    simp at h
    exact ⟨by omega, rfl⟩
  · rw [hp] at h; simp at h
theorem fin_node {w wr : World} {x y z : Value} {T : TypeId} {k n : Int} {a : Option Addr} {m c : Nat} {t : Tr} (hb : Below w.heap.size w wr) (hx : wr.heap[w.heap.size]? = some (.cells #[x, y, z] T (0, 0))) (hT : IsT wr (Since (w.heap.size + 1)) k n a m c t) :
    ∃ w', ((wr.setCell ⟨w.heap.size, 0, none⟩ (.int .i64 k)).setCell ⟨w.heap.size, 1, none⟩ (.int .i64 n)).setCell ⟨w.heap.size, 2, none⟩ (.slice a m c) = w' ∧ Below w.heap.size w w' ∧ w'.cell? ⟨w.heap.size, 0, none⟩ = some (.int .i64 k) ∧ w'.cell? ⟨w.heap.size, 1, none⟩ = some (.int .i64 n) ∧ w'.cell? ⟨w.heap.size, 2, none⟩ = some (.slice a m c) ∧ IsT w' (Since w.heap.size) k n a m c t := by
  obtain ⟨w', h1, h2, h3, h4, h5, h6⟩ := fin3 hb hx (.int .i64 k) (.int .i64 n) (.slice a m c)
  exact ⟨w', h1, h2, h3, h4, h5, (hT.stay fun b hb _ => h6 b (by unfold Since at hb; omega)).mono fun b hb => by unfold Since at hb ⊢; omega⟩
theorem own_of_facts {n : Nat} (h1 : 1 ≤ n) (h2 : n ≤ 16777216) (hs : hasSz n = true) : isPr n = prB (facS n) := by rw [isPr_nat n h1 h2, fac_sz hs]
theorem okF_step {f n : Nat} (h : okF (f + 1) n = true) : hasSz n = true ∧ (noKid n = false → (prB (facS n) = true → okF f (n - 1) = true) ∧ (prB (facS n) = false → 1 ≤ (facS n).length ∧ 1 ≤ lastP (facS n) ∧ okF f (lastP (facS n)) = true ∧ okF f (n / lastP (facS n)) = true)) := by
  unfold okF at h
  rw [Bool.and_eq_true] at h
  refine ⟨h.1, fun hk => ⟨fun hp => ?_, fun hp => ?_⟩⟩
  · have := h.2; rw [hk, hp] at this; simpa using this
  · have := h.2; rw [hk, hp] at this
    simp only [Bool.false_eq_true, if_false, Bool.and_eq_true, decide_eq_true_eq] at this
    exact ⟨this.1.1.1, this.1.1.2, this.1.2, this.2⟩
theorem planF_leaf {f n : Nat} (h : noKid n = true) : planF (f + 1) n = .node (leafK n) n [] := by rw [planF, if_pos h]
theorem planF_one {f n : Nat} (h : noKid n = false) (hp : prB (facS n) = true) : planF (f + 1) n = .node 6 n [planF f (n - 1)] := by rw [planF, if_neg (by rw [h]; simp), if_pos hp]
theorem planF_two {f n : Nat} (h : noKid n = false) (hp : prB (facS n) = false) : planF (f + 1) n = .node 4 n [planF f (lastP (facS n)), planF f (n / lastP (facS n))] := by rw [planF, if_neg (by rw [h]; simp), if_neg (by rw [hp]; simp)]
theorem cellsP_last (ps : List (Nat × Nat)) (q : Nat) (h : ps.length = q + 1) : (cellsP ps)[q * 2]? = some (.int .i64 (lastP ps)) := by
  have := (cellsP_at ps q (by omega)).1
  rw [this]; unfold lastP; rw [show ps.length - 1 = q by omega]

theorem fac_few {n : Nat} (h : hasSz n = true) : (facS n).length ≤ 6 := by
  have := kids_sz h
  unfold kidsB at this
  simp only [Bool.and_eq_true, decide_eq_true_eq] at this
  exact this.1.1.2

theorem ok_two {t u : Tr} (h1 : t.Ok) (h2 : u.Ok) : ∀ x ∈ [t, u], x.Ok := by
  intro x hx
  rcases List.mem_cons.1 hx with rfl | hx
  · exact h1
  · rw [List.mem_singleton.1 hx]; exact h2
theorem undrew {w wa : World} (h : Below w.drew.heap.size w.drew wa) : Below w.heap.size w wa := chain (below_drewN (Below.refl _ _) _) h
theorem two_fin {w2 wa wb w4 : World} {cs : Array Value} {T : TypeId} (hba : Below w2.heap.size w2 wa) (hbb : Below wa.heap.size wa wb) (hb4 : Below (wb.alloc (.cells cs T)).heap.size (wb.alloc (.cells cs T)) w4) :
    Below w2.heap.size w2 w4 ∧ w4.heap[wb.heap.size]? = some (.cells cs T (0, 0)) ∧ w2.heap.size ≤ wb.heap.size ∧
    (∀ k n a m c t, IsT wa (Since w2.heap.size) k n a m c t → IsT w4 (Since w2.heap.size) k n a m c t) ∧ (∀ k n a m c t, IsT wb (Since wa.heap.size) k n a m c t → IsT w4 (Since w2.heap.size) k n a m c t) := by
  have hal : Below wb.heap.size wb (wb.alloc (.cells cs T)) := (Below.refl _ _).alloc (Nat.le_refl _) _
  have h1 := hba.size
  have h2 := hbb.size
  have h3 := chain hal hb4
  have hx : (wb.alloc (.cells cs T)).heap[wb.heap.size]? = some (.cells cs T (0, 0)) := block_new rfl
  exact ⟨chain hba (chain hbb h3), (hb4.block _ (block_lt hx)).trans hx, by omega, fun k n a m c t h => h.below (chain hbb h3), fun k n a m c t h => (h.below h3).mono fun b hb => by unfold Since at hb ⊢; omega⟩

theorem node_keep {w w2 wa wb w4 : World} {cs : Array Value} {T : TypeId} {o : Obj} (h2 : Below w.heap.size w w2) (hx : w2.heap[w.heap.size]? = some o) (hba : Below w2.heap.size w2 wa) (hbb : Below wa.heap.size wa wb) (hb4 : Below (wb.alloc (.cells cs T)).heap.size (wb.alloc (.cells cs T)) w4) : Below w.heap.size w w4 ∧ w4.heap[w.heap.size]? = some o := by
  obtain ⟨h, _⟩ := two_fin hba hbb hb4
  exact ⟨chain h2 h, (h.block _ (block_lt hx)).trans hx⟩

theorem keep_two {w w2 wa wb : World} {cs : Array Value} {T : TypeId} {o : Obj} (h2 : Below w.heap.size w w2) (hx : w2.heap[w.heap.size]? = some o) (hba : Below w2.heap.size w2 wa) (hbb : Below wa.heap.size wa wb) : Below w.heap.size w (wb.alloc (.cells cs T)) ∧ (wb.alloc (.cells cs T)).heap[w.heap.size]? = some o := by
  have hal : Below wb.heap.size wb (wb.alloc (.cells cs T)) := (Below.refl _ _).alloc (Nat.le_refl _) _
  have h := chain hba (chain hbb hal)
  exact ⟨chain h2 h, (h.block _ (block_lt hx)).trans hx⟩

theorem cand_primes (N : Nat) (w : World) (h1 : 1 ≤ N) (h2 : N ≤ 16777216) :
    Calls Try.prog 102 #[.int .i64 N] w fun e w' => ∃ v, e = .returned v ∧ w'.ownsRow w.heap.size 103 2 v (facL N).length (cellsP (facL N)) ∧ Below w.heap.size w w' := by
  have C1 := Lib.hid (fact_Factors N w h1 h2)
  go_enter Try.func102, Try.ntmps102
  go_wp2_with fail
  refine C1.out.mono ?_; rintro e w1 ⟨v, rfl, hown, hb⟩
  have HO := Lib.hid hown
  have HB := Lib.hid hb
  obtain ⟨a, cap, rfl, _, _⟩ := own_slice2 hown
  clear hown hb
  go_wp2_with fail
  go_ret
  exact ⟨_, rfl, HO.out, HB.out⟩

set_option maxHeartbeats 2000000 in
theorem cand_plain (f : Nat) : ∀ (n : Nat) (w : World), okF f n = true → Calls Try.prog 72 #[.int .i64 n] w (GivesD (planF f n) w) := by
  induction f with
  | zero => intro n w h; cases h
  | succ f ih =>
    intro n w h
    have IH := Lib.hid ih
    clear ih
    obtain ⟨hsz, hrec⟩ := okF_step h
    clear h
    obtain ⟨i1, i2, _⟩ := hasSz_iff.1 hsz
    have h1 : 1 ≤ n := by omega
    have h2 : n ≤ 16777216 := by omega
    clear i1 i2
    obtain ⟨B, hB⟩ : ∃ B, hasP2 (n : Int) = B := ⟨_, rfl⟩
    have CP : Hid (∀ W, Calls Try.prog 61 #[.int .i64 n] W fun e w' => e = .returned (.bool B) ∧ W = w') := fun W => by rw [← hB]; exact stock_Has n W (by omega)
    have CS : Hid (∀ W, Calls Try.prog 60 #[.int .i64 n] W fun e w' => e = .returned (.bool (decide (n ≤ 5))) ∧ W = w') := fun W => by
      have := small_Has n W
      rwa [show decide (1 ≤ (n : Int) ∧ (n : Int) ≤ 5) = decide (n ≤ 5) by rw [decide_eq_decide]; omega] at this
    have HSZ := Lib.hid hsz
    clear hsz
    obtain ⟨W0, hW0, hb0, x0⟩ := zbox w 24
    have hs0 : Hid (W0.heap.size = w.heap.size + 1) := by unfold Hid; rw [← hW0]; simp
    obtain ⟨p0, p1, p2, f0, f1, f2⟩ := zfacts x0
    have HB0 := Lib.hid hb0
    have X0 := Lib.hid x0
    clear hb0 x0 p0 p1 p2 f0 f1 f2
    by_cases hk : noKid n = true
    · have HE0 : Hid (planF (f + 1) n = .node (leafK n) n []) := planF_leaf hk
      have hcs := noKid_cases h1 hk
      clear hk hrec
      rw [hB] at hcs
      rcases hcs with ⟨h3, h4, hl⟩ | ⟨h3, hl⟩ | ⟨h3, h4, hP, hl⟩ | ⟨h3, h4, hP, hl⟩ | ⟨h3, hP, hl⟩
      · have HE : Hid (planF (f + 1) n = .node 2 n []) := by unfold Hid; rw [HE0.out, hl]; first | rfl | done
        clear HE0 hl
        have s5 : decide (n ≤ 5) = true := by simp; omega
        go_enter Try.func72, Try.ntmps72
        go_wp2_with fail
        refine (CS.out _).mono ?_; rintro e w0 ⟨rfl, rfl⟩
        rw [s5]
        go_wp2_with fail
        refine (cand_node _ _ _ _ _ _).mono ?_; rintro e w1 ⟨rfl, hb1⟩
        have HB1 := Lib.hid (chain HB0.out hb1)
        have x1 := (hb1.block _ (block_lt X0.out)).trans X0.out
        obtain ⟨q0, q1, q2, g0, g1, g2⟩ := zfacts x1
        have X1 := Lib.hid x1
        clear hb1 x1
        go_wp2_with fail
        obtain ⟨w', hw', hb, r0, r1, r2, hT⟩ := fin_node HB1.out X1.out (isT_none _ _ (by rw [fits_i64]; omega) (by rw [fits_i64]; omega)) (k := 2) (n := (n : Int)) (a := none) (m := 0) (c := 0) (t := .node 2 n [])
        rw [hw']
        exact bodyPost_ret (v := .agg #[.int .i64 2, .int .i64 n, .slice none 0 0]) (by simp [results, Try.results72, go_sem, r0, r1, r2]) rfl ⟨_, _, _, _, _, rfl, by rw [HE.out]; exact hT, hb⟩

      · subst h3
        have HE : Hid (planF (f + 1) 1 = .node 1 1 []) := by unfold Hid; rw [HE0.out, hl]; first | rfl | done
        clear HE0 hl
        go_enter Try.func72, Try.ntmps72
        go_wp2_with fail
        refine (cand_node _ _ _ _ _ _).mono ?_; rintro e w1 ⟨rfl, hb1⟩
        have HB1 := Lib.hid (chain HB0.out hb1)
        have x1 := (hb1.block _ (block_lt X0.out)).trans X0.out
        obtain ⟨q0, q1, q2, g0, g1, g2⟩ := zfacts x1
        have X1 := Lib.hid x1
        clear hb1 x1
        go_wp2_with fail
        obtain ⟨w', hw', hb, r0, r1, r2, hT⟩ := fin_node HB1.out X1.out (isT_none _ _ (by rw [fits_i64]; omega) (by rw [fits_i64]; omega)) (k := 1) (n := 1) (a := none) (m := 0) (c := 0) (t := .node 1 1 [])
        rw [hw']
        exact bodyPost_ret (v := .agg #[.int .i64 1, .int .i64 1, .slice none 0 0]) (by simp [results, Try.results72, go_sem, r0, r1, r2]) rfl ⟨_, _, _, _, _, rfl, by rw [HE.out]; exact hT, hb⟩

      · have HE : Hid (planF (f + 1) n = .node 1 n []) := by unfold Hid; rw [HE0.out, hl]; first | rfl | done
        clear HE0 hl
        subst hP
        have s5 : decide (n ≤ 5) = false := by simp; omega
        have s1 : ((n : Int) == 1) = false := bno (by omega)
        go_enter Try.func72, Try.ntmps72
        go_wp2_with fail
        refine (CS.out _).mono ?_; rintro e w0 ⟨rfl, rfl⟩
        rw [s5]
        go_wp2_with fail
        refine (CP.out _).mono ?_; rintro e w0 ⟨rfl, rfl⟩
        go_wp2_with fail
        refine (cand_node _ _ _ _ _ _).mono ?_; rintro e w1 ⟨rfl, hb1⟩
        have HB1 := Lib.hid (chain HB0.out hb1)
        have x1 := (hb1.block _ (block_lt X0.out)).trans X0.out
        obtain ⟨q0, q1, q2, g0, g1, g2⟩ := zfacts x1
        have X1 := Lib.hid x1
        clear hb1 x1
        go_wp2_with fail
        obtain ⟨w', hw', hb, r0, r1, r2, hT⟩ := fin_node HB1.out X1.out (isT_none _ _ (by rw [fits_i64]; omega) (by rw [fits_i64]; omega)) (k := 1) (n := (n : Int)) (a := none) (m := 0) (c := 0) (t := .node 1 n [])
        rw [hw']
        exact bodyPost_ret (v := .agg #[.int .i64 1, .int .i64 n, .slice none 0 0]) (by simp [results, Try.results72, go_sem, r0, r1, r2]) rfl ⟨_, _, _, _, _, rfl, by rw [HE.out]; exact hT, hb⟩

      · have HE : Hid (planF (f + 1) n = .node 3 n []) := by unfold Hid; rw [HE0.out, hl]; first | rfl | done
        clear HE0 hl
        subst hP
        have s5 : decide (n ≤ 5) = false := by simp; omega
        have s1 : ((n : Int) == 1) = false := bno (by omega)
        go_enter Try.func72, Try.ntmps72
        go_wp2_with fail
        refine (CS.out _).mono ?_; rintro e w0 ⟨rfl, rfl⟩
        rw [s5]
        go_wp2_with fail
        refine (CP.out _).mono ?_; rintro e w0 ⟨rfl, rfl⟩
        go_wp2_with fail
        refine (CP.out _).mono ?_; rintro e w0 ⟨rfl, rfl⟩
        go_wp2_with fail
        refine (cand_node _ _ _ _ _ _).mono ?_; rintro e w1 ⟨rfl, hb1⟩
        have HB1 := Lib.hid (chain HB0.out hb1)
        have x1 := (hb1.block _ (block_lt X0.out)).trans X0.out
        obtain ⟨q0, q1, q2, g0, g1, g2⟩ := zfacts x1
        have X1 := Lib.hid x1
        clear hb1 x1
        go_wp2_with fail
        obtain ⟨w', hw', hb, r0, r1, r2, hT⟩ := fin_node HB1.out X1.out (isT_none _ _ (by rw [fits_i64]; omega) (by rw [fits_i64]; omega)) (k := 3) (n := (n : Int)) (a := none) (m := 0) (c := 0) (t := .node 3 n [])
        rw [hw']
        exact bodyPost_ret (v := .agg #[.int .i64 3, .int .i64 n, .slice none 0 0]) (by simp [results, Try.results72, go_sem, r0, r1, r2]) rfl ⟨_, _, _, _, _, rfl, by rw [HE.out]; exact hT, hb⟩

      · have HE : Hid (planF (f + 1) n = .node 3 n []) := by unfold Hid; rw [HE0.out, hl]; first | rfl | done
        clear HE0 hl
        subst hP
        have s5 : decide (n ≤ 5) = false := by simp; omega
        have s1 : ((n : Int) == 1) = false := bno (by omega)
        go_enter Try.func72, Try.ntmps72
        go_wp2_with fail
        refine (CS.out _).mono ?_; rintro e w0 ⟨rfl, rfl⟩
        rw [s5]
        go_wp2_with fail
        refine (CP.out _).mono ?_; rintro e w0 ⟨rfl, rfl⟩
        go_wp2_with fail
        refine (cand_node _ _ _ _ _ _).mono ?_; rintro e w1 ⟨rfl, hb1⟩
        have HB1 := Lib.hid (chain HB0.out hb1)
        have x1 := (hb1.block _ (block_lt X0.out)).trans X0.out
        obtain ⟨q0, q1, q2, g0, g1, g2⟩ := zfacts x1
        have X1 := Lib.hid x1
        clear hb1 x1
        go_wp2_with fail
        obtain ⟨w', hw', hb, r0, r1, r2, hT⟩ := fin_node HB1.out X1.out (isT_none _ _ (by rw [fits_i64]; omega) (by rw [fits_i64]; omega)) (k := 3) (n := (n : Int)) (a := none) (m := 0) (c := 0) (t := .node 3 n [])
        rw [hw']
        exact bodyPost_ret (v := .agg #[.int .i64 3, .int .i64 n, .slice none 0 0]) (by simp [results, Try.results72, go_sem, r0, r1, r2]) rfl ⟨_, _, _, _, _, rfl, by rw [HE.out]; exact hT, hb⟩

    · rw [Bool.not_eq_true] at hk
      obtain ⟨h65, hP⟩ := noKid_no h1 hk
      rw [hP] at hB
      subst hB
      have s5 : decide (n ≤ 5) = false := by simp; omega
      have s1 : ((n : Int) == 1) = false := bno (by omega)
      obtain ⟨Q, hQ⟩ : ∃ Q, prB (facS n) = Q := ⟨_, rfl⟩
      have CF : Hid (∀ W, Calls Try.prog 64 #[.int .i64 n] W fun e w' => e = .returned (.bool Q) ∧ Below W.heap.size W w') := fun W => by
        have := fact_Prime n W (by omega)
        rwa [own_of_facts h1 h2 HSZ.out, hQ] at this
      obtain ⟨hr1, hr2⟩ := hrec hk
      cases Q with
      | true =>
        have HE : Hid (planF (f + 1) n = .node 6 n [planF f (n - 1)]) := planF_one hk hQ
        have hok := hr1 hQ
        obtain ⟨m, hm⟩ : ∃ m, n - 1 = m := ⟨_, rfl⟩
        rw [hm] at HE hok
        have e1 : (n : Int) - 1 = (m : Nat) := by omega
        have CI : Hid (∀ W, Calls Try.prog 72 #[.int .i64 m] W (GivesD (planF f m) W)) := fun W => IH.out m W hok
        clear hr1 hr2 hrec hk hQ hP hok hm IH
        go_enter Try.func72, Try.ntmps72
        go_wp2_with fail
        refine (CS.out _).mono ?_; rintro e w0 ⟨rfl, rfl⟩
        rw [s5]
        go_wp2_with fail
        refine (CP.out _).mono ?_; rintro e w0 ⟨rfl, rfl⟩
        go_wp2_with fail
        refine (CF.out _).mono ?_; rintro e w1 ⟨rfl, hb1⟩
        have HB1 := Lib.hid (chain HB0.out hb1)
        have X1 := Lib.hid ((hb1.block _ (block_lt X0.out)).trans X0.out)
        have HS1 := Lib.hid hb1.size
        clear hb1
        go_wp2_with fail
        refine (CI.out _).mono ?_; rintro e w2 ⟨k', n', a', m', c', rfl, hT, hb2⟩
        obtain ⟨w3, hw3, hb3, x3⟩ := box_fresh w2 #[.int .i64 k', .int .i64 n', .slice a' m' c'] 24
        have HT3 : Hid (IsT w3 (Since (w.heap.size + 1)) k' n' a' m' c' (planF f m)) := (hT.below hb3).mono fun b hb => by unfold Since at hb ⊢; have := HS1.out; have := hs0.out; omega
        have HS2 := Lib.hid hb2.size
        have HB3 := Lib.hid (chain HB1.out (chain hb2 hb3))
        have X3 := Lib.hid (((chain hb2 hb3).block _ (block_lt X1.out)).trans X1.out)
        have HK := Lib.hid x3
        clear hT hb2 hb3 x3
        go_wp2_with fail
        refine (cand_node _ _ _ _ _ _).mono ?_; rintro e w4 ⟨rfl, hb4⟩
        have HB4 := Lib.hid (chain HB3.out hb4)
        have x4 := (hb4.block _ (block_lt X3.out)).trans X3.out
        have k4 := (hb4.block _ (block_lt HK.out)).trans HK.out
        have hT4 := HT3.out.below hb4
        obtain ⟨q0, q1, q2, g0, g1, g2⟩ := zfacts x4
        have hF : Since (w.heap.size + 1) w2.heap.size := by unfold Since; have := HS1.out; have := hs0.out; have := HS2.out; omega
        have hN := Lib.hid (isT_node (k := 6) (n := n) (by rw [fits_i64]; omega) (by rw [fits_i64]; omega) (by intro t ht; simp at ht; subst ht; exact hT4.ok) (kids_one hF k4 hT4))
        have X4 := Lib.hid x4
        clear x4 k4 hT4 hF hb4
        go_wp2_with fail
        obtain ⟨w', hw', hb, r0, r1, r2, hT⟩ := fin_node HB4.out X4.out hN.out
        simp only [List.length_singleton] at hw' r0 r1 r2 hT
        rw [hw']
        exact bodyPost_ret (v := .agg #[.int .i64 6, .int .i64 n, .slice (some ⟨w2.heap.size, 0, none⟩) 1 1]) (by simp [results, Try.results72, go_sem, r0, r1, r2]) rfl ⟨_, _, _, _, _, rfl, by rw [HE.out]; exact hT, hb⟩
      | false =>
        have HE : Hid (planF (f + 1) n = .node 4 n [planF f (lastP (facS n)), planF f (n / lastP (facS n))]) := planF_two hk hQ
        obtain ⟨hlen, hp1, hok1, hok2⟩ := hr2 hQ
        have CR : Hid (∀ W, Calls Try.prog 102 #[.int .i64 n] W fun e w' => ∃ v, e = .returned v ∧ w'.ownsRow W.heap.size 103 2 v (facS n).length (cellsP (facS n)) ∧ Below W.heap.size W w') := fun W => by
          have := cand_primes n W h1 h2
          rwa [fac_sz HSZ.out] at this
        obtain ⟨q, hq⟩ : ∃ q, (facS n).length = q + 1 := ⟨(facS n).length - 1, by omega⟩
        have HLC := Lib.hid (cellsP_last (facS n) q hq)
        have hq6 : q ≤ 5 := by have := fac_few HSZ.out; omega
        rw [hq] at CR
        obtain ⟨ps, hps⟩ : ∃ ps, facS n = ps := ⟨_, rfl⟩
        rw [hps] at HE CR HLC hok1 hok2 hp1
        obtain ⟨p, hp⟩ : ∃ p, lastP ps = p := ⟨_, rfl⟩
        rw [hp] at HE HLC hok1 hok2 hp1
        obtain ⟨d, hd⟩ : ∃ d, n / p = d := ⟨_, rfl⟩
        rw [hd] at HE hok2
        have e1 : (n : Int).tdiv (p : Int) = (d : Int) := by rw [Int.tdiv_eq_ediv_of_nonneg (by omega), ← Int.natCast_ediv, hd]
        have e2 : (n : Int) / (p : Int) = (d : Int) := by rw [← Int.natCast_ediv, hd]
        have z1 : ((p : Int) == 0) = false := bno (by omega)
        have z2 : ¬ (p : Int) = 0 := by omega
        have hdn : d ≤ n := by rw [← hd]; exact Nat.div_le_self n p
        have C1 : Hid (∀ W, Calls Try.prog 72 #[.int .i64 p] W (GivesD (planF f p) W)) := fun W => IH.out p W hok1
        have C2 : Hid (∀ W, Calls Try.prog 72 #[.int .i64 d] W (GivesD (planF f d) W)) := fun W => IH.out d W hok2
        have hpp : p ≤ 16777216 := by
          have := (hasSz_iff.1 (okF_sz hok1)).2.1
          omega
        have hd9 : d ≤ 16777216 := by omega
        have e3 : IntKind.i64.wrap ((n : Int).tdiv (p : Int)) = (d : Int) := by rw [e1]; exact IntWalk.i64_in _ (by omega)
        have e4 : wrap64 (d : Int) = d := by rw [← IntWalk.i64_left]; exact IntWalk.i64_in _ (by omega)
        have p0 : (0 : Int) < p := by omega
        have n0 : (0 : Int) ≤ n := by omega
        clear hr1 hr2 hrec hk hQ hP hok1 hok2 hps hp hd IH hlen hq
        go_enter Try.func72, Try.ntmps72
        go_wp2_with fail
        refine (CS.out _).mono ?_; rintro e w0 ⟨rfl, rfl⟩
        rw [s5]
        go_wp2_with fail
        refine (CP.out _).mono ?_; rintro e w0 ⟨rfl, rfl⟩
        go_wp2_with fail
        refine (CF.out _).mono ?_; rintro e w1 ⟨rfl, hb1⟩
        have HB1 := Lib.hid (chain HB0.out hb1)
        have X1 := Lib.hid ((hb1.block _ (block_lt X0.out)).trans X0.out)
        have HS1 := Lib.hid hb1.size
        clear hb1
        go_wp2_with fail
        refine (CR.out _).mono ?_; rintro e w2 ⟨v, rfl, hown, hb2⟩
        obtain ⟨a, cap, rfl, hcap, hg⟩ := own_slice2 hown
        obtain ⟨g, rfl⟩ := hg (by omega)
        have hc : w2.cell? ⟨g, q * 2, none⟩ = some (.int .i64 (p : Int)) := (hown.cellAt (q * 2) (by omega)).trans HLC.out
        have HB2 := Lib.hid (chain HB1.out hb2)
        have X2 := Lib.hid ((hb2.block _ (block_lt X1.out)).trans X1.out)
        have HS2 : Hid (w.heap.size + 1 ≤ w2.heap.size) := by have := HS1.out; have := hs0.out; have := hb2.size; unfold Hid; omega
        clear hb2 hown
        go_wp2_with fail
        go_region_held (fun _ => True) (trivial) (first
          | (go_at_call 72; first
            | ((with_reducible refine (C1.out _).mono ?_); rintro e wa ⟨ka, na, aa, ma, ca, rfl, hTa, hba⟩; have hba := undrew hba)
            | ((with_reducible refine (C2.out _).mono ?_); rintro e wb ⟨kb, nb, ab, mb, cb, rfl, hTb, hbb⟩))
          | (go_at_call 75; (with_reducible refine (cand_node _ _ _ _ _ _).mono ?_); rintro e w4 ⟨rfl, hb4⟩; have hx4 := (by first | exact node_keep HB2.out X2.out hba hbb hb4 | exact node_keep HB2.out X2.out hbb hba hb4); obtain ⟨q0, q1, q2, g0, g1, g2⟩ := zfacts hx4.2))
        all_goals
          go_wp2_with fail
          obtain ⟨_, k4, hbs, hA, hB⟩ := two_fin hba hbb hb4
          have hTA := (hA _ _ _ _ _ _ hTa).mono (G := Since (w.heap.size + 1)) fun b hb => by unfold Since at hb ⊢; have := HS2.out; omega
          have hTB := (hB _ _ _ _ _ _ hTb).mono (G := Since (w.heap.size + 1)) fun b hb => by unfold Since at hb ⊢; have := HS2.out; omega
          have hN := isT_node (k := 4) (n := n) (by rw [fits_i64]; omega) (by rw [fits_i64]; omega) (ok_two hTA.ok hTB.ok) (kids_twoT (show Since (w.heap.size + 1) wb.heap.size by unfold Since; have := HS2.out; omega) k4 hTA hTB)
          obtain ⟨w', hw', hb, r0, r1, r2, hT⟩ := fin_node hx4.1 hx4.2 hN
          simp only [List.length_cons, List.length_nil, Nat.zero_add, Nat.reduceAdd] at hw' r0 r1 r2 hT
          rw [hw']
          exact bodyPost_ret (v := .agg #[.int .i64 4, .int .i64 n, .slice (some ⟨wb.heap.size, 0, none⟩) 2 2]) (by simp [results, Try.results72, go_sem, r0, r1, r2]) rfl ⟨_, _, _, _, _, rfl, by rw [HE.out]; exact hT, hb⟩
end Go.Proofs.Ytncikklhchimdaa
