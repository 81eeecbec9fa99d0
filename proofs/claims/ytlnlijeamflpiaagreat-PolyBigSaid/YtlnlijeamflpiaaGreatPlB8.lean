/- The contracts and plain laws that the statements PolyMuls PolySizes PolyPowers PolyBig need, part 8 of 9: CandA CandE CandF CandJ CostI CandM PolyA PolyB PolyC. -/
import Derived.Test.YtlnlijeamflpiaaGreatPlB7
namespace Go.Proofs.YtlnlijeamflpiaaGreat
open Go.RowKit
set_option linter.unusedVariables false
set_option linter.unusedSimpArgs false
set_option maxRecDepth 100000
set_option maxRecDepth 20000
/-- Blocks from B on. -/
def Since (B : Nat) (b : Nat) : Prop := B ≤ b
theorem kids_one {w : World} {g : Nat} {k n : Int} {a : Option Addr} {m c : Nat} {T : TypeId} {F : Nat → Prop} {t : Tr} (hF : F g) (h : w.heap[g]? = some (.cells #[.int .i64 k, .int .i64 n, .slice a m c] T (0, 0))) (hT : IsT w F k n a m c t) : Kids w F (some ⟨g, 0, none⟩) 1 [t] := by
  refine .row g 0 1 _ (fun _ => a) (fun _ => c) (by simp) (by simp) hF ?_ ?_ ?_ ?_
  all_goals
    intro i hi
    obtain rfl : i = 0 := by simpa using hi
  · rw [block_cell h]; exact congrArg (fun x => some (Value.int .i64 x)) hT.ek
  · rw [block_cell h]; exact congrArg (fun x => some (Value.int .i64 x)) hT.en
  · rw [block_cell h]; exact congrArg (fun x => some (Value.slice a x c)) hT.em
  · exact hT.kids
theorem kids_twoT {w : World} {g : Nat} {k n k' n' : Int} {a a' : Option Addr} {m c m' c' : Nat} {T : TypeId} {F : Nat → Prop} {t u : Tr} (hF : F g) (h : w.heap[g]? = some (.cells #[.int .i64 k, .int .i64 n, .slice a m c, .int .i64 k', .int .i64 n', .slice a' m' c'] T (0, 0)))
    (hT : IsT w F k n a m c t) (hU : IsT w F k' n' a' m' c' u) : Kids w F (some ⟨g, 0, none⟩) 2 [t, u] := by
  refine .row g 0 2 _ (fun i => if i = 0 then a else a') (fun i => if i = 0 then c else c') (by simp) (by simp) hF ?_ ?_ ?_ ?_
  all_goals
    intro i hi
    obtain rfl | rfl : i = 0 ∨ i = 1 := by simp at hi; omega
  · rw [block_cell h]; exact congrArg (fun x => some (Value.int .i64 x)) hT.ek
  · rw [block_cell h]; exact congrArg (fun x => some (Value.int .i64 x)) hU.ek
  · rw [block_cell h]; exact congrArg (fun x => some (Value.int .i64 x)) hT.en
  · rw [block_cell h]; exact congrArg (fun x => some (Value.int .i64 x)) hU.en
  · rw [block_cell h]; exact congrArg (fun x => some (Value.slice a x c)) hT.em
  · rw [block_cell h]; exact congrArg (fun x => some (Value.slice a' x c')) hU.em
  · exact hT.kids
  · exact hU.kids
theorem isT_none (w : World) (F : Nat → Prop) {k n : Int} (hk : fits .i64 k) (hn : fits .i64 n) : IsT w F k n none 0 0 (.node k n []) := ⟨rfl, rfl, rfl, by simp only [Tr.Ok, Tr.OkL]; exact ⟨hk, hn, trivial⟩, .nil⟩
theorem isT_node {w : World} {F : Nat → Prop} {k n : Int} {a : Option Addr} {c : Nat} {ts : List Tr} (hk : fits .i64 k) (hn : fits .i64 n) (ho : ∀ t ∈ ts, t.Ok) (h : Kids w F a c ts) : IsT w F k n a ts.length c (.node k n ts) := ⟨rfl, rfl, rfl, by simp only [Tr.Ok]; exact ⟨hk, hn, Tr.okL_of ho⟩, h⟩
/-- A result: a new tree. -/
def GivesD (t : Tr) (w : World) (e : Ending) (w' : World) : Prop :=
  ∃ k n a m c, e = .returned (.agg #[.int .i64 k, .int .i64 n, .slice a m c]) ∧ IsT w' (Since w.heap.size) k n a m c t ∧ Below w.heap.size w w'
theorem fin3 {w wr : World} {x y z : Value} {T : TypeId} (hb : Below w.heap.size w wr) (hx : wr.heap[w.heap.size]? = some (.cells #[x, y, z] T (0, 0))) (x' y' z' : Value) :
    ∃ w', ((wr.setCell ⟨w.heap.size, 0, none⟩ x').setCell ⟨w.heap.size, 1, none⟩ y').setCell ⟨w.heap.size, 2, none⟩ z' = w' ∧ Below w.heap.size w w' ∧ w'.cell? ⟨w.heap.size, 0, none⟩ = some x' ∧ w'.cell? ⟨w.heap.size, 1, none⟩ = some y' ∧ w'.cell? ⟨w.heap.size, 2, none⟩ = some z' ∧ (∀ c, c ≠ w.heap.size → w'.heap[c]? = wr.heap[c]?) := by
  have h := set3 (x' := x') (y' := y') (z' := z') hx
  exact ⟨_, rfl, set3_below hb _ (Nat.le_refl _) _ _ _, block_cell h 0, block_cell h 1, block_cell h 2, fun c hc => set3_far wr w.heap.size _ _ _ c hc⟩
theorem box_fresh (W : World) (cs : Array Value) (T : TypeId) : ∃ W', W.alloc (.cells cs T) = W' ∧ Below W.heap.size W W' ∧ W'.heap[W.heap.size]? = some (.cells cs T (0, 0)) := ⟨_, rfl, (Below.refl _ _).alloc (Nat.le_refl _) _, block_new rfl⟩
theorem okF_sz {f n : Nat} (h : okF f n = true) : hasSz n = true := by
  cases f with
  | zero => cases h
  | succ f => unfold okF at h; rw [Bool.and_eq_true] at h; exact h.1
theorem zfacts {w : World} {b : Nat} {x y z : Value} {T : TypeId} (h : w.heap[b]? = some (.cells #[x, y, z] T (0, 0))) : w.cell? ⟨b, 0, none⟩ = some x ∧ w.cell? ⟨b, 1, none⟩ = some y ∧ w.cell? ⟨b, 2, none⟩ = some z ∧ w.frozen? ⟨b, 0, none⟩ = false ∧ w.frozen? ⟨b, 1, none⟩ = false ∧ w.frozen? ⟨b, 2, none⟩ = false :=
  ⟨block_cell h 0, block_cell h 1, block_cell h 2, block_free h 0, block_free h 1, block_free h 2⟩
theorem zbox (w : World) (T : TypeId) : ∃ W0, w.alloc (.cells #[.int .i64 0, .int .i64 0, .slice none 0 0] T) = W0 ∧ Below w.heap.size w W0 ∧ W0.heap[w.heap.size]? = some (.cells #[.int .i64 0, .int .i64 0, .slice none 0 0] T (0, 0)) := ⟨_, rfl, (Below.refl _ _).alloc (Nat.le_refl _) _, block_new rfl⟩
theorem cand_node (k n : Int) (a : Option Addr) (m c : Nat) (w : World) :
    Calls Tryz.prog 98 #[.int .i64 k, .int .i64 n, .slice a m c] w fun e w' => e = .returned (.agg #[.int .i64 k, .int .i64 n, .slice a m c]) ∧ Below w.heap.size w w' := by
  obtain ⟨W0, hW0, hb0, x0⟩ := zbox w 48
  obtain ⟨p0, p1, p2, f0, f1, f2⟩ := zfacts x0
  go_enter Tryz.func98, Tryz.ntmps98
  go_wp2_with fail
  obtain ⟨w', hw', hb, r0, r1, r2, _⟩ := fin3 hb0 x0 (.int .i64 k) (.int .i64 n) (.slice a m c)
  rw [hw']
  exact bodyPost_ret (v := .agg #[.int .i64 k, .int .i64 n, .slice a m c]) (by simp [results, Tryz.results98, go_sem, r0, r1, r2]) rfl ⟨rfl, hb⟩
end Go.Proofs.YtlnlijeamflpiaaGreat
namespace Go.Proofs.YtlnlijeamflpiaaGreat
open Go.RowKit
set_option linter.unusedVariables false
set_option linter.unusedSimpArgs false
set_option maxRecDepth 20000
theorem noKid_cases {n : Nat} (h1 : 1 ≤ n) (h : noKid n = true) : (2 ≤ n ∧ n ≤ 5 ∧ leafK n = 2) ∨ (n = 1 ∧ leafK n = 1) ∨ (6 ≤ n ∧ n ≤ 64 ∧ hasP2 n = false ∧ leafK n = 1) ∨ (6 ≤ n ∧ n ≤ 64 ∧ hasP2 n = true ∧ leafK n = 3) ∨ (65 ≤ n ∧ hasP2 n = true ∧ leafK n = 3) := by
  by_cases a : 2 ≤ n ∧ n ≤ 5
  · exact .inl ⟨a.1, a.2, if_pos a⟩
  by_cases b : n = 1
  · exact .inr (.inl ⟨b, by unfold leafK; rw [if_neg a, if_pos (.inl b)]⟩)
  cases hp : hasP2 n
  · by_cases c : n ≤ 64
    · exact .inr (.inr (.inl ⟨by omega, c, rfl, by unfold leafK; rw [if_neg a, if_pos (.inr ⟨c, hp⟩)]⟩))
    · exfalso
      have a' : ¬ (2 ≤ n ∧ n ≤ 5) := a
      unfold noKid at h
      rw [hp] at h
      simp at h
      omega
  · have e : leafK n = 3 := by unfold leafK; rw [if_neg a, if_neg (by rintro (x | ⟨_, x⟩); exact b x; rw [hp] at x; cases x)]
    by_cases c : n ≤ 64
    · exact .inr (.inr (.inr (.inl ⟨by omega, c, rfl, e⟩)))
    · exact .inr (.inr (.inr (.inr ⟨by omega, rfl, e⟩)))
theorem noKid_no {n : Nat} (h1 : 1 ≤ n) (h : noKid n = false) : 65 ≤ n ∧ hasP2 n = false := by
  unfold noKid at h
  cases hp : hasP2 n
  · rw [hp] at h
    simp at h
    exact ⟨by omega, rfl⟩
  · rw [hp] at h; simp at h
theorem fin_node {w wr : World} {x y z : Value} {T : TypeId} {k n : Int} {a : Option Addr} {m c : Nat} {t : Tr} (hb : Below w.heap.size w wr) (hx : wr.heap[w.heap.size]? = some (.cells #[x, y, z] T (0, 0))) (hT : IsT wr (Since (w.heap.size + 1)) k n a m c t) :
    ∃ w', ((wr.setCell ⟨w.heap.size, 0, none⟩ (.int .i64 k)).setCell ⟨w.heap.size, 1, none⟩ (.int .i64 n)).setCell ⟨w.heap.size, 2, none⟩ (.slice a m c) = w' ∧ Below w.heap.size w w' ∧ w'.cell? ⟨w.heap.size, 0, none⟩ = some (.int .i64 k) ∧ w'.cell? ⟨w.heap.size, 1, none⟩ = some (.int .i64 n) ∧ w'.cell? ⟨w.heap.size, 2, none⟩ = some (.slice a m c) ∧ IsT w' (Since w.heap.size) k n a m c t := by
  obtain ⟨w', h1, h2, h3, h4, h5, h6⟩ := fin3 hb hx (.int .i64 k) (.int .i64 n) (.slice a m c)
  exact ⟨w', h1, h2, h3, h4, h5, (hT.stay fun b hb _ => h6 b (by unfold Since at hb; omega)).mono fun b hb => by unfold Since at hb ⊢; omega⟩
theorem own_of_facts {n : Nat} (h1 : 1 ≤ n) (h2 : n ≤ 16777216) (hs : hasSz n = true) : isPr n = prB (facS n) := by rw [isPr_nat n h1 h2, fac_sz hs]
theorem okF_step {f n : Nat} (h : okF (f + 1) n = true) : hasSz n = true ∧ (noKid n = false → (prB (facS n) = true → okF f (n - 1) = true) ∧ (prB (facS n) = false → 1 ≤ (facS n).length ∧ 1 ≤ lastP (facS n) ∧ okF f (lastP (facS n)) = true ∧ okF f (n / lastP (facS n)) = true)) := by
  unfold okF at h
  rw [Bool.and_eq_true] at h
  refine ⟨h.1, fun hk => ⟨fun hp => ?_, fun hp => ?_⟩⟩
  · have := h.2; rw [hk, hp] at this; simpa using this
  · have := h.2; rw [hk, hp] at this
    simp only [Bool.false_eq_true, if_false, Bool.and_eq_true, decide_eq_true_eq] at this
    exact ⟨this.1.1.1, this.1.1.2, this.1.2, this.2⟩
theorem planF_leaf {f n : Nat} (h : noKid n = true) : planF (f + 1) n = .node (leafK n) n [] := by rw [planF, if_pos h]
theorem planF_one {f n : Nat} (h : noKid n = false) (hp : prB (facS n) = true) : planF (f + 1) n = .node 6 n [planF f (n - 1)] := by rw [planF, if_neg (by rw [h]; simp), if_pos hp]
theorem planF_two {f n : Nat} (h : noKid n = false) (hp : prB (facS n) = false) : planF (f + 1) n = .node 4 n [planF f (lastP (facS n)), planF f (n / lastP (facS n))] := by rw [planF, if_neg (by rw [h]; simp), if_neg (by rw [hp]; simp)]
theorem cellsP_last (ps : List (Nat × Nat)) (q : Nat) (h : ps.length = q + 1) : (cellsP ps)[q * 2]? = some (.int .i64 (lastP ps)) := by
  have := (cellsP_at ps q (by omega)).1
  rw [this]; unfold lastP; rw [show ps.length - 1 = q by omega]
theorem fac_few {n : Nat} (h : hasSz n = true) : (facS n).length ≤ 6 := by
  have := kids_sz h
  unfold kidsB at this
  simp only [Bool.and_eq_true, decide_eq_true_eq] at this
  exact this.1.1.2
theorem ok_two {t u : Tr} (h1 : t.Ok) (h2 : u.Ok) : ∀ x ∈ [t, u], x.Ok := by
  intro x hx
  rcases List.mem_cons.1 hx with rfl | hx
  · exact h1
  · rw [List.mem_singleton.1 hx]; exact h2
theorem undrew {w wa : World} (h : Below w.drew.heap.size w.drew wa) : Below w.heap.size w wa := chain (below_drewN (Below.refl _ _) _) h
theorem two_fin {w2 wa wb w4 : World} {cs : Array Value} {T : TypeId} (hba : Below w2.heap.size w2 wa) (hbb : Below wa.heap.size wa wb) (hb4 : Below (wb.alloc (.cells cs T)).heap.size (wb.alloc (.cells cs T)) w4) :
    Below w2.heap.size w2 w4 ∧ w4.heap[wb.heap.size]? = some (.cells cs T (0, 0)) ∧ w2.heap.size ≤ wb.heap.size ∧
    (∀ k n a m c t, IsT wa (Since w2.heap.size) k n a m c t → IsT w4 (Since w2.heap.size) k n a m c t) ∧ (∀ k n a m c t, IsT wb (Since wa.heap.size) k n a m c t → IsT w4 (Since w2.heap.size) k n a m c t) := by
  have hal : Below wb.heap.size wb (wb.alloc (.cells cs T)) := (Below.refl _ _).alloc (Nat.le_refl _) _
  have h1 := hba.size
  have h2 := hbb.size
  have h3 := chain hal hb4
  have hx : (wb.alloc (.cells cs T)).heap[wb.heap.size]? = some (.cells cs T (0, 0)) := block_new rfl
  exact ⟨chain hba (chain hbb h3), (hb4.block _ (block_lt hx)).trans hx, by omega, fun k n a m c t h => h.below (chain hbb h3), fun k n a m c t h => (h.below h3).mono fun b hb => by unfold Since at hb ⊢; omega⟩
theorem node_keep {w w2 wa wb w4 : World} {cs : Array Value} {T : TypeId} {o : Obj} (h2 : Below w.heap.size w w2) (hx : w2.heap[w.heap.size]? = some o) (hba : Below w2.heap.size w2 wa) (hbb : Below wa.heap.size wa wb) (hb4 : Below (wb.alloc (.cells cs T)).heap.size (wb.alloc (.cells cs T)) w4) : Below w.heap.size w w4 ∧ w4.heap[w.heap.size]? = some o := by
  obtain ⟨h, _⟩ := two_fin hba hbb hb4
  exact ⟨chain h2 h, (h.block _ (block_lt hx)).trans hx⟩
theorem cand_primes (N : Nat) (w : World) (h1 : 1 ≤ N) (h2 : N ≤ 16777216) :
    Calls Tryz.prog 122 #[.int .i64 N] w fun e w' => ∃ v, e = .returned v ∧ w'.ownsRow w.heap.size 126 2 v (facL N).length (cellsP (facL N)) ∧ Below w.heap.size w w' := by
  have C1 := Lib.hid (fact_Factors N w h1 h2)
  go_enter Tryz.func122, Tryz.ntmps122
  go_wp2_with fail
  refine C1.out.mono ?_; rintro e w1 ⟨v, rfl, hown, hb⟩
  have HO := Lib.hid hown
  have HB := Lib.hid hb
  obtain ⟨a, cap, rfl, _, _⟩ := own_slice2 hown
  clear hown hb
  go_wp2_with fail
  go_ret
  exact ⟨_, rfl, HO.out, HB.out⟩
set_option maxHeartbeats 2000000 in
theorem cand_plain (f : Nat) : ∀ (n : Nat) (w : World), okF f n = true → Calls Tryz.prog 99 #[.int .i64 n] w (GivesD (planF f n) w) := by
  induction f with
  | zero => intro n w h; cases h
  | succ f ih =>
    intro n w h
    have IH := Lib.hid ih
    clear ih
    obtain ⟨hsz, hrec⟩ := okF_step h
    clear h
    obtain ⟨i1, i2, _⟩ := hasSz_iff.1 hsz
    have h1 : 1 ≤ n := by omega
    have h2 : n ≤ 16777216 := by omega
    clear i1 i2
    obtain ⟨B, hB⟩ : ∃ B, hasP2 (n : Int) = B := ⟨_, rfl⟩
    have CP : Hid (∀ W, Calls Tryz.prog 121 #[.int .i64 n] W fun e w' => e = .returned (.bool B) ∧ W = w') := fun W => by rw [← hB]; exact stock_Has n W (by omega)
    have CS : Hid (∀ W, Calls Tryz.prog 120 #[.int .i64 n] W fun e w' => e = .returned (.bool (decide (n ≤ 5))) ∧ W = w') := fun W => by
      have := small_Has n W
      rwa [show decide (1 ≤ (n : Int) ∧ (n : Int) ≤ 5) = decide (n ≤ 5) by rw [decide_eq_decide]; omega] at this
    have HSZ := Lib.hid hsz
    clear hsz
    obtain ⟨W0, hW0, hb0, x0⟩ := zbox w 48
    have hs0 : Hid (W0.heap.size = w.heap.size + 1) := by unfold Hid; rw [← hW0]; simp
    obtain ⟨p0, p1, p2, f0, f1, f2⟩ := zfacts x0
    have HB0 := Lib.hid hb0
    have X0 := Lib.hid x0
    clear hb0 x0 p0 p1 p2 f0 f1 f2
    by_cases hk : noKid n = true
    · have HE0 : Hid (planF (f + 1) n = .node (leafK n) n []) := planF_leaf hk
      have hcs := noKid_cases h1 hk
      clear hk hrec
      rw [hB] at hcs
      rcases hcs with ⟨h3, h4, hl⟩ | ⟨h3, hl⟩ | ⟨h3, h4, hP, hl⟩ | ⟨h3, h4, hP, hl⟩ | ⟨h3, hP, hl⟩
      · have HE : Hid (planF (f + 1) n = .node 2 n []) := by unfold Hid; rw [HE0.out, hl]; first | rfl | done
        clear HE0 hl
        have s5 : decide (n ≤ 5) = true := by simp; omega
        go_enter Tryz.func99, Tryz.ntmps99
        go_wp2_with fail
        refine (CS.out _).mono ?_; rintro e w0 ⟨rfl, rfl⟩
        rw [s5]
        go_wp2_with fail
        refine (cand_node _ _ _ _ _ _).mono ?_; rintro e w1 ⟨rfl, hb1⟩
        have HB1 := Lib.hid (chain HB0.out hb1)
        have x1 := (hb1.block _ (block_lt X0.out)).trans X0.out
        obtain ⟨q0, q1, q2, g0, g1, g2⟩ := zfacts x1
        have X1 := Lib.hid x1
        clear hb1 x1
        go_wp2_with fail
        obtain ⟨w', hw', hb, r0, r1, r2, hT⟩ := fin_node HB1.out X1.out (isT_none _ _ (by rw [fits_i64]; omega) (by rw [fits_i64]; omega)) (k := 2) (n := (n : Int)) (a := none) (m := 0) (c := 0) (t := .node 2 n [])
        rw [hw']
        exact bodyPost_ret (v := .agg #[.int .i64 2, .int .i64 n, .slice none 0 0]) (by simp [results, Tryz.results99, go_sem, r0, r1, r2]) rfl ⟨_, _, _, _, _, rfl, by rw [HE.out]; exact hT, hb⟩

      · subst h3
        have HE : Hid (planF (f + 1) 1 = .node 1 1 []) := by unfold Hid; rw [HE0.out, hl]; first | rfl | done
        clear HE0 hl
        go_enter Tryz.func99, Tryz.ntmps99
        go_wp2_with fail
        refine (cand_node _ _ _ _ _ _).mono ?_; rintro e w1 ⟨rfl, hb1⟩
        have HB1 := Lib.hid (chain HB0.out hb1)
        have x1 := (hb1.block _ (block_lt X0.out)).trans X0.out
        obtain ⟨q0, q1, q2, g0, g1, g2⟩ := zfacts x1
        have X1 := Lib.hid x1
        clear hb1 x1
        go_wp2_with fail
        obtain ⟨w', hw', hb, r0, r1, r2, hT⟩ := fin_node HB1.out X1.out (isT_none _ _ (by rw [fits_i64]; omega) (by rw [fits_i64]; omega)) (k := 1) (n := 1) (a := none) (m := 0) (c := 0) (t := .node 1 1 [])
        rw [hw']
        exact bodyPost_ret (v := .agg #[.int .i64 1, .int .i64 1, .slice none 0 0]) (by simp [results, Tryz.results99, go_sem, r0, r1, r2]) rfl ⟨_, _, _, _, _, rfl, by rw [HE.out]; exact hT, hb⟩

      · have HE : Hid (planF (f + 1) n = .node 1 n []) := by unfold Hid; rw [HE0.out, hl]; first | rfl | done
        clear HE0 hl
        subst hP
        have s5 : decide (n ≤ 5) = false := by simp; omega
        have s1 : ((n : Int) == 1) = false := bno (by omega)
        go_enter Tryz.func99, Tryz.ntmps99
        go_wp2_with fail
        refine (CS.out _).mono ?_; rintro e w0 ⟨rfl, rfl⟩
        rw [s5]
        go_wp2_with fail
        refine (CP.out _).mono ?_; rintro e w0 ⟨rfl, rfl⟩
        go_wp2_with fail
        refine (cand_node _ _ _ _ _ _).mono ?_; rintro e w1 ⟨rfl, hb1⟩
        have HB1 := Lib.hid (chain HB0.out hb1)
        have x1 := (hb1.block _ (block_lt X0.out)).trans X0.out
        obtain ⟨q0, q1, q2, g0, g1, g2⟩ := zfacts x1
        have X1 := Lib.hid x1
        clear hb1 x1
        go_wp2_with fail
        obtain ⟨w', hw', hb, r0, r1, r2, hT⟩ := fin_node HB1.out X1.out (isT_none _ _ (by rw [fits_i64]; omega) (by rw [fits_i64]; omega)) (k := 1) (n := (n : Int)) (a := none) (m := 0) (c := 0) (t := .node 1 n [])
        rw [hw']
        exact bodyPost_ret (v := .agg #[.int .i64 1, .int .i64 n, .slice none 0 0]) (by simp [results, Tryz.results99, go_sem, r0, r1, r2]) rfl ⟨_, _, _, _, _, rfl, by rw [HE.out]; exact hT, hb⟩

      · have HE : Hid (planF (f + 1) n = .node 3 n []) := by unfold Hid; rw [HE0.out, hl]; first | rfl | done
        clear HE0 hl
        subst hP
        have s5 : decide (n ≤ 5) = false := by simp; omega
        have s1 : ((n : Int) == 1) = false := bno (by omega)
        go_enter Tryz.func99, Tryz.ntmps99
        go_wp2_with fail
        refine (CS.out _).mono ?_; rintro e w0 ⟨rfl, rfl⟩
        rw [s5]
        go_wp2_with fail
        refine (CP.out _).mono ?_; rintro e w0 ⟨rfl, rfl⟩
        go_wp2_with fail
        refine (CP.out _).mono ?_; rintro e w0 ⟨rfl, rfl⟩
        go_wp2_with fail
        refine (cand_node _ _ _ _ _ _).mono ?_; rintro e w1 ⟨rfl, hb1⟩
        have HB1 := Lib.hid (chain HB0.out hb1)
        have x1 := (hb1.block _ (block_lt X0.out)).trans X0.out
        obtain ⟨q0, q1, q2, g0, g1, g2⟩ := zfacts x1
        have X1 := Lib.hid x1
        clear hb1 x1
        go_wp2_with fail
        obtain ⟨w', hw', hb, r0, r1, r2, hT⟩ := fin_node HB1.out X1.out (isT_none _ _ (by rw [fits_i64]; omega) (by rw [fits_i64]; omega)) (k := 3) (n := (n : Int)) (a := none) (m := 0) (c := 0) (t := .node 3 n [])
        rw [hw']
        exact bodyPost_ret (v := .agg #[.int .i64 3, .int .i64 n, .slice none 0 0]) (by simp [results, Tryz.results99, go_sem, r0, r1, r2]) rfl ⟨_, _, _, _, _, rfl, by rw [HE.out]; exact hT, hb⟩

      · have HE : Hid (planF (f + 1) n = .node 3 n []) := by unfold Hid; rw [HE0.out, hl]; first | rfl | done
        clear HE0 hl
        subst hP
        have s5 : decide (n ≤ 5) = false := by simp; omega
        have s1 : ((n : Int) == 1) = false := bno (by omega)
        go_enter Tryz.func99, Tryz.ntmps99
        go_wp2_with fail
        refine (CS.out _).mono ?_; rintro e w0 ⟨rfl, rfl⟩
        rw [s5]
        go_wp2_with fail
        refine (CP.out _).mono ?_; rintro e w0 ⟨rfl, rfl⟩
        go_wp2_with fail
        refine (cand_node _ _ _ _ _ _).mono ?_; rintro e w1 ⟨rfl, hb1⟩
        have HB1 := Lib.hid (chain HB0.out hb1)
        have x1 := (hb1.block _ (block_lt X0.out)).trans X0.out
        obtain ⟨q0, q1, q2, g0, g1, g2⟩ := zfacts x1
        have X1 := Lib.hid x1
        clear hb1 x1
        go_wp2_with fail
        obtain ⟨w', hw', hb, r0, r1, r2, hT⟩ := fin_node HB1.out X1.out (isT_none _ _ (by rw [fits_i64]; omega) (by rw [fits_i64]; omega)) (k := 3) (n := (n : Int)) (a := none) (m := 0) (c := 0) (t := .node 3 n [])
        rw [hw']
        exact bodyPost_ret (v := .agg #[.int .i64 3, .int .i64 n, .slice none 0 0]) (by simp [results, Tryz.results99, go_sem, r0, r1, r2]) rfl ⟨_, _, _, _, _, rfl, by rw [HE.out]; exact hT, hb⟩

    · rw [Bool.not_eq_true] at hk
      obtain ⟨h65, hP⟩ := noKid_no h1 hk
      rw [hP] at hB
      subst hB
      have s5 : decide (n ≤ 5) = false := by simp; omega
      have s1 : ((n : Int) == 1) = false := bno (by omega)
      obtain ⟨Q, hQ⟩ : ∃ Q, prB (facS n) = Q := ⟨_, rfl⟩
      have CF : Hid (∀ W, Calls Tryz.prog 97 #[.int .i64 n] W fun e w' => e = .returned (.bool Q) ∧ Below W.heap.size W w') := fun W => by
        have := fact_Prime n W (by omega)
        rwa [own_of_facts h1 h2 HSZ.out, hQ] at this
      obtain ⟨hr1, hr2⟩ := hrec hk
      cases Q with
      | true =>
        have HE : Hid (planF (f + 1) n = .node 6 n [planF f (n - 1)]) := planF_one hk hQ
        have hok := hr1 hQ
        obtain ⟨m, hm⟩ : ∃ m, n - 1 = m := ⟨_, rfl⟩
        rw [hm] at HE hok
        have e1 : (n : Int) - 1 = (m : Nat) := by omega
        have CI : Hid (∀ W, Calls Tryz.prog 99 #[.int .i64 m] W (GivesD (planF f m) W)) := fun W => IH.out m W hok
        clear hr1 hr2 hrec hk hQ hP hok hm IH
        go_enter Tryz.func99, Tryz.ntmps99
        go_wp2_with fail
        refine (CS.out _).mono ?_; rintro e w0 ⟨rfl, rfl⟩
        rw [s5]
        go_wp2_with fail
        refine (CP.out _).mono ?_; rintro e w0 ⟨rfl, rfl⟩
        go_wp2_with fail
        refine (CF.out _).mono ?_; rintro e w1 ⟨rfl, hb1⟩
        have HB1 := Lib.hid (chain HB0.out hb1)
        have X1 := Lib.hid ((hb1.block _ (block_lt X0.out)).trans X0.out)
        have HS1 := Lib.hid hb1.size
        clear hb1
        go_wp2_with fail
        refine (CI.out _).mono ?_; rintro e w2 ⟨k', n', a', m', c', rfl, hT, hb2⟩
        obtain ⟨w3, hw3, hb3, x3⟩ := box_fresh w2 #[.int .i64 k', .int .i64 n', .slice a' m' c'] 48
        have HT3 : Hid (IsT w3 (Since (w.heap.size + 1)) k' n' a' m' c' (planF f m)) := (hT.below hb3).mono fun b hb => by unfold Since at hb ⊢; have := HS1.out; have := hs0.out; omega
        have HS2 := Lib.hid hb2.size
        have HB3 := Lib.hid (chain HB1.out (chain hb2 hb3))
        have X3 := Lib.hid (((chain hb2 hb3).block _ (block_lt X1.out)).trans X1.out)
        have HK := Lib.hid x3
        clear hT hb2 hb3 x3
        go_wp2_with fail
        refine (cand_node _ _ _ _ _ _).mono ?_; rintro e w4 ⟨rfl, hb4⟩
        have HB4 := Lib.hid (chain HB3.out hb4)
        have x4 := (hb4.block _ (block_lt X3.out)).trans X3.out
        have k4 := (hb4.block _ (block_lt HK.out)).trans HK.out
        have hT4 := HT3.out.below hb4
        obtain ⟨q0, q1, q2, g0, g1, g2⟩ := zfacts x4
        have hF : Since (w.heap.size + 1) w2.heap.size := by unfold Since; have := HS1.out; have := hs0.out; have := HS2.out; omega
        have hN := Lib.hid (isT_node (k := 6) (n := n) (by rw [fits_i64]; omega) (by rw [fits_i64]; omega) (by intro t ht; simp at ht; subst ht; exact hT4.ok) (kids_one hF k4 hT4))
        have X4 := Lib.hid x4
        clear x4 k4 hT4 hF hb4
        go_wp2_with fail
        obtain ⟨w', hw', hb, r0, r1, r2, hT⟩ := fin_node HB4.out X4.out hN.out
        simp only [List.length_singleton] at hw' r0 r1 r2 hT
        rw [hw']
        exact bodyPost_ret (v := .agg #[.int .i64 6, .int .i64 n, .slice (some ⟨w2.heap.size, 0, none⟩) 1 1]) (by simp [results, Tryz.results99, go_sem, r0, r1, r2]) rfl ⟨_, _, _, _, _, rfl, by rw [HE.out]; exact hT, hb⟩
      | false =>
        have HE : Hid (planF (f + 1) n = .node 4 n [planF f (lastP (facS n)), planF f (n / lastP (facS n))]) := planF_two hk hQ
        obtain ⟨hlen, hp1, hok1, hok2⟩ := hr2 hQ
        have CR : Hid (∀ W, Calls Tryz.prog 122 #[.int .i64 n] W fun e w' => ∃ v, e = .returned v ∧ w'.ownsRow W.heap.size 126 2 v (facS n).length (cellsP (facS n)) ∧ Below W.heap.size W w') := fun W => by
          have := cand_primes n W h1 h2
          rwa [fac_sz HSZ.out] at this
        obtain ⟨q, hq⟩ : ∃ q, (facS n).length = q + 1 := ⟨(facS n).length - 1, by omega⟩
        have HLC := Lib.hid (cellsP_last (facS n) q hq)
        have hq6 : q ≤ 5 := by have := fac_few HSZ.out; omega
        rw [hq] at CR
        obtain ⟨ps, hps⟩ : ∃ ps, facS n = ps := ⟨_, rfl⟩
        rw [hps] at HE CR HLC hok1 hok2 hp1
        obtain ⟨p, hp⟩ : ∃ p, lastP ps = p := ⟨_, rfl⟩
        rw [hp] at HE HLC hok1 hok2 hp1
        obtain ⟨d, hd⟩ : ∃ d, n / p = d := ⟨_, rfl⟩
        rw [hd] at HE hok2
        have e1 : (n : Int).tdiv (p : Int) = (d : Int) := by rw [Int.tdiv_eq_ediv_of_nonneg (by omega), ← Int.natCast_ediv, hd]
        have e2 : (n : Int) / (p : Int) = (d : Int) := by rw [← Int.natCast_ediv, hd]
        have z1 : ((p : Int) == 0) = false := bno (by omega)
        have z2 : ¬ (p : Int) = 0 := by omega
        have hdn : d ≤ n := by rw [← hd]; exact Nat.div_le_self n p
        have C1 : Hid (∀ W, Calls Tryz.prog 99 #[.int .i64 p] W (GivesD (planF f p) W)) := fun W => IH.out p W hok1
        have C2 : Hid (∀ W, Calls Tryz.prog 99 #[.int .i64 d] W (GivesD (planF f d) W)) := fun W => IH.out d W hok2
        have hpp : p ≤ 16777216 := by
          have := (hasSz_iff.1 (okF_sz hok1)).2.1
          omega
        have hd9 : d ≤ 16777216 := by omega
        have e3 : IntKind.i64.wrap ((n : Int).tdiv (p : Int)) = (d : Int) := by rw [e1]; exact IntWalk.i64_in _ (by omega)
        have e4 : wrap64 (d : Int) = d := by rw [← IntWalk.i64_left]; exact IntWalk.i64_in _ (by omega)
        have p0 : (0 : Int) < p := by omega
        have n0 : (0 : Int) ≤ n := by omega
        clear hr1 hr2 hrec hk hQ hP hok1 hok2 hps hp hd IH hlen hq
        go_enter Tryz.func99, Tryz.ntmps99
        go_wp2_with fail
        refine (CS.out _).mono ?_; rintro e w0 ⟨rfl, rfl⟩
        rw [s5]
        go_wp2_with fail
        refine (CP.out _).mono ?_; rintro e w0 ⟨rfl, rfl⟩
        go_wp2_with fail
        refine (CF.out _).mono ?_; rintro e w1 ⟨rfl, hb1⟩
        have HB1 := Lib.hid (chain HB0.out hb1)
        have X1 := Lib.hid ((hb1.block _ (block_lt X0.out)).trans X0.out)
        have HS1 := Lib.hid hb1.size
        clear hb1
        go_wp2_with fail
        refine (CR.out _).mono ?_; rintro e w2 ⟨v, rfl, hown, hb2⟩
        obtain ⟨a, cap, rfl, hcap, hg⟩ := own_slice2 hown
        obtain ⟨g, rfl⟩ := hg (by omega)
        have hc : w2.cell? ⟨g, q * 2, none⟩ = some (.int .i64 (p : Int)) := (hown.cellAt (q * 2) (by omega)).trans HLC.out
        have HB2 := Lib.hid (chain HB1.out hb2)
        have X2 := Lib.hid ((hb2.block _ (block_lt X1.out)).trans X1.out)
        have HS2 : Hid (w.heap.size + 1 ≤ w2.heap.size) := by have := HS1.out; have := hs0.out; have := hb2.size; unfold Hid; omega
        clear hb2 hown
        go_wp2_with fail
        go_region_held (fun _ => True) (trivial) (first
          | (go_at_call 99; first
            | ((with_reducible refine (C1.out _).mono ?_); rintro e wa ⟨ka, na, aa, ma, ca, rfl, hTa, hba⟩; have hba := undrew hba)
            | ((with_reducible refine (C2.out _).mono ?_); rintro e wb ⟨kb, nb, ab, mb, cb, rfl, hTb, hbb⟩))
          | (go_at_call 98; (with_reducible refine (cand_node _ _ _ _ _ _).mono ?_); rintro e w4 ⟨rfl, hb4⟩; have hx4 := (by first | exact node_keep HB2.out X2.out hba hbb hb4 | exact node_keep HB2.out X2.out hbb hba hb4); obtain ⟨q0, q1, q2, g0, g1, g2⟩ := zfacts hx4.2))
        all_goals
          go_wp2_with fail
          obtain ⟨_, k4, hbs, hA, hB⟩ := two_fin hba hbb hb4
          have hTA := (hA _ _ _ _ _ _ hTa).mono (G := Since (w.heap.size + 1)) fun b hb => by unfold Since at hb ⊢; have := HS2.out; omega
          have hTB := (hB _ _ _ _ _ _ hTb).mono (G := Since (w.heap.size + 1)) fun b hb => by unfold Since at hb ⊢; have := HS2.out; omega
          have hN := isT_node (k := 4) (n := n) (by rw [fits_i64]; omega) (by rw [fits_i64]; omega) (ok_two hTA.ok hTB.ok) (kids_twoT (show Since (w.heap.size + 1) wb.heap.size by unfold Since; have := HS2.out; omega) k4 hTA hTB)
          obtain ⟨w', hw', hb, r0, r1, r2, hT⟩ := fin_node hx4.1 hx4.2 hN
          simp only [List.length_cons, List.length_nil, Nat.zero_add, Nat.reduceAdd] at hw' r0 r1 r2 hT
          rw [hw']
          exact bodyPost_ret (v := .agg #[.int .i64 4, .int .i64 n, .slice (some ⟨wb.heap.size, 0, none⟩) 2 2]) (by simp [results, Tryz.results99, go_sem, r0, r1, r2]) rfl ⟨_, _, _, _, _, rfl, by rw [HE.out]; exact hT, hb⟩
end Go.Proofs.YtlnlijeamflpiaaGreat

namespace Go.Proofs.YtlnlijeamflpiaaGreat
open Go.RowKit
set_option linter.unusedVariables false
set_option linter.unusedSimpArgs false
set_option maxRecDepth 100000
set_option maxRecDepth 20000
theorem Kids.inn {w : World} {F : Nat → Prop} {a : Option Addr} {cap : Nat} {ks : List Tr} (h : Kids w F a cap ks) : Kids w (fun b => F b ∧ b < w.heap.size) a cap ks := by
  induction h with
  | nil => exact .nil
  | empty a cap => exact .empty a cap
  | row b off cap ks A C hpos hl hF h0 h1 h2 _ ih => exact .row b off cap ks A C hpos hl ⟨hF, World.block_lt_of_cell? w _ (h0 0 hpos)⟩ h0 h1 h2 ih
theorem IsT.inn {w : World} {F : Nat → Prop} {k n : Int} {a : Option Addr} {m cap : Nat} {t : Tr} (h : IsT w F k n a m cap t) : IsT w (fun b => F b ∧ b < w.heap.size) k n a m cap t := ⟨h.ek, h.en, h.em, h.ok, h.kids.inn⟩
theorem CellsT.inn {w : World} {F : Nat → Prop} {xs : List Value} {ts : List Tr} (h : CellsT w F xs ts) : CellsT w (fun b => F b ∧ b < w.heap.size) xs ts := by
  induction h with
  | nil => exact .nil
  | cons h _ ih => exact .cons h.inn ih
/-- Blocks from B on, but for the two rows' own. -/
def Off (B : Nat) (v u : Value) (b : Nat) : Prop := B ≤ b ∧ v.ownBlock ≠ some b ∧ u.ownBlock ≠ some b
/-- Two rows that the call owns read as trees. -/
def TwoT (w : World) (B : Nat) (v u : Value) (ts us : List Tr) : Prop :=
  ∃ xs ys, w.ownsRow B 48 3 v ts.length xs ∧ w.ownsRow B 48 3 u us.length ys ∧ CellsT w (Off B v u) xs ts ∧ CellsT w (Off B v u) ys us ∧ (v.ownBlock = none ∨ v.ownBlock ≠ u.ownBlock)
def noRow : Value := .slice none 0 0
theorem TwoT.below {w w' : World} {B : Nat} {v u : Value} {ts us : List Tr} (h : TwoT w B v u ts us) (hb : Below w.heap.size w w') : TwoT w' B v u ts us := by
  obtain ⟨xs, ys, h1, h2, h3, h4, h5⟩ := h
  exact ⟨xs, ys, own_later3 h1 hb, own_later3 h2 hb, h3.later hb, h4.later hb, h5⟩
theorem TwoT.swap {w : World} {B : Nat} {v u : Value} {ts us : List Tr} (h : TwoT w B v u ts us) : TwoT w B u v us ts := by
  obtain ⟨xs, ys, h1, h2, h3, h4, h5⟩ := h
  exact ⟨ys, xs, h2, h1, h4.mono fun b hb => ⟨hb.1, hb.2.2, hb.2.1⟩, h3.mono fun b hb => ⟨hb.1, hb.2.2, hb.2.1⟩, by rcases h5 with h5 | h5 <;> (cases hu : u.ownBlock <;> simp_all <;> exact fun e => h5 e.symm)⟩
theorem TwoT.none (w : World) (B : Nat) : TwoT w B noRow noRow [] [] := ⟨[], [], World.ownsRow_nil _ _ _ _, World.ownsRow_nil _ _ _ _, .nil, .nil, .inl rfl⟩
theorem TwoT.len {w : World} {B : Nat} {v u : Value} {ts us : List Tr} (h : TwoT w B v u ts us) : ∃ a cap, v = .slice a ts.length cap := by
  obtain ⟨xs, ys, h1, _⟩ := h
  obtain ⟨a, cap, h, _⟩ := own_slice2 h1
  exact ⟨a, cap, h⟩
theorem TwoT.row {w : World} {B : Nat} {v : Value} {ts : List Tr} (h : TwoT w B v noRow ts []) : ∃ a cap, v = .slice a ts.length cap ∧ Kids w (fun _ => True) a cap ts ∧ (∀ t ∈ ts, t.Ok) := by
  obtain ⟨xs, ys, h1, _, h3, _⟩ := h
  obtain ⟨a, cap, rfl, _⟩ := own_slice2 h1
  exact ⟨a, cap, rfl, kids_of_own h1 h3 rfl (fun _ _ => trivial) (fun _ _ => trivial), h3.ok⟩
theorem own_mono {w : World} {B B' : Nat} {e : TypeId} {s : Nat} {v : Value} {n : Nat} {xs : List Value} (hB : B ≤ B') (h : w.ownsRow B' e s v n xs) : w.ownsRow B e s v n xs :=
  ⟨h.1, h.2.imp id fun ⟨g, cap, cur, h1, h2, h3⟩ => ⟨g, cap, cur, h1, Nat.le_trans hB h2, h3⟩⟩
/-- A row and a later one. -/
theorem TwoT.join {w w1 w2 : World} {B : Nat} {v u : Value} {ts us : List Tr} (hB : B ≤ w1.heap.size) (h : TwoT w1 B v noRow ts []) (hb : Below w1.heap.size w1 w2) (h2 : TwoT w2 w1.heap.size u noRow us []) : TwoT w2 B v u ts us := by
  obtain ⟨xs, _, g1, _, g3, _⟩ := h
  obtain ⟨ys, _, k1, _, k3, _⟩ := h2
  have hu : ∀ g, u.ownBlock = some g → w1.heap.size ≤ g := fun g hg => (k1.lt g hg).1
  have hv : ∀ g, v.ownBlock = some g → g < w1.heap.size := fun g hg => (g1.lt g hg).2
  refine ⟨xs, ys, own_later3 g1 hb, own_mono hB k1, (g3.inn.later hb).mono fun b hb => ⟨hb.1.1, hb.1.2.1, fun e => ?_⟩, k3.mono fun b hb => ⟨Nat.le_trans hB hb.1, fun e => ?_, hb.2.1⟩, ?_⟩
  · have := hu b e; have := hb.2; omega
  · have := hv b e; have := hb.1; omega
  · cases hvo : v.ownBlock with
    | none => exact .inl rfl
    | some g => refine .inr fun e => ?_; have := hv g hvo; have := hu g e.symm; omega
/-- Behind an append to the first row: the trees are where they were. -/
theorem twoT_grown {wn W w' : World} {B : Nat} {v u v' : Value} {k : Nat} (hW : ∀ b, b < wn.heap.size → W.heap[b]? = wn.heap[b]?) (hs : wn.heap.size ≤ W.heap.size) (hg : W.grownBy w' v.ownBlock) (hor : v'.ownBlock = v.ownBlock ∨ v'.ownBlock = some W.heap.size) {xs : List Value} {ts : List Tr} (h : CellsT wn (Off B v u) xs ts) : CellsT w' (Off B v' u) xs ts := by
  refine (h.inn.stay (w' := w') fun b hb _ => (hg.block b (by have := hb.2; omega) (Ne.symm hb.1.2.1)).trans (hW b hb.2)).mono fun b hb => ⟨hb.1.1, ?_, hb.1.2.2⟩
  rcases hor with e | e
  · rw [e]; exact hb.1.2.1
  · rw [e]; intro e; have := hb.2; injection e with e; omega
theorem step_push {ops : Array Oper} {o : Oper} {a : Act} {K : Act → World → Prop} {Q : Exit → Act → World → Prop} {E : Prop} (hgd : o.guard = none) (s x : Operand)
    (ho : o.op = .call { callee := .builtin .append, args := #[s, x], argTypes := #[43, 43] })
    (wn : World) (B : Nat) (v u : Value) (ts us : List Tr) (k n : Int) (b : Option Addr) (m c : Nat) (t : Tr) (hs : a.eval s = v) (hx : a.eval x = .slice (some ⟨wn.heap.size, 0, none⟩) 1 1)
    (hR : TwoT wn B v u ts us) (hT : IsT wn (Off B v u) k n b m c t) (hlen : ts.length ≤ 4000000) (hB : B ≤ wn.heap.size)
    (h : ∀ v' w', TwoT w' B v' u (ts ++ [t]) us → (wn.alloc (.cells #[.int .i64 k, .int .i64 n, .slice b m c] 48)).grownBy w' v.ownBlock → (∀ g, v.ownBlock = some g → B ≤ g) → K (a.put o.dst v') w') :
    if Region.wanted o (yielded ops a.tmps) = true then Oper.wp Tryz.prog o a (wn.alloc (.cells #[.int .i64 k, .int .i64 n, .slice b m c] 48)) K Q else E := by
  obtain ⟨i0, hi, hz0, hz1, hz2⟩ := info_parts info_desc
  obtain ⟨xs, ys, h1, h2, h3, h4, h5⟩ := hR
  have e0 : ∀ b', b' < wn.heap.size → (wn.alloc (.cells #[.int .i64 k, .int .i64 n, .slice b m c] 48)).heap[b']? = wn.heap[b']? := fun b' hb' => heap_alloc_old _ _ hb'
  have es : (wn.alloc (.cells #[.int .i64 k, .int .i64 n, .slice b m c] 48)).heap.size = wn.heap.size + 1 := by simp
  refine step_append_lies _ hgd s x 43 ho B 48 i0 _ 3 40 Tryz.underlying43 hi hz0 hz1 hz2 rfl (by omega) v ts.length xs hs (h1.alloc _) ⟨wn.heap.size, 0, none⟩ 1 1 [.int .i64 k, .int .i64 n, .slice b m c] hx rfl (cell_three_new _ _ _ _ _) (one_three _ _ _ _ _) (by omega) (by unfold maxLen; omega) (by omega) (by omega) _ rfl ?_
  intro g cap w' hown hgrow hor hlt
  have hor' : (Value.slice (some ⟨g, 0, none⟩) (ts.length + 1) cap).ownBlock = v.ownBlock ∨ (Value.slice (some ⟨g, 0, none⟩) (ts.length + 1) cap).ownBlock = some (wn.alloc (.cells #[.int .i64 k, .int .i64 n, .slice b m c] 48)).heap.size := by
    rcases hor with e | e
    · exact .inl e.symm
    · exact .inr (by rw [e]; rfl)
  have hun : u.ownBlock = .none ∨ u.ownBlock ≠ v.ownBlock := by
    rcases h5 with h5 | h5
    · cases hu : u.ownBlock with
      | none => exact .inl rfl
      | some g => exact .inr (by rw [h5]; simp)
    · exact .inr (Ne.symm h5)
  refine h _ w' ⟨xs ++ [.int .i64 k, .int .i64 n, .slice b m c], ys, by rw [List.length_append, List.length_singleton]; exact hown, (h2.alloc _).kept hgrow hun, (twoT_grown (k := 0) e0 (by omega) hgrow hor' h3).append (twoT_grown (k := 0) e0 (by omega) hgrow hor' (.one hT)), twoT_grown (k := 0) e0 (by omega) hgrow hor' h4, .inr fun e => ?_⟩ hgrow (fun g hg => (h1.lt g hg).1)
  rcases hor with e2 | e2
  · rcases h5 with h5 | h5
    · rw [h5] at e2; cases e2
    · exact h5 (e2.trans e)
  · have := (h2.lt g e.symm).2
    rw [e2, es] at this
    omega
theorem wpList_push {ops : Array Oper} {rest : List Oper} {o : Oper} {a : Act} {Q : Exit → Act → World → Prop} (hgd : o.guard = none) (s x : Operand)
    (ho : o.op = .call { callee := .builtin .append, args := #[s, x], argTypes := #[43, 43] })
    (wn : World) (B : Nat) (v u : Value) (ts us : List Tr) (k n : Int) (b : Option Addr) (m c : Nat) (t : Tr) (hs : a.eval s = v) (hx : a.eval x = .slice (some ⟨wn.heap.size, 0, none⟩) 1 1)
    (hR : TwoT wn B v u ts us) (hT : IsT wn (Off B v u) k n b m c t) (hlen : ts.length ≤ 4000000) (hB : B ≤ wn.heap.size)
    (h : ∀ v' w', TwoT w' B v' u (ts ++ [t]) us → (wn.alloc (.cells #[.int .i64 k, .int .i64 n, .slice b m c] 48)).grownBy w' v.ownBlock → (∀ g, v.ownBlock = some g → B ≤ g) → wpList Tryz.prog ops Q rest (a.put o.dst v') w') :
    wpList Tryz.prog ops Q (o :: rest) a (wn.alloc (.cells #[.int .i64 k, .int .i64 n, .slice b m c] 48)) := by
  refine wpList_plain hgd fun K hK => ?_
  have := step_push (ops := ops) (K := K) (Q := Q) (E := True) hgd s x ho wn B v u ts us k n b m c t hs hx hR hT hlen hB (fun v' w' h1 h2 h3 => hK _ _ (h v' w' h1 h2 h3))
  rwa [if_pos (by simp [Region.wanted, hgd])] at this
/-- append of the second row to the first. -/
theorem wpList_both {ops : Array Oper} {rest : List Oper} {o : Oper} {a : Act} {Q : Exit → Act → World → Prop} (hgd : o.guard = none) (s x : Operand)
    (ho : o.op = .call { callee := .builtin .append, args := #[s, x], argTypes := #[43, 43] })
    (wn : World) (B : Nat) (v u : Value) (ts us : List Tr) (hs : a.eval s = v) (hx : a.eval x = u) (hR : TwoT wn B v u ts us) (hlen : ts.length + us.length ≤ 4000000) (hB : B ≤ wn.heap.size)
    (h : ∀ v' w', TwoT w' B v' noRow (ts ++ us) [] → wn.grownBy w' v.ownBlock → (∀ g, v.ownBlock = some g → B ≤ g) → wpList Tryz.prog ops Q rest (a.put o.dst v') w') :
    wpList Tryz.prog ops Q (o :: rest) a wn := by
  obtain ⟨i0, hi, hz0, hz1, hz2⟩ := info_parts info_desc
  obtain ⟨xs, ys, h1, h2, h3, h4, h5⟩ := hR
  refine wpList_append_two wn hgd s x 43 ho B 48 i0 _ 3 40 Tryz.underlying43 hi hz0 hz1 hz2 rfl (by decide) v ts.length xs hs h1 B u us.length ys hx h2 h4.oneCell (by unfold maxLen; omega) (by omega) hB ?_
  intro v' w' hown hgrow hor
  have hc := twoT_grown (k := 0) (fun _ _ => rfl) (Nat.le_refl _) hgrow hor (h3.append h4)
  exact h v' w' ⟨xs ++ ys, [], by rw [List.length_append]; exact hown, World.ownsRow_nil _ _ _ _, hc.mono fun b hb => ⟨hb.1, hb.2.1, by simp [noRow, Value.ownBlock]⟩, .nil, by cases hv : v'.ownBlock <;> simp [noRow, Value.ownBlock]⟩ hgrow (fun g hg => (h1.lt g hg).1)
/-- A result: a new row of trees. -/
def GivesTs (ts : List Tr) (w : World) (e : Ending) (w' : World) : Prop := ∃ v, e = .returned v ∧ TwoT w' w.heap.size v noRow ts [] ∧ Below w.heap.size w w'
end Go.Proofs.YtlnlijeamflpiaaGreat

namespace Go.Proofs.YtlnlijeamflpiaaGreat
open Go.RowKit
set_option linter.unusedVariables false
set_option linter.unusedSimpArgs false
set_option maxRecDepth 100000
set_option maxRecDepth 20000
theorem TwoT.off {w : World} {B : Nat} {v u : Value} {ts us : List Tr} (h : TwoT w B v u ts us) (hB : B ≤ w.heap.size) (b : Nat) (hb : w.heap.size ≤ b) : Off B v u b := by
  obtain ⟨xs, ys, h1, h2, _⟩ := h
  refine ⟨Nat.le_trans hB hb, fun e => ?_, fun e => ?_⟩
  · have := (h1.lt b e).2; omega
  · have := (h2.lt b e).2; omega
theorem node_two {w2 wa wb w4 : World} {ka na kb nb : Int} {aa ab : Option Addr} {ma ca mb cb : Nat} {T : TypeId} {t u : Tr} (K n : Nat) (hK : K ≤ 7) (hn : n ≤ 16777216) (hba : Below w2.heap.size w2 wa) (hTa : IsT wa (Since w2.heap.size) ka na aa ma ca t) (hbb : Below wa.heap.size wa wb) (hTb : IsT wb (Since wa.heap.size) kb nb ab mb cb u)
    (hb4 : Below (wb.alloc (.cells #[.int .i64 ka, .int .i64 na, .slice aa ma ca, .int .i64 kb, .int .i64 nb, .slice ab mb cb] T)).heap.size (wb.alloc (.cells #[.int .i64 ka, .int .i64 na, .slice aa ma ca, .int .i64 kb, .int .i64 nb, .slice ab mb cb] T)) w4) :
    Below w2.heap.size w2 w4 ∧ IsT w4 (Since w2.heap.size) K n (some ⟨wb.heap.size, 0, none⟩) 2 2 (.node K n [t, u]) := by
  obtain ⟨hb, k4, hbs, hA, hB⟩ := two_fin hba hbb hb4
  have hTA := hA _ _ _ _ _ _ hTa
  have hTB := hB _ _ _ _ _ _ hTb
  exact ⟨hb, isT_node (k := K) (n := n) (by rw [fits_i64]; omega) (by rw [fits_i64]; omega) (ok_two hTA.ok hTB.ok) (kids_twoT hbs k4 hTA hTB)⟩
theorem node_one {w2 wa w4 : World} {ka na : Int} {aa : Option Addr} {ma ca : Nat} {T : TypeId} {t : Tr} (K n : Nat) (hK : K ≤ 7) (hn : n ≤ 16777216) (hba : Below w2.heap.size w2 wa) (hTa : IsT wa (Since w2.heap.size) ka na aa ma ca t)
    (hb4 : Below (wa.alloc (.cells #[.int .i64 ka, .int .i64 na, .slice aa ma ca] T)).heap.size (wa.alloc (.cells #[.int .i64 ka, .int .i64 na, .slice aa ma ca] T)) w4) :
    Below w2.heap.size w2 w4 ∧ IsT w4 (Since w2.heap.size) K n (some ⟨wa.heap.size, 0, none⟩) 1 1 (.node K n [t]) := by
  have hal : Below wa.heap.size wa (wa.alloc (.cells #[.int .i64 ka, .int .i64 na, .slice aa ma ca] T)) := (Below.refl _ _).alloc (Nat.le_refl _) _
  have hx : (wa.alloc (.cells #[.int .i64 ka, .int .i64 na, .slice aa ma ca] T)).heap[wa.heap.size]? = some (.cells #[.int .i64 ka, .int .i64 na, .slice aa ma ca] T (0, 0)) := block_new rfl
  have h3 := chain hal hb4
  have hTA := hTa.below h3
  exact ⟨chain hba h3, isT_node (k := K) (n := n) (by rw [fits_i64]; omega) (by rw [fits_i64]; omega) (by intro x hx; rw [List.mem_singleton.1 hx]; exact hTA.ok) (kids_one hba.size ((hb4.block _ (block_lt hx)).trans hx) hTA)⟩
theorem splitT_len (n : Nat) (p : Nat × Nat) : (splitT n p).length ≤ 1 := by unfold splitT; split <;> simp
theorem goodT_len (n : Nat) (p : Nat × Nat) : (goodT n p).length ≤ 1 := by unfold goodT; split <;> simp
theorem splitsT_len (n : Nat) (ps : List (Nat × Nat)) : (splitsT n ps).length ≤ ps.length := by
  induction ps with
  | nil => simp [splitsT]
  | cons p ps ih => have := splitT_len n p; simp only [splitsT, List.flatMap_cons, List.length_append, List.length_cons] at *; omega
theorem goodsT_len (n : Nat) (ps : List (Nat × Nat)) : (goodsT n ps).length ≤ ps.length := by
  induction ps with
  | nil => simp [goodsT]
  | cons p ps ih => have := goodT_len n p; simp only [goodsT, List.flatMap_cons, List.length_append, List.length_cons] at *; omega
theorem take_snoc {α : Type} (ps : List α) (j : Nat) (d : α) (h : j < ps.length) : ps.take (j + 1) = ps.take j ++ [ps.getD j d] := by
  rw [List.take_succ_eq_append_getElem h]
  simp [h]
theorem splitsT_step (n : Nat) (ps : List (Nat × Nat)) (j : Nat) (h : j < ps.length) : splitsT n (ps.take (j + 1)) = splitsT n (ps.take j) ++ splitT n (ps.getD j (0, 0)) := by
  rw [take_snoc ps j (0, 0) h]; simp [splitsT]
theorem goodsT_step (n : Nat) (ps : List (Nat × Nat)) (j : Nat) (h : j < ps.length) : goodsT n (ps.take (j + 1)) = goodsT n (ps.take j) ++ goodT n (ps.getD j (0, 0)) := by
  rw [take_snoc ps j (0, 0) h]; simp [goodsT]
/-- What is known of a prime of a size. -/
theorem prime_sz {n : Nat} (h : hasSz n = true) (j : Nat) (hj : j < (facS n).length) (p e : Nat) (hp : (facS n).getD j (0, 0) = (p, e)) : 1 ≤ p ∧ p ≤ n ∧ e ≤ 24 ∧ 1 ≤ p ^ e ∧ p ^ e ≤ n ∧ okF 10 p = true ∧ okF 10 (n / p) = true ∧ okF 10 (p ^ e) = true ∧ okF 10 (n / p ^ e) = true := by
  have hk := kids_sz h
  unfold kidsB at hk
  simp only [Bool.and_eq_true] at hk
  have := List.all_eq_true.1 hk.1.1.1.2 (p, e) (by
    have e : (facS n).getD j (0, 0) = (facS n)[j] := by simp [hj]
    rw [← hp, e]; exact List.getElem_mem hj)
  simp only [Bool.and_eq_true, decide_eq_true_eq] at this
  exact ⟨this.1.1.1.1.1.1.1.1.1, this.1.1.1.1.1.1.1.1.2, this.1.1.1.1.1.1.1.2, this.1.1.1.1.1.1.2, this.1.1.1.1.1.2, this.1.1.1.1.2, this.1.1.1.2, this.1.1.2, this.1.2⟩
set_option maxHeartbeats 4000000 in
theorem cand_leaves (n : Nat) (w : World) (h1 : 1 ≤ n) (h2 : n ≤ 16777216) : Calls Tryz.prog 95 #[.int .i64 n] w (GivesTs (leavesT n) w) := by
  obtain ⟨B, hB⟩ : ∃ B, hasP2 (n : Int) = B := ⟨_, rfl⟩
  have CP : Hid (∀ W, Calls Tryz.prog 121 #[.int .i64 n] W fun e w' => e = .returned (.bool B) ∧ W = w') := fun W => by rw [← hB]; exact stock_Has n W (by omega)
  have CS : Hid (∀ W, Calls Tryz.prog 120 #[.int .i64 n] W fun e w' => e = .returned (.bool (decide (n ≤ 5))) ∧ W = w') := fun W => by
    have := small_Has n W
    rwa [show decide (1 ≤ (n : Int) ∧ (n : Int) ≤ 5) = decide (n ≤ 5) by rw [decide_eq_decide]; omega] at this
  rcases (show n = 1 ∨ (2 ≤ n ∧ n ≤ 5) ∨ (6 ≤ n ∧ n ≤ 64) ∨ 65 ≤ n by omega) with h3 | ⟨h3, h4⟩ | ⟨h3, h4⟩ | h3
  · subst h3
    have HE : Hid (leavesT 1 = [.node 1 (1 : Nat) []]) := by unfold Hid leavesT; simp
    clear hB
    go_enter Tryz.func95, Tryz.ntmps95
    go_wp2_with fail
    refine (cand_node _ _ _ _ _ _).mono ?_; rintro e n1 ⟨rfl, hn1⟩
    have hb1a := hn1
    have hR1a := TwoT.none n1 w.heap.size
    clear hn1
    go_wp2_with (at_builtin; refine wpList_push rfl _ _ rfl n1 w.heap.size noRow noRow [] [] 1 1 none 0 0 (.node 1 1 []) rfl rfl hR1a (isT_none _ _ (by rw [fits_i64]; omega) (by rw [fits_i64]; omega)) (by simp) hb1a.size ?_)
    intro v1 w1 hR1 hg1 hl1
    have hb1 := below_grown hb1a hb1a.size hl1 hg1
    clear hb1a hR1a hg1 hl1
    go_wp2_with fail
    go_ret
    exact ⟨_, rfl, by rw [HE.out]; exact hR1, hb1⟩
  · cases B
    · have HE : Hid (leavesT n = [.node 1 (n : Nat) [], .node 2 (n : Nat) []]) := by unfold Hid leavesT; rw [hB, if_pos (show n ≤ 64 by omega), if_pos (show 2 ≤ n ∧ n ≤ 5 by omega), if_neg (show ¬ (2 ≤ n ∧ false = true) by simp)]; rfl
      clear hB
      have s5 : decide (n ≤ 5) = true := by simp; omega
      go_enter Tryz.func95, Tryz.ntmps95
      go_wp2_with fail
      refine (cand_node _ _ _ _ _ _).mono ?_; rintro e n1 ⟨rfl, hn1⟩
      have hb1a := hn1
      have hR1a := TwoT.none n1 w.heap.size
      clear hn1
      go_wp2_with (at_builtin; refine wpList_push rfl _ _ rfl n1 w.heap.size noRow noRow [] [] 1 n none 0 0 (.node 1 n []) rfl rfl hR1a (isT_none _ _ (by rw [fits_i64]; omega) (by rw [fits_i64]; omega)) (by simp) hb1a.size ?_)
      intro v1 w1 hR1 hg1 hl1
      have hb1 := below_grown hb1a hb1a.size hl1 hg1
      clear hb1a hR1a hg1 hl1
      go_wp2_with fail
      refine (CS.out _).mono ?_; rintro e s1 ⟨rfl, rfl⟩
      rw [s5]
      go_wp2_with fail
      refine (cand_node _ _ _ _ _ _).mono ?_; rintro e n2 ⟨rfl, hn2⟩
      have hb2a := chain hb1 hn2
      have hR2a := hR1.below hn2
      clear hn2
      go_wp2_with (at_builtin; refine wpList_push rfl _ _ rfl n2 w.heap.size v1 noRow [.node 1 n []] [] 2 n none 0 0 (.node 2 n []) rfl rfl hR2a (isT_none _ _ (by rw [fits_i64]; omega) (by rw [fits_i64]; omega)) (by simp) hb2a.size ?_)
      intro v2 w2 hR2 hg2 hl2
      have hb2 := below_grown hb2a hb2a.size hl2 hg2
      clear hb2a hR2a hg2 hl2
      go_wp2_with fail
      refine (CP.out _).mono ?_; rintro e s2 ⟨rfl, rfl⟩
      go_wp2_with fail
      go_ret
      exact ⟨_, rfl, by rw [HE.out]; exact hR2, hb2⟩
    · have HE : Hid (leavesT n = [.node 1 (n : Nat) [], .node 2 (n : Nat) [], .node 3 (n : Nat) []]) := by unfold Hid leavesT; rw [hB, if_pos (show n ≤ 64 by omega), if_pos (show 2 ≤ n ∧ n ≤ 5 by omega), if_pos (show 2 ≤ n ∧ true = true from ⟨by omega, rfl⟩)]; rfl
      clear hB
      have s5 : decide (n ≤ 5) = true := by simp; omega
      go_enter Tryz.func95, Tryz.ntmps95
      go_wp2_with fail
      refine (cand_node _ _ _ _ _ _).mono ?_; rintro e n1 ⟨rfl, hn1⟩
      have hb1a := hn1
      have hR1a := TwoT.none n1 w.heap.size
      clear hn1
      go_wp2_with (at_builtin; refine wpList_push rfl _ _ rfl n1 w.heap.size noRow noRow [] [] 1 n none 0 0 (.node 1 n []) rfl rfl hR1a (isT_none _ _ (by rw [fits_i64]; omega) (by rw [fits_i64]; omega)) (by simp) hb1a.size ?_)
      intro v1 w1 hR1 hg1 hl1
      have hb1 := below_grown hb1a hb1a.size hl1 hg1
      clear hb1a hR1a hg1 hl1
      go_wp2_with fail
      refine (CS.out _).mono ?_; rintro e s1 ⟨rfl, rfl⟩
      rw [s5]
      go_wp2_with fail
      refine (cand_node _ _ _ _ _ _).mono ?_; rintro e n2 ⟨rfl, hn2⟩
      have hb2a := chain hb1 hn2
      have hR2a := hR1.below hn2
      clear hn2
      go_wp2_with (at_builtin; refine wpList_push rfl _ _ rfl n2 w.heap.size v1 noRow [.node 1 n []] [] 2 n none 0 0 (.node 2 n []) rfl rfl hR2a (isT_none _ _ (by rw [fits_i64]; omega) (by rw [fits_i64]; omega)) (by simp) hb2a.size ?_)
      intro v2 w2 hR2 hg2 hl2
      have hb2 := below_grown hb2a hb2a.size hl2 hg2
      clear hb2a hR2a hg2 hl2
      go_wp2_with fail
      refine (CP.out _).mono ?_; rintro e s2 ⟨rfl, rfl⟩
      go_wp2_with fail
      refine (cand_node _ _ _ _ _ _).mono ?_; rintro e n3 ⟨rfl, hn3⟩
      have hb3a := chain hb2 hn3
      have hR3a := hR2.below hn3
      clear hn3
      go_wp2_with (at_builtin; refine wpList_push rfl _ _ rfl n3 w.heap.size v2 noRow [.node 1 n [], .node 2 n []] [] 3 n none 0 0 (.node 3 n []) rfl rfl hR3a (isT_none _ _ (by rw [fits_i64]; omega) (by rw [fits_i64]; omega)) (by simp) hb3a.size ?_)
      intro v3 w3 hR3 hg3 hl3
      have hb3 := below_grown hb3a hb3a.size hl3 hg3
      clear hb3a hR3a hg3 hl3
      go_wp2_with fail
      go_ret
      exact ⟨_, rfl, by rw [HE.out]; exact hR3, hb3⟩
  · cases B
    · have HE : Hid (leavesT n = [.node 1 (n : Nat) []]) := by unfold Hid leavesT; rw [hB, if_pos (show n ≤ 64 by omega), if_neg (show ¬ (2 ≤ n ∧ n ≤ 5) by omega), if_neg (show ¬ (2 ≤ n ∧ false = true) by simp)]; rfl
      clear hB
      have s5 : decide (n ≤ 5) = false := by simp; omega
      go_enter Tryz.func95, Tryz.ntmps95
      go_wp2_with fail
      refine (cand_node _ _ _ _ _ _).mono ?_; rintro e n1 ⟨rfl, hn1⟩
      have hb1a := hn1
      have hR1a := TwoT.none n1 w.heap.size
      clear hn1
      go_wp2_with (at_builtin; refine wpList_push rfl _ _ rfl n1 w.heap.size noRow noRow [] [] 1 n none 0 0 (.node 1 n []) rfl rfl hR1a (isT_none _ _ (by rw [fits_i64]; omega) (by rw [fits_i64]; omega)) (by simp) hb1a.size ?_)
      intro v1 w1 hR1 hg1 hl1
      have hb1 := below_grown hb1a hb1a.size hl1 hg1
      clear hb1a hR1a hg1 hl1
      go_wp2_with fail
      refine (CS.out _).mono ?_; rintro e s1 ⟨rfl, rfl⟩
      rw [s5]
      go_wp2_with fail
      refine (CP.out _).mono ?_; rintro e s2 ⟨rfl, rfl⟩
      go_wp2_with fail
      go_ret
      exact ⟨_, rfl, by rw [HE.out]; exact hR1, hb1⟩
    · have HE : Hid (leavesT n = [.node 1 (n : Nat) [], .node 3 (n : Nat) []]) := by unfold Hid leavesT; rw [hB, if_pos (show n ≤ 64 by omega), if_neg (show ¬ (2 ≤ n ∧ n ≤ 5) by omega), if_pos (show 2 ≤ n ∧ true = true from ⟨by omega, rfl⟩)]; rfl
      clear hB
      have s5 : decide (n ≤ 5) = false := by simp; omega
      go_enter Tryz.func95, Tryz.ntmps95
      go_wp2_with fail
      refine (cand_node _ _ _ _ _ _).mono ?_; rintro e n1 ⟨rfl, hn1⟩
      have hb1a := hn1
      have hR1a := TwoT.none n1 w.heap.size
      clear hn1
      go_wp2_with (at_builtin; refine wpList_push rfl _ _ rfl n1 w.heap.size noRow noRow [] [] 1 n none 0 0 (.node 1 n []) rfl rfl hR1a (isT_none _ _ (by rw [fits_i64]; omega) (by rw [fits_i64]; omega)) (by simp) hb1a.size ?_)
      intro v1 w1 hR1 hg1 hl1
      have hb1 := below_grown hb1a hb1a.size hl1 hg1
      clear hb1a hR1a hg1 hl1
      go_wp2_with fail
      refine (CS.out _).mono ?_; rintro e s1 ⟨rfl, rfl⟩
      rw [s5]
      go_wp2_with fail
      refine (CP.out _).mono ?_; rintro e s2 ⟨rfl, rfl⟩
      go_wp2_with fail
      refine (cand_node _ _ _ _ _ _).mono ?_; rintro e n2 ⟨rfl, hn2⟩
      have hb2a := chain hb1 hn2
      have hR2a := hR1.below hn2
      clear hn2
      go_wp2_with (at_builtin; refine wpList_push rfl _ _ rfl n2 w.heap.size v1 noRow [.node 1 n []] [] 3 n none 0 0 (.node 3 n []) rfl rfl hR2a (isT_none _ _ (by rw [fits_i64]; omega) (by rw [fits_i64]; omega)) (by simp) hb2a.size ?_)
      intro v2 w2 hR2 hg2 hl2
      have hb2 := below_grown hb2a hb2a.size hl2 hg2
      clear hb2a hR2a hg2 hl2
      go_wp2_with fail
      go_ret
      exact ⟨_, rfl, by rw [HE.out]; exact hR2, hb2⟩
  · cases B
    · have HE : Hid (leavesT n = []) := by unfold Hid leavesT; rw [hB, if_neg (show ¬ n ≤ 64 by omega), if_neg (show ¬ (2 ≤ n ∧ n ≤ 5) by omega), if_neg (show ¬ (2 ≤ n ∧ false = true) by simp)]; rfl
      clear hB
      have s5 : decide (n ≤ 5) = false := by simp; omega
      go_enter Tryz.func95, Tryz.ntmps95
      go_wp2_with fail
      refine (CS.out _).mono ?_; rintro e s1 ⟨rfl, rfl⟩
      rw [s5]
      go_wp2_with fail
      refine (CP.out _).mono ?_; rintro e s2 ⟨rfl, rfl⟩
      go_wp2_with fail
      go_ret
      exact ⟨noRow, rfl, by rw [HE.out]; exact TwoT.none _ _, Below.refl _ _⟩
    · have HE : Hid (leavesT n = [.node 3 (n : Nat) []]) := by unfold Hid leavesT; rw [hB, if_neg (show ¬ n ≤ 64 by omega), if_neg (show ¬ (2 ≤ n ∧ n ≤ 5) by omega), if_pos (show 2 ≤ n ∧ true = true from ⟨by omega, rfl⟩)]; rfl
      clear hB
      have s5 : decide (n ≤ 5) = false := by simp; omega
      go_enter Tryz.func95, Tryz.ntmps95
      go_wp2_with fail
      refine (CS.out _).mono ?_; rintro e s1 ⟨rfl, rfl⟩
      rw [s5]
      go_wp2_with fail
      refine (CP.out _).mono ?_; rintro e s2 ⟨rfl, rfl⟩
      go_wp2_with fail
      refine (cand_node _ _ _ _ _ _).mono ?_; rintro e n1 ⟨rfl, hn1⟩
      have hb1a := hn1
      have hR1a := TwoT.none n1 w.heap.size
      clear hn1
      go_wp2_with (at_builtin; refine wpList_push rfl _ _ rfl n1 w.heap.size noRow noRow [] [] 3 n none 0 0 (.node 3 n []) rfl rfl hR1a (isT_none _ _ (by rw [fits_i64]; omega) (by rw [fits_i64]; omega)) (by simp) hb1a.size ?_)
      intro v1 w1 hR1 hg1 hl1
      have hb1 := below_grown hb1a hb1a.size hl1 hg1
      clear hb1a hR1a hg1 hl1
      go_wp2_with fail
      go_ret
      exact ⟨_, rfl, by rw [HE.out]; exact hR1, hb1⟩
theorem wrap_small {d : Nat} (h : d ≤ 16777216) : IntKind.i64.wrap (d : Int) = d ∧ wrap64 (d : Int) = d := by
  have e : IntKind.i64.wrap (d : Int) = d := IntWalk.i64_in _ (by omega)
  exact ⟨e, by rw [← IntWalk.i64_left]; exact e⟩
theorem own_type2 {w : World} {B : Nat} {e T : TypeId} {s : Nat} {v : Value} {n b : Nat} {xs : List Value} {cs : Array Value} (h : w.ownsRow B e s v n xs) (hb : w.heap[b]? = some (.cells cs T (0, 0))) (hne : e ≠ T) : v.ownBlock ≠ some b := by
  rcases h.2 with ⟨rfl, _⟩ | ⟨g, cap, cur, rfl, _, hg, _⟩
  · intro e1; cases e1
  · intro e1
    simp only [Value.ownBlock, Option.some.injEq] at e1
    subst e1
    rw [hg] at hb
    simp only [Option.some.injEq, Obj.cells.injEq] at hb
    exact hne hb.2.1
/-- Rows of other types stay where an append to a row of trees goes. -/
theorem other_stays {wn w' : World} {o : Obj} {B B2 : Nat} {v u w2 : Value} {ts us : List Tr} {e : TypeId} {s n : Nat} {xs : List Value} (hR : TwoT wn B v u ts us) (hP : wn.ownsRow B2 e s w2 n xs) (hg : (wn.alloc o).grownBy w' v.ownBlock) (hne : 48 ≠ e) : w'.ownsRow B2 e s w2 n xs := by
  obtain ⟨_, _, h1, _⟩ := hR
  refine (hP.alloc o).kept hg ?_
  cases hw : w2.ownBlock with
  | none => exact .inl rfl
  | some g =>
    refine .inr fun e2 => ?_
    rcases hP.2 with ⟨rfl, _⟩ | ⟨g', cap, cur, rfl, _, hgg, _⟩
    · cases hw
    · simp only [Value.ownBlock, Option.some.injEq] at hw
      subst hw
      exact own_type2 h1 hgg hne e2.symm
set_option maxHeartbeats 8000000 in
theorem cand_products (n : Nat) (w : World) (hsz : hasSz n = true) : Calls Tryz.prog 96 #[.int .i64 n] w (GivesTs (splitsT n (facS n) ++ goodsT n (facS n)) w) := by
  obtain ⟨i1, i2, _⟩ := hasSz_iff.1 hsz
  have h1 : 1 ≤ n := by omega
  have h2 : n ≤ 16777216 := by omega
  clear i1 i2
  have CR : Hid (∀ W, Calls Tryz.prog 122 #[.int .i64 n] W fun e w' => ∃ v, e = .returned v ∧ w'.ownsRow W.heap.size 126 2 v (facS n).length (cellsP (facS n)) ∧ Below W.heap.size W w') := fun W => by
    have := cand_primes n W h1 h2
    rwa [fac_sz hsz] at this
  have HPZ := Lib.hid (prime_sz hsz)
  have hM6 := fac_few hsz
  have HAT := Lib.hid (cellsP_at (facS n))
  obtain ⟨ps, hps⟩ : ∃ ps, facS n = ps := ⟨_, rfl⟩
  rw [hps] at CR HPZ hM6 HAT ⊢
  obtain ⟨M, hM⟩ : ∃ M, ps.length = M := ⟨_, rfl⟩
  rw [hM] at CR HPZ hM6 HAT
  have HM := Lib.hid hM
  clear hps hM hsz
  go_enter Tryz.func96, Tryz.ntmps96
  go_wp2_with fail
  refine (CR.out _).mono ?_; rintro e w0 ⟨v, rfl, hown, hb0⟩
  obtain ⟨a, cap, rfl, hcap, hg⟩ := own_slice2 hown
  have HO0 := Lib.hid hown
  have HB0 := Lib.hid hb0
  clear hown hb0
  go_wp2_with fail
  go_loopw [3, 4, 11] (fun vs vg i wr => ∃ j : Nat, j ≤ M ∧ i = .int .i64 j ∧ Hid (TwoT wr w.heap.size vs vg (splitsT n (ps.take j)) (goodsT n (ps.take j))) ∧ Hid (wr.ownsRow w.heap.size 126 2 (.slice a M cap) M (cellsP ps)) ∧ Hid (Below w.heap.size w wr)) (fun _ _ i _ => M - (intOf i).toNat)
  case atStart => exact ⟨0, Nat.zero_le _, rfl, TwoT.none w0 w.heap.size, HO0.out, HB0.out⟩
  case round =>
    obtain ⟨j, hj, rfl, HR, HO, HB⟩ := hrel
    by_cases hjm : j < M
    · obtain ⟨g, rfl⟩ := hg (by omega)
      obtain ⟨⟨p, e⟩, hpe⟩ : ∃ pe : Nat × Nat, ps.getD j (0, 0) = pe := ⟨_, rfl⟩
      obtain ⟨hp1, hpn, he24, hq1, hqn, ok1, ok2, ok3, ok4⟩ := HPZ.out j hjm p e hpe
      have hat := HAT.out j hjm
      rw [hpe] at hat
      have c0 : wr.cell? ⟨g, j * 2, none⟩ = some (.int .i64 (p : Int)) := (HO.out.cellAt (j * 2) (by omega)).trans hat.1
      have c1 : wr.cell? ⟨g, j * 2 + 1, none⟩ = some (.int .i64 (e : Int)) := (HO.out.cellAt (j * 2 + 1) (by omega)).trans hat.2
      have hS := splitsT_step n ps j (by rw [HM.out]; exact hjm)
      have hG := goodsT_step n ps j (by rw [HM.out]; exact hjm)
      rw [hpe] at hS hG
      have hSl := splitsT_len n (ps.take j)
      have hGl := goodsT_len n (ps.take j)
      rw [List.length_take] at hSl hGl
      obtain ⟨W5, hW5, hb5, x5⟩ := box_fresh wr #[.int .i64 p, .int .i64 e] 126
      have d0 : W5.cell? ⟨wr.heap.size, 0, none⟩ = some (.int .i64 (p : Int)) := block_cell x5 0
      have d1 : W5.cell? ⟨wr.heap.size, 1, none⟩ = some (.int .i64 (e : Int)) := block_cell x5 1
      have HS := Lib.hid hS
      have HG := Lib.hid hG
      have HB5 := Lib.hid (chain HB.out hb5)
      have HR5 := Lib.hid (HR.out.below hb5)
      have HO5 := Lib.hid (own_later3 HO.out hb5)
      clear hat hS hG
      have C1 : Hid (∀ W, Calls Tryz.prog 99 #[.int .i64 p] W (GivesD (pl p) W)) := fun W => cand_plain 10 p W ok1
      obtain ⟨d, hd⟩ : ∃ d, n / p = d := ⟨_, rfl⟩
      have C2 : Hid (∀ W, Calls Tryz.prog 99 #[.int .i64 d] W (GivesD (pl d) W)) := fun W => cand_plain 10 d W (by rw [← hd]; exact ok2)
      obtain ⟨Q, hQ⟩ : ∃ Q, p ^ e = Q := ⟨_, rfl⟩
      rw [hQ] at hq1 hqn ok3 ok4
      have C3 : Hid (∀ W, Calls Tryz.prog 99 #[.int .i64 Q] W (GivesD (pl Q) W)) := fun W => cand_plain 10 Q W ok3
      obtain ⟨D, hD⟩ : ∃ D, n / Q = D := ⟨_, rfl⟩
      have C4 : Hid (∀ W, Calls Tryz.prog 99 #[.int .i64 D] W (GivesD (pl D) W)) := fun W => cand_plain 10 D W (by rw [← hD]; exact ok4)
      have HQ := Lib.hid hQ
      have HD := Lib.hid hD
      have Hd := Lib.hid hd
      have HSp : Hid (p ≠ n → splitT n (p, e) = [.node 4 n [pl p, pl d]]) := fun h => by unfold splitT; rw [if_neg h, hd]
      have HSn : Hid (p = n → splitT n (p, e) = []) := fun h => by unfold splitT; rw [if_pos h]
      have HGp : Hid (Q ≠ n → goodT n (p, e) = [.node 5 n [pl Q, pl D]]) := fun h => by unfold goodT; rw [hQ, if_neg h, hD]
      have HGn : Hid (Q = n → goodT n (p, e) = []) := fun h => by unfold goodT; rw [hQ, if_pos h]
      have e1 : (n : Int).tdiv (p : Int) = (d : Int) := by rw [Int.tdiv_eq_ediv_of_nonneg (by omega), ← Int.natCast_ediv, hd]
      have e2 : (n : Int) / (p : Int) = (d : Int) := by rw [← Int.natCast_ediv, hd]
      have z1 : ((p : Int) == 0) = false := bno (by omega)
      have z2 : ¬ (p : Int) = 0 := by omega
      have z3 : ¬ p = 0 := by omega
      have hd9 : d ≤ 16777216 := by have := Nat.div_le_self n p; omega
      obtain ⟨e5, e4⟩ := wrap_small hd9
      have e3 : IntKind.i64.wrap ((n : Int).tdiv (p : Int)) = (d : Int) := by rw [e1]; exact e5
      have f1 : (n : Int).tdiv (Q : Int) = (D : Int) := by rw [Int.tdiv_eq_ediv_of_nonneg (by omega), ← Int.natCast_ediv, hD]
      have f2 : (n : Int) / (Q : Int) = (D : Int) := by rw [← Int.natCast_ediv, hD]
      have y1 : ((Q : Int) == 0) = false := bno (by omega)
      have y2 : ¬ (Q : Int) = 0 := by omega
      have y3 : ¬ Q = 0 := by omega
      have hD9 : D ≤ 16777216 := by have := Nat.div_le_self n Q; omega
      obtain ⟨f5, f4⟩ := wrap_small hD9
      have f3 : IntKind.i64.wrap ((n : Int).tdiv (Q : Int)) = (D : Int) := by rw [f1]; exact f5
      clear hd hD hQ ok1 ok2 ok3 ok4 hpe
      obtain ⟨wo, rfl⟩ : ∃ wo : World, wo = wr := ⟨_, rfl⟩
      have hBo := HB.out.size
      have HOFF := Lib.hid (HR.out.off hBo wo.heap.size (Nat.le_refl _))
      have hs5 : wo.heap.size < W5.heap.size := block_lt x5
      clear x5 hb5
      go_wp2_with fail
      clear hW5 c0 c1
      go_loopw [7, 17] (fun q i wi => ∃ k R : Nat, k ≤ e ∧ i = .int .i64 k ∧ q = .int .i64 R ∧ Hid (R = p ^ k) ∧ wi = W5) (fun _ i _ => e - (intOf i).toNat)
      case atStart => exact ⟨0, 1, Nat.zero_le _, rfl, rfl, by unfold Hid; rw [Nat.pow_zero], rfl⟩
      case round =>
        obtain ⟨k, R, hk, rfl, rfl, HRk, hwi⟩ := hrel
        obtain rfl : W5 = wr := hwi.symm
        by_cases hke : k < e
        · obtain ⟨R2, hR2⟩ : ∃ R2, R * p = R2 := ⟨_, rfl⟩
          have hR2p : R2 = p ^ (k + 1) := by rw [← hR2, HRk.out, Nat.pow_succ]
          have hR2n : R2 ≤ n := by rw [hR2p]; exact Nat.le_trans (Nat.pow_le_pow_right hp1 (show k + 1 ≤ e by omega)) (by rw [HQ.out]; exact hqn)
          have g1 : (R : Int) * (p : Int) = (R2 : Int) := by rw [← hR2]; simp
          have HR2p := Lib.hid hR2p
          clear hR2 hR2p
          go_wp2_with fail
          go_roundw
          case rel => exact ⟨k + 1, R2, by omega, by go_num, by first | rfl | go_num, HR2p.out, by first | rfl | trivial⟩
          case measure => simp [intOf]; omega
        · obtain rfl : R = Q := by rw [HRk.out, ← HQ.out, show k = e by omega]
          obtain rfl : k = e := by omega
          clear HRk hke
          by_cases hpn0 : p = n
          · have t1 : ((p : Int) != (n : Int)) = false := bfalse' (by omega)
            have HS6 := Lib.hid (HS.out.trans (congrArg (splitsT n (ps.take j) ++ ·) (HSn.out hpn0)))
            have hR5' := HR5.out
            rw [← List.append_nil (splitsT n (ps.take j))] at hR5'
            have HR5' := Lib.hid hR5'
            have hB5 : w.heap.size ≤ W5.heap.size := HB5.out.size
            clear hR5'
            by_cases hqn0 : R = n
            · have t2 : ((R : Int) != (n : Int)) = false := bfalse' (by omega)
              have HG7 := Lib.hid (HG.out.trans (congrArg (goodsT n (ps.take j) ++ ·) (HGn.out hqn0)))
              go_wp2_with fail
              go_roundw
              case rel => exact ⟨j + 1, by omega, by go_num, by unfold Hid; rw [HS6.out, HG7.out]; simpa using HR5'.out, HO5.out, HB5.out⟩
              case measure => simp [intOf]; omega
            · have t2 : ((R : Int) != (n : Int)) = true := bdiff (by omega)
              have t3 : ((R : Int) == (n : Int)) = false := bno (by omega)
              go_wp2_with fail
              go_region_held3 (fun w' => True) (trivial) (first
                | (go_at_call 99; first
                  | ((with_reducible refine (C3.out _).mono ?_); rintro e9 wa ⟨ka, na, aa, ma, ca, rfl, hTa, hba⟩; have hba := undrew hba)
                  | ((with_reducible refine (C4.out _).mono ?_); rintro e9 wb ⟨kb, nb, ab, mb, cb, rfl, hTb, hbb⟩))
                | (go_at_call 98; (with_reducible refine (cand_node _ _ _ _ _ _).mono ?_); rintro e9 w4 ⟨rfl, hb4⟩; have hn4 := node_two 5 n (by omega) h2 hba hTa hbb hTb hb4)
                | (refine step_push (by rfl) _ _ (by rfl) w4 w.heap.size u4 u3 _ _ 5 n _ 2 2 _ (by rfl) (by rfl) (HR5'.out.swap.below hn4.1) (hn4.2.mono (HR5'.out.swap.off hB5)) (by omega) (Nat.le_trans hB5 hn4.1.size) ?_; intro v7 w7 hR7 hg7 hl7))
              have HO7 := Lib.hid (other_stays (HR5'.out.swap.below hn4.1) (own_later3 HO5.out hn4.1) hg7 (by decide))
              have HB7 := Lib.hid (below_grown (chain HB5.out hn4.1) (chain HB5.out hn4.1).size hl7 hg7)
              have HR7 := Lib.hid hR7.swap
              have HG7 := Lib.hid (HG.out.trans (congrArg (goodsT n (ps.take j) ++ ·) (HGp.out hqn0)))
              clear hR7 hg7 hl7 hn4 hb4 hTa hTb hba hbb
              go_wp2_with fail
              go_roundw
              case rel => exact ⟨j + 1, by omega, by go_num, by unfold Hid; rw [HS6.out, HG7.out]; exact HR7.out, HO7.out, HB7.out⟩
              case measure => simp [intOf]; omega
          · have t1 : ((p : Int) != (n : Int)) = true := bdiff (by omega)
            have t0 : ((p : Int) == (n : Int)) = false := bno (by omega)
            go_wp2_with fail
            have hc := d0
            have hB5 : w.heap.size ≤ W5.heap.size := HB5.out.size
            have e0 : W5.heap.size = W5.heap.size := rfl
            go_region_held3 (fun w' => w'.cell? ⟨wo.heap.size, 0, none⟩ = some (.int .i64 p)) (first | exact hc | exact (World.cell?_alloc_lt _ _ _ (World.block_lt_of_cell? _ _ hc)).trans hc) (first
              | (go_at_call 99; first
                | ((with_reducible refine (C1.out _).mono ?_); rintro e9 wa ⟨ka, na, aa, ma, ca, rfl, hTa, hba⟩; have hba := undrew hba; have hc := (hba.cell (p := ⟨wo.heap.size, 0, none⟩) (World.block_lt_of_cell? _ _ hc)).trans hc)
                | ((with_reducible refine (C2.out _).mono ?_); rintro e9 wb ⟨kb, nb, ab, mb, cb, rfl, hTb, hbb⟩; have hc := (hbb.cell (p := ⟨wo.heap.size, 0, none⟩) (World.block_lt_of_cell? _ _ hc)).trans hc))
              | (go_at_call 98; (with_reducible refine (cand_node _ _ _ _ _ _).mono ?_); rintro e9 w4 ⟨rfl, hb4⟩; have hn4 := node_two 4 n (by omega) h2 hba hTa hbb hTb hb4; have hc := (hn4.1.cell (p := ⟨wo.heap.size, 0, none⟩) hs5).trans d0)
              | (refine step_push (by rfl) _ _ (by rfl) w4 w.heap.size u3 u4 _ _ 4 n _ 2 2 _ (by rfl) (by rfl) (HR5.out.below hn4.1) (hn4.2.mono (HR5.out.off hB5)) (by omega) (Nat.le_trans hB5 hn4.1.size) ?_; intro v6 w6 hR6 hg6 hl6; have hc := hg6.cell ((World.cell?_alloc_lt _ _ _ (World.block_lt_of_cell? _ _ hc)).trans hc) (Ne.symm HOFF.out.2.1)))
            have HO6 := Lib.hid (other_stays (HR5.out.below hn4.1) (own_later3 HO5.out hn4.1) hg6 (by decide))
            have HB6 := Lib.hid (below_grown (chain HB5.out hn4.1) (chain HB5.out hn4.1).size hl6 hg6)
            have HR6 := Lib.hid hR6
            have hB6 : w.heap.size ≤ w6.heap.size := HB6.out.size
            have HS6 := Lib.hid (HS.out.trans (congrArg (splitsT n (ps.take j) ++ ·) (HSp.out hpn0)))
            clear hc hR6 hg6 hl6 hn4 hb4 hTa hTb hba hbb d0 d1
            by_cases hqn0 : R = n
            · have t2 : ((R : Int) != (n : Int)) = false := bfalse' (by omega)
              have HG7 := Lib.hid (HG.out.trans (congrArg (goodsT n (ps.take j) ++ ·) (HGn.out hqn0)))
              go_wp2_with fail
              go_roundw
              case rel => exact ⟨j + 1, by omega, by go_num, by unfold Hid; rw [HS6.out, HG7.out]; simpa using HR6.out, HO6.out, HB6.out⟩
              case measure => simp [intOf]; omega
            · have t2 : ((R : Int) != (n : Int)) = true := bdiff (by omega)
              have t3 : ((R : Int) == (n : Int)) = false := bno (by omega)
              go_wp2_with fail
              go_region_held3 (fun w' => True) (trivial) (first
                | (go_at_call 99; first
                  | ((with_reducible refine (C3.out _).mono ?_); rintro e9 wa ⟨ka, na, aa, ma, ca, rfl, hTa, hba⟩; have hba := undrew hba)
                  | ((with_reducible refine (C4.out _).mono ?_); rintro e9 wb ⟨kb, nb, ab, mb, cb, rfl, hTb, hbb⟩))
                | (go_at_call 98; (with_reducible refine (cand_node _ _ _ _ _ _).mono ?_); rintro e9 w4 ⟨rfl, hb4⟩; have hn4 := node_two 5 n (by omega) h2 hba hTa hbb hTb hb4)
                | (refine step_push (by rfl) _ _ (by rfl) w4 w.heap.size u4 v6 _ _ 5 n _ 2 2 _ (by rfl) (by rfl) (HR6.out.swap.below hn4.1) (hn4.2.mono (HR6.out.swap.off hB6)) (by omega) (Nat.le_trans hB6 hn4.1.size) ?_; intro v7 w7 hR7 hg7 hl7))
              have HO7 := Lib.hid (other_stays (HR6.out.swap.below hn4.1) (own_later3 HO6.out hn4.1) hg7 (by decide))
              have HB7 := Lib.hid (below_grown (chain HB6.out hn4.1) (chain HB6.out hn4.1).size hl7 hg7)
              have HR7 := Lib.hid hR7.swap
              have HG7 := Lib.hid (HG.out.trans (congrArg (goodsT n (ps.take j) ++ ·) (HGp.out hqn0)))
              clear hR7 hg7 hl7 hn4 hb4 hTa hTb hba hbb
              go_wp2_with fail
              go_roundw
              case rel => exact ⟨j + 1, by omega, by go_num, by unfold Hid; rw [HS6.out, HG7.out]; exact HR7.out, HO7.out, HB7.out⟩
              case measure => simp [intOf]; omega
    · obtain rfl : j = M := by omega
      have HE : Hid (ps.take j = ps) := by unfold Hid; rw [← HM.out]; exact List.take_length
      have hSl := splitsT_len n ps
      have hGl := goodsT_len n ps
      rw [HM.out] at hSl hGl
      have hR := HR.out
      rw [HE.out] at hR
      have HR2 := Lib.hid hR
      have hBs := HB.out.size
      clear hR
      go_wp2_with (at_builtin; refine wpList_both rfl _ _ rfl _ w.heap.size u3 u4 _ _ rfl rfl HR2.out (by omega) hBs ?_)
      intro v9 w9 hR9 hg9 hl9
      have hb9 := HB.out.grown hg9 hBs hl9
      have HR9 := Lib.hid hR9
      clear hR9 hg9 hl9
      go_wp2_with fail
      go_ret
      exact ⟨_, rfl, HR9.out, hb9⟩
end Go.Proofs.YtlnlijeamflpiaaGreat
namespace Go.Proofs.YtlnlijeamflpiaaGreat
open Go.RowKit
set_option linter.unusedVariables false
set_option linter.unusedSimpArgs false
set_option maxRecDepth 20000
theorem leavesT_len (n : Nat) : (leavesT n).length ≤ 3 := by
  unfold leavesT
  simp only [List.length_append]
  have h1 : (if n ≤ 64 then [Tr.node 1 n []] else []).length ≤ 1 := by split <;> simp
  have h2 : (if 2 ≤ n ∧ n ≤ 5 then [Tr.node 2 n []] else []).length ≤ 1 := by split <;> simp
  have h3 : (if 2 ≤ n ∧ hasP2 n = true then [Tr.node 3 n []] else []).length ≤ 1 := by split <;> simp
  omega
theorem prods_len {n : Nat} (h : hasSz n = true) : (splitsT n (facS n) ++ goodsT n (facS n)).length ≤ 12 := by
  have := fac_few h
  have := splitsT_len n (facS n)
  have := goodsT_len n (facS n)
  simp only [List.length_append]; omega
theorem rader_sz {n : Nat} (h : hasSz n = true) (h3 : 3 ≤ n) (hp : prB (facS n) = true) : okF 10 (n - 1) = true := by
  have hk := kids_sz h
  unfold kidsB at hk
  simp only [Bool.and_eq_true, Bool.or_eq_true, decide_eq_true_eq] at hk
  rcases hk.1.2 with (h0 | h0) | h0
  · rw [hp] at h0; cases h0
  · omega
  · exact h0
theorem blue_sz {n : Nat} (h : hasSz n = true) (h2 : 2 ≤ n) (h8 : n ≤ 8388608) : okF 10 (abv (2 * n - 1)) = true := by
  have hk := kids_sz h
  unfold kidsB at hk
  simp only [Bool.and_eq_true, Bool.or_eq_true, decide_eq_true_eq] at hk
  rcases hk.2 with (h0 | h0) | h0
  · omega
  · omega
  · exact h0
/-- The two last ones, where they are. -/
theorem tail_sz {n : Nat} (h : hasSz n = true) :
    (n = 1 ∧ raderT n = [] ∧ blueT n = []) ∨ (n = 2 ∧ raderT n = [] ∧ ∃ A, abv (2 * n - 1) = A ∧ okF 10 A = true ∧ blueT n = [.node 7 n [pl A]]) ∨
    (3 ≤ n ∧ ∃ Q, prB (facS n) = Q ∧ (if Q = true then okF 10 (n - 1) = true ∧ raderT n = [.node 6 n [pl (n - 1)]] else raderT n = []) ∧ ((n ≤ 8388608 ∧ ∃ A, abv (2 * n - 1) = A ∧ okF 10 A = true ∧ blueT n = [.node 7 n [pl A]]) ∨ (8388608 < n ∧ blueT n = []))) := by
  obtain ⟨i1, i2, _⟩ := hasSz_iff.1 h
  rcases (show n = 1 ∨ n = 2 ∨ 3 ≤ n by omega) with h1 | h1 | h1
  · subst h1; exact .inl ⟨rfl, by unfold raderT; rw [if_neg (by omega)], by unfold blueT; rw [if_neg (by omega)]⟩
  · exact .inr (.inl ⟨h1, by unfold raderT; rw [if_neg (by omega)], _, rfl, blue_sz h (by omega) (by omega), by unfold blueT; rw [if_pos (by omega)]⟩)
  · refine .inr (.inr ⟨h1, _, rfl, ?_, ?_⟩)
    · cases hq : prB (facS n) with
      | true => rw [if_pos rfl]; exact ⟨rader_sz h h1 hq, by unfold raderT; rw [if_pos ⟨h1, hq⟩]⟩
      | false => rw [if_neg (by simp)]; unfold raderT; rw [if_neg (by rw [hq]; simp)]
    · by_cases h8 : n ≤ 8388608
      · exact .inl ⟨h8, _, rfl, blue_sz h (by omega) h8, by unfold blueT; rw [if_pos (by omega)]⟩
      · exact .inr ⟨by omega, by unfold blueT; rw [if_neg (by omega)]⟩
/-- A result: a new row of trees, and a number. -/
def GivesTs2 (ts : List Tr) (c : Int) (w : World) (e : Ending) (w' : World) : Prop := ∃ v, e = .returned (.tuple #[v, .int .i64 c]) ∧ TwoT w' w.heap.size v noRow ts [] ∧ Below w.heap.size w w'
set_option maxHeartbeats 1500000 in
theorem cand_List (n : Nat) (w : World) (hsz : hasSz n = true) : Calls Tryz.prog 63 #[.int .i64 n] w (GivesTs2 (listT n) 0 w) := by
  obtain ⟨i1, i2, _⟩ := hasSz_iff.1 hsz
  have h1 : 1 ≤ n := by omega
  have h2 : n ≤ 16777216 := by omega
  clear i1 i2
  have CL : Hid (∀ W, Calls Tryz.prog 95 #[.int .i64 n] W (GivesTs (leavesT n) W)) := fun W => cand_leaves n W h1 h2
  have CR : Hid (∀ W, Calls Tryz.prog 96 #[.int .i64 n] W (GivesTs (splitsT n (facS n) ++ goodsT n (facS n)) W)) := fun W => cand_products n W hsz
  have hL1 := leavesT_len n
  have hL2 := prods_len hsz
  have HLT : Hid (listT n = ((leavesT n ++ (splitsT n (facS n) ++ goodsT n (facS n))) ++ raderT n) ++ blueT n) := rfl
  obtain ⟨LL, hLL⟩ : ∃ x, leavesT n = x := ⟨_, rfl⟩
  obtain ⟨PP, hPP⟩ : ∃ x, splitsT n (facS n) ++ goodsT n (facS n) = x := ⟨_, rfl⟩
  rw [hLL, hPP] at HLT
  rw [hLL] at CL hL1
  rw [hPP] at CR hL2
  clear hLL hPP
  have HSZ := Lib.hid hsz
  have CF : Hid (∀ W, Calls Tryz.prog 97 #[.int .i64 n] W fun e w' => e = .returned (.bool (prB (facS n))) ∧ Below W.heap.size W w') := fun W => by
    have := fact_Prime n W (by omega)
    rwa [own_of_facts h1 h2 hsz] at this
  have CH : Hid (∀ W, Calls Tryz.prog 41 #[.int .i64 n] W fun e w' => e = .returned (.bool true) ∧ W = w') := fun W => rootHas_yes _ W hsz
  have hts := tail_sz hsz
  clear hsz
  obtain ⟨m2, hm2⟩ : ∃ m2, m2 = 2 * n - 1 := ⟨_, rfl⟩
  have CA : Hid (n ≤ 8388608 → ∀ W, Calls Tryz.prog 100 #[.int .i64 n] W fun e w' => e = .returned (.tuple #[.int .i64 (abv (2 * n - 1) : Nat), .int .i64 0]) ∧ W = w') := fun h W => chirp_Least_ok n (2 * n - 1) W HSZ.out h rfl
  have CB : Hid (8388608 < n → ∀ W, Calls Tryz.prog 100 #[.int .i64 n] W fun e w' => e = .returned (.tuple #[.int .i64 0, .int .i64 3]) ∧ W = w') := fun h W => chirp_Least_range n W HSZ.out h
  clear hm2
  have START : True := trivial
  go_enter Tryz.func63, Tryz.ntmps63
  go_wp2_with fail
  refine (CH.out _).mono ?_; rintro e s1 ⟨rfl, rfl⟩
  go_wp2_with fail
  refine (CL.out _).mono ?_; rintro e w1 ⟨v1, rfl, hR1, hb1⟩
  have HR1 := Lib.hid hR1
  have HB1 := Lib.hid hb1
  have hs1 := hb1.size
  clear hR1 hb1
  go_wp2_with fail
  refine (CR.out _).mono ?_; rintro e w2 ⟨v2, rfl, hR2, hb2⟩
  have HJ := Lib.hid (TwoT.join (w := w) hs1 HR1.out hb2 hR2)
  have HB2 := Lib.hid (chain HB1.out hb2)
  have hs2 := HB2.out.size
  clear hR2 hb2
  go_wp2_with (at_builtin; refine wpList_both rfl _ _ rfl _ w.heap.size v1 v2 _ _ rfl rfl HJ.out (by omega) hs2 ?_)
  intro v3 w3 hR3 hg3 hl3
  have HB3 := Lib.hid (HB2.out.grown hg3 hs2 hl3)
  obtain ⟨AC3, hAC3⟩ : ∃ x, LL ++ PP = x := ⟨_, rfl⟩
  rw [hAC3] at hR3
  have HA3 := Lib.hid hAC3
  have hA3 : AC3.length ≤ 15 := by rw [← hAC3, List.length_append]; omega
  have HR3 := Lib.hid hR3
  clear hR3 hg3 hl3 hAC3
  rcases hts with ⟨hn, hr, hb⟩ | ⟨hn, hr, A, hA, hok, hb⟩ | ⟨hn, Q, hQ, hr, hb⟩
  · have HE : Hid (listT n = AC3) := by unfold Hid; rw [HLT.out, hr, hb, HA3.out, List.append_nil, List.append_nil]
    subst hn
    clear hr hb
    have CA1 := Lib.hid (CA.out (by omega))
    go_wp2_with fail
    refine (CA1.out _).mono ?_; rintro e s2 ⟨rfl, rfl⟩
    go_wp2_with fail
    go_ret2
    exact ⟨_, rfl, by rw [HE.out]; exact HR3.out, HB3.out⟩
  · subst hn
    have HE : Hid (listT 2 = AC3 ++ [.node 7 2 [pl A]]) := by unfold Hid; rw [HLT.out, hr, hb, HA3.out, List.append_nil]; rfl
    clear hr hb
    have CA1 := Lib.hid (CA.out (by omega))
    rw [hA] at CA1
    have CI7 : Hid (∀ W, Calls Tryz.prog 99 #[.int .i64 A] W (GivesD (pl A) W)) := fun W => cand_plain 10 A W hok
    clear hA hok
    go_wp2_with fail
    refine (CA1.out _).mono ?_; rintro e s2 ⟨rfl, rfl⟩
    go_wp2_with fail
    refine (CI7.out _).mono ?_; rintro e p7 ⟨k7, n7, a7, m7, c7, rfl, hT7, hp7⟩
    go_wp2_with fail
    refine (cand_node _ _ _ _ _ _).mono ?_; rintro e q7 ⟨rfl, hq7⟩
    have hn7 := node_one 7 2 (by omega) h2 hp7 hT7 hq7
    have hb7a := chain HB3.out hn7.1
    have hB7 := Below.size HB3.out
    go_wp2_with (at_builtin; refine wpList_push rfl _ _ rfl q7 w.heap.size v3 noRow AC3 [] 7 2 _ 1 1 _ rfl rfl (TwoT.below HR3.out hn7.1) (hn7.2.mono (TwoT.off HR3.out hB7)) (by omega) hb7a.size ?_)
    intro v7 w7 hR7 hg7 hl7
    have HB7 := Lib.hid (below_grown hb7a hb7a.size hl7 hg7)
    obtain ⟨AC7, hAC7⟩ : ∃ x, AC3 ++ [.node 7 2 [pl A]] = x := ⟨_, rfl⟩
    rw [hAC7] at hR7
    have hA7 : AC7.length ≤ 17 := by rw [← hAC7, List.length_append, List.length_singleton]; omega
    have HA7 := Lib.hid hAC7
    have HR7 := Lib.hid hR7
    clear hAC7 hR7 hg7 hl7 hb7a hn7 hq7 hT7 hp7 hB7
    go_wp2_with fail
    go_ret2
    exact ⟨_, rfl, by rw [HE.out]; first | (rw [HA7.out]; exact HR7.out) | (rw [HA6.out, HA7.out]; exact HR7.out), HB7.out⟩
  · rw [hQ] at CF
    clear hQ
    cases Q with
    | true =>
      obtain ⟨hok6, hr⟩ := (show okF 10 (n - 1) = true ∧ raderT n = [.node 6 n [pl (n - 1)]] by simpa using hr)
      obtain ⟨m, hm⟩ : ∃ m, n - 1 = m := ⟨_, rfl⟩
      rw [hm] at hok6 hr
      have e1 : (n : Int) - 1 = (m : Nat) := by omega
      have CI6 : Hid (∀ W, Calls Tryz.prog 99 #[.int .i64 m] W (GivesD (pl m) W)) := fun W => cand_plain 10 m W hok6
      clear hok6 hm
      rcases hb with ⟨h8, A, hA, hok, hb⟩ | ⟨h8, hb⟩
      · have HE : Hid (listT n = (AC3 ++ [.node 6 n [pl m]]) ++ [.node 7 n [pl A]]) := by unfold Hid; rw [HLT.out, hr, hb, HA3.out]
        clear hr hb
        go_wp2_with fail
        refine (CF.out _).mono ?_; rintro e f1 ⟨rfl, hf1⟩
        have HF1 := Lib.hid (chain HB3.out hf1)
        have HRF := Lib.hid (HR3.out.below hf1)
        clear hf1
        go_wp2_with fail
        refine (CI6.out _).mono ?_; rintro e p6 ⟨k6, n6, a6, m6, c6, rfl, hT6, hp6⟩
        go_wp2_with fail
        refine (cand_node _ _ _ _ _ _).mono ?_; rintro e q6 ⟨rfl, hq6⟩
        have hn6 := node_one 6 n (by omega) h2 hp6 hT6 hq6
        have hb6a := chain HF1.out hn6.1
        have hB6 := Below.size HF1.out
        go_wp2_with (at_builtin; refine wpList_push rfl _ _ rfl q6 w.heap.size v3 noRow AC3 [] 6 n _ 1 1 _ rfl rfl (TwoT.below HRF.out hn6.1) (hn6.2.mono (TwoT.off HRF.out hB6)) (by omega) hb6a.size ?_)
        intro v6 w6 hR6 hg6 hl6
        have HB6 := Lib.hid (below_grown hb6a hb6a.size hl6 hg6)
        obtain ⟨AC6, hAC6⟩ : ∃ x, AC3 ++ [.node 6 n [pl m]] = x := ⟨_, rfl⟩
        rw [hAC6] at hR6
        have hA6 : AC6.length ≤ 16 := by rw [← hAC6, List.length_append, List.length_singleton]; omega
        have HA6 := Lib.hid hAC6
        have HR6 := Lib.hid hR6
        clear hAC6 hR6 hg6 hl6 hb6a hn6 hq6 hT6 hp6 hB6
        go_wp2_with fail
        have CA1 := Lib.hid (CA.out (by omega))
        rw [hA] at CA1
        have CI7 : Hid (∀ W, Calls Tryz.prog 99 #[.int .i64 A] W (GivesD (pl A) W)) := fun W => cand_plain 10 A W hok
        clear hA hok
        refine (CA1.out _).mono ?_; rintro e s2 ⟨rfl, rfl⟩
        go_wp2_with fail
        refine (CI7.out _).mono ?_; rintro e p7 ⟨k7, n7, a7, m7, c7, rfl, hT7, hp7⟩
        go_wp2_with fail
        refine (cand_node _ _ _ _ _ _).mono ?_; rintro e q7 ⟨rfl, hq7⟩
        have hn7 := node_one 7 n (by omega) h2 hp7 hT7 hq7
        have hb7a := chain HB6.out hn7.1
        have hB7 := Below.size HB6.out
        go_wp2_with (at_builtin; refine wpList_push rfl _ _ rfl q7 w.heap.size v6 noRow AC6 [] 7 n _ 1 1 _ rfl rfl (TwoT.below HR6.out hn7.1) (hn7.2.mono (TwoT.off HR6.out hB7)) (by omega) hb7a.size ?_)
        intro v7 w7 hR7 hg7 hl7
        have HB7 := Lib.hid (below_grown hb7a hb7a.size hl7 hg7)
        obtain ⟨AC7, hAC7⟩ : ∃ x, AC6 ++ [.node 7 n [pl A]] = x := ⟨_, rfl⟩
        rw [hAC7] at hR7
        have hA7 : AC7.length ≤ 17 := by rw [← hAC7, List.length_append, List.length_singleton]; omega
        have HA7 := Lib.hid hAC7
        have HR7 := Lib.hid hR7
        clear hAC7 hR7 hg7 hl7 hb7a hn7 hq7 hT7 hp7 hB7
        go_wp2_with fail
        go_ret2
        exact ⟨_, rfl, by rw [HE.out]; first | (rw [HA7.out]; exact HR7.out) | (rw [HA6.out, HA7.out]; exact HR7.out), HB7.out⟩
      · have HE : Hid (listT n = AC3 ++ [.node 6 n [pl m]]) := by unfold Hid; rw [HLT.out, hr, hb, HA3.out, List.append_nil]
        clear hr hb
        have CB1 := Lib.hid (CB.out h8)
        go_wp2_with fail
        refine (CF.out _).mono ?_; rintro e f1 ⟨rfl, hf1⟩
        have HF1 := Lib.hid (chain HB3.out hf1)
        have HRF := Lib.hid (HR3.out.below hf1)
        clear hf1
        go_wp2_with fail
        refine (CI6.out _).mono ?_; rintro e p6 ⟨k6, n6, a6, m6, c6, rfl, hT6, hp6⟩
        go_wp2_with fail
        refine (cand_node _ _ _ _ _ _).mono ?_; rintro e q6 ⟨rfl, hq6⟩
        have hn6 := node_one 6 n (by omega) h2 hp6 hT6 hq6
        have hb6a := chain HF1.out hn6.1
        have hB6 := Below.size HF1.out
        go_wp2_with (at_builtin; refine wpList_push rfl _ _ rfl q6 w.heap.size v3 noRow AC3 [] 6 n _ 1 1 _ rfl rfl (TwoT.below HRF.out hn6.1) (hn6.2.mono (TwoT.off HRF.out hB6)) (by omega) hb6a.size ?_)
        intro v6 w6 hR6 hg6 hl6
        have HB6 := Lib.hid (below_grown hb6a hb6a.size hl6 hg6)
        obtain ⟨AC6, hAC6⟩ : ∃ x, AC3 ++ [.node 6 n [pl m]] = x := ⟨_, rfl⟩
        rw [hAC6] at hR6
        have hA6 : AC6.length ≤ 16 := by rw [← hAC6, List.length_append, List.length_singleton]; omega
        have HA6 := Lib.hid hAC6
        have HR6 := Lib.hid hR6
        clear hAC6 hR6 hg6 hl6 hb6a hn6 hq6 hT6 hp6 hB6
        go_wp2_with fail
        refine (CB1.out _).mono ?_; rintro e s2 ⟨rfl, rfl⟩
        go_wp2_with fail
        go_ret2
        exact ⟨_, rfl, by rw [HE.out, HA6.out]; exact HR6.out, HB6.out⟩
    | false =>
      have hr : raderT n = [] := by simpa using hr
      rcases hb with ⟨h8, A, hA, hok, hb⟩ | ⟨h8, hb⟩
      · have HE : Hid (listT n = AC3 ++ [.node 7 n [pl A]]) := by unfold Hid; rw [HLT.out, hr, hb, HA3.out, List.append_nil]
        clear hr hb
        go_wp2_with fail
        refine (CF.out _).mono ?_; rintro e f1 ⟨rfl, hf1⟩
        have HF1 := Lib.hid (chain HB3.out hf1)
        have HRF := Lib.hid (HR3.out.below hf1)
        clear hf1
        go_wp2_with fail
        have CA1 := Lib.hid (CA.out (by omega))
        rw [hA] at CA1
        have CI7 : Hid (∀ W, Calls Tryz.prog 99 #[.int .i64 A] W (GivesD (pl A) W)) := fun W => cand_plain 10 A W hok
        clear hA hok
        refine (CA1.out _).mono ?_; rintro e s2 ⟨rfl, rfl⟩
        go_wp2_with fail
        refine (CI7.out _).mono ?_; rintro e p7 ⟨k7, n7, a7, m7, c7, rfl, hT7, hp7⟩
        go_wp2_with fail
        refine (cand_node _ _ _ _ _ _).mono ?_; rintro e q7 ⟨rfl, hq7⟩
        have hn7 := node_one 7 n (by omega) h2 hp7 hT7 hq7
        have hb7a := chain HF1.out hn7.1
        have hB7 := Below.size HF1.out
        go_wp2_with (at_builtin; refine wpList_push rfl _ _ rfl q7 w.heap.size v3 noRow AC3 [] 7 n _ 1 1 _ rfl rfl (TwoT.below HRF.out hn7.1) (hn7.2.mono (TwoT.off HRF.out hB7)) (by omega) hb7a.size ?_)
        intro v7 w7 hR7 hg7 hl7
        have HB7 := Lib.hid (below_grown hb7a hb7a.size hl7 hg7)
        obtain ⟨AC7, hAC7⟩ : ∃ x, AC3 ++ [.node 7 n [pl A]] = x := ⟨_, rfl⟩
        rw [hAC7] at hR7
        have hA7 : AC7.length ≤ 17 := by rw [← hAC7, List.length_append, List.length_singleton]; omega
        have HA7 := Lib.hid hAC7
        have HR7 := Lib.hid hR7
        clear hAC7 hR7 hg7 hl7 hb7a hn7 hq7 hT7 hp7 hB7
        go_wp2_with fail
        go_ret2
        exact ⟨_, rfl, by rw [HE.out]; first | (rw [HA7.out]; exact HR7.out) | (rw [HA6.out, HA7.out]; exact HR7.out), HB7.out⟩
      · have HE : Hid (listT n = AC3) := by unfold Hid; rw [HLT.out, hr, hb, HA3.out, List.append_nil, List.append_nil]
        clear hr hb
        have CB1 := Lib.hid (CB.out h8)
        go_wp2_with fail
        refine (CF.out _).mono ?_; rintro e f1 ⟨rfl, hf1⟩
        have HF1 := Lib.hid (chain HB3.out hf1)
        have HRF := Lib.hid (HR3.out.below hf1)
        clear hf1
        go_wp2_with fail
        refine (CB1.out _).mono ?_; rintro e s2 ⟨rfl, rfl⟩
        go_wp2_with fail
        go_ret2
        exact ⟨_, rfl, by rw [HE.out]; exact HRF.out, HF1.out⟩
end Go.Proofs.YtlnlijeamflpiaaGreat
namespace Go.Proofs.YtlnlijeamflpiaaGreat
open Go.RowKit
set_option linter.unusedVariables false
set_option linter.unusedSimpArgs false
set_option maxRecDepth 20000
/-- A result: a tree, and a number. -/
def GivesD2 (t : Tr) (x : Int) (w : World) (e : Ending) (w' : World) : Prop :=
  ∃ k n a m c, e = .returned (.tuple #[.agg #[.int .i64 k, .int .i64 n, .slice a m c], .int .i64 x]) ∧ IsT w' (fun _ => True) k n a m c t ∧ Below w.heap.size w w'
theorem kids_isT {w : World} {F : Nat → Prop} {a : Option Addr} {cap : Nat} {ts : List Tr} (h : Kids w F a cap ts) (ho : ∀ t ∈ ts, t.Ok) : IsT w F 0 0 a ts.length cap (.node 0 0 ts) := ⟨rfl, rfl, rfl, by simp only [Tr.Ok]; exact ⟨fits_zero, fits_zero, Tr.okL_of ho⟩, h⟩
end Go.Proofs.YtlnlijeamflpiaaGreat

namespace Go.Proofs.YtlnlijeamflpiaaGreat
open Go.RowKit
set_option linter.unusedVariables false
set_option linter.unusedSimpArgs false
set_option maxRecDepth 100000
set_option maxRecDepth 20000
theorem chk_size {t : Tr} (h : chk t = 0) : t.size ≤ 60 := by
  unfold chk at h
  by_cases hb : bigB t = true
  · rw [if_pos hb] at h; cases h
  · unfold bigB at hb
    rw [Bool.or_eq_true, not_or, decide_eq_true_eq] at hb
    omega
theorem listB_sz {n : Nat} (h : hasSz n = true) : chk (pl n) = 0 ∧ (pl n).num = n ∧ (∀ i, i < (listT n).length → chk (Tr.kid (listT n) i) = 0 ∧ (Tr.kid (listT n) i).num = n) ∧ 1 ≤ (listT n).length ∧ (listT n).length ≤ 12 ∧ differ (listT n) = true := by
  have hk := list_sz h
  unfold listB at hk
  simp only [Bool.and_eq_true, decide_eq_true_eq] at hk
  refine ⟨hk.1.1.1.1.1, hk.1.1.1.1.2, fun i hi => ?_, hk.1.1.2, hk.1.2, hk.2⟩
  have := List.all_eq_true.1 hk.1.1.1.2 _ (Tr.kid_mem hi)
  simp only [Bool.and_eq_true, decide_eq_true_eq] at this
  exact this
theorem rowKid {w : World} {F : Nat → Prop} {a : Option Addr} {m cap : Nat} {ts : List Tr} (h : IsT w F 0 0 a m cap (.node 0 0 ts)) (i : Nat) (hi : i < m) :
    ∃ b off k' n' a' m' c', a = some ⟨b, off, none⟩ ∧ F b ∧ b < w.heap.size ∧ w.cell? ⟨b, off + i * 3, none⟩ = some (.int .i64 k') ∧ w.cell? ⟨b, off + i * 3 + 1, none⟩ = some (.int .i64 n') ∧ w.cell? ⟨b, off + i * 3 + 2, none⟩ = some (.slice a' m' c') ∧
      IsT w F k' n' a' m' c' (Tr.kid ts i) := IsT.kid h i hi
end Go.Proofs.YtlnlijeamflpiaaGreat
namespace Go.Proofs.YtlnlijeamflpiaaGreat
open Go.RowKit
set_option linter.unusedVariables false
set_option linter.unusedSimpArgs false
set_option maxRecDepth 20000
end Go.Proofs.YtlnlijeamflpiaaGreat

namespace Go.Proofs.YtlnlijeamflpiaaGreat
open Go.RowKit
set_option linter.unusedVariables false
set_option linter.unusedSimpArgs false
set_option maxRecDepth 100000
set_option maxRecDepth 20000
/-- A slice reads as some trees. -/
def IsL (w : World) (F : Nat → Prop) (a : Option Addr) (m cap : Nat) (ts : List Tr) : Prop := IsT w F 0 0 a m cap (.node 0 0 ts)
theorem IsL.below {w w' : World} {F : Nat → Prop} {a : Option Addr} {m cap : Nat} {ts : List Tr} (h : IsL w F a m cap ts) (hb : Below w.heap.size w w') : IsL w' F a m cap ts := IsT.below h hb
theorem IsL.len {w : World} {F : Nat → Prop} {a : Option Addr} {m cap : Nat} {ts : List Tr} (h : IsL w F a m cap ts) : m = ts.length := IsT.em h
theorem IsL.kid {w : World} {F : Nat → Prop} {a : Option Addr} {m cap : Nat} {ts : List Tr} (h : IsL w F a m cap ts) (i : Nat) (hi : i < m) :
    ∃ b off k' n' a' m' c', a = some ⟨b, off, none⟩ ∧ F b ∧ b < w.heap.size ∧ w.cell? ⟨b, off + i * 3, none⟩ = some (.int .i64 k') ∧ w.cell? ⟨b, off + i * 3 + 1, none⟩ = some (.int .i64 n') ∧ w.cell? ⟨b, off + i * 3 + 2, none⟩ = some (.slice a' m' c') ∧
      IsT w F k' n' a' m' c' (Tr.kid ts i) := IsT.kid h i hi
/-- The place of the first of j trees that nothing is ahead of. -/
def leastAt (ts : List Tr) : Nat → Nat
  | 0 => 0
  | j + 1 => if wcmp (Tr.kid ts j) (Tr.kid ts (leastAt ts j)) < 0 then j else leastAt ts j
theorem leastAt_lt (ts : List Tr) : ∀ j, 0 < j → leastAt ts j < j
  | 0, h => by omega
  | j + 1, _ => by
    unfold leastAt
    split
    · omega
    · rcases Nat.eq_zero_or_pos j with rfl | h
      · simp [leastAt]
      · have := leastAt_lt ts j h; omega
theorem leastAt_le (ts : List Tr) (j : Nat) : leastAt ts j ≤ j := by
  rcases Nat.eq_zero_or_pos j with rfl | h
  · simp [leastAt]
  · exact Nat.le_of_lt (leastAt_lt ts j h)
/-- The same, of plans alone; below 0: there is none. -/
def leastR (ts : List Tr) : Nat → Int
  | 0 => -1
  | j + 1 => if chk (Tr.kid ts j) = 0 ∧ (leastR ts j < 0 ∨ wcmp (Tr.kid ts j) (Tr.kid ts (leastR ts j).toNat) < 0) then j else leastR ts j
theorem wcmp_plan {t u : Tr} (ht : chk t = 0) (hu : chk u ≠ 0) : wcmp t u = -1 := by
  have h1 : wt t ≤ 1152921504606846976 := by unfold wt; rw [if_pos ht]; exact (est_bd (chk_zero.1 ht).2).2
  have h2 : wt u = 1152921504606846977 := if_neg hu
  unfold wcmp cmpI
  rw [if_pos (by omega)]; rfl
theorem least_same (ts : List Tr) : ∀ j, leastR ts j = if 0 < j ∧ chk (Tr.kid ts (leastAt ts j)) = 0 then (leastAt ts j : Int) else -1
  | 0 => by simp [leastR]
  | j + 1 => by
    have ih := least_same ts j
    have hneg := leastAt_le ts j
    have e1 : leastAt ts (j + 1) = if wcmp (Tr.kid ts j) (Tr.kid ts (leastAt ts j)) < 0 then j else leastAt ts j := rfl
    have e2 : leastR ts (j + 1) = if chk (Tr.kid ts j) = 0 ∧ (leastR ts j < 0 ∨ wcmp (Tr.kid ts j) (Tr.kid ts (leastR ts j).toNat) < 0) then (j : Int) else leastR ts j := rfl
    by_cases hp : 0 < j ∧ chk (Tr.kid ts (leastAt ts j)) = 0
    · rw [if_pos hp] at ih
      rw [ih, Int.toNat_natCast] at e2
      by_cases hk : chk (Tr.kid ts j) = 0
      · by_cases hw : wcmp (Tr.kid ts j) (Tr.kid ts (leastAt ts j)) < 0
        · rw [if_pos hw] at e1
          rw [if_pos ⟨hk, .inr hw⟩] at e2
          rw [e1, e2, if_pos ⟨by omega, hk⟩]
        · rw [if_neg hw] at e1
          rw [if_neg (by rintro ⟨_, h | h⟩ <;> omega)] at e2
          rw [e1, e2, if_pos ⟨by omega, hp.2⟩]
      · have hw : ¬ wcmp (Tr.kid ts j) (Tr.kid ts (leastAt ts j)) < 0 := by
          have := wcmp_neg (Tr.kid ts (leastAt ts j)) (Tr.kid ts j)
          have h2 := wcmp_plan hp.2 hk
          omega
        rw [if_neg hw] at e1
        rw [if_neg (fun h => hk h.1)] at e2
        rw [e1, e2, if_pos ⟨by omega, hp.2⟩]
    · rw [if_neg hp] at ih
      rw [ih] at e2
      by_cases hk : chk (Tr.kid ts j) = 0
      · rw [if_pos ⟨hk, .inl (by omega)⟩] at e2
        have h3 : leastAt ts (j + 1) = j := by
          rw [e1]
          rcases Nat.eq_zero_or_pos j with rfl | hj
          · split <;> rfl
          · rw [if_pos (by rw [wcmp_plan hk (fun h => hp ⟨hj, h⟩)]; omega)]
        rw [h3, e2, if_pos ⟨by omega, hk⟩]
      · rw [if_neg (fun h => hk h.1)] at e2
        have h3 : chk (Tr.kid ts (leastAt ts (j + 1))) ≠ 0 := by
          rw [e1]
          rcases Nat.eq_zero_or_pos j with rfl | hj
          · rw [show leastAt ts 0 = 0 from rfl]; simpa using hk
          · split
            · exact hk
            · exact fun h => hp ⟨hj, h⟩
        rw [e2, if_neg (fun h => h3 h.2)]
theorem cost_LeastF (t u : Tr) (k n : Int) (a : Option Addr) (m c : Nat) (k' n' : Int) (a' : Option Addr) (m' c' : Nat) (w : World) (F G : Nat → Prop) (hs : t.size ≤ 4194304) (hu : u.size ≤ 4194304) (hT : IsT w F k n a m c t) (hU : IsT w G k' n' a' m' c' u) :
    Calls Tryz.prog 129 #[.agg #[.int .i64 k, .int .i64 n, .slice a m c], .agg #[.int .i64 k', .int .i64 n', .slice a' m' c']] w fun e w' => e = .returned (.bool (decide (wcmp t u < 0))) ∧ Below w.heap.size w w' := by
  have C : Hid (∀ W, Below w.heap.size w W → Calls Tryz.prog 54 #[.agg #[.int .i64 k, .int .i64 n, .slice a m c], .agg #[.int .i64 k', .int .i64 n', .slice a' m' c']] W fun e w' => e = .returned (.int .i64 (wcmp t u)) ∧ Below W.heap.size W w') := fun W hb => cost_Cmp t u _ _ _ _ _ _ _ _ _ _ W _ _ hs hu (hT.below hb) (hU.below hb)
  obtain ⟨X, hX⟩ : ∃ X, wcmp t u = X := ⟨_, rfl⟩
  rw [hX] at C ⊢
  clear hX hT hU
  go_enter Tryz.func129, Tryz.ntmps129
  go_wp2_with fail
  refine (C.out _ (((Below.refl _ _).alloc (Nat.le_refl _) _).alloc (by simp) _)).mono ?_; rintro e w1 ⟨rfl, hb1⟩
  have hb := chain (((Below.refl w.heap.size w).alloc (Nat.le_refl _) _).alloc (by simp) _) hb1
  clear hb1
  go_wp2_with fail
  go_ret
  exact ⟨rfl, hb⟩
set_option maxHeartbeats 2000000 in
theorem row_least (ts : List Tr) (a : Option Addr) (m cap : Nat) (w : World) (F : Nat → Prop) (hm : m ≤ 4194304) (hs : ∀ i, i < m → (Tr.kid ts i).size ≤ 4194304) (hL : IsL w F a m cap ts) :
    Calls Tryz.prog 130 #[.agg #[.slice a m cap, .func (.func 129) #[] #[]]] w fun e w' => e = .returned (.int .i64 (leastAt ts m : Nat)) ∧ Below w.heap.size w w' := by
  have HL := Lib.hid hL
  have HS := Lib.hid hs
  obtain ⟨V, hV⟩ : ∃ V, leastAt ts m = V := ⟨_, rfl⟩
  rw [hV]
  have HV := Lib.hid hV
  have hbx : (w.alloc (.cells #[.slice a m cap, .func (.func 129) #[] #[]] 130)).heap[w.heap.size]? = some (.cells #[.slice a m cap, .func (.func 129) #[] #[]] 130 (0, 0)) := block_new rfl
  have HBX := Lib.hid hbx
  clear hL hs hV hbx
  go_enter Tryz.func130, Tryz.ntmps130
  go_wp2_with fail
  go_loopw [3, 8] (fun v i wr => ∃ j q : Nat, j ≤ m ∧ i = .int .i64 j ∧ v = .int .i64 q ∧ Hid (q = leastAt ts j) ∧ (q < j ∨ j = 0 ∧ q = 0) ∧ Below w.heap.size w wr ∧ Hid (wr.heap[w.heap.size]? = some (.cells #[.slice a m cap, .func (.func 129) #[] #[]] 130 (0, 0)))) (fun _ i _ => m - (intOf i).toNat)
  case atStart => exact ⟨0, 0, Nat.zero_le _, rfl, rfl, rfl, .inr ⟨rfl, rfl⟩, (Below.refl _ _).alloc (Nat.le_refl _) _, HBX.out⟩
  case round =>
    obtain ⟨j, q, hj, rfl, rfl, HQ, hq, hbel, HX⟩ := hrel
    by_cases hlt : j < m
    · have hqm : q < m := by omega
      obtain ⟨b, off, k1, n1, a1, m1, c1, rfl, hF, hbl, h0, h1, h2, hT⟩ := (HL.out.below hbel).kid j hlt
      obtain ⟨b', off', k2, n2, a2, m2, c2, hab, hF', hbl', g0, g1, g2, hU⟩ := (HL.out.below hbel).kid q hqm
      simp only [Option.some.injEq, Addr.mk.injEq, and_true] at hab
      obtain ⟨rfl, rfl⟩ := hab
      have CK : Hid (∀ W, Below wr.heap.size wr W → Calls Tryz.prog 129 #[.agg #[.int .i64 k1, .int .i64 n1, .slice a1 m1 c1], .agg #[.int .i64 k2, .int .i64 n2, .slice a2 m2 c2]] W fun e w' => e = .returned (.bool (decide (wcmp (Tr.kid ts j) (Tr.kid ts q) < 0))) ∧ Below W.heap.size W w') :=
        fun W hb => cost_LeastF _ _ _ _ _ _ _ _ _ _ _ _ W _ _ (HS.out j hlt) (HS.out q hqm) (hT.below hb) (hU.below hb)
      have HN : Hid (leastAt ts (j + 1) = if wcmp (Tr.kid ts j) (Tr.kid ts q) < 0 then j else q) := by
        unfold Hid; rw [HQ.out]; rfl
      obtain ⟨X, hX⟩ : ∃ X, wcmp (Tr.kid ts j) (Tr.kid ts q) = X := ⟨_, rfl⟩
      rw [hX] at CK HN
      have b0 : wr.cell? ⟨w.heap.size, 0, none⟩ = some (.slice (some ⟨b, off, none⟩) m cap) := block_cell HX.out 0
      have b1 : wr.cell? ⟨w.heap.size, 1, none⟩ = some (.func (.func 129) #[] #[]) := block_cell HX.out 1
      have i0 : (0 : Int) ≤ (j : Int) := by omega
      have i1 : (j : Int) < (m : Int) := by omega
      have i2 : (0 : Int) ≤ (q : Int) := by omega
      have i3 : (q : Int) < (m : Int) := by omega
      have hlx := block_lt HX.out
      have HBE := Lib.hid hbel
      have HQL := Lib.hid hq
      have hb : Below wr.heap.size wr wr.drew := (Below.refl _ _).drew
      clear hT hU hF hF' hX HQ hbel hq
      by_cases hx : X < 0
      · have d1 : decide (X < 0) = true := by simp; omega
        rw [d1] at CK
        have HN2 : Hid (leastAt ts (j + 1) = j) := by unfold Hid; rw [HN.out, if_pos hx]
        clear HN
        go_wp2_with fail
        go_region_held3 (fun w' => (w'.cell? ⟨w.heap.size, 0, none⟩ = some (.slice (some ⟨b, off, none⟩) m cap) ∧ w'.cell? ⟨w.heap.size, 1, none⟩ = some (.func (.func 129) #[] #[])) ∧ (w'.cell? ⟨b, off + j * 3, none⟩ = some (.int .i64 k1) ∧ w'.cell? ⟨b, off + j * 3 + 1, none⟩ = some (.int .i64 n1) ∧ w'.cell? ⟨b, off + j * 3 + 2, none⟩ = some (.slice a1 m1 c1)) ∧ (w'.cell? ⟨b, off + q * 3, none⟩ = some (.int .i64 k2) ∧ w'.cell? ⟨b, off + q * 3 + 1, none⟩ = some (.int .i64 n2) ∧ w'.cell? ⟨b, off + q * 3 + 2, none⟩ = some (.slice a2 m2 c2))) (first | exact ⟨⟨b0, b1⟩, ⟨h0, h1, h2⟩, g0, g1, g2⟩ | exact ⟨⟨(hb.cell (p := ⟨w.heap.size, 0, none⟩) hlx).trans b0, (hb.cell (p := ⟨w.heap.size, 1, none⟩) hlx).trans b1⟩, ⟨(hb.cell (p := ⟨b, off + j * 3, none⟩) hbl).trans h0, (hb.cell (p := ⟨b, off + j * 3 + 1, none⟩) hbl).trans h1, (hb.cell (p := ⟨b, off + j * 3 + 2, none⟩) hbl).trans h2⟩, (hb.cell (p := ⟨b, off + q * 3, none⟩) hbl).trans g0, (hb.cell (p := ⟨b, off + q * 3 + 1, none⟩) hbl).trans g1, (hb.cell (p := ⟨b, off + q * 3 + 2, none⟩) hbl).trans g2⟩) ((first | (go_at_call 129; ((with_reducible refine (CK.out _ hb).mono ?_); rintro e z ⟨rfl, hc⟩; have hb := chain hb hc))))
        have HXZ := Lib.hid ((hb.block _ hlx).trans HX.out)
        have HBZ := Lib.hid (chain HBE.out hb)
        clear hb b0 b1 h0 h1 h2 g0 g1 g2
        go_wp2_with fail
        go_roundw
        case rel => exact ⟨j + 1, j, by omega, by go_num, rfl, HN2.out.symm, by have := HQL.out; omega, HBZ.out, HXZ.out⟩
        case measure => simp [intOf]; omega
      · have d1 : decide (X < 0) = false := by simp; omega
        rw [d1] at CK
        have HN2 : Hid (leastAt ts (j + 1) = q) := by unfold Hid; rw [HN.out, if_neg hx]
        clear HN
        go_wp2_with fail
        go_region_held3 (fun w' => (w'.cell? ⟨w.heap.size, 0, none⟩ = some (.slice (some ⟨b, off, none⟩) m cap) ∧ w'.cell? ⟨w.heap.size, 1, none⟩ = some (.func (.func 129) #[] #[])) ∧ (w'.cell? ⟨b, off + j * 3, none⟩ = some (.int .i64 k1) ∧ w'.cell? ⟨b, off + j * 3 + 1, none⟩ = some (.int .i64 n1) ∧ w'.cell? ⟨b, off + j * 3 + 2, none⟩ = some (.slice a1 m1 c1)) ∧ (w'.cell? ⟨b, off + q * 3, none⟩ = some (.int .i64 k2) ∧ w'.cell? ⟨b, off + q * 3 + 1, none⟩ = some (.int .i64 n2) ∧ w'.cell? ⟨b, off + q * 3 + 2, none⟩ = some (.slice a2 m2 c2))) (first | exact ⟨⟨b0, b1⟩, ⟨h0, h1, h2⟩, g0, g1, g2⟩ | exact ⟨⟨(hb.cell (p := ⟨w.heap.size, 0, none⟩) hlx).trans b0, (hb.cell (p := ⟨w.heap.size, 1, none⟩) hlx).trans b1⟩, ⟨(hb.cell (p := ⟨b, off + j * 3, none⟩) hbl).trans h0, (hb.cell (p := ⟨b, off + j * 3 + 1, none⟩) hbl).trans h1, (hb.cell (p := ⟨b, off + j * 3 + 2, none⟩) hbl).trans h2⟩, (hb.cell (p := ⟨b, off + q * 3, none⟩) hbl).trans g0, (hb.cell (p := ⟨b, off + q * 3 + 1, none⟩) hbl).trans g1, (hb.cell (p := ⟨b, off + q * 3 + 2, none⟩) hbl).trans g2⟩) ((first | (go_at_call 129; ((with_reducible refine (CK.out _ hb).mono ?_); rintro e z ⟨rfl, hc⟩; have hb := chain hb hc))))
        have HXZ := Lib.hid ((hb.block _ hlx).trans HX.out)
        have HBZ := Lib.hid (chain HBE.out hb)
        clear hb b0 b1 h0 h1 h2 g0 g1 g2
        go_wp2_with fail
        go_roundw
        case rel => exact ⟨j + 1, q, by omega, by go_num, rfl, HN2.out.symm, by have := HQL.out; omega, HBZ.out, HXZ.out⟩
        case measure => simp [intOf]; omega
    · obtain rfl : j = m := by omega
      have HZ : Hid (q = V) := by rw [← HV.out]; exact HQ.out
      clear HQ
      go_wp2_with fail
      go_ret
      exact ⟨by simp [HZ.out], hbel⟩
/-- What the program says of the least. -/
def leastV (r : Int) : Value := .tuple #[.int .i64 (if r < 0 then 0 else r), .bool (decide (0 ≤ r))]
theorem leastV_no {r : Int} (h : r = -1) : leastV r = .tuple #[.int .i64 0, .bool false] := by subst h; rfl
theorem leastV_yes {r : Int} (h : 0 ≤ r) : leastV r = .tuple #[.int .i64 r, .bool true] := by unfold leastV; rw [if_neg (by omega), decide_eq_true h]
set_option maxHeartbeats 2000000 in
theorem cost_Least (ts : List Tr) (a : Option Addr) (m cap : Nat) (w : World) (F : Nat → Prop) (hm : m ≤ 4194304) (hs : ∀ i, i < m → (Tr.kid ts i).size ≤ 4194304) (hL : IsL w F a m cap ts) :
    Calls Tryz.prog 106 #[.slice a m cap] w fun e w' => e = .returned (leastV (leastR ts m)) ∧ Below w.heap.size w w' := by
  have CL : Hid (∀ W, Below w.heap.size w W → Calls Tryz.prog 130 #[.agg #[.slice a m cap, .func (.func 129) #[] #[]]] W fun e w' => e = .returned (.int .i64 (leastAt ts m : Nat)) ∧ Below W.heap.size W w') := fun W hb => row_least ts a m cap W F hm hs (hL.below hb)
  have HE := Lib.hid (least_same ts m)
  have HL := Lib.hid hL
  have HS := Lib.hid hs
  have hql : 0 < m → leastAt ts m < m := fun h => leastAt_lt ts m h
  obtain ⟨q, hq⟩ : ∃ q, leastAt ts m = q := ⟨_, rfl⟩
  rw [hq] at CL HE hql
  clear hq hL hs
  by_cases h0 : m = 0
  · have HR : Hid (leastR ts m = -1) := by unfold Hid; rw [HE.out, if_neg (by omega)]
    rw [leastV_no HR.out]
    subst h0
    clear HE HR hql
    go_enter Tryz.func106, Tryz.ntmps106
    go_wp2_with fail
    refine (CL.out _ ((Below.refl _ _).alloc (Nat.le_refl _) _)).mono ?_; rintro e w1 ⟨rfl, hb1⟩
    have hb := chainA (Below.refl w.heap.size w) hb1
    clear hb1
    go_wp2_with fail
    go_ret2
    exact ⟨rfl, hb⟩
  · have hqm := hql (by omega)
    obtain ⟨b, off, k1, n1, a1, m1, c1, rfl, hF, hbl, h0', h1, h2, hT⟩ := HL.out.kid q hqm
    have CC : Hid (∀ W, Below w.heap.size w W → Calls Tryz.prog 57 #[.agg #[.int .i64 k1, .int .i64 n1, .slice a1 m1 c1]] W fun e w' => e = .returned (.int .i64 (chk (Tr.kid ts q))) ∧ Below W.heap.size W w') := fun W hb => valid_Check _ _ _ _ _ _ W F (HS.out q hqm) (hT.below hb)
    have t0 : ((m : Int) == 0) = false := bno (by omega)
    have i2 : (0 : Int) ≤ (q : Int) := by omega
    have i3 : (q : Int) < (m : Int) := by omega
    have H0 := Lib.hid h0'
    have H1 := Lib.hid h1
    have H2 := Lib.hid h2
    by_cases hc : chk (Tr.kid ts q) = 0
    · have HR : Hid (leastR ts m = q) := by unfold Hid; rw [HE.out, if_pos ⟨by omega, hc⟩]
      rw [leastV_yes (by rw [HR.out]; omega), HR.out]
      rw [hc] at CC
      clear HE HR hql hT hF hc h0' h1 h2 h0
      go_enter Tryz.func106, Tryz.ntmps106
      go_wp2_with fail
      refine (CL.out _ ((Below.refl _ _).alloc (Nat.le_refl _) _)).mono ?_; rintro e w1 ⟨rfl, hb1⟩
      have hb := chainA (Below.refl w.heap.size w) hb1
      have g0 := (hb.cell (p := ⟨b, off + q * 3, none⟩) hbl).trans H0.out
      have g1 := (hb.cell (p := ⟨b, off + q * 3 + 1, none⟩) hbl).trans H1.out
      have g2 := (hb.cell (p := ⟨b, off + q * 3 + 2, none⟩) hbl).trans H2.out
      have HB := Lib.hid hb
      clear hb1 hb
      go_wp2_with fail
      refine (CC.out _ HB.out).mono ?_; rintro e w2 ⟨rfl, hb2⟩
      have hbe := chain HB.out hb2
      clear hb2
      go_wp2_with fail
      go_ret2
      exact ⟨rfl, hbe⟩
    · have HR : Hid (leastR ts m = -1) := by unfold Hid; rw [HE.out, if_neg (fun h => hc h.2)]
      rw [leastV_no HR.out]
      have t1 : (chk (Tr.kid ts q) != 0) = true := bdiff hc
      obtain ⟨C, hC⟩ : ∃ C, chk (Tr.kid ts q) = C := ⟨_, rfl⟩
      rw [hC] at CC t1
      clear HE HR hql hT hF hc h0' h1 h2 h0 hC
      go_enter Tryz.func106, Tryz.ntmps106
      go_wp2_with fail
      refine (CL.out _ ((Below.refl _ _).alloc (Nat.le_refl _) _)).mono ?_; rintro e w1 ⟨rfl, hb1⟩
      have hb := chainA (Below.refl w.heap.size w) hb1
      have g0 := (hb.cell (p := ⟨b, off + q * 3, none⟩) hbl).trans H0.out
      have g1 := (hb.cell (p := ⟨b, off + q * 3 + 1, none⟩) hbl).trans H1.out
      have g2 := (hb.cell (p := ⟨b, off + q * 3 + 2, none⟩) hbl).trans H2.out
      have HB := Lib.hid hb
      clear hb1 hb
      go_wp2_with fail
      refine (CC.out _ HB.out).mono ?_; rintro e w2 ⟨rfl, hb2⟩
      have hbe := chain HB.out hb2
      clear hb2
      go_wp2_with fail
      go_ret2
      exact ⟨rfl, hbe⟩
end Go.Proofs.YtlnlijeamflpiaaGreat

namespace Go.Proofs.YtlnlijeamflpiaaGreat
open Go.RowKit
set_option linter.unusedVariables false
set_option linter.unusedSimpArgs false
set_option maxRecDepth 100000
set_option maxRecDepth 20000
theorem TwoT.since {w : World} {B : Nat} {v : Value} {ts : List Tr} (h : TwoT w B v noRow ts []) : ∃ a cap, v = .slice a ts.length cap ∧ Kids w (Since B) a cap ts ∧ (∀ t ∈ ts, t.Ok) := by
  obtain ⟨xs, ys, h1, _, h3, _⟩ := h
  obtain ⟨a, cap, rfl, _⟩ := own_slice2 h1
  exact ⟨a, cap, rfl, kids_of_own h1 h3 rfl (fun b hb => hb.1) (fun g hg => (h1.lt g (by rw [hg]; rfl)).1), h3.ok⟩
theorem leastR_plans {ts : List Tr} (h1 : 1 ≤ ts.length) (h : ∀ i, i < ts.length → chk (Tr.kid ts i) = 0) : leastR ts ts.length = (leastAt ts ts.length : Nat) := by
  rw [least_same, if_pos ⟨by omega, h _ (leastAt_lt ts _ (by omega))⟩]
set_option maxHeartbeats 1000000 in
theorem cand_Best (n : Nat) (w : World) (h : hasSz n = true) : Calls Tryz.prog 80 #[.int .i64 n] w (GivesD2 (Tr.kid (listT n) (leastAt (listT n) (listT n).length)) 0 w) := by
  obtain ⟨_, _, g2, g3, g4, _⟩ := listB_sz h
  have C2 : Hid (∀ W, Calls Tryz.prog 63 #[.int .i64 n] W (GivesTs2 (listT n) 0 W)) := fun W => cand_List n W h
  obtain ⟨ts, hts⟩ : ∃ ts, listT n = ts := ⟨_, rfl⟩
  rw [hts] at C2 g2 g3 g4 ⊢
  have hR := leastR_plans g3 fun i hi => (g2 i hi).1
  have hA := leastAt_lt ts ts.length (by omega)
  have HSZ : Hid (∀ i, i < ts.length → (Tr.kid ts i).size ≤ 4194304) := fun i hi => by have := chk_size (g2 i hi).1; omega
  obtain ⟨L, hL⟩ : ∃ L, ts.length = L := ⟨_, rfl⟩
  rw [hL] at hR hA g3 g4 HSZ ⊢
  have HLL := Lib.hid hL
  obtain ⟨at', hat⟩ : ∃ x, leastAt ts L = x := ⟨_, rfl⟩
  rw [hat] at hR hA ⊢
  have HRR := Lib.hid hR
  clear h hts g2 hL hat hR
  obtain ⟨W0, hW0, hb0, x0⟩ := zbox w 48
  have hs0 : Hid (W0.heap.size = w.heap.size + 1) := by unfold Hid; rw [← hW0]; simp
  have HB0 := Lib.hid hb0
  have X0 := Lib.hid x0
  clear hb0 x0
  go_enter Tryz.func80, Tryz.ntmps80
  go_wp2_with fail
  refine (C2.out _).mono ?_; rintro e w1 ⟨v, rfl, hT, hb1⟩
  obtain ⟨a3, c3, rfl, hK, hok⟩ := hT.since
  have hL1 := kids_isT hK hok
  rw [HLL.out] at hL1 ⊢
  have HL1 := Lib.hid hL1
  have HB1 := Lib.hid (chain HB0.out hb1)
  have X1 := Lib.hid ((hb1.block _ (block_lt X0.out)).trans X0.out)
  have CM : Hid (Calls Tryz.prog 106 #[.slice a3 L c3] w1 fun e w' => e = .returned (.tuple #[.int .i64 (at' : Nat), .bool true]) ∧ Below w1.heap.size w1 w') := by
    have := cost_Least ts a3 L c3 w1 _ (by omega) HSZ.out hL1
    rwa [HRR.out, leastV_yes (by omega)] at this
  clear hK hok hL1 hb1 hT
  go_wp2_with fail
  refine CM.out.mono ?_; rintro e w2 ⟨rfl, hb2⟩
  have HB2 := Lib.hid (chain HB1.out hb2)
  have X2 := Lib.hid ((hb2.block _ (block_lt X1.out)).trans X1.out)
  obtain ⟨b1, o1, k1, q1, a1, m1, c1, rfl, _, _, u0, u1, u2, hTa⟩ := rowKid (HL1.out.below hb2) at' hA
  have HT1 := Lib.hid (hTa.mono (G := Since (w.heap.size + 1)) fun b hb => by unfold Since at hb ⊢; have := hs0.out; omega)
  obtain ⟨q0, q1', q2, f0, f1, f2⟩ := zfacts X2.out
  clear hb2 hTa
  go_wp2_with fail
  obtain ⟨w', hw', hb, r0, r1, r2, hT⟩ := fin_node HB2.out X2.out HT1.out
  rw [hw']
  exact bodyPost_ret (v := .tuple #[.agg #[.int .i64 k1, .int .i64 q1, .slice a1 m1 c1], .int .i64 0]) (by simp [results, Tryz.results80, go_sem, r0, r1, r2]) rfl ⟨_, _, _, _, _, rfl, hT.mono fun _ _ => trivial, hb⟩
end Go.Proofs.YtlnlijeamflpiaaGreat

namespace Go.Proofs.YtlnlijeamflpiaaGreat
open Go.RowKit Sm
set_option linter.unusedVariables false
set_option linter.unusedSimpArgs false
set_option maxRecDepth 100000
set_option maxRecDepth 20000
theorem poly_Size_no (n : Int) (w : World) (h : n < 1 ∨ 16777216 < n) (hn : -9223372036854775808 ≤ n ∧ n < 9223372036854775808) :
    Calls Tryz.prog 20 #[.int .i64 n] w fun e w' => e = .returned (.tuple #[.int .i64 0, .int .i64 3]) ∧ w = w' := by
  by_cases h1 : n < 1
  · have t1 : decide (n < 1) = true := decide_eq_true h1
    clear h h1
    go_enter Tryz.func20, Tryz.ntmps20
    go_wp2_with fail
    go_ret2
    exact ⟨rfl, rfl⟩
  · have t1 : decide (n < 1) = false := decide_eq_false h1
    have t2 : decide (n > 16777216) = true := decide_eq_true (by omega)
    clear h h1
    go_enter Tryz.func20, Tryz.ntmps20
    go_wp2_with fail
    go_ret2
    exact ⟨rfl, rfl⟩
set_option maxHeartbeats 1000000 in
theorem poly_Size (n : Nat) (w : World) (h1 : 1 ≤ n) (h2 : n ≤ 16777216) :
    Calls Tryz.prog 20 #[.int .i64 n] w fun e w' => e = .returned (.tuple #[.int .i64 (szN n), .int .i64 0]) ∧ w = w' := by
  have t1 : decide ((n : Int) < 1) = false := decide_eq_false (by omega)
  have t2 : decide ((n : Int) > 16777216) = false := decide_eq_false (by omega)
  obtain ⟨R, hR⟩ : ∃ R, szN n = R := ⟨_, rfl⟩
  rw [hR]
  have HR := Lib.hid hR
  clear hR
  go_enter Tryz.func20, Tryz.ntmps20
  go_wp2_with fail
  go_loopw [0] (fun i wr => ∃ j : Nat, 1 ≤ j ∧ j ≤ 16777216 ∧ i = .int .i64 j ∧ Hid (szN j = R) ∧ wr = w) (fun i _ => 16777217 - (intOf i).toNat)
  case atStart => exact ⟨n, h1, h2, rfl, HR.out, rfl⟩
  case round =>
    obtain ⟨j, hj1, hj2, rfl, HJ, rfl⟩ := hrel
    by_cases hs : hasSz (j : Int) = true
    · have HE : Hid (j = R) := by have := HJ.out; rw [szN_yes hs] at this; exact this
      have HS := Lib.hid hs
      clear hs
      go_wp2_with fail
      refine (rootHas_yes _ _ HS.out).mono ?_; rintro e w1 ⟨rfl, rfl⟩
      go_wp2_with fail
      go_ret2
      exact ⟨by rw [HE.out]; rfl, rfl⟩
    · have hs : hasSz (j : Int) = false := by simpa using hs
      have hno := szN_no hs hj2
      have HE : Hid (szN (j + 1) = R) := by have := HJ.out; rw [hno.2] at this; exact this
      have hlt := hno.1
      have HS := Lib.hid hs
      clear hs hno
      go_wp2_with fail
      refine (rootHas_no _ _ HS.out (by omega)).mono ?_; rintro e w1 ⟨rfl, rfl⟩
      go_wp2_with fail
      go_roundw
      case rel => exact ⟨j + 1, by omega, by omega, by go_num, HE.out, by first | rfl | trivial⟩
      case measure => simp [intOf]; omega
set_option maxHeartbeats 1000000 in
/-- A row's transform. -/
theorem poly_forth (a : Option Addr) (N c : Nat) (xs : List Int) (w : World) (hx : Row .u64 w a xs) (hn : xs.length = N) (hs : hasSz (N : Int) = true) :
    Calls Tryz.prog 48 #[.slice a N c] w (GivesRow .u64 (dftL xs (dirRt N 0)) w) := by
  obtain ⟨t, ht⟩ : ∃ t, Tr.kid (listT N) (leastAt (listT N) (listT N).length) = t := ⟨_, rfl⟩
  have hl := listB_sz hs
  have hlt := leastAt_lt (listT N) (listT N).length (by omega)
  have hck := hl.2.2.1 _ hlt
  rw [ht] at hck
  have hN : N ≤ 16777216 := by have := hasSz_bd hs; omega
  have CB : Hid (∀ W, Calls Tryz.prog 80 #[.int .i64 N] W (GivesD2 t 0 W)) := fun W => by rw [← ht]; exact cand_Best N W hs
  have HX := Lib.hid hx
  have CE : Hid (∀ (k n : Int) (a' : Option Addr) (m c' : Nat) (V : World), Below w.heap.size w V → IsT V (fun _ => True) k n a' m c' t → Calls Tryz.prog 81 #[.agg #[.int .i64 k, .int .i64 n, .slice a' m c'], .int .i64 0, .slice a N c] V fun e w' => (∃ a cap, e = .returned (.tuple #[.slice a N cap, .int .i64 0]) ∧ Row .u64 w' a (dftL xs (dirRt N 0)) ∧ OkCap a N cap) ∧ Below V.heap.size V w') := fun k n a' m c' V hV hT => by
    have herr : errX t 0 n N = 0 := by
      unfold errX errN
      rw [if_neg (fun e => e (by rw [if_neg (by omega)]; exact hck.1)), if_neg (fun e => e (by rw [hT.en, hck.2]))]
    refine (exec_Do t k n a' m c' 0 a N c xs V _ (Nat.le_trans (chk_size hck.1) (by omega)) hT (hx.below hV) hn hN).mono ?_
    rintro e w' ⟨hg, hb⟩
    exact ⟨hg.1 herr, hb⟩
  have HL : Hid ((dftL xs (dirRt N 0)).length = N) := (dftL_len _ _).trans hn
  obtain ⟨Y, hY⟩ : ∃ Y, dftL xs (dirRt N 0) = Y := ⟨_, rfl⟩
  rw [hY] at CE HL ⊢
  clear ht hl hlt hck hx hY hs
  go_enter Tryz.func48, Tryz.ntmps48
  go_wp2_with fail
  refine (CB.out _).mono ?_; rintro e w1 ⟨k, n, a1, m, c1, rfl, hT, hb1⟩
  obtain ⟨V, hV, hbV, x0⟩ := box_any w1 #[.int .i64 k, .int .i64 n, .slice a1 m c1] 48
  have D0 : V.cell? ⟨w1.heap.size, 0, none⟩ = some (.int .i64 k) := block_cell x0 0
  have D1 : V.cell? ⟨w1.heap.size, 1, none⟩ = some (.int .i64 n) := block_cell x0 1
  have D2 : V.cell? ⟨w1.heap.size, 2, none⟩ = some (.slice a1 m c1) := block_cell x0 2
  rw [← hV] at D0 D1 D2
  have HV := Lib.hid hV
  have HT := Lib.hid (hT.below hbV)
  have HB1 := Lib.hid (chain hb1 hbV)
  clear hT hb1 hV hbV x0
  go_wp2_with fail
  rw [HV.out]
  clear D0 D1 D2
  refine (CE.out _ _ _ _ _ _ HB1.out HT.out).mono ?_; rintro e w2 ⟨⟨a2, cap2, rfl, hr2, ho2⟩, hb2⟩
  have HR2 := Lib.hid hr2
  have HB2 := Lib.hid (chain HB1.out hb2)
  have HO2 := Lib.hid ho2
  clear hr2 hb2 ho2
  go_wp2_with fail
  go_ret
  exact ⟨a2, cap2, by rw [HL.out]; rfl, HR2.out, by rw [HL.out]; exact HO2.out, HB2.out⟩
set_option maxHeartbeats 1000000 in
theorem poly_back (a : Option Addr) (N c : Nat) (xs : List Int) (w : World) (hx : Row .u64 w a xs) (hn : xs.length = N) (hs : hasSz (N : Int) = true) :
    Calls Tryz.prog 75 #[.slice a N c] w (GivesRow .u64 (scaleL (revL (dftL xs (dirRt N 0))) (invN N)) w) := by
  have hN : N ≤ 16777216 := by have := hasSz_bd hs; omega
  have HX := Lib.hid hx
  have CF : Hid (∀ V, Below w.heap.size w V → Calls Tryz.prog 48 #[.slice a N c] V (GivesRow .u64 (dftL xs (dirRt N 0)) V)) := fun V hV => poly_forth a N c xs V (hx.below hV) hn hs
  have HL : Hid ((dftL xs (dirRt N 0)).length = N) := (dftL_len _ _).trans hn
  obtain ⟨Y, hY⟩ : ∃ Y, dftL xs (dirRt N 0) = Y := ⟨_, rfl⟩
  rw [hY] at CF HL ⊢
  have HL2 : Hid ((revL Y).length = N) := (show (revL Y).length = Y.length by simp [revL]).trans HL.out
  have hiv := pw_range (N : Int) 18446744069414584319
  have HI : Hid (pw (N : Int) 18446744069414584319 = invN N) := rfl
  have hw : IntKind.u64.wrap (N : Int) = (N : Int) := IntWalk.u64_in _ (by omega)
  clear hx hY hs hn
  go_enter Tryz.func75, Tryz.ntmps75
  go_wp2_with fail
  refine (CF.out _ (Below.refl _ _)).mono ?_; rintro e w1 ⟨a1, c1, rfl, hr1, _, hb1⟩
  rw [HL.out]
  have HR1 := Lib.hid hr1
  have HB1 := Lib.hid hb1
  clear hr1 hb1
  go_wp2_with fail
  refine (vec_RevN a1 N c1 Y _ HR1.out HL.out (by rw [HL.out]; omega)).mono ?_; rintro e w2 ⟨a2, c2, rfl, hr2, _, hb2⟩
  rw [HL2.out]
  have HR2 := Lib.hid hr2
  have HB2 := Lib.hid (chain HB1.out hb2)
  clear hr2 hb2
  go_wp2_with fail
  refine (gold_Inv (N : Int) _ (by omega) (by omega)).mono ?_; rintro e w3 ⟨rfl, rfl⟩
  rw [HI.out] at hiv ⊢
  obtain ⟨I, hI⟩ : ∃ I, invN N = I := ⟨_, rfl⟩
  have HII := Lib.hid hI
  rw [hI] at hiv ⊢
  clear hI
  go_wp2_with fail
  refine (vec_ScaleN a2 N c2 (revL Y) I _ HR2.out HL2.out (by rw [HL2.out]; omega) (by omega) (by omega)).mono ?_; rintro e w4 ⟨a4, c4, rfl, hr4, ho4, hb4⟩
  have HB4 := Lib.hid (chain HB2.out hb4)
  have HR4 := Lib.hid hr4
  have HO4 := Lib.hid ho4
  clear hr4 hb4 ho4
  go_wp2_with fail
  go_ret
  exact ⟨a4, c4, by rw [HII.out]; rfl, by rw [HII.out]; exact HR4.out, by rw [HII.out]; exact HO4.out, HB4.out⟩
set_option maxHeartbeats 1000000 in
/-- A product around. -/
theorem poly_around (a b : Option Addr) (N c c' : Nat) (xs ys : List Int) (w : World) (hx : Row .u64 w a xs) (hy : Row .u64 w b ys) (hn : xs.length = N) (hm : ys.length = N) (hs : hasSz (N : Int) = true) :
    Calls Tryz.prog 42 #[.slice a N c, .slice b N c'] w (GivesRow .u64 (cvL xs ys N) w) := by
  have hN : N ≤ 16777216 := by have := hasSz_bd hs; omega
  rw [← around_eq xs ys N hn hm hs]
  unfold arL
  have CF : Hid (∀ V, Below w.heap.size w V → Calls Tryz.prog 48 #[.slice a N c] V (GivesRow .u64 (dftL xs (dirRt N 0)) V)) := fun V hV => poly_forth a N c xs V (hx.below hV) hn hs
  have CG : Hid (∀ V, Below w.heap.size w V → Calls Tryz.prog 48 #[.slice b N c'] V (GivesRow .u64 (dftL ys (dirRt N 0)) V)) := fun V hV => poly_forth b N c' ys V (hy.below hV) hm hs
  have HL : Hid ((dftL xs (dirRt N 0)).length = N) := (dftL_len _ _).trans hn
  have HM : Hid ((dftL ys (dirRt N 0)).length = N) := (dftL_len _ _).trans hm
  obtain ⟨Y, hY⟩ : ∃ Y, dftL xs (dirRt N 0) = Y := ⟨_, rfl⟩
  obtain ⟨Z, hZ⟩ : ∃ Z, dftL ys (dirRt N 0) = Z := ⟨_, rfl⟩
  rw [hY] at CF HL ⊢
  rw [hZ] at CG HM ⊢
  have HQ : Hid ((mulL Y Z).length = N) := (zipL_len _ _ _).trans HL.out
  have HS := Lib.hid hs
  obtain ⟨Q, hQ⟩ : ∃ Q, mulL Y Z = Q := ⟨_, rfl⟩
  have HQQ := Lib.hid hQ
  rw [hQ] at HQ ⊢
  clear hx hy hY hZ hs hn hm hQ
  go_enter Tryz.func42, Tryz.ntmps42
  go_wp2_with fail
  refine (CF.out _ (Below.refl _ _)).mono ?_; rintro e w1 ⟨a1, c1, rfl, hr1, _, hb1⟩
  rw [HL.out]
  have HR1 := Lib.hid hr1
  have HB1 := Lib.hid hb1
  clear hr1 hb1
  go_wp2_with fail
  refine (CG.out _ HB1.out).mono ?_; rintro e w2 ⟨a2, c2, rfl, hr2, _, hb2⟩
  rw [HM.out]
  have HR2 := Lib.hid hr2
  have HR12 := Lib.hid (HR1.out.below hb2)
  have HB2 := Lib.hid (chain HB1.out hb2)
  clear hr2 hb2
  go_wp2_with fail
  refine (vec_Mul a1 a2 N N c1 c2 Y Z _ HR12.out HR2.out HL.out HM.out rfl hN).mono ?_; rintro e w3 ⟨a3, c3, rfl, hr3, _, hb3⟩
  rw [HQQ.out] at hr3 ⊢
  rw [HQ.out]
  have HR3 := Lib.hid hr3
  have HB3 := Lib.hid (chain HB2.out hb3)
  clear hr3 hb3
  go_wp2_with fail
  refine (poly_back a3 N c3 Q _ HR3.out HQ.out HS.out).mono ?_; rintro e w4 ⟨a4, c4, rfl, hr4, ho4, hb4⟩
  have HB4 := Lib.hid (chain HB3.out hb4)
  have HR4 := Lib.hid hr4
  have HO4 := Lib.hid ho4
  clear hr4 hb4 ho4
  go_wp2_with fail
  go_ret
  exact ⟨a4, c4, rfl, HR4.out, HO4.out, HB4.out⟩
end Go.Proofs.YtlnlijeamflpiaaGreat

namespace Go.Proofs.YtlnlijeamflpiaaGreat
open Go.RowKit Sm
set_option linter.unusedVariables false
set_option linter.unusedSimpArgs false
set_option maxRecDepth 100000
set_option maxRecDepth 20000
theorem poly_Around_len (a b : Option Addr) (n m c c' : Nat) (w : World) (h : n ≠ m) :
    Calls Tryz.prog 12 #[.slice a n c, .slice b m c'] w fun e w' => e = .returned (.tuple #[.slice none 0 0, .int .i64 5]) ∧ w = w' := by
  have t1 : ((n : Int) != (m : Int)) = true := bdiff (by omega)
  clear h
  go_enter Tryz.func12, Tryz.ntmps12
  go_wp2_with fail
  go_ret2
  exact ⟨rfl, rfl⟩
theorem poly_Around_no (a b : Option Addr) (n c c' : Nat) (w : World) (h : hasSz (n : Int) = false) (hn : n ≤ 9223372036854775807) :
    Calls Tryz.prog 12 #[.slice a n c, .slice b n c'] w fun e w' => e = .returned (.tuple #[.slice none 0 0, .int .i64 4]) ∧ w = w' := by
  have t1 : ((n : Int) != (n : Int)) = false := bfalse' rfl
  have HS := Lib.hid h
  clear h
  go_enter Tryz.func12, Tryz.ntmps12
  go_wp2_with fail
  refine (rootHas_no _ _ HS.out (by omega)).mono ?_; rintro e w1 ⟨rfl, rfl⟩
  go_wp2_with fail
  go_ret2
  exact ⟨rfl, rfl⟩
set_option maxHeartbeats 1000000 in
theorem poly_Around (a b : Option Addr) (n c c' : Nat) (xs ys : List Int) (w : World) (hx : Row .u64 w a xs) (hy : Row .u64 w b ys) (hn : xs.length = n) (hm : ys.length = n) (hs : hasSz (n : Int) = true) (hl : n ≤ 4096) :
    Calls Tryz.prog 12 #[.slice a n c, .slice b n c'] w (GivesRowE .u64 (cvL xs ys n) 0 w) := by
  have t1 : ((n : Int) != (n : Int)) = false := bfalse' rfl
  have t2 : decide ((n : Int) > 4096) = false := decide_eq_false (by omega)
  have HS := Lib.hid hs
  have CA : Hid (Calls Tryz.prog 42 #[.slice a n c, .slice b n c'] w (GivesRow .u64 (cvL xs ys n) w)) := poly_around a b n c c' xs ys w hx hy hn hm hs
  have HL : Hid ((cvL xs ys n).length = n) := cvL_len _ _ _
  obtain ⟨Q, hQ⟩ : ∃ Q, cvL xs ys n = Q := ⟨_, rfl⟩
  rw [hQ] at CA HL ⊢
  clear hs hx hy hn hm hQ
  go_enter Tryz.func12, Tryz.ntmps12
  go_wp2_with fail
  refine (rootHas_yes _ _ HS.out).mono ?_; rintro e w1 ⟨rfl, rfl⟩
  go_wp2_with fail
  refine CA.out.mono ?_; rintro e w1 ⟨a1, c1, rfl, hr1, ho1, hb1⟩
  have HR := Lib.hid hr1
  have HB := Lib.hid hb1
  clear hr1 hb1
  go_wp2_with fail
  go_ret2
  exact ⟨a1, c1, rfl, HR.out, ho1, HB.out⟩
set_option maxHeartbeats 2000000 in
theorem poly_mul (a b : Option Addr) (n m c c' : Nat) (xs ys : List Int) (w : World) (hx : Row .u64 w a xs) (hy : Row .u64 w b ys) (hn : xs.length = n) (hm : ys.length = m) (hn0 : 0 < n) (hm0 : 0 < m) (hl : n + m ≤ 16777216) :
    Calls Tryz.prog 40 #[.slice a n c, .slice b m c'] w (GivesRow .u64 (lnL xs ys) w) := by
  obtain ⟨K, hK⟩ : ∃ K, n + m - 1 = K := ⟨_, rfl⟩
  have hk : IntKind.i64.wrap (IntKind.i64.wrap ((n : Int) + (m : Int)) - 1) = (K : Int) := by
    rw [IntWalk.i64_in ((n : Int) + (m : Int)) (by omega), IntWalk.i64_in _ (by omega)]; omega
  have hk1 : IntKind.i64.wrap ((n : Int) + (m : Int)) = ((K + 1 : Nat) : Int) := by rw [IntWalk.i64_in _ (by omega)]; omega
  have hsz := szN_ok (show K ≤ 16777216 by omega)
  obtain ⟨M, hM⟩ : ∃ M, szN K = M := ⟨_, rfl⟩
  have CS : Hid (∀ W, Calls Tryz.prog 20 #[.int .i64 K] W fun e w' => e = .returned (.tuple #[.int .i64 M, .int .i64 0]) ∧ W = w') := fun W => by rw [← hM]; exact poly_Size K W (by omega) (by omega)
  rw [hM] at hsz
  obtain ⟨hs1, hs2, hs3⟩ := hsz
  have CP : Hid (∀ V, Below w.heap.size w V → Calls Tryz.prog 73 #[.slice a n c, .int .i64 M] V (GivesRowE .u64 (padL xs M) 0 V)) := fun V hV => conv_Pad_ok a n c M xs V (hx.below hV) hn (by omega) hs2
  have CQ : Hid (∀ V, Below w.heap.size w V → Calls Tryz.prog 73 #[.slice b m c', .int .i64 M] V (GivesRowE .u64 (padL ys M) 0 V)) := fun V hV => conv_Pad_ok b m c' M ys V (hy.below hV) hm (by omega) hs2
  have HP1 : Hid ((padL xs M).length = M) := padL_len _ _ (by omega)
  have HP2 : Hid ((padL ys M).length = M) := padL_len _ _ (by omega)
  have hpad := pad_ln xs ys M (by omega) (by rw [hn, hm, hK]; exact hs1)
  rw [hn, hm, hK] at hpad
  rw [← hpad]
  have HLQ : Hid ((cvL (padL xs M) (padL ys M) M).length = M) := cvL_len _ _ _
  obtain ⟨X, hX⟩ : ∃ X, padL xs M = X := ⟨_, rfl⟩
  obtain ⟨Y, hY⟩ : ∃ Y, padL ys M = Y := ⟨_, rfl⟩
  rw [hX] at CP HP1 HLQ ⊢
  rw [hY] at CQ HP2 HLQ ⊢
  have HS := Lib.hid hs3
  have hK1 : 1 ≤ K := by omega
  have HLT : Hid (((cvL X Y M).take K).length = K) := by unfold Hid; rw [List.length_take, HLQ.out]; omega
  have hc1 : ((K + 1 : Nat) : Int) - 1 = (K : Int) := by omega
  have hw2 : IntKind.i64.wrap (K : Int) = (K : Int) := IntWalk.i64_in _ (by omega)
  clear hx hy hX hY hs3 hpad hM hK hn hm
  go_enter Tryz.func40, Tryz.ntmps40
  go_wp2_with fail
  refine (CS.out _).mono ?_; rintro e w1 ⟨rfl, rfl⟩
  go_wp2_with fail
  refine (CP.out _ (Below.refl _ _)).mono ?_; rintro e w1 ⟨a1, c1, rfl, hr1, _, hb1⟩
  rw [HP1.out]
  have HR1 := Lib.hid hr1
  have HB1 := Lib.hid hb1
  clear hr1 hb1
  go_wp2_with fail
  refine (CQ.out _ HB1.out).mono ?_; rintro e w2 ⟨a2, c2, rfl, hr2, _, hb2⟩
  rw [HP2.out]
  have HR2 := Lib.hid hr2
  have HR12 := Lib.hid (HR1.out.below hb2)
  have HB2 := Lib.hid (chain HB1.out hb2)
  clear hr2 hb2
  go_wp2_with fail
  refine (poly_around a1 a2 M c1 c2 X Y _ HR12.out HR2.out HP1.out HP2.out HS.out).mono ?_; rintro e w3 ⟨a3, c3, rfl, hr3, ho3, hb3⟩
  obtain ⟨b0, off, rfl, _⟩ := hr3.at (by rw [HLQ.out]; omega)
  rw [HLQ.out] at ho3 ⊢
  have hc := ho3.1
  have hcut := hr3.cut 0 K
  rw [List.drop_zero, Nat.add_zero] at hcut
  have HC := Lib.hid hcut
  have HB3 := Lib.hid (chain HB2.out hb3)
  have hkc : K ≤ c3 := by omega
  clear hr3 hb3 hcut
  go_wp2_with fail
  go_ret
  exact ⟨_, K, by rw [HLT.out]; rfl, HC.out, by rw [HLT.out]; exact ⟨Nat.le_refl _, fun e => by cases e⟩, HB3.out⟩
theorem poly_Mul_nil (a b : Option Addr) (n m c c' : Nat) (w : World) (h : n = 0 ∨ m = 0) (hl : n ≤ 4096) (hl2 : m ≤ 4096) :
    Calls Tryz.prog 11 #[.slice a n c, .slice b m c'] w fun e w' => e = .returned (.tuple #[.slice none 0 0, .int .i64 0]) ∧ w = w' := by
  have t1 : decide ((n : Int) > 4096) = false := decide_eq_false (by omega)
  have t2 : decide ((m : Int) > 4096) = false := decide_eq_false (by omega)
  by_cases h0 : n = 0
  · subst h0
    clear h
    go_enter Tryz.func11, Tryz.ntmps11
    go_wp2_with fail
    go_ret2
    exact ⟨rfl, rfl⟩
  · obtain rfl : m = 0 := by omega
    have t3 : ((n : Int) == 0) = false := bno (by omega)
    clear h h0
    go_enter Tryz.func11, Tryz.ntmps11
    go_wp2_with fail
    go_ret2
    exact ⟨rfl, rfl⟩
theorem poly_Mul_big (a b : Option Addr) (n m c c' : Nat) (w : World) (h : 4096 < n) (hn : n ≤ 9223372036854775807) (hm : m ≤ 9223372036854775807) :
    Calls Tryz.prog 11 #[.slice a n c, .slice b m c'] w fun e w' => e = .returned (.tuple #[.slice none 0 0, .int .i64 12]) ∧ w = w' := by
  have t1 : decide ((n : Int) > 4096) = true := decide_eq_true (by omega)
  clear h
  go_enter Tryz.func11, Tryz.ntmps11
  go_wp2_with fail
  go_ret2
  exact ⟨rfl, rfl⟩
set_option maxHeartbeats 1000000 in
theorem poly_Mul (a b : Option Addr) (n m c c' : Nat) (xs ys : List Int) (w : World) (hx : Row .u64 w a xs) (hy : Row .u64 w b ys) (hn : xs.length = n) (hm : ys.length = m) (hl : n ≤ 4096) (hl2 : m ≤ 4096) :
    Calls Tryz.prog 11 #[.slice a n c, .slice b m c'] w (GivesRowE .u64 (lnL xs ys) 0 w) := by
  by_cases h0 : n = 0 ∨ m = 0
  · refine (poly_Mul_nil a b n m c c' w h0 hl hl2).mono ?_
    rintro e w' ⟨rfl, rfl⟩
    rw [lnL_nil _ _ (by rw [hn, hm]; exact h0)]
    exact ⟨none, 0, rfl, Row.nil _ _ _, ⟨Nat.le_refl _, by simp⟩, Below.refl _ _⟩
  have CA : Hid (Calls Tryz.prog 40 #[.slice a n c, .slice b m c'] w (GivesRow .u64 (lnL xs ys) w)) := poly_mul a b n m c c' xs ys w hx hy hn hm (by omega) (by omega) (by omega)
  have t1 : decide ((n : Int) > 4096) = false := decide_eq_false (by omega)
  have t2 : decide ((m : Int) > 4096) = false := decide_eq_false (by omega)
  have t3 : ((n : Int) == 0) = false := bno (by omega)
  have t4 : ((m : Int) == 0) = false := bno (by omega)
  obtain ⟨Q, hQ⟩ : ∃ Q, lnL xs ys = Q := ⟨_, rfl⟩
  rw [hQ] at CA ⊢
  clear hx hy hn hm hQ h0
  go_enter Tryz.func11, Tryz.ntmps11
  go_wp2_with fail
  refine CA.out.mono ?_; rintro e w1 ⟨a1, c1, rfl, hr1, ho1, hb1⟩
  have HR := Lib.hid hr1
  have HB := Lib.hid hb1
  clear hr1 hb1
  go_wp2_with fail
  go_ret2
  exact ⟨a1, c1, rfl, HR.out, ho1, HB.out⟩
theorem poly_Eval2_no (a : Option Addr) (n c : Nat) (m : Int) (w : World) (h : hasSz m = false) (hm : -9223372036854775808 ≤ m ∧ m < 9223372036854775808) :
    Calls Tryz.prog 21 #[.slice a n c, .int .i64 m] w fun e w' => e = .returned (.tuple #[.slice none 0 0, .int .i64 4]) ∧ w = w' := by
  have HS := Lib.hid h
  clear h
  go_enter Tryz.func21, Tryz.ntmps21
  go_wp2_with fail
  refine (rootHas_no _ _ HS.out hm).mono ?_; rintro e w1 ⟨rfl, rfl⟩
  go_wp2_with fail
  go_ret2
  exact ⟨rfl, rfl⟩
theorem poly_Eval2_big (a : Option Addr) (n c : Nat) (m : Int) (w : World) (h : hasSz m = true) (hm : 4096 < m) :
    Calls Tryz.prog 21 #[.slice a n c, .int .i64 m] w fun e w' => e = .returned (.tuple #[.slice none 0 0, .int .i64 12]) ∧ w = w' := by
  have HS := Lib.hid h
  have t1 : decide (m > 4096) = true := decide_eq_true (by omega)
  clear h hm
  go_enter Tryz.func21, Tryz.ntmps21
  go_wp2_with fail
  refine (rootHas_yes _ _ HS.out).mono ?_; rintro e w1 ⟨rfl, rfl⟩
  go_wp2_with fail
  go_ret2
  exact ⟨rfl, rfl⟩
set_option maxHeartbeats 1000000 in
theorem poly_Eval2 (a : Option Addr) (n c m : Nat) (xs : List Int) (w : World) (hx : Row .u64 w a xs) (hn : xs.length = n) (hl : n ≤ 16777216) (hs : hasSz (m : Int) = true) (hm : m ≤ 4096) :
    Calls Tryz.prog 21 #[.slice a n c, .int .i64 m] w (GivesRowE .u64 (dftL (wrL xs m) (dirRt m 0)) 0 w) := by
  have hb := hasSz_bd hs
  have HS := Lib.hid hs
  have t1 : decide ((m : Int) > 4096) = false := decide_eq_false (by omega)
  have CW : Hid (Calls Tryz.prog 47 #[.slice a n c, .int .i64 m] w (GivesRowE .u64 (wrL xs m) 0 w)) := conv_Wrap_ok a n c m xs w hx hn hl (by omega) (by omega)
  have HL : Hid ((wrL xs m).length = m) := wrL_len _ _
  obtain ⟨Q, hQ⟩ : ∃ Q, wrL xs m = Q := ⟨_, rfl⟩
  rw [hQ] at CW HL ⊢
  clear hs hx hn hQ
  go_enter Tryz.func21, Tryz.ntmps21
  go_wp2_with fail
  refine (rootHas_yes _ _ HS.out).mono ?_; rintro e w1 ⟨rfl, rfl⟩
  go_wp2_with fail
  refine CW.out.mono ?_; rintro e w1 ⟨a1, c1, rfl, hr1, _, hb1⟩
  rw [HL.out]
  have HR1 := Lib.hid hr1
  have HB1 := Lib.hid hb1
  clear hr1 hb1
  go_wp2_with fail
  refine (poly_forth a1 m c1 Q _ HR1.out HL.out HS.out).mono ?_; rintro e w2 ⟨a2, c2, rfl, hr2, ho2, hb2⟩
  have HR2 := Lib.hid hr2
  have HB2 := Lib.hid (chain HB1.out hb2)
  clear hr2 hb2
  go_wp2_with fail
  go_ret2
  exact ⟨a2, c2, rfl, HR2.out, ho2, HB2.out⟩
end Go.Proofs.YtlnlijeamflpiaaGreat

namespace Go.Proofs.YtlnlijeamflpiaaGreat
open Go.RowKit Sm
set_option linter.unusedVariables false
set_option linter.unusedSimpArgs false
set_option maxRecDepth 100000
set_option maxRecDepth 20000
set_option maxHeartbeats 1600000 in
theorem poly_Eval (a : Option Addr) (n cap : Nat) (xs : List Int) (st : Int) (w : World) (hx : Row .u64 w a xs) (hn : xs.length = n) (hl : n ≤ 16777216) (hz0 : 0 ≤ st) (hz1 : st < 18446744073709551616) :
    Calls Tryz.prog 15 #[.slice a n cap, .int .u64 st] w fun e w' => e = .returned (.int .u64 (pt xs st)) ∧ Below w.heap.size w w' := by
  subst hn
  have HX := Lib.hid hx
  clear hx
  go_enter Tryz.func15, Tryz.ntmps15
  go_wp2_with fail
  go_loopw [5, 6] (fun s i wr => ∃ (j : Nat) (t : Int), j ≤ xs.length ∧ i = .int .i64 ((j : Int) - 1) ∧ s = .int .u64 t ∧ 0 ≤ t ∧ t < 18446744069414584321 ∧ Hid (t = hor xs st j % 18446744069414584321) ∧ Below w.heap.size w wr) (fun _ i _ => (intOf i + 1).toNat)
  case atStart => exact ⟨xs.length, 0, Nat.le_refl _, rfl, rfl, by omega, by omega, by unfold Hid; rw [hor_end]; rfl, Below.refl _ _⟩
  case round =>
    obtain ⟨j', t, hj, rfl, rfl, ht0, ht1, H, hb⟩ := hrel
    by_cases hj0 : 1 ≤ j'
    · obtain ⟨j, rfl⟩ : ∃ j, j' = j + 1 := ⟨j' - 1, by omega⟩
      obtain ⟨b, off, rfl, hc⟩ := (HX.out.below hb).at (by omega)
      have hck := hc j (by omega)
      have hf := fits_u64.1 (HX.out.wf _ (nth_mem (show j < xs.length by omega)))
      have j1 : (0 : Int) ≤ (j : Int) := by omega
      have j2 : (j : Int) < (xs.length : Int) := by omega
      clear hc
      go_wp2_with fail
      go_quiet ((first | (go_at_call 46; exact mul_quiet _ _ _ _ (by omega) (by omega) (by omega) (by omega)) | (go_at_call 45; exact add_quiet _ _ _ _ (by omega) (by omega) (by omega) (by omega))))
      go_wp2_with fail
      go_roundw
      case rel => exact ⟨j, _, by omega, by go_num, rfl, by omega, by omega, by unfold Hid; first | exact hor_t xs st j t (by omega) H.out | (rw [← hor_t xs st j t (by omega) H.out, Int.emod_add_emod]), below_drewN hb _⟩
      case measure => simp [intOf]
    · obtain rfl : j' = 0 := by omega
      go_wp2_with fail
      go_ret
      exact ⟨ret_int (by rw [H.out, hor_zero]), hb⟩
set_option maxHeartbeats 1600000 in
theorem ref44_Eval (a : Option Addr) (n cap : Nat) (xs : List Int) (z : Int) (w : World) (hx : Row .u64 w a xs) (hn : xs.length = n) (hl : n ≤ 16777216) (hz0 : 0 ≤ z) (hz1 : z < 18446744073709551616) :
    Calls Tryz.prog 16 #[.slice a n cap, .int .u64 z] w fun e w' => e = .returned (.int .u64 (pt xs z)) ∧ w = w' := by
  subst hn
  have HX := Lib.hid hx
  have HPM := Lib.hid (pt_mod xs z)
  obtain ⟨st, hst⟩ : ∃ st, z % 18446744069414584321 = st := ⟨_, rfl⟩
  have hs0 : 0 ≤ st ∧ st < 18446744069414584321 := by omega
  rw [hst] at HPM
  have CR : Hid (∀ W : World, Calls Tryz.prog 44 #[.int .u64 z] W fun e w' => e = .returned (.int .u64 st) ∧ W = w') := fun W => by rw [← hst]; exact ref_Red z W hz0 hz1
  have HST := Lib.hid hst
  clear hx hst
  go_enter Tryz.func16, Tryz.ntmps16
  go_wp2_with fail
  go_loop [5, 6, 7] (fun s p i => ∃ (j : Nat) (t q : Int), j ≤ xs.length ∧ i = .int .i64 j ∧ s = .int .u64 t ∧ p = .int .u64 q ∧ 0 ≤ t ∧ t < 18446744069414584321 ∧ 0 ≤ q ∧ q < 18446744069414584321 ∧ Hid (t = S j (fun i => nth xs i * st ^ i) % 18446744069414584321) ∧ Hid (q = pw st j)) (fun _ _ i => xs.length - (intOf i).toNat)
  case atStart => exact ⟨0, 0, 1, Nat.zero_le _, rfl, rfl, rfl, by omega, by omega, by omega, by omega, rfl, (pw_0 st).symm⟩
  case round =>
    obtain ⟨j, t, q, hj, rfl, rfl, rfl, ht0, ht1, hq0, hq1, H, HQ⟩ := hrel
    by_cases hlt : j < xs.length
    · obtain ⟨b, off, rfl, hc⟩ := HX.out.at (by omega)
      have hck := hc j (by omega)
      have hf := fits_u64.1 (HX.out.wf _ (nth_mem hlt))
      clear hc
      go_wp2_with (first | (go_at_call 44; refine (ref_Red _ _ (by omega) (by omega)).mono ?_; rintro e w' ⟨rfl, rfl⟩) | (go_at_call 17; refine (ref_Mul _ _ _ (by omega) (by omega) (by omega) (by omega)).mono ?_; rintro e w' ⟨rfl, rfl⟩) | (go_at_call 43; refine (ref_Add _ _ _ (by omega) (by omega) (by omega) (by omega)).mono ?_; rintro e w' ⟨rfl, rfl⟩))
      go_round
      case rel =>
        refine ⟨j + 1, _, _, by omega, by go_num, rfl, rfl, by omega, by omega, by omega, by omega, ?_, ?_⟩
        · have h := S_step xs st j t H.out
          rw [← HQ.out] at h
          unfold Hid
          rw [← h]
          try omega
        · have := HQ.out; unfold Hid; rw [HST.out, this, pw_succ]
      case measure => simp [intOf]; omega
    · obtain rfl : j = xs.length := by omega
      go_wp2_with fail
      go_ret
      exact ⟨ret_int (by rw [H.out, ← HPM.out]; rfl), rfl⟩
set_option maxHeartbeats 1000000 in
theorem ref44_Size (n : Nat) (w : World) (h2 : n ≤ 16777216) :
    Calls Tryz.prog 22 #[.int .i64 n] w fun e w' => e = .returned (.int .i64 (szN n)) ∧ w = w' := by
  obtain ⟨R, hR⟩ : ∃ R, szN n = R := ⟨_, rfl⟩
  rw [hR]
  have HR := Lib.hid hR
  clear hR
  go_enter Tryz.func22, Tryz.ntmps22
  go_wp2_with fail
  go_loopw [0] (fun i wr => ∃ j : Nat, j ≤ 16777216 ∧ i = .int .i64 j ∧ Hid (szN j = R) ∧ wr = w) (fun i _ => 16777217 - (intOf i).toNat)
  case atStart => exact ⟨n, h2, rfl, HR.out, rfl⟩
  case round =>
    obtain ⟨j, hj2, rfl, HJ, rfl⟩ := hrel
    by_cases hs : hasSz (j : Int) = true
    · have HE : Hid (j = R) := by have := HJ.out; rw [szN_yes hs] at this; exact this
      have HS := Lib.hid hs
      clear hs
      go_wp2_with fail
      refine (refHas_yes _ _ HS.out).mono ?_; rintro e w1 ⟨rfl, rfl⟩
      go_wp2_with fail
      go_ret
      exact ⟨ret_int (by rw [HE.out]), rfl⟩
    · have hs : hasSz (j : Int) = false := by simpa using hs
      have hno := szN_no hs hj2
      have HE : Hid (szN (j + 1) = R) := by have := HJ.out; rw [hno.2] at this; exact this
      have hlt := hno.1
      have HS := Lib.hid hs
      clear hs hno
      go_wp2_with fail
      refine (refHas_no _ _ HS.out (by omega)).mono ?_; rintro e w1 ⟨rfl, rfl⟩
      go_wp2_with fail
      go_roundw
      case rel => exact ⟨j + 1, by omega, by go_num, HE.out, by first | rfl | trivial⟩
      case measure => simp [intOf]; omega
theorem row_one (w : World) (b : Nat) (h : w.cell? ⟨b, 0, none⟩ = some (.int .u64 1)) : Row .u64 w (some ⟨b, 0, none⟩) [1] := by
  refine ⟨by simp, fun x hx => ?_, .inr ⟨b, 0, rfl, fun i hi => ?_⟩⟩
  · have : x = 1 := List.mem_singleton.1 hx
    subst this; exact fits_u64.2 (by omega)
  · obtain rfl : i = 0 := by simp at hi; omega
    exact h
end Go.Proofs.YtlnlijeamflpiaaGreat

