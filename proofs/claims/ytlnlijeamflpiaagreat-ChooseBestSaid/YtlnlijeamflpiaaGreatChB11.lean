/- The contracts and plain laws that the statements ChooseFirst ChooseMeasures ChooseBest need, part 11 of 11: ChoJ ChoK ChoM. -/
import Derived.Test.YtlnlijeamflpiaaGreatChB10
namespace Go.Proofs.YtlnlijeamflpiaaGreat
open Go.RowKit
set_option linter.unusedVariables false
set_option linter.unusedSimpArgs false
set_option maxRecDepth 100000
set_option maxRecDepth 20000
theorem kid_take (ts : List Tr) (q i : Nat) (h : i < q) : Tr.kid (ts.take q) i = Tr.kid ts i := by simp [Tr.kid, List.getD, List.getElem?_take, h]
theorem Kids.take {w : World} {F : Nat → Prop} {a : Option Addr} {cap : Nat} {ks : List Tr} (h : Kids w F a cap ks) (q : Nat) : Kids w F a cap (ks.take q) := by
  cases h with
  | nil => simpa using Kids.nil
  | empty a cap => simpa using Kids.empty a cap
  | row b off cap ks A C hpos hl hF h0 h1 h2 hk =>
    by_cases hq : 0 < q
    · have hlt : ∀ i, i < (ks.take q).length → i < ks.length ∧ i < q := fun i hi => by rw [List.length_take] at hi; omega
      refine .row b off cap _ A C (by rw [List.length_take]; omega) (by rw [List.length_take]; omega) hF (fun i hi => ?_) (fun i hi => ?_) (fun i hi => ?_) (fun i hi => ?_)
      · rw [kid_take _ _ _ (hlt i hi).2]; exact h0 i (hlt i hi).1
      · rw [kid_take _ _ _ (hlt i hi).2]; exact h1 i (hlt i hi).1
      · rw [kid_take _ _ _ (hlt i hi).2]; exact h2 i (hlt i hi).1
      · rw [kid_take _ _ _ (hlt i hi).2]; exact hk i (hlt i hi).1
    · rw [show q = 0 by omega, List.take_zero]; exact .empty _ _
theorem IsL.take {w : World} {F : Nat → Prop} {a : Option Addr} {m cap : Nat} {ts : List Tr} (h : IsL w F a m cap ts) (q : Nat) (hq : q ≤ m) : IsL w F a q cap (ts.take q) := by
  have hl := h.len
  have ho : ∀ t ∈ ts.take q, t.Ok := fun t ht => Tr.ok_mem (List.mem_of_mem_take ht) (Tr.ok_kids (IsT.ok h))
  have h2 : Kids w F a cap (ts.take q) := Kids.take (show Kids w F a cap ts from IsT.kids h) q
  have := kids_isT h2 ho
  rwa [List.length_take, ← hl, Nat.min_eq_left hq] at this
theorem firstR_congr (ts us : List Tr) (xs ys : List Int) (m : Nat) (ht : ∀ i, i < m → Tr.kid ts i = Tr.kid us i) (hx : ∀ i, i < m → nth xs i = nth ys i) : ∀ j, j ≤ m → firstR ts xs j = firstR us ys j := by
  intro j
  induction j with
  | zero => intro _; rfl
  | succ j ih =>
    intro hj
    have h1 := ih (by omega)
    have h2 := firstR_le us ys j
    show (if aheadR ts xs j (firstR ts xs j) then j else firstR ts xs j) = (if aheadR us ys j (firstR us ys j) then j else firstR us ys j)
    rw [h1]
    have : aheadR ts xs j (firstR us ys j) ↔ aheadR us ys j (firstR us ys j) := by
      unfold aheadR
      rw [ht j (by omega), hx j (by omega), ht (firstR us ys j) (by omega), hx (firstR us ys j) (by omega)]
    by_cases hc : aheadR us ys j (firstR us ys j)
    · rw [if_pos hc, if_pos (this.2 hc)]
    · rw [if_neg hc, if_neg (fun h => hc (this.1 h))]
theorem nth_takeQ (ys : List Int) (q i : Nat) (h : i < q) : nth (ys.take q) i = nth ys i := by simp [nth, List.getD, List.getElem?_take, h]
theorem take_snocI {ys : List Int} {k : Nat} (h : k < ys.length) : ys.take (k + 1) = ys.take k ++ [nth ys k] := by
  rw [List.take_succ_eq_append_getElem h]; simp [nth, h]
theorem three_at {w W : World} {b o0 o1 o2 : Nat} {x y z : Value} (h : w.cell? ⟨b, o0, none⟩ = some x ∧ w.cell? ⟨b, o1, none⟩ = some y ∧ w.cell? ⟨b, o2, none⟩ = some z) (hb : Below w.heap.size w W) : W.cell? ⟨b, o0, none⟩ = some x ∧ W.cell? ⟨b, o1, none⟩ = some y ∧ W.cell? ⟨b, o2, none⟩ = some z := by
  obtain ⟨h0, h1, h2⟩ := h
  exact ⟨(hb.cell (World.block_lt_of_cell? w _ h0)).trans h0, (hb.cell (World.block_lt_of_cell? w _ h1)).trans h1, (hb.cell (World.block_lt_of_cell? w _ h2)).trans h2⟩
theorem four_own {w W : World} {b o0 o1 o2 c o3 : Nat} {x y z u : Value} (h : (w.cell? ⟨b, o0, none⟩ = some x ∧ w.cell? ⟨b, o1, none⟩ = some y ∧ w.cell? ⟨b, o2, none⟩ = some z) ∧ w.cell? ⟨c, o3, none⟩ = some u) (hb : Below w.heap.size w W) : (W.cell? ⟨b, o0, none⟩ = some x ∧ W.cell? ⟨b, o1, none⟩ = some y ∧ W.cell? ⟨b, o2, none⟩ = some z) ∧ W.cell? ⟨c, o3, none⟩ = some u := by
  obtain ⟨⟨h0, h1, h2⟩, h3⟩ := h
  exact ⟨⟨(hb.cell (World.block_lt_of_cell? w _ h0)).trans h0, (hb.cell (World.block_lt_of_cell? w _ h1)).trans h1, (hb.cell (World.block_lt_of_cell? w _ h2)).trans h2⟩, (hb.cell (World.block_lt_of_cell? w _ h3)).trans h3⟩
theorem four_off {w W : World} {r : Option Nat} {b o0 o1 o2 c o3 : Nat} {x y z u : Value} (h : (w.cell? ⟨b, o0, none⟩ = some x ∧ w.cell? ⟨b, o1, none⟩ = some y ∧ w.cell? ⟨b, o2, none⟩ = some z) ∧ w.cell? ⟨c, o3, none⟩ = some u) (hg : w.grownBy W r) (h1 : some b ≠ r) (h2 : some c ≠ r) : (W.cell? ⟨b, o0, none⟩ = some x ∧ W.cell? ⟨b, o1, none⟩ = some y ∧ W.cell? ⟨b, o2, none⟩ = some z) ∧ W.cell? ⟨c, o3, none⟩ = some u := by
  obtain ⟨⟨k0, k1, k2⟩, k3⟩ := h
  exact ⟨⟨hg.cell (a := ⟨b, o0, none⟩) k0 h1, hg.cell (a := ⟨b, o1, none⟩) k1 h1, hg.cell (a := ⟨b, o2, none⟩) k2 h1⟩, hg.cell (a := ⟨c, o3, none⟩) k3 h2⟩
set_option maxHeartbeats 8000000 in
theorem chooseFirstW (ts : List Tr) (a : Option Addr) (m c : Nat) (b : Option Addr) (cb : Nat) (ys : List Int) (w : World) (hs : Tr.sizeL ts ≤ 1048576) (hT' : IsT w (fun _ => True) 0 0 a m c (.node 0 0 ts)) (hx : Row .i64 w b ys) (hoc : OkCap b ys.length cb) :
    Calls Tryz.prog 7 #[.slice a m c, .slice b ys.length cb] w fun e w' => e = .returned (.bool true) ∧ Below w.heap.size w w' := by
  have hL : IsL w (Lt w.heap.size) a m c ts := hT'.lt
  clear hT'
  have hsz : ∀ i, i < m → (Tr.kid ts i).size ≤ 1048576 := fun i hi => Nat.le_trans (Tr.size_mem (Tr.kid_mem (by rw [← hL.len]; exact hi))) hs
  have HL := Lib.hid hL
  have HS := Lib.hid hsz
  have HX := Lib.hid hx
  obtain ⟨n, hn⟩ : ∃ n, ys.length = n := ⟨_, rfl⟩
  rw [hn] at hoc ⊢
  have HXL := Lib.hid hn
  have hnb : n ≤ 9223372036854775807 := by have := hx.len; omega
  have hcap := (IsT.kids hL).cap
  have hml : ts.length = m := hL.len.symm
  have hcap' : OkCap a ts.length c := hcap
  rw [hml] at hcap'
  clear hs hsz hL hx hn hcap
  by_cases h20 : 20 < m
  · have d1 : decide ((m : Int) > 20) = true := decide_eq_true (by omega)
    clear hml
    go_enter Tryz.func7, Tryz.ntmps7
    go_wp2_with fail
    refine (live21 _).mono ?_; rintro e v2 ⟨rfl, hbl⟩
    go_wp2_with fail
    go_ret
    exact ⟨rfl, hbl⟩
  have d1 : decide ((m : Int) > 20) = false := decide_eq_false (by omega)
  have hm : m ≤ 20 := by omega
  have HML := Lib.hid hml
  have HCAP := Lib.hid hcap'
  clear h20 hml hcap'
  go_enter Tryz.func7, Tryz.ntmps7
  go_wp2_with fail
  go_loopw [5, 6] (fun v i wr => ∃ j : Nat, j ≤ m ∧ j ≤ n ∧ i = .int .i64 j ∧ Hid (RunsO wr w.heap.size (Lt w.heap.size) v (ts.take j) (ys.take j)) ∧ Below w.heap.size w wr) (fun _ i _ => m - (intOf i).toNat)
  case atStart => exact ⟨0, Nat.zero_le _, Nat.zero_le _, rfl, RunsO.none _ _ _, Below.refl _ _⟩
  case round =>
    obtain ⟨j, hj, hjn, rfl, HR, hbel⟩ := hrel
    have HTL : Hid ((ts.take j).length = j) := by unfold Hid; rw [List.length_take, HML.out]; omega
    have hv : ∃ av cv, u5 = .slice av j cv := by
      have := HR.out.len
      rw [HTL.out] at this
      exact this
    obtain ⟨av, cv, rfl⟩ := hv
    by_cases hlt : j < m ∧ j < n
    · obtain ⟨hlt, hltn⟩ := hlt
      obtain ⟨bl, off, k1, n1, a1, m1, c1, rfl, hFb, hbl, hcu, hT⟩ := kids_cells (HL.out.below hbel) j hlt
      have hblw : bl < w.heap.size := hFb
      obtain ⟨bx, ox, rfl, hc⟩ := (HX.out.below hbel).at (by rw [HXL.out]; omega)
      have cj := hc j (by rw [HXL.out]; omega)
      have hbxw : bx < w.heap.size := by
        obtain ⟨b2, o2, e2, hc2⟩ := HX.out.at (by rw [HXL.out]; omega)
        injection e2 with e2; injection e2 with e2 e3
        rw [e2]; exact World.block_lt_of_cell? w _ (hc2 0 (by rw [HXL.out]; omega))
      have hyf := HX.out.wf (nth ys j) (nth_mem (by rw [HXL.out]; omega))
      have CM : Hid (Calls Tryz.prog 28 #[.agg #[.int .i64 k1, .int .i64 n1, .slice a1 m1 c1]] wr fun e w' => e = .returned (.bool (decide (80 < (Tr.kid ts j).size))) ∧ Below wr.heap.size wr w') := ref_Much _ _ _ _ _ _ wr w.heap.size (by have := HS.out j hlt; omega) hT hbel.size
      have hst : Hid (ts.take (j + 1) = ts.take j ++ [Tr.kid ts j]) := Tr.take_kid (by rw [HML.out]; exact hlt)
      have hsy : Hid (ys.take (j + 1) = ys.take j ++ [nth ys j]) := take_snocI (by rw [HXL.out]; exact hltn)
      obtain ⟨t', ht'⟩ : ∃ t', Tr.kid ts j = t' := ⟨_, rfl⟩
      obtain ⟨y, hy⟩ : ∃ y, nth ys j = y := ⟨_, rfl⟩
      rw [ht'] at hT CM hst
      rw [hy] at cj hyf hsy
      obtain ⟨A1, hA1⟩ : ∃ A, decide (80 < t'.size) = A := ⟨_, rfl⟩
      rw [hA1] at CM
      have i0 : (0 : Int) ≤ (j : Int) := by omega
      have i1 : (j : Int) < (m : Int) := by omega
      have i2 : (j : Int) < (n : Int) := by omega
      have HB := Lib.hid hbel
      have HT := Lib.hid hT
      have HYF := Lib.hid hyf
      clear hT hA1 hFb hbl hbel hc hyf ht' hy
      obtain ⟨h0, h1, h2⟩ := hcu
      cases A1 with
      | true =>
        go_wp2_with fail
        refine CM.out.mono ?_; rintro e w1 ⟨rfl, hb1⟩
        have HB1 := Lib.hid (chain HB.out hb1)
        clear hb1 h0 h1 h2 cj
        go_wp2_with fail
        refine (live21 _).mono ?_; rintro e v2 ⟨rfl, hbl2⟩
        have hbe := chain HB1.out hbl2
        clear hbl2
        go_wp2_with fail
        go_ret
        exact ⟨rfl, hbe⟩
      | false =>
        go_wp2_with fail
        refine CM.out.mono ?_; rintro e w1 ⟨rfl, hb1⟩
        have hcu := three_at ⟨h0, h1, h2⟩ hb1
        have cj1 := (hb1.cell (World.block_lt_of_cell? wr _ cj)).trans cj
        have HB1 := Lib.hid (chain HB.out hb1)
        have HR1 := Lib.hid (HR.out.below hb1)
        have HT1 := Lib.hid (HT.out.below hb1)
        have hs1 := HB1.out.size
        obtain ⟨g0, g1, g2⟩ := hcu
        have hbd : Below w1.heap.size w1 w1.drew := (Below.refl _ _).drew
        have HVL : Hid (∀ g, (Value.slice av j cv).ownBlock = some g → w.heap.size ≤ g) := fun g hg => by
          obtain ⟨vs, h1, _⟩ := HR.out
          exact (h1.lt g hg).1
        clear hb1 h0 h1 h2 cj
        go_wp2_with fail
        have hcv : (w1.cell? ⟨bl, off + j * 3, none⟩ = some (.int .i64 k1) ∧ w1.cell? ⟨bl, off + j * 3 + 1, none⟩ = some (.int .i64 n1) ∧ w1.cell? ⟨bl, off + j * 3 + 2, none⟩ = some (.slice a1 m1 c1)) ∧ w1.cell? ⟨bx, ox + j, none⟩ = some (.int .i64 y) := ⟨⟨g0, g1, g2⟩, cj1⟩
        go_region_held3 (fun w' => (w'.cell? ⟨bl, off + j * 3, none⟩ = some (.int .i64 k1) ∧ w'.cell? ⟨bl, off + j * 3 + 1, none⟩ = some (.int .i64 n1) ∧ w'.cell? ⟨bl, off + j * 3 + 2, none⟩ = some (.slice a1 m1 c1)) ∧ w'.cell? ⟨bx, ox + j, none⟩ = some (.int .i64 y)) (first | exact hcv | exact four_own hcv (hbd.alloc hbd.size _)) ((first
          | (refine step_pushR (by rfl) _ _ (by rfl) w1.drew w.heap.size (Lt w.heap.size) (.slice av j cv) (ts.take j) (ys.take j) k1 n1 a1 m1 c1 t' y (by rfl) (by rfl) (HR1.out.below hbd) ((HT1.out.below hbd).mono fun b hb => ⟨hb, fun e => by have := HVL.out b e; have : b < w.heap.size := hb; omega⟩) HYF.out (by rw [HTL.out]; omega) (by exact hs1) ?_; intro v' w3 hR3 hgrow hB3; have hcv := four_off (four_own hcv (hbd.alloc hbd.size _)) hgrow (fun e => by have := HVL.out _ e.symm; omega) (fun e => by have := HVL.out _ e.symm; omega))
          | fail))
        have HR4 : Hid (RunsO w3 w.heap.size (Lt w.heap.size) v' (ts.take (j + 1)) (ys.take (j + 1))) := by unfold Hid; rw [hst.out, hsy.out]; exact hR3
        have HB4 := Lib.hid ((HB1.out.drew.alloc (by exact hs1) (.cells #[.int .i64 k1, .int .i64 n1, .slice a1 m1 c1, .int .i64 y] 50)).grown hgrow (by simp; omega) hB3)
        clear hcv hR3 hgrow hB3 hbd g0 g1 g2 cj1
        go_wp2_with fail
        go_roundw
        case rel => exact ⟨j + 1, by omega, by omega, by go_num, HR4.out, HB4.out⟩
        case measure => simp [intOf]; omega
    · have HB := Lib.hid hbel
      have CF : Hid (Calls Tryz.prog 29 #[.slice av j cv] wr fun e w' => e = .returned (.tuple #[.int .i64 (firstR ts ys j : Nat), .bool (decide (0 < j))]) ∧ Below wr.heap.size wr w') := by
        have := choose_First (ts.take j) (ys.take j) av j cv wr _ (by omega) (fun i hi => by rw [kid_take _ _ _ hi]; have := HS.out i (by omega); omega) (HR.out.is HTL.out)
        rwa [firstR_congr (ts.take j) ts (ys.take j) ys j (fun i hi => kid_take _ _ _ hi) (fun i hi => nth_takeQ _ _ _ hi) j (Nat.le_refl _)] at this
      have CR : Hid (∀ W, 0 < j → Below w.heap.size w W → Calls Tryz.prog 30 #[.slice a j c, .slice b n cb] W fun e w' => e = .returned (.int .i64 (firstR ts ys j : Nat)) ∧ Below W.heap.size W w') := fun W h0 hb => by
        have := ref21_First (ts.take j) ys a b j c n cb W w.heap.size hb.size (by omega) (by omega) hjn (fun i hi => by rw [kid_take _ _ _ hi]; have := HS.out i (by omega); omega) ((HL.out.take j hj).below hb) (HX.out.below hb) HXL.out
        rwa [firstR_congr (ts.take j) ts ys ys j (fun i hi => kid_take _ _ _ hi) (fun i hi => rfl) j (Nat.le_refl _)] at this
      have HZ : Hid (j = 0 → firstR ts ys j = 0) := fun h => by subst h; rfl
      obtain ⟨V, hV⟩ : ∃ V, firstR ts ys j = V := ⟨_, rfl⟩
      rw [hV] at CF CR HZ
      have hjc : j ≤ c := Nat.le_trans hj HCAP.out.1
      have hex : (j : Int) < (m : Int) ∧ ¬ (j : Int) < (n : Int) ∨ ¬ (j : Int) < (m : Int) := by omega
      clear hV hbel hlt HR
      by_cases h0 : j = 0
      · subst h0
        have hV0 := HZ.out rfl
        subst hV0
        rcases hex with ⟨e1, e2⟩ | e1
        all_goals
          go_wp2_with fail
          refine CF.out.mono ?_; rintro e w1 ⟨rfl, hb1⟩
          have HB1 := Lib.hid (chain HB.out hb1)
          clear hb1
          go_wp2_with fail
          refine (live21 _).mono ?_; rintro e v2 ⟨rfl, hbl2⟩
          have hbe := chain HB1.out hbl2
          clear hbl2
          go_wp2_with fail
          go_ret
          exact ⟨rfl, hbe⟩
      · have hj0 : 0 < j := by omega
        have t3 : decide (0 < j) = true := decide_eq_true hj0
        have t4 : ((j : Int) == 0) = false := bno (by omega)
        have t5 : ((V : Int) == (V : Int)) = true := btrue rfl
        rw [t3] at CF
        obtain ⟨bl, hbl⟩ : ∃ bl, a = some bl := by
          cases a with
          | none => have := HCAP.out.2 rfl; omega
          | some bl => exact ⟨bl, rfl⟩
        subst hbl
        have hjI : (j : Int) ≤ (c : Int) := by omega
        rcases hex with ⟨e1, e2⟩ | e1
        all_goals
          go_wp2_with fail
          refine CF.out.mono ?_; rintro e w1 ⟨rfl, hb1⟩
          have HB1 := Lib.hid (chain HB.out hb1)
          clear hb1
          go_wp2_with fail
          refine (CR.out _ hj0 HB1.out).mono ?_; rintro e w2 ⟨rfl, hb2⟩
          have HB2 := Lib.hid (chain HB1.out hb2)
          clear hb2
          go_wp2_with fail
          refine (live21 _).mono ?_; rintro e v2 ⟨rfl, hbl2⟩
          have hbe := chain HB2.out hbl2
          clear hbl2
          go_wp2_with fail
          go_ret
          exact ⟨rfl, hbe⟩
end Go.Proofs.YtlnlijeamflpiaaGreat

namespace Go.Proofs.YtlnlijeamflpiaaGreat
open Go.RowKit
set_option linter.unusedVariables false
set_option linter.unusedSimpArgs false
set_option maxRecDepth 100000
set_option maxRecDepth 20000
set_option maxHeartbeats 8000000 in
theorem ref21_Check (ts : List Tr) (a : Option Addr) (m cap : Nat) (d : Int) (w : World) (B : Nat) (hB : B ≤ w.heap.size) (hm : m ≤ 9223372036854775807) (hs : ∀ i, i < m → (Tr.kid ts i).size ≤ 4194304) (hL : IsL w (Lt B) a m cap ts) :
    Calls Tryz.prog 33 #[.slice a m cap, .int .i64 d] w fun e w' => e = .returned (.int .i64 (errM ts d m)) ∧ Below w.heap.size w w' := by
  by_cases h1 : d ≠ 0 ∧ d ≠ 1
  · have hE : errM ts d m = 2 := by unfold errM; rw [if_pos h1]
    rw [hE]
    have t1 : (d != 0) = true := bdiff h1.1
    have t2 : (d != 1) = true := bdiff h1.2
    clear hL hE h1
    go_enter Tryz.func33, Tryz.ntmps33
    go_wp2_with fail
    go_ret
    exact ⟨rfl, Below.refl _ _⟩
  have hd : d = 0 ∨ d = 1 := by omega
  have hE : errM ts d m = if 12 < m then 12 else chkF ts m := by unfold errM; rw [if_neg h1]
  rw [hE]
  clear hE h1
  have HL := Lib.hid hL
  have HS := Lib.hid hs
  clear hL hs
  by_cases h12 : 12 < m
  · have t1 : decide ((m : Int) > 12) = true := decide_eq_true (by omega)
    rw [if_pos h12]
    clear h12
    rcases hd with rfl | rfl
    all_goals
      go_enter Tryz.func33, Tryz.ntmps33
      go_wp2_with fail
      go_ret
      exact ⟨rfl, Below.refl _ _⟩
  have t1 : decide ((m : Int) > 12) = false := decide_eq_false (by omega)
  rw [if_neg h12]
  have hm12 : m ≤ 12 := by omega
  clear h12
  obtain ⟨E, hE⟩ : ∃ E, chkF ts m = E := ⟨_, rfl⟩
  rw [hE]
  have HE := Lib.hid hE
  clear hE
  rcases hd with rfl | rfl
  all_goals
    go_enter Tryz.func33, Tryz.ntmps33
    go_wp2_with fail
    go_loopw [5] (fun i wr => ∃ j : Nat, j ≤ m ∧ i = .int .i64 j ∧ Hid (chkF ts j = 0) ∧ Below w.heap.size w wr) (fun i _ => m - (intOf i).toNat)
    case atStart => exact ⟨0, Nat.zero_le _, rfl, rfl, Below.refl _ _⟩
    case round =>
      obtain ⟨j, hj, rfl, HC, hbel⟩ := hrel
      by_cases hlt : j < m
      · obtain ⟨b, off, k1, n1, a1, m1, c1, rfl, hFb, hbl, c0, cc1, cc2, hT⟩ := (HL.out.below hbel).kid j hlt
        have CK : Hid (Calls Tryz.prog 60 #[.agg #[.int .i64 k1, .int .i64 n1, .slice a1 m1 c1]] wr fun e w' => e = .returned (.int .i64 (chk (Tr.kid ts j))) ∧ Below wr.heap.size wr w') := ref14_Check _ _ _ _ _ _ wr B (Nat.le_trans hB hbel.size) (HS.out j hlt) hT
        have HN : Hid (chkF ts (j + 1) = chk (Tr.kid ts j)) := by
          unfold Hid; show (if chkF ts j ≠ 0 then _ else _) = _; rw [HC.out, if_neg (by simp)]
        obtain ⟨C, hC⟩ : ∃ C, chk (Tr.kid ts j) = C := ⟨_, rfl⟩
        rw [hC] at CK HN
        have HB0 := Lib.hid hbel
        have i0 : (0 : Int) ≤ (j : Int) := by omega
        have i1 : (j : Int) < (m : Int) := by omega
        clear hT hC hbel hFb
        by_cases hc : C = 0
        · subst hc
          go_wp2_with fail
          refine CK.out.mono ?_; rintro e w1 ⟨rfl, hb1⟩
          have HB1 := Lib.hid (chain HB0.out hb1)
          clear hb1 c0 cc1 cc2
          go_wp2_with fail
          go_roundw
          case rel => exact ⟨j + 1, by omega, by go_num, HN.out, HB1.out⟩
          case measure => simp [intOf]; omega
        · have t2 : (C != 0) = true := bdiff hc
          have HEE : Hid (E = C) := by unfold Hid; rw [← HE.out, chkF_stop ts (j := j + 1) (by rw [HN.out]; exact hc) m (by omega), HN.out]
          clear hc
          go_wp2_with fail
          refine CK.out.mono ?_; rintro e w1 ⟨rfl, hb1⟩
          have HB1 := Lib.hid (chain HB0.out hb1)
          clear hb1 c0 cc1 cc2
          go_wp2_with fail
          go_ret
          exact ⟨by rw [HEE.out]; rfl, HB1.out⟩
      · obtain rfl : m = j := by omega
        have HE0 : Hid (E = 0) := by unfold Hid; rw [← HE.out, HC.out]
        have HB := Lib.hid hbel
        clear hbel HC
        go_wp2_with fail
        go_ret
        exact ⟨by rw [HE0.out]; rfl, HB.out⟩
theorem two_at {w W : World} {b c o0 o1 : Nat} {x y : Value} (h : w.cell? ⟨b, o0, none⟩ = some x ∧ w.cell? ⟨c, o1, none⟩ = some y) (hb : Below w.heap.size w W) : W.cell? ⟨b, o0, none⟩ = some x ∧ W.cell? ⟨c, o1, none⟩ = some y := by
  obtain ⟨h0, h1⟩ := h
  exact ⟨(hb.cell (World.block_lt_of_cell? w _ h0)).trans h0, (hb.cell (World.block_lt_of_cell? w _ h1)).trans h1⟩
set_option maxHeartbeats 16000000 in
theorem chooseMeasuresW (ts : List Tr) (a : Option Addr) (m c : Nat) (d : Int) (b : Option Addr) (cb : Nat) (ys : List Int) (w : World) (hs : Tr.sizeL ts ≤ 1048576) (hT' : IsT w (fun _ => True) 0 0 a m c (.node 0 0 ts)) (hd : fits .i64 d) (hx : Row .i64 w b ys) (hoc : OkCap b ys.length cb) :
    Calls Tryz.prog 8 #[.slice a m c, .int .i64 d, .slice b ys.length cb] w fun e w' => e = .returned (.bool true) ∧ Below w.heap.size w w' := by
  have hL : IsL w (Lt w.heap.size) a m c ts := hT'.lt
  clear hT'
  have hsz : ∀ i, i < m → (Tr.kid ts i).size ≤ 1048576 := fun i hi => Nat.le_trans (Tr.size_mem (Tr.kid_mem (by rw [← hL.len]; exact hi))) hs
  have HL := Lib.hid hL
  have HS := Lib.hid hsz
  have HX := Lib.hid hx
  obtain ⟨n, hn⟩ : ∃ n, ys.length = n := ⟨_, rfl⟩
  rw [hn] at hoc ⊢
  have HXL := Lib.hid hn
  have hnb : n ≤ 9223372036854775807 := by have := hx.len; omega
  clear hs hsz hL hx hn
  by_cases h20 : 20 < m
  · have d1 : decide ((m : Int) > 20) = true := decide_eq_true (by omega)
    go_enter Tryz.func8, Tryz.ntmps8
    go_wp2_with fail
    refine (live21 _).mono ?_; rintro e v2 ⟨rfl, hbl⟩
    go_wp2_with fail
    go_ret
    exact ⟨rfl, hbl⟩
  have d1 : decide ((m : Int) > 20) = false := decide_eq_false (by omega)
  have hm : m ≤ 20 := by omega
  clear h20
  by_cases h60 : 60 < n
  · have d2 : decide ((n : Int) > 60) = true := decide_eq_true (by omega)
    go_enter Tryz.func8, Tryz.ntmps8
    go_wp2_with fail
    refine (live21 _).mono ?_; rintro e v2 ⟨rfl, hbl⟩
    go_wp2_with fail
    go_ret
    exact ⟨rfl, hbl⟩
  have d2 : decide ((n : Int) > 60) = false := decide_eq_false (by omega)
  have hn60 : n ≤ 60 := by omega
  clear h60
  go_enter Tryz.func8, Tryz.ntmps8
  go_wp2_with fail
  go_loopw [7] (fun i wr => ∃ j : Nat, j ≤ m ∧ i = .int .i64 j ∧ Below w.heap.size w wr) (fun i _ => m - (intOf i).toNat)
  case atStart => exact ⟨0, Nat.zero_le _, rfl, Below.refl _ _⟩
  case round =>
    obtain ⟨j, hj, rfl, hbel⟩ := hrel
    by_cases hlt : j < m
    · obtain ⟨bl, off, k1, n1, a1, m1, c1, rfl, hFb, hbl, hcu, hT⟩ := kids_cells (HL.out.below hbel) j hlt
      have CM : Hid (Calls Tryz.prog 28 #[.agg #[.int .i64 k1, .int .i64 n1, .slice a1 m1 c1]] wr fun e w' => e = .returned (.bool (decide (80 < (Tr.kid ts j).size))) ∧ Below wr.heap.size wr w') := ref_Much _ _ _ _ _ _ wr w.heap.size (by have := HS.out j hlt; omega) hT hbel.size
      obtain ⟨A1, hA1⟩ : ∃ A, decide (80 < (Tr.kid ts j).size) = A := ⟨_, rfl⟩
      rw [hA1] at CM
      have i0 : (0 : Int) ≤ (j : Int) := by omega
      have i1 : (j : Int) < (m : Int) := by omega
      have HB := Lib.hid hbel
      clear hT hA1 hFb hbl hbel
      obtain ⟨h0, h1, h2⟩ := hcu
      cases A1 with
      | true =>
        go_wp2_with fail
        refine CM.out.mono ?_; rintro e w1 ⟨rfl, hb1⟩
        have HB1 := Lib.hid (chain HB.out hb1)
        clear hb1 h0 h1 h2
        go_wp2_with fail
        refine (live21 _).mono ?_; rintro e v2 ⟨rfl, hbl2⟩
        have hbe := chain HB1.out hbl2
        clear hbl2
        go_wp2_with fail
        go_ret
        exact ⟨rfl, hbe⟩
      | false =>
        by_cases hN : 64 < n1 ∧ n1 ≤ 1024
        · have e1 : decide (n1 > 64) = true := decide_eq_true hN.1
          have e2 : decide (n1 ≤ 1024) = true := decide_eq_true hN.2
          clear hN
          go_wp2_with fail
          refine CM.out.mono ?_; rintro e w1 ⟨rfl, hb1⟩
          have HB1 := Lib.hid (chain HB.out hb1)
          obtain ⟨g0, g1, g2⟩ := three_at ⟨h0, h1, h2⟩ hb1
          clear hb1 h0 h1 h2
          go_wp2_with fail
          refine (live21 _).mono ?_; rintro e v2 ⟨rfl, hbl2⟩
          have hbe := chain HB1.out hbl2
          clear hbl2
          go_wp2_with fail
          go_ret
          exact ⟨rfl, hbe⟩
        · have hN2 : decide (n1 > 64) = false ∨ (decide (n1 > 64) = true ∧ decide (n1 ≤ 1024) = false) := by
            by_cases h : 64 < n1
            · exact .inr ⟨decide_eq_true h, decide_eq_false (by omega)⟩
            · exact .inl (decide_eq_false (by omega))
          clear hN
          rcases hN2 with e1 | ⟨e1, e2⟩
          all_goals
            go_wp2_with fail
            refine CM.out.mono ?_; rintro e w1 ⟨rfl, hb1⟩
            have HB1 := Lib.hid (chain HB.out hb1)
            obtain ⟨g0, g1, g2⟩ := three_at ⟨h0, h1, h2⟩ hb1
            clear hb1 h0 h1 h2
            go_wp2_with fail
            go_roundw
            case rel => exact ⟨j + 1, by omega, by go_num, HB1.out⟩
            case measure => simp [intOf]; omega
    · obtain rfl : m = j := by omega
      have HB := Lib.hid hbel
      have CN : Hid (Calls Tryz.prog 31 #[.slice b n cb] wr fun e w' => ∃ p, e = .returned (.pointer (some ⟨p, 0, none⟩)) ∧ wr.heap.size ≤ p ∧ Clk p ys 0 w' ∧ Below wr.heap.size wr w') := tick_New b n cb ys wr (HX.out.below hbel) HXL.out (by omega) hoc
      clear hbel hlt
      go_wp2_with fail
      refine CN.out.mono ?_; rintro e w1 ⟨p, rfl, hp, hk1, hb1⟩
      have hs0 := HB.out.size
      have HB1 := Lib.hid (chain HB.out hb1)
      have HK1 := Lib.hid hk1
      have CM : Hid (Calls Tryz.prog 32 #[.slice a m c, .int .i64 d, .iface 55 (.pointer (some ⟨p, 0, none⟩))] w1 (GivesM ts d m p ys 0 w1)) := choose_Measure ts a m c d p ys 0 w1 (Lt w.heap.size) (fun b hb => by have : b < w.heap.size := hb; omega) (fun i hi => by have := HS.out i hi; omega) (HL.out.below HB1.out) (by omega) hk1 (by omega)
      have CC : Hid (∀ W, Below w.heap.size w W → Calls Tryz.prog 33 #[.slice a m c, .int .i64 d] W fun e w' => e = .returned (.int .i64 (errM ts d m)) ∧ Below W.heap.size W w') := fun W hb => ref21_Check ts a m c d W w.heap.size hb.size (by omega) (fun i hi => by have := HS.out i hi; omega) (HL.out.below hb)
      have HZ : Hid (errM ts d m = 0 → ∀ i, i < m → (Tr.kid ts i).size ≤ 60) := fun h i hi => by
        unfold errM at h
        by_cases h1 : d ≠ 0 ∧ d ≠ 1
        · rw [if_pos h1] at h; omega
        · rw [if_neg h1] at h
          by_cases h2 : 12 < m
          · rw [if_pos h2] at h; omega
          · rw [if_neg h2] at h
            exact chk_size (chkF_zero ts h i hi)
      unfold GivesM at CM
      obtain ⟨E, hE⟩ : ∃ E, errM ts d m = E := ⟨_, rfl⟩
      rw [hE] at CM CC HZ
      clear hE hk1 hb1
      by_cases hE0 : E = 0
      · subst hE0
        have t1 : ((m : Int) != (m : Int)) = false := bfalse' rfl
        have CLp : Hid (∀ W, Below w.heap.size w W → Calls Tryz.prog 35 #[.slice b n cb, .int .i64 0, .int .i64 m] W (GivesRow .i64 (lapsT ys 0 m) W)) := fun W hb => ref21_Laps b n cb ys 0 m W (HX.out.below hb) HXL.out (by omega) (by omega)
        obtain ⟨Q, hQ⟩ : ∃ Q : Nat, 0 + 2 * m = Q := ⟨_, rfl⟩
        have e1 : (2 : Int) * (m : Int) = (Q : Int) := by omega
        have e2 : IntKind.i64.wrap (Q : Int) = (Q : Int) := IntWalk.i64_in _ (by omega)
        have t2 : ((Q : Int) != (Q : Int)) = false := bfalse' rfl
        have HLL := Lib.hid (lapsT_len ys 0 m)
        obtain ⟨zs, hzs⟩ : ∃ zs, lapsT ys 0 m = zs := ⟨_, rfl⟩
        rw [hQ, hzs] at CM
        rw [hzs] at CLp HLL
        have HZZ := Lib.hid (HZ.out rfl)
        clear hQ hzs
        go_wp2_with fail
        refine CM.out.mono ?_; rintro e w2 ⟨_, hA⟩
        obtain ⟨a4, c4, rfl, hR2, hk2, hg2⟩ := hA (by first | trivial | rfl)
        have HB2 : Hid (Below w.heap.size w w2) := HB1.out.grown hg2 HB1.out.size (fun k hk => by injection hk with hk; omega)
        have HR2 := Lib.hid hR2
        have HK2 := Lib.hid hk2
        clear hA hg2 hk2 hR2
        go_wp2_with fail
        refine (CC.out _ HB2.out).mono ?_; rintro e w3 ⟨rfl, hb3⟩
        have HB3 := Lib.hid (chain HB2.out hb3)
        have HK3 := Lib.hid (HK2.out.below hb3)
        have HR3 := Lib.hid (HR2.out.below hb3)
        clear hb3
        go_wp2_with fail
        refine (CLp.out _ HB3.out).mono ?_; rintro e w4 ⟨a5, c5, rfl, hr4, _, hb4⟩
        have HB4 := Lib.hid (chain HB3.out hb4)
        have HK4 := Lib.hid (HK3.out.below hb4)
        have HR4 := Lib.hid (HR3.out.below hb4)
        have HL4 := Lib.hid hr4
        rw [HLL.out]
        clear hb4 hr4
        go_wp2_with fail
        refine (tick_Asked p ys Q _ HK4.out).mono ?_; rintro e w5 ⟨rfl, rfl⟩
        go_wp2_with fail
        go_loopw [13] (fun i wr => ∃ j : Nat, j ≤ m ∧ i = .int .i64 j ∧ Hid (Below w4.heap.size w4 wr)) (fun i _ => m - (intOf i).toNat)
        case atStart => exact ⟨0, Nat.zero_le _, rfl, Below.refl _ _⟩
        case round =>
          obtain ⟨j, hj, rfl, HBR⟩ := hrel
          by_cases hlt : j < m
          · obtain ⟨bl, off, k1, n1, a1, m1, c1, rfl, hFb, hbl, hcu, hT⟩ := kids_cells (HL.out.below (chain HB4.out HBR.out)) j hlt
            obtain ⟨br, ofr, k2, n2, a2, m2, c2, rfl, hbr, u0, u1, u2, u3, hU⟩ := (HR4.out.below HBR.out).at_ j hlt
            obtain ⟨bx, ox, rfl, hc⟩ := (HL4.out.below HBR.out).at (by rw [HLL.out]; omega)
            have cj := hc j (by rw [HLL.out]; omega)
            obtain ⟨z, hz⟩ : ∃ z, nth zs j = z := ⟨_, rfl⟩
            rw [hz] at u3 cj
            obtain ⟨h0, h1, h2⟩ := hcu
            have hsz := HZZ.out j hlt
            have hcv : ((wr.cell? ⟨bl, off + j * 3, none⟩ = some (.int .i64 k1) ∧ wr.cell? ⟨bl, off + j * 3 + 1, none⟩ = some (.int .i64 n1) ∧ wr.cell? ⟨bl, off + j * 3 + 2, none⟩ = some (.slice a1 m1 c1)) ∧ (wr.cell? ⟨br, ofr + j * 4, none⟩ = some (.int .i64 k2) ∧ wr.cell? ⟨br, ofr + j * 4 + 1, none⟩ = some (.int .i64 n2) ∧ wr.cell? ⟨br, ofr + j * 4 + 2, none⟩ = some (.slice a2 m2 c2))) := ⟨⟨h0, h1, h2⟩, u0, u1, u2⟩
            have hcw : wr.cell? ⟨br, ofr + j * 4 + 3, none⟩ = some (.int .i64 z) ∧ wr.cell? ⟨bx, ox + j, none⟩ = some (.int .i64 z) := ⟨u3, cj⟩
            have CS : Hid (∀ W, Below wr.heap.size wr W → Calls Tryz.prog 36 #[.agg #[.int .i64 k2, .int .i64 n2, .slice a2 m2 c2], .agg #[.int .i64 k1, .int .i64 n1, .slice a1 m1 c1]] W fun e w' => e = .returned (.bool true) ∧ Below W.heap.size W w') := fun W hb => same_self _ _ _ _ _ _ _ _ _ _ _ W _ _ hsz (hU.below hb) (hT.below hb)
            have t3 : (z != z) = false := bfalse' rfl
            have i0 : (0 : Int) ≤ (j : Int) := by omega
            have i1 : (j : Int) < (m : Int) := by omega
            have hb : Below wr.heap.size wr wr.drew := (Below.refl _ _).drew
            clear hT hU hc hz hFb hbl hbr hsz
            go_wp2_with fail
            go_region_held3 (fun w' => ((w'.cell? ⟨bl, off + j * 3, none⟩ = some (.int .i64 k1) ∧ w'.cell? ⟨bl, off + j * 3 + 1, none⟩ = some (.int .i64 n1) ∧ w'.cell? ⟨bl, off + j * 3 + 2, none⟩ = some (.slice a1 m1 c1)) ∧ (w'.cell? ⟨br, ofr + j * 4, none⟩ = some (.int .i64 k2) ∧ w'.cell? ⟨br, ofr + j * 4 + 1, none⟩ = some (.int .i64 n2) ∧ w'.cell? ⟨br, ofr + j * 4 + 2, none⟩ = some (.slice a2 m2 c2))) ∧ (w'.cell? ⟨br, ofr + j * 4 + 3, none⟩ = some (.int .i64 z) ∧ w'.cell? ⟨bx, ox + j, none⟩ = some (.int .i64 z))) (first | exact ⟨hcv, hcw⟩ | exact ⟨six_keep hcv hb, two_at hcw hb⟩) ((first
              | (go_at_call 36; ((with_reducible refine (CS.out _ hb).mono ?_); rintro e z ⟨rfl, hc2⟩; have hb := chain hb hc2))
              | fail))
            have HBZ := Lib.hid (chain HBR.out hb)
            clear hb hcv hcw h0 h1 h2 u0 u1 u2 u3 cj
            go_wp2_with fail
            go_roundw
            case rel => exact ⟨j + 1, by omega, by go_num, HBZ.out⟩
            case measure => simp [intOf]; omega
          · obtain rfl : m = j := by omega
            go_wp2_with fail
            refine (live21 _).mono ?_; rintro e v2 ⟨rfl, hbl2⟩
            have hbe := chain HB4.out (chain HBR.out hbl2)
            clear hbl2
            go_wp2_with fail
            go_ret
            exact ⟨rfl, hbe⟩
      · have t1 : (E != 0) = true := bdiff hE0
        have t2 : (E != E) = false := bfalse' rfl
        have HE := Lib.hid hE0
        clear hE0
        go_wp2_with fail
        refine CM.out.mono ?_; rintro e w2 ⟨hA, _⟩
        obtain ⟨rfl, hb2⟩ := hA HE.out
        have HB2 := Lib.hid (chain HB1.out hb2)
        have HK2 := Lib.hid (HK1.out.below hb2)
        clear hb2 hA
        go_wp2_with fail
        refine (CC.out _ HB2.out).mono ?_; rintro e w3 ⟨rfl, hb3⟩
        have HB3 := Lib.hid (chain HB2.out hb3)
        have HK3 := Lib.hid (HK2.out.below hb3)
        clear hb3
        go_wp2_with fail
        refine (tick_Asked p ys 0 _ HK3.out).mono ?_; rintro e w4 ⟨rfl, rfl⟩
        go_wp2_with fail
        refine (live21 _).mono ?_; rintro e v2 ⟨rfl, hbl2⟩
        have hbe := chain HB3.out hbl2
        clear hbl2
        go_wp2_with fail
        go_ret
        exact ⟨rfl, hbe⟩
end Go.Proofs.YtlnlijeamflpiaaGreat

namespace Go.Proofs.YtlnlijeamflpiaaGreat
open Go.RowKit
set_option linter.unusedVariables false
set_option linter.unusedSimpArgs false
set_option maxRecDepth 100000
set_option maxRecDepth 20000
theorem eight_keep {w W : World} {b c d o0 o1 : Nat} {p0 p1 p2 q0 q1 q2 : Nat} {x y x' y' z' u v t : Value} (h : (w.cell? ⟨b, o0, none⟩ = some x ∧ w.cell? ⟨b, o1, none⟩ = some y) ∧ (w.cell? ⟨c, p0, none⟩ = some x' ∧ w.cell? ⟨c, p1, none⟩ = some y' ∧ w.cell? ⟨c, p2, none⟩ = some z') ∧ (w.cell? ⟨d, q0, none⟩ = some u ∧ w.cell? ⟨d, q1, none⟩ = some v ∧ w.cell? ⟨d, q2, none⟩ = some t)) (hb : Below w.heap.size w W) : (W.cell? ⟨b, o0, none⟩ = some x ∧ W.cell? ⟨b, o1, none⟩ = some y) ∧ (W.cell? ⟨c, p0, none⟩ = some x' ∧ W.cell? ⟨c, p1, none⟩ = some y' ∧ W.cell? ⟨c, p2, none⟩ = some z') ∧ (W.cell? ⟨d, q0, none⟩ = some u ∧ W.cell? ⟨d, q1, none⟩ = some v ∧ W.cell? ⟨d, q2, none⟩ = some t) := by
  obtain ⟨h0, h1, h2⟩ := h
  exact ⟨two_keep h0 hb, three_at h1 hb, three_at h2 hb⟩
theorem forK_plan {K D : Int} {t : Tr} (h : hasSz K = true) (hd : D = 0 ∨ D = 1) (hc : chk t = 0) (hn : t.num = K) : forK K D t = 0 := by
  unfold forK
  rcases hd with rfl | rfl <;> simp [h, hc, hn]
set_option maxHeartbeats 16000000 in
theorem chooseBestW (K D : Int) (b : Option Addr) (cb : Nat) (ys : List Int) (w : World) (hK : fits .i64 K) (hD : fits .i64 D) (hx : Row .i64 w b ys) (hoc : OkCap b ys.length cb) :
    Calls Tryz.prog 9 #[.agg #[.int .i64 K, .int .i64 D], .slice b ys.length cb] w fun e w' => e = .returned (.bool true) ∧ Below w.heap.size w w' := by
  have hK' := fits_i64.1 hK
  have HX := Lib.hid hx
  obtain ⟨n, hn⟩ : ∃ n, ys.length = n := ⟨_, rfl⟩
  rw [hn] at hoc ⊢
  have HXL := Lib.hid hn
  have hnb : n ≤ 9223372036854775807 := by have := hx.len; omega
  obtain ⟨W0, hW0, hb0, x0⟩ := box_any w #[.int .i64 K, .int .i64 D] 65
  have D0 : W0.cell? ⟨w.heap.size, 0, none⟩ = some (.int .i64 K) := block_cell x0 0
  have D1 : W0.cell? ⟨w.heap.size, 1, none⟩ = some (.int .i64 D) := block_cell x0 1
  have HB0 := Lib.hid hb0
  have HW0 := Lib.hid hW0
  have HX0 := Lib.hid (hx.below hb0)
  have X0 := Lib.hid x0
  have hlt0 := block_lt x0
  clear hx hn hK hD hb0 x0
  by_cases h60 : 60 < n
  · have d2 : decide ((n : Int) > 60) = true := decide_eq_true (by omega)
    rw [← hW0] at D0
    clear hW0
    go_enter Tryz.func9, Tryz.ntmps9
    go_wp2_with fail
    rw [HW0.out]
    refine (live21 _).mono ?_; rintro e v2 ⟨rfl, hbl⟩
    have hbe := chain HB0.out hbl
    clear hbl
    go_wp2_with fail
    go_ret
    exact ⟨rfl, hbe⟩
  have d2 : decide ((n : Int) > 60) = false := decide_eq_false (by omega)
  have hn60 : n ≤ 60 := by omega
  clear h60
  by_cases hN : 64 < K ∧ K ≤ 1024
  · have e1 : decide (K > 64) = true := decide_eq_true hN.1
    have e2 : decide (K ≤ 1024) = true := decide_eq_true hN.2
    rw [← hW0] at D0
    clear hW0 hN
    go_enter Tryz.func9, Tryz.ntmps9
    go_wp2_with fail
    rw [HW0.out]
    refine (live21 _).mono ?_; rintro e v2 ⟨rfl, hbl⟩
    have hbe := chain HB0.out hbl
    clear hbl
    go_wp2_with fail
    go_ret
    exact ⟨rfl, hbe⟩
  have hN2 : decide (K > 64) = false ∨ (decide (K > 64) = true ∧ decide (K ≤ 1024) = false) := by
    by_cases h : 64 < K
    · exact .inr ⟨decide_eq_true h, decide_eq_false (by omega)⟩
    · exact .inl (decide_eq_false (by omega))
  clear hN
  have CN : Hid (Calls Tryz.prog 31 #[.slice b n cb] W0 fun e w' => ∃ p, e = .returned (.pointer (some ⟨p, 0, none⟩)) ∧ W0.heap.size ≤ p ∧ Clk p ys 0 w' ∧ Below W0.heap.size W0 w') := tick_New b n cb ys W0 HX0.out HXL.out (by omega) hoc
  cases hz : hasSz K with
  | false =>
    have CB : Hid (∀ p W, Clk p ys 0 W → Calls Tryz.prog 37 #[.agg #[.int .i64 K, .int .i64 D], .iface 55 (.pointer (some ⟨p, 0, none⟩))] W (GivesB (.node 0 0 []) p ys 0 4 W)) := fun p W h => choose_Best_no K D p ys 0 W hz hK' h
    have CU : Hid (∀ W, Calls Tryz.prog 18 #[.int .i64 K] W fun e w' => e = .returned (.bool false) ∧ W = w') := fun W => refHas_no K W hz hK'
    rw [← hW0] at D0
    clear hW0 hz
    rcases hN2 with e1 | ⟨e1, e2⟩
    all_goals
      go_enter Tryz.func9, Tryz.ntmps9
      go_wp2_with fail
      rw [HW0.out]
      refine CN.out.mono ?_; rintro e w1 ⟨p, rfl, hp, hk1, hb1⟩
      have HB1 := Lib.hid (chain HB0.out hb1)
      have d0 : w1.cell? ⟨w.heap.size, 0, none⟩ = some (.int .i64 K) := block_cell ((hb1.block _ hlt0).trans X0.out) 0
      have dd1 : w1.cell? ⟨w.heap.size, 1, none⟩ = some (.int .i64 D) := block_cell ((hb1.block _ hlt0).trans X0.out) 1
      have X1 := Lib.hid ((hb1.block _ hlt0).trans X0.out)
      have HK1 := Lib.hid hk1
      have hs0 := HB0.out.size
      clear hk1 hb1 D0 D1
      go_wp2_with fail
      refine (CB.out _ _ HK1.out).mono ?_; rintro e w2 ⟨k, q, a, m, c, rfl, hT, hk2, hg2⟩
      have HB2 : Hid (Below w.heap.size w w2) := HB1.out.grown hg2 HB1.out.size (fun k hk => by injection hk with hk; omega)
      have x2 := (hg2.block _ (block_lt X1.out) (fun e => by injection e with e; omega)).trans X1.out
      obtain ⟨W3, hW3, hb3, x3⟩ := box_any w2 #[.int .i64 k, .int .i64 q, .slice a m c] 48
      have x23 := (hb3.block _ (block_lt x2)).trans x2
      have f0 : W3.cell? ⟨w.heap.size, 0, none⟩ = some (.int .i64 K) := block_cell x23 0
      have f1 : W3.cell? ⟨w.heap.size, 1, none⟩ = some (.int .i64 D) := block_cell x23 1
      have g0 : W3.cell? ⟨w2.heap.size, 0, none⟩ = some (.int .i64 k) := block_cell x3 0
      have g1 : W3.cell? ⟨w2.heap.size, 1, none⟩ = some (.int .i64 q) := block_cell x3 1
      have g2 : W3.cell? ⟨w2.heap.size, 2, none⟩ = some (.slice a m c) := block_cell x3 2
      have HB3 := Lib.hid (chain HB2.out hb3)
      have HK3 := Lib.hid (hk2.below hb3)
      have HT3 := Lib.hid (hT.below hb3)
      have HW3 := Lib.hid hW3
      rw [← hW3] at f0 f1 g0 g1 g2
      clear hW3 hb3 x3 x23 x2 hg2 hk2 hT d0 dd1
      go_wp2_with fail
      rw [HW3.out] at f0 f1 g0 g1 g2 ⊢
      refine (CU.out _).mono ?_; rintro e s2 ⟨rfl, rfl⟩
      go_wp2_with fail
      refine (same_self (.node 0 0 []) _ _ _ _ _ 0 0 none 0 0 _ _ (fun _ => True) (by simp [Tr.size, Tr.sizeL]) HT3.out (isT_none _ _ fits_zero fits_zero)).mono ?_; rintro e w4 ⟨rfl, hb4⟩
      have HB4 := Lib.hid (chain HB3.out hb4)
      have HK4 := Lib.hid (HK3.out.below hb4)
      clear hb4 f0 f1 g0 g1 g2
      go_wp2_with fail
      refine (tick_Asked p ys 0 _ HK4.out).mono ?_; rintro e w5 ⟨rfl, rfl⟩
      go_wp2_with fail
      refine (live21 _).mono ?_; rintro e v2 ⟨rfl, hbl2⟩
      have hbe := chain HB4.out hbl2
      clear hbl2
      go_wp2_with fail
      go_ret
      exact ⟨rfl, hbe⟩
  | true =>
    obtain ⟨i1, i2, _⟩ := hasSz_iff.1 hz
    obtain ⟨N, rfl⟩ := Int.eq_ofNat_of_zero_le (show 0 ≤ K by omega)
    have CU : Hid (∀ W, Calls Tryz.prog 18 #[.int .i64 N] W fun e w' => e = .returned (.bool true) ∧ W = w') := fun W => refHas_yes N W hz
    by_cases hd : D ≠ 0 ∧ D ≠ 1
    · have CB : Hid (∀ p W, Clk p ys 0 W → Calls Tryz.prog 37 #[.agg #[.int .i64 N, .int .i64 D], .iface 55 (.pointer (some ⟨p, 0, none⟩))] W (GivesB (.node 0 0 []) p ys 0 2 W)) := fun p W h => choose_Best_arg N D p ys 0 W hz hd h (by omega)
      have s1 : (D != 0) = true := bdiff hd.1
      have s2 : (D != 1) = true := bdiff hd.2
      clear hd
      rw [← hW0] at D0
      clear hW0 hz
      rcases hN2 with e1 | ⟨e1, e2⟩
      all_goals
        go_enter Tryz.func9, Tryz.ntmps9
        go_wp2_with fail
        rw [HW0.out]
        refine CN.out.mono ?_; rintro e w1 ⟨p, rfl, hp, hk1, hb1⟩
        have HB1 := Lib.hid (chain HB0.out hb1)
        have d0 : w1.cell? ⟨w.heap.size, 0, none⟩ = some (.int .i64 N) := block_cell ((hb1.block _ hlt0).trans X0.out) 0
        have dd1 : w1.cell? ⟨w.heap.size, 1, none⟩ = some (.int .i64 D) := block_cell ((hb1.block _ hlt0).trans X0.out) 1
        have X1 := Lib.hid ((hb1.block _ hlt0).trans X0.out)
        have HK1 := Lib.hid hk1
        have hs0 := HB0.out.size
        clear hk1 hb1 D0 D1
        go_wp2_with fail
        refine (CB.out _ _ HK1.out).mono ?_; rintro e w2 ⟨k, q, a, m, c, rfl, hT, hk2, hg2⟩
        have HB2 : Hid (Below w.heap.size w w2) := HB1.out.grown hg2 HB1.out.size (fun k hk => by injection hk with hk; omega)
        have x2 := (hg2.block _ (block_lt X1.out) (fun e => by injection e with e; omega)).trans X1.out
        obtain ⟨W3, hW3, hb3, x3⟩ := box_any w2 #[.int .i64 k, .int .i64 q, .slice a m c] 48
        have x23 := (hb3.block _ (block_lt x2)).trans x2
        have f0 : W3.cell? ⟨w.heap.size, 0, none⟩ = some (.int .i64 N) := block_cell x23 0
        have f1 : W3.cell? ⟨w.heap.size, 1, none⟩ = some (.int .i64 D) := block_cell x23 1
        have g0 : W3.cell? ⟨w2.heap.size, 0, none⟩ = some (.int .i64 k) := block_cell x3 0
        have g1 : W3.cell? ⟨w2.heap.size, 1, none⟩ = some (.int .i64 q) := block_cell x3 1
        have g2 : W3.cell? ⟨w2.heap.size, 2, none⟩ = some (.slice a m c) := block_cell x3 2
        have HB3 := Lib.hid (chain HB2.out hb3)
        have HK3 := Lib.hid (hk2.below hb3)
        have HT3 := Lib.hid (hT.below hb3)
        have HW3 := Lib.hid hW3
        rw [← hW3] at f0 f1 g0 g1 g2
        clear hW3 hb3 x3 x23 x2 hg2 hk2 hT d0 dd1
        go_wp2_with fail
        rw [HW3.out] at f0 f1 g0 g1 g2 ⊢
        refine (CU.out _).mono ?_; rintro e s2 ⟨rfl, rfl⟩
        go_wp2_with fail
        refine (same_self (.node 0 0 []) _ _ _ _ _ 0 0 none 0 0 _ _ (fun _ => True) (by simp [Tr.size, Tr.sizeL]) HT3.out (isT_none _ _ fits_zero fits_zero)).mono ?_; rintro e w4 ⟨rfl, hb4⟩
        have HB4 := Lib.hid (chain HB3.out hb4)
        have HK4 := Lib.hid (HK3.out.below hb4)
        clear hb4 f0 f1 g0 g1 g2
        go_wp2_with fail
        refine (tick_Asked p ys 0 _ HK4.out).mono ?_; rintro e w5 ⟨rfl, rfl⟩
        go_wp2_with fail
        refine (live21 _).mono ?_; rintro e v2 ⟨rfl, hbl2⟩
        have hbe := chain HB4.out hbl2
        clear hbl2
        go_wp2_with fail
        go_ret
        exact ⟨rfl, hbe⟩

    · have hd' : D = 0 ∨ D = 1 := by omega
      obtain ⟨_, _, g2, g3, g4, _⟩ := listB_sz hz
      have hfk : ∀ i, i < (listT N).length → forK N D (Tr.kid (listT N) i) = 0 := fun i hi => forK_plan hz hd' (g2 i hi).1 (g2 i hi).2
      have CB : Hid (∀ p W, Clk p ys 0 W → Calls Tryz.prog 37 #[.agg #[.int .i64 N, .int .i64 D], .iface 55 (.pointer (some ⟨p, 0, none⟩))] W (GivesB (Tr.kid (listT N) (firstR (listT N) (lapsT ys 0 (listT N).length) (listT N).length)) p ys (0 + 2 * (listT N).length) 0 W)) := fun p W h => choose_Best N D p ys 0 W hz hd' h (by omega)
      have CLi : Hid (∀ W, Calls Tryz.prog 38 #[.int .i64 N] W (GivesTs (listT N) W)) := fun W => ref19_List N W hz
      obtain ⟨ts, hts⟩ : ∃ ts, listT N = ts := ⟨_, rfl⟩
      rw [hts] at CB CLi g2 g3 g4 hfk
      have hch : ∀ i, i < ts.length → (Tr.kid ts i).size ≤ 60 := fun i hi => chk_size (g2 i hi).1
      obtain ⟨L, hL⟩ : ∃ L, ts.length = L := ⟨_, rfl⟩
      rw [hL] at CB g3 g4 hfk hch
      have HLL := Lib.hid hL
      have hA := firstR_lt ts (lapsT ys 0 L) L (by omega)
      have CLp : Hid (∀ W, Below w.heap.size w W → Calls Tryz.prog 35 #[.slice b n cb, .int .i64 0, .int .i64 L] W (GivesRow .i64 (lapsT ys 0 L) W)) := fun W hb => ref21_Laps b n cb ys 0 L W (HX.out.below hb) HXL.out (by omega) (by omega)
      have HLZ := Lib.hid (lapsT_len ys 0 L)
      have CFi : Hid (∀ a c al cl W F, IsL W F a L c ts → Row .i64 W al (lapsT ys 0 L) → Calls Tryz.prog 30 #[.slice a L c, .slice al L cl] W fun e w' => e = .returned (.int .i64 (firstR ts (lapsT ys 0 L) L : Nat)) ∧ Below W.heap.size W w') := fun a c al cl W F h1 h2 =>
        ref21_First ts (lapsT ys 0 L) a al L c L cl W W.heap.size (Nat.le_refl _) (by omega) (by omega) (Nat.le_refl _) (fun i hi => by have := hch i hi; omega) (IsT.lt h1) h2 (lapsT_len _ _ _)
      obtain ⟨zs, hzs⟩ : ∃ zs, lapsT ys 0 L = zs := ⟨_, rfl⟩
      rw [hzs] at CB CLp CFi HLZ hA
      obtain ⟨at', hat⟩ : ∃ x, firstR ts zs L = x := ⟨_, rfl⟩
      rw [hat] at CB CFi hA
      have HFK := Lib.hid (hfk at' hA)
      have HSZ := Lib.hid (hch at' hA)
      obtain ⟨t, ht⟩ : ∃ t, Tr.kid ts at' = t := ⟨_, rfl⟩
      rw [ht] at CB HFK HSZ
      have HTA := Lib.hid ht
      obtain ⟨Q, hQ⟩ : ∃ Q : Nat, 0 + 2 * L = Q := ⟨_, rfl⟩
      rw [hQ] at CB
      have q1 : (2 : Int) * (L : Int) = (Q : Int) := by omega
      have q2 : IntKind.i64.wrap (Q : Int) = (Q : Int) := IntWalk.i64_in _ (by omega)
      have q3 : ((Q : Int) == (Q : Int)) = true := btrue rfl
      have CFo : Hid (∀ k q a m c W, IsT W (fun _ => True) k q a m c t → Calls Tryz.prog 39 #[.agg #[.int .i64 N, .int .i64 D], .agg #[.int .i64 k, .int .i64 q, .slice a m c]] W fun e w' => e = .returned (.int .i64 0) ∧ Below W.heap.size W w') := fun k q a m c W h => by
        have := ref14_For N D t k q a m c W W.heap.size (Nat.le_refl _) (by omega) (by have := HSZ.out; omega) h.lt
        rwa [HFK.out] at this
      clear hfk hzs ht hQ hd
      have hD2 : (D != 0) = false ∨ ((D != 0) = true ∧ (D != 1) = false) := by
        rcases hd' with rfl | rfl
        · exact .inl rfl
        · exact .inr ⟨rfl, rfl⟩
      clear hd'
      rw [← hW0] at D0
      clear hW0 hz g2 hts hL hat hch
      rcases hD2 with s1 | ⟨s1, s2⟩ <;> rcases hN2 with e1 | ⟨e1, e2⟩
      all_goals
        go_enter Tryz.func9, Tryz.ntmps9
        go_wp2_with fail
        rw [HW0.out]
        refine CN.out.mono ?_; rintro e w1 ⟨p, rfl, hp, hk1, hb1⟩
        have HB1 := Lib.hid (chain HB0.out hb1)
        have d0 : w1.cell? ⟨w.heap.size, 0, none⟩ = some (.int .i64 N) := block_cell ((hb1.block _ hlt0).trans X0.out) 0
        have dd1 : w1.cell? ⟨w.heap.size, 1, none⟩ = some (.int .i64 D) := block_cell ((hb1.block _ hlt0).trans X0.out) 1
        have X1 := Lib.hid ((hb1.block _ hlt0).trans X0.out)
        have HK1 := Lib.hid hk1
        have hs0 := HB0.out.size
        clear hk1 hb1 D0 D1
        go_wp2_with fail
        refine (CB.out _ _ HK1.out).mono ?_; rintro e w2 ⟨k, q, a, m, c, rfl, hT, hk2, hg2⟩
        have HB2 : Hid (Below w.heap.size w w2) := HB1.out.grown hg2 HB1.out.size (fun k hk => by injection hk with hk; omega)
        have x2 := (hg2.block _ (block_lt X1.out) (fun e => by injection e with e; omega)).trans X1.out
        obtain ⟨W3, hW3, hb3, x3⟩ := box_any w2 #[.int .i64 k, .int .i64 q, .slice a m c] 48
        have x23 := (hb3.block _ (block_lt x2)).trans x2
        have f0 : W3.cell? ⟨w.heap.size, 0, none⟩ = some (.int .i64 N) := block_cell x23 0
        have f1 : W3.cell? ⟨w.heap.size, 1, none⟩ = some (.int .i64 D) := block_cell x23 1
        have g0 : W3.cell? ⟨w2.heap.size, 0, none⟩ = some (.int .i64 k) := block_cell x3 0
        have g1 : W3.cell? ⟨w2.heap.size, 1, none⟩ = some (.int .i64 q) := block_cell x3 1
        have gg2 : W3.cell? ⟨w2.heap.size, 2, none⟩ = some (.slice a m c) := block_cell x3 2
        have HB3 := Lib.hid (chain HB2.out hb3)
        have HK3 := Lib.hid (hk2.below hb3)
        have HT3 := Lib.hid (hT.below hb3)
        have HW3 := Lib.hid hW3
        rw [← hW3] at f0 f1 g0 g1 gg2
        clear hW3 hb3 x3 x23 x2 hg2 hk2 hT d0 dd1
        go_wp2_with fail
        rw [HW3.out] at f0 f1 g0 g1 gg2 ⊢
        refine (CU.out _).mono ?_; rintro e s2 ⟨rfl, rfl⟩
        go_wp2_with fail
        refine (CLi.out _).mono ?_; rintro e w4 ⟨v, rfl, hT4, hb4⟩
        obtain ⟨a4, c4, rfl, hK4, hok4⟩ := hT4.since
        have hL4 := kids_isT hK4 hok4
        rw [HLL.out] at hL4 ⊢
        obtain ⟨bl, off, k1, n1, a1, m1, c1, rfl, hFb, hbl, hcu, hT⟩ := kids_cells hL4 at' hA
        rw [HTA.out] at hT
        have HL4 := Lib.hid hL4
        have HB4 := Lib.hid (chain HB3.out hb4)
        have HK4 := Lib.hid (HK3.out.below hb4)
        have HT4 := Lib.hid (HT3.out.below hb4)
        have hcv : (w4.cell? ⟨w.heap.size, 0, none⟩ = some (.int .i64 N) ∧ w4.cell? ⟨w.heap.size, 1, none⟩ = some (.int .i64 D)) ∧ (w4.cell? ⟨w2.heap.size, 0, none⟩ = some (.int .i64 k) ∧ w4.cell? ⟨w2.heap.size, 1, none⟩ = some (.int .i64 q) ∧ w4.cell? ⟨w2.heap.size, 2, none⟩ = some (.slice a m c)) ∧ (w4.cell? ⟨bl, off + at' * 3, none⟩ = some (.int .i64 k1) ∧ w4.cell? ⟨bl, off + at' * 3 + 1, none⟩ = some (.int .i64 n1) ∧ w4.cell? ⟨bl, off + at' * 3 + 2, none⟩ = some (.slice a1 m1 c1)) := ⟨two_keep ⟨f0, f1⟩ hb4, three_at ⟨g0, g1, gg2⟩ hb4, hcu⟩
        have CS : Hid (∀ W, Below w4.heap.size w4 W → Calls Tryz.prog 36 #[.agg #[.int .i64 k, .int .i64 q, .slice a m c], .agg #[.int .i64 k1, .int .i64 n1, .slice a1 m1 c1]] W fun e w' => e = .returned (.bool true) ∧ Below W.heap.size W w') := fun W hb => same_self _ _ _ _ _ _ _ _ _ _ _ W _ _ HSZ.out (HT4.out.below hb) (hT.below hb)
        have i0 : (0 : Int) ≤ (at' : Int) := by omega
        have i1 : (at' : Int) < (L : Int) := by omega
        have hb : Below w4.heap.size w4 w4.drew := (Below.refl _ _).drew
        clear hT hcu hL4 hK4 hok4 hT4 hb4 f0 f1 g0 g1 gg2 hFb hbl
        go_wp2_with fail
        go_region_held3 (fun w' => (w'.cell? ⟨w.heap.size, 0, none⟩ = some (.int .i64 N) ∧ w'.cell? ⟨w.heap.size, 1, none⟩ = some (.int .i64 D)) ∧ (w'.cell? ⟨w2.heap.size, 0, none⟩ = some (.int .i64 k) ∧ w'.cell? ⟨w2.heap.size, 1, none⟩ = some (.int .i64 q) ∧ w'.cell? ⟨w2.heap.size, 2, none⟩ = some (.slice a m c)) ∧ (w'.cell? ⟨bl, off + at' * 3, none⟩ = some (.int .i64 k1) ∧ w'.cell? ⟨bl, off + at' * 3 + 1, none⟩ = some (.int .i64 n1) ∧ w'.cell? ⟨bl, off + at' * 3 + 2, none⟩ = some (.slice a1 m1 c1))) (first | exact hcv | exact eight_keep hcv hb) ((first
          | (go_at_call 35; refine (CLp.out _ (chain HB4.out hb)).mono ?_; rintro e z ⟨al, cl, rfl, hrl, _, hc2⟩; rw [HLZ.out]; have hb := chain hb hc2)
          | (go_at_call 30; refine (CFi.out _ _ _ _ _ _ (HL4.out.below hb) hrl).mono ?_; rintro e z2 ⟨rfl, hc3⟩; have hb := chain hb hc3)
          | (go_at_call 36; refine (CS.out _ hb).mono ?_; rintro e z3 ⟨rfl, hc4⟩; have hb := chain hb hc4)
          | (go_at_call 39; refine (CFo.out _ _ _ _ _ _ (HT4.out.below hb)).mono ?_; rintro e z4 ⟨rfl, hc5⟩; have hb := chain hb hc5)
          | (go_at_call 34; refine (tick_Asked p ys Q _ (HK4.out.below hb)).mono ?_; rintro e z5 ⟨rfl, rfl⟩)
          | (go_at_call 27; refine (live21 _).mono ?_; rintro e z6 ⟨rfl, hc6⟩; have hb := chain hb hc6)
          | fail))
        have hbe := chain HB4.out hb
        clear hb hcv
        go_wp2_with fail
        go_ret
        exact ⟨rfl, hbe⟩
end Go.Proofs.YtlnlijeamflpiaaGreat

