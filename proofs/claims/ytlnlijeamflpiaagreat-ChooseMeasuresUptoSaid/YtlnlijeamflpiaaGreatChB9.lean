/- The contracts and plain laws that the statements ChooseFirst ChooseMeasures ChooseBest need, part 9 of 11: ChoD CandA CandE ChoE ChoF ChoG ChoC. -/
import Derived.Test.YtlnlijeamflpiaaGreatChB8
namespace Go.Proofs.YtlnlijeamflpiaaGreat
open Go.RowKit Sm
set_option linter.unusedVariables false
set_option linter.unusedSimpArgs false
set_option maxRecDepth 100000
set_option maxRecDepth 20000
def probeL (n : Nat) : List Int := (List.range n).map fun i => ((i + 1 : Nat) : Int)
theorem probeL_len (n : Nat) : (probeL n).length = n := by simp [probeL]
set_option maxHeartbeats 1000000 in
theorem choose_probe (N : Nat) (w : World) (hN : N ≤ 16777216) : Calls Tryz.prog 92 #[.int .i64 N] w (GivesRow .u64 (probeL N) w) := by
  obtain ⟨i0, hi, hz0, hz1, hz2⟩ := info_parts info_u64
  go_enter Tryz.func92, Tryz.ntmps92
  go_wp2_with (at_make; refine wpList_make_full _ rfl _ _ 22 rfl w.heap.size 23 i0 (.int .u64 0) 1 Tryz.underlying22 hi hz0 hz1 .i64 .i64 N N N rfl rfl rfl rfl (by rw [hz2]; omega) (by unfold maxLen; omega) (Nat.le_refl _) ?_)
  intro w2 hown0 hgrow0
  have hown := Own.made hown0 hgrow0
  clear hown0 hgrow0
  go_wp2_with fail
  go_loopw [9] (fun i wr => ∃ k : Nat, k ≤ N ∧ i = .int .i64 k ∧ OwnAt .u64 23 w wr w.heap.size N (fun j => if j < k then ((j + 1 : Nat) : Int) else 0)) (fun i _ => N - (intOf i).toNat)
  case atStart => exact ⟨0, Nat.zero_le _, rfl, by simpa using hown⟩
  case round =>
    obtain ⟨k, hk, rfl, hown⟩ := hrel
    by_cases hlt : k < N
    · have hcell := hown.cell k hlt
      rw [if_neg (Nat.lt_irrefl k)] at hcell
      have hfz := hown.free k
      obtain ⟨t, ht⟩ : ∃ t : Nat, k + 1 = t := ⟨_, rfl⟩
      have e0 : (k : Int) + 1 = (t : Int) := by omega
      have e1 : IntKind.i64.wrap (t : Int) = (t : Int) := IntWalk.i64_in _ (by omega)
      have e2 : IntKind.u64.wrap (t : Int) = (t : Int) := IntWalk.u64_in _ (by omega)
      have hnext := hown.store k hlt (t : Int) (f' := fun j => if j < k + 1 then ((j + 1 : Nat) : Int) else 0) (by rw [if_pos (by omega), ht]) (fun j _ hj => by
        by_cases h : j < k
        · rw [if_pos h, if_pos (by omega)]
        · rw [if_neg h, if_neg (by omega)])
      rw [ht] at hnext
      have HNX := Lib.hid hnext
      have HTT := Lib.hid ht
      clear hown hnext ht
      go_wp2_with fail
      go_roundw
      case rel => exact ⟨t, by have := HTT.out; omega, by first | rfl | go_num, HNX.out⟩
      case measure => have := HTT.out; simp [intOf]; omega
    · have hkn : k = N := by omega
      obtain ⟨a2, cap2, he, hr2, hcap2, hb2⟩ := hown.gives (xs := probeL N) (probeL_len N) (fun x hx => by
        obtain ⟨i, hi, rfl⟩ := List.mem_map.1 hx
        have := List.mem_range.1 hi
        exact fits_u64.2 (by omega)) (fun i hi => by rw [if_pos (by omega)]; exact nth_ofFn _ _ _ hi) (by omega)
      simp only [Ending.returned.injEq, Value.slice.injEq] at he
      obtain ⟨rfl, hx1, rfl⟩ := he
      rw [probeL_len] at hcap2
      have HR := Lib.hid hr2
      clear hown hr2 hx1
      go_wp2_with fail
      go_ret
      exact ⟨some ⟨w.heap.size, 0, none⟩, N, by rw [probeL_len]; rfl, HR.out, by rw [probeL_len]; exact hcap2, hb2⟩
theorem undrewC {w : World} : Below w.heap.size w w.drew := (Below.refl _ _).drew
theorem four_keep {w W : World} {bd bi : Nat} {x y z u : Value} (h : (w.cell? ⟨bd, 0, none⟩ = some x ∧ w.cell? ⟨bd, 1, none⟩ = some y ∧ w.cell? ⟨bd, 2, none⟩ = some z) ∧ w.cell? ⟨bi, 0, none⟩ = some u) (hb : Below w.heap.size w W) : (W.cell? ⟨bd, 0, none⟩ = some x ∧ W.cell? ⟨bd, 1, none⟩ = some y ∧ W.cell? ⟨bd, 2, none⟩ = some z) ∧ W.cell? ⟨bi, 0, none⟩ = some u := by
  obtain ⟨⟨h0, h1, h2⟩, h3⟩ := h
  exact ⟨⟨(hb.cell (World.block_lt_of_cell? w _ h0)).trans h0, (hb.cell (World.block_lt_of_cell? w _ h1)).trans h1, (hb.cell (World.block_lt_of_cell? w _ h2)).trans h2⟩, (hb.cell (World.block_lt_of_cell? w _ h3)).trans h3⟩
set_option maxHeartbeats 2000000 in
theorem lap_fn (t : Tr) (bd bi : Nat) (k n : Int) (a : Option Addr) (m cap : Nat) (d : Int) (V : World) (F : Nat → Prop) (hs : t.size ≤ 4194304) (hd : V.heap[bd]? = some (.cells #[.int .i64 k, .int .i64 n, .slice a m cap] 48 (0, 0))) (hi : V.heap[bi]? = some (.cells #[.int .i64 d] 3 (0, 0))) (hT : IsT V F k n a m cap t) (hn : 1 ≤ n ∧ n ≤ 16777216) :
    Calls Tryz.prog 91 #[.pointer (some ⟨bd, 0, none⟩), .pointer (some ⟨bi, 0, none⟩)] V fun e w' => e = .returned (.tuple #[]) ∧ Below V.heap.size V w' := by
  obtain ⟨N, rfl⟩ := Int.eq_ofNat_of_zero_le (show 0 ≤ n by omega)
  have c0 : V.cell? ⟨bd, 0, none⟩ = some (.int .i64 k) := block_cell hd 0
  have c1 : V.cell? ⟨bd, 1, none⟩ = some (.int .i64 N) := block_cell hd 1
  have c2 : V.cell? ⟨bd, 2, none⟩ = some (.slice a m cap) := block_cell hd 2
  have c3 : V.cell? ⟨bi, 0, none⟩ = some (.int .i64 d) := block_cell hi 0
  have hbd := block_lt hd
  have hbi := block_lt hi
  by_cases h1 : N ≤ 1024
  · have t1 : decide ((N : Int) ≤ 1024) = true := decide_eq_true (by omega)
    have CP : Hid (∀ W, Calls Tryz.prog 92 #[.int .i64 N] W (GivesRow .u64 (probeL N) W)) := fun W => choose_probe N W (by omega)
    have CD : Hid (∀ (ax : Option Addr) (cx : Nat) W, Below V.heap.size V W → Row .u64 W ax (probeL N) → Calls Tryz.prog 81 #[.agg #[.int .i64 k, .int .i64 N, .slice a m cap], .int .i64 d, .slice ax N cx] W fun e w' => ∃ v, e = .returned v ∧ Below W.heap.size W w') := fun ax cx W hb hr =>
      (exec_Do t k N a m cap d ax N cx (probeL N) W F hs (hT.below hb) hr (probeL_len N) (by omega)).mono fun e w' h => by
        obtain ⟨⟨h1, h2⟩, hb⟩ := h
        by_cases hz : errX t d N N = 0
        · obtain ⟨a2, c2, rfl, _⟩ := h1 hz
          exact ⟨_, rfl, hb⟩
        · exact ⟨_, h2 hz, hb⟩
    have hln := probeL_len N
    have HLN := Lib.hid hln
    clear hd hi hT hln
    go_enter Tryz.func91, Tryz.ntmps91
    go_wp2_with fail
    have hcu : (V.cell? ⟨bd, 0, none⟩ = some (.int .i64 k) ∧ V.cell? ⟨bd, 1, none⟩ = some (.int .i64 N) ∧ V.cell? ⟨bd, 2, none⟩ = some (.slice a m cap)) ∧ V.cell? ⟨bi, 0, none⟩ = some (.int .i64 d) := ⟨⟨c0, c1, c2⟩, c3⟩
    go_region_held3 (fun w' => (w'.cell? ⟨bd, 0, none⟩ = some (.int .i64 k) ∧ w'.cell? ⟨bd, 1, none⟩ = some (.int .i64 N) ∧ w'.cell? ⟨bd, 2, none⟩ = some (.slice a m cap)) ∧ w'.cell? ⟨bi, 0, none⟩ = some (.int .i64 d)) (exact hcu) ((first
      | (go_at_call 92; refine (CP.out _).mono ?_; rintro e w1 ⟨a1, cp1, rfl, hr1, ho1, hb1⟩; rw [HLN.out]; have hb1 := chain undrewC hb1; have hcu := four_keep hcu hb1)
      | (go_at_call 81; refine (CD.out _ _ _ hb1 hr1).mono ?_; rintro e w2 ⟨v2, rfl, hb2⟩; have hcu := four_keep hcu hb2)
      | fail))
    have hbe := chain hb1 hb2
    clear hcu hb1 hb2 hr1
    go_wp2_with fail
    go_end0
    exact ⟨rfl, hbe⟩
  · have t1 : decide ((N : Int) ≤ 1024) = false := decide_eq_false (by omega)
    clear hd hi hT
    go_enter Tryz.func91, Tryz.ntmps91
    go_wp2_with fail
    go_end0
    exact ⟨rfl, Below.refl _ _⟩
theorem fn_nil (f bd bi : Nat) (W : World) : (binOp BinOp.eql 1 (.func (.func f) #[] #[.pointer (some ⟨bd, 0, none⟩), .pointer (some ⟨bi, 0, none⟩)]) Value.nilFunc).run Tryz.prog W = .ok (.bool false) W := by kernel_rfl
theorem clk_nil (p : Nat) (W : World) : (binOp BinOp.eql 83 (.iface 55 (.pointer (some ⟨p, 0, none⟩))) Value.nilIface).run Tryz.prog W = .ok (.bool false) W := by kernel_rfl
theorem lap_enters : ∀ args w, (callFunc 91 args).run Tryz.prog w = .ok (.enter 91 args) w := enters_of Tryz.func91 (by kernel_rfl) rfl
set_option maxHeartbeats 4000000 in
theorem tick_Lap (p : Nat) (l : List Int) (q : Nat) (bd bi : Nat) (w : World) (h : Clk p l q w) (hq : q ≤ 100000)
    (hf : ∀ V, w.grownBy V (some p) → Calls Tryz.prog 91 #[.pointer (some ⟨bd, 0, none⟩), .pointer (some ⟨bi, 0, none⟩)] V fun e w' => e = .returned (.tuple #[]) ∧ Below V.heap.size V w') :
    Calls Tryz.prog 90 #[.iface 55 (.pointer (some ⟨p, 0, none⟩)), .func (.func 91) #[] #[.pointer (some ⟨bd, 0, none⟩), .pointer (some ⟨bi, 0, none⟩)]] w fun e w' => e = .returned (.int .i64 (lapA l q)) ∧ Clk p l (q + 2) w' ∧ w.grownBy w' (some p) := by
  have CN : Hid (∀ (q : Nat) V, q ≤ 1000000 → Clk p l q V → Calls Tryz.prog 229 #[.pointer (some ⟨p, 0, none⟩)] V fun e w' => e = .returned (.int .i64 (tnow l (q + 1))) ∧ Clk p l (q + 1) w' ∧ V.grownBy w' (some p)) := fun q V hq h => tick_Now p l q V h hq
  have HF := Lib.hid hf
  have HK := Lib.hid h
  have l1 := fn_nil 91 bd bi
  have l2 := clk_nil p
  have l3 := lap_enters
  have hlb := lapA_bd l q
  have HL : Hid (tnow l (q + 2) - tnow l (q + 1) = lapA l q) := rfl
  obtain ⟨L, hL⟩ : ∃ L, lapA l q = L := ⟨_, rfl⟩
  rw [hL] at HL hlb ⊢
  clear h hf hL
  go_enter Tryz.func90, Tryz.ntmps90
  go_wp2_with fail
  refine (CN.out q w (by omega) HK.out).mono ?_; rintro e w1 ⟨rfl, hk1, hg1⟩
  have hmono : tnow l (q + 1) ≤ tnow l (q + 2) := tnow_mono l (q + 1)
  have hb1 := tnow_bd l (q + 1)
  have hb2 := tnow_bd l (q + 2)
  obtain ⟨x1, hx1⟩ : ∃ x, tnow l (q + 1) = x := ⟨_, rfl⟩
  have HK1 := Lib.hid hk1
  have HG1 := Lib.hid hg1
  rw [hx1] at HL hmono hb1 ⊢
  clear hk1 hg1
  go_wp2_with fail
  refine (HF.out _ HG1.out).mono ?_; rintro e w2 ⟨rfl, hbf⟩
  have HK2 := Lib.hid (HK1.out.below hbf)
  have HG2 := Lib.hid (HG1.out.trans (grown_of_below hbf (some p)))
  clear hbf
  go_wp2_with fail
  refine (CN.out (q + 1) w2 (by omega) HK2.out).mono ?_; rintro e w3 ⟨rfl, hk3, hg3⟩
  change Hid (Clk p l (q + 1) w2) at HK2
  obtain ⟨x2, hx2⟩ : ∃ x, tnow l (q + 2) = x := ⟨_, rfl⟩
  have hx2' : tnow l (q + 1 + 1) = x2 := hx2
  have HK3 : Hid (Clk p l (q + 2) w3) := hk3
  have HG3 := Lib.hid (HG2.out.trans hg3)
  rw [hx2] at HL hmono hb2
  rw [hx2']
  have u1 : IntKind.u64.wrap x1 = x1 := IntWalk.u64_in _ (by omega)
  have u2 : IntKind.u64.wrap x2 = x2 := IntWalk.u64_in _ (by omega)
  have hd : x2 - x1 = L := HL.out
  have u3 : IntKind.u64.wrap L = L := IntWalk.u64_in _ (by omega)
  have u4 : IntKind.i64.wrap L = L := IntWalk.i64_in _ (by omega)
  have u5 : min L 1152921504606846976 = L := by omega
  clear hk3 hg3 hx1 hx2 hx2'
  by_cases hc : x2 ≤ x1
  · have t1 : decide (x2 ≤ x1) = true := decide_eq_true hc
    have HZ : Hid (L = 0) := by unfold Hid; omega
    clear hd hc
    go_wp2_with fail
    go_ret
    exact ⟨by rw [HZ.out]; rfl, HK3.out, HG3.out⟩
  · have t1 : decide (x2 ≤ x1) = false := decide_eq_false hc
    clear hc
    go_wp2_with fail
    go_ret
    exact ⟨rfl, HK3.out, HG3.out⟩
end Go.Proofs.YtlnlijeamflpiaaGreat

namespace Go.Proofs.YtlnlijeamflpiaaGreat
open Go.RowKit
set_option linter.unusedVariables false
set_option linter.unusedSimpArgs false
set_option maxRecDepth 100000
set_option maxRecDepth 20000
/-- Blocks from B on. -/
def Since (B : Nat) (b : Nat) : Prop := B ≤ b
theorem kids_one {w : World} {g : Nat} {k n : Int} {a : Option Addr} {m c : Nat} {T : TypeId} {F : Nat → Prop} {t : Tr} (hF : F g) (h : w.heap[g]? = some (.cells #[.int .i64 k, .int .i64 n, .slice a m c] T (0, 0))) (hT : IsT w F k n a m c t) : Kids w F (some ⟨g, 0, none⟩) 1 [t] := by
  refine .row g 0 1 _ (fun _ => a) (fun _ => c) (by simp) (by simp) hF ?_ ?_ ?_ ?_
  all_goals
    intro i hi
    obtain rfl : i = 0 := by simpa using hi
  · rw [block_cell h]; exact congrArg (fun x => some (Value.int .i64 x)) hT.ek
  · rw [block_cell h]; exact congrArg (fun x => some (Value.int .i64 x)) hT.en
  · rw [block_cell h]; exact congrArg (fun x => some (Value.slice a x c)) hT.em
  · exact hT.kids
theorem kids_twoT {w : World} {g : Nat} {k n k' n' : Int} {a a' : Option Addr} {m c m' c' : Nat} {T : TypeId} {F : Nat → Prop} {t u : Tr} (hF : F g) (h : w.heap[g]? = some (.cells #[.int .i64 k, .int .i64 n, .slice a m c, .int .i64 k', .int .i64 n', .slice a' m' c'] T (0, 0)))
    (hT : IsT w F k n a m c t) (hU : IsT w F k' n' a' m' c' u) : Kids w F (some ⟨g, 0, none⟩) 2 [t, u] := by
  refine .row g 0 2 _ (fun i => if i = 0 then a else a') (fun i => if i = 0 then c else c') (by simp) (by simp) hF ?_ ?_ ?_ ?_
  all_goals
    intro i hi
    obtain rfl | rfl : i = 0 ∨ i = 1 := by simp at hi; omega
  · rw [block_cell h]; exact congrArg (fun x => some (Value.int .i64 x)) hT.ek
  · rw [block_cell h]; exact congrArg (fun x => some (Value.int .i64 x)) hU.ek
  · rw [block_cell h]; exact congrArg (fun x => some (Value.int .i64 x)) hT.en
  · rw [block_cell h]; exact congrArg (fun x => some (Value.int .i64 x)) hU.en
  · rw [block_cell h]; exact congrArg (fun x => some (Value.slice a x c)) hT.em
  · rw [block_cell h]; exact congrArg (fun x => some (Value.slice a' x c')) hU.em
  · exact hT.kids
  · exact hU.kids
theorem isT_none (w : World) (F : Nat → Prop) {k n : Int} (hk : fits .i64 k) (hn : fits .i64 n) : IsT w F k n none 0 0 (.node k n []) := ⟨rfl, rfl, rfl, by simp only [Tr.Ok, Tr.OkL]; exact ⟨hk, hn, trivial⟩, .nil⟩
theorem isT_node {w : World} {F : Nat → Prop} {k n : Int} {a : Option Addr} {c : Nat} {ts : List Tr} (hk : fits .i64 k) (hn : fits .i64 n) (ho : ∀ t ∈ ts, t.Ok) (h : Kids w F a c ts) : IsT w F k n a ts.length c (.node k n ts) := ⟨rfl, rfl, rfl, by simp only [Tr.Ok]; exact ⟨hk, hn, Tr.okL_of ho⟩, h⟩
/-- A result: a new tree. -/
def GivesD (t : Tr) (w : World) (e : Ending) (w' : World) : Prop :=
  ∃ k n a m c, e = .returned (.agg #[.int .i64 k, .int .i64 n, .slice a m c]) ∧ IsT w' (Since w.heap.size) k n a m c t ∧ Below w.heap.size w w'
theorem fin3 {w wr : World} {x y z : Value} {T : TypeId} (hb : Below w.heap.size w wr) (hx : wr.heap[w.heap.size]? = some (.cells #[x, y, z] T (0, 0))) (x' y' z' : Value) :
    ∃ w', ((wr.setCell ⟨w.heap.size, 0, none⟩ x').setCell ⟨w.heap.size, 1, none⟩ y').setCell ⟨w.heap.size, 2, none⟩ z' = w' ∧ Below w.heap.size w w' ∧ w'.cell? ⟨w.heap.size, 0, none⟩ = some x' ∧ w'.cell? ⟨w.heap.size, 1, none⟩ = some y' ∧ w'.cell? ⟨w.heap.size, 2, none⟩ = some z' ∧ (∀ c, c ≠ w.heap.size → w'.heap[c]? = wr.heap[c]?) := by
  have h := set3 (x' := x') (y' := y') (z' := z') hx
  exact ⟨_, rfl, set3_below hb _ (Nat.le_refl _) _ _ _, block_cell h 0, block_cell h 1, block_cell h 2, fun c hc => set3_far wr w.heap.size _ _ _ c hc⟩
theorem box_fresh (W : World) (cs : Array Value) (T : TypeId) : ∃ W', W.alloc (.cells cs T) = W' ∧ Below W.heap.size W W' ∧ W'.heap[W.heap.size]? = some (.cells cs T (0, 0)) := ⟨_, rfl, (Below.refl _ _).alloc (Nat.le_refl _) _, block_new rfl⟩
theorem okF_sz {f n : Nat} (h : okF f n = true) : hasSz n = true := by
  cases f with
  | zero => cases h
  | succ f => unfold okF at h; rw [Bool.and_eq_true] at h; exact h.1
theorem zfacts {w : World} {b : Nat} {x y z : Value} {T : TypeId} (h : w.heap[b]? = some (.cells #[x, y, z] T (0, 0))) : w.cell? ⟨b, 0, none⟩ = some x ∧ w.cell? ⟨b, 1, none⟩ = some y ∧ w.cell? ⟨b, 2, none⟩ = some z ∧ w.frozen? ⟨b, 0, none⟩ = false ∧ w.frozen? ⟨b, 1, none⟩ = false ∧ w.frozen? ⟨b, 2, none⟩ = false :=
  ⟨block_cell h 0, block_cell h 1, block_cell h 2, block_free h 0, block_free h 1, block_free h 2⟩
theorem zbox (w : World) (T : TypeId) : ∃ W0, w.alloc (.cells #[.int .i64 0, .int .i64 0, .slice none 0 0] T) = W0 ∧ Below w.heap.size w W0 ∧ W0.heap[w.heap.size]? = some (.cells #[.int .i64 0, .int .i64 0, .slice none 0 0] T (0, 0)) := ⟨_, rfl, (Below.refl _ _).alloc (Nat.le_refl _) _, block_new rfl⟩
theorem cand_node (k n : Int) (a : Option Addr) (m c : Nat) (w : World) :
    Calls Tryz.prog 98 #[.int .i64 k, .int .i64 n, .slice a m c] w fun e w' => e = .returned (.agg #[.int .i64 k, .int .i64 n, .slice a m c]) ∧ Below w.heap.size w w' := by
  obtain ⟨W0, hW0, hb0, x0⟩ := zbox w 48
  obtain ⟨p0, p1, p2, f0, f1, f2⟩ := zfacts x0
  go_enter Tryz.func98, Tryz.ntmps98
  go_wp2_with fail
  obtain ⟨w', hw', hb, r0, r1, r2, _⟩ := fin3 hb0 x0 (.int .i64 k) (.int .i64 n) (.slice a m c)
  rw [hw']
  exact bodyPost_ret (v := .agg #[.int .i64 k, .int .i64 n, .slice a m c]) (by simp [results, Tryz.results98, go_sem, r0, r1, r2]) rfl ⟨rfl, hb⟩
theorem ref19_leaf (k n : Int) (w : World) :
    Calls Tryz.prog 64 #[.int .i64 k, .int .i64 n] w fun e w' => e = .returned (.agg #[.int .i64 k, .int .i64 n, .slice none 0 0]) ∧ Below w.heap.size w w' := by
  obtain ⟨W0, hW0, hb0, x0⟩ := zbox w 48
  obtain ⟨p0, p1, p2, f0, f1, f2⟩ := zfacts x0
  go_enter Tryz.func64, Tryz.ntmps64
  go_wp2_with fail
  obtain ⟨w', hw', hb, r0, r1, r2, _⟩ := fin3 hb0 x0 (.int .i64 k) (.int .i64 n) (.slice none 0 0)
  rw [hw']
  exact bodyPost_ret (v := .agg #[.int .i64 k, .int .i64 n, .slice none 0 0]) (by simp [results, Tryz.results64, go_sem, r0, r1, r2]) rfl ⟨rfl, hb⟩
end Go.Proofs.YtlnlijeamflpiaaGreat
namespace Go.Proofs.YtlnlijeamflpiaaGreat
open Go.RowKit
set_option linter.unusedVariables false
set_option linter.unusedSimpArgs false
set_option maxRecDepth 20000
theorem noKid_cases {n : Nat} (h1 : 1 ≤ n) (h : noKid n = true) : (2 ≤ n ∧ n ≤ 5 ∧ leafK n = 2) ∨ (n = 1 ∧ leafK n = 1) ∨ (6 ≤ n ∧ n ≤ 64 ∧ hasP2 n = false ∧ leafK n = 1) ∨ (6 ≤ n ∧ n ≤ 64 ∧ hasP2 n = true ∧ leafK n = 3) ∨ (65 ≤ n ∧ hasP2 n = true ∧ leafK n = 3) := by
  by_cases a : 2 ≤ n ∧ n ≤ 5
  · exact .inl ⟨a.1, a.2, if_pos a⟩
  by_cases b : n = 1
  · exact .inr (.inl ⟨b, by unfold leafK; rw [if_neg a, if_pos (.inl b)]⟩)
  cases hp : hasP2 n
  · by_cases c : n ≤ 64
    · exact .inr (.inr (.inl ⟨by omega, c, rfl, by unfold leafK; rw [if_neg a, if_pos (.inr ⟨c, hp⟩)]⟩))
    · exfalso
      have a' : ¬ (2 ≤ n ∧ n ≤ 5) := a
      unfold noKid at h
      rw [hp] at h
      simp at h
      omega
  · have e : leafK n = 3 := by unfold leafK; rw [if_neg a, if_neg (by rintro (x | ⟨_, x⟩); exact b x; rw [hp] at x; cases x)]
    by_cases c : n ≤ 64
    · exact .inr (.inr (.inr (.inl ⟨by omega, c, rfl, e⟩)))
    · exact .inr (.inr (.inr (.inr ⟨by omega, rfl, e⟩)))
theorem noKid_no {n : Nat} (h1 : 1 ≤ n) (h : noKid n = false) : 65 ≤ n ∧ hasP2 n = false := by
  unfold noKid at h
  cases hp : hasP2 n
  · rw [hp] at h
    simp at h
    exact ⟨by omega, rfl⟩
  · rw [hp] at h; simp at h
theorem fin_node {w wr : World} {x y z : Value} {T : TypeId} {k n : Int} {a : Option Addr} {m c : Nat} {t : Tr} (hb : Below w.heap.size w wr) (hx : wr.heap[w.heap.size]? = some (.cells #[x, y, z] T (0, 0))) (hT : IsT wr (Since (w.heap.size + 1)) k n a m c t) :
    ∃ w', ((wr.setCell ⟨w.heap.size, 0, none⟩ (.int .i64 k)).setCell ⟨w.heap.size, 1, none⟩ (.int .i64 n)).setCell ⟨w.heap.size, 2, none⟩ (.slice a m c) = w' ∧ Below w.heap.size w w' ∧ w'.cell? ⟨w.heap.size, 0, none⟩ = some (.int .i64 k) ∧ w'.cell? ⟨w.heap.size, 1, none⟩ = some (.int .i64 n) ∧ w'.cell? ⟨w.heap.size, 2, none⟩ = some (.slice a m c) ∧ IsT w' (Since w.heap.size) k n a m c t := by
  obtain ⟨w', h1, h2, h3, h4, h5, h6⟩ := fin3 hb hx (.int .i64 k) (.int .i64 n) (.slice a m c)
  exact ⟨w', h1, h2, h3, h4, h5, (hT.stay fun b hb _ => h6 b (by unfold Since at hb; omega)).mono fun b hb => by unfold Since at hb ⊢; omega⟩
theorem own_of_facts {n : Nat} (h1 : 1 ≤ n) (h2 : n ≤ 16777216) (hs : hasSz n = true) : isPr n = prB (facS n) := by rw [isPr_nat n h1 h2, fac_sz hs]
theorem okF_step {f n : Nat} (h : okF (f + 1) n = true) : hasSz n = true ∧ (noKid n = false → (prB (facS n) = true → okF f (n - 1) = true) ∧ (prB (facS n) = false → 1 ≤ (facS n).length ∧ 1 ≤ lastP (facS n) ∧ okF f (lastP (facS n)) = true ∧ okF f (n / lastP (facS n)) = true)) := by
  unfold okF at h
  rw [Bool.and_eq_true] at h
  refine ⟨h.1, fun hk => ⟨fun hp => ?_, fun hp => ?_⟩⟩
  · have := h.2; rw [hk, hp] at this; simpa using this
  · have := h.2; rw [hk, hp] at this
    simp only [Bool.false_eq_true, if_false, Bool.and_eq_true, decide_eq_true_eq] at this
    exact ⟨this.1.1.1, this.1.1.2, this.1.2, this.2⟩
theorem planF_leaf {f n : Nat} (h : noKid n = true) : planF (f + 1) n = .node (leafK n) n [] := by rw [planF, if_pos h]
theorem planF_one {f n : Nat} (h : noKid n = false) (hp : prB (facS n) = true) : planF (f + 1) n = .node 6 n [planF f (n - 1)] := by rw [planF, if_neg (by rw [h]; simp), if_pos hp]
theorem planF_two {f n : Nat} (h : noKid n = false) (hp : prB (facS n) = false) : planF (f + 1) n = .node 4 n [planF f (lastP (facS n)), planF f (n / lastP (facS n))] := by rw [planF, if_neg (by rw [h]; simp), if_neg (by rw [hp]; simp)]
theorem cellsP_last (ps : List (Nat × Nat)) (q : Nat) (h : ps.length = q + 1) : (cellsP ps)[q * 2]? = some (.int .i64 (lastP ps)) := by
  have := (cellsP_at ps q (by omega)).1
  rw [this]; unfold lastP; rw [show ps.length - 1 = q by omega]
theorem fac_few {n : Nat} (h : hasSz n = true) : (facS n).length ≤ 6 := by
  have := kids_sz h
  unfold kidsB at this
  simp only [Bool.and_eq_true, decide_eq_true_eq] at this
  exact this.1.1.2
theorem ok_two {t u : Tr} (h1 : t.Ok) (h2 : u.Ok) : ∀ x ∈ [t, u], x.Ok := by
  intro x hx
  rcases List.mem_cons.1 hx with rfl | hx
  · exact h1
  · rw [List.mem_singleton.1 hx]; exact h2
theorem undrew {w wa : World} (h : Below w.drew.heap.size w.drew wa) : Below w.heap.size w wa := chain (below_drewN (Below.refl _ _) _) h
theorem two_fin {w2 wa wb w4 : World} {cs : Array Value} {T : TypeId} (hba : Below w2.heap.size w2 wa) (hbb : Below wa.heap.size wa wb) (hb4 : Below (wb.alloc (.cells cs T)).heap.size (wb.alloc (.cells cs T)) w4) :
    Below w2.heap.size w2 w4 ∧ w4.heap[wb.heap.size]? = some (.cells cs T (0, 0)) ∧ w2.heap.size ≤ wb.heap.size ∧
    (∀ k n a m c t, IsT wa (Since w2.heap.size) k n a m c t → IsT w4 (Since w2.heap.size) k n a m c t) ∧ (∀ k n a m c t, IsT wb (Since wa.heap.size) k n a m c t → IsT w4 (Since w2.heap.size) k n a m c t) := by
  have hal : Below wb.heap.size wb (wb.alloc (.cells cs T)) := (Below.refl _ _).alloc (Nat.le_refl _) _
  have h1 := hba.size
  have h2 := hbb.size
  have h3 := chain hal hb4
  have hx : (wb.alloc (.cells cs T)).heap[wb.heap.size]? = some (.cells cs T (0, 0)) := block_new rfl
  exact ⟨chain hba (chain hbb h3), (hb4.block _ (block_lt hx)).trans hx, by omega, fun k n a m c t h => h.below (chain hbb h3), fun k n a m c t h => (h.below h3).mono fun b hb => by unfold Since at hb ⊢; omega⟩
theorem node_keep {w w2 wa wb w4 : World} {cs : Array Value} {T : TypeId} {o : Obj} (h2 : Below w.heap.size w w2) (hx : w2.heap[w.heap.size]? = some o) (hba : Below w2.heap.size w2 wa) (hbb : Below wa.heap.size wa wb) (hb4 : Below (wb.alloc (.cells cs T)).heap.size (wb.alloc (.cells cs T)) w4) : Below w.heap.size w w4 ∧ w4.heap[w.heap.size]? = some o := by
  obtain ⟨h, _⟩ := two_fin hba hbb hb4
  exact ⟨chain h2 h, (h.block _ (block_lt hx)).trans hx⟩
theorem keep_two {w w2 wa wb : World} {cs : Array Value} {T : TypeId} {o : Obj} (h2 : Below w.heap.size w w2) (hx : w2.heap[w.heap.size]? = some o) (hba : Below w2.heap.size w2 wa) (hbb : Below wa.heap.size wa wb) : Below w.heap.size w (wb.alloc (.cells cs T)) ∧ (wb.alloc (.cells cs T)).heap[w.heap.size]? = some o := by
  have hal : Below wb.heap.size wb (wb.alloc (.cells cs T)) := (Below.refl _ _).alloc (Nat.le_refl _) _
  have h := chain hba (chain hbb hal)
  exact ⟨chain h2 h, (h.block _ (block_lt hx)).trans hx⟩
theorem cand_primes (N : Nat) (w : World) (h1 : 1 ≤ N) (h2 : N ≤ 16777216) :
    Calls Tryz.prog 122 #[.int .i64 N] w fun e w' => ∃ v, e = .returned v ∧ w'.ownsRow w.heap.size 126 2 v (facL N).length (cellsP (facL N)) ∧ Below w.heap.size w w' := by
  have C1 := Lib.hid (fact_Factors N w h1 h2)
  go_enter Tryz.func122, Tryz.ntmps122
  go_wp2_with fail
  refine C1.out.mono ?_; rintro e w1 ⟨v, rfl, hown, hb⟩
  have HO := Lib.hid hown
  have HB := Lib.hid hb
  obtain ⟨a, cap, rfl, _, _⟩ := own_slice2 hown
  clear hown hb
  go_wp2_with fail
  go_ret
  exact ⟨_, rfl, HO.out, HB.out⟩
set_option maxHeartbeats 2000000 in
theorem cand_plain (f : Nat) : ∀ (n : Nat) (w : World), okF f n = true → Calls Tryz.prog 99 #[.int .i64 n] w (GivesD (planF f n) w) := by
  induction f with
  | zero => intro n w h; cases h
  | succ f ih =>
    intro n w h
    have IH := Lib.hid ih
    clear ih
    obtain ⟨hsz, hrec⟩ := okF_step h
    clear h
    obtain ⟨i1, i2, _⟩ := hasSz_iff.1 hsz
    have h1 : 1 ≤ n := by omega
    have h2 : n ≤ 16777216 := by omega
    clear i1 i2
    obtain ⟨B, hB⟩ : ∃ B, hasP2 (n : Int) = B := ⟨_, rfl⟩
    have CP : Hid (∀ W, Calls Tryz.prog 121 #[.int .i64 n] W fun e w' => e = .returned (.bool B) ∧ W = w') := fun W => by rw [← hB]; exact stock_Has n W (by omega)
    have CS : Hid (∀ W, Calls Tryz.prog 120 #[.int .i64 n] W fun e w' => e = .returned (.bool (decide (n ≤ 5))) ∧ W = w') := fun W => by
      have := small_Has n W
      rwa [show decide (1 ≤ (n : Int) ∧ (n : Int) ≤ 5) = decide (n ≤ 5) by rw [decide_eq_decide]; omega] at this
    have HSZ := Lib.hid hsz
    clear hsz
    obtain ⟨W0, hW0, hb0, x0⟩ := zbox w 48
    have hs0 : Hid (W0.heap.size = w.heap.size + 1) := by unfold Hid; rw [← hW0]; simp
    obtain ⟨p0, p1, p2, f0, f1, f2⟩ := zfacts x0
    have HB0 := Lib.hid hb0
    have X0 := Lib.hid x0
    clear hb0 x0 p0 p1 p2 f0 f1 f2
    by_cases hk : noKid n = true
    · have HE0 : Hid (planF (f + 1) n = .node (leafK n) n []) := planF_leaf hk
      have hcs := noKid_cases h1 hk
      clear hk hrec
      rw [hB] at hcs
      rcases hcs with ⟨h3, h4, hl⟩ | ⟨h3, hl⟩ | ⟨h3, h4, hP, hl⟩ | ⟨h3, h4, hP, hl⟩ | ⟨h3, hP, hl⟩
      · have HE : Hid (planF (f + 1) n = .node 2 n []) := by unfold Hid; rw [HE0.out, hl]; first | rfl | done
        clear HE0 hl
        have s5 : decide (n ≤ 5) = true := by simp; omega
        go_enter Tryz.func99, Tryz.ntmps99
        go_wp2_with fail
        refine (CS.out _).mono ?_; rintro e w0 ⟨rfl, rfl⟩
        rw [s5]
        go_wp2_with fail
        refine (cand_node _ _ _ _ _ _).mono ?_; rintro e w1 ⟨rfl, hb1⟩
        have HB1 := Lib.hid (chain HB0.out hb1)
        have x1 := (hb1.block _ (block_lt X0.out)).trans X0.out
        obtain ⟨q0, q1, q2, g0, g1, g2⟩ := zfacts x1
        have X1 := Lib.hid x1
        clear hb1 x1
        go_wp2_with fail
        obtain ⟨w', hw', hb, r0, r1, r2, hT⟩ := fin_node HB1.out X1.out (isT_none _ _ (by rw [fits_i64]; omega) (by rw [fits_i64]; omega)) (k := 2) (n := (n : Int)) (a := none) (m := 0) (c := 0) (t := .node 2 n [])
        rw [hw']
        exact bodyPost_ret (v := .agg #[.int .i64 2, .int .i64 n, .slice none 0 0]) (by simp [results, Tryz.results99, go_sem, r0, r1, r2]) rfl ⟨_, _, _, _, _, rfl, by rw [HE.out]; exact hT, hb⟩

      · subst h3
        have HE : Hid (planF (f + 1) 1 = .node 1 1 []) := by unfold Hid; rw [HE0.out, hl]; first | rfl | done
        clear HE0 hl
        go_enter Tryz.func99, Tryz.ntmps99
        go_wp2_with fail
        refine (cand_node _ _ _ _ _ _).mono ?_; rintro e w1 ⟨rfl, hb1⟩
        have HB1 := Lib.hid (chain HB0.out hb1)
        have x1 := (hb1.block _ (block_lt X0.out)).trans X0.out
        obtain ⟨q0, q1, q2, g0, g1, g2⟩ := zfacts x1
        have X1 := Lib.hid x1
        clear hb1 x1
        go_wp2_with fail
        obtain ⟨w', hw', hb, r0, r1, r2, hT⟩ := fin_node HB1.out X1.out (isT_none _ _ (by rw [fits_i64]; omega) (by rw [fits_i64]; omega)) (k := 1) (n := 1) (a := none) (m := 0) (c := 0) (t := .node 1 1 [])
        rw [hw']
        exact bodyPost_ret (v := .agg #[.int .i64 1, .int .i64 1, .slice none 0 0]) (by simp [results, Tryz.results99, go_sem, r0, r1, r2]) rfl ⟨_, _, _, _, _, rfl, by rw [HE.out]; exact hT, hb⟩

      · have HE : Hid (planF (f + 1) n = .node 1 n []) := by unfold Hid; rw [HE0.out, hl]; first | rfl | done
        clear HE0 hl
        subst hP
        have s5 : decide (n ≤ 5) = false := by simp; omega
        have s1 : ((n : Int) == 1) = false := bno (by omega)
        go_enter Tryz.func99, Tryz.ntmps99
        go_wp2_with fail
        refine (CS.out _).mono ?_; rintro e w0 ⟨rfl, rfl⟩
        rw [s5]
        go_wp2_with fail
        refine (CP.out _).mono ?_; rintro e w0 ⟨rfl, rfl⟩
        go_wp2_with fail
        refine (cand_node _ _ _ _ _ _).mono ?_; rintro e w1 ⟨rfl, hb1⟩
        have HB1 := Lib.hid (chain HB0.out hb1)
        have x1 := (hb1.block _ (block_lt X0.out)).trans X0.out
        obtain ⟨q0, q1, q2, g0, g1, g2⟩ := zfacts x1
        have X1 := Lib.hid x1
        clear hb1 x1
        go_wp2_with fail
        obtain ⟨w', hw', hb, r0, r1, r2, hT⟩ := fin_node HB1.out X1.out (isT_none _ _ (by rw [fits_i64]; omega) (by rw [fits_i64]; omega)) (k := 1) (n := (n : Int)) (a := none) (m := 0) (c := 0) (t := .node 1 n [])
        rw [hw']
        exact bodyPost_ret (v := .agg #[.int .i64 1, .int .i64 n, .slice none 0 0]) (by simp [results, Tryz.results99, go_sem, r0, r1, r2]) rfl ⟨_, _, _, _, _, rfl, by rw [HE.out]; exact hT, hb⟩

      · have HE : Hid (planF (f + 1) n = .node 3 n []) := by unfold Hid; rw [HE0.out, hl]; first | rfl | done
        clear HE0 hl
        subst hP
        have s5 : decide (n ≤ 5) = false := by simp; omega
        have s1 : ((n : Int) == 1) = false := bno (by omega)
        go_enter Tryz.func99, Tryz.ntmps99
        go_wp2_with fail
        refine (CS.out _).mono ?_; rintro e w0 ⟨rfl, rfl⟩
        rw [s5]
        go_wp2_with fail
        refine (CP.out _).mono ?_; rintro e w0 ⟨rfl, rfl⟩
        go_wp2_with fail
        refine (CP.out _).mono ?_; rintro e w0 ⟨rfl, rfl⟩
        go_wp2_with fail
        refine (cand_node _ _ _ _ _ _).mono ?_; rintro e w1 ⟨rfl, hb1⟩
        have HB1 := Lib.hid (chain HB0.out hb1)
        have x1 := (hb1.block _ (block_lt X0.out)).trans X0.out
        obtain ⟨q0, q1, q2, g0, g1, g2⟩ := zfacts x1
        have X1 := Lib.hid x1
        clear hb1 x1
        go_wp2_with fail
        obtain ⟨w', hw', hb, r0, r1, r2, hT⟩ := fin_node HB1.out X1.out (isT_none _ _ (by rw [fits_i64]; omega) (by rw [fits_i64]; omega)) (k := 3) (n := (n : Int)) (a := none) (m := 0) (c := 0) (t := .node 3 n [])
        rw [hw']
        exact bodyPost_ret (v := .agg #[.int .i64 3, .int .i64 n, .slice none 0 0]) (by simp [results, Tryz.results99, go_sem, r0, r1, r2]) rfl ⟨_, _, _, _, _, rfl, by rw [HE.out]; exact hT, hb⟩

      · have HE : Hid (planF (f + 1) n = .node 3 n []) := by unfold Hid; rw [HE0.out, hl]; first | rfl | done
        clear HE0 hl
        subst hP
        have s5 : decide (n ≤ 5) = false := by simp; omega
        have s1 : ((n : Int) == 1) = false := bno (by omega)
        go_enter Tryz.func99, Tryz.ntmps99
        go_wp2_with fail
        refine (CS.out _).mono ?_; rintro e w0 ⟨rfl, rfl⟩
        rw [s5]
        go_wp2_with fail
        refine (CP.out _).mono ?_; rintro e w0 ⟨rfl, rfl⟩
        go_wp2_with fail
        refine (cand_node _ _ _ _ _ _).mono ?_; rintro e w1 ⟨rfl, hb1⟩
        have HB1 := Lib.hid (chain HB0.out hb1)
        have x1 := (hb1.block _ (block_lt X0.out)).trans X0.out
        obtain ⟨q0, q1, q2, g0, g1, g2⟩ := zfacts x1
        have X1 := Lib.hid x1
        clear hb1 x1
        go_wp2_with fail
        obtain ⟨w', hw', hb, r0, r1, r2, hT⟩ := fin_node HB1.out X1.out (isT_none _ _ (by rw [fits_i64]; omega) (by rw [fits_i64]; omega)) (k := 3) (n := (n : Int)) (a := none) (m := 0) (c := 0) (t := .node 3 n [])
        rw [hw']
        exact bodyPost_ret (v := .agg #[.int .i64 3, .int .i64 n, .slice none 0 0]) (by simp [results, Tryz.results99, go_sem, r0, r1, r2]) rfl ⟨_, _, _, _, _, rfl, by rw [HE.out]; exact hT, hb⟩

    · rw [Bool.not_eq_true] at hk
      obtain ⟨h65, hP⟩ := noKid_no h1 hk
      rw [hP] at hB
      subst hB
      have s5 : decide (n ≤ 5) = false := by simp; omega
      have s1 : ((n : Int) == 1) = false := bno (by omega)
      obtain ⟨Q, hQ⟩ : ∃ Q, prB (facS n) = Q := ⟨_, rfl⟩
      have CF : Hid (∀ W, Calls Tryz.prog 97 #[.int .i64 n] W fun e w' => e = .returned (.bool Q) ∧ Below W.heap.size W w') := fun W => by
        have := fact_Prime n W (by omega)
        rwa [own_of_facts h1 h2 HSZ.out, hQ] at this
      obtain ⟨hr1, hr2⟩ := hrec hk
      cases Q with
      | true =>
        have HE : Hid (planF (f + 1) n = .node 6 n [planF f (n - 1)]) := planF_one hk hQ
        have hok := hr1 hQ
        obtain ⟨m, hm⟩ : ∃ m, n - 1 = m := ⟨_, rfl⟩
        rw [hm] at HE hok
        have e1 : (n : Int) - 1 = (m : Nat) := by omega
        have CI : Hid (∀ W, Calls Tryz.prog 99 #[.int .i64 m] W (GivesD (planF f m) W)) := fun W => IH.out m W hok
        clear hr1 hr2 hrec hk hQ hP hok hm IH
        go_enter Tryz.func99, Tryz.ntmps99
        go_wp2_with fail
        refine (CS.out _).mono ?_; rintro e w0 ⟨rfl, rfl⟩
        rw [s5]
        go_wp2_with fail
        refine (CP.out _).mono ?_; rintro e w0 ⟨rfl, rfl⟩
        go_wp2_with fail
        refine (CF.out _).mono ?_; rintro e w1 ⟨rfl, hb1⟩
        have HB1 := Lib.hid (chain HB0.out hb1)
        have X1 := Lib.hid ((hb1.block _ (block_lt X0.out)).trans X0.out)
        have HS1 := Lib.hid hb1.size
        clear hb1
        go_wp2_with fail
        refine (CI.out _).mono ?_; rintro e w2 ⟨k', n', a', m', c', rfl, hT, hb2⟩
        obtain ⟨w3, hw3, hb3, x3⟩ := box_fresh w2 #[.int .i64 k', .int .i64 n', .slice a' m' c'] 48
        have HT3 : Hid (IsT w3 (Since (w.heap.size + 1)) k' n' a' m' c' (planF f m)) := (hT.below hb3).mono fun b hb => by unfold Since at hb ⊢; have := HS1.out; have := hs0.out; omega
        have HS2 := Lib.hid hb2.size
        have HB3 := Lib.hid (chain HB1.out (chain hb2 hb3))
        have X3 := Lib.hid (((chain hb2 hb3).block _ (block_lt X1.out)).trans X1.out)
        have HK := Lib.hid x3
        clear hT hb2 hb3 x3
        go_wp2_with fail
        refine (cand_node _ _ _ _ _ _).mono ?_; rintro e w4 ⟨rfl, hb4⟩
        have HB4 := Lib.hid (chain HB3.out hb4)
        have x4 := (hb4.block _ (block_lt X3.out)).trans X3.out
        have k4 := (hb4.block _ (block_lt HK.out)).trans HK.out
        have hT4 := HT3.out.below hb4
        obtain ⟨q0, q1, q2, g0, g1, g2⟩ := zfacts x4
        have hF : Since (w.heap.size + 1) w2.heap.size := by unfold Since; have := HS1.out; have := hs0.out; have := HS2.out; omega
        have hN := Lib.hid (isT_node (k := 6) (n := n) (by rw [fits_i64]; omega) (by rw [fits_i64]; omega) (by intro t ht; simp at ht; subst ht; exact hT4.ok) (kids_one hF k4 hT4))
        have X4 := Lib.hid x4
        clear x4 k4 hT4 hF hb4
        go_wp2_with fail
        obtain ⟨w', hw', hb, r0, r1, r2, hT⟩ := fin_node HB4.out X4.out hN.out
        simp only [List.length_singleton] at hw' r0 r1 r2 hT
        rw [hw']
        exact bodyPost_ret (v := .agg #[.int .i64 6, .int .i64 n, .slice (some ⟨w2.heap.size, 0, none⟩) 1 1]) (by simp [results, Tryz.results99, go_sem, r0, r1, r2]) rfl ⟨_, _, _, _, _, rfl, by rw [HE.out]; exact hT, hb⟩
      | false =>
        have HE : Hid (planF (f + 1) n = .node 4 n [planF f (lastP (facS n)), planF f (n / lastP (facS n))]) := planF_two hk hQ
        obtain ⟨hlen, hp1, hok1, hok2⟩ := hr2 hQ
        have CR : Hid (∀ W, Calls Tryz.prog 122 #[.int .i64 n] W fun e w' => ∃ v, e = .returned v ∧ w'.ownsRow W.heap.size 126 2 v (facS n).length (cellsP (facS n)) ∧ Below W.heap.size W w') := fun W => by
          have := cand_primes n W h1 h2
          rwa [fac_sz HSZ.out] at this
        obtain ⟨q, hq⟩ : ∃ q, (facS n).length = q + 1 := ⟨(facS n).length - 1, by omega⟩
        have HLC := Lib.hid (cellsP_last (facS n) q hq)
        have hq6 : q ≤ 5 := by have := fac_few HSZ.out; omega
        rw [hq] at CR
        obtain ⟨ps, hps⟩ : ∃ ps, facS n = ps := ⟨_, rfl⟩
        rw [hps] at HE CR HLC hok1 hok2 hp1
        obtain ⟨p, hp⟩ : ∃ p, lastP ps = p := ⟨_, rfl⟩
        rw [hp] at HE HLC hok1 hok2 hp1
        obtain ⟨d, hd⟩ : ∃ d, n / p = d := ⟨_, rfl⟩
        rw [hd] at HE hok2
        have e1 : (n : Int).tdiv (p : Int) = (d : Int) := by rw [Int.tdiv_eq_ediv_of_nonneg (by omega), ← Int.natCast_ediv, hd]
        have e2 : (n : Int) / (p : Int) = (d : Int) := by rw [← Int.natCast_ediv, hd]
        have z1 : ((p : Int) == 0) = false := bno (by omega)
        have z2 : ¬ (p : Int) = 0 := by omega
        have hdn : d ≤ n := by rw [← hd]; exact Nat.div_le_self n p
        have C1 : Hid (∀ W, Calls Tryz.prog 99 #[.int .i64 p] W (GivesD (planF f p) W)) := fun W => IH.out p W hok1
        have C2 : Hid (∀ W, Calls Tryz.prog 99 #[.int .i64 d] W (GivesD (planF f d) W)) := fun W => IH.out d W hok2
        have hpp : p ≤ 16777216 := by
          have := (hasSz_iff.1 (okF_sz hok1)).2.1
          omega
        have hd9 : d ≤ 16777216 := by omega
        have e3 : IntKind.i64.wrap ((n : Int).tdiv (p : Int)) = (d : Int) := by rw [e1]; exact IntWalk.i64_in _ (by omega)
        have e4 : wrap64 (d : Int) = d := by rw [← IntWalk.i64_left]; exact IntWalk.i64_in _ (by omega)
        have p0 : (0 : Int) < p := by omega
        have n0 : (0 : Int) ≤ n := by omega
        clear hr1 hr2 hrec hk hQ hP hok1 hok2 hps hp hd IH hlen hq
        go_enter Tryz.func99, Tryz.ntmps99
        go_wp2_with fail
        refine (CS.out _).mono ?_; rintro e w0 ⟨rfl, rfl⟩
        rw [s5]
        go_wp2_with fail
        refine (CP.out _).mono ?_; rintro e w0 ⟨rfl, rfl⟩
        go_wp2_with fail
        refine (CF.out _).mono ?_; rintro e w1 ⟨rfl, hb1⟩
        have HB1 := Lib.hid (chain HB0.out hb1)
        have X1 := Lib.hid ((hb1.block _ (block_lt X0.out)).trans X0.out)
        have HS1 := Lib.hid hb1.size
        clear hb1
        go_wp2_with fail
        refine (CR.out _).mono ?_; rintro e w2 ⟨v, rfl, hown, hb2⟩
        obtain ⟨a, cap, rfl, hcap, hg⟩ := own_slice2 hown
        obtain ⟨g, rfl⟩ := hg (by omega)
        have hc : w2.cell? ⟨g, q * 2, none⟩ = some (.int .i64 (p : Int)) := (hown.cellAt (q * 2) (by omega)).trans HLC.out
        have HB2 := Lib.hid (chain HB1.out hb2)
        have X2 := Lib.hid ((hb2.block _ (block_lt X1.out)).trans X1.out)
        have HS2 : Hid (w.heap.size + 1 ≤ w2.heap.size) := by have := HS1.out; have := hs0.out; have := hb2.size; unfold Hid; omega
        clear hb2 hown
        go_wp2_with fail
        go_region_held (fun _ => True) (trivial) (first
          | (go_at_call 99; first
            | ((with_reducible refine (C1.out _).mono ?_); rintro e wa ⟨ka, na, aa, ma, ca, rfl, hTa, hba⟩; have hba := undrew hba)
            | ((with_reducible refine (C2.out _).mono ?_); rintro e wb ⟨kb, nb, ab, mb, cb, rfl, hTb, hbb⟩))
          | (go_at_call 98; (with_reducible refine (cand_node _ _ _ _ _ _).mono ?_); rintro e w4 ⟨rfl, hb4⟩; have hx4 := (by first | exact node_keep HB2.out X2.out hba hbb hb4 | exact node_keep HB2.out X2.out hbb hba hb4); obtain ⟨q0, q1, q2, g0, g1, g2⟩ := zfacts hx4.2))
        all_goals
          go_wp2_with fail
          obtain ⟨_, k4, hbs, hA, hB⟩ := two_fin hba hbb hb4
          have hTA := (hA _ _ _ _ _ _ hTa).mono (G := Since (w.heap.size + 1)) fun b hb => by unfold Since at hb ⊢; have := HS2.out; omega
          have hTB := (hB _ _ _ _ _ _ hTb).mono (G := Since (w.heap.size + 1)) fun b hb => by unfold Since at hb ⊢; have := HS2.out; omega
          have hN := isT_node (k := 4) (n := n) (by rw [fits_i64]; omega) (by rw [fits_i64]; omega) (ok_two hTA.ok hTB.ok) (kids_twoT (show Since (w.heap.size + 1) wb.heap.size by unfold Since; have := HS2.out; omega) k4 hTA hTB)
          obtain ⟨w', hw', hb, r0, r1, r2, hT⟩ := fin_node hx4.1 hx4.2 hN
          simp only [List.length_cons, List.length_nil, Nat.zero_add, Nat.reduceAdd] at hw' r0 r1 r2 hT
          rw [hw']
          exact bodyPost_ret (v := .agg #[.int .i64 4, .int .i64 n, .slice (some ⟨wb.heap.size, 0, none⟩) 2 2]) (by simp [results, Tryz.results99, go_sem, r0, r1, r2]) rfl ⟨_, _, _, _, _, rfl, by rw [HE.out]; exact hT, hb⟩
end Go.Proofs.YtlnlijeamflpiaaGreat

namespace Go.Proofs.YtlnlijeamflpiaaGreat
open Go.RowKit
set_option linter.unusedVariables false
set_option linter.unusedSimpArgs false
set_option maxRecDepth 100000
set_option maxRecDepth 20000
theorem Kids.inn {w : World} {F : Nat → Prop} {a : Option Addr} {cap : Nat} {ks : List Tr} (h : Kids w F a cap ks) : Kids w (fun b => F b ∧ b < w.heap.size) a cap ks := by
  induction h with
  | nil => exact .nil
  | empty a cap => exact .empty a cap
  | row b off cap ks A C hpos hl hF h0 h1 h2 _ ih => exact .row b off cap ks A C hpos hl ⟨hF, World.block_lt_of_cell? w _ (h0 0 hpos)⟩ h0 h1 h2 ih
theorem IsT.inn {w : World} {F : Nat → Prop} {k n : Int} {a : Option Addr} {m cap : Nat} {t : Tr} (h : IsT w F k n a m cap t) : IsT w (fun b => F b ∧ b < w.heap.size) k n a m cap t := ⟨h.ek, h.en, h.em, h.ok, h.kids.inn⟩
theorem CellsT.inn {w : World} {F : Nat → Prop} {xs : List Value} {ts : List Tr} (h : CellsT w F xs ts) : CellsT w (fun b => F b ∧ b < w.heap.size) xs ts := by
  induction h with
  | nil => exact .nil
  | cons h _ ih => exact .cons h.inn ih
/-- Blocks from B on, but for the two rows' own. -/
def Off (B : Nat) (v u : Value) (b : Nat) : Prop := B ≤ b ∧ v.ownBlock ≠ some b ∧ u.ownBlock ≠ some b
/-- Two rows that the call owns read as trees. -/
def TwoT (w : World) (B : Nat) (v u : Value) (ts us : List Tr) : Prop :=
  ∃ xs ys, w.ownsRow B 48 3 v ts.length xs ∧ w.ownsRow B 48 3 u us.length ys ∧ CellsT w (Off B v u) xs ts ∧ CellsT w (Off B v u) ys us ∧ (v.ownBlock = none ∨ v.ownBlock ≠ u.ownBlock)
def noRow : Value := .slice none 0 0
theorem TwoT.below {w w' : World} {B : Nat} {v u : Value} {ts us : List Tr} (h : TwoT w B v u ts us) (hb : Below w.heap.size w w') : TwoT w' B v u ts us := by
  obtain ⟨xs, ys, h1, h2, h3, h4, h5⟩ := h
  exact ⟨xs, ys, own_later3 h1 hb, own_later3 h2 hb, h3.later hb, h4.later hb, h5⟩
theorem TwoT.swap {w : World} {B : Nat} {v u : Value} {ts us : List Tr} (h : TwoT w B v u ts us) : TwoT w B u v us ts := by
  obtain ⟨xs, ys, h1, h2, h3, h4, h5⟩ := h
  exact ⟨ys, xs, h2, h1, h4.mono fun b hb => ⟨hb.1, hb.2.2, hb.2.1⟩, h3.mono fun b hb => ⟨hb.1, hb.2.2, hb.2.1⟩, by rcases h5 with h5 | h5 <;> (cases hu : u.ownBlock <;> simp_all <;> exact fun e => h5 e.symm)⟩
theorem TwoT.none (w : World) (B : Nat) : TwoT w B noRow noRow [] [] := ⟨[], [], World.ownsRow_nil _ _ _ _, World.ownsRow_nil _ _ _ _, .nil, .nil, .inl rfl⟩
theorem TwoT.len {w : World} {B : Nat} {v u : Value} {ts us : List Tr} (h : TwoT w B v u ts us) : ∃ a cap, v = .slice a ts.length cap := by
  obtain ⟨xs, ys, h1, _⟩ := h
  obtain ⟨a, cap, h, _⟩ := own_slice2 h1
  exact ⟨a, cap, h⟩
theorem TwoT.row {w : World} {B : Nat} {v : Value} {ts : List Tr} (h : TwoT w B v noRow ts []) : ∃ a cap, v = .slice a ts.length cap ∧ Kids w (fun _ => True) a cap ts ∧ (∀ t ∈ ts, t.Ok) := by
  obtain ⟨xs, ys, h1, _, h3, _⟩ := h
  obtain ⟨a, cap, rfl, _⟩ := own_slice2 h1
  exact ⟨a, cap, rfl, kids_of_own h1 h3 rfl (fun _ _ => trivial) (fun _ _ => trivial), h3.ok⟩
theorem own_mono {w : World} {B B' : Nat} {e : TypeId} {s : Nat} {v : Value} {n : Nat} {xs : List Value} (hB : B ≤ B') (h : w.ownsRow B' e s v n xs) : w.ownsRow B e s v n xs :=
  ⟨h.1, h.2.imp id fun ⟨g, cap, cur, h1, h2, h3⟩ => ⟨g, cap, cur, h1, Nat.le_trans hB h2, h3⟩⟩
/-- A row and a later one. -/
theorem TwoT.join {w w1 w2 : World} {B : Nat} {v u : Value} {ts us : List Tr} (hB : B ≤ w1.heap.size) (h : TwoT w1 B v noRow ts []) (hb : Below w1.heap.size w1 w2) (h2 : TwoT w2 w1.heap.size u noRow us []) : TwoT w2 B v u ts us := by
  obtain ⟨xs, _, g1, _, g3, _⟩ := h
  obtain ⟨ys, _, k1, _, k3, _⟩ := h2
  have hu : ∀ g, u.ownBlock = some g → w1.heap.size ≤ g := fun g hg => (k1.lt g hg).1
  have hv : ∀ g, v.ownBlock = some g → g < w1.heap.size := fun g hg => (g1.lt g hg).2
  refine ⟨xs, ys, own_later3 g1 hb, own_mono hB k1, (g3.inn.later hb).mono fun b hb => ⟨hb.1.1, hb.1.2.1, fun e => ?_⟩, k3.mono fun b hb => ⟨Nat.le_trans hB hb.1, fun e => ?_, hb.2.1⟩, ?_⟩
  · have := hu b e; have := hb.2; omega
  · have := hv b e; have := hb.1; omega
  · cases hvo : v.ownBlock with
    | none => exact .inl rfl
    | some g => refine .inr fun e => ?_; have := hv g hvo; have := hu g e.symm; omega
/-- Behind an append to the first row: the trees are where they were. -/
theorem twoT_grown {wn W w' : World} {B : Nat} {v u v' : Value} {k : Nat} (hW : ∀ b, b < wn.heap.size → W.heap[b]? = wn.heap[b]?) (hs : wn.heap.size ≤ W.heap.size) (hg : W.grownBy w' v.ownBlock) (hor : v'.ownBlock = v.ownBlock ∨ v'.ownBlock = some W.heap.size) {xs : List Value} {ts : List Tr} (h : CellsT wn (Off B v u) xs ts) : CellsT w' (Off B v' u) xs ts := by
  refine (h.inn.stay (w' := w') fun b hb _ => (hg.block b (by have := hb.2; omega) (Ne.symm hb.1.2.1)).trans (hW b hb.2)).mono fun b hb => ⟨hb.1.1, ?_, hb.1.2.2⟩
  rcases hor with e | e
  · rw [e]; exact hb.1.2.1
  · rw [e]; intro e; have := hb.2; injection e with e; omega
theorem step_push {ops : Array Oper} {o : Oper} {a : Act} {K : Act → World → Prop} {Q : Exit → Act → World → Prop} {E : Prop} (hgd : o.guard = none) (s x : Operand)
    (ho : o.op = .call { callee := .builtin .append, args := #[s, x], argTypes := #[43, 43] })
    (wn : World) (B : Nat) (v u : Value) (ts us : List Tr) (k n : Int) (b : Option Addr) (m c : Nat) (t : Tr) (hs : a.eval s = v) (hx : a.eval x = .slice (some ⟨wn.heap.size, 0, none⟩) 1 1)
    (hR : TwoT wn B v u ts us) (hT : IsT wn (Off B v u) k n b m c t) (hlen : ts.length ≤ 4000000) (hB : B ≤ wn.heap.size)
    (h : ∀ v' w', TwoT w' B v' u (ts ++ [t]) us → (wn.alloc (.cells #[.int .i64 k, .int .i64 n, .slice b m c] 48)).grownBy w' v.ownBlock → (∀ g, v.ownBlock = some g → B ≤ g) → K (a.put o.dst v') w') :
    if Region.wanted o (yielded ops a.tmps) = true then Oper.wp Tryz.prog o a (wn.alloc (.cells #[.int .i64 k, .int .i64 n, .slice b m c] 48)) K Q else E := by
  obtain ⟨i0, hi, hz0, hz1, hz2⟩ := info_parts info_desc
  obtain ⟨xs, ys, h1, h2, h3, h4, h5⟩ := hR
  have e0 : ∀ b', b' < wn.heap.size → (wn.alloc (.cells #[.int .i64 k, .int .i64 n, .slice b m c] 48)).heap[b']? = wn.heap[b']? := fun b' hb' => heap_alloc_old _ _ hb'
  have es : (wn.alloc (.cells #[.int .i64 k, .int .i64 n, .slice b m c] 48)).heap.size = wn.heap.size + 1 := by simp
  refine step_append_lies _ hgd s x 43 ho B 48 i0 _ 3 40 Tryz.underlying43 hi hz0 hz1 hz2 rfl (by omega) v ts.length xs hs (h1.alloc _) ⟨wn.heap.size, 0, none⟩ 1 1 [.int .i64 k, .int .i64 n, .slice b m c] hx rfl (cell_three_new _ _ _ _ _) (one_three _ _ _ _ _) (by omega) (by unfold maxLen; omega) (by omega) (by omega) _ rfl ?_
  intro g cap w' hown hgrow hor hlt
  have hor' : (Value.slice (some ⟨g, 0, none⟩) (ts.length + 1) cap).ownBlock = v.ownBlock ∨ (Value.slice (some ⟨g, 0, none⟩) (ts.length + 1) cap).ownBlock = some (wn.alloc (.cells #[.int .i64 k, .int .i64 n, .slice b m c] 48)).heap.size := by
    rcases hor with e | e
    · exact .inl e.symm
    · exact .inr (by rw [e]; rfl)
  have hun : u.ownBlock = .none ∨ u.ownBlock ≠ v.ownBlock := by
    rcases h5 with h5 | h5
    · cases hu : u.ownBlock with
      | none => exact .inl rfl
      | some g => exact .inr (by rw [h5]; simp)
    · exact .inr (Ne.symm h5)
  refine h _ w' ⟨xs ++ [.int .i64 k, .int .i64 n, .slice b m c], ys, by rw [List.length_append, List.length_singleton]; exact hown, (h2.alloc _).kept hgrow hun, (twoT_grown (k := 0) e0 (by omega) hgrow hor' h3).append (twoT_grown (k := 0) e0 (by omega) hgrow hor' (.one hT)), twoT_grown (k := 0) e0 (by omega) hgrow hor' h4, .inr fun e => ?_⟩ hgrow (fun g hg => (h1.lt g hg).1)
  rcases hor with e2 | e2
  · rcases h5 with h5 | h5
    · rw [h5] at e2; cases e2
    · exact h5 (e2.trans e)
  · have := (h2.lt g e.symm).2
    rw [e2, es] at this
    omega
theorem wpList_push {ops : Array Oper} {rest : List Oper} {o : Oper} {a : Act} {Q : Exit → Act → World → Prop} (hgd : o.guard = none) (s x : Operand)
    (ho : o.op = .call { callee := .builtin .append, args := #[s, x], argTypes := #[43, 43] })
    (wn : World) (B : Nat) (v u : Value) (ts us : List Tr) (k n : Int) (b : Option Addr) (m c : Nat) (t : Tr) (hs : a.eval s = v) (hx : a.eval x = .slice (some ⟨wn.heap.size, 0, none⟩) 1 1)
    (hR : TwoT wn B v u ts us) (hT : IsT wn (Off B v u) k n b m c t) (hlen : ts.length ≤ 4000000) (hB : B ≤ wn.heap.size)
    (h : ∀ v' w', TwoT w' B v' u (ts ++ [t]) us → (wn.alloc (.cells #[.int .i64 k, .int .i64 n, .slice b m c] 48)).grownBy w' v.ownBlock → (∀ g, v.ownBlock = some g → B ≤ g) → wpList Tryz.prog ops Q rest (a.put o.dst v') w') :
    wpList Tryz.prog ops Q (o :: rest) a (wn.alloc (.cells #[.int .i64 k, .int .i64 n, .slice b m c] 48)) := by
  refine wpList_plain hgd fun K hK => ?_
  have := step_push (ops := ops) (K := K) (Q := Q) (E := True) hgd s x ho wn B v u ts us k n b m c t hs hx hR hT hlen hB (fun v' w' h1 h2 h3 => hK _ _ (h v' w' h1 h2 h3))
  rwa [if_pos (by simp [Region.wanted, hgd])] at this
/-- append of the second row to the first. -/
theorem wpList_both {ops : Array Oper} {rest : List Oper} {o : Oper} {a : Act} {Q : Exit → Act → World → Prop} (hgd : o.guard = none) (s x : Operand)
    (ho : o.op = .call { callee := .builtin .append, args := #[s, x], argTypes := #[43, 43] })
    (wn : World) (B : Nat) (v u : Value) (ts us : List Tr) (hs : a.eval s = v) (hx : a.eval x = u) (hR : TwoT wn B v u ts us) (hlen : ts.length + us.length ≤ 4000000) (hB : B ≤ wn.heap.size)
    (h : ∀ v' w', TwoT w' B v' noRow (ts ++ us) [] → wn.grownBy w' v.ownBlock → (∀ g, v.ownBlock = some g → B ≤ g) → wpList Tryz.prog ops Q rest (a.put o.dst v') w') :
    wpList Tryz.prog ops Q (o :: rest) a wn := by
  obtain ⟨i0, hi, hz0, hz1, hz2⟩ := info_parts info_desc
  obtain ⟨xs, ys, h1, h2, h3, h4, h5⟩ := hR
  refine wpList_append_two wn hgd s x 43 ho B 48 i0 _ 3 40 Tryz.underlying43 hi hz0 hz1 hz2 rfl (by decide) v ts.length xs hs h1 B u us.length ys hx h2 h4.oneCell (by unfold maxLen; omega) (by omega) hB ?_
  intro v' w' hown hgrow hor
  have hc := twoT_grown (k := 0) (fun _ _ => rfl) (Nat.le_refl _) hgrow hor (h3.append h4)
  exact h v' w' ⟨xs ++ ys, [], by rw [List.length_append]; exact hown, World.ownsRow_nil _ _ _ _, hc.mono fun b hb => ⟨hb.1, hb.2.1, by simp [noRow, Value.ownBlock]⟩, .nil, by cases hv : v'.ownBlock <;> simp [noRow, Value.ownBlock]⟩ hgrow (fun g hg => (h1.lt g hg).1)
/-- A result: a new row of trees. -/
def GivesTs (ts : List Tr) (w : World) (e : Ending) (w' : World) : Prop := ∃ v, e = .returned v ∧ TwoT w' w.heap.size v noRow ts [] ∧ Below w.heap.size w w'
end Go.Proofs.YtlnlijeamflpiaaGreat

namespace Go.Proofs.YtlnlijeamflpiaaGreat
open Go.RowKit
set_option linter.unusedVariables false
set_option linter.unusedSimpArgs false
set_option maxRecDepth 100000
set_option maxRecDepth 20000
/-- Cells that read as runs, four a run. -/
inductive CellsR (w : World) (F : Nat → Prop) : List Value → List Tr → List Int → Prop
  | nil : CellsR w F [] [] []
  | cons {k n : Int} {a : Option Addr} {m c : Nat} {t : Tr} {x : Int} {xs : List Value} {ts : List Tr} {ys : List Int} (h : IsT w F k n a m c t) (hx : fits .i64 x) (hs : CellsR w F xs ts ys) : CellsR w F (.int .i64 k :: .int .i64 n :: .slice a m c :: .int .i64 x :: xs) (t :: ts) (x :: ys)
theorem CellsR.append {w : World} {F : Nat → Prop} {xs ys : List Value} {ts us : List Tr} {ps qs : List Int} (h : CellsR w F xs ts ps) (h2 : CellsR w F ys us qs) : CellsR w F (xs ++ ys) (ts ++ us) (ps ++ qs) := by
  induction h with
  | nil => exact h2
  | cons h hx _ ih => exact .cons h hx ih
theorem CellsR.mono {w : World} {F G : Nat → Prop} {xs : List Value} {ts : List Tr} {ps : List Int} (h : CellsR w F xs ts ps) (hs : ∀ b, F b → G b) : CellsR w G xs ts ps := by
  induction h with
  | nil => exact .nil
  | cons h hx _ ih => exact .cons (h.mono hs) hx ih
theorem CellsR.stay {w w' : World} {F : Nat → Prop} {xs : List Value} {ts : List Tr} {ps : List Int} (h : CellsR w F xs ts ps) (hs : ∀ b, F b → b < w.heap.size → w'.heap[b]? = w.heap[b]?) : CellsR w' F xs ts ps := by
  induction h with
  | nil => exact .nil
  | cons h hx _ ih => exact .cons (h.stay hs) hx ih
theorem CellsR.later {w w' : World} {F : Nat → Prop} {xs : List Value} {ts : List Tr} {ps : List Int} (h : CellsR w F xs ts ps) (hb : Below w.heap.size w w') : CellsR w' F xs ts ps := h.stay fun b _ hlt => hb.block b hlt
theorem CellsR.inn {w : World} {F : Nat → Prop} {xs : List Value} {ts : List Tr} {ps : List Int} (h : CellsR w F xs ts ps) : CellsR w (fun b => F b ∧ b < w.heap.size) xs ts ps := by
  induction h with
  | nil => exact .nil
  | cons h hx _ ih => exact .cons h.inn hx ih
theorem CellsR.len {w : World} {F : Nat → Prop} {xs : List Value} {ts : List Tr} {ps : List Int} (h : CellsR w F xs ts ps) : ps.length = ts.length ∧ xs.length = ts.length * 4 := by
  induction h with
  | nil => exact ⟨rfl, rfl⟩
  | cons _ _ _ ih => simp only [List.length_cons]; omega
theorem CellsR.at {w : World} {F : Nat → Prop} {xs : List Value} {ts : List Tr} {ps : List Int} (h : CellsR w F xs ts ps) : ∀ i, i < ts.length → ∃ k n a m c, xs[i * 4]? = some (.int .i64 k) ∧ xs[i * 4 + 1]? = some (.int .i64 n) ∧ xs[i * 4 + 2]? = some (.slice a m c) ∧ xs[i * 4 + 3]? = some (.int .i64 (nth ps i)) ∧ IsT w F k n a m c (Tr.kid ts i) := by
  induction h with
  | nil => intro i hi; simp at hi
  | cons h hx hs ih =>
    intro i hi
    cases i with
    | zero => exact ⟨_, _, _, _, _, rfl, rfl, rfl, rfl, h⟩
    | succ i =>
      obtain ⟨k, n, a, m, c, h0, h1, h2, h3, h4⟩ := ih i (by simpa using hi)
      refine ⟨k, n, a, m, c, ?_, ?_, ?_, ?_, h4⟩
      · rw [show (i + 1) * 4 = i * 4 + 4 by omega]; exact h0
      · rw [show (i + 1) * 4 + 1 = i * 4 + 1 + 4 by omega]; exact h1
      · rw [show (i + 1) * 4 + 2 = i * 4 + 2 + 4 by omega]; exact h2
      · rw [show (i + 1) * 4 + 3 = i * 4 + 3 + 4 by omega]; exact h3
/-- A row that the call owns reads as runs; their trees lie in F. -/
def RunsO (w : World) (B : Nat) (F : Nat → Prop) (v : Value) (ts : List Tr) (ys : List Int) : Prop :=
  ∃ vs, w.ownsRow B 50 4 v ts.length vs ∧ CellsR w (fun b => F b ∧ v.ownBlock ≠ some b) vs ts ys
theorem RunsO.none (w : World) (B : Nat) (F : Nat → Prop) : RunsO w B F (.slice none 0 0) [] [] := ⟨[], World.ownsRow_nil _ _ _ _, .nil⟩
theorem RunsO.below {w w' : World} {B : Nat} {F : Nat → Prop} {v : Value} {ts : List Tr} {ys : List Int} (h : RunsO w B F v ts ys) (hb : Below w.heap.size w w') : RunsO w' B F v ts ys := by
  obtain ⟨vs, h1, h2⟩ := h
  exact ⟨vs, own_later3 h1 hb, h2.later hb⟩
theorem RunsO.off {w w' : World} {B p : Nat} {F : Nat → Prop} {v : Value} {ts : List Tr} {ys : List Int} (h : RunsO w B F v ts ys) (hg : w.grownBy w' (some p)) (hp : p < B) (hF : ¬ F p) : RunsO w' B F v ts ys := by
  obtain ⟨vs, h1, h2⟩ := h
  refine ⟨vs, h1.kept hg ?_, h2.stay fun b hb hlt => hg.block b hlt (fun e => hF (by injection e with e; subst e; exact hb.1))⟩
  cases hv : v.ownBlock with
  | none => exact .inl rfl
  | some g => refine .inr fun e => ?_; have := (h1.lt g hv).1; injection e with e; omega
theorem RunsO.len {w : World} {B : Nat} {F : Nat → Prop} {v : Value} {ts : List Tr} {ys : List Int} (h : RunsO w B F v ts ys) : ∃ a cap, v = .slice a ts.length cap := by
  obtain ⟨vs, h1, h2⟩ := h
  obtain ⟨a, cap, h, _⟩ := own_slice2 h1
  exact ⟨a, cap, h⟩
theorem info_run : (Tryz.prog.info? 50).map (fun i => (i.zero, i.size, i.bytes)) = some (some (.agg #[.int .i64 0, .int .i64 0, .slice none 0 0, .int .i64 0]), 4, 48) := by kernel_rfl
theorem cellr_four_new (w : World) (x y z u : Value) (t : TypeId) : ∀ j v, [x, y, z, u][j]? = some v → (w.alloc (.cells #[x, y, z, u] t)).cell? ((⟨w.heap.size, 0, none⟩ : Addr).add j) = some v := by
  intro j v hj
  match j, hj with
  | 0, hj => simp at hj; subst hj; simp [Addr.add]
  | 1, hj => simp at hj; subst hj; simp [Addr.add]
  | 2, hj => simp at hj; subst hj; simp [Addr.add]
  | 3, hj => simp at hj; subst hj; simp [Addr.add]
theorem oner_four (k n : Int) (a : Option Addr) (m c : Nat) (x : Int) : ∀ u ∈ [Value.int .i64 k, Value.int .i64 n, Value.slice a m c, Value.int .i64 x], u.oneCell' = true := by
  intro u hu
  simp only [List.mem_cons, List.not_mem_nil, or_false] at hu
  rcases hu with rfl | rfl | rfl | rfl <;> rfl
/-- append of one run to the row. -/
theorem step_pushR {ops : Array Oper} {o : Oper} {a : Act} {K : Act → World → Prop} {Q : Exit → Act → World → Prop} {E : Prop} (hgd : o.guard = none) (s x : Operand)
    (ho : o.op = .call { callee := .builtin .append, args := #[s, x], argTypes := #[45, 45] })
    (wn : World) (B : Nat) (F : Nat → Prop) (v : Value) (ts : List Tr) (ys : List Int) (k n : Int) (b : Option Addr) (m c : Nat) (t : Tr) (y : Int) (hs : a.eval s = v) (hx : a.eval x = .slice (some ⟨wn.heap.size, 0, none⟩) 1 1)
    (hR : RunsO wn B F v ts ys) (hT : IsT wn (fun b => F b ∧ v.ownBlock ≠ some b) k n b m c t) (hy : fits .i64 y) (hlen : ts.length ≤ 4000000) (hB : B ≤ wn.heap.size)
    (h : ∀ v' w', RunsO w' B F v' (ts ++ [t]) (ys ++ [y]) → (wn.alloc (.cells #[.int .i64 k, .int .i64 n, .slice b m c, .int .i64 y] 50)).grownBy w' v.ownBlock → (∀ g, v.ownBlock = some g → B ≤ g) → K (a.put o.dst v') w') :
    if Region.wanted o (yielded ops a.tmps) = true then Oper.wp Tryz.prog o a (wn.alloc (.cells #[.int .i64 k, .int .i64 n, .slice b m c, .int .i64 y] 50)) K Q else E := by
  obtain ⟨i0, hi, hz0, hz1, hz2⟩ := info_parts info_run
  obtain ⟨xs, h1, h3⟩ := hR
  have e0 : ∀ b', b' < wn.heap.size → (wn.alloc (.cells #[.int .i64 k, .int .i64 n, .slice b m c, .int .i64 y] 50)).heap[b']? = wn.heap[b']? := fun b' hb' => heap_alloc_old _ _ hb'
  have es : (wn.alloc (.cells #[.int .i64 k, .int .i64 n, .slice b m c, .int .i64 y] 50)).heap.size = wn.heap.size + 1 := by simp
  refine step_append_lies _ hgd s x 45 ho B 50 i0 _ 4 48 Tryz.underlying45 hi hz0 hz1 hz2 rfl (by omega) v ts.length xs hs (h1.alloc _) ⟨wn.heap.size, 0, none⟩ 1 1 [.int .i64 k, .int .i64 n, .slice b m c, .int .i64 y] hx rfl (cellr_four_new _ _ _ _ _ _) (oner_four _ _ _ _ _ _) (by omega) (by unfold maxLen; omega) (by omega) (by omega) _ rfl ?_
  intro g cap w' hown hgrow hor hlt
  have hgr : ∀ {zs : List Value} {us : List Tr} {ps : List Int}, CellsR wn (fun b => F b ∧ v.ownBlock ≠ some b) zs us ps → CellsR w' (fun b => F b ∧ (Value.slice (some ⟨g, 0, none⟩) (ts.length + 1) cap).ownBlock ≠ some b) zs us ps := fun h => by
    refine (h.inn.stay (w' := w') fun b hb _ => (hgrow.block b (by have := hb.2; omega) (Ne.symm hb.1.2)).trans (e0 b hb.2)).mono fun b hb => ⟨hb.1.1, ?_⟩
    rcases hor with e | e
    · rw [show (Value.slice (some ⟨g, 0, none⟩) (ts.length + 1) cap).ownBlock = some g from rfl, ← e]; exact hb.1.2
    · rw [show (Value.slice (some ⟨g, 0, none⟩) (ts.length + 1) cap).ownBlock = some g from rfl]; intro e2; have := hb.2; injection e2 with e2; omega
  exact h _ w' ⟨xs ++ [.int .i64 k, .int .i64 n, .slice b m c, .int .i64 y], by rw [List.length_append, List.length_singleton]; exact hown, (hgr h3).append (hgr (.cons hT hy .nil))⟩ hgrow (fun g hg => (h1.lt g hg).1)
/-- A slice reads as some runs. -/
structure IsR (w : World) (F : Nat → Prop) (a : Option Addr) (m : Nat) (ts : List Tr) (ys : List Int) : Prop where
  lt : ts.length = m
  ly : ys.length = m
  at_ : ∀ i, i < m → ∃ b off k n a' m' c', a = some ⟨b, off, none⟩ ∧ b < w.heap.size ∧ w.cell? ⟨b, off + i * 4, none⟩ = some (.int .i64 k) ∧ w.cell? ⟨b, off + i * 4 + 1, none⟩ = some (.int .i64 n) ∧ w.cell? ⟨b, off + i * 4 + 2, none⟩ = some (.slice a' m' c') ∧ w.cell? ⟨b, off + i * 4 + 3, none⟩ = some (.int .i64 (nth ys i)) ∧ IsT w F k n a' m' c' (Tr.kid ts i)
theorem IsR.below {w w' : World} {F : Nat → Prop} {a : Option Addr} {m : Nat} {ts : List Tr} {ys : List Int} (h : IsR w F a m ts ys) (hb : Below w.heap.size w w') : IsR w' F a m ts ys := by
  refine ⟨h.lt, h.ly, fun i hi => ?_⟩
  obtain ⟨b, off, k, n, a', m', c', h0, h1, h2, h3, h4, h5, h6⟩ := h.at_ i hi
  exact ⟨b, off, k, n, a', m', c', h0, Nat.lt_of_lt_of_le h1 hb.size, (hb.cell (p := ⟨b, off + i * 4, none⟩) h1).trans h2, (hb.cell (p := ⟨b, off + i * 4 + 1, none⟩) h1).trans h3, (hb.cell (p := ⟨b, off + i * 4 + 2, none⟩) h1).trans h4, (hb.cell (p := ⟨b, off + i * 4 + 3, none⟩) h1).trans h5, h6.below hb⟩
theorem RunsO.is {w : World} {B : Nat} {F : Nat → Prop} {a : Option Addr} {m c : Nat} {ts : List Tr} {ys : List Int} (h : RunsO w B F (.slice a m c) ts ys) (hm : ts.length = m) : IsR w F a m ts ys := by
  obtain ⟨vs, h1, h2⟩ := h
  refine ⟨hm, by rw [h2.len.1, hm], fun i hi => ?_⟩
  have h1' := h1
  rcases h1.2 with ⟨hv, h0⟩ | ⟨g, cap', cur, hv, hb, hg, hnc, hcm, hcs, htake⟩
  · simp only [Value.slice.injEq] at hv; omega
  · simp only [Value.slice.injEq] at hv
    obtain ⟨rfl, e2, rfl⟩ := hv
    rw [hm] at h1'
    obtain ⟨k, n, a', m', c', k0, k1, k2, k3, k4⟩ := h2.at i (by omega)
    refine ⟨g, 0, k, n, a', m', c', rfl, (h1'.lt g rfl).2, ?_, ?_, ?_, ?_, k4.mono fun b hb => hb.1⟩
    · rw [Nat.zero_add, h1'.cellAt _ (by omega), k0]
    · rw [Nat.zero_add, h1'.cellAt _ (by omega), k1]
    · rw [Nat.zero_add, h1'.cellAt _ (by omega), k2]
    · rw [Nat.zero_add, h1'.cellAt _ (by omega), k3]
end Go.Proofs.YtlnlijeamflpiaaGreat

namespace Go.Proofs.YtlnlijeamflpiaaGreat
open Go.RowKit
set_option linter.unusedVariables false
set_option linter.unusedSimpArgs false
set_option maxRecDepth 100000
set_option maxRecDepth 20000
set_option maxHeartbeats 2000000 in
theorem choose_lap (t : Tr) (k n : Int) (a : Option Addr) (m cap : Nat) (d : Int) (p : Nat) (l : List Int) (q : Nat) (w : World) (F : Nat → Prop) (hF : ∀ b, F b → b ≠ p) (hs : t.size ≤ 4194304) (hT : IsT w F k n a m cap t) (hn : 1 ≤ n ∧ n ≤ 16777216) (hk : Clk p l q w) (hq : q ≤ 100000) :
    Calls Tryz.prog 59 #[.agg #[.int .i64 k, .int .i64 n, .slice a m cap], .int .i64 d, .iface 55 (.pointer (some ⟨p, 0, none⟩))] w fun e w' => e = .returned (.int .i64 (lapA l q)) ∧ Clk p l (q + 2) w' ∧ w.grownBy w' (some p) := by
  obtain ⟨W0, hW0, hb0, x0, x1⟩ := two_boxes w #[.int .i64 k, .int .i64 n, .slice a m cap] #[.int .i64 d] 48 3
  have hp := hk.lt
  have CL : Hid (Calls Tryz.prog 90 #[.iface 55 (.pointer (some ⟨p, 0, none⟩)), .func (.func 91) #[] #[.pointer (some ⟨w.heap.size, 0, none⟩), .pointer (some ⟨w.heap.size + 1, 0, none⟩)]] W0 fun e w' => e = .returned (.int .i64 (lapA l q)) ∧ Clk p l (q + 2) w' ∧ W0.grownBy w' (some p)) :=
    tick_Lap p l q w.heap.size (w.heap.size + 1) W0 (hk.below hb0) hq fun V hg => lap_fn t w.heap.size (w.heap.size + 1) k n a m cap d V F hs
      ((hg.block _ (block_lt x0) (fun e => by injection e with e; omega)).trans x0) ((hg.block _ (block_lt x1) (fun e => by injection e with e; omega)).trans x1)
      ((hT.below hb0).stay fun b hb hlt => hg.block b hlt (fun e => by injection e with e; exact hF b hb e)) hn
  have HG0 := Lib.hid (grown_of_below hb0 (some p))
  have HW0 := Lib.hid hW0
  obtain ⟨L, hL⟩ : ∃ L, lapA l q = L := ⟨_, rfl⟩
  rw [hL] at CL ⊢
  clear hF hT hk hL hW0 hb0 x0 x1
  go_enter Tryz.func59, Tryz.ntmps59
  go_wp2_with fail
  rw [HW0.out]
  refine CL.out.mono ?_; rintro e w1 ⟨rfl, hk1, hg1⟩
  have HK := Lib.hid hk1
  have HG := Lib.hid (HG0.out.trans hg1)
  clear hk1 hg1
  go_wp2_with fail
  go_ret
  exact ⟨rfl, HK.out, HG.out⟩
/-- The error of the first of j trees that is no plan. -/
def chkF (ts : List Tr) : Nat → Int
  | 0 => 0
  | j + 1 => if chkF ts j ≠ 0 then chkF ts j else chk (Tr.kid ts j)
theorem chkF_stop (ts : List Tr) {j : Nat} (h : chkF ts j ≠ 0) : ∀ m, j ≤ m → chkF ts m = chkF ts j := by
  intro m hm
  induction m with
  | zero => rw [show j = 0 by omega]
  | succ m ih =>
    by_cases h1 : j ≤ m
    · have := ih h1
      show (if chkF ts m ≠ 0 then chkF ts m else _) = _
      rw [this, if_pos h]
    · rw [show j = m + 1 by omega]
theorem chkF_zero (ts : List Tr) {m : Nat} (h : chkF ts m = 0) : ∀ j, j < m → chk (Tr.kid ts j) = 0 := by
  intro j hj
  by_cases h0 : chkF ts (j + 1) = 0
  · unfold chkF at h0
    by_cases h1 : chkF ts j = 0
    · rw [if_neg (by simp [h1])] at h0; exact h0
    · rw [if_pos h1] at h0; exact absurd h0 h1
  · rw [← chkF_stop ts h0 m hj] at h0; exact absurd h h0
/-- The error of who measures. -/
def errM (ts : List Tr) (d : Int) (m : Nat) : Int := if d ≠ 0 ∧ d ≠ 1 then 2 else if 12 < m then 12 else chkF ts m
theorem plan_size {t : Tr} (h : nodeOk t = true) : hasSz t.num = true := by
  unfold nodeOk nodeB at h
  generalize t.num = n at h ⊢
  generalize (Tr.kid t.kids 0).num = k0 at h
  generalize (Tr.kid t.kids 1).num = k1 at h
  split at h
  · simp only [Bool.and_eq_true] at h; exact h.2
  · split at h
    · have h := (of_decide_eq_true h).2
      have h : n = 2 ∨ n = 3 ∨ n = 4 ∨ n = 5 := by omega
      rcases h with rfl | rfl | rfl | rfl <;> decide +kernel
    · split at h
      · simp only [Bool.and_eq_true] at h
        obtain ⟨j, hj, rfl⟩ := (hasP2_iff _).1 h.2
        exact hasSz_pow j hj
      · split at h
        · exact (sides_iff.1 h).2
        · split at h
          · simp only [Bool.and_eq_true] at h; exact (sides_iff.1 h.1).2
          · split at h
            · simp only [Bool.and_eq_true] at h; exact h.1.2
            · split at h
              · simp only [Bool.and_eq_true] at h; exact h.1.2
              · cases h
theorem plan_num {t : Tr} (h : chk t = 0) : 1 ≤ t.num ∧ t.num ≤ 16777216 := by
  have h1 := plan_size ((Tr.allOk_iff t).1 (chk_zero.1 h).2).1
  obtain ⟨a, b, _⟩ := hasSz_iff.1 h1
  exact ⟨a, b⟩
theorem three_keep {w W : World} {b : Nat} {x y z : Value} (h : w.cell? ⟨b, 0, none⟩ = some x ∧ w.cell? ⟨b, 1, none⟩ = some y ∧ w.cell? ⟨b, 2, none⟩ = some z) (hb : Below w.heap.size w W) : W.cell? ⟨b, 0, none⟩ = some x ∧ W.cell? ⟨b, 1, none⟩ = some y ∧ W.cell? ⟨b, 2, none⟩ = some z := by
  obtain ⟨h0, h1, h2⟩ := h
  exact ⟨(hb.cell (World.block_lt_of_cell? w _ h0)).trans h0, (hb.cell (World.block_lt_of_cell? w _ h1)).trans h1, (hb.cell (World.block_lt_of_cell? w _ h2)).trans h2⟩
theorem three_off {w W : World} {b : Nat} {r : Option Nat} {x y z : Value} (h : w.cell? ⟨b, 0, none⟩ = some x ∧ w.cell? ⟨b, 1, none⟩ = some y ∧ w.cell? ⟨b, 2, none⟩ = some z) (hg : w.grownBy W r) (hne : some b ≠ r) : W.cell? ⟨b, 0, none⟩ = some x ∧ W.cell? ⟨b, 1, none⟩ = some y ∧ W.cell? ⟨b, 2, none⟩ = some z := by
  obtain ⟨h0, h1, h2⟩ := h
  exact ⟨hg.cell (a := ⟨b, 0, none⟩) h0 hne, hg.cell (a := ⟨b, 1, none⟩) h1 hne, hg.cell (a := ⟨b, 2, none⟩) h2 hne⟩
theorem grown_append {w w2 w3 : World} {o : Obj} {r : Option Nat} {p : Nat} (g1 : w.grownBy w2 (some p)) (hg : (w2.alloc o).grownBy w3 r) (hr : ∀ g, r = some g → w.heap.size ≤ g) : w.grownBy w3 (some p) := by
  have hs : w2.heap.size ≤ (w2.alloc o).heap.size := by simp
  exact ⟨hg.os.trans g1.os, hg.tape.trans g1.tape, hg.output.trans g1.output, Nat.le_trans g1.size (Nat.le_trans hs hg.size), fun k hk hne =>
    (hg.block k (Nat.lt_of_lt_of_le (Nat.lt_of_lt_of_le hk g1.size) hs) (fun e => by have := hr k e.symm; omega)).trans ((heap_alloc_old w2 o (Nat.lt_of_lt_of_le hk g1.size)).trans (g1.block k hk hne))⟩
/-- What measuring gives. -/
def GivesM (ts : List Tr) (d : Int) (m p : Nat) (l : List Int) (q : Nat) (w : World) (e : Ending) (w' : World) : Prop :=
  (errM ts d m ≠ 0 → e = .returned (.tuple #[.slice none 0 0, .int .i64 (errM ts d m)]) ∧ Below w.heap.size w w') ∧
  (errM ts d m = 0 → ∃ a c, e = .returned (.tuple #[.slice a m c, .int .i64 0]) ∧ IsR w' (fun b => w.heap.size ≤ b) a m ts (lapsT l q m) ∧ Clk p l (q + 2 * m) w' ∧ w.grownBy w' (some p))
set_option maxHeartbeats 8000000 in
theorem choose_Measure (ts : List Tr) (a : Option Addr) (m cap : Nat) (d : Int) (p : Nat) (l : List Int) (q : Nat) (w : World) (F : Nat → Prop) (hF : ∀ b, F b → b ≠ p) (hs : ∀ i, i < m → (Tr.kid ts i).size ≤ 4194304) (hL : IsL w F a m cap ts) (hm : m ≤ 9223372036854775807) (hk : Clk p l q w) (hq : q ≤ 1000) :
    Calls Tryz.prog 32 #[.slice a m cap, .int .i64 d, .iface 55 (.pointer (some ⟨p, 0, none⟩))] w (GivesM ts d m p l q w) := by
  unfold GivesM
  by_cases h1 : d ≠ 0 ∧ d ≠ 1
  · have hE : errM ts d m = 2 := by unfold errM; rw [if_pos h1]
    rw [hE]
    have t1 : (d != 0) = true := bdiff h1.1
    have t2 : (d != 1) = true := bdiff h1.2
    clear hL hk hF hE h1
    go_enter Tryz.func32, Tryz.ntmps32
    go_wp2_with fail
    go_ret2
    exact ⟨fun _ => ⟨rfl, Below.refl _ _⟩, fun h => by omega⟩
  have hd : d = 0 ∨ d = 1 := by omega
  have hE : errM ts d m = if 12 < m then 12 else chkF ts m := by unfold errM; rw [if_neg h1]
  rw [hE]
  clear hE h1
  have hp := hk.lt
  have HL := Lib.hid hL
  have HS := Lib.hid hs
  have HF := Lib.hid hF
  have HK := Lib.hid hk
  clear hL hk hF hs
  by_cases h12 : 12 < m
  · have t1 : decide ((m : Int) > 12) = true := decide_eq_true (by omega)
    rw [if_pos h12]
    clear h12
    rcases hd with rfl | rfl
    all_goals
      go_enter Tryz.func32, Tryz.ntmps32
      go_wp2_with fail
      go_ret2
      exact ⟨fun _ => ⟨rfl, Below.refl _ _⟩, fun h => by omega⟩
  have t1 : decide ((m : Int) > 12) = false := decide_eq_false (by omega)
  rw [if_neg h12]
  have hm12 : m ≤ 12 := by omega
  clear h12
  obtain ⟨E, hE⟩ : ∃ E, chkF ts m = E := ⟨_, rfl⟩
  rw [hE]
  have HE := Lib.hid hE
  clear hE
  rcases hd with rfl | rfl
  all_goals
    go_enter Tryz.func32, Tryz.ntmps32
    go_wp2_with fail
    go_loopw [27] (fun i wr => ∃ j : Nat, j ≤ m ∧ i = .int .i64 j ∧ Hid (chkF ts j = 0) ∧ Below w.heap.size w wr) (fun i _ => m - (intOf i).toNat)
    case atStart => exact ⟨0, Nat.zero_le _, rfl, rfl, Below.refl _ _⟩
    case round =>
      obtain ⟨j, hj, rfl, HC, hbel⟩ := hrel
      by_cases hlt : j < m
      · obtain ⟨b, off, k1, n1, a1, m1, c1, rfl, hFb, hbl, c0, cc1, cc2, hT⟩ := (HL.out.below hbel).kid j hlt
        obtain ⟨W0, hW0, hb0, x0⟩ := box_any wr #[.int .i64 k1, .int .i64 n1, .slice a1 m1 c1] 48
        have D0 : W0.cell? ⟨wr.heap.size, 0, none⟩ = some (.int .i64 k1) := block_cell x0 0
        have D1 : W0.cell? ⟨wr.heap.size, 1, none⟩ = some (.int .i64 n1) := block_cell x0 1
        have D2 : W0.cell? ⟨wr.heap.size, 2, none⟩ = some (.slice a1 m1 c1) := block_cell x0 2
        have CK : Hid (Calls Tryz.prog 57 #[.agg #[.int .i64 k1, .int .i64 n1, .slice a1 m1 c1]] W0 fun e w' => e = .returned (.int .i64 (chk (Tr.kid ts j))) ∧ Below W0.heap.size W0 w') := valid_Check _ _ _ _ _ _ W0 F (HS.out j hlt) (hT.below hb0)
        have HN : Hid (chkF ts (j + 1) = chk (Tr.kid ts j)) := by
          unfold Hid; show (if chkF ts j ≠ 0 then _ else _) = _; rw [HC.out, if_neg (by simp)]
        obtain ⟨C, hC⟩ : ∃ C, chk (Tr.kid ts j) = C := ⟨_, rfl⟩
        rw [hC] at CK HN
        have HB0 := Lib.hid (chain hbel hb0)
        have HW0 := Lib.hid hW0
        have i0 : (0 : Int) ≤ (j : Int) := by omega
        have i1 : (j : Int) < (m : Int) := by omega
        clear hT hC hbel hb0 x0 hW0 hFb
        by_cases hc : C = 0
        · subst hc
          go_wp2_with fail
          rw [HW0.out]
          refine CK.out.mono ?_; rintro e w1 ⟨rfl, hb1⟩
          have HB1 := Lib.hid (chain HB0.out hb1)
          clear hb1 D0 D1 D2 c0 cc1 cc2
          go_wp2_with fail
          go_roundw
          case rel => exact ⟨j + 1, by omega, by go_num, HN.out, HB1.out⟩
          case measure => simp [intOf]; omega
        · have t2 : (C != 0) = true := bdiff hc
          have HEE : Hid (E = C) := by unfold Hid; rw [← HE.out, chkF_stop ts (j := j + 1) (by rw [HN.out]; exact hc) m (by omega), HN.out]
          have HCC := Lib.hid hc
          clear hc
          go_wp2_with fail
          rw [HW0.out]
          refine CK.out.mono ?_; rintro e w1 ⟨rfl, hb1⟩
          have HB1 := Lib.hid (chain HB0.out hb1)
          clear hb1 D0 D1 D2 c0 cc1 cc2
          go_wp2_with fail
          go_ret2
          exact ⟨fun _ => ⟨by rw [HEE.out]; rfl, HB1.out⟩, fun h => absurd (HEE.out.symm.trans h) HCC.out⟩
      · obtain rfl : m = j := by omega
        have HE0 : Hid (E = 0) := by unfold Hid; rw [← HE.out, HC.out]
        have HCZ := Lib.hid (chkF_zero ts HC.out)
        have HK1 := Lib.hid (HK.out.below hbel)
        have HG1 := Lib.hid (grown_of_below hbel (some p))
        clear hbel HC
        go_wp2_with fail
        go_loopw [11, 39] (fun v i wr => ∃ j : Nat, j ≤ m ∧ i = .int .i64 j ∧ Hid (RunsO wr w.heap.size (fun b => w.heap.size ≤ b) v (ts.take j) (lapsT l q j)) ∧ Hid (Clk p l (q + 2 * j) wr) ∧ Hid (w.grownBy wr (some p))) (fun _ i _ => m - (intOf i).toNat)
        case atStart => exact ⟨0, Nat.zero_le _, rfl, RunsO.none _ _ _, HK1.out, HG1.out⟩
        case round =>
          obtain ⟨j, hj, rfl, HR, HKJ, HGJ⟩ := hrel
          by_cases hlt : j < m
          · have hLj : IsL wr F a m cap ts := IsT.stay HL.out fun b hb hlt => HGJ.out.block b hlt (fun e => by injection e with e; exact HF.out b hb e)
            obtain ⟨b, off, k1, n1, a1, m1, c1, rfl, hFb, hbl, c0, cc1, cc2, hT⟩ := hLj.kid j hlt
            have hs1 := HS.out j hlt
            have hnm := plan_num (HCZ.out j hlt)
            rw [← hT.en] at hnm
            have hst := Tr.take_kid (ks := ts) (k := j) (by rw [← HL.out.len]; exact hlt)
            obtain ⟨t', ht'⟩ : ∃ t', Tr.kid ts j = t' := ⟨_, rfl⟩
            rw [ht'] at hT hs1 hst
            obtain ⟨W0, hW0, hb0, x0⟩ := box_any wr #[.int .i64 k1, .int .i64 n1, .slice a1 m1 c1] 48
            have hcu : W0.cell? ⟨wr.heap.size, 0, none⟩ = some (.int .i64 k1) ∧ W0.cell? ⟨wr.heap.size, 1, none⟩ = some (.int .i64 n1) ∧ W0.cell? ⟨wr.heap.size, 2, none⟩ = some (.slice a1 m1 c1) := ⟨block_cell x0 0, block_cell x0 1, block_cell x0 2⟩
            have hT0 := hT.below hb0
            have CK : Hid (∀ W, Below W0.heap.size W0 W → Calls Tryz.prog 58 #[.agg #[.int .i64 k1, .int .i64 n1, .slice a1 m1 c1]] W (GivesS t' W)) := fun W hb => desc_Clone 4194304 (by omega) t' _ _ _ _ _ W F hs1 (hT0.below hb)
            have HK0 := HKJ.out.below hb0
            have CLp : Hid (∀ (d : Int) W, Below W0.heap.size W0 W → Calls Tryz.prog 59 #[.agg #[.int .i64 k1, .int .i64 n1, .slice a1 m1 c1], .int .i64 d, .iface 55 (.pointer (some ⟨p, 0, none⟩))] W fun e w' => e = .returned (.int .i64 (lapA l (q + 2 * j))) ∧ Clk p l (q + 2 * j + 2) w' ∧ W.grownBy w' (some p)) := fun d W hb => choose_lap t' k1 n1 a1 m1 c1 d p l (q + 2 * j) W F HF.out hs1 (hT0.below hb) hnm (HK0.below hb) (by omega)
            have HLB := Lib.hid (fits_i64.2 (show -9223372036854775808 ≤ lapA l (q + 2 * j) ∧ lapA l (q + 2 * j) < 9223372036854775808 by have := lapA_bd l (q + 2 * j); omega))
            have HLS : Hid (lapsT l q (j + 1) = lapsT l q j ++ [lapA l (q + 2 * j)]) := lapsT_succ l q j
            obtain ⟨L, hL⟩ : ∃ L, lapA l (q + 2 * j) = L := ⟨_, rfl⟩
            rw [hL] at CLp HLB HLS
            have HST := Lib.hid hst
            have HTL : Hid ((ts.take j).length = j) := by unfold Hid; rw [List.length_take, ← HL.out.len]; omega
            have HG0 := Lib.hid (HGJ.out.trans (grown_of_below hb0 (some p)))
            have HR0 := Lib.hid (HR.out.below hb0)
            have hs0 : W0.heap.size = wr.heap.size + 1 := by rw [← hW0]; simp
            have hsq := HGJ.out.size
            have hvl : ∀ g, u11.ownBlock = some g → g < wr.heap.size := fun g hg => by
              obtain ⟨vs, h1, _⟩ := HR.out
              exact (h1.lt g hg).2
            have HVL := Lib.hid hvl
            have HW0 := Lib.hid hW0
            have hv : ∃ av cv, u11 = .slice av j cv := by
              have := HR.out.len
              rw [HTL.out] at this
              exact this
            obtain ⟨av, cv, rfl⟩ := hv
            have i0 : (0 : Int) ≤ (j : Int) := by omega
            have i1 : (j : Int) < (m : Int) := by omega
            have hbd : Below W0.heap.size W0 W0.drew := (Below.refl _ _).drew
            have hdz : W0.drew.heap.size = W0.heap.size := rfl
            clear hT hT0 hLj hst hL ht' HK0 hW0 hb0 x0 hFb hvl hnm
            go_wp2_with fail
            rw [HW0.out]
            clear c0 cc1 cc2
            go_region_held3 (fun w' => w'.cell? ⟨wr.heap.size, 0, none⟩ = some (.int .i64 k1) ∧ w'.cell? ⟨wr.heap.size, 1, none⟩ = some (.int .i64 n1) ∧ w'.cell? ⟨wr.heap.size, 2, none⟩ = some (.slice a1 m1 c1)) (first | exact hcu | exact three_keep hcu ((Below.refl _ _).alloc (Nat.le_refl _) _)) ((first
              | (refine step_pushR (by rfl) _ _ (by rfl) w2 w.heap.size (fun b => w.heap.size ≤ b) (.slice av j cv) (ts.take j) (lapsT l q j) k2 n2 a2 m2 c2 t' L (by rfl) (by rfl) ((HR0.out.below (chain hbd hb1)).off hg2 (by omega) (by omega)) ((hS2.tree.stay fun b hb hlt => hg2.block b hlt (fun e => by injection e with e; have := hb.1; omega)).mono fun b hb => ⟨by have := hb.1; omega, fun e => by have := HVL.out b e; have := hb.1; omega⟩) HLB.out (by rw [HTL.out]; omega) (by have := hb1.size; have := hg2.size; omega) ?_; intro v' w3 hR3 hgrow hB3; have hcu := three_off (three_keep hcu ((Below.refl _ _).alloc (Nat.le_refl _) _)) hgrow (fun e => by have := HVL.out _ e.symm; omega))
              | (go_at_call 58; refine (CK.out _ hbd).mono ?_; rintro e w1 ⟨k2, n2, a2, m2, c2, rfl, hS2, hb1⟩; have hcu := three_keep hcu (chain hbd hb1))
              | (go_at_call 59; refine (CLp.out _ _ (chain hbd hb1)).mono ?_; rintro e w2 ⟨rfl, hk2, hg2⟩; have hcu := three_off hcu hg2 (fun e => by injection e with e; omega))
              | fail))
            have HR4 : Hid (RunsO w3 w.heap.size (fun b => w.heap.size ≤ b) v' (ts.take (j + 1)) (lapsT l q (j + 1))) := by unfold Hid; rw [HST.out, HLS.out]; exact hR3
            have hps : p < w2.heap.size := by have := hb1.size; have := hg2.size; omega
            have HK4 : Hid (Clk p l (q + 2 * (j + 1)) w3) := by
              have := ClockAt.stay (w' := w3) (hk2.below ((Below.refl _ _).alloc (Nat.le_refl _) _)) fun b hb => hgrow.block b (by simp; omega) (fun e => by have := hB3 b e.symm; omega)
              exact this
            have HG4 : Hid (w.grownBy w3 (some p)) := grown_append ((HG0.out.trans (grown_of_below (chain hbd hb1) (some p))).trans hg2) hgrow hB3
            clear hcu hb1 hg2 hk2 hS2 hR3 hgrow hB3 hbd
            go_wp2_with fail
            go_roundw
            case rel => exact ⟨j + 1, by omega, by go_num, HR4.out, HK4.out, HG4.out⟩
            case measure => simp [intOf]; omega
          · obtain rfl : m = j := by omega
            have hR := HR.out
            rw [List.take_of_length_le (by rw [← HL.out.len]; omega)] at hR
            obtain ⟨av, cv, hav⟩ := hR.len
            rw [← HL.out.len] at hav
            subst hav
            have HIS := Lib.hid (hR.is HL.out.len.symm)
            clear hR
            go_wp2_with fail
            go_ret2
            exact ⟨fun h => absurd HE0.out h, fun _ => ⟨av, cv, rfl, HIS.out, HKJ.out, HGJ.out⟩⟩
end Go.Proofs.YtlnlijeamflpiaaGreat

namespace Go.Proofs.YtlnlijeamflpiaaGreat
open Go.RowKit
set_option linter.unusedVariables false
set_option linter.unusedSimpArgs false
set_option maxRecDepth 100000
set_option maxRecDepth 20000
theorem four_at {w W : World} {b o0 o1 o2 o3 : Nat} {x y z u : Value} (h : w.cell? ⟨b, o0, none⟩ = some x ∧ w.cell? ⟨b, o1, none⟩ = some y ∧ w.cell? ⟨b, o2, none⟩ = some z ∧ w.cell? ⟨b, o3, none⟩ = some u) (hb : Below w.heap.size w W) : W.cell? ⟨b, o0, none⟩ = some x ∧ W.cell? ⟨b, o1, none⟩ = some y ∧ W.cell? ⟨b, o2, none⟩ = some z ∧ W.cell? ⟨b, o3, none⟩ = some u := by
  obtain ⟨h0, h1, h2, h3⟩ := h
  exact ⟨(hb.cell (World.block_lt_of_cell? w _ h0)).trans h0, (hb.cell (World.block_lt_of_cell? w _ h1)).trans h1, (hb.cell (World.block_lt_of_cell? w _ h2)).trans h2, (hb.cell (World.block_lt_of_cell? w _ h3)).trans h3⟩
set_option maxHeartbeats 4000000 in
theorem choose_First (ts : List Tr) (ys : List Int) (a : Option Addr) (m cap : Nat) (w : World) (F : Nat → Prop) (hm : m ≤ 4194304) (hs : ∀ i, i < m → (Tr.kid ts i).size ≤ 4194304) (hL : IsR w F a m ts ys) :
    Calls Tryz.prog 29 #[.slice a m cap] w fun e w' => e = .returned (.tuple #[.int .i64 (firstR ts ys m : Nat), .bool (decide (0 < m))]) ∧ Below w.heap.size w w' := by
  have HL := Lib.hid hL
  have HS := Lib.hid hs
  obtain ⟨V, hV⟩ : ∃ V, firstR ts ys m = V := ⟨_, rfl⟩
  rw [hV]
  have HV := Lib.hid hV
  clear hL hs hV
  go_enter Tryz.func29, Tryz.ntmps29
  go_wp2_with fail
  go_loopw [4, 9] (fun v i wr => ∃ j q : Nat, j ≤ m ∧ i = .int .i64 j ∧ v = .int .i64 q ∧ Hid (q = firstR ts ys j) ∧ (q < j ∨ j = 0 ∧ q = 0) ∧ Below w.heap.size w wr) (fun _ i _ => m - (intOf i).toNat)
  case atStart => exact ⟨0, 0, Nat.zero_le _, rfl, rfl, rfl, .inr ⟨rfl, rfl⟩, Below.refl _ _⟩
  case round =>
    obtain ⟨j, q, hj, rfl, rfl, HQ, hq, hbel⟩ := hrel
    by_cases hlt : j < m
    · have hqm : q < m := by omega
      obtain ⟨b, off, k1, n1, a1, m1, c1, rfl, hbl, h0, h1, h2, h3, hT⟩ := (HL.out.below hbel).at_ j hlt
      obtain ⟨b', off', k2, n2, a2, m2, c2, hab, hbl', g0, g1, g2, g3, hU⟩ := (HL.out.below hbel).at_ q hqm
      simp only [Option.some.injEq, Addr.mk.injEq, and_true] at hab
      obtain ⟨rfl, rfl⟩ := hab
      obtain ⟨W0, hW0, hb0, x0⟩ := box_any wr #[.int .i64 k1, .int .i64 n1, .slice a1 m1 c1, .int .i64 (nth ys j)] 50
      have hcu : W0.cell? ⟨wr.heap.size, 0, none⟩ = some (.int .i64 k1) ∧ W0.cell? ⟨wr.heap.size, 1, none⟩ = some (.int .i64 n1) ∧ W0.cell? ⟨wr.heap.size, 2, none⟩ = some (.slice a1 m1 c1) ∧ W0.cell? ⟨wr.heap.size, 3, none⟩ = some (.int .i64 (nth ys j)) := ⟨block_cell x0 0, block_cell x0 1, block_cell x0 2, block_cell x0 3⟩
      have hcv := four_at ⟨g0, g1, g2, g3⟩ hb0
      have CK : Hid (∀ W, Below W0.heap.size W0 W → Calls Tryz.prog 54 #[.agg #[.int .i64 k1, .int .i64 n1, .slice a1 m1 c1], .agg #[.int .i64 k2, .int .i64 n2, .slice a2 m2 c2]] W fun e w' => e = .returned (.int .i64 (wcmp (Tr.kid ts j) (Tr.kid ts q))) ∧ Below W.heap.size W w') :=
        fun W hb => cost_Cmp _ _ _ _ _ _ _ _ _ _ _ _ W _ _ (HS.out j hlt) (HS.out q hqm) (hT.below (chain hb0 hb)) (hU.below (chain hb0 hb))
      have hbq := wcmp_bd (Tr.kid ts j) (Tr.kid ts q)
      have HN : Hid (firstR ts ys (j + 1) = if orI (cmpI (nth ys j) (nth ys q)) (wcmp (Tr.kid ts j) (Tr.kid ts q)) < 0 then j else q) := by
        unfold Hid; show (if aheadR ts ys j (firstR ts ys j) then j else firstR ts ys j) = _; rw [← HQ.out]; rfl
      obtain ⟨r, hr⟩ : ∃ r, wcmp (Tr.kid ts j) (Tr.kid ts q) = r := ⟨_, rfl⟩
      obtain ⟨x, hx⟩ : ∃ x, nth ys j = x := ⟨_, rfl⟩
      obtain ⟨y, hy⟩ : ∃ y, nth ys q = y := ⟨_, rfl⟩
      rw [hr] at CK HN hbq
      rw [hx] at HN h3 hcu hW0 x0
      rw [hy] at HN hcv
      have CC : Hid (∀ W, Calls Tryz.prog 53 #[.int .i64 x, .int .i64 y] W fun e w' => e = .returned (.int .i64 (cmpI x y)) ∧ W = w') := fun W => cmp_Compare _ _ _
      have bp := cmpI_bd x y
      obtain ⟨s, hsx⟩ : ∃ s, cmpI x y = s := ⟨_, rfl⟩
      rw [hsx] at CC bp HN
      have COr : Hid (∀ W : World, Calls Tryz.prog 52 #[.slice (some ⟨W.heap.size, 0, none⟩) 2 2] (W.alloc (.cells #[.int .i64 s, .int .i64 r] 3)) fun e w' => e = .returned (.int .i64 (orI s r)) ∧ W.alloc (.cells #[.int .i64 s, .int .i64 r] 3) = w') := fun W => by
        have := cmp_Or (some ⟨W.heap.size, 0, none⟩) 2 2 [s, r] (W.alloc (.cells #[.int .i64 s, .int .i64 r] 3)) (row_new .i64 W 3 [s, r] (by
          intro z hz
          simp only [List.mem_cons, List.not_mem_nil, or_false] at hz
          rcases hz with rfl | rfl <;> exact fits_i64.2 (by omega)) (by simp)) rfl (by omega)
        rwa [orL_two] at this
      obtain ⟨X, hX⟩ : ∃ X, orI s r = X := ⟨_, rfl⟩
      rw [hX] at COr HN
      have i0 : (0 : Int) ≤ (j : Int) := by omega
      have i1 : (j : Int) < (m : Int) := by omega
      have i2 : (0 : Int) ≤ (q : Int) := by omega
      have i3 : (q : Int) < (m : Int) := by omega
      have HB0 := Lib.hid (chain hbel hb0)
      have HQL := Lib.hid hq
      have HW0 := Lib.hid hW0
      have hb : Below W0.heap.size W0 W0.drew := (Below.refl _ _).drew
      clear hT hU hr hx hy hsx hX HQ hbel hq hbq bp hb0 x0 hW0
      by_cases hc : X < 0
      · have d1 : decide (X < 0) = true := decide_eq_true hc
        have HN2 : Hid (firstR ts ys (j + 1) = j) := by unfold Hid; rw [HN.out, if_pos hc]
        clear HN
        go_wp2_with fail
        rw [HW0.out]
        clear h0 h1 h2 h3 g0 g1 g2 g3
        go_region_held3 (fun w' => (w'.cell? ⟨wr.heap.size, 0, none⟩ = some (.int .i64 k1) ∧ w'.cell? ⟨wr.heap.size, 1, none⟩ = some (.int .i64 n1) ∧ w'.cell? ⟨wr.heap.size, 2, none⟩ = some (.slice a1 m1 c1) ∧ w'.cell? ⟨wr.heap.size, 3, none⟩ = some (.int .i64 x)) ∧ (w'.cell? ⟨b, off + q * 4, none⟩ = some (.int .i64 k2) ∧ w'.cell? ⟨b, off + q * 4 + 1, none⟩ = some (.int .i64 n2) ∧ w'.cell? ⟨b, off + q * 4 + 2, none⟩ = some (.slice a2 m2 c2) ∧ w'.cell? ⟨b, off + q * 4 + 3, none⟩ = some (.int .i64 y))) (first | exact ⟨hcu, hcv⟩ | exact ⟨four_at hcu hb, four_at hcv hb⟩ | exact ⟨four_at hcu (hb.alloc hb.size _), four_at hcv (hb.alloc hb.size _)⟩) ((first
          | (go_at_call 53; ((with_reducible refine (CC.out _).mono ?_); rintro e z ⟨rfl, rfl⟩))
          | (go_at_call 54; ((with_reducible refine (CK.out _ hb).mono ?_); rintro e z ⟨rfl, hc2⟩; have hb := chain hb hc2))
          | (go_at_call 52; ((with_reducible refine (COr.out _).mono ?_); rintro e z ⟨rfl, rfl⟩))
          | fail))
        all_goals
          have HBZ := Lib.hid (chain HB0.out (hb.alloc hb.size (.cells #[.int .i64 s, .int .i64 r] 3)))
          clear hb hcu hcv
          go_wp2_with fail
          go_roundw
          case rel => exact ⟨j + 1, j, by omega, by go_num, rfl, HN2.out.symm, by omega, HBZ.out⟩
          case measure => simp [intOf]; omega
      · have d1 : decide (X < 0) = false := decide_eq_false hc
        have HN2 : Hid (firstR ts ys (j + 1) = q) := by unfold Hid; rw [HN.out, if_neg hc]
        clear HN
        go_wp2_with fail
        rw [HW0.out]
        clear h0 h1 h2 h3 g0 g1 g2 g3
        go_region_held3 (fun w' => (w'.cell? ⟨wr.heap.size, 0, none⟩ = some (.int .i64 k1) ∧ w'.cell? ⟨wr.heap.size, 1, none⟩ = some (.int .i64 n1) ∧ w'.cell? ⟨wr.heap.size, 2, none⟩ = some (.slice a1 m1 c1) ∧ w'.cell? ⟨wr.heap.size, 3, none⟩ = some (.int .i64 x)) ∧ (w'.cell? ⟨b, off + q * 4, none⟩ = some (.int .i64 k2) ∧ w'.cell? ⟨b, off + q * 4 + 1, none⟩ = some (.int .i64 n2) ∧ w'.cell? ⟨b, off + q * 4 + 2, none⟩ = some (.slice a2 m2 c2) ∧ w'.cell? ⟨b, off + q * 4 + 3, none⟩ = some (.int .i64 y))) (first | exact ⟨hcu, hcv⟩ | exact ⟨four_at hcu hb, four_at hcv hb⟩ | exact ⟨four_at hcu (hb.alloc hb.size _), four_at hcv (hb.alloc hb.size _)⟩) ((first
          | (go_at_call 53; ((with_reducible refine (CC.out _).mono ?_); rintro e z ⟨rfl, rfl⟩))
          | (go_at_call 54; ((with_reducible refine (CK.out _ hb).mono ?_); rintro e z ⟨rfl, hc2⟩; have hb := chain hb hc2))
          | (go_at_call 52; ((with_reducible refine (COr.out _).mono ?_); rintro e z ⟨rfl, rfl⟩))
          | fail))
        all_goals
          have HBZ := Lib.hid (chain HB0.out (hb.alloc hb.size (.cells #[.int .i64 s, .int .i64 r] 3)))
          clear hb hcu hcv
          go_wp2_with fail
          go_roundw
          case rel => exact ⟨j + 1, q, by omega, by go_num, rfl, HN2.out.symm, by have := HQL.out; omega, HBZ.out⟩
          case measure => simp [intOf]; omega
    · obtain rfl : m = j := by omega
      have HE : Hid (q = V) := by unfold Hid; rw [← HV.out]; exact HQ.out
      by_cases h0 : 0 < m
      · have t1 : decide ((m : Int) > 0) = true := decide_eq_true (by omega)
        have HT : Hid (decide (0 < m) = true) := decide_eq_true h0
        have HB := Lib.hid hbel
        clear h0 hbel
        go_wp2_with fail
        go_ret2
        exact ⟨by rw [HE.out, HT.out]; rfl, HB.out⟩
      · have t1 : decide ((m : Int) > 0) = false := decide_eq_false (by omega)
        have HT : Hid (decide (0 < m) = false) := decide_eq_false h0
        have HB := Lib.hid hbel
        clear h0 hbel
        go_wp2_with fail
        go_ret2
        exact ⟨by rw [HE.out, HT.out]; rfl, HB.out⟩
theorem six_keep {w W : World} {b c o0 o1 o2 p0 p1 p2 : Nat} {x y z x' y' z' : Value} (h : (w.cell? ⟨b, o0, none⟩ = some x ∧ w.cell? ⟨b, o1, none⟩ = some y ∧ w.cell? ⟨b, o2, none⟩ = some z) ∧ (w.cell? ⟨c, p0, none⟩ = some x' ∧ w.cell? ⟨c, p1, none⟩ = some y' ∧ w.cell? ⟨c, p2, none⟩ = some z')) (hb : Below w.heap.size w W) : (W.cell? ⟨b, o0, none⟩ = some x ∧ W.cell? ⟨b, o1, none⟩ = some y ∧ W.cell? ⟨b, o2, none⟩ = some z) ∧ (W.cell? ⟨c, p0, none⟩ = some x' ∧ W.cell? ⟨c, p1, none⟩ = some y' ∧ W.cell? ⟨c, p2, none⟩ = some z') := by
  obtain ⟨⟨h0, h1, h2⟩, h3, h4, h5⟩ := h
  exact ⟨⟨(hb.cell (World.block_lt_of_cell? w _ h0)).trans h0, (hb.cell (World.block_lt_of_cell? w _ h1)).trans h1, (hb.cell (World.block_lt_of_cell? w _ h2)).trans h2⟩, (hb.cell (World.block_lt_of_cell? w _ h3)).trans h3, (hb.cell (World.block_lt_of_cell? w _ h4)).trans h4, (hb.cell (World.block_lt_of_cell? w _ h5)).trans h5⟩
theorem two_keep {w W : World} {b o0 o1 : Nat} {x y : Value} (h : w.cell? ⟨b, o0, none⟩ = some x ∧ w.cell? ⟨b, o1, none⟩ = some y) (hb : Below w.heap.size w W) : W.cell? ⟨b, o0, none⟩ = some x ∧ W.cell? ⟨b, o1, none⟩ = some y := by
  obtain ⟨h0, h1⟩ := h
  exact ⟨(hb.cell (World.block_lt_of_cell? w _ h0)).trans h0, (hb.cell (World.block_lt_of_cell? w _ h1)).trans h1⟩
set_option maxHeartbeats 8000000 in
theorem ref21_First (ts : List Tr) (ys : List Int) (a b : Option Addr) (m cap n c : Nat) (w : World) (B : Nat) (hB : B ≤ w.heap.size) (h1m : 1 ≤ m) (hm : m ≤ 4194304) (hn : m ≤ n) (hs : ∀ i, i < m → (Tr.kid ts i).size ≤ 4194304) (hL : IsL w (Lt B) a m cap ts) (hx : Row .i64 w b ys) (hxl : ys.length = n) :
    Calls Tryz.prog 30 #[.slice a m cap, .slice b n c] w fun e w' => e = .returned (.int .i64 (firstR ts ys m : Nat)) ∧ Below w.heap.size w w' := by
  have HL := Lib.hid hL
  have HS := Lib.hid hs
  have HX := Lib.hid hx
  have HXL := Lib.hid hxl
  obtain ⟨V, hV⟩ : ∃ V, firstR ts ys m = V := ⟨_, rfl⟩
  rw [hV]
  have HV := Lib.hid hV
  clear hL hs hV hx hxl
  go_enter Tryz.func30, Tryz.ntmps30
  go_wp2_with fail
  go_loopw [5, 6] (fun v i wr => ∃ j q : Nat, j ≤ m ∧ i = .int .i64 j ∧ v = .int .i64 q ∧ Hid (q = firstR ts ys j) ∧ q < j ∧ Below w.heap.size w wr) (fun _ i _ => m - (intOf i).toNat)
  case atStart => exact ⟨1, 0, h1m, rfl, rfl, (firstR_one ts ys).symm, by omega, Below.refl _ _⟩
  case round =>
    obtain ⟨j, q, hj, rfl, rfl, HQ, hq, hbel⟩ := hrel
    by_cases hlt : j < m
    · have hqm : q < m := by omega
      obtain ⟨bl, off, k1, n1, a1, m1, c1, rfl, hF, hbl, h0, h1, h2, hT⟩ := (HL.out.below hbel).kid j hlt
      obtain ⟨b', off', k2, n2, a2, m2, c2, hab, hF', hbl', g0, g1, g2, hU⟩ := (HL.out.below hbel).kid q hqm
      simp only [Option.some.injEq, Addr.mk.injEq, and_true] at hab
      obtain ⟨rfl, rfl⟩ := hab
      obtain ⟨bx, ox, rfl, hc⟩ := (HX.out.below hbel).at (by rw [HXL.out]; omega)
      have cj := hc j (by rw [HXL.out]; omega)
      have cq := hc q (by rw [HXL.out]; omega)
      have CK : Hid (∀ W, Below wr.heap.size wr W → Calls Tryz.prog 55 #[.agg #[.int .i64 k1, .int .i64 n1, .slice a1 m1 c1], .agg #[.int .i64 k2, .int .i64 n2, .slice a2 m2 c2]] W fun e w' => e = .returned (.int .i64 (wcmp (Tr.kid ts j) (Tr.kid ts q))) ∧ Below W.heap.size W w') :=
        fun W hb => ref18_Cmp _ _ _ _ _ _ _ _ _ _ _ _ W B (Nat.le_trans hB (chain hbel hb).size) (HS.out j hlt) (HS.out q hqm) (hT.below hb) (hU.below hb)
      have HN : Hid (firstR ts ys (j + 1) = if aheadR ts ys j q then j else q) := by
        unfold Hid; show (if aheadR ts ys j (firstR ts ys j) then j else firstR ts ys j) = _; rw [← HQ.out]
      have a1' := @aheadR_lt ts ys j q
      have a2' := @aheadR_gt ts ys j q
      have a3' := @aheadR_eq ts ys j q
      obtain ⟨r, hr⟩ : ∃ r, wcmp (Tr.kid ts j) (Tr.kid ts q) = r := ⟨_, rfl⟩
      obtain ⟨x, hx⟩ : ∃ x, nth ys j = x := ⟨_, rfl⟩
      obtain ⟨y, hy⟩ : ∃ y, nth ys q = y := ⟨_, rfl⟩
      rw [hr] at CK a3'
      rw [hx] at cj a1' a2' a3'
      rw [hy] at cq a1' a2' a3'
      have i0 : (0 : Int) ≤ (j : Int) := by omega
      have i1 : (j : Int) < (m : Int) := by omega
      have i2 : (0 : Int) ≤ (q : Int) := by omega
      have i3 : (q : Int) < (m : Int) := by omega
      have i4 : (j : Int) < (n : Int) := by omega
      have i5 : (q : Int) < (n : Int) := by omega
      have HB := Lib.hid hbel
      clear hT hU hr hx hy HQ hbel hc hF hF' hbl hbl'
      by_cases hxy : x < y
      · have d1 : decide (x < y) = true := decide_eq_true hxy
        have HN2 : Hid (firstR ts ys (j + 1) = j) := by unfold Hid; rw [HN.out, if_pos (a1' hxy)]
        clear HN a1' a2' a3' hxy
        go_wp2_with fail
        go_quiet (fail)
        go_wp2_with fail
        go_roundw
        case rel => exact ⟨j + 1, j, by omega, by go_num, rfl, HN2.out.symm, by omega, by first | exact HB.out.drew | exact below_drewN HB.out _ | exact HB.out⟩
        case measure => simp [intOf]; omega
      · have d1 : decide (x < y) = false := decide_eq_false hxy
        by_cases he : x = y
        · have d2 : (x == y) = true := btrue he
          have ha := a3' he
          have hcu : ((wr.cell? ⟨bl, off + j * 3, none⟩ = some (.int .i64 k1) ∧ wr.cell? ⟨bl, off + j * 3 + 1, none⟩ = some (.int .i64 n1) ∧ wr.cell? ⟨bl, off + j * 3 + 2, none⟩ = some (.slice a1 m1 c1)) ∧ (wr.cell? ⟨bl, off + q * 3, none⟩ = some (.int .i64 k2) ∧ wr.cell? ⟨bl, off + q * 3 + 1, none⟩ = some (.int .i64 n2) ∧ wr.cell? ⟨bl, off + q * 3 + 2, none⟩ = some (.slice a2 m2 c2))) := ⟨⟨h0, h1, h2⟩, g0, g1, g2⟩
          have hcv : wr.cell? ⟨bx, ox + j, none⟩ = some (.int .i64 x) ∧ wr.cell? ⟨bx, ox + q, none⟩ = some (.int .i64 y) := ⟨cj, cq⟩
          have hb : Below wr.heap.size wr wr.drew := (Below.refl _ _).drew
          by_cases hr0 : r < 0
          · have d3 : decide (r < 0) = true := decide_eq_true hr0
            have HN2 : Hid (firstR ts ys (j + 1) = j) := by unfold Hid; rw [HN.out, if_pos (ha.2 hr0)]
            clear HN a1' a2' a3' hxy he ha hr0
            go_wp2_with fail
            go_region_held3 (fun w' => ((w'.cell? ⟨bl, off + j * 3, none⟩ = some (.int .i64 k1) ∧ w'.cell? ⟨bl, off + j * 3 + 1, none⟩ = some (.int .i64 n1) ∧ w'.cell? ⟨bl, off + j * 3 + 2, none⟩ = some (.slice a1 m1 c1)) ∧ (w'.cell? ⟨bl, off + q * 3, none⟩ = some (.int .i64 k2) ∧ w'.cell? ⟨bl, off + q * 3 + 1, none⟩ = some (.int .i64 n2) ∧ w'.cell? ⟨bl, off + q * 3 + 2, none⟩ = some (.slice a2 m2 c2))) ∧ (w'.cell? ⟨bx, ox + j, none⟩ = some (.int .i64 x) ∧ w'.cell? ⟨bx, ox + q, none⟩ = some (.int .i64 y))) (first | exact ⟨hcu, hcv⟩ | exact ⟨six_keep hcu hb, two_keep hcv hb⟩) ((first
              | (go_at_call 55; ((with_reducible refine (CK.out _ hb).mono ?_); rintro e z ⟨rfl, hc2⟩; have hb := chain hb hc2))
              | fail))
            have HBZ := Lib.hid (chain HB.out hb)
            clear hb hcu hcv h0 h1 h2 g0 g1 g2 cj cq
            go_wp2_with fail
            go_roundw
            case rel => exact ⟨j + 1, j, by omega, by go_num, rfl, HN2.out.symm, by omega, HBZ.out⟩
            case measure => simp [intOf]; omega
          · have d3 : decide (r < 0) = false := decide_eq_false hr0
            have HN2 : Hid (firstR ts ys (j + 1) = q) := by unfold Hid; rw [HN.out, if_neg (fun h => hr0 (ha.1 h))]
            clear HN a1' a2' a3' hxy he ha hr0
            go_wp2_with fail
            go_region_held3 (fun w' => ((w'.cell? ⟨bl, off + j * 3, none⟩ = some (.int .i64 k1) ∧ w'.cell? ⟨bl, off + j * 3 + 1, none⟩ = some (.int .i64 n1) ∧ w'.cell? ⟨bl, off + j * 3 + 2, none⟩ = some (.slice a1 m1 c1)) ∧ (w'.cell? ⟨bl, off + q * 3, none⟩ = some (.int .i64 k2) ∧ w'.cell? ⟨bl, off + q * 3 + 1, none⟩ = some (.int .i64 n2) ∧ w'.cell? ⟨bl, off + q * 3 + 2, none⟩ = some (.slice a2 m2 c2))) ∧ (w'.cell? ⟨bx, ox + j, none⟩ = some (.int .i64 x) ∧ w'.cell? ⟨bx, ox + q, none⟩ = some (.int .i64 y))) (first | exact ⟨hcu, hcv⟩ | exact ⟨six_keep hcu hb, two_keep hcv hb⟩) ((first
              | (go_at_call 55; ((with_reducible refine (CK.out _ hb).mono ?_); rintro e z ⟨rfl, hc2⟩; have hb := chain hb hc2))
              | fail))
            have HBZ := Lib.hid (chain HB.out hb)
            clear hb hcu hcv h0 h1 h2 g0 g1 g2 cj cq
            go_wp2_with fail
            go_roundw
            case rel => exact ⟨j + 1, q, by omega, by go_num, rfl, HN2.out.symm, by omega, HBZ.out⟩
            case measure => simp [intOf]; omega
        · have d2 : (x == y) = false := bno he
          have HN2 : Hid (firstR ts ys (j + 1) = q) := by unfold Hid; rw [HN.out, if_neg (a2' (by omega))]
          clear HN a1' a2' a3' hxy he
          go_wp2_with fail
          go_quiet (fail)
          go_wp2_with fail
          go_roundw
          case rel => exact ⟨j + 1, q, by omega, by go_num, rfl, HN2.out.symm, by omega, by first | exact HB.out.drew | exact below_drewN HB.out _ | exact HB.out⟩
          case measure => simp [intOf]; omega
    · obtain rfl : m = j := by omega
      have HE : Hid (q = V) := by unfold Hid; rw [← HV.out]; exact HQ.out
      have HB := Lib.hid hbel
      clear hbel
      go_wp2_with fail
      go_ret
      exact ⟨by rw [HE.out]; rfl, HB.out⟩
end Go.Proofs.YtlnlijeamflpiaaGreat

namespace Go.Proofs.YtlnlijeamflpiaaGreat
open Go.RowKit
set_option linter.unusedVariables false
set_option linter.unusedSimpArgs false
set_option maxRecDepth 100000
/-- A clock's step, as the reference has it. -/
theorem tstep_ref (s x : Int) (h : 0 ≤ s ∧ s ≤ 1152921504606846976) : tstep s x = if 1152921504606846976 - s < x then 1152921504606846976 else if 0 < x then s + x else s := by
  unfold tstep
  split <;> (try split) <;> omega
set_option maxHeartbeats 2000000 in
theorem ref20_Now (a : Option Addr) (n c : Nat) (l : List Int) (k : Nat) (w : World) (hx : Row .i64 w a l) (hn : l.length = n) (hk : k ≤ 1000000) :
    Calls Tryz.prog 61 #[.slice a n c, .int .i64 k] w fun e w' => e = .returned (.int .i64 (tnow l k)) ∧ w = w' := by
  have hl := hx.len
  have HX := Lib.hid hx
  have HN := Lib.hid hn
  clear hx
  go_enter Tryz.func61, Tryz.ntmps61
  go_wp2_with fail
  go_loop [5, 6] (fun s i => ∃ (j : Nat) (x : Int), j ≤ k ∧ j ≤ n ∧ i = .int .i64 j ∧ s = .int .i64 x ∧ 0 ≤ x ∧ x ≤ 1152921504606846976 ∧ Hid (x = tnow l j)) (fun _ i => n - (intOf i).toNat)
  case atStart => exact ⟨0, 0, Nat.zero_le _, Nat.zero_le _, rfl, rfl, Int.le_refl _, by omega, rfl⟩
  case round =>
    obtain ⟨j, s, hj, hjn, rfl, rfl, hs0, hs1, HS⟩ := hrel
    by_cases hlt : j < k
    · by_cases hltn : j < n
      · have hjl : j < l.length := by rw [HN.out]; exact hltn
        obtain ⟨b, off, rfl, hc⟩ := HX.out.at (by omega)
        have hcj := hc j hjl
        have hxf := fits_i64.1 (HX.out.wf (nth l j) (nth_mem hjl))
        have HT : Hid (tnow l (j + 1) = tstep s (nth l j)) := by
          unfold Hid
          show (if j < l.length then tstep (tnow l j) (nth l j) else tnow l j) = _
          rw [if_pos hjl, HS.out]
        have e0 := tstep_ref s (nth l j) ⟨hs0, hs1⟩
        obtain ⟨x, hx⟩ : ∃ x, nth l j = x := ⟨_, rfl⟩
        rw [hx] at HT hcj hxf e0
        have e1 : IntKind.i64.wrap (1152921504606846976 - s) = 1152921504606846976 - s := IntWalk.i64_in _ (by omega)
        have i0 : (0 : Int) ≤ (j : Int) := by omega
        have i1 : (j : Int) < (n : Int) := by omega
        have i2 : (j : Int) < (k : Int) := by omega
        clear hc hx hjl
        by_cases h1 : 1152921504606846976 - s < x
        · have t1 : decide (x > 1152921504606846976 - s) = true := decide_eq_true h1
          rw [if_pos h1] at e0
          have HT2 : Hid (1152921504606846976 = tnow l (j + 1)) := by unfold Hid; rw [HT.out, e0]
          clear h1 e0
          go_wp2_with fail
          go_round
          case rel => exact ⟨j + 1, _, by omega, by omega, by go_num, rfl, by omega, by omega, HT2.out⟩
          case measure => simp [intOf]; omega
        · have t1 : decide (x > 1152921504606846976 - s) = false := decide_eq_false h1
          rw [if_neg h1] at e0
          by_cases h2 : 0 < x
          · have t2 : decide (x > 0) = true := decide_eq_true h2
            rw [if_pos h2] at e0
            have e2 : IntKind.i64.wrap (s + x) = s + x := IntWalk.i64_in _ (by omega)
            have HT2 : Hid (s + x = tnow l (j + 1)) := by unfold Hid; rw [HT.out, e0]
            obtain ⟨y, hy⟩ : ∃ y, s + x = y := ⟨_, rfl⟩
            rw [hy] at e2 HT2
            have b0 : 0 ≤ y := by omega
            have b1 : y ≤ 1152921504606846976 := by omega
            clear h1 h2 e0
            go_wp2_with fail
            go_round
            case rel => exact ⟨j + 1, y, by omega, by omega, by go_num, by first | rfl | (rw [hy]), b0, b1, HT2.out⟩
            case measure => simp [intOf]; omega
          · have t2 : decide (x > 0) = false := decide_eq_false h2
            rw [if_neg h2] at e0
            have HT2 : Hid (s = tnow l (j + 1)) := by unfold Hid; rw [HT.out, e0]
            clear h1 h2 e0
            go_wp2_with fail
            go_round
            case rel => exact ⟨j + 1, s, by omega, by omega, by go_num, rfl, hs0, hs1, HT2.out⟩
            case measure => simp [intOf]; omega
      · obtain rfl : j = n := by omega
        have HE : Hid (s = tnow l k) := by unfold Hid; rw [HS.out, tnow_stop l k (by rw [HN.out]; omega), HN.out]
        have i2 : (j : Int) < (k : Int) := by omega
        go_wp2_with fail
        go_ret
        exact ⟨by rw [HE.out]; rfl, rfl⟩
    · obtain rfl : j = k := by omega
      go_wp2_with fail
      go_ret
      exact ⟨by rw [HS.out]; rfl, rfl⟩
set_option maxHeartbeats 2000000 in
theorem ref21_Laps (a : Option Addr) (n c : Nat) (l : List Int) (q m : Nat) (w : World) (hx : Row .i64 w a l) (hn : l.length = n) (hm : m ≤ 1000) (hq : q ≤ 1000) :
    Calls Tryz.prog 35 #[.slice a n c, .int .i64 q, .int .i64 m] w (GivesRow .i64 (lapsT l q m) w) := by
  obtain ⟨i0, hi, hz0, hz1, hz2⟩ := info_parts info_int
  have CN : Hid (∀ (k : Nat) V, k ≤ 1000000 → Below w.heap.size w V → Calls Tryz.prog 61 #[.slice a n c, .int .i64 k] V fun e w' => e = .returned (.int .i64 (tnow l k)) ∧ V = w') := fun k V hk hb => ref20_Now a n c l k V (hx.below hb) hn hk
  clear hx
  go_enter Tryz.func35, Tryz.ntmps35
  go_wp2_with fail
  go_loopw [7, 8] (fun v i wr => ∃ j : Nat, j ≤ m ∧ i = .int .i64 j ∧ Own .i64 3 w wr v j (fun i => lapA l (q + 2 * i))) (fun _ i _ => m - (intOf i).toNat)
  case atStart => exact ⟨0, Nat.zero_le _, rfl, Own.nil _ _ _ _⟩
  case round =>
    obtain ⟨j, hj, rfl, hown⟩ := hrel
    by_cases hlt : j < m
    · obtain ⟨T, hT⟩ : ∃ T : Nat, q + 2 * j = T := ⟨_, rfl⟩
      have HTT := Lib.hid hT
      have e1 : IntKind.i64.wrap (2 * (j : Int)) = 2 * (j : Int) := IntWalk.i64_in _ (by omega)
      have e2 : (q : Int) + 2 * (j : Int) = (T : Int) := by omega
      have e3 : IntKind.i64.wrap (T : Int) = (T : Int) := IntWalk.i64_in _ (by omega)
      have e4 : (T : Int) + 2 = ((T + 2 : Nat) : Int) := by omega
      have e5 : IntKind.i64.wrap ((T + 2 : Nat) : Int) = ((T + 2 : Nat) : Int) := IntWalk.i64_in _ (by omega)
      have e6 : (T : Int) + 1 = ((T + 1 : Nat) : Int) := by omega
      have e7 : IntKind.i64.wrap ((T + 1 : Nat) : Int) = ((T + 1 : Nat) : Int) := IntWalk.i64_in _ (by omega)
      obtain ⟨T1, hT1⟩ : ∃ T1 : Nat, T + 1 = T1 := ⟨_, rfl⟩
      obtain ⟨T2, hT2⟩ : ∃ T2 : Nat, T + 2 = T2 := ⟨_, rfl⟩
      rw [hT1] at e6 e7
      rw [hT2] at e4 e5
      have hlb := lapA_bd l (q + 2 * j)
      have HLE : Hid (tnow l T2 - tnow l T1 = lapA l (q + 2 * j)) := by unfold Hid lapA; rw [hT, hT1, hT2]
      have CN2 := Lib.hid (CN.out T2 wr (by omega) hown.below)
      have CN1 := Lib.hid (CN.out T1 wr (by omega) hown.below)
      obtain ⟨x2, hx2⟩ : ∃ x, tnow l T2 = x := ⟨_, rfl⟩
      obtain ⟨x1, hx1⟩ : ∃ x, tnow l T1 = x := ⟨_, rfl⟩
      rw [hx2] at CN2 HLE
      rw [hx1] at CN1 HLE
      have e8 : IntKind.i64.wrap (x2 - x1) = x2 - x1 := IntWalk.i64_in _ (by rw [HLE.out]; omega)
      obtain ⟨x, hx⟩ : ∃ x, x2 - x1 = x := ⟨_, rfl⟩
      rw [hx] at e8 HLE
      clear hx2 hx1 hT1 hT2 hT hlb
      go_wp2_with fail
      refine CN2.out.mono ?_; rintro e s ⟨rfl, rfl⟩
      go_wp2_with fail
      refine CN1.out.mono ?_; rintro e s ⟨rfl, rfl⟩
      go_wp2_with (at_builtin; refine wpList_append_own _ rfl _ _ 44 rfl w.heap.size 3 i0 (.int .i64 0) 1 8 Tryz.underlying44 hi hz0 hz1 hz2 rfl (by decide) _ _ _ rfl (hown.own.alloc _) ⟨wr.heap.size, 0, none⟩ 1 1 [.int .i64 x] rfl rfl (cell_one_new _ _ _) (one_cell _ _) (by unfold maxLen; omega) (by omega) (size_alloc_le hown.below _) ?_)
      intro v' w2 hown' hgrow _
      have hnext := hown.push x HLE.out hown' hgrow
      clear hown' hgrow
      go_wp2_with fail
      go_roundw
      case rel => exact ⟨j + 1, by omega, by go_num, hnext⟩
      case measure => simp [intOf]; omega
    · obtain rfl : j = m := by omega
      have hres := hown.gives (xs := lapsT l q j) (lapsT_len _ _ _) (fun x hx => by
        obtain ⟨i, hi, rfl⟩ := List.mem_map.1 hx
        have := lapA_bd l (q + 2 * i)
        exact fits_i64.2 (by omega)) (fun i hi => lapsT_at _ _ _ _ hi) (by omega)
      clear hown
      go_wp2_with fail
      go_ret
      exact hres
end Go.Proofs.YtlnlijeamflpiaaGreat

