/- Trees: how many nodes. -/
import Derived.Test.YtpehbgcbifgokaaTreeK
namespace Go.Proofs.Ytpehbgcbifgokaa
open Go.RowKit Go.Shelf
set_option linter.unusedVariables false
set_option linter.unusedSimpArgs false
attribute [local go_sem] Oper.semAt_some

theorem nextT_putObj (b0 : Nat) (L : List Tr) : ∀ pre x W l o o', NextT b0 L pre x W → W.heap[l]? = some o → o.isCells = false → NextT b0 L pre x (W.putObj l o') := by
  rintro pre x W l o o' ⟨k, n, a, m, c, t, rfl, hT, hL⟩ ho hc
  exact ⟨k, n, a, m, c, t, rfl, hT.keeps (KeepsBut.putObj W l o o' ho hc), hL⟩

set_option maxHeartbeats 1000000 in
theorem all1_tells (q b0 bd : Nat) (t : Tr) (k n : Int) (a : Option Addr) (m cap : Nat) (w : World) (hs : t.size ≤ 4194304) (hT : IsT w (fun b => b ≠ b0) k n a m cap t) (hb0 : b0 < w.heap.size)
    (hbd : w.heap[bd]? = some (.cells #[.int .i64 k, .int .i64 n, .slice a m cap] 24 (0, 0))) :
    SeqTells Try.prog q 55 #[.pointer (some ⟨bd, 0, none⟩)] b0 t.size (NextT b0 t.nodes) w := by
  intro l J Jx W hb hJ hY h0
  have hlt := block_lt hbd
  have hbx := (hb.block bd hlt).trans hbd
  have CA : Hid (CallsIn Fence.wide (q - 1) Try.prog 56 #[.agg #[.int .i64 k, .int .i64 n, .slice a m cap], .func (.yield l) #[] #[]] W (AllEnds b0 J Jx [] t.size W)) :=
    all_in b0 W.heap.size t.size l t.nodes J Jx hJ hY 4194304 (by omega) (q - 1) t k n a m cap [] W hs (hT.below hb) (Nat.lt_of_lt_of_le hb0 hb.size) h0 (by simp) (fun i _ => by simp)
  have c0 := block_cell hbx 0
  have c1 := block_cell hbx 1
  have c2 := block_cell hbx 2
  simp at c0 c1 c2
  clear hbx hb hJ hY h0 hT hbd hs
  refine callsIn_of_wp Try.func55 rfl trivial ?_ rfl
  simp only [Try.ntmps55, List.size_toArray, List.length_cons, List.length_nil, Nat.reduceAdd, Nat.reduceSub, Array.replicate_succ, Array.replicate_zero, List.push_toArray, List.append_toArray, List.nil_append, List.cons_append]
  gi_wp2
  refine ⟨trivial, (fun h => by cases h), CA.out.mono ?_⟩
  rintro e W3 (⟨rfl, xs, hxl, hJ3, hk3⟩ | ⟨rfl, hJx3⟩)
  · gi_wp2
    go_end0
    rw [List.nil_append] at hJ3
    exact ⟨⟨_, rfl⟩, .inl ⟨xs, hxl, hJ3⟩⟩
  · gi_wp2
    go_end0
    exact ⟨⟨_, rfl⟩, .inr hJx3⟩

theorem desc_All (q : Nat) (v : Value) (k n : Int) (a : Option Addr) (m cap : Nat) (w : World) :
    CallsIn Fence.wide q Try.prog 15 #[.agg #[.int .i64 k, .int .i64 n, .slice a m cap]] w fun e w' => e = .returned (.func (.func 55) #[] #[.pointer (some ⟨w.heap.size, 0, none⟩)]) ∧ w' = w.alloc (.cells #[.int .i64 k, .int .i64 n, .slice a m cap] 24) := by
  refine callsIn_of_wp Try.func15 rfl trivial ?_ rfl
  simp only [Try.ntmps15, List.size_toArray, List.length_cons, List.length_nil, Nat.reduceAdd, Nat.reduceSub, Array.replicate_succ, Array.replicate_zero, List.push_toArray, List.append_toArray, List.nil_append, List.cons_append]
  gi_wp2
  go_ret
  exact ⟨rfl, rfl⟩

theorem block_from {β : Type} (B b : Nat) (o : β → Obj) (ho : ∀ s, (o s).isCells = true) : OwnFrom B (fun s W => W.heap[b]? = some (o s)) :=
  fun s A C row hs hg hr => (grownBy_keeps_cells hg (fun r e => (hr r e).2) hs (ho s)).trans hs

set_option maxHeartbeats 1000000 in
theorem desc_Nodes (t : Tr) (k n : Int) (a : Option Addr) (m cap : Nat) (w : World) (F : Nat → Prop) (hs : t.size ≤ 4194304) (hT : IsT w F k n a m cap t) :
    Calls Try.prog 16 #[.agg #[.int .i64 k, .int .i64 n, .slice a m cap]] w fun e w' => e = .returned (.int .i64 (t.size : Nat)) ∧ Below w.heap.size w w' := by
  have HT := Lib.hid hT.lt
  have HS := Lib.hid hs
  clear hT hs
  refine (callsIn_wide (n := 8)).1 ?_
  refine callsIn_of_wp_marks Try.func16 rfl trivial ?_ rfl
  simp only [Try.ntmps16, List.size_toArray, List.length_cons, List.length_nil, Nat.reduceAdd, Nat.reduceSub, Array.replicate_succ, Array.replicate_zero, List.push_toArray, List.append_toArray, List.nil_append, List.cons_append]
  gi_wp2_with (refine ⟨trivial, ?_⟩; gi_at_call 15; refine (desc_All _ (.bool true) _ _ _ _ _ _).mono ?_; rintro e w' ⟨rfl, rfl⟩)
  obtain ⟨W0, hW0⟩ : ∃ W0, ((w.alloc (.cells #[.int .i64 k, .int .i64 n, .slice a m cap] 24)).alloc (.cells #[.int .i64 0] 3)).alloc (.cells #[.int .i64 k, .int .i64 n, .slice a m cap] 24) = W0 := ⟨_, rfl⟩
  have hb0 : Below w.heap.size w W0 := by rw [← hW0]; exact (((Below.refl _ _).alloc (Nat.le_refl _) _).alloc (by simp) _).alloc (by simp; omega) _
  have hbn : W0.heap[w.heap.size + 1]? = some (.cells #[.int .i64 0] 3 (0, 0)) := by rw [← hW0]; exact block_old (by simp) (block_new (by simp))
  have hbd : W0.heap[w.heap.size + 1 + 1]? = some (.cells #[.int .i64 k, .int .i64 n, .slice a m cap] 24 (0, 0)) := by rw [← hW0]; exact block_new (by simp)
  have hsz : W0.heap.size = w.heap.size + 3 := by rw [← hW0]; simp
  rw [hW0]
  clear hW0
  have hT0 : IsT W0 (fun b => b ≠ w.heap.size + 1) k n a m cap t := (HT.out.below hb0).mono fun b hb => by unfold Lt at hb; omega
  refine wp_range_tells (gf := 55) (lb := #[.pointer (some ⟨w.heap.size + 1 + 1, 0, none⟩)]) rfl (enters_of Try.func55 (by kernel_rfl) rfl) (w.heap.size + 1) t.size (NextT (w.heap.size + 1) t.nodes) (nextT_putObj _ _)
    (all1_tells _ _ _ t k n a m cap W0 HS.out hT0 (by omega) hbd)
    (fun pre W => W.heap[w.heap.size + 1]? = some (.cells #[.int .i64 (pre.length : Nat)] 3 (0, 0)) ∧ Below w.heap.size w W) (fun _ _ _ => False)
    (OwnFrom.and (block_from _ _ (fun pre : List Value => .cells #[.int .i64 (pre.length : Nat)] 3 (0, 0)) (fun _ => rfl)) (ownFrom_below (Nat.le_refl _) (by omega)))
    (fun _ _ _ _ _ hs _ _ => hs) ⟨hbn, hb0⟩
    (fun x => { tmps := #[.agg #[.int .i64 k, .int .i64 n, .slice a m cap], .pointer (some ⟨w.heap.size, 0, none⟩), .int .i64 0, .pointer (some ⟨w.heap.size + 1, 0, none⟩), .agg #[.int .i64 k, .int .i64 n, .slice a m cap], .func (.func 55) #[] #[.pointer (some ⟨w.heap.size + 1 + 1, 0, none⟩)], x, undef, undef, undef], defers := [] }) ?assign ?body ?done ?stop
  case assign =>
    intro l x W K hK
    gi_wp2
    exact hK
  case body =>
    rintro l pre x W ⟨hn, hbel⟩ hlen hG
    have hle : pre.length < 4194304 := by have := HS.out; omega
    have h0 := block_cell hn 0
    have hf := block_free hn 0
    simp at h0
    have HN := Lib.hid hn
    have hst : (W.setCell ⟨w.heap.size + 1, 0, none⟩ (.int .i64 ((pre.length : Int) + 1))).heap[w.heap.size + 1]? = some (.cells #[.int .i64 ((pre ++ [x]).length : Nat)] 3 (0, 0)) := by
      rw [block_set hn 0 _, List.length_append, List.length_singleton]; simp
    have HST := Lib.hid hst
    have hbe : Below w.heap.size w (W.setCell ⟨w.heap.size + 1, 0, none⟩ (.int .i64 ((pre.length : Int) + 1))) := hbel.setCell (p := ⟨w.heap.size + 1, 0, none⟩) (by show w.heap.size ≤ w.heap.size + 1; omega) _
    have HBE := Lib.hid hbe
    obtain ⟨q, hq⟩ : ∃ q, pre.length = q := ⟨_, rfl⟩
    rw [hq] at h0 hle HST HBE
    clear hn hst hbe hG hlen hq
    gi_wp2
    exact ⟨(KeepsOthers.setCell _ _ _).from _, KeepsBut.setCell _ _ _, HST.out, HBE.out⟩
  case done =>
    rintro D xs W hD hxl ⟨hn, hbel⟩ hK
    rw [hxl] at hn
    have h0 := block_cell hn 0
    simp at h0
    have hbe : Below w.heap.size w (W.putObj D (.deferred none)) := belowK_b (w := w) (Nat.le_refl _) W D _ _ (by have := hb0.size; omega) hK rfl rfl |> hbel.trans
    obtain ⟨S, hS⟩ : ∃ S, t.size = S := ⟨_, rfl⟩
    rw [hS] at h0
    have HS2 := Lib.hid hS
    clear hn hxl hS
    gi_wp2
    refine ⟨by simp, .inl ⟨_, _, rfl, run_takeDeferred hK, ?_⟩⟩
    exact ⟨_, results_tmp rfl _ _ _, by rw [HS2.out]; rfl, hbe⟩
  case stop =>
    rintro D c pre W _ h _
    exact h.elim
end Go.Proofs.Ytpehbgcbifgokaa
