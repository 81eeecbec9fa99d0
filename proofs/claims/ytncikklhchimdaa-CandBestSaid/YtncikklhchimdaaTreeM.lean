/- Trees: how many nodes. -/
import Derived.Test.YtncikklhchimdaaTreeK
namespace Go.Proofs.Ytncikklhchimdaa
open Go.RowKit Go.Shelf
set_option linter.unusedVariables false
set_option linter.unusedSimpArgs false
set_option maxRecDepth 100000
attribute [local go_sem] Oper.semAt_some

theorem nextT_putObj (b0 : Nat) (L : List Tr) : ∀ pre x W l o o', NextT b0 L pre x W → W.heap[l]? = some o → o.isCells = false → NextT b0 L pre x (W.putObj l o') := by
  rintro pre x W l o o' ⟨k, n, a, m, c, t, rfl, hT, hL⟩ ho hc
  exact ⟨k, n, a, m, c, t, rfl, hT.keeps (KeepsBut.putObj W l o o' ho hc), hL⟩

set_option maxHeartbeats 1000000 in
theorem all1_tells (q b0 bd : Nat) (t : Tr) (k n : Int) (a : Option Addr) (m cap : Nat) (w : World) (hs : t.size ≤ 4194304) (hT : IsT w (fun b => b ≠ b0) k n a m cap t) (hb0 : b0 < w.heap.size)
    (hbd : w.heap[bd]? = some (.cells #[.int .i64 k, .int .i64 n, .slice a m cap] 24 (0, 0))) :
    SeqTells Try.prog q 109 #[.pointer (some ⟨bd, 0, none⟩)] b0 t.size (NextT b0 t.nodes) w := by
  intro l J Jx W hb hJ hY h0
  have hlt := block_lt hbd
  have hbx := (hb.block bd hlt).trans hbd
  have CA : Hid (CallsIn Fence.wide (q - 1) Try.prog 110 #[.agg #[.int .i64 k, .int .i64 n, .slice a m cap], .func (.yield l) #[] #[]] W (AllEnds b0 J Jx [] t.size W)) :=
    all_in b0 W.heap.size t.size l t.nodes J Jx hJ hY 4194304 (by omega) (q - 1) t k n a m cap [] W hs (hT.below hb) (Nat.lt_of_lt_of_le hb0 hb.size) h0 (by simp) (fun i _ => by simp)
  have c0 := block_cell hbx 0
  have c1 := block_cell hbx 1
  have c2 := block_cell hbx 2
  simp at c0 c1 c2
  clear hbx hb hJ hY h0 hT hbd hs
  refine callsIn_of_wp Try.func109 rfl trivial ?_ rfl
  simp only [Try.ntmps109, List.size_toArray, List.length_cons, List.length_nil, Nat.reduceAdd, Nat.reduceSub, Array.replicate_succ, Array.replicate_zero, List.push_toArray, List.append_toArray, List.nil_append, List.cons_append]
  gi_wp2
  refine ⟨trivial, (fun h => by cases h), CA.out.mono ?_⟩
  rintro e W3 (⟨rfl, xs, hxl, hJ3, hk3⟩ | ⟨rfl, hJx3⟩)
  · gi_wp2
    go_end0
    rw [List.nil_append] at hJ3
    exact ⟨⟨_, rfl⟩, .inl ⟨xs, hxl, hJ3⟩⟩
  · gi_wp2
    go_end0
    exact ⟨⟨_, rfl⟩, .inr hJx3⟩

theorem desc_All (q : Nat) (v : Value) (k n : Int) (a : Option Addr) (m cap : Nat) (w : World) :
    CallsIn Fence.wide q Try.prog 98 #[.agg #[.int .i64 k, .int .i64 n, .slice a m cap]] w fun e w' => e = .returned (.func (.func 109) #[] #[.pointer (some ⟨w.heap.size, 0, none⟩)]) ∧ w' = w.alloc (.cells #[.int .i64 k, .int .i64 n, .slice a m cap] 24) := by
  refine callsIn_of_wp Try.func98 rfl trivial ?_ rfl
  simp only [Try.ntmps98, List.size_toArray, List.length_cons, List.length_nil, Nat.reduceAdd, Nat.reduceSub, Array.replicate_succ, Array.replicate_zero, List.push_toArray, List.append_toArray, List.nil_append, List.cons_append]
  gi_wp2
  go_ret
  exact ⟨rfl, rfl⟩

theorem block_from {β : Type} (B b : Nat) (o : β → Obj) (ho : ∀ s, (o s).isCells = true) : OwnFrom B (fun s W => W.heap[b]? = some (o s)) :=
  fun s A C row hs hg hr => (grownBy_keeps_cells hg (fun r e => (hr r e).2) hs (ho s)).trans hs

end Go.Proofs.Ytncikklhchimdaa
