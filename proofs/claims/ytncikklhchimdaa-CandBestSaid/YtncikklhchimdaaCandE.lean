/- Plans that are worth a trial: two rows of trees that a call builds by append. -/
import Derived.Test.YtncikklhchimdaaCandA
import Derived.Test.YtncikklhchimdaaRowAdd
namespace Go.Proofs.Ytncikklhchimdaa
open Go.RowKit
set_option linter.unusedVariables false
set_option linter.unusedSimpArgs false
set_option maxRecDepth 100000
set_option maxRecDepth 20000

theorem Kids.inn {w : World} {F : Nat → Prop} {a : Option Addr} {cap : Nat} {ks : List Tr} (h : Kids w F a cap ks) : Kids w (fun b => F b ∧ b < w.heap.size) a cap ks := by
  induction h with
  | nil => exact .nil
  | empty a cap => exact .empty a cap
  | row b off cap ks A C hpos hl hF h0 h1 h2 _ ih => exact .row b off cap ks A C hpos hl ⟨hF, World.block_lt_of_cell? w _ (h0 0 hpos)⟩ h0 h1 h2 ih
theorem IsT.inn {w : World} {F : Nat → Prop} {k n : Int} {a : Option Addr} {m cap : Nat} {t : Tr} (h : IsT w F k n a m cap t) : IsT w (fun b => F b ∧ b < w.heap.size) k n a m cap t := ⟨h.ek, h.en, h.em, h.ok, h.kids.inn⟩
theorem CellsT.inn {w : World} {F : Nat → Prop} {xs : List Value} {ts : List Tr} (h : CellsT w F xs ts) : CellsT w (fun b => F b ∧ b < w.heap.size) xs ts := by
  induction h with
  | nil => exact .nil
  | cons h _ ih => exact .cons h.inn ih

/-- Blocks from B on, but for the two rows' own. -/
def Off (B : Nat) (v u : Value) (b : Nat) : Prop := B ≤ b ∧ v.ownBlock ≠ some b ∧ u.ownBlock ≠ some b
/-- Two rows that the call owns read as trees. -/
def TwoT (w : World) (B : Nat) (v u : Value) (ts us : List Tr) : Prop :=
  ∃ xs ys, w.ownsRow B 24 3 v ts.length xs ∧ w.ownsRow B 24 3 u us.length ys ∧ CellsT w (Off B v u) xs ts ∧ CellsT w (Off B v u) ys us ∧ (v.ownBlock = none ∨ v.ownBlock ≠ u.ownBlock)
def noRow : Value := .slice none 0 0
theorem TwoT.below {w w' : World} {B : Nat} {v u : Value} {ts us : List Tr} (h : TwoT w B v u ts us) (hb : Below w.heap.size w w') : TwoT w' B v u ts us := by
  obtain ⟨xs, ys, h1, h2, h3, h4, h5⟩ := h
  exact ⟨xs, ys, own_later3 h1 hb, own_later3 h2 hb, h3.later hb, h4.later hb, h5⟩
theorem TwoT.swap {w : World} {B : Nat} {v u : Value} {ts us : List Tr} (h : TwoT w B v u ts us) : TwoT w B u v us ts := by
  obtain ⟨xs, ys, h1, h2, h3, h4, h5⟩ := h
  exact ⟨ys, xs, h2, h1, h4.mono fun b hb => ⟨hb.1, hb.2.2, hb.2.1⟩, h3.mono fun b hb => ⟨hb.1, hb.2.2, hb.2.1⟩, by rcases h5 with h5 | h5 <;> (cases hu : u.ownBlock <;> simp_all <;> exact fun e => h5 e.symm)⟩
theorem TwoT.none (w : World) (B : Nat) : TwoT w B noRow noRow [] [] := ⟨[], [], World.ownsRow_nil _ _ _ _, World.ownsRow_nil _ _ _ _, .nil, .nil, .inl rfl⟩
theorem TwoT.len {w : World} {B : Nat} {v u : Value} {ts us : List Tr} (h : TwoT w B v u ts us) : ∃ a cap, v = .slice a ts.length cap := by
  obtain ⟨xs, ys, h1, _⟩ := h
  obtain ⟨a, cap, h, _⟩ := own_slice2 h1
  exact ⟨a, cap, h⟩
theorem TwoT.row {w : World} {B : Nat} {v : Value} {ts : List Tr} (h : TwoT w B v noRow ts []) : ∃ a cap, v = .slice a ts.length cap ∧ Kids w (fun _ => True) a cap ts ∧ (∀ t ∈ ts, t.Ok) := by
  obtain ⟨xs, ys, h1, _, h3, _⟩ := h
  obtain ⟨a, cap, rfl, _⟩ := own_slice2 h1
  exact ⟨a, cap, rfl, kids_of_own h1 h3 rfl (fun _ _ => trivial) (fun _ _ => trivial), h3.ok⟩
theorem own_mono {w : World} {B B' : Nat} {e : TypeId} {s : Nat} {v : Value} {n : Nat} {xs : List Value} (hB : B ≤ B') (h : w.ownsRow B' e s v n xs) : w.ownsRow B e s v n xs :=
  ⟨h.1, h.2.imp id fun ⟨g, cap, cur, h1, h2, h3⟩ => ⟨g, cap, cur, h1, Nat.le_trans hB h2, h3⟩⟩
/-- A row and a later one. -/
theorem TwoT.join {w w1 w2 : World} {B : Nat} {v u : Value} {ts us : List Tr} (hB : B ≤ w1.heap.size) (h : TwoT w1 B v noRow ts []) (hb : Below w1.heap.size w1 w2) (h2 : TwoT w2 w1.heap.size u noRow us []) : TwoT w2 B v u ts us := by
  obtain ⟨xs, _, g1, _, g3, _⟩ := h
  obtain ⟨ys, _, k1, _, k3, _⟩ := h2
  have hu : ∀ g, u.ownBlock = some g → w1.heap.size ≤ g := fun g hg => (k1.lt g hg).1
  have hv : ∀ g, v.ownBlock = some g → g < w1.heap.size := fun g hg => (g1.lt g hg).2
  refine ⟨xs, ys, own_later3 g1 hb, own_mono hB k1, (g3.inn.later hb).mono fun b hb => ⟨hb.1.1, hb.1.2.1, fun e => ?_⟩, k3.mono fun b hb => ⟨Nat.le_trans hB hb.1, fun e => ?_, hb.2.1⟩, ?_⟩
  · have := hu b e; have := hb.2; omega
  · have := hv b e; have := hb.1; omega
  · cases hvo : v.ownBlock with
    | none => exact .inl rfl
    | some g => refine .inr fun e => ?_; have := hv g hvo; have := hu g e.symm; omega

/-- Behind an append to the first row: the trees are where they were. -/
theorem twoT_grown {wn W w' : World} {B : Nat} {v u v' : Value} {k : Nat} (hW : ∀ b, b < wn.heap.size → W.heap[b]? = wn.heap[b]?) (hs : wn.heap.size ≤ W.heap.size) (hg : W.grownBy w' v.ownBlock) (hor : v'.ownBlock = v.ownBlock ∨ v'.ownBlock = some W.heap.size) {xs : List Value} {ts : List Tr} (h : CellsT wn (Off B v u) xs ts) : CellsT w' (Off B v' u) xs ts := by
  refine (h.inn.stay (w' := w') fun b hb _ => (hg.block b (by have := hb.2; omega) (Ne.symm hb.1.2.1)).trans (hW b hb.2)).mono fun b hb => ⟨hb.1.1, ?_, hb.1.2.2⟩
  rcases hor with e | e
  · rw [e]; exact hb.1.2.1
  · rw [e]; intro e; have := hb.2; injection e with e; omega

theorem step_push {ops : Array Oper} {o : Oper} {a : Act} {K : Act → World → Prop} {Q : Exit → Act → World → Prop} {E : Prop} (hgd : o.guard = none) (s x : Operand)
    (ho : o.op = .call { callee := .builtin .append, args := #[s, x], argTypes := #[22, 22] })
    (wn : World) (B : Nat) (v u : Value) (ts us : List Tr) (k n : Int) (b : Option Addr) (m c : Nat) (t : Tr) (hs : a.eval s = v) (hx : a.eval x = .slice (some ⟨wn.heap.size, 0, none⟩) 1 1)
    (hR : TwoT wn B v u ts us) (hT : IsT wn (Off B v u) k n b m c t) (hlen : ts.length ≤ 4000000) (hB : B ≤ wn.heap.size)
    (h : ∀ v' w', TwoT w' B v' u (ts ++ [t]) us → (wn.alloc (.cells #[.int .i64 k, .int .i64 n, .slice b m c] 24)).grownBy w' v.ownBlock → (∀ g, v.ownBlock = some g → B ≤ g) → K (a.put o.dst v') w') :
    if Region.wanted o (yielded ops a.tmps) = true then Oper.wp Try.prog o a (wn.alloc (.cells #[.int .i64 k, .int .i64 n, .slice b m c] 24)) K Q else E := by
  obtain ⟨i0, hi, hz0, hz1, hz2⟩ := info_parts info_desc
  obtain ⟨xs, ys, h1, h2, h3, h4, h5⟩ := hR
  have e0 : ∀ b', b' < wn.heap.size → (wn.alloc (.cells #[.int .i64 k, .int .i64 n, .slice b m c] 24)).heap[b']? = wn.heap[b']? := fun b' hb' => heap_alloc_old _ _ hb'
  have es : (wn.alloc (.cells #[.int .i64 k, .int .i64 n, .slice b m c] 24)).heap.size = wn.heap.size + 1 := by simp
  refine step_append_lies _ hgd s x 22 ho B 24 i0 _ 3 40 Try.underlying22 hi hz0 hz1 hz2 rfl (by omega) v ts.length xs hs (h1.alloc _) ⟨wn.heap.size, 0, none⟩ 1 1 [.int .i64 k, .int .i64 n, .slice b m c] hx rfl (cell_three_new _ _ _ _ _) (one_three _ _ _ _ _) (by omega) (by unfold maxLen; omega) (by omega) (by omega) _ rfl ?_
  intro g cap w' hown hgrow hor hlt
  have hor' : (Value.slice (some ⟨g, 0, none⟩) (ts.length + 1) cap).ownBlock = v.ownBlock ∨ (Value.slice (some ⟨g, 0, none⟩) (ts.length + 1) cap).ownBlock = some (wn.alloc (.cells #[.int .i64 k, .int .i64 n, .slice b m c] 24)).heap.size := by
    rcases hor with e | e
    · exact .inl e.symm
    · exact .inr (by rw [e]; rfl)
  have hun : u.ownBlock = .none ∨ u.ownBlock ≠ v.ownBlock := by
    rcases h5 with h5 | h5
    · cases hu : u.ownBlock with
      | none => exact .inl rfl
      | some g => exact .inr (by rw [h5]; simp)
    · exact .inr (Ne.symm h5)
  refine h _ w' ⟨xs ++ [.int .i64 k, .int .i64 n, .slice b m c], ys, by rw [List.length_append, List.length_singleton]; exact hown, (h2.alloc _).kept hgrow hun, (twoT_grown (k := 0) e0 (by omega) hgrow hor' h3).append (twoT_grown (k := 0) e0 (by omega) hgrow hor' (.one hT)), twoT_grown (k := 0) e0 (by omega) hgrow hor' h4, .inr fun e => ?_⟩ hgrow (fun g hg => (h1.lt g hg).1)
  rcases hor with e2 | e2
  · rcases h5 with h5 | h5
    · rw [h5] at e2; cases e2
    · exact h5 (e2.trans e)
  · have := (h2.lt g e.symm).2
    rw [e2, es] at this
    omega
theorem wpList_push {ops : Array Oper} {rest : List Oper} {o : Oper} {a : Act} {Q : Exit → Act → World → Prop} (hgd : o.guard = none) (s x : Operand)
    (ho : o.op = .call { callee := .builtin .append, args := #[s, x], argTypes := #[22, 22] })
    (wn : World) (B : Nat) (v u : Value) (ts us : List Tr) (k n : Int) (b : Option Addr) (m c : Nat) (t : Tr) (hs : a.eval s = v) (hx : a.eval x = .slice (some ⟨wn.heap.size, 0, none⟩) 1 1)
    (hR : TwoT wn B v u ts us) (hT : IsT wn (Off B v u) k n b m c t) (hlen : ts.length ≤ 4000000) (hB : B ≤ wn.heap.size)
    (h : ∀ v' w', TwoT w' B v' u (ts ++ [t]) us → (wn.alloc (.cells #[.int .i64 k, .int .i64 n, .slice b m c] 24)).grownBy w' v.ownBlock → (∀ g, v.ownBlock = some g → B ≤ g) → wpList Try.prog ops Q rest (a.put o.dst v') w') :
    wpList Try.prog ops Q (o :: rest) a (wn.alloc (.cells #[.int .i64 k, .int .i64 n, .slice b m c] 24)) := by
  refine wpList_plain hgd fun K hK => ?_
  have := step_push (ops := ops) (K := K) (Q := Q) (E := True) hgd s x ho wn B v u ts us k n b m c t hs hx hR hT hlen hB (fun v' w' h1 h2 h3 => hK _ _ (h v' w' h1 h2 h3))
  rwa [if_pos (by simp [Region.wanted, hgd])] at this
/-- append of the second row to the first. -/
theorem wpList_both {ops : Array Oper} {rest : List Oper} {o : Oper} {a : Act} {Q : Exit → Act → World → Prop} (hgd : o.guard = none) (s x : Operand)
    (ho : o.op = .call { callee := .builtin .append, args := #[s, x], argTypes := #[22, 22] })
    (wn : World) (B : Nat) (v u : Value) (ts us : List Tr) (hs : a.eval s = v) (hx : a.eval x = u) (hR : TwoT wn B v u ts us) (hlen : ts.length + us.length ≤ 4000000) (hB : B ≤ wn.heap.size)
    (h : ∀ v' w', TwoT w' B v' noRow (ts ++ us) [] → wn.grownBy w' v.ownBlock → (∀ g, v.ownBlock = some g → B ≤ g) → wpList Try.prog ops Q rest (a.put o.dst v') w') :
    wpList Try.prog ops Q (o :: rest) a wn := by
  obtain ⟨i0, hi, hz0, hz1, hz2⟩ := info_parts info_desc
  obtain ⟨xs, ys, h1, h2, h3, h4, h5⟩ := hR
  refine wpList_append_two wn hgd s x 22 ho B 24 i0 _ 3 40 Try.underlying22 hi hz0 hz1 hz2 rfl (by decide) v ts.length xs hs h1 B u us.length ys hx h2 h4.oneCell (by unfold maxLen; omega) (by omega) hB ?_
  intro v' w' hown hgrow hor
  have hc := twoT_grown (k := 0) (fun _ _ => rfl) (Nat.le_refl _) hgrow hor (h3.append h4)
  exact h v' w' ⟨xs ++ ys, [], by rw [List.length_append]; exact hown, World.ownsRow_nil _ _ _ _, hc.mono fun b hb => ⟨hb.1, hb.2.1, by simp [noRow, Value.ownBlock]⟩, .nil, by cases hv : v'.ownBlock <;> simp [noRow, Value.ownBlock]⟩ hgrow (fun g hg => (h1.lt g hg).1)
/-- A result: a new row of trees. -/
def GivesTs (ts : List Tr) (w : World) (e : Ending) (w' : World) : Prop := ∃ v, e = .returned v ∧ TwoT w' w.heap.size v noRow ts [] ∧ Below w.heap.size w w'
end Go.Proofs.Ytncikklhchimdaa
