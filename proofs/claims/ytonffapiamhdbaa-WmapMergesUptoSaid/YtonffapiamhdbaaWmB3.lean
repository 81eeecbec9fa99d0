/- The contracts and plain laws that the statements WmapPuts WmapMerges WmapNils need, part 3 of 5: CandE EntE OpenE SrtX SrtA SrtB SrtC SrtD SrtE SrtF SrtG SrtH MapB MapK. -/
import Derived.Test.YtonffapiamhdbaaWmB2
namespace Go.Proofs.Ytonffapiamhdbaa
open Go.RowKit
set_option linter.unusedVariables false
set_option linter.unusedSimpArgs false
set_option maxRecDepth 100000
set_option maxRecDepth 20000
theorem Kids.inn {w : World} {F : Nat → Prop} {a : Option Addr} {cap : Nat} {ks : List Tr} (h : Kids w F a cap ks) : Kids w (fun b => F b ∧ b < w.heap.size) a cap ks := by
  induction h with
  | nil => exact .nil
  | empty a cap => exact .empty a cap
  | row b off cap ks A C hpos hl hF h0 h1 h2 _ ih => exact .row b off cap ks A C hpos hl ⟨hF, World.block_lt_of_cell? w _ (h0 0 hpos)⟩ h0 h1 h2 ih
theorem IsT.inn {w : World} {F : Nat → Prop} {k n : Int} {a : Option Addr} {m cap : Nat} {t : Tr} (h : IsT w F k n a m cap t) : IsT w (fun b => F b ∧ b < w.heap.size) k n a m cap t := ⟨h.ek, h.en, h.em, h.ok, h.kids.inn⟩
theorem CellsT.inn {w : World} {F : Nat → Prop} {xs : List Value} {ts : List Tr} (h : CellsT w F xs ts) : CellsT w (fun b => F b ∧ b < w.heap.size) xs ts := by
  induction h with
  | nil => exact .nil
  | cons h _ ih => exact .cons h.inn ih
/-- Blocks from B on, but for the two rows' own. -/
def Off (B : Nat) (v u : Value) (b : Nat) : Prop := B ≤ b ∧ v.ownBlock ≠ some b ∧ u.ownBlock ≠ some b
/-- Two rows that the call owns read as trees. -/
def TwoT (w : World) (B : Nat) (v u : Value) (ts us : List Tr) : Prop :=
  ∃ xs ys, w.ownsRow B 34 3 v ts.length xs ∧ w.ownsRow B 34 3 u us.length ys ∧ CellsT w (Off B v u) xs ts ∧ CellsT w (Off B v u) ys us ∧ (v.ownBlock = none ∨ v.ownBlock ≠ u.ownBlock)
def noRow : Value := .slice none 0 0
theorem TwoT.below {w w' : World} {B : Nat} {v u : Value} {ts us : List Tr} (h : TwoT w B v u ts us) (hb : Below w.heap.size w w') : TwoT w' B v u ts us := by
  obtain ⟨xs, ys, h1, h2, h3, h4, h5⟩ := h
  exact ⟨xs, ys, own_later3 h1 hb, own_later3 h2 hb, h3.later hb, h4.later hb, h5⟩
theorem TwoT.swap {w : World} {B : Nat} {v u : Value} {ts us : List Tr} (h : TwoT w B v u ts us) : TwoT w B u v us ts := by
  obtain ⟨xs, ys, h1, h2, h3, h4, h5⟩ := h
  exact ⟨ys, xs, h2, h1, h4.mono fun b hb => ⟨hb.1, hb.2.2, hb.2.1⟩, h3.mono fun b hb => ⟨hb.1, hb.2.2, hb.2.1⟩, by rcases h5 with h5 | h5 <;> (cases hu : u.ownBlock <;> simp_all <;> exact fun e => h5 e.symm)⟩
theorem TwoT.none (w : World) (B : Nat) : TwoT w B noRow noRow [] [] := ⟨[], [], World.ownsRow_nil _ _ _ _, World.ownsRow_nil _ _ _ _, .nil, .nil, .inl rfl⟩
theorem TwoT.len {w : World} {B : Nat} {v u : Value} {ts us : List Tr} (h : TwoT w B v u ts us) : ∃ a cap, v = .slice a ts.length cap := by
  obtain ⟨xs, ys, h1, _⟩ := h
  obtain ⟨a, cap, h, _⟩ := own_slice2 h1
  exact ⟨a, cap, h⟩
theorem TwoT.row {w : World} {B : Nat} {v : Value} {ts : List Tr} (h : TwoT w B v noRow ts []) : ∃ a cap, v = .slice a ts.length cap ∧ Kids w (fun _ => True) a cap ts ∧ (∀ t ∈ ts, t.Ok) := by
  obtain ⟨xs, ys, h1, _, h3, _⟩ := h
  obtain ⟨a, cap, rfl, _⟩ := own_slice2 h1
  exact ⟨a, cap, rfl, kids_of_own h1 h3 rfl (fun _ _ => trivial) (fun _ _ => trivial), h3.ok⟩
theorem own_mono {w : World} {B B' : Nat} {e : TypeId} {s : Nat} {v : Value} {n : Nat} {xs : List Value} (hB : B ≤ B') (h : w.ownsRow B' e s v n xs) : w.ownsRow B e s v n xs :=
  ⟨h.1, h.2.imp id fun ⟨g, cap, cur, h1, h2, h3⟩ => ⟨g, cap, cur, h1, Nat.le_trans hB h2, h3⟩⟩
end Go.Proofs.Ytonffapiamhdbaa

namespace Go.Proofs.Ytonffapiamhdbaa
open Go.RowKit
set_option linter.unusedVariables false
set_option linter.unusedSimpArgs false
set_option maxRecDepth 100000
/-- A slice reads as some entries; what is below them, and they, lie in F. -/
structure IsE (w : World) (F : Nat → Prop) (a : Option Addr) (m cap : Nat) (l : List Ent) : Prop where
  len : l.length = m
  cap : OkCap a m cap
  fit : ∀ x ∈ l, fits .i64 x.n ∧ fits .i64 x.d
  at_ : ∀ i, i < m → ∃ b off k n a' m' c', a = some ⟨b, off, none⟩ ∧ F b ∧ b < w.heap.size ∧ (w.cell? ⟨b, off + i * 5, none⟩ = some (.int .i64 (Ent.at_ l i).n) ∧ w.cell? ⟨b, off + i * 5 + 1, none⟩ = some (.int .i64 (Ent.at_ l i).d) ∧ w.cell? ⟨b, off + i * 5 + 2, none⟩ = some (.int .i64 k) ∧ w.cell? ⟨b, off + i * 5 + 3, none⟩ = some (.int .i64 n) ∧ w.cell? ⟨b, off + i * 5 + 4, none⟩ = some (.slice a' m' c')) ∧ IsT w F k n a' m' c' (Ent.at_ l i).t
theorem five_at {w W : World} {b o0 o1 o2 o3 o4 : Nat} {x y z u v : Value} (h : w.cell? ⟨b, o0, none⟩ = some x ∧ w.cell? ⟨b, o1, none⟩ = some y ∧ w.cell? ⟨b, o2, none⟩ = some z ∧ w.cell? ⟨b, o3, none⟩ = some u ∧ w.cell? ⟨b, o4, none⟩ = some v) (hb : Below w.heap.size w W) : W.cell? ⟨b, o0, none⟩ = some x ∧ W.cell? ⟨b, o1, none⟩ = some y ∧ W.cell? ⟨b, o2, none⟩ = some z ∧ W.cell? ⟨b, o3, none⟩ = some u ∧ W.cell? ⟨b, o4, none⟩ = some v := by
  obtain ⟨h0, h1, h2, h3, h4⟩ := h
  exact ⟨(hb.cell (World.block_lt_of_cell? w _ h0)).trans h0, (hb.cell (World.block_lt_of_cell? w _ h1)).trans h1, (hb.cell (World.block_lt_of_cell? w _ h2)).trans h2, (hb.cell (World.block_lt_of_cell? w _ h3)).trans h3, (hb.cell (World.block_lt_of_cell? w _ h4)).trans h4⟩
theorem five_stay {w W : World} {b o0 o1 o2 o3 o4 : Nat} {x y z u v : Value} (h : w.cell? ⟨b, o0, none⟩ = some x ∧ w.cell? ⟨b, o1, none⟩ = some y ∧ w.cell? ⟨b, o2, none⟩ = some z ∧ w.cell? ⟨b, o3, none⟩ = some u ∧ w.cell? ⟨b, o4, none⟩ = some v) (hb : W.heap[b]? = w.heap[b]?) : W.cell? ⟨b, o0, none⟩ = some x ∧ W.cell? ⟨b, o1, none⟩ = some y ∧ W.cell? ⟨b, o2, none⟩ = some z ∧ W.cell? ⟨b, o3, none⟩ = some u ∧ W.cell? ⟨b, o4, none⟩ = some v := by
  obtain ⟨h0, h1, h2, h3, h4⟩ := h
  have e := fun o => World.cell?_of_block (w := w) (w' := W) (a := ⟨b, o, none⟩) hb
  exact ⟨(e _).trans h0, (e _).trans h1, (e _).trans h2, (e _).trans h3, (e _).trans h4⟩
theorem IsE.stay {w w' : World} {F : Nat → Prop} {a : Option Addr} {m cap : Nat} {l : List Ent} (h : IsE w F a m cap l) (hs : ∀ b, F b → b < w.heap.size → w'.heap[b]? = w.heap[b]?) (hz : w.heap.size ≤ w'.heap.size) : IsE w' F a m cap l := by
  refine ⟨h.len, h.cap, h.fit, fun i hi => ?_⟩
  obtain ⟨b, off, k, n, a', m', c', e, hF, hb, hc, hT⟩ := h.at_ i hi
  exact ⟨b, off, k, n, a', m', c', e, hF, by omega, five_stay hc (hs b hF hb), hT.stay hs⟩
theorem IsE.below {w w' : World} {F : Nat → Prop} {a : Option Addr} {m cap : Nat} {l : List Ent} (h : IsE w F a m cap l) (hb : Below w.heap.size w w') : IsE w' F a m cap l := h.stay (fun b _ hlt => hb.block b hlt) hb.size
theorem IsE.lt {w : World} {F : Nat → Prop} {a : Option Addr} {m cap : Nat} {l : List Ent} (h : IsE w F a m cap l) : IsE w (Lt w.heap.size) a m cap l := by
  refine ⟨h.len, h.cap, h.fit, fun i hi => ?_⟩
  obtain ⟨b, off, k, n, a', m', c', e, hF, hb, hc, hT⟩ := h.at_ i hi
  exact ⟨b, off, k, n, a', m', c', e, hb, hb, hc, hT.lt⟩
theorem IsE.mono {w : World} {F G : Nat → Prop} {a : Option Addr} {m cap : Nat} {l : List Ent} (h : IsE w F a m cap l) (hs : ∀ b, F b → G b) : IsE w G a m cap l := by
  refine ⟨h.len, h.cap, h.fit, fun i hi => ?_⟩
  obtain ⟨b, off, k, n, a', m', c', e, hF, hb, hc, hT⟩ := h.at_ i hi
  exact ⟨b, off, k, n, a', m', c', e, hs b hF, hb, hc, hT.mono hs⟩
theorem IsE.nil (w : World) (F : Nat → Prop) : IsE w F none 0 0 [] := ⟨rfl, ⟨Nat.le_refl _, fun _ => rfl⟩, fun x hx => (by cases hx), fun i hi => by omega⟩
theorem IsE.fitAt {w : World} {F : Nat → Prop} {a : Option Addr} {m cap : Nat} {l : List Ent} (h : IsE w F a m cap l) {i : Nat} (hi : i < m) : fits .i64 (Ent.at_ l i).n ∧ fits .i64 (Ent.at_ l i).d := h.fit _ (Ent.at_mem (by rw [h.len]; exact hi))
/-- A part: the first q of them. -/
theorem IsE.take {w : World} {F : Nat → Prop} {a : Option Addr} {m cap : Nat} {l : List Ent} (h : IsE w F a m cap l) (q : Nat) (hq : q ≤ m) : IsE w F a q cap (l.take q) := by
  refine ⟨by rw [List.length_take, h.len]; omega, ⟨Nat.le_trans hq h.cap.1, h.cap.2⟩, fun x hx => h.fit x (List.mem_of_mem_take hx), fun i hi => ?_⟩
  rw [Ent.at_take _ _ _ hi]
  exact h.at_ i (by omega)
/-- Cells that read as entries, five an entry. -/
inductive CellsE (w : World) (F : Nat → Prop) : List Value → List Ent → Prop
  | nil : CellsE w F [] []
  | cons {k n : Int} {a : Option Addr} {m c : Nat} {e : Ent} {xs : List Value} {l : List Ent} (h : IsT w F k n a m c e.t) (hx : fits .i64 e.n ∧ fits .i64 e.d) (hs : CellsE w F xs l) : CellsE w F (.int .i64 e.n :: .int .i64 e.d :: .int .i64 k :: .int .i64 n :: .slice a m c :: xs) (e :: l)
theorem CellsE.append {w : World} {F : Nat → Prop} {xs ys : List Value} {l r : List Ent} (h : CellsE w F xs l) (h2 : CellsE w F ys r) : CellsE w F (xs ++ ys) (l ++ r) := by
  induction h with
  | nil => exact h2
  | cons h hx _ ih => exact .cons h hx ih
theorem CellsE.mono {w : World} {F G : Nat → Prop} {xs : List Value} {l : List Ent} (h : CellsE w F xs l) (hs : ∀ b, F b → G b) : CellsE w G xs l := by
  induction h with
  | nil => exact .nil
  | cons h hx _ ih => exact .cons (h.mono hs) hx ih
theorem CellsE.stay {w w' : World} {F : Nat → Prop} {xs : List Value} {l : List Ent} (h : CellsE w F xs l) (hs : ∀ b, F b → b < w.heap.size → w'.heap[b]? = w.heap[b]?) : CellsE w' F xs l := by
  induction h with
  | nil => exact .nil
  | cons h hx _ ih => exact .cons (h.stay hs) hx ih
theorem CellsE.later {w w' : World} {F : Nat → Prop} {xs : List Value} {l : List Ent} (h : CellsE w F xs l) (hb : Below w.heap.size w w') : CellsE w' F xs l := h.stay fun b _ hlt => hb.block b hlt
theorem CellsE.inn {w : World} {F : Nat → Prop} {xs : List Value} {l : List Ent} (h : CellsE w F xs l) : CellsE w (fun b => F b ∧ b < w.heap.size) xs l := by
  induction h with
  | nil => exact .nil
  | cons h hx _ ih => exact .cons h.inn hx ih
theorem CellsE.len {w : World} {F : Nat → Prop} {xs : List Value} {l : List Ent} (h : CellsE w F xs l) : xs.length = l.length * 5 := by
  induction h with
  | nil => rfl
  | cons _ _ _ ih => simp only [List.length_cons]; omega
theorem CellsE.fit {w : World} {F : Nat → Prop} {xs : List Value} {l : List Ent} (h : CellsE w F xs l) : ∀ x ∈ l, fits .i64 x.n ∧ fits .i64 x.d := by
  induction h with
  | nil => intro x hx; cases hx
  | cons _ hx _ ih =>
    intro x h
    rcases List.mem_cons.1 h with rfl | h
    · exact hx
    · exact ih x h
theorem CellsE.oneCell {w : World} {F : Nat → Prop} {xs : List Value} {l : List Ent} (h : CellsE w F xs l) : ∀ u ∈ xs, u.oneCell' = true := by
  induction h with
  | nil => intro u hu; cases hu
  | cons _ _ _ ih =>
    intro u hu
    simp only [List.mem_cons] at hu
    rcases hu with rfl | rfl | rfl | rfl | rfl | hu
    · rfl
    · rfl
    · rfl
    · rfl
    · rfl
    · exact ih u hu
theorem CellsE.at {w : World} {F : Nat → Prop} {xs : List Value} {l : List Ent} (h : CellsE w F xs l) : ∀ i, i < l.length → ∃ k n a m c, xs[i * 5]? = some (.int .i64 (Ent.at_ l i).n) ∧ xs[i * 5 + 1]? = some (.int .i64 (Ent.at_ l i).d) ∧ xs[i * 5 + 2]? = some (.int .i64 k) ∧ xs[i * 5 + 3]? = some (.int .i64 n) ∧ xs[i * 5 + 4]? = some (.slice a m c) ∧ IsT w F k n a m c (Ent.at_ l i).t := by
  induction h with
  | nil => intro i hi; simp at hi
  | cons h hx hs ih =>
    intro i hi
    cases i with
    | zero => exact ⟨_, _, _, _, _, rfl, rfl, rfl, rfl, rfl, h⟩
    | succ i =>
      obtain ⟨k, n, a, m, c, h0, h1, h2, h3, h4, h5⟩ := ih i (by simpa using hi)
      refine ⟨k, n, a, m, c, ?_, ?_, ?_, ?_, ?_, h5⟩
      · rw [show (i + 1) * 5 = i * 5 + 5 by omega]; exact h0
      · rw [show (i + 1) * 5 + 1 = i * 5 + 1 + 5 by omega]; exact h1
      · rw [show (i + 1) * 5 + 2 = i * 5 + 2 + 5 by omega]; exact h2
      · rw [show (i + 1) * 5 + 3 = i * 5 + 3 + 5 by omega]; exact h3
      · rw [show (i + 1) * 5 + 4 = i * 5 + 4 + 5 by omega]; exact h4
/-- A row of entries that the call owns, as entries that read. -/
theorem ents_of_own {w : World} {base : Nat} {e : TypeId} {a : Option Addr} {n cap : Nat} {xs : List Value} {F G : Nat → Prop} {l : List Ent} (h : w.ownsRow base e 5 (.slice a n cap) n xs) (hc : CellsE w F xs l) (hn : l.length = n)
    (hF : ∀ b, F b → G b) (hG : ∀ g, a = some ⟨g, 0, none⟩ → G g) : IsE w G a n cap l := by
  obtain ⟨a', cap', hv, ho, _⟩ := own_slice2 h
  simp only [Value.slice.injEq, true_and] at hv
  obtain ⟨rfl, rfl⟩ := hv
  refine ⟨hn, ho, hc.fit, fun i hi => ?_⟩
  have h' := h
  rcases h.2 with ⟨hv, h0⟩ | ⟨g, cap', cur, hv, hb, hg, hnc, hcm, hcs, htake⟩
  · simp only [Value.slice.injEq] at hv; omega
  · simp only [Value.slice.injEq, true_and] at hv
    obtain ⟨rfl, rfl⟩ := hv
    obtain ⟨k, n', a', m', c', k0, k1, k2, k3, k4, k5⟩ := hc.at i (by omega)
    refine ⟨g, 0, k, n', a', m', c', rfl, hG g rfl, (h'.lt g rfl).2, ⟨?_, ?_, ?_, ?_, ?_⟩, k5.mono hF⟩
    · rw [Nat.zero_add, h'.cellAt _ (by omega), k0]
    · rw [Nat.zero_add, h'.cellAt _ (by omega), k1]
    · rw [Nat.zero_add, h'.cellAt _ (by omega), k2]
    · rw [Nat.zero_add, h'.cellAt _ (by omega), k3]
    · rw [Nat.zero_add, h'.cellAt _ (by omega), k4]
/-- A result: a row of entries of the call's own; what is below them is its own, too. -/
def OwnE (w : World) (T : TypeId) (B : Nat) (F : Nat → Prop) (v : Value) (l : List Ent) : Prop :=
  ∃ xs, w.ownsRow B T 5 v l.length xs ∧ CellsE w (fun b => F b ∧ v.ownBlock ≠ some b) xs l
theorem OwnE.none (w : World) (T : TypeId) (B : Nat) (F : Nat → Prop) : OwnE w T B F (.slice none 0 0) [] := ⟨[], World.ownsRow_nil _ _ _ _, .nil⟩
theorem OwnE.below {w w' : World} {T : TypeId} {B : Nat} {F : Nat → Prop} {v : Value} {l : List Ent} (h : OwnE w T B F v l) (hb : Below w.heap.size w w') : OwnE w' T B F v l := by
  obtain ⟨xs, h1, h2⟩ := h
  exact ⟨xs, own_later3 h1 hb, h2.later hb⟩
theorem OwnE.len {w : World} {T : TypeId} {B : Nat} {F : Nat → Prop} {v : Value} {l : List Ent} (h : OwnE w T B F v l) : ∃ a cap, v = .slice a l.length cap := by
  obtain ⟨xs, h1, h2⟩ := h
  obtain ⟨a, cap, h, _⟩ := own_slice2 h1
  exact ⟨a, cap, h⟩
theorem OwnE.is {w : World} {T : TypeId} {B : Nat} {F : Nat → Prop} {a : Option Addr} {m c : Nat} {l : List Ent} (h : OwnE w T B F (.slice a m c) l) (hm : l.length = m) : IsE w (fun b => F b ∨ B ≤ b) a m c l := by
  obtain ⟨xs, h1, h2⟩ := h
  rw [hm] at h1
  exact ents_of_own h1 h2 hm (fun b hb => .inl hb.1) (fun g hg => .inr (h1.lt g (by rw [hg]; rfl)).1)
end Go.Proofs.Ytonffapiamhdbaa

namespace Go.Proofs.Ytonffapiamhdbaa
open Go.ChangeShapes Go.WideShapes Go.ChangeAt Go.RowKit
set_option linter.unusedVariables false
set_option linter.unusedSimpArgs false
set_option maxRecDepth 100000
/-- What the types of entries are. -/
structure EntTypes (P : Program) (TE : TypeId) (g0 g1 h0 h1 f0 f1 f2 : Field) : Prop where
  e : P.underlying TE = some (.struct #[g0, g1])
  p0 : g0.offset = 0
  p1 : g1.offset = 2
  z0 : P.cellsOf g0.type = 2
  z1 : P.cellsOf g1.type = 3
  zE : P.cellsOf TE = 5
  k : P.underlying g0.type = some (.struct #[h0, h1])
  q0 : h0.offset = 0
  q1 : h1.offset = 1
  y0 : P.cellsOf h0.type = 1
  y1 : P.cellsOf h1.type = 1
  j0 : P.underlying h0.type = some (.int .i64)
  j1 : P.underlying h1.type = some (.int .i64)
  s : P.underlying g1.type = some (.struct #[f0, f1, f2])
  o0 : f0.offset = 0
  o1 : f1.offset = 1
  o2 : f2.offset = 2
  c0 : P.cellsOf f0.type = 1
  c1 : P.cellsOf f1.type = 1
  c2 : P.cellsOf f2.type = 1
  i0 : P.underlying f0.type = some (.int .i64)
  i1 : P.underlying f1.type = some (.int .i64)
  i2 : P.underlying f2.type = some (.slice g1.type)
section
variable {H : Type} {enc : TypeId × Value → H} {P : Program} {w : World} {base : Nat} {sp : Nat → Bool} {held : Bool} {TE : TypeId} {g0 g1 h0 h1 f0 f1 f2 : Field}
theorem open_ent_go (T : EntTypes P TE g0 g1 h0 h1 f0 f1 f2) (fuel : Nat) (cs : List Value) (x : DataW H × List MemPlace) (h : DataW.trod enc P w base sp held fuel TE cs = some x) :
    ∃ (e : Ent) (k n : Int) (a : Option Addr) (m c : Nat), cs = [.int .i64 e.n, .int .i64 e.d, .int .i64 k, .int .i64 n, .slice a m c] ∧ (fits .i64 e.n ∧ fits .i64 e.d) ∧ IsT w (fun _ => True) k n a m c e.t ∧ e.t.size ≤ Rows.uptoBulk x.1 := by
  obtain ⟨ys, n, rfl, rfl, hlen, hyl, hfs⟩ := DataW.trod_struct T.e h
  rw [T.zE] at hlen
  match cs, hlen with
  | [v0, v1, v2, v3, v4], _ =>
    match ys, hyl with
    | [y0, y1], _ =>
      have e0 := hfs 0 g0 rfl
      have e1 := hfs 1 g1 rfl
      rw [T.p0, T.z0] at e0
      rw [T.p1, T.z1] at e1
      simp only [List.drop_zero, List.drop_succ_cons, List.take_succ_cons, List.take_zero, List.getElem?_cons_zero, List.getElem?_cons_succ] at e0 e1
      obtain ⟨zs, n2, _, hz, hlen2, hzl, hfs2⟩ := DataW.trod_struct T.k e0
      match zs, hzl with
      | [z0, z1], _ =>
        have k0 := hfs2 0 h0 rfl
        have k1 := hfs2 1 h1 rfl
        rw [T.q0, T.y0] at k0
        rw [T.q1, T.y1] at k1
        simp only [List.drop_zero, List.drop_succ_cons, List.take_succ_cons, List.take_zero, List.getElem?_cons_zero, List.getElem?_cons_succ] at k0 k1
        obtain ⟨a0, ha0, _, wa0⟩ := DataW.trod_int T.j0 k0
        obtain ⟨a1, ha1, _, wa1⟩ := DataW.trod_int T.j1 k1
        simp only [List.cons.injEq, and_true] at ha0 ha1
        subst ha0 ha1
        obtain ⟨k, nn, a, m, c, t, hcs, hT, hsz⟩ := open_tree_go T.s T.o0 T.o1 T.o2 T.c0 T.c1 T.c2 T.i0 T.i1 T.i2 T.z1 n n _ _ (Nat.le_refl _) e1
        simp only [List.cons.injEq, and_true] at hcs
        obtain ⟨rfl, rfl, rfl⟩ := hcs
        refine ⟨⟨a0, a1, t⟩, k, nn, a, m, c, rfl, ⟨wa0, wa1⟩, hT, ?_⟩
        have hbulk : Rows.uptoBulk (DataW.agg ([y0, y1].map (·.1))) = Rows.uptoBulk y0.1 + Rows.uptoBulk y1.1 + 1 := by simp [Rows.uptoBulk, Rows.uptoBulkAll]
        rw [hbulk]
        show t.size ≤ _
        omega
end
theorem open_ent {H : Type} {enc : TypeId × Value → H} {P : Program} {W : World} {r : Reach} {b0 base : Nat} {sp : Nat → Bool} {held : Bool} {TE : TypeId} {g0 g1 h0 h1 f0 f1 f2 : Field} {v : Value} {d : DataW H} {p : List MemPlace}
    (T : EntTypes P TE g0 g1 h0 h1 f0 f1 f2) (hv : Value.okWide P W r b0 TE v) (h : DataW.Trod enc P W base sp held TE v d p) :
    ∃ (e : Ent) (k n : Int) (a : Option Addr) (m c : Nat), v = .agg #[.int .i64 e.n, .int .i64 e.d, .int .i64 k, .int .i64 n, .slice a m c] ∧ (fits .i64 e.n ∧ fits .i64 e.d) ∧ IsT W (fun _ => True) k n a m c e.t ∧ e.t.size ≤ Rows.uptoBulk d := by
  obtain ⟨cs, rfl, hsz⟩ := okWide_struct T.e hv
  obtain ⟨fuel, hf⟩ := h
  obtain ⟨e, k, n, a, m, c, hcs, hfit, hT, hsize⟩ := open_ent_go T fuel _ _ hf
  refine ⟨e, k, n, a, m, c, ?_, hfit, hT, hsize⟩
  have : cs = #[.int .i64 e.n, .int .i64 e.d, .int .i64 k, .int .i64 n, .slice a m c] := by
    obtain ⟨l⟩ := cs
    simpa [Value.cells] using hcs
  rw [this]
/-- The nodes of all trees of some entries. -/
def entNodes (l : List Ent) : Nat := Tr.sizeL (l.map fun x => x.t)
theorem entNodes_mem {l : List Ent} {x : Ent} (h : x ∈ l) : x.t.size ≤ entNodes l := Tr.size_mem (List.mem_map.2 ⟨x, h, rfl⟩)
theorem entNodes_len (l : List Ent) : l.length ≤ entNodes l := by
  have := Tr.len_le_sizeL (l.map fun x => x.t)
  simpa [entNodes] using this
theorem open_ents {H : Type} {enc : TypeId × Value → H} {P : Program} {w : World} {r : Reach} {b0 base : Nat} {sp : Nat → Bool} {held : Bool} {S TE : TypeId} {g0 g1 h0 h1 f0 f1 f2 : Field} {v : Value} {d : DataW H} {p : List MemPlace}
    (hS : P.underlying S = some (.slice TE)) (T : EntTypes P TE g0 g1 h0 h1 f0 f1 f2) (hv : Value.okWide P w r b0 S v) (h : DataW.Trod enc P w base sp held S v d p) :
    ∃ a m c l, v = .slice a m c ∧ IsE w (fun _ => True) a m c l ∧ entNodes l ≤ Rows.uptoBulk d := by
  obtain ⟨a0, len0, cap0, rfl⟩ := okWide_slice hS hv
  obtain ⟨fuel, hf⟩ := h
  rcases DataW.trod_slice hS hf with ⟨hcs, hx2⟩ | ⟨ad, len, cap, elems, rest, n2, hn2, hcs, hx2, hbase, hlc, hcm, hel, hat, _, _⟩
  · simp [Value.cells] at hcs
    obtain ⟨rfl, rfl, rfl⟩ := hcs
    exact ⟨none, 0, 0, [], rfl, IsE.nil _ _, by simp [entNodes, Tr.sizeL]⟩
  · simp [Value.cells] at hcs
    obtain ⟨rfl, rfl, rfl⟩ := hcs
    have hb2 : Rows.uptoBulkAll (elems.map (·.1)) + 1 ≤ Rows.uptoBulk d := by
      have := congrArg Prod.fst hx2
      simp only at this
      rw [this]; simp only [Rows.uptoBulk]; omega
    have hE : ∀ i, ∃ p : Ent × (Int × Int) × (Option Addr × Nat × Nat), i < len0 → w.cells? base (ad.add (i * 5)) 5 = some [.int .i64 p.1.n, .int .i64 p.1.d, .int .i64 p.2.1.1, .int .i64 p.2.1.2, .slice p.2.2.1 p.2.2.2.1 p.2.2.2.2] ∧ (fits .i64 p.1.n ∧ fits .i64 p.1.d) ∧ IsT w (fun _ => True) p.2.1.1 p.2.1.2 p.2.2.1 p.2.2.2.1 p.2.2.2.2 p.1.t ∧ ∀ d, elems[i]? = some d → p.1.t.size ≤ Rows.uptoBulk d.1 := fun i => by
      by_cases hi : i < len0
      · have h1 := hat i hi
        rw [T.zE] at h1
        have h2 : elems[i]? = some (elems[i]'(by omega)) := List.getElem?_eq_getElem (by omega)
        rw [h2] at h1
        obtain ⟨cs', hc', ht'⟩ := Option.bind_eq_some_iff.1 h1
        obtain ⟨e, k', n', a', m', c', rfl, hfit, hT', hsz'⟩ := open_ent_go T n2 cs' _ ht'
        refine ⟨(e, (k', n'), (a', m', c')), fun _ => ⟨hc', hfit, hT', fun d hd => ?_⟩⟩
        rw [h2] at hd
        cases hd
        exact hsz'
      · exact ⟨(Ent.zero, (0, 0), (none, 0, 0)), fun h => absurd h hi⟩
    obtain ⟨f, hf'⟩ : ∃ f : Nat → Ent × (Int × Int) × (Option Addr × Nat × Nat), ∀ i, i < len0 → w.cells? base (ad.add (i * 5)) 5 = some [.int .i64 (f i).1.n, .int .i64 (f i).1.d, .int .i64 (f i).2.1.1, .int .i64 (f i).2.1.2, .slice (f i).2.2.1 (f i).2.2.2.1 (f i).2.2.2.2] ∧ (fits .i64 (f i).1.n ∧ fits .i64 (f i).1.d) ∧ IsT w (fun _ => True) (f i).2.1.1 (f i).2.1.2 (f i).2.2.1 (f i).2.2.2.1 (f i).2.2.2.2 (f i).1.t ∧ ∀ d, elems[i]? = some d → (f i).1.t.size ≤ Rows.uptoBulk d.1 :=
      ⟨fun i => Classical.choose (hE i), fun i hi => Classical.choose_spec (hE i) hi⟩
    have hkl : ((List.range len0).map fun i => (f i).1).length = len0 := by simp
    have hkk : ∀ i, i < len0 → Ent.at_ ((List.range len0).map fun i => (f i).1) i = (f i).1 := fun i hi => by simp [Ent.at_, hi]
    refine ⟨some ad, len0, cap0, (List.range len0).map (fun i => (f i).1), rfl, ⟨hkl, ⟨hlc, fun h => by cases h⟩, fun x hx => ?_, fun i hi => ?_⟩, ?_⟩
    · obtain ⟨i, hi, rfl⟩ := List.mem_map.1 hx
      exact (hf' i (List.mem_range.1 hi)).2.1
    · rw [hkk i hi]
      obtain ⟨b, off, spot⟩ := ad
      have hcell : ∀ j, j < 5 → w.cell? ((⟨b, off, spot⟩ : Addr).add (i * 5 + j)) = [Value.int .i64 (f i).1.n, .int .i64 (f i).1.d, .int .i64 (f i).2.1.1, .int .i64 (f i).2.1.2, .slice (f i).2.2.1 (f i).2.2.2.1 (f i).2.2.2.2][j]? := fun j hj => by
        obtain ⟨_, _, h3⟩ := World.cells?_some (hf' i hi).1
        rw [← Go.Deep.add_add]; exact h3 j hj
      have hspot : spot = none := by
        obtain ⟨_, _, h3⟩ := World.cells?_some (hf' 0 (by omega)).1
        have := h3 0 (by omega)
        have h1 : w.cell? (⟨b, off, spot⟩ : Addr) = some (.int .i64 (f 0).1.n) := by simpa [Addr.add] using this
        simpa using World.cell?_spot h1
      subst hspot
      have hadd : ∀ j, (⟨b, off, none⟩ : Addr).add j = ⟨b, off + j, none⟩ := fun j => by unfold Addr.add; split <;> simp_all
      have q0 := hcell 0 (by omega)
      have q1 := hcell 1 (by omega)
      have q2 := hcell 2 (by omega)
      have q3 := hcell 3 (by omega)
      have q4 := hcell 4 (by omega)
      rw [hadd] at q0 q1 q2 q3 q4
      refine ⟨b, off, (f i).2.1.1, (f i).2.1.2, (f i).2.2.1, (f i).2.2.2.1, (f i).2.2.2.2, rfl, trivial, World.block_lt_of_cell? w _ q0, ⟨q0, ?_, ?_, ?_, ?_⟩, (hf' i hi).2.2.1⟩
      · rw [Nat.add_assoc]; exact q1
      · rw [Nat.add_assoc]; exact q2
      · rw [Nat.add_assoc]; exact q3
      · rw [Nat.add_assoc]; exact q4
    · show Tr.sizeL (((List.range len0).map fun i => (f i).1).map fun x => x.t) ≤ _
      have := sizeL_bulk (((List.range len0).map fun i => (f i).1).map fun x => x.t) (elems.map (·.1)) (by simp [hel]) (fun i hi => by
        have hi' : i < len0 := by simpa [hel] using hi
        have h2 : elems[i]? = some (elems[i]'(by omega)) := List.getElem?_eq_getElem (by omega)
        have h3 := (hf' i hi').2.2.2 _ h2
        have h4 : Tr.kid (((List.range len0).map fun i => (f i).1).map fun x => x.t) i = (f i).1.t := by simp [Tr.kid, hi']
        rw [h4]
        simpa using h3)
      omega
end Go.Proofs.Ytonffapiamhdbaa

namespace Go.Proofs.Ytonffapiamhdbaa
set_option linter.unusedVariables false
set_option linter.unusedSimpArgs false
set_option maxRecDepth 100000
def entsOf (f : Nat → Rec5) (n : Nat) : List Ent := (List.range n).map fun i => (f i).ent
theorem entsOf_len (f : Nat → Rec5) (n : Nat) : (entsOf f n).length = n := by simp [entsOf]
theorem entsOf_at (f : Nat → Rec5) (n i : Nat) (h : i < n) : Ent.at_ (entsOf f n) i = (f i).ent := by simp [entsOf, Ent.at_, h]
theorem keys_ne {f : Nat → Rec5} {n : Nat} (hk : ((entsOf f n).map Ent.key).Nodup) {i j : Nat} (hi : i < n) (hj : j < n) (hne : i ≠ j) : (f i).ent.key ≠ (f j).ent.key := fun e => by
  have h := List.nodup_iff_pairwise_ne.1 hk
  have hget : ∀ k, (hk : k < n) → ((entsOf f n).map Ent.key)[k]'(by simp [entsOf, hk]) = (f k).ent.key := fun k hk => by simp [entsOf]
  rcases Nat.lt_or_ge i j with hlt | hge
  · have := List.pairwise_iff_getElem.1 h i j (by simp [entsOf, hi]) (by simp [entsOf, hj]) hlt
    rw [hget i hi, hget j hj] at this
    exact this e
  · have := List.pairwise_iff_getElem.1 h j i (by simp [entsOf, hj]) (by simp [entsOf, hi]) (by omega)
    rw [hget i hi, hget j hj] at this
    exact this e.symm
theorem ord_keys {f : Nat → Rec5} {n : Nat} (hk : ((entsOf f n).map Ent.key).Nodup) : OrdOn Rec5.Lt f 0 n :=
  ⟨fun x y z h1 h2 => Ent.ahead_trans (x := x.ent) (y := y.ent) (z := z.ent) h1 h2, fun x => Ent.ahead_irr x.ent, fun i j _ hi _ hj hne => Ent.ahead_tot (keys_ne hk hi hj hne)⟩
theorem sorted_is {f g : Nat → Rec5} {n : Nat} (hp : PermIn f g 0 n) (hs : Srt Rec5.Lt g 0 n) (hk : ((entsOf f n).map Ent.key).Nodup) : entsOf g n = Ent.sortR [] (entsOf f n) := by
  refine Ent.up_ext _ _ ?_ (Ent.up_sortR List.Pairwise.nil (by simpa using hk)) fun x => ?_
  · unfold Ent.Up entsOf
    rw [List.pairwise_map]
    refine List.Pairwise.imp_of_mem ?_ List.pairwise_lt_range
    intro i j hi hj hij
    exact hs i j (Nat.zero_le _) hij (List.mem_range.1 hj)
  · rw [Ent.mem_sortR]
    simp only [List.not_mem_nil, false_or]
    unfold entsOf
    simp only [List.mem_map, List.mem_range]
    constructor
    · rintro ⟨i, hi, rfl⟩
      obtain ⟨j, _, hj, e⟩ := hp.mem (Nat.zero_le i) hi
      exact ⟨j, hj, by rw [e]⟩
    · rintro ⟨j, hj, rfl⟩
      obtain ⟨p, q, k1, _⟩ := hp
      obtain ⟨_, _, q1, q2, pq, _, _⟩ := k1 j (Nat.zero_le _) hj
      obtain ⟨_, _, _, _, _, _, e⟩ := k1 (q j) q1 q2
      exact ⟨q j, q2, by rw [e, pq]⟩
end Go.Proofs.Ytonffapiamhdbaa

namespace Go.Proofs.Ytonffapiamhdbaa
open Go.RowKit
set_option linter.unusedVariables false
set_option linter.unusedSimpArgs false
set_option maxRecDepth 100000
set_option maxRecDepth 20000
theorem grown_of_belowS {W w' : World} (hb : Below W.heap.size W w') (r : Option Nat) : W.grownBy w' r := ⟨hb.os, hb.tape, hb.output, hb.size, fun k hk _ => hb.block k hk⟩
/-- Entries that are sorted in block g. -/
abbrev Es (w : World) (g o n : Nat) (f : Nat → Rec5) : Prop := SrtAt w 36 g o n f
set_option maxHeartbeats 4000000 in
theorem swap_range (g o n cap : Nat) (fn : Value) (a b k : Nat) (f : Nat → Rec5) (w : World) (hS : Es w g o n f) (hn : n ≤ 16777216) (hc : n ≤ cap) (h1 : a + k ≤ b) (h2 : b + k ≤ n) :
    Calls Try.prog 70 #[.slice (some ⟨g, o, none⟩) n cap, .int .i64 a, .int .i64 b, .int .i64 k, fn] w fun e w' => e = .returned (.tuple #[]) ∧ Es w' g o n (swapR f a b k) ∧ w.grownBy w' (some g) := by
  have HS := Lib.hid hS
  clear hS
  go_enter Try.func70, Try.ntmps70
  go_wp2_with fail
  go_loopw [10] (fun i wr => ∃ j : Nat, j ≤ k ∧ i = .int .i64 j ∧ Hid (Es wr g o n (swapR f a b j)) ∧ Hid (w.grownBy wr (some g))) (fun i _ => k - (intOf i).toNat)
  case atStart => exact ⟨0, Nat.zero_le _, rfl, by unfold Hid; rw [swapR_zero]; exact HS.out, World.grownBy.refl _ _⟩
  case round =>
    obtain ⟨j, hj, rfl, HR, HG⟩ := hrel
    by_cases hlt : j < k
    · obtain ⟨p, hp⟩ : ∃ p : Nat, a + j = p := ⟨_, rfl⟩
      obtain ⟨q, hq⟩ : ∃ q : Nat, b + j = q := ⟨_, rfl⟩
      have e1 : (a : Int) + (j : Int) = (p : Int) := by omega
      have e2 : (b : Int) + (j : Int) = (q : Int) := by omega
      have e3 : IntKind.i64.wrap (p : Int) = (p : Int) := IntWalk.i64_in _ (by omega)
      have e4 : IntKind.i64.wrap (q : Int) = (q : Int) := IntWalk.i64_in _ (by omega)
      have hpn : p < n := by omega
      have hqn : q < n := by omega
      have i1 : (0 : Int) ≤ (p : Int) := by omega
      have i2 : (p : Int) < (n : Int) := by omega
      have i3 : (0 : Int) ≤ (q : Int) := by omega
      have i4 : (q : Int) < (n : Int) := by omega
      obtain ⟨c0, c1, c2, c3, c4⟩ := HR.out.at p hpn
      obtain ⟨d0, d1, d2, d3, d4⟩ := HR.out.at q hqn
      have hfz := HR.out.free
      have hnext := HR.out.swap p q hpn hqn
      rw [← hp, ← hq, ← swapR_succ f a b j (by omega), hp, hq] at hnext
      have HNX := Lib.hid hnext
      have HG2 := Lib.hid ((HG.out.trans (set5_grown wr g (o + p * 5) (swapR f a b j q))).trans (set5_grown _ g (o + q * 5) (swapR f a b j p)))
      obtain ⟨r, hr⟩ : ∃ r, swapR f a b j p = r := ⟨_, rfl⟩
      obtain ⟨s, hs⟩ : ∃ s, swapR f a b j q = s := ⟨_, rfl⟩
      rw [hr] at c0 c1 c2 c3 c4 HNX HG2
      rw [hs] at d0 d1 d2 d3 d4 HNX HG2
      clear hnext hr hs hp hq
      go_wp2_with fail
      go_region
      all_goals
        have HNX2 : Hid (Es (set5 (set5 wr g (o + p * 5) s) g (o + q * 5) r).drew g o n (swapR f a b (j + 1))) := HNX.out.below (Below.refl _ _).drew
        have HG3 : Hid (w.grownBy (set5 (set5 wr g (o + p * 5) s) g (o + q * 5) r).drew (some g)) := HG2.out.trans (grown_of_belowS (Below.refl _ _).drew (some g))
        clear HNX HG2 hfz c0 c1 c2 c3 c4 d0 d1 d2 d3 d4
        go_wp2_with fail
        go_roundw
        case rel => exact ⟨j + 1, by omega, by go_num, HNX2.out, HG3.out⟩
        case measure => simp [intOf]; omega
    · obtain rfl : k = j := by omega
      go_wp2_with fail
      go_end0
      exact ⟨rfl, HR.out, HG.out⟩
end Go.Proofs.Ytonffapiamhdbaa

namespace Go.Proofs.Ytonffapiamhdbaa
open Go.RowKit
set_option linter.unusedVariables false
set_option linter.unusedSimpArgs false
set_option maxRecDepth 100000
set_option maxRecDepth 20000
set_option maxHeartbeats 4000000 in
theorem rotate_ents (g o n cap : Nat) (fn : Value) (a m b : Nat) (f : Nat → Rec5) (w : World) (hS : Es w g o n f) (hn : n ≤ 16777216) (hc : n ≤ cap) (h1 : a < m) (h2 : m < b) (h3 : b ≤ n) :
    Calls Try.prog 61 #[.slice (some ⟨g, o, none⟩) n cap, .int .i64 a, .int .i64 m, .int .i64 b, fn] w fun e w' => e = .returned (.tuple #[]) ∧ Es w' g o n (rotF f a m b) ∧ w.grownBy w' (some g) := by
  have HS := Lib.hid hS
  have CW : Hid (∀ (p q k : Nat) (h : Nat → Rec5) V, Es V g o n h → p + k ≤ q → q + k ≤ n → Calls Try.prog 70 #[.slice (some ⟨g, o, none⟩) n cap, .int .i64 p, .int .i64 q, .int .i64 k, fn] V fun e w' => e = .returned (.tuple #[]) ∧ Es w' g o n (swapR h p q k) ∧ V.grownBy w' (some g)) := fun p q k h V hE k1 k2 => swap_range g o n cap fn p q k h V hE hn hc k1 k2
  obtain ⟨i0, hi0⟩ : ∃ i0 : Nat, m - a = i0 := ⟨_, rfl⟩
  obtain ⟨j0, hj0⟩ : ∃ j0 : Nat, b - m = j0 := ⟨_, rfl⟩
  have e1 : (m : Int) - (a : Int) = (i0 : Int) := by omega
  have e2 : (b : Int) - (m : Int) = (j0 : Int) := by omega
  have e3 : IntKind.i64.wrap (i0 : Int) = (i0 : Int) := IntWalk.i64_in _ (by omega)
  have e4 : IntKind.i64.wrap (j0 : Int) = (j0 : Int) := IntWalk.i64_in _ (by omega)
  have HF : Hid (rotF f (m - i0) m (m + j0) = rotF f a m b) := by unfold Hid; rw [show m - i0 = a by omega, show m + j0 = b by omega]
  have hm0 : i0 ≤ m := by omega
  have hmj : m + j0 ≤ n := by omega
  have hi1 : 0 < i0 := by omega
  have hj1 : 0 < j0 := by omega
  obtain ⟨R, hR⟩ : ∃ R, rotF f a m b = R := ⟨_, rfl⟩
  rw [hR] at HF ⊢
  clear hS hi0 hj0 hR
  go_enter Try.func61, Try.ntmps61
  go_wp2_with fail
  go_loopw [10, 11] (fun x y wr => ∃ (i j : Nat) (h : Nat → Rec5), 0 < i ∧ 0 < j ∧ i ≤ m ∧ m + j ≤ n ∧ x = .int .i64 i ∧ y = .int .i64 j ∧ Hid (Es wr g o n h) ∧ Hid (rotF h (m - i) m (m + j) = R) ∧ Hid (w.grownBy wr (some g))) (fun x y _ => (intOf x).toNat + (intOf y).toNat)
  case atStart => exact ⟨i0, j0, f, hi1, hj1, hm0, hmj, rfl, rfl, HS.out, HF.out, World.grownBy.refl _ _⟩
  case round =>
    obtain ⟨i, j, h, hi, hj, him, hjn, rfl, rfl, HE, HR, HG⟩ := hrel
    obtain ⟨p, hp⟩ : ∃ p : Nat, m - i = p := ⟨_, rfl⟩
    have q1 : (m : Int) - (i : Int) = (p : Int) := by omega
    have q2 : IntKind.i64.wrap (p : Int) = (p : Int) := IntWalk.i64_in _ (by omega)
    have hpm : p + i = m := by omega
    rw [hp] at HR
    clear hp
    by_cases hij : i = j
    · subst hij
      have t1 : ((i : Int) != (i : Int)) = false := bfalse' rfl
      have HD : Hid (swapR h p m i = R) := by unfold Hid; rw [← HR.out]; exact rotF_same h (by omega) (by omega) (by omega) (by omega)
      go_wp2_with fail
      refine (CW.out p m i h _ HE.out (by omega) (by omega)).mono ?_; rintro e w1 ⟨rfl, hE1, hG1⟩
      rw [HD.out] at hE1
      have HE1 := Lib.hid hE1
      have HG1 := Lib.hid (HG.out.trans hG1)
      clear hE1 hG1
      go_wp2_with fail
      go_end0
      exact ⟨rfl, HE1.out, HG1.out⟩
    · have t1 : ((i : Int) != (j : Int)) = true := bdiff (by omega)
      by_cases hgt : j < i
      · have t2 : decide ((i : Int) > (j : Int)) = true := decide_eq_true (by omega)
        obtain ⟨k, hk⟩ : ∃ k : Nat, i - j = k := ⟨_, rfl⟩
        have q3 : (i : Int) - (j : Int) = (k : Int) := by omega
        have q4 : IntKind.i64.wrap (k : Int) = (k : Int) := IntWalk.i64_in _ (by omega)
        have hki : k + j = i := by omega
        have hk0 : 0 < k := by omega
        have HD : Hid (rotF (swapR h p m j) (m - k) m (m + j) = R) := by
          unfold Hid; rw [← HR.out, show m - k = p + j by omega]; exact rotF_left h (i := i) (by omega) (by omega) (by omega) (by omega) hgt hj
        clear hk hij hgt
        go_wp2_with fail
        refine (CW.out p m j h _ HE.out (by omega) (by omega)).mono ?_; rintro e w1 ⟨rfl, hE1, hG1⟩
        have HE1 := Lib.hid hE1
        have HG1 := Lib.hid (HG.out.trans hG1)
        clear hE1 hG1
        go_wp2_with fail
        go_roundw
        case rel => exact ⟨k, j, _, by omega, hj, by omega, hjn, rfl, rfl, HE1.out, HD.out, HG1.out⟩
        case measure => simp [intOf]; omega
      · have t2 : decide ((i : Int) > (j : Int)) = false := decide_eq_false (by omega)
        obtain ⟨k, hk⟩ : ∃ k : Nat, j - i = k := ⟨_, rfl⟩
        obtain ⟨s, hs⟩ : ∃ s : Nat, m + j = s := ⟨_, rfl⟩
        have q3 : (j : Int) - (i : Int) = (k : Int) := by omega
        have q4 : IntKind.i64.wrap (k : Int) = (k : Int) := IntWalk.i64_in _ (by omega)
        have q5 : (m : Int) + (j : Int) = (s : Int) := by omega
        have q6 : IntKind.i64.wrap (s : Int) = (s : Int) := IntWalk.i64_in _ (by omega)
        obtain ⟨u, hu⟩ : ∃ u : Nat, s - i = u := ⟨_, rfl⟩
        have q7 : (s : Int) - (i : Int) = (u : Int) := by omega
        have q8 : IntKind.i64.wrap (u : Int) = (u : Int) := IntWalk.i64_in _ (by omega)
        have hki : k + i = j := by omega
        have hk0 : 0 < k := by omega
        have HD : Hid (rotF (swapR h p u i) (m - i) m (m + k) = R) := by
          unfold Hid; rw [← HR.out, show m - i = p by omega, show m + k = m + j - i by omega, show u = m + j - i by omega]; exact rotF_right h (by omega) (by omega) (by omega) (by omega) (by omega) hi
        have hu1 : u + i = m + j := by omega
        clear hk hij hgt hs hu
        go_wp2_with fail
        refine (CW.out p u i h _ HE.out (by omega) (by omega)).mono ?_; rintro e w1 ⟨rfl, hE1, hG1⟩
        have HE1 := Lib.hid hE1
        have HG1 := Lib.hid (HG.out.trans hG1)
        clear hE1 hG1
        go_wp2_with fail
        go_roundw
        case rel => exact ⟨i, k, _, hi, by omega, him, by omega, rfl, rfl, HE1.out, HD.out, HG1.out⟩
        case measure => simp [intOf]; omega
end Go.Proofs.Ytonffapiamhdbaa

namespace Go.Proofs.Ytonffapiamhdbaa
open Go.RowKit
set_option linter.unusedVariables false
set_option linter.unusedSimpArgs false
set_option maxRecDepth 100000
set_option maxRecDepth 20000
/-- How two entries stand to each other. -/
def cmpE (r s : Rec5) : Int := orI (cmpI r.x s.x) (cmpI r.y s.y)
theorem cmpE_lt (r s : Rec5) : cmpE r s < 0 ↔ r.Lt s := by
  unfold cmpE orI cmpI Rec5.Lt
  by_cases h1 : r.x < s.x
  · rw [if_pos h1, if_neg (by omega)]
    exact ⟨fun _ => .inl h1, fun _ => by omega⟩
  · rw [if_neg h1]
    by_cases h2 : s.x < r.x
    · rw [if_pos h2, if_neg (by omega)]
      exact ⟨fun h => by omega, fun h => by omega⟩
    · rw [if_neg h2, if_pos rfl]
      by_cases h3 : r.y < s.y
      · rw [if_pos h3]; exact ⟨fun _ => .inr ⟨by omega, h3⟩, fun _ => by omega⟩
      · rw [if_neg h3]
        by_cases h4 : s.y < r.y
        · rw [if_pos h4]; exact ⟨fun h => by omega, fun h => by omega⟩
        · rw [if_neg h4]; exact ⟨fun h => by omega, fun h => by omega⟩
theorem two_boxesS (w : World) (cs ds : Array Value) (T U : TypeId) : ∃ W0, (w.alloc (.cells cs T)).alloc (.cells ds U) = W0 ∧ Below w.heap.size w W0 ∧ W0.heap[w.heap.size]? = some (.cells cs T (0, 0)) ∧ W0.heap[w.heap.size + 1]? = some (.cells ds U (0, 0)) :=
  ⟨_, rfl, ((Below.refl _ _).alloc (Nat.le_refl _) _).alloc (by simp) _, block_old (by simp) (block_new rfl), block_new (by simp)⟩
theorem orL_twoS (x y : Int) : orL [x, y] = orI x y := by
  simp only [orL]
  unfold orI
  split <;> (try split) <;> first | rfl | omega
theorem four_keepS {w W : World} {b c o0 o1 p0 p1 : Nat} {x y z u : Value} (h : (w.cell? ⟨b, o0, none⟩ = some x ∧ w.cell? ⟨b, o1, none⟩ = some y) ∧ w.cell? ⟨c, p0, none⟩ = some z ∧ w.cell? ⟨c, p1, none⟩ = some u) (hb : Below w.heap.size w W) : (W.cell? ⟨b, o0, none⟩ = some x ∧ W.cell? ⟨b, o1, none⟩ = some y) ∧ W.cell? ⟨c, p0, none⟩ = some z ∧ W.cell? ⟨c, p1, none⟩ = some u := by
  obtain ⟨⟨h0, h1⟩, h2, h3⟩ := h
  exact ⟨⟨(hb.cell (World.block_lt_of_cell? w _ h0)).trans h0, (hb.cell (World.block_lt_of_cell? w _ h1)).trans h1⟩, (hb.cell (World.block_lt_of_cell? w _ h2)).trans h2, (hb.cell (World.block_lt_of_cell? w _ h3)).trans h3⟩
set_option maxHeartbeats 2000000 in
theorem entry_Cmp (x1 x2 y1 y2 : Int) (w : World) :
    Calls Try.prog 35 #[.agg #[.int .i64 x1, .int .i64 x2], .agg #[.int .i64 y1, .int .i64 y2]] w fun e w' => e = .returned (.int .i64 (orI (cmpI x1 y1) (cmpI x2 y2))) ∧ Below w.heap.size w w' := by
  have CC : Hid (∀ x y W, Calls Try.prog 42 #[.int .i64 x, .int .i64 y] W fun e w' => e = .returned (.int .i64 (cmpI x y)) ∧ W = w') := fun x y W => cmp_Compare _ _ _
  have bp := cmpI_bd x1 y1
  have bq := cmpI_bd x2 y2
  have CC1 := Lib.hid (CC.out x1 y1)
  have CC2 := Lib.hid (CC.out x2 y2)
  obtain ⟨p, hp⟩ : ∃ p, cmpI x1 y1 = p := ⟨_, rfl⟩
  obtain ⟨q, hq⟩ : ∃ q, cmpI x2 y2 = q := ⟨_, rfl⟩
  rw [hp] at CC1 bp ⊢
  rw [hq] at CC2 bq ⊢
  have COr : Hid (∀ W : World, Calls Try.prog 41 #[.slice (some ⟨W.heap.size, 0, none⟩) 2 2] (W.alloc (.cells #[.int .i64 p, .int .i64 q] 3)) fun e w' => e = .returned (.int .i64 (orI p q)) ∧ W.alloc (.cells #[.int .i64 p, .int .i64 q] 3) = w') := fun W => by
    have := cmp_Or (some ⟨W.heap.size, 0, none⟩) 2 2 [p, q] (W.alloc (.cells #[.int .i64 p, .int .i64 q] 3)) (row_new .i64 W 3 [p, q] (by
      intro z hz
      simp only [List.mem_cons, List.not_mem_nil, or_false] at hz
      rcases hz with rfl | rfl <;> exact fits_i64.2 (by omega)) (by simp)) rfl (by omega)
    rwa [orL_twoS] at this
  obtain ⟨W0, hW0, hb0, x0, x1'⟩ := two_boxesS w #[.int .i64 x1, .int .i64 x2] #[.int .i64 y1, .int .i64 y2] 24 24
  have hcu : (W0.cell? ⟨w.heap.size, 0, none⟩ = some (.int .i64 x1) ∧ W0.cell? ⟨w.heap.size, 1, none⟩ = some (.int .i64 x2)) ∧ W0.cell? ⟨w.heap.size + 1, 0, none⟩ = some (.int .i64 y1) ∧ W0.cell? ⟨w.heap.size + 1, 1, none⟩ = some (.int .i64 y2) := ⟨⟨block_cell x0 0, block_cell x0 1⟩, block_cell x1' 0, block_cell x1' 1⟩
  have HB0 := Lib.hid hb0
  have HW0 := Lib.hid hW0
  have hb : Below W0.heap.size W0 W0.drew := (Below.refl _ _).drew
  have COr2 : Hid (∀ W : World, Calls Try.prog 41 #[.slice (some ⟨W.heap.size, 0, none⟩) 2 2] ((W.alloc (.cells #[.int .i64 p, .int .i64 q] 3)).drew) fun e w' => e = .returned (.int .i64 (orI p q)) ∧ (W.alloc (.cells #[.int .i64 p, .int .i64 q] 3)).drew = w') := fun W => COr.out W.drew
  clear hp hq bp bq CC hb0 hW0 x0 x1'
  go_enter Try.func35, Try.ntmps35
  go_wp2_with fail
  rw [HW0.out]
  go_region_held3 (fun w' => (w'.cell? ⟨w.heap.size, 0, none⟩ = some (.int .i64 x1) ∧ w'.cell? ⟨w.heap.size, 1, none⟩ = some (.int .i64 x2)) ∧ w'.cell? ⟨w.heap.size + 1, 0, none⟩ = some (.int .i64 y1) ∧ w'.cell? ⟨w.heap.size + 1, 1, none⟩ = some (.int .i64 y2)) (first | exact hcu | exact four_keepS hcu hb | exact four_keepS hcu (hb.alloc hb.size _)) ((first
    | (go_at_call 42; ((with_reducible refine (CC1.out _).mono ?_); rintro e z ⟨rfl, rfl⟩))
    | (go_at_call 42; ((with_reducible refine (CC2.out _).mono ?_); rintro e z ⟨rfl, rfl⟩))
    | (go_at_call 41; ((with_reducible refine (COr2.out _).mono ?_); rintro e z ⟨rfl, rfl⟩))
    | fail))
  all_goals
    have HBZ := Lib.hid (chain HB0.out ((Below.refl _ _).alloc (Nat.le_refl _) (.cells #[.int .i64 p, .int .i64 q] 3)).drew)
    clear hb hcu
    go_wp2_with fail
    go_ret
    exact ⟨rfl, HBZ.out⟩
theorem cmp_enters : ∀ args w, (callFunc 35 args).run Try.prog w = .ok (.enter 35 args) w := enters_of Try.func35 (by kernel_rfl) rfl
/-- The captured order's block. -/
def OrdAt (w : World) (ob : Nat) : Prop := ∃ v : Value, w.heap[ob]? = some (.cells #[v, .func (.func 35) #[] #[]] 71 (0, 0))
theorem OrdAt.lt {w : World} {ob : Nat} (h : OrdAt w ob) : ob < w.heap.size := by obtain ⟨v, h⟩ := h; exact block_lt h
theorem OrdAt.stay {w w' : World} {ob : Nat} (h : OrdAt w ob) (hs : w'.heap[ob]? = w.heap[ob]?) : OrdAt w' ob := by obtain ⟨v, h⟩ := h; exact ⟨v, hs.trans h⟩
set_option maxHeartbeats 2000000 in
theorem sorted_cmp (ob : Nat) (r s : Rec5) (w : World) (h : OrdAt w ob) :
    Calls Try.prog 44 #[r.val, s.val, .pointer (some ⟨ob, 0, none⟩)] w fun e w' => e = .returned (.int .i64 (cmpE r s)) ∧ Below w.heap.size w w' := by
  obtain ⟨v, hv⟩ := h
  have hlt := block_lt hv
  obtain ⟨W0, hW0, hb0, x0, x1⟩ := two_boxesS w #[.int .i64 r.x, .int .i64 r.y, .int .i64 r.k, .int .i64 r.n, .slice r.a r.m r.c] #[.int .i64 s.x, .int .i64 s.y, .int .i64 s.k, .int .i64 s.n, .slice s.a s.m s.c] 36 36
  have k1 : W0.cell? ⟨ob, 1, none⟩ = some (.func (.func 35) #[] #[]) := block_cell ((hb0.block _ hlt).trans hv) 1
  have c0 : W0.cell? ⟨w.heap.size, 0, none⟩ = some (.int .i64 r.x) := block_cell x0 0
  have c1 : W0.cell? ⟨w.heap.size, 1, none⟩ = some (.int .i64 r.y) := block_cell x0 1
  have d0 : W0.cell? ⟨w.heap.size + 1, 0, none⟩ = some (.int .i64 s.x) := block_cell x1 0
  have d1 : W0.cell? ⟨w.heap.size + 1, 1, none⟩ = some (.int .i64 s.y) := block_cell x1 1
  have CE : Hid (∀ W, Calls Try.prog 35 #[.agg #[.int .i64 r.x, .int .i64 r.y], .agg #[.int .i64 s.x, .int .i64 s.y]] W fun e w' => e = .returned (.int .i64 (cmpE r s)) ∧ Below W.heap.size W w') := fun W => entry_Cmp r.x r.y s.x s.y W
  have hce := cmp_enters
  have HB0 := Lib.hid hb0
  have HW0 := Lib.hid hW0
  obtain ⟨C, hC⟩ : ∃ C, cmpE r s = C := ⟨_, rfl⟩
  rw [hC] at CE ⊢
  unfold Rec5.val
  rw [← hW0] at k1 c0 c1 d0 d1
  clear hC hb0 hW0 x0 x1 hv
  go_enter Try.func44, Try.ntmps44
  go_wp2_with fail
  rw [HW0.out]
  refine (CE.out _).mono ?_; rintro e w1 ⟨rfl, hb1⟩
  have hbe := chain HB0.out hb1
  clear hb1 k1 c0 c1 d0 d1
  go_wp2_with fail
  go_ret
  exact ⟨rfl, hbe⟩
end Go.Proofs.Ytonffapiamhdbaa

namespace Go.Proofs.Ytonffapiamhdbaa
open Go.RowKit
set_option linter.unusedVariables false
set_option linter.unusedSimpArgs false
set_option maxRecDepth 100000
set_option maxRecDepth 20000
theorem srt_enters : ∀ args w, (callFunc 44 args).run Try.prog w = .ok (.enter 44 args) w := enters_of Try.func44 (by kernel_rfl) rfl
/-- An entry's cells. -/
def At5 (w : World) (g p : Nat) (r : Rec5) : Prop := w.cell? ⟨g, p, none⟩ = some (.int .i64 r.x) ∧ w.cell? ⟨g, p + 1, none⟩ = some (.int .i64 r.y) ∧ w.cell? ⟨g, p + 2, none⟩ = some (.int .i64 r.k) ∧ w.cell? ⟨g, p + 3, none⟩ = some (.int .i64 r.n) ∧ w.cell? ⟨g, p + 4, none⟩ = some (.slice r.a r.m r.c)
theorem five_keepS {w W : World} {g p : Nat} {r : Rec5} (h : At5 w g p r) (hb : Below w.heap.size w W) : At5 W g p r := by
  obtain ⟨h0, h1, h2, h3, h4⟩ := h
  exact ⟨(hb.cell (World.block_lt_of_cell? w _ h0)).trans h0, (hb.cell (World.block_lt_of_cell? w _ h1)).trans h1, (hb.cell (World.block_lt_of_cell? w _ h2)).trans h2, (hb.cell (World.block_lt_of_cell? w _ h3)).trans h3, (hb.cell (World.block_lt_of_cell? w _ h4)).trans h4⟩
/-- Behind two stores, and a draw: two entries have changed places. -/
theorem swap_done {w wr : World} {g o n : Nat} {f : Nat → Rec5} {p q : Nat} (h : Es wr g o n f) (hg : w.grownBy wr (some g)) (hp : p < n) (hq : q < n) : Es (set5 (set5 wr g (o + p * 5) (f q)) g (o + q * 5) (f p)).drew g o n (swapF f p q) ∧ w.grownBy (set5 (set5 wr g (o + p * 5) (f q)) g (o + q * 5) (f p)).drew (some g) :=
  ⟨(h.swap p q hp hq).below (Below.refl _ _).drew, ((hg.trans (set5_grown wr g (o + p * 5) (f q))).trans (set5_grown _ g (o + q * 5) (f p))).trans (grown_of_belowS (Below.refl _ _).drew (some g))⟩
set_option maxHeartbeats 16000000 in
theorem insert_ents (g o n cap ob : Nat) (a b : Nat) (f : Nat → Rec5) (w : World) (hS : Es w g o n f) (hO : OrdAt w ob) (hne : ob ≠ g) (hn : n ≤ 16777216) (hc : n ≤ cap) (hab : a ≤ b) (hb : b ≤ n) (ho : OrdOn Rec5.Lt f a b) :
    Calls Try.prog 56 #[.slice (some ⟨g, o, none⟩) n cap, .int .i64 a, .int .i64 b, .func (.func 44) #[] #[.pointer (some ⟨ob, 0, none⟩)]] w fun e w' => e = .returned (.tuple #[]) ∧ (∃ f', Es w' g o n f' ∧ PermIn f f' a b ∧ Srt Rec5.Lt f' a b) ∧ w.grownBy w' (some g) := by
  have HS := Lib.hid hS
  have HO := Lib.hid hO
  have hol := hO.lt
  have HORD := Lib.hid ho
  have hse := srt_enters
  have CC : Hid (∀ (r s : Rec5) W, OrdAt W ob → Calls Try.prog 44 #[.agg #[.int .i64 r.x, .int .i64 r.y, .int .i64 r.k, .int .i64 r.n, .slice r.a r.m r.c], .agg #[.int .i64 s.x, .int .i64 s.y, .int .i64 s.k, .int .i64 s.n, .slice s.a s.m s.c], .pointer (some ⟨ob, 0, none⟩)] W fun e w' => e = .returned (.int .i64 (cmpE r s)) ∧ Below W.heap.size W w') := fun r s W h => sorted_cmp ob r s W h
  obtain ⟨a1, ha1⟩ : ∃ a1 : Nat, a + 1 = a1 := ⟨_, rfl⟩
  have e1 : (a : Int) + 1 = (a1 : Int) := by omega
  have e2 : IntKind.i64.wrap (a1 : Int) = (a1 : Int) := IntWalk.i64_in _ (by omega)
  have HA1 := Lib.hid ha1
  clear hS hO ho ha1
  go_enter Try.func56, Try.ntmps56
  go_wp2_with fail
  go_loopw [8] (fun x wr => ∃ (i : Nat) (h : Nat → Rec5), a + 1 ≤ i ∧ (i ≤ b ∨ i = a + 1) ∧ x = .int .i64 i ∧ Hid (Es wr g o n h) ∧ Hid (PermIn f h a b) ∧ Hid (Srt Rec5.Lt h a i) ∧ Hid (w.grownBy wr (some g))) (fun x _ => b - (intOf x).toNat)
  case atStart => exact ⟨a1, f, by have := HA1.out; omega, by have := HA1.out; omega, rfl, HS.out, PermIn.refl _ _ _, Srt.none _ _ _ _ (by have := HA1.out; omega), World.grownBy.refl _ _⟩
  case round =>
    obtain ⟨i, h, hi1, hi2, rfl, HE, HP, HT, HG⟩ := hrel
    by_cases hlt : i < b
    · obtain ⟨wo, hwo⟩ : ∃ wo : World, wo = wr := ⟨_, rfl⟩
      subst hwo
      go_wp2_with fail
      go_loopw [9] (fun y wq => ∃ (j : Nat) (h' : Nat → Rec5), a ≤ j ∧ j ≤ i ∧ y = .int .i64 j ∧ Hid (Es wq g o n h') ∧ Hid (PermIn f h' a b) ∧ Hid (InsAt Rec5.Lt h' a i j) ∧ Hid (w.grownBy wq (some g))) (fun y _ => (intOf y).toNat)
      case atStart => exact ⟨i, h, by omega, Nat.le_refl _, rfl, HE.out, HP.out, insAt_start _ HT.out, HG.out⟩
      case round =>
        obtain ⟨j, h', haj, hji, rfl, HE2, HP2, HI, HG2⟩ := hrel
        have hord : OrdOn Rec5.Lt h' a (i + 1) := (HORD.out.perm HP2.out).mono (Nat.le_refl _) (by omega)
        obtain ⟨i1, hi1'⟩ : ∃ i1 : Nat, i + 1 = i1 := ⟨_, rfl⟩
        by_cases hja : a < j
        · obtain ⟨p, hp⟩ : ∃ p : Nat, j - 1 = p := ⟨_, rfl⟩
          have q1 : (j : Int) - 1 = (p : Int) := by omega
          have q2 : IntKind.i64.wrap (p : Int) = (p : Int) := IntWalk.i64_in _ (by omega)
          have t1 : decide ((j : Int) > (a : Int)) = true := decide_eq_true (by omega)
          have hjn : j < n := by omega
          have hpn : p < n := by omega
          have k1 : (0 : Int) ≤ (j : Int) := by omega
          have k2 : (j : Int) < (n : Int) := by omega
          have k3 : (0 : Int) ≤ (p : Int) := by omega
          have k4 : (p : Int) < (n : Int) := by omega
          have hcj := HE2.out.at j hjn
          have hcp := HE2.out.at p hpn
          have hoq : OrdAt wr ob := HO.out.stay (HG2.out.block _ hol (fun e => by injection e with e; exact hne e))
          have HOQ := Lib.hid hoq
          have hlt1 := cmpE_lt (h' j) (h' p)
          have HSTEP : Hid ((h' j).Lt (h' p) → InsAt Rec5.Lt (swapF h' j p) a i p) := fun hl => by
            have := insAt_step Rec5.Lt hja hji HI.out (by rw [hp]; exact hl)
            rwa [hp] at this
          have HEND : Hid (¬ (h' j).Lt (h' p) → Srt Rec5.Lt h' a (i + 1)) := fun hl => insAt_end Rec5.Lt hord haj hji HI.out (.inr (by rw [hp]; exact hl))
          have HPS : Hid (PermIn f (swapF h' j p) a b) := HP2.out.trans (swap_perm h' ⟨haj, by omega⟩ ⟨by omega, by omega⟩)
          have CK : Hid (∀ W, Below wr.heap.size wr W → Calls Try.prog 44 #[.agg #[.int .i64 (h' j).x, .int .i64 (h' j).y, .int .i64 (h' j).k, .int .i64 (h' j).n, .slice (h' j).a (h' j).m (h' j).c], .agg #[.int .i64 (h' p).x, .int .i64 (h' p).y, .int .i64 (h' p).k, .int .i64 (h' p).n, .slice (h' p).a (h' p).m (h' p).c], .pointer (some ⟨ob, 0, none⟩)] W fun e w' => e = .returned (.int .i64 (cmpE (h' j) (h' p))) ∧ Below W.heap.size W w') := fun W hb => CC.out _ _ W (HOQ.out.stay (hb.block _ (HOQ.out.lt)))
          obtain ⟨X, hX⟩ : ∃ X, cmpE (h' j) (h' p) = X := ⟨_, rfl⟩
          rw [hX] at CK hlt1
          have HDN : Hid (∀ W, Below wr.heap.size wr W → Es W g o n h' ∧ w.grownBy W (some g)) := fun W hb => ⟨HE2.out.below hb, HG2.out.trans (grown_of_belowS hb _)⟩
          have hb : Below wr.heap.size wr wr.drew := (Below.refl _ _).drew
          obtain ⟨r, hr⟩ : ∃ r, h' j = r := ⟨_, rfl⟩
          obtain ⟨s, hs⟩ : ∃ s, h' p = s := ⟨_, rfl⟩
          have HRS := Lib.hid (And.intro hr hs)
          rw [hr] at hcj CK hlt1 HSTEP HEND
          rw [hs] at hcp CK hlt1 HSTEP HEND
          have hcu : (wr.cell? ⟨g, o + j * 5, none⟩ = some (.int .i64 r.x) ∧ wr.cell? ⟨g, o + j * 5 + 1, none⟩ = some (.int .i64 r.y) ∧ wr.cell? ⟨g, o + j * 5 + 2, none⟩ = some (.int .i64 r.k) ∧ wr.cell? ⟨g, o + j * 5 + 3, none⟩ = some (.int .i64 r.n) ∧ wr.cell? ⟨g, o + j * 5 + 4, none⟩ = some (.slice r.a r.m r.c)) ∧ (wr.cell? ⟨g, o + p * 5, none⟩ = some (.int .i64 s.x) ∧ wr.cell? ⟨g, o + p * 5 + 1, none⟩ = some (.int .i64 s.y) ∧ wr.cell? ⟨g, o + p * 5 + 2, none⟩ = some (.int .i64 s.k) ∧ wr.cell? ⟨g, o + p * 5 + 3, none⟩ = some (.int .i64 s.n) ∧ wr.cell? ⟨g, o + p * 5 + 4, none⟩ = some (.slice s.a s.m s.c)) := ⟨hcj, hcp⟩
          clear hcj hcp hoq hX hr hs hp hord
          have HLT := Lib.hid hlt1
          clear hlt1
          go_wp2_with fail
          go_region_held3 (fun w' => (w'.cell? ⟨g, o + j * 5, none⟩ = some (.int .i64 r.x) ∧ w'.cell? ⟨g, o + j * 5 + 1, none⟩ = some (.int .i64 r.y) ∧ w'.cell? ⟨g, o + j * 5 + 2, none⟩ = some (.int .i64 r.k) ∧ w'.cell? ⟨g, o + j * 5 + 3, none⟩ = some (.int .i64 r.n) ∧ w'.cell? ⟨g, o + j * 5 + 4, none⟩ = some (.slice r.a r.m r.c)) ∧ (w'.cell? ⟨g, o + p * 5, none⟩ = some (.int .i64 s.x) ∧ w'.cell? ⟨g, o + p * 5 + 1, none⟩ = some (.int .i64 s.y) ∧ w'.cell? ⟨g, o + p * 5 + 2, none⟩ = some (.int .i64 s.k) ∧ w'.cell? ⟨g, o + p * 5 + 3, none⟩ = some (.int .i64 s.n) ∧ w'.cell? ⟨g, o + p * 5 + 4, none⟩ = some (.slice s.a s.m s.c))) (first | exact hcu | exact ⟨five_keepS hcu.1 hb, five_keepS hcu.2 hb⟩ | exact ⟨five_keepS hcu.1 hb2, five_keepS hcu.2 hb2⟩) ((first
            | (go_at_call 44; ((with_reducible refine (CK.out _ hb).mono ?_); rintro e z ⟨rfl, hc2⟩; have hb2 := chain hb hc2; clear hc2))
            | fail))
          all_goals
            obtain ⟨hez, hgz⟩ := HDN.out z hb2
            have HEZ := Lib.hid hez
            have HGZ := Lib.hid hgz
            clear hez hcu hb
            rename_i hHeld
            clear hHeld
            by_cases hXl : X < 0
            · have t2 : decide (X < 0) = true := decide_eq_true hXl
              have HST := Lib.hid (HSTEP.out (HLT.out.1 hXl))
              have hfz := HEZ.out.free
              obtain ⟨c0, c1, c2, c3, c4⟩ := HEZ.out.at j hjn
              obtain ⟨d0, d1, d2, d3, d4⟩ := HEZ.out.at p hpn
              obtain ⟨hnext, hng⟩ := swap_done (p := j) (q := p) HEZ.out hgz hjn hpn
              rw [HRS.out.1] at c0 c1 c2 c3 c4 hnext hng
              rw [HRS.out.2] at d0 d1 d2 d3 d4 hnext hng
              have HNX := Lib.hid hnext
              have HNG := Lib.hid hng
              clear HLT HSTEP HEND hnext hng hgz hb2
              go_wp2_with fail
              go_region
              all_goals
                clear hfz c0 c1 c2 c3 c4 d0 d1 d2 d3 d4
                go_wp2_with fail
                go_roundw
                case rel => exact ⟨p, swapF h' j p, by omega, by omega, rfl, HNX.out, HPS.out, HST.out, HNG.out⟩
                case measure => simp [intOf]; omega
            · have t2 : decide (X < 0) = false := decide_eq_false hXl
              have HSD := Lib.hid (HEND.out (fun h => hXl (HLT.out.2 h)))
              have e3 : (i : Int) + 1 = (i1 : Int) := by omega
              have e4 : IntKind.i64.wrap (i1 : Int) = (i1 : Int) := IntWalk.i64_in _ (by omega)
              clear HLT HSTEP HEND hgz hb2
              go_wp2_with fail
              go_roundw
              case rel => exact ⟨i1, h', by omega, by omega, rfl, HEZ.out, HP2.out, by unfold Hid; rw [← hi1']; exact HSD.out, HGZ.out⟩
              case measure => simp [intOf]; omega
        · have HSD : Hid (Srt Rec5.Lt h' a (i + 1)) := insAt_end Rec5.Lt hord haj hji HI.out (.inl (by omega))
          have t1 : decide ((j : Int) > (a : Int)) = false := decide_eq_false (by omega)
          have e3 : (i : Int) + 1 = (i1 : Int) := by omega
          have e4 : IntKind.i64.wrap (i1 : Int) = (i1 : Int) := IntWalk.i64_in _ (by omega)
          clear hord
          go_wp2_with fail
          go_quiet (fail)
          go_wp2_with fail
          go_roundw
          case rel => exact ⟨i1, h', by omega, by omega, rfl, HE2.out.below (below_drewN (Below.refl _ _) _), HP2.out, by unfold Hid; rw [← hi1']; exact HSD.out, HG2.out.trans (grown_of_belowS (below_drewN (Below.refl _ _) _) _)⟩
          case measure => simp [intOf]; omega
    · have t1 : decide ((i : Int) < (b : Int)) = false := decide_eq_false (by omega)
      go_wp2_with fail
      go_end0
      exact ⟨rfl, ⟨h, HE.out, HP.out, HT.out.mono (Nat.le_refl _) (by omega)⟩, HG.out⟩
end Go.Proofs.Ytonffapiamhdbaa

namespace Go.Proofs.Ytonffapiamhdbaa
open Go.RowKit
set_option linter.unusedVariables false
set_option linter.unusedSimpArgs false
set_option maxRecDepth 100000
set_option maxRecDepth 20000
theorem rotF_none' (f : Nat → Rec5) (m : Nat) : rotF f m m (m + 1) = f := rot_none f (Nat.le_refl _) (by omega) (.inl rfl)
set_option maxHeartbeats 16000000 in
theorem sym_one (g o n cap ob : Nat) (hne : ob ≠ g) (hn : n ≤ 16777216) (hc : n ≤ cap) (a m b : Nat) (f : Nat → Rec5) (w : World) : Es w g o n f → OrdAt w ob → a < m → m < b → b ≤ n → m - a = 1 → OrdOn Rec5.Lt f a b → Srt Rec5.Lt f a m → Srt Rec5.Lt f m b →
    Calls Try.prog 57 #[.slice (some ⟨g, o, none⟩) n cap, .int .i64 a, .int .i64 m, .int .i64 b, .func (.func 44) #[] #[.pointer (some ⟨ob, 0, none⟩)]] w fun e w' => e = .returned (.tuple #[]) ∧ (∃ f', Es w' g o n f' ∧ PermIn f f' a b ∧ Srt Rec5.Lt f' a b) ∧ w.grownBy w' (some g) := by
  intro hS hO ham hmb hbn hone ho hsl hsr
  have HS := Lib.hid hS
  have HO := Lib.hid hO
  have hol := hO.lt
  have HORD := Lib.hid ho
  have HSL := Lib.hid hsl
  have HSR := Lib.hid hsr
  have hse := srt_enters
  have CC : Hid (∀ (r s : Rec5) W, OrdAt W ob → Calls Try.prog 44 #[.agg #[.int .i64 r.x, .int .i64 r.y, .int .i64 r.k, .int .i64 r.n, .slice r.a r.m r.c], .agg #[.int .i64 s.x, .int .i64 s.y, .int .i64 s.k, .int .i64 s.n, .slice s.a s.m s.c], .pointer (some ⟨ob, 0, none⟩)] W fun e w' => e = .returned (.int .i64 (cmpE r s)) ∧ Below W.heap.size W w') := fun r s W h => sorted_cmp ob r s W h
  obtain ⟨d1, hd1⟩ : ∃ d1 : Nat, m - a = d1 := ⟨_, rfl⟩
  obtain ⟨d2, hd2⟩ : ∃ d2 : Nat, b - m = d2 := ⟨_, rfl⟩
  have e1 : (m : Int) - (a : Int) = (d1 : Int) := by omega
  have e2 : (b : Int) - (m : Int) = (d2 : Int) := by omega
  have e3 : IntKind.i64.wrap (d1 : Int) = (d1 : Int) := IntWalk.i64_in _ (by omega)
  have e4 : IntKind.i64.wrap (d2 : Int) = (d2 : Int) := IntWalk.i64_in _ (by omega)
  have hone' : d1 = 1 := by omega
  clear hS hO ho hsl hsr
  have hbo : ((d1 : Int) == 1) = true := by rw [beq_iff_eq]; omega
  go_enter Try.func57, Try.ntmps57
  go_wp2_with fail
  go_loopw [10, 11] (fun x y wr => ∃ i j : Nat, m ≤ i ∧ i ≤ j ∧ j ≤ b ∧ x = .int .i64 i ∧ y = .int .i64 j ∧ Hid (∀ t, m ≤ t → t < i → (f t).Lt (f a)) ∧ Hid (∀ t, j ≤ t → t < b → ¬ (f t).Lt (f a)) ∧ Hid (Es wr g o n f) ∧ Hid (w.grownBy wr (some g))) (fun x y _ => (intOf y).toNat - (intOf x).toNat)
  case atStart => exact ⟨m, b, Nat.le_refl _, by omega, Nat.le_refl _, rfl, rfl, by unfold Hid; omega, by unfold Hid; omega, HS.out, World.grownBy.refl _ _⟩
  case round =>
    obtain ⟨i, j, hmi, hij, hjb, rfl, rfl, HA, HB, HE, HG⟩ := hrel
    by_cases hlt : i < j
    · obtain ⟨q, hq⟩ : ∃ q : Nat, i + j = q := ⟨_, rfl⟩
      obtain ⟨h, hh⟩ : ∃ h : Nat, q / 2 = h := ⟨_, rfl⟩
      obtain ⟨hs, hhs⟩ : ∃ hs : Nat, h + 1 = hs := ⟨_, rfl⟩
      have q1 : (i : Int) + (j : Int) = (q : Int) := by omega
      have q2 : IntKind.i64.wrap (q : Int) = (q : Int) := IntWalk.i64_in _ (by omega)
      have q3 : IntKind.u64.wrap (q : Int) = (q : Int) := IntWalk.u64_in _ (by omega)
      have q4 : (q : Int) / 2 = (h : Int) := by omega
      have q5 : IntKind.i64.wrap (h : Int) = (h : Int) := IntWalk.i64_in _ (by omega)
      have q6 : IntKind.u64.wrap (h : Int) = (h : Int) := IntWalk.u64_in _ (by omega)
      have q7 : (h : Int) + 1 = (hs : Int) := by omega
      have q8 : IntKind.i64.wrap (hs : Int) = (hs : Int) := IntWalk.i64_in _ (by omega)
      have hb1 : i ≤ h := by omega
      have hb2 : h < j := by omega
      clear hq hh
      have hi1n : h < n := by omega
      have hi2n : a < n := by omega
      have hcj := HE.out.at h hi1n
      have hcp := HE.out.at a hi2n
      have k1 : (0 : Int) ≤ (h : Int) := by omega
      have k2 : (h : Int) < (n : Int) := by omega
      have k3 : (0 : Int) ≤ (a : Int) := by omega
      have k4 : (a : Int) < (n : Int) := by omega
      have hoq : OrdAt wr ob := HO.out.stay (HG.out.block _ hol (fun e => by injection e with e; exact hne e))
      have HOQ := Lib.hid hoq
      have hlt1 := cmpE_lt (f h) (f a)
      have CK : Hid (∀ W, Below wr.heap.size wr W → Calls Try.prog 44 #[.agg #[.int .i64 (f h).x, .int .i64 (f h).y, .int .i64 (f h).k, .int .i64 (f h).n, .slice (f h).a (f h).m (f h).c], .agg #[.int .i64 (f a).x, .int .i64 (f a).y, .int .i64 (f a).k, .int .i64 (f a).n, .slice (f a).a (f a).m (f a).c], .pointer (some ⟨ob, 0, none⟩)] W fun e w' => e = .returned (.int .i64 (cmpE (f h) (f a))) ∧ Below W.heap.size W w') := fun W hb => CC.out _ _ W (HOQ.out.stay (hb.block _ (HOQ.out.lt)))
      obtain ⟨X, hX⟩ : ∃ X, cmpE (f h) (f a) = X := ⟨_, rfl⟩
      rw [hX] at CK hlt1
      have HLT := Lib.hid hlt1
      have HDN : Hid (∀ W, Below wr.heap.size wr W → Es W g o n f ∧ w.grownBy W (some g)) := fun W hb => ⟨HE.out.below hb, HG.out.trans (grown_of_belowS hb _)⟩
      have hb : Below wr.heap.size wr wr.drew := (Below.refl _ _).drew
      obtain ⟨r5, hr5⟩ : ∃ r5, f h = r5 := ⟨_, rfl⟩
      obtain ⟨s5, hs5⟩ : ∃ s5, f a = s5 := ⟨_, rfl⟩
      rw [hr5] at hcj CK
      rw [hs5] at hcp CK
      have hcu : (wr.cell? ⟨g, o + h * 5, none⟩ = some (.int .i64 r5.x) ∧ wr.cell? ⟨g, o + h * 5 + 1, none⟩ = some (.int .i64 r5.y) ∧ wr.cell? ⟨g, o + h * 5 + 2, none⟩ = some (.int .i64 r5.k) ∧ wr.cell? ⟨g, o + h * 5 + 3, none⟩ = some (.int .i64 r5.n) ∧ wr.cell? ⟨g, o + h * 5 + 4, none⟩ = some (.slice r5.a r5.m r5.c)) ∧ (wr.cell? ⟨g, o + a * 5, none⟩ = some (.int .i64 s5.x) ∧ wr.cell? ⟨g, o + a * 5 + 1, none⟩ = some (.int .i64 s5.y) ∧ wr.cell? ⟨g, o + a * 5 + 2, none⟩ = some (.int .i64 s5.k) ∧ wr.cell? ⟨g, o + a * 5 + 3, none⟩ = some (.int .i64 s5.n) ∧ wr.cell? ⟨g, o + a * 5 + 4, none⟩ = some (.slice s5.a s5.m s5.c)) := ⟨hcj, hcp⟩
      clear hcj hcp hoq hX hlt1 hr5 hs5
      go_wp2_with fail
      go_region_held3 (fun w' => (w'.cell? ⟨g, o + h * 5, none⟩ = some (.int .i64 r5.x) ∧ w'.cell? ⟨g, o + h * 5 + 1, none⟩ = some (.int .i64 r5.y) ∧ w'.cell? ⟨g, o + h * 5 + 2, none⟩ = some (.int .i64 r5.k) ∧ w'.cell? ⟨g, o + h * 5 + 3, none⟩ = some (.int .i64 r5.n) ∧ w'.cell? ⟨g, o + h * 5 + 4, none⟩ = some (.slice r5.a r5.m r5.c)) ∧ (w'.cell? ⟨g, o + a * 5, none⟩ = some (.int .i64 s5.x) ∧ w'.cell? ⟨g, o + a * 5 + 1, none⟩ = some (.int .i64 s5.y) ∧ w'.cell? ⟨g, o + a * 5 + 2, none⟩ = some (.int .i64 s5.k) ∧ w'.cell? ⟨g, o + a * 5 + 3, none⟩ = some (.int .i64 s5.n) ∧ w'.cell? ⟨g, o + a * 5 + 4, none⟩ = some (.slice s5.a s5.m s5.c))) (first | exact hcu | exact ⟨five_keepS hcu.1 hb, five_keepS hcu.2 hb⟩ | exact ⟨five_keepS hcu.1 hb2, five_keepS hcu.2 hb2⟩) ((first
        | (go_at_call 44; ((with_reducible refine (CK.out _ hb).mono ?_); rintro e z ⟨rfl, hc2⟩; have hb2 := chain hb hc2; clear hc2))
        | fail))
      obtain ⟨hez, hgz⟩ := HDN.out z hb2
      have HEZ := Lib.hid hez
      have HGZ := Lib.hid hgz
      clear hez hgz hcu hb hb2 HDN CK HOQ k1 k2 k3 k4
      rename_i hHeld
      clear hHeld
      by_cases hXl : X < 0
      · have HA2 : Hid (∀ t, m ≤ t → t < hs → (f t).Lt (f a)) := fun t h1 h2 => by
          have hl := HLT.out.1 hXl
          by_cases ht : t = h
          · rw [ht]; exact hl
          · exact HORD.out.tr _ _ _ (HSR.out t h h1 (by omega) (by omega)) hl
        go_wp2_with fail
        go_roundw
        case rel => exact ⟨hs, j, by omega, by omega, hjb, rfl, rfl, HA2.out, HB.out, HEZ.out, HGZ.out⟩
        case measure => simp [intOf]; omega
      · have HB2 : Hid (∀ t, h ≤ t → t < b → ¬ (f t).Lt (f a)) := fun t h1 h2 hl => by
          by_cases ht : t = h
          · rw [ht] at hl; exact hXl (HLT.out.2 hl)
          · exact hXl (HLT.out.2 (HORD.out.tr _ _ _ (HSR.out h t (by omega) (by omega) h2) hl))
        go_wp2_with fail
        go_roundw
        case rel => exact ⟨i, h, hmi, by omega, by omega, rfl, rfl, HA.out, HB2.out, HEZ.out, HGZ.out⟩
        case measure => simp [intOf]; omega
    · obtain rfl : i = j := by omega
      have HD : Hid (Srt Rec5.Lt (rotF f a (a + 1) i) a b) := merge_left HORD.out (by omega) (by omega) (by rw [show a + 1 = m by omega]; exact HSR.out) (fun x h1 h2 => HA.out x (by omega) h2) (fun x h1 h2 => HB.out x h1 h2)
      have HP : Hid (PermIn f (rotF f a (a + 1) i) a b) := (rot_perm f (by omega) (by omega)).mono (Nat.le_refl _) (by omega)
      obtain ⟨il, hil⟩ : ∃ il : Nat, i - 1 = il := ⟨_, rfl⟩
      have e5 : (i : Int) - 1 = (il : Int) := by omega
      have e6 : IntKind.i64.wrap (il : Int) = (il : Int) := IntWalk.i64_in _ (by omega)
      go_wp2_with fail
      go_loopw [13] (fun x wr => ∃ k : Nat, a ≤ k ∧ k ≤ il ∧ x = .int .i64 k ∧ Hid (Es wr g o n (rotF f a (a + 1) (k + 1))) ∧ Hid (w.grownBy wr (some g))) (fun x _ => il - (intOf x).toNat)
      case atStart => exact ⟨a, Nat.le_refl _, by omega, rfl, by unfold Hid; rw [rotF_one f a (a + 1) (by omega)]; exact HE.out, HG.out⟩
      case round =>
        obtain ⟨k, hak, hki, rfl, HE2, HG2⟩ := hrel
        by_cases hkl : k < il
        · obtain ⟨p, hp⟩ : ∃ p : Nat, k + 1 = p := ⟨_, rfl⟩
          have q1 : (k : Int) + 1 = (p : Int) := by omega
          have q2 : IntKind.i64.wrap (p : Int) = (p : Int) := IntWalk.i64_in _ (by omega)
          have hpn : k < n := by omega
          have hqn : p < n := by omega
          have HRU : Hid (swapF (rotF f a (a + 1) (k + 1)) k p = rotF f a (a + 1) (p + 1)) := by
            unfold Hid; rw [← hp]; exact rot_up f hak
          have hfz := HE2.out.free
          have k1 : (0 : Int) ≤ (k : Int) := by omega
          have k2 : (k : Int) < (n : Int) := by omega
          have k3 : (0 : Int) ≤ (p : Int) := by omega
          have k4 : (p : Int) < (n : Int) := by omega
          obtain ⟨c0, c1, c2, c3, c4⟩ := HE2.out.at k hpn
          obtain ⟨d0, d1, d2, d3, d4⟩ := HE2.out.at p hqn
          obtain ⟨hnext, hng⟩ := swap_done (p := k) (q := p) HE2.out HG2.out hpn hqn
          rw [HRU.out] at hnext
          obtain ⟨r5, hr5⟩ : ∃ r5, (rotF f a (a + 1) (k + 1)) k = r5 := ⟨_, rfl⟩
          obtain ⟨s5, hs5⟩ : ∃ s5, (rotF f a (a + 1) (k + 1)) p = s5 := ⟨_, rfl⟩
          rw [hr5] at c0 c1 c2 c3 c4 hnext hng
          rw [hs5] at d0 d1 d2 d3 d4 hnext hng
          have HNX := Lib.hid hnext
          have HNG := Lib.hid hng
          clear hnext hng hr5 hs5
          go_wp2_with fail
          go_region
          all_goals
            clear hfz c0 c1 c2 c3 c4 d0 d1 d2 d3 d4
            go_wp2_with fail
            go_roundw
            case rel => exact ⟨p, by omega, by omega, rfl, HNX.out, HNG.out⟩
            case measure => simp [intOf]; omega
        · have hk1 : k + 1 = i := by omega
          rw [hk1] at HE2
          go_wp2_with fail
          refine bodyPost_ret (results_none rfl _ _ _) rfl ?_
          exact ⟨rfl, ⟨_, HE2.out, HP.out, HD.out⟩, HG2.out⟩
set_option maxHeartbeats 16000000 in
theorem sym_two (g o n cap ob : Nat) (hne : ob ≠ g) (hn : n ≤ 16777216) (hc : n ≤ cap) (a m b : Nat) (f : Nat → Rec5) (w : World) : Es w g o n f → OrdAt w ob → a < m → m < b → b ≤ n → m - a ≠ 1 → b - m = 1 → OrdOn Rec5.Lt f a b → Srt Rec5.Lt f a m → Srt Rec5.Lt f m b →
    Calls Try.prog 57 #[.slice (some ⟨g, o, none⟩) n cap, .int .i64 a, .int .i64 m, .int .i64 b, .func (.func 44) #[] #[.pointer (some ⟨ob, 0, none⟩)]] w fun e w' => e = .returned (.tuple #[]) ∧ (∃ f', Es w' g o n f' ∧ PermIn f f' a b ∧ Srt Rec5.Lt f' a b) ∧ w.grownBy w' (some g) := by
  intro hS hO ham hmb hbn hone htwo ho hsl hsr
  have HS := Lib.hid hS
  have HO := Lib.hid hO
  have hol := hO.lt
  have HORD := Lib.hid ho
  have HSL := Lib.hid hsl
  have HSR := Lib.hid hsr
  have hse := srt_enters
  have CC : Hid (∀ (r s : Rec5) W, OrdAt W ob → Calls Try.prog 44 #[.agg #[.int .i64 r.x, .int .i64 r.y, .int .i64 r.k, .int .i64 r.n, .slice r.a r.m r.c], .agg #[.int .i64 s.x, .int .i64 s.y, .int .i64 s.k, .int .i64 s.n, .slice s.a s.m s.c], .pointer (some ⟨ob, 0, none⟩)] W fun e w' => e = .returned (.int .i64 (cmpE r s)) ∧ Below W.heap.size W w') := fun r s W h => sorted_cmp ob r s W h
  obtain ⟨d1, hd1⟩ : ∃ d1 : Nat, m - a = d1 := ⟨_, rfl⟩
  obtain ⟨d2, hd2⟩ : ∃ d2 : Nat, b - m = d2 := ⟨_, rfl⟩
  have e1 : (m : Int) - (a : Int) = (d1 : Int) := by omega
  have e2 : (b : Int) - (m : Int) = (d2 : Int) := by omega
  have e3 : IntKind.i64.wrap (d1 : Int) = (d1 : Int) := IntWalk.i64_in _ (by omega)
  have e4 : IntKind.i64.wrap (d2 : Int) = (d2 : Int) := IntWalk.i64_in _ (by omega)
  have hone' : d1 ≠ 1 := by omega
  have htwo' : d2 = 1 := by omega
  clear hS hO ho hsl hsr
  have hbo : ((d1 : Int) == 1) = false := by rw [beq_eq_false_iff_ne]; omega
  have hbt : ((d2 : Int) == 1) = true := by rw [beq_iff_eq]; omega
  go_enter Try.func57, Try.ntmps57
  go_wp2_with fail
  go_loopw [14, 15] (fun x y wr => ∃ i j : Nat, a ≤ i ∧ i ≤ j ∧ j ≤ m ∧ x = .int .i64 i ∧ y = .int .i64 j ∧ Hid (∀ t, a ≤ t → t < i → ¬ (f m).Lt (f t)) ∧ Hid (∀ t, j ≤ t → t < m → (f m).Lt (f t)) ∧ Hid (Es wr g o n f) ∧ Hid (w.grownBy wr (some g))) (fun x y _ => (intOf y).toNat - (intOf x).toNat)
  case atStart => exact ⟨a, m, Nat.le_refl _, by omega, Nat.le_refl _, rfl, rfl, by unfold Hid; omega, by unfold Hid; omega, HS.out, World.grownBy.refl _ _⟩
  case round =>
    obtain ⟨i, j, hmi, hij, hjb, rfl, rfl, HA, HB, HE, HG⟩ := hrel
    by_cases hlt : i < j
    · obtain ⟨q, hq⟩ : ∃ q : Nat, i + j = q := ⟨_, rfl⟩
      obtain ⟨h, hh⟩ : ∃ h : Nat, q / 2 = h := ⟨_, rfl⟩
      obtain ⟨hs, hhs⟩ : ∃ hs : Nat, h + 1 = hs := ⟨_, rfl⟩
      have q1 : (i : Int) + (j : Int) = (q : Int) := by omega
      have q2 : IntKind.i64.wrap (q : Int) = (q : Int) := IntWalk.i64_in _ (by omega)
      have q3 : IntKind.u64.wrap (q : Int) = (q : Int) := IntWalk.u64_in _ (by omega)
      have q4 : (q : Int) / 2 = (h : Int) := by omega
      have q5 : IntKind.i64.wrap (h : Int) = (h : Int) := IntWalk.i64_in _ (by omega)
      have q6 : IntKind.u64.wrap (h : Int) = (h : Int) := IntWalk.u64_in _ (by omega)
      have q7 : (h : Int) + 1 = (hs : Int) := by omega
      have q8 : IntKind.i64.wrap (hs : Int) = (hs : Int) := IntWalk.i64_in _ (by omega)
      have hb1 : i ≤ h := by omega
      have hb2 : h < j := by omega
      clear hq hh
      have hi1n : m < n := by omega
      have hi2n : h < n := by omega
      have hcj := HE.out.at m hi1n
      have hcp := HE.out.at h hi2n
      have k1 : (0 : Int) ≤ (m : Int) := by omega
      have k2 : (m : Int) < (n : Int) := by omega
      have k3 : (0 : Int) ≤ (h : Int) := by omega
      have k4 : (h : Int) < (n : Int) := by omega
      have hoq : OrdAt wr ob := HO.out.stay (HG.out.block _ hol (fun e => by injection e with e; exact hne e))
      have HOQ := Lib.hid hoq
      have hlt1 := cmpE_lt (f m) (f h)
      have CK : Hid (∀ W, Below wr.heap.size wr W → Calls Try.prog 44 #[.agg #[.int .i64 (f m).x, .int .i64 (f m).y, .int .i64 (f m).k, .int .i64 (f m).n, .slice (f m).a (f m).m (f m).c], .agg #[.int .i64 (f h).x, .int .i64 (f h).y, .int .i64 (f h).k, .int .i64 (f h).n, .slice (f h).a (f h).m (f h).c], .pointer (some ⟨ob, 0, none⟩)] W fun e w' => e = .returned (.int .i64 (cmpE (f m) (f h))) ∧ Below W.heap.size W w') := fun W hb => CC.out _ _ W (HOQ.out.stay (hb.block _ (HOQ.out.lt)))
      obtain ⟨X, hX⟩ : ∃ X, cmpE (f m) (f h) = X := ⟨_, rfl⟩
      rw [hX] at CK hlt1
      have HLT := Lib.hid hlt1
      have HDN : Hid (∀ W, Below wr.heap.size wr W → Es W g o n f ∧ w.grownBy W (some g)) := fun W hb => ⟨HE.out.below hb, HG.out.trans (grown_of_belowS hb _)⟩
      have hb : Below wr.heap.size wr wr.drew := (Below.refl _ _).drew
      obtain ⟨r5, hr5⟩ : ∃ r5, f m = r5 := ⟨_, rfl⟩
      obtain ⟨s5, hs5⟩ : ∃ s5, f h = s5 := ⟨_, rfl⟩
      rw [hr5] at hcj CK
      rw [hs5] at hcp CK
      have hcu : (wr.cell? ⟨g, o + m * 5, none⟩ = some (.int .i64 r5.x) ∧ wr.cell? ⟨g, o + m * 5 + 1, none⟩ = some (.int .i64 r5.y) ∧ wr.cell? ⟨g, o + m * 5 + 2, none⟩ = some (.int .i64 r5.k) ∧ wr.cell? ⟨g, o + m * 5 + 3, none⟩ = some (.int .i64 r5.n) ∧ wr.cell? ⟨g, o + m * 5 + 4, none⟩ = some (.slice r5.a r5.m r5.c)) ∧ (wr.cell? ⟨g, o + h * 5, none⟩ = some (.int .i64 s5.x) ∧ wr.cell? ⟨g, o + h * 5 + 1, none⟩ = some (.int .i64 s5.y) ∧ wr.cell? ⟨g, o + h * 5 + 2, none⟩ = some (.int .i64 s5.k) ∧ wr.cell? ⟨g, o + h * 5 + 3, none⟩ = some (.int .i64 s5.n) ∧ wr.cell? ⟨g, o + h * 5 + 4, none⟩ = some (.slice s5.a s5.m s5.c)) := ⟨hcj, hcp⟩
      clear hcj hcp hoq hX hlt1 hr5 hs5
      go_wp2_with fail
      go_region_held3 (fun w' => (w'.cell? ⟨g, o + m * 5, none⟩ = some (.int .i64 r5.x) ∧ w'.cell? ⟨g, o + m * 5 + 1, none⟩ = some (.int .i64 r5.y) ∧ w'.cell? ⟨g, o + m * 5 + 2, none⟩ = some (.int .i64 r5.k) ∧ w'.cell? ⟨g, o + m * 5 + 3, none⟩ = some (.int .i64 r5.n) ∧ w'.cell? ⟨g, o + m * 5 + 4, none⟩ = some (.slice r5.a r5.m r5.c)) ∧ (w'.cell? ⟨g, o + h * 5, none⟩ = some (.int .i64 s5.x) ∧ w'.cell? ⟨g, o + h * 5 + 1, none⟩ = some (.int .i64 s5.y) ∧ w'.cell? ⟨g, o + h * 5 + 2, none⟩ = some (.int .i64 s5.k) ∧ w'.cell? ⟨g, o + h * 5 + 3, none⟩ = some (.int .i64 s5.n) ∧ w'.cell? ⟨g, o + h * 5 + 4, none⟩ = some (.slice s5.a s5.m s5.c))) (first | exact hcu | exact ⟨five_keepS hcu.1 hb, five_keepS hcu.2 hb⟩ | exact ⟨five_keepS hcu.1 hb2, five_keepS hcu.2 hb2⟩) ((first
        | (go_at_call 44; ((with_reducible refine (CK.out _ hb).mono ?_); rintro e z ⟨rfl, hc2⟩; have hb2 := chain hb hc2; clear hc2))
        | fail))
      obtain ⟨hez, hgz⟩ := HDN.out z hb2
      have HEZ := Lib.hid hez
      have HGZ := Lib.hid hgz
      clear hez hgz hcu hb hb2 HDN CK HOQ k1 k2 k3 k4
      rename_i hHeld
      clear hHeld
      by_cases hXl : X < 0
      · have hbl : (!decide (X < 0)) = false := by rw [decide_eq_true hXl]; rfl
        have HB2 : Hid (∀ t, h ≤ t → t < m → (f m).Lt (f t)) := fun t h1 h2 => by
          have hl := HLT.out.1 hXl
          by_cases ht : t = h
          · rw [ht]; exact hl
          · exact HORD.out.tr _ _ _ hl (HSL.out h t (by omega) (by omega) h2)
        go_wp2_with fail
        all_goals (first | (exfalso; rename_i hsp; exact absurd (hsp.symm.trans hbl) (by decide)) | skip)
        go_roundw
        case rel => exact ⟨i, h, hmi, by omega, by omega, rfl, rfl, HA.out, HB2.out, HEZ.out, HGZ.out⟩
        case measure => simp [intOf]; omega
      · have hbl : (!decide (X < 0)) = true := by rw [decide_eq_false hXl]; rfl
        have HA2 : Hid (∀ t, a ≤ t → t < hs → ¬ (f m).Lt (f t)) := fun t h1 h2 hl => by
          by_cases ht : t = h
          · rw [ht] at hl; exact hXl (HLT.out.2 hl)
          · exact hXl (HLT.out.2 (HORD.out.tr _ _ _ hl (HSL.out t h h1 (by omega) (by omega))))
        go_wp2_with fail
        all_goals (first | (exfalso; rename_i hsp; exact absurd (hsp.symm.trans hbl) (by decide)) | skip)
        go_roundw
        case rel => exact ⟨hs, j, by omega, by omega, hjb, rfl, rfl, HA2.out, HB.out, HEZ.out, HGZ.out⟩
        case measure => simp [intOf]; omega
    · obtain rfl : i = j := by omega
      have HD : Hid (Srt Rec5.Lt (rotF f i m (m + 1)) a b) := by
        unfold Hid; rw [show b = m + 1 by omega]; exact merge_right (by rw [show m + 1 = b by omega]; exact HORD.out) (by omega) (by omega) HSL.out (fun x h1 h2 => HA.out x h1 h2) (fun x h1 h2 => HB.out x h1 h2)
      have HP : Hid (PermIn f (rotF f i m (m + 1)) a b) := (rot_perm f (by omega) (by omega)).mono (by omega) (by omega)
      go_wp2_with fail
      go_loopw [17] (fun x wr => ∃ k : Nat, i ≤ k ∧ k ≤ m ∧ x = .int .i64 k ∧ Hid (Es wr g o n (rotF f k m (m + 1))) ∧ Hid (w.grownBy wr (some g))) (fun x _ => (intOf x).toNat)
      case atStart => exact ⟨m, by omega, Nat.le_refl _, rfl, by unfold Hid; rw [rotF_none']; exact HE.out, HG.out⟩
      case round =>
        obtain ⟨k, hik, hkm, rfl, HE2, HG2⟩ := hrel
        by_cases hkl : i < k
        · obtain ⟨p, hp⟩ : ∃ p : Nat, k - 1 = p := ⟨_, rfl⟩
          have q1 : (k : Int) - 1 = (p : Int) := by omega
          have q2 : IntKind.i64.wrap (p : Int) = (p : Int) := IntWalk.i64_in _ (by omega)
          have hpn : k < n := by omega
          have hqn : p < n := by omega
          have HRU : Hid (swapF (rotF f k m (m + 1)) k p = rotF f p m (m + 1)) := by
            unfold Hid; rw [← hp]; exact rot_down f (by omega) hkm
          have hfz := HE2.out.free
          have k1 : (0 : Int) ≤ (k : Int) := by omega
          have k2 : (k : Int) < (n : Int) := by omega
          have k3 : (0 : Int) ≤ (p : Int) := by omega
          have k4 : (p : Int) < (n : Int) := by omega
          obtain ⟨c0, c1, c2, c3, c4⟩ := HE2.out.at k hpn
          obtain ⟨d0, d1, d2, d3, d4⟩ := HE2.out.at p hqn
          obtain ⟨hnext, hng⟩ := swap_done (p := k) (q := p) HE2.out HG2.out hpn hqn
          rw [HRU.out] at hnext
          obtain ⟨r5, hr5⟩ : ∃ r5, (rotF f k m (m + 1)) k = r5 := ⟨_, rfl⟩
          obtain ⟨s5, hs5⟩ : ∃ s5, (rotF f k m (m + 1)) p = s5 := ⟨_, rfl⟩
          rw [hr5] at c0 c1 c2 c3 c4 hnext hng
          rw [hs5] at d0 d1 d2 d3 d4 hnext hng
          have HNX := Lib.hid hnext
          have HNG := Lib.hid hng
          clear hnext hng hr5 hs5
          go_wp2_with fail
          go_region
          all_goals
            clear hfz c0 c1 c2 c3 c4 d0 d1 d2 d3 d4
            go_wp2_with fail
            go_roundw
            case rel => exact ⟨p, by omega, by omega, rfl, HNX.out, HNG.out⟩
            case measure => simp [intOf]; omega
        · obtain rfl : i = k := by omega
          go_wp2_with fail
          refine bodyPost_ret (results_none rfl _ _ _) rfl ?_
          exact ⟨rfl, ⟨_, HE2.out, HP.out, HD.out⟩, HG2.out⟩
end Go.Proofs.Ytonffapiamhdbaa

namespace Go.Proofs.Ytonffapiamhdbaa
open Go.RowKit
set_option linter.unusedVariables false
set_option linter.unusedSimpArgs false
set_option maxRecDepth 100000
set_option maxRecDepth 20000
set_option maxHeartbeats 16000000 in
theorem sym_ents (g o n cap ob : Nat) (hne : ob ≠ g) (hn : n ≤ 16777216) (hc : n ≤ cap) (fuel : Nat) : ∀ (a m b : Nat) (f : Nat → Rec5) (w : World), Es w g o n f → OrdAt w ob → a < m → m < b → b ≤ n → b - a ≤ fuel → OrdOn Rec5.Lt f a b → Srt Rec5.Lt f a m → Srt Rec5.Lt f m b →
    Calls Try.prog 57 #[.slice (some ⟨g, o, none⟩) n cap, .int .i64 a, .int .i64 m, .int .i64 b, .func (.func 44) #[] #[.pointer (some ⟨ob, 0, none⟩)]] w fun e w' => e = .returned (.tuple #[]) ∧ (∃ f', Es w' g o n f' ∧ PermIn f f' a b ∧ Srt Rec5.Lt f' a b) ∧ w.grownBy w' (some g) := by
  induction fuel with
  | zero => intro a m b f w h1 h2 h3 h4 h5 h6; exfalso; omega
  | succ fuel ih =>
  intro a m b f w hS hO ham hmb hbn hfu ho hsl hsr
  by_cases hone : m - a = 1
  · exact sym_one g o n cap ob hne hn hc a m b f w hS hO ham hmb hbn hone ho hsl hsr
  by_cases htwo : b - m = 1
  · exact sym_two g o n cap ob hne hn hc a m b f w hS hO ham hmb hbn hone htwo ho hsl hsr
  have IH := Lib.hid ih
  have HS := Lib.hid hS
  have HO := Lib.hid hO
  have hol := hO.lt
  have HORD := Lib.hid ho
  have HSL := Lib.hid hsl
  have HSR := Lib.hid hsr
  have hse := srt_enters
  have CC : Hid (∀ (r s : Rec5) W, OrdAt W ob → Calls Try.prog 44 #[.agg #[.int .i64 r.x, .int .i64 r.y, .int .i64 r.k, .int .i64 r.n, .slice r.a r.m r.c], .agg #[.int .i64 s.x, .int .i64 s.y, .int .i64 s.k, .int .i64 s.n, .slice s.a s.m s.c], .pointer (some ⟨ob, 0, none⟩)] W fun e w' => e = .returned (.int .i64 (cmpE r s)) ∧ Below W.heap.size W w') := fun r s W h => sorted_cmp ob r s W h
  obtain ⟨d1, hd1⟩ : ∃ d1 : Nat, m - a = d1 := ⟨_, rfl⟩
  obtain ⟨d2, hd2⟩ : ∃ d2 : Nat, b - m = d2 := ⟨_, rfl⟩
  have e1 : (m : Int) - (a : Int) = (d1 : Int) := by omega
  have e2 : (b : Int) - (m : Int) = (d2 : Int) := by omega
  have e3 : IntKind.i64.wrap (d1 : Int) = (d1 : Int) := IntWalk.i64_in _ (by omega)
  have e4 : IntKind.i64.wrap (d2 : Int) = (d2 : Int) := IntWalk.i64_in _ (by omega)
  have CR : Hid (∀ (h : Nat → Rec5) V s e, Es V g o n h → s < m → m < e → e ≤ n → Calls Try.prog 61 #[.slice (some ⟨g, o, none⟩) n cap, .int .i64 s, .int .i64 m, .int .i64 e, .func (.func 44) #[] #[.pointer (some ⟨ob, 0, none⟩)]] V fun x w' => x = .returned (.tuple #[]) ∧ Es w' g o n (rotF h s m e) ∧ V.grownBy w' (some g)) := fun h V s e hE k1 k2 k3 => rotate_ents g o n cap _ s m e h V hE hn hc k1 k2 k3
  have hone' : d1 ≠ 1 := by omega
  have htwo' : d2 ≠ 1 := by omega
  clear ih hS hO ho hsl hsr
  obtain ⟨mid, hmid⟩ : ∃ mid : Nat, (a + b) / 2 = mid := ⟨_, rfl⟩
  obtain ⟨q0, hq0⟩ : ∃ q0 : Nat, a + b = q0 := ⟨_, rfl⟩
  obtain ⟨N, hN⟩ : ∃ N : Nat, mid + m = N := ⟨_, rfl⟩
  obtain ⟨P, hP⟩ : ∃ P : Nat, N - 1 = P := ⟨_, rfl⟩
  obtain ⟨s0, hs0⟩ : ∃ s0 : Nat, (if mid < m then N - b else a) = s0 := ⟨_, rfl⟩
  obtain ⟨r0, hr0⟩ : ∃ r0 : Nat, (if mid < m then mid else m) = r0 := ⟨_, rfl⟩
  have hmb2 : a < mid ∧ mid < b := by omega
  have hcs : (mid < m ∧ s0 = N - b ∧ r0 = mid) ∨ (m ≤ mid ∧ s0 = a ∧ r0 = m) := by
    by_cases h : mid < m
    · rw [if_pos h] at hs0 hr0; exact .inl ⟨h, hs0.symm, hr0.symm⟩
    · rw [if_neg h] at hs0 hr0; exact .inr ⟨by omega, hs0.symm, hr0.symm⟩
  have HCP : Hid (∀ s, s0 ≤ s → s ≤ r0 → (∀ c, s0 ≤ c → c < s → ¬ (f (P - c)).Lt (f c)) → (∀ c, s ≤ c → c < r0 → (f (P - c)).Lt (f c)) → a ≤ s ∧ s ≤ m ∧ m ≤ N - s ∧ N - s ≤ b ∧ s + (N - s - m) = mid ∧ (∀ x y, a ≤ x → x < s → N - s ≤ y → y < b → (f x).Lt (f y)) ∧ (∀ y x, m ≤ y → y < N - s → s ≤ x → x < m → (f y).Lt (f x))) := fun s h1 h2 c1 c2 => cut_parts HORD.out ham hmb hmid.symm hN.symm hP.symm hcs HSL.out HSR.out h1 h2 c1 c2
  have HCM : Hid (∀ c c', s0 ≤ c → c ≤ c' → c' < r0 → (f (P - c)).Lt (f c) → (f (P - c')).Lt (f c')) := fun c c' h1 h2 h3 h => cut_mono HORD.out ham hmb hmid.symm hN.symm hP.symm hcs HSL.out HSR.out h1 h2 h3 h
  have hs0r : s0 ≤ r0 ∧ r0 ≤ m ∧ a ≤ s0 ∧ r0 ≤ P ∧ P < s0 + b := by omega
  have g1 : (a : Int) + (b : Int) = (q0 : Int) := by omega
  have g2 : IntKind.i64.wrap (q0 : Int) = (q0 : Int) := IntWalk.i64_in _ (by omega)
  have g3 : IntKind.u64.wrap (q0 : Int) = (q0 : Int) := IntWalk.u64_in _ (by omega)
  have g4 : (q0 : Int) / 2 = (mid : Int) := by omega
  have g5 : IntKind.i64.wrap (mid : Int) = (mid : Int) := IntWalk.i64_in _ (by omega)
  have g6 : IntKind.u64.wrap (mid : Int) = (mid : Int) := IntWalk.u64_in _ (by omega)
  have g7 : (mid : Int) + (m : Int) = (N : Int) := by omega
  have g8 : IntKind.i64.wrap (N : Int) = (N : Int) := IntWalk.i64_in _ (by omega)
  have g9 : (N : Int) - 1 = (P : Int) := by omega
  have g10 : IntKind.i64.wrap (P : Int) = (P : Int) := IntWalk.i64_in _ (by omega)
  have HM2 := Lib.hid hmid
  have HQ0 := Lib.hid hq0
  have HNN := Lib.hid hN
  have HPP := Lib.hid hP
  clear hmid hq0 hs0 hr0
  have hbo : ((d1 : Int) == 1) = false := by rw [beq_eq_false_iff_ne]; omega
  have hbt : ((d2 : Int) == 1) = false := by rw [beq_eq_false_iff_ne]; omega
  go_enter Try.func57, Try.ntmps57
  go_upto_if 140 with fail
  go_cut [20, 21] from 135 to 146 (fun x y wx => x = .int .i64 s0 ∧ y = .int .i64 r0 ∧ wx = w)
  case first =>
    by_cases hmm : mid < m
    · have z1 : (N : Int) - (b : Int) = (s0 : Int) := by omega
      have z2 : IntKind.i64.wrap (s0 : Int) = (s0 : Int) := IntWalk.i64_in _ (by omega)
      obtain rfl : r0 = mid := by omega
      go_wp2_with fail
      go_meet
      exact ⟨rfl, rfl, rfl⟩
    · obtain rfl : s0 = a := by omega
      obtain rfl : r0 = m := by omega
      go_wp2_with fail
      go_meet
      exact ⟨rfl, rfl, rfl⟩
  case rest =>
    obtain ⟨rfl, rfl, hw⟩ := hcut
    rw [hw]
    clear hw wc
    go_wp2_with fail
    go_loopw [20, 21] (fun x y wr => ∃ i j : Nat, s0 ≤ i ∧ i ≤ j ∧ j ≤ r0 ∧ x = .int .i64 i ∧ y = .int .i64 j ∧ Hid (∀ t, s0 ≤ t → t < i → ¬ (f (P - t)).Lt (f t)) ∧ Hid (∀ t, j ≤ t → t < r0 → (f (P - t)).Lt (f t)) ∧ Hid (Es wr g o n f) ∧ Hid (w.grownBy wr (some g))) (fun x y _ => (intOf y).toNat - (intOf x).toNat)
    case atStart => exact ⟨s0, r0, Nat.le_refl _, by omega, Nat.le_refl _, rfl, rfl, by unfold Hid; omega, by unfold Hid; omega, HS.out, World.grownBy.refl _ _⟩
    case round =>
      obtain ⟨i, j, hmi, hij, hjb, rfl, rfl, HA, HB, HE, HG⟩ := hrel
      by_cases hlt : i < j
      · obtain ⟨q, hq⟩ : ∃ q : Nat, i + j = q := ⟨_, rfl⟩
        obtain ⟨h, hh⟩ : ∃ h : Nat, q / 2 = h := ⟨_, rfl⟩
        obtain ⟨hs, hhs⟩ : ∃ hs : Nat, h + 1 = hs := ⟨_, rfl⟩
        have q1 : (i : Int) + (j : Int) = (q : Int) := by omega
        have q2 : IntKind.i64.wrap (q : Int) = (q : Int) := IntWalk.i64_in _ (by omega)
        have q3 : IntKind.u64.wrap (q : Int) = (q : Int) := IntWalk.u64_in _ (by omega)
        have q4 : (q : Int) / 2 = (h : Int) := by omega
        have q5 : IntKind.i64.wrap (h : Int) = (h : Int) := IntWalk.i64_in _ (by omega)
        have q6 : IntKind.u64.wrap (h : Int) = (h : Int) := IntWalk.u64_in _ (by omega)
        have q7 : (h : Int) + 1 = (hs : Int) := by omega
        have q8 : IntKind.i64.wrap (hs : Int) = (hs : Int) := IntWalk.i64_in _ (by omega)
        have hb1 : i ≤ h := by omega
        have hb2 : h < j := by omega
        clear hq hh
        obtain ⟨pc, hpc⟩ : ∃ pc : Nat, P - h = pc := ⟨_, rfl⟩
        have v1 : (P : Int) - (h : Int) = (pc : Int) := by omega
        have v2 : IntKind.i64.wrap (pc : Int) = (pc : Int) := IntWalk.i64_in _ (by omega)
        have hi1n : pc < n := by have := HNN.out; have := HPP.out; omega
        have hi2n : h < n := by omega
        have HPC := Lib.hid hpc
        clear hpc
        have hcj := HE.out.at pc hi1n
        have hcp := HE.out.at h hi2n
        have k1 : (0 : Int) ≤ (pc : Int) := by omega
        have k2 : (pc : Int) < (n : Int) := by omega
        have k3 : (0 : Int) ≤ (h : Int) := by omega
        have k4 : (h : Int) < (n : Int) := by omega
        have hoq : OrdAt wr ob := HO.out.stay (HG.out.block _ hol (fun e => by injection e with e; exact hne e))
        have HOQ := Lib.hid hoq
        have hlt1 := cmpE_lt (f pc) (f h)
        have CK : Hid (∀ W, Below wr.heap.size wr W → Calls Try.prog 44 #[.agg #[.int .i64 (f pc).x, .int .i64 (f pc).y, .int .i64 (f pc).k, .int .i64 (f pc).n, .slice (f pc).a (f pc).m (f pc).c], .agg #[.int .i64 (f h).x, .int .i64 (f h).y, .int .i64 (f h).k, .int .i64 (f h).n, .slice (f h).a (f h).m (f h).c], .pointer (some ⟨ob, 0, none⟩)] W fun e w' => e = .returned (.int .i64 (cmpE (f pc) (f h))) ∧ Below W.heap.size W w') := fun W hb => CC.out _ _ W (HOQ.out.stay (hb.block _ (HOQ.out.lt)))
        obtain ⟨X, hX⟩ : ∃ X, cmpE (f pc) (f h) = X := ⟨_, rfl⟩
        rw [hX] at CK hlt1
        have HLT := Lib.hid hlt1
        have HDN : Hid (∀ W, Below wr.heap.size wr W → Es W g o n f ∧ w.grownBy W (some g)) := fun W hb => ⟨HE.out.below hb, HG.out.trans (grown_of_belowS hb _)⟩
        have hb : Below wr.heap.size wr wr.drew := (Below.refl _ _).drew
        obtain ⟨r5, hr5⟩ : ∃ r5, f pc = r5 := ⟨_, rfl⟩
        obtain ⟨s5, hs5⟩ : ∃ s5, f h = s5 := ⟨_, rfl⟩
        rw [hr5] at hcj CK
        rw [hs5] at hcp CK
        have hcu : (wr.cell? ⟨g, o + pc * 5, none⟩ = some (.int .i64 r5.x) ∧ wr.cell? ⟨g, o + pc * 5 + 1, none⟩ = some (.int .i64 r5.y) ∧ wr.cell? ⟨g, o + pc * 5 + 2, none⟩ = some (.int .i64 r5.k) ∧ wr.cell? ⟨g, o + pc * 5 + 3, none⟩ = some (.int .i64 r5.n) ∧ wr.cell? ⟨g, o + pc * 5 + 4, none⟩ = some (.slice r5.a r5.m r5.c)) ∧ (wr.cell? ⟨g, o + h * 5, none⟩ = some (.int .i64 s5.x) ∧ wr.cell? ⟨g, o + h * 5 + 1, none⟩ = some (.int .i64 s5.y) ∧ wr.cell? ⟨g, o + h * 5 + 2, none⟩ = some (.int .i64 s5.k) ∧ wr.cell? ⟨g, o + h * 5 + 3, none⟩ = some (.int .i64 s5.n) ∧ wr.cell? ⟨g, o + h * 5 + 4, none⟩ = some (.slice s5.a s5.m s5.c)) := ⟨hcj, hcp⟩
        clear hcj hcp hoq hX hlt1 hr5 hs5
        go_wp2_with fail
        go_region_held3 (fun w' => (w'.cell? ⟨g, o + pc * 5, none⟩ = some (.int .i64 r5.x) ∧ w'.cell? ⟨g, o + pc * 5 + 1, none⟩ = some (.int .i64 r5.y) ∧ w'.cell? ⟨g, o + pc * 5 + 2, none⟩ = some (.int .i64 r5.k) ∧ w'.cell? ⟨g, o + pc * 5 + 3, none⟩ = some (.int .i64 r5.n) ∧ w'.cell? ⟨g, o + pc * 5 + 4, none⟩ = some (.slice r5.a r5.m r5.c)) ∧ (w'.cell? ⟨g, o + h * 5, none⟩ = some (.int .i64 s5.x) ∧ w'.cell? ⟨g, o + h * 5 + 1, none⟩ = some (.int .i64 s5.y) ∧ w'.cell? ⟨g, o + h * 5 + 2, none⟩ = some (.int .i64 s5.k) ∧ w'.cell? ⟨g, o + h * 5 + 3, none⟩ = some (.int .i64 s5.n) ∧ w'.cell? ⟨g, o + h * 5 + 4, none⟩ = some (.slice s5.a s5.m s5.c))) (first | exact hcu | exact ⟨five_keepS hcu.1 hb, five_keepS hcu.2 hb⟩ | exact ⟨five_keepS hcu.1 hb2, five_keepS hcu.2 hb2⟩) ((first
          | (go_at_call 44; ((with_reducible refine (CK.out _ hb).mono ?_); rintro e z ⟨rfl, hc2⟩; have hb2 := chain hb hc2; clear hc2))
          | fail))
        obtain ⟨hez, hgz⟩ := HDN.out z hb2
        have HEZ := Lib.hid hez
        have HGZ := Lib.hid hgz
        clear hez hgz hcu hb hb2 HDN CK HOQ k1 k2 k3 k4
        rename_i hHeld
        clear hHeld
        rw [← HPC.out] at HLT
        by_cases hXl : X < 0
        · have hbl : (!decide (X < 0)) = false := by rw [decide_eq_true hXl]; rfl
          have HB2 : Hid (∀ t, h ≤ t → t < r0 → (f (P - t)).Lt (f t)) := fun t h1 h2 => HCM.out h t (by omega) h1 h2 (HLT.out.1 hXl)
          go_wp2_with fail
          all_goals (first | (exfalso; rename_i hsp; exact absurd (hsp.symm.trans hbl) (by decide)) | skip)
          go_roundw
          case rel => exact ⟨i, h, hmi, by omega, by omega, rfl, rfl, HA.out, HB2.out, HEZ.out, HGZ.out⟩
          case measure => simp [intOf]; omega
        · have hbl : (!decide (X < 0)) = true := by rw [decide_eq_false hXl]; rfl
          have HA2 : Hid (∀ t, s0 ≤ t → t < hs → ¬ (f (P - t)).Lt (f t)) := fun t h1 h2 hl => hXl (HLT.out.2 (HCM.out t h h1 (by omega) (by omega) hl))
          go_wp2_with fail
          all_goals (first | (exfalso; rename_i hsp; exact absurd (hsp.symm.trans hbl) (by decide)) | skip)
          go_roundw
          case rel => exact ⟨hs, j, by omega, by omega, hjb, rfl, rfl, HA2.out, HB.out, HEZ.out, HGZ.out⟩
          case measure => simp [intOf]; omega
      · obtain rfl : i = j := by omega
        obtain ⟨u1, u2, u3, u4, u5, x1, x2⟩ := HCP.out i hmi hjb HA.out HB.out
        obtain ⟨e, he⟩ : ∃ e : Nat, N - i = e := ⟨_, rfl⟩
        rw [he] at u3 u4 u5 x1 x2
        have w1 : (N : Int) - (i : Int) = (e : Int) := by omega
        have w2 : IntKind.i64.wrap (e : Int) = (e : Int) := IntWalk.i64_in _ (by omega)
        obtain ⟨p1, p2, p3, p4, px⟩ := cut_done u1 u2 u3 u4 u5 HSL.out HSR.out x1 x2
        have HP1 : Hid (PermIn f (rotF f i m e) a b) := (rot_perm f u2 u3).mono u1 u4
        have HOG : Hid (OrdOn Rec5.Lt (rotF f i m e) a b) := HORD.out.perm HP1.out
        have HR0 : Hid (¬ (i < m ∧ m < e) → rotF f i m e = f) := fun h => rot_none f u2 u3 (by omega)
        have CRE : Hid (∀ V, Es V g o n f → i < m → m < e → Calls Try.prog 61 #[.slice (some ⟨g, o, none⟩) n cap, .int .i64 i, .int .i64 m, .int .i64 e, .func (.func 44) #[] #[.pointer (some ⟨ob, 0, none⟩)]] V fun x w' => x = .returned (.tuple #[]) ∧ Es w' g o n (rotF f i m e) ∧ V.grownBy w' (some g)) := fun V hE k1 k2 => CR.out f V i e hE k1 k2 (by omega)
        obtain ⟨G, hG⟩ : ∃ G, rotF f i m e = G := ⟨_, rfl⟩
        rw [hG] at p1 p2 p3 p4 px HP1 HOG HR0 CRE
        have Q1 := Lib.hid p1
        have Q2 := Lib.hid p2
        have Q3 := Lib.hid p3
        have Q4 := Lib.hid p4
        have Q5 := Lib.hid px
        have OA : Hid (∀ V, w.grownBy V (some g) → OrdAt V ob) := fun V h => HO.out.stay (h.block _ hol (fun e => by injection e with e; exact hne e))
        clear x1 x2 p1 p2 p3 p4 px hG he HCP HCM HA HB CR
        go_upto_region 39 with fail
        go_cut [185] from 178 to 185 (fun c wx => (∃ B : Bool, c = .bool B ∧ Hid (B = decide (i < m ∧ m < e))) ∧ wx = wr)
        case first =>
          by_cases h1 : i < m
          · by_cases h2 : m < e
            · go_wp2_with fail
              go_meet
              exact ⟨⟨true, rfl, (decide_eq_true ⟨h1, h2⟩).symm⟩, rfl⟩
            · go_wp2_with fail
              go_meet
              exact ⟨⟨false, rfl, (decide_eq_false (fun h => h2 h.2)).symm⟩, rfl⟩
          · go_wp2_with fail
            go_meet
            exact ⟨⟨false, rfl, (decide_eq_false (fun h => h1 h.1)).symm⟩, rfl⟩
        case rest =>
        obtain ⟨⟨B, rfl, HBB⟩, hw⟩ := hcut
        rw [hw]
        clear hw
        go_upto_if 185 with fail
        go_cut [24] from 186 to 191 (fun c wx => c = .int .i64 e ∧ Hid (Es wx g o n G) ∧ Hid (w.grownBy wx (some g)))
        case first =>
          cases B with
          | true =>
            have hB := of_decide_eq_true HBB.out.symm
            go_wp2_with fail
            refine (CRE.out _ HE.out hB.1 hB.2).mono ?_; rintro x w1 ⟨rfl, hE1, hG1⟩
            have HE1 := Lib.hid hE1
            have HG1 := Lib.hid (HG.out.trans hG1)
            clear hE1 hG1
            go_wp2_with fail
            go_meet
            exact ⟨rfl, HE1.out, HG1.out⟩
          | false =>
            have hB := of_decide_eq_false HBB.out.symm
            have HGf := Lib.hid (HR0.out hB)
            go_wp2_with fail
            go_meet
            exact ⟨rfl, by unfold Hid; rw [HGf.out]; exact HE.out, HG.out⟩
        case rest =>
        obtain ⟨rfl, HE1, HG1⟩ := hcut
        clear HBB
        obtain ⟨wa, hwa⟩ : ∃ wa, wc = wa := ⟨_, rfl⟩
        rw [hwa] at HE1 HG1 ⊢
        clear hwa wc
        go_upto_region 41 with fail
        go_cut [199] from 192 to 199 (fun c wx => (∃ B : Bool, c = .bool B ∧ Hid (B = decide (a < i ∧ i < mid))) ∧ wx = wa)
        case first =>
          by_cases h1 : a < i
          · by_cases h2 : i < mid
            · go_wp2_with fail
              go_meet
              exact ⟨⟨true, rfl, (decide_eq_true ⟨h1, h2⟩).symm⟩, rfl⟩
            · go_wp2_with fail
              go_meet
              exact ⟨⟨false, rfl, (decide_eq_false (fun h => h2 h.2)).symm⟩, rfl⟩
          · go_wp2_with fail
            go_meet
            exact ⟨⟨false, rfl, (decide_eq_false (fun h => h1 h.1)).symm⟩, rfl⟩
        case rest =>
        obtain ⟨⟨B, rfl, HBB⟩, hw⟩ := hcut
        rw [hw]
        clear hw
        go_upto_if 199 with fail
        go_cut [24] from 200 to 205 (fun c wx => c = .int .i64 e ∧ (∃ g1, Hid (Es wx g o n g1) ∧ Hid (PermIn G g1 a mid) ∧ Hid (Srt Rec5.Lt g1 a mid)) ∧ Hid (w.grownBy wx (some g)))
        case first =>
          cases B with
          | true =>
            have hB := of_decide_eq_true HBB.out.symm
            go_wp2_with fail
            refine (IH.out a i mid G _ HE1.out (OA.out _ HG1.out) hB.1 hB.2 (by omega) (by omega) (HOG.out.mono (Nat.le_refl _) (by omega)) Q1.out Q2.out).mono ?_; rintro x w1 ⟨rfl, ⟨g1, hE2, hP2, hS2⟩, hG2⟩
            have HE2 := Lib.hid hE2
            have HP2 := Lib.hid hP2
            have HS2 := Lib.hid hS2
            have HG2 := Lib.hid (HG1.out.trans hG2)
            clear hE2 hG2 hP2 hS2
            go_wp2_with fail
            go_meet
            exact ⟨rfl, ⟨g1, HE2.out, HP2.out, HS2.out⟩, HG2.out⟩
          | false =>
            have hB := of_decide_eq_false HBB.out.symm
            have HS2 : Hid (Srt Rec5.Lt G a mid) := by
              by_cases h : a < i
              · have : i = mid := by omega
                rw [← this]; exact Q1.out
              · have : a = i := by omega
                rw [this]; exact Q2.out
            go_wp2_with fail
            go_meet
            exact ⟨rfl, ⟨G, HE1.out, PermIn.refl _ _ _, HS2.out⟩, HG1.out⟩
        case rest =>
        obtain ⟨rfl, ⟨g1, HE2, HP2, HS2⟩, HG2⟩ := hcut
        clear HBB HE1 HG1 wa
        obtain ⟨wb, hwb⟩ : ∃ wb, wc = wb := ⟨_, rfl⟩
        rw [hwb] at HE2 HG2 ⊢
        clear hwb wc
        have HO3 : Hid (OrdOn Rec5.Lt g1 mid b) := ((HOG.out.perm (HP2.out.mono (Nat.le_refl _) (by omega))).mono (by omega) (Nat.le_refl _))
        have HS3 : Hid (Srt Rec5.Lt g1 mid e) := Q3.out.congr (fun x h1 h2 => HP2.out.out (by omega))
        have HS4 : Hid (Srt Rec5.Lt g1 e b) := Q4.out.congr (fun x h1 h2 => HP2.out.out (by omega))
        go_upto_region 43 with fail
        go_cut [213] from 206 to 213 (fun c wx => (∃ B : Bool, c = .bool B ∧ Hid (B = decide (mid < e ∧ e < b))) ∧ wx = wb)
        case first =>
          by_cases h1 : mid < e
          · by_cases h2 : e < b
            · go_wp2_with fail
              go_meet
              exact ⟨⟨true, rfl, (decide_eq_true ⟨h1, h2⟩).symm⟩, rfl⟩
            · go_wp2_with fail
              go_meet
              exact ⟨⟨false, rfl, (decide_eq_false (fun h => h2 h.2)).symm⟩, rfl⟩
          · go_wp2_with fail
            go_meet
            exact ⟨⟨false, rfl, (decide_eq_false (fun h => h1 h.1)).symm⟩, rfl⟩
        case rest =>
        obtain ⟨⟨B, rfl, HBB⟩, hw⟩ := hcut
        rw [hw]
        clear hw
        go_upto_if 213 with fail
        cases B with
        | true =>
          have hB := of_decide_eq_true HBB.out.symm
          go_wp2_with fail
          refine (IH.out mid e b g1 _ HE2.out (OA.out _ HG2.out) hB.1 hB.2 (by omega) (by omega) HO3.out HS3.out HS4.out).mono ?_; rintro x w1 ⟨rfl, ⟨g2, hE3, hP3, hS3⟩, hG3⟩
          have HE3 := Lib.hid hE3
          have HG3 := Lib.hid (HG2.out.trans hG3)
          have HFIN := Lib.hid (halves_done (by omega) (by omega) HP2.out HS2.out hP3 hS3 Q5.out)
          clear hE3 hG3 hP3 hS3
          go_wp2_with fail
          go_end0
          exact ⟨rfl, ⟨g2, HE3.out, HP1.out.trans HFIN.out.2, HFIN.out.1⟩, HG3.out⟩
        | false =>
          have hB := of_decide_eq_false HBB.out.symm
          have hS3 : Srt Rec5.Lt g1 mid b := by
            by_cases h : mid < e
            · have : e = b := by omega
              rw [← this]; exact HS3.out
            · have : mid = e := by omega
              rw [this]; exact HS4.out
          have HFIN := Lib.hid (halves_done (by omega) (by omega) HP2.out HS2.out (PermIn.refl g1 mid b) hS3 Q5.out)
          clear hS3
          go_wp2_with fail
          go_end0
          exact ⟨rfl, ⟨g1, HE2.out, HP1.out.trans HFIN.out.2, HFIN.out.1⟩, HG2.out⟩
end Go.Proofs.Ytonffapiamhdbaa

namespace Go.Proofs.Ytonffapiamhdbaa
open Go.RowKit
set_option linter.unusedVariables false
set_option linter.unusedSimpArgs false
set_option maxRecDepth 100000
set_option maxRecDepth 20000
/-- Each block of s entries, as far as u, is sorted. -/
def Blk (s : Nat) (h : Nat → Rec5) (u : Nat) : Prop := ∀ t, Srt Rec5.Lt h (t * s) (min ((t + 1) * s) u)
theorem blk_none (s : Nat) (h : Nat → Rec5) : Blk s h 0 := fun t => Srt.none _ _ _ _ (by omega)
theorem blk_step {s q u : Nat} {h h' : Nat → Rec5} (hb : Blk s h (q * s)) (hp : PermIn h h' (q * s) u) (hs : Srt Rec5.Lt h' (q * s) u) (h1 : q * s ≤ u) (h2 : u ≤ q * s + s) : Blk s h' u := by
  intro t
  rcases Nat.lt_trichotomy t q with ht | ht | ht
  · have hle : (t + 1) * s ≤ q * s := Nat.mul_le_mul_right _ ht
    have := hb t
    rw [Nat.min_eq_left (by omega)] at this ⊢
    exact this.congr fun i h3 h4 => hp.out (by omega)
  · subst ht
    rw [Nat.min_eq_right (by rw [Nat.add_mul]; omega)]
    exact hs
  · have hle : (q + 1) * s ≤ t * s := Nat.mul_le_mul_right _ ht
    rw [Nat.add_mul] at hle
    exact Srt.none _ _ _ _ (by omega)
theorem blk_all {s u : Nat} {h : Nat → Rec5} (hb : Blk s h u) (hu : u ≤ s) : Srt Rec5.Lt h 0 u := by
  have := hb 0
  rw [Nat.zero_mul, Nat.min_eq_right (by omega)] at this
  exact this
/-- The blocks from the place a on are sorted. -/
def Blks (s : Nat) (h : Nat → Rec5) (u a : Nat) : Prop := ∀ t, a ≤ t * s → Srt Rec5.Lt h (t * s) (min ((t + 1) * s) u)
theorem blks_of {s u : Nat} {h : Nat → Rec5} (hb : Blk s h u) (a : Nat) : Blks s h u a := fun t _ => hb t
theorem blks_step {s u a b : Nat} {h h' : Nat → Rec5} (hb : Blks s h u a) (hab : a ≤ b) (hp : PermIn h h' a b) : Blks s h' u b := fun t ht => (hb t (by omega)).congr fun i h1 h2 => hp.out (by omega)
/-- Two blocks, the second one perhaps cut short. -/
theorem blks_two {s u a q : Nat} {h : Nat → Rec5} (hb : Blks s h u a) (ha : a = q * (2 * s)) : Srt Rec5.Lt h a (min (a + s) u) ∧ Srt Rec5.Lt h (a + s) (min (a + 2 * s) u) := by
  have e1 : (2 * q) * s = a := by rw [ha, ← Nat.mul_assoc, Nat.mul_comm 2 q]
  have e2 : (2 * q + 1) * s = a + s := by rw [Nat.add_mul, e1]; omega
  have e3 : (2 * q + 1 + 1) * s = a + 2 * s := by rw [Nat.add_mul, e2]; omega
  have h1 := hb (2 * q) (by omega)
  have h2 := hb (2 * q + 1) (by omega)
  rw [e1, e2] at h1
  rw [e2, e3] at h2
  exact ⟨h1, h2⟩
set_option maxHeartbeats 8000000 in
theorem stable_ents (g o n cap ob : Nat) (f : Nat → Rec5) (w : World) (hS : Es w g o n f) (hO : OrdAt w ob) (hne : ob ≠ g) (hn : n ≤ 16777216) (hc : n ≤ cap) (ho : OrdOn Rec5.Lt f 0 n) :
    Calls Try.prog 51 #[.slice (some ⟨g, o, none⟩) n cap, .int .i64 n, .func (.func 44) #[] #[.pointer (some ⟨ob, 0, none⟩)]] w fun e w' => e = .returned (.tuple #[]) ∧ (∃ f', Es w' g o n f' ∧ PermIn f f' 0 n ∧ Srt Rec5.Lt f' 0 n) ∧ w.grownBy w' (some g) := by
  have HS := Lib.hid hS
  have HO := Lib.hid hO
  have hol := hO.lt
  have HORD := Lib.hid ho
  have OA : Hid (∀ V, w.grownBy V (some g) → OrdAt V ob) := fun V h => HO.out.stay (h.block _ hol (fun e => by injection e with e; exact hne e))
  have CI : Hid (∀ (a b : Nat) (h : Nat → Rec5) V, Es V g o n h → w.grownBy V (some g) → a ≤ b → b ≤ n → PermIn f h 0 n → Calls Try.prog 56 #[.slice (some ⟨g, o, none⟩) n cap, .int .i64 a, .int .i64 b, .func (.func 44) #[] #[.pointer (some ⟨ob, 0, none⟩)]] V fun e w' => e = .returned (.tuple #[]) ∧ (∃ f', Es w' g o n f' ∧ PermIn h f' a b ∧ Srt Rec5.Lt f' a b) ∧ V.grownBy w' (some g)) := fun a b h V hE hG h1 h2 hp => insert_ents g o n cap ob a b h V hE (OA.out V hG) hne hn hc h1 h2 ((HORD.out.perm hp).mono (Nat.zero_le _) h2)
  have CS : Hid (∀ (a m b : Nat) (h : Nat → Rec5) V, Es V g o n h → w.grownBy V (some g) → a < m → m < b → b ≤ n → PermIn f h 0 n → Srt Rec5.Lt h a m → Srt Rec5.Lt h m b → Calls Try.prog 57 #[.slice (some ⟨g, o, none⟩) n cap, .int .i64 a, .int .i64 m, .int .i64 b, .func (.func 44) #[] #[.pointer (some ⟨ob, 0, none⟩)]] V fun e w' => e = .returned (.tuple #[]) ∧ (∃ f', Es w' g o n f' ∧ PermIn h f' a b ∧ Srt Rec5.Lt f' a b) ∧ V.grownBy w' (some g)) := fun a m b h V hE hG h1 h2 h3 hp s1 s2 => sym_ents g o n cap ob hne hn hc n a m b h V hE (OA.out V hG) h1 h2 h3 (by omega) ((HORD.out.perm hp).mono (Nat.zero_le _) h3) s1 s2
  clear hS hO ho
  go_enter Try.func51, Try.ntmps51
  go_wp2_with fail
  go_loopw [7, 8] (fun x y wr => ∃ (a q : Nat) (h : Nat → Rec5), a ≤ n ∧ Hid (a = q * 20) ∧ x = .int .i64 a ∧ y = .int .i64 (a + 20 : Nat) ∧ Hid (Es wr g o n h) ∧ Hid (PermIn f h 0 n) ∧ Hid (Blk 20 h a) ∧ Hid (w.grownBy wr (some g))) (fun x y _ => n + 20 - (intOf y).toNat)
  case atStart => exact ⟨0, 0, f, Nat.zero_le _, by unfold Hid; rfl, rfl, rfl, HS.out, PermIn.refl _ _ _, blk_none _ _, World.grownBy.refl _ _⟩
  case round =>
    obtain ⟨a, q, h, han, HQ, rfl, rfl, HE, HP, HB, HG⟩ := hrel
    obtain ⟨b, hb⟩ : ∃ b : Nat, a + 20 = b := ⟨_, rfl⟩
    rw [hb]
    by_cases hlt : b ≤ n
    · have e1 : (b : Int) + 20 = ((b + 20 : Nat) : Int) := by omega
      have e2 : IntKind.i64.wrap ((b + 20 : Nat) : Int) = ((b + 20 : Nat) : Int) := IntWalk.i64_in _ (by omega)
      obtain ⟨b2, hb2⟩ : ∃ b2 : Nat, b + 20 = b2 := ⟨_, rfl⟩
      rw [hb2] at e1 e2
      go_wp2_with fail
      refine (CI.out a b h _ HE.out HG.out (by omega) hlt HP.out).mono ?_; rintro x w1 ⟨rfl, ⟨h', hE1, hP1, hS1⟩, hG1⟩
      have HE1 := Lib.hid hE1
      have HG1 := Lib.hid (HG.out.trans hG1)
      have HB1 : Hid (Blk 20 h' b) := blk_step (q := q) (by rw [← HQ.out]; exact HB.out) (by rw [← HQ.out]; exact hP1) (by rw [← HQ.out]; exact hS1) (by rw [← HQ.out]; omega) (by rw [← HQ.out]; omega)
      have HP1 : Hid (PermIn f h' 0 n) := HP.out.trans (hP1.mono (Nat.zero_le _) hlt)
      have HQ1 : Hid (b = (q + 1) * 20) := by unfold Hid; have := HQ.out; omega
      clear hE1 hG1 hP1 hS1
      go_wp2_with fail
      go_roundw
      case rel => exact ⟨b, q + 1, h', hlt, HQ1.out, rfl, by rw [hb2], HE1.out, HP1.out, HB1.out, HG1.out⟩
      case measure => simp [intOf]; omega
    · go_wp2_with fail
      refine (CI.out a n h _ HE.out HG.out han (Nat.le_refl _) HP.out).mono ?_; rintro x w1 ⟨rfl, ⟨h', hE1, hP1, hS1⟩, hG1⟩
      have HE1 := Lib.hid hE1
      have HG1 := Lib.hid (HG.out.trans hG1)
      have HB1 : Hid (Blk 20 h' n) := blk_step (q := q) (by rw [← HQ.out]; exact HB.out) (by rw [← HQ.out]; exact hP1) (by rw [← HQ.out]; exact hS1) (by rw [← HQ.out]; omega) (by rw [← HQ.out]; omega)
      have HP1 : Hid (PermIn f h' 0 n) := HP.out.trans (hP1.mono (Nat.zero_le _) (Nat.le_refl _))
      clear hE1 hG1 hP1 hS1 HE HP HB HG HQ
      go_wp2_with fail
      go_loopw [6] (fun x wr => ∃ (s : Nat) (h : Nat → Rec5), 0 < s ∧ s ≤ 2 * n + 20 ∧ x = .int .i64 s ∧ Hid (Es wr g o n h) ∧ Hid (PermIn f h 0 n) ∧ Hid (Blk s h n) ∧ Hid (w.grownBy wr (some g))) (fun x _ => n - (intOf x).toNat)
      case atStart => exact ⟨20, h', by omega, by omega, rfl, HE1.out, HP1.out, HB1.out, HG1.out⟩
      case round =>
        obtain ⟨s, h, hs0, hs1, rfl, HE, HP, HB, HG⟩ := hrel
        by_cases hsn : s < n
        · obtain ⟨s2, hs2⟩ : ∃ s2 : Nat, 2 * s = s2 := ⟨_, rfl⟩
          have e1 : 2 * (s : Int) = (s2 : Int) := by omega
          have e1' : (s : Int) * 2 = (s2 : Int) := by omega
          have e2 : IntKind.i64.wrap (s2 : Int) = (s2 : Int) := IntWalk.i64_in _ (by omega)
          go_wp2_with fail
          go_loopw [7, 8] (fun x y wr => ∃ (a q : Nat) (h : Nat → Rec5), a ≤ n ∧ Hid (a = q * s2) ∧ x = .int .i64 a ∧ y = .int .i64 (a + s2 : Nat) ∧ Hid (Es wr g o n h) ∧ Hid (PermIn f h 0 n) ∧ Hid (Blk s2 h a) ∧ Hid (Blks s h n a) ∧ Hid (w.grownBy wr (some g))) (fun x y _ => n + s2 - (intOf y).toNat)
          case atStart => exact ⟨0, 0, h, Nat.zero_le _, by unfold Hid; omega, rfl, by rw [Nat.zero_add], HE.out, HP.out, blk_none _ _, blks_of HB.out 0, HG.out⟩
          case round =>
            obtain ⟨a, q, h, han, HQ, rfl, rfl, HE, HP, HB, HR, HG⟩ := hrel
            obtain ⟨b, hb⟩ : ∃ b : Nat, a + s2 = b := ⟨_, rfl⟩
            obtain ⟨m, hm⟩ : ∃ m : Nat, a + s = m := ⟨_, rfl⟩
            rw [hb]
            have f1 : (a : Int) + (s : Int) = (m : Int) := by omega
            have f2 : IntKind.i64.wrap (m : Int) = (m : Int) := IntWalk.i64_in _ (by omega)
            have HTW := Lib.hid (blks_two (q := q) HR.out (by rw [HQ.out, hs2]))
            by_cases hlt : b ≤ n
            · have f3 : (b : Int) + (s2 : Int) = ((b + s2 : Nat) : Int) := by omega
              have f4 : IntKind.i64.wrap ((b + s2 : Nat) : Int) = ((b + s2 : Nat) : Int) := IntWalk.i64_in _ (by omega)
              obtain ⟨b2, hb2⟩ : ∃ b2 : Nat, b + s2 = b2 := ⟨_, rfl⟩
              rw [hb2] at f3 f4
              have HT1 : Hid (Srt Rec5.Lt h a m) := by have := HTW.out.1; rw [Nat.min_eq_left (by omega), hm] at this; exact this
              have HT2 : Hid (Srt Rec5.Lt h m b) := by have := HTW.out.2; rw [Nat.min_eq_left (by omega), hm, hs2, hb] at this; exact this
              go_wp2_with fail
              refine (CS.out a m b h _ HE.out HG.out (by omega) (by omega) hlt HP.out HT1.out HT2.out).mono ?_; rintro x w1 ⟨rfl, ⟨h', hE1, hP1, hS1⟩, hG1⟩
              have HE1 := Lib.hid hE1
              have HG1 := Lib.hid (HG.out.trans hG1)
              have HB1 : Hid (Blk s2 h' b) := blk_step (q := q) (by rw [← HQ.out]; exact HB.out) (by rw [← HQ.out]; exact hP1) (by rw [← HQ.out]; exact hS1) (by rw [← HQ.out]; omega) (by rw [← HQ.out]; omega)
              have HP1 : Hid (PermIn f h' 0 n) := HP.out.trans (hP1.mono (Nat.zero_le _) hlt)
              have HR1 : Hid (Blks s h' n b) := blks_step HR.out (by omega) hP1
              have HQ1 : Hid (b = (q + 1) * s2) := by unfold Hid; rw [Nat.add_mul, ← HQ.out]; omega
              clear hE1 hG1 hP1 hS1 HT1 HT2 HTW
              go_wp2_with fail
              go_roundw
              case rel => exact ⟨b, q + 1, h', hlt, HQ1.out, rfl, by rw [hb2], HE1.out, HP1.out, HB1.out, HR1.out, HG1.out⟩
              case measure => simp [intOf]; omega
            · by_cases hmn : m < n
              · have HT1 : Hid (Srt Rec5.Lt h a m) := by have := HTW.out.1; rw [Nat.min_eq_left (by omega), hm] at this; exact this
                have HT2 : Hid (Srt Rec5.Lt h m n) := by have := HTW.out.2; rw [Nat.min_eq_right (by omega), hm] at this; exact this
                go_wp2_with fail
                refine (CS.out a m n h _ HE.out HG.out (by omega) hmn (Nat.le_refl _) HP.out HT1.out HT2.out).mono ?_; rintro x w1 ⟨rfl, ⟨h', hE1, hP1, hS1⟩, hG1⟩
                have HE1 := Lib.hid hE1
                have HG1 := Lib.hid (HG.out.trans hG1)
                have HB1 : Hid (Blk s2 h' n) := blk_step (q := q) (by rw [← HQ.out]; exact HB.out) (by rw [← HQ.out]; exact hP1) (by rw [← HQ.out]; exact hS1) (by rw [← HQ.out]; omega) (by rw [← HQ.out]; omega)
                have HP1 : Hid (PermIn f h' 0 n) := HP.out.trans (hP1.mono (Nat.zero_le _) (Nat.le_refl _))
                clear hE1 hG1 hP1 hS1 HT1 HT2 HTW
                go_wp2_with fail
                go_roundw
                case rel => exact ⟨s2, h', by omega, by omega, rfl, HE1.out, HP1.out, HB1.out, HG1.out⟩
                case measure => simp [intOf]; omega
              · have HT1 : Hid (Srt Rec5.Lt h a n) := by have := HTW.out.1; rw [Nat.min_eq_right (by omega)] at this; exact this
                have HB1 : Hid (Blk s2 h n) := blk_step (q := q) (by rw [← HQ.out]; exact HB.out) (PermIn.refl _ _ _) (by rw [← HQ.out]; exact HT1.out) (by rw [← HQ.out]; omega) (by rw [← HQ.out]; omega)
                clear HT1 HTW
                go_wp2_with fail
                go_roundw
                case rel => exact ⟨s2, h, by omega, by omega, rfl, HE.out, HP.out, HB1.out, HG.out⟩
                case measure => simp [intOf]; omega
        · have HF := Lib.hid (blk_all HB.out (by omega))
          go_wp2_with fail
          go_end0
          exact ⟨rfl, ⟨h, HE.out, HP.out, HF.out⟩, HG.out⟩
theorem sort_ents (g o n cap ob : Nat) (f : Nat → Rec5) (w : World) (hS : Es w g o n f) (hO : OrdAt w ob) (hne : ob ≠ g) (hn : n ≤ 16777216) (hc : n ≤ cap) (ho : OrdOn Rec5.Lt f 0 n) :
    Calls Try.prog 43 #[.slice (some ⟨g, o, none⟩) n cap, .func (.func 44) #[] #[.pointer (some ⟨ob, 0, none⟩)]] w fun e w' => e = .returned (.tuple #[]) ∧ (∃ f', Es w' g o n f' ∧ PermIn f f' 0 n ∧ Srt Rec5.Lt f' 0 n) ∧ w.grownBy w' (some g) := by
  have CS := Lib.hid (stable_ents g o n cap ob f w hS hO hne hn hc ho)
  clear hS hO ho
  go_enter Try.func43, Try.ntmps43
  go_wp2_with fail
  refine CS.out.mono ?_; rintro x w1 ⟨rfl, hE, hG⟩
  have HE := Lib.hid hE
  have HG := Lib.hid hG
  clear hE hG
  go_wp2_with fail
  go_end0
  exact ⟨rfl, HE.out, HG.out⟩
end Go.Proofs.Ytonffapiamhdbaa

namespace Go.Proofs.Ytonffapiamhdbaa
open Go.RowKit
set_option linter.unusedVariables false
set_option linter.unusedSimpArgs false
set_option maxRecDepth 100000
set_option maxRecDepth 20000
/-- A row of the call's own, as entries that can be sorted. -/
theorem es_of_own {w : World} {B g n cap : Nat} {xs : List Value} {F : Nat → Prop} {l : List Ent} (h : w.ownsRow B 36 5 (.slice (some ⟨g, 0, none⟩) n cap) n xs) (hc : CellsE w F xs l) (hn : l.length = n) :
    ∃ f : Nat → Rec5, Es w g 0 n f ∧ entsOf f n = l ∧ ∀ i, i < n → IsT w F (f i).k (f i).n (f i).a (f i).m (f i).c (f i).t := by
  have hch : ∀ i, ∃ r : Rec5, i < n → xs[i * 5]? = some (.int .i64 r.x) ∧ xs[i * 5 + 1]? = some (.int .i64 r.y) ∧ xs[i * 5 + 2]? = some (.int .i64 r.k) ∧ xs[i * 5 + 3]? = some (.int .i64 r.n) ∧ xs[i * 5 + 4]? = some (.slice r.a r.m r.c) ∧ r.ent = Ent.at_ l i ∧ IsT w F r.k r.n r.a r.m r.c r.t := by
    intro i
    by_cases hi : i < n
    · obtain ⟨k, n', a', m', c', k0, k1, k2, k3, k4, k5⟩ := hc.at i (by omega)
      exact ⟨⟨(Ent.at_ l i).n, (Ent.at_ l i).d, k, n', a', m', c', (Ent.at_ l i).t⟩, fun _ => ⟨k0, k1, k2, k3, k4, rfl, k5⟩⟩
    · exact ⟨⟨0, 0, 0, 0, none, 0, 0, .node 0 0 []⟩, fun h => absurd h hi⟩
  obtain ⟨f, hf⟩ := Classical.axiomOfChoice hch
  refine ⟨f, ?_, ?_, fun i hi => (hf i hi).2.2.2.2.2.2⟩
  · have h' := h
    rcases h.2 with ⟨hv, h0⟩ | ⟨g', cap', cur, hv, hb, hg, hnc, hcm, hcs, htake⟩
    · cases hv
    · simp only [Value.slice.injEq, Option.some.injEq, Addr.mk.injEq, and_true, true_and] at hv
      obtain ⟨rfl, rfl⟩ := hv
      have hcell : ∀ j, j < n * 5 → cur[j]? = xs[j]? := fun j hj => (block_cell hg j).symm.trans (h'.cellAt j hj)
      refine ⟨cur, hg, fun i hi => ?_⟩
      obtain ⟨k0, k1, k2, k3, k4, _, _⟩ := hf i hi
      rw [Nat.zero_add]
      exact ⟨(hcell _ (by omega)).trans k0, (hcell _ (by omega)).trans k1, (hcell _ (by omega)).trans k2, (hcell _ (by omega)).trans k3, (hcell _ (by omega)).trans k4⟩
  · refine List.ext_getElem (by rw [entsOf_len, hn]) fun i h1 h2 => ?_
    have hi : i < n := by rw [entsOf_len] at h1; exact h1
    have e := (hf i hi).2.2.2.2.2.1
    simp only [Ent.at_, List.getD, List.getElem?_eq_getElem h2, Option.getD_some] at e
    simpa [entsOf] using e
/-- Entries in a block of their own, behind the sorting, read as the sorted ones. -/
theorem sorted_back {w w' : World} {F G : Nat → Prop} {g n cap : Nat} {f f' : Nat → Rec5} {l : List Ent} (hl : entsOf f n = l) (hfit : ∀ x ∈ l, fits .i64 x.n ∧ fits .i64 x.d) (hk : (l.map Ent.key).Nodup) (hT : ∀ i, i < n → IsT w F (f i).k (f i).n (f i).a (f i).m (f i).c (f i).t)
    (hF : ∀ b, F b → b ≠ g) (hG : ∀ b, F b → G b) (hGg : G g) (hg : w.grownBy w' (some g)) (hE : Es w' g 0 n f') (hp : PermIn f f' 0 n) (hs : Srt Rec5.Lt f' 0 n) (hc : n ≤ cap) : IsE w' G (some ⟨g, 0, none⟩) n cap (Ent.sortR [] l) := by
  have he := sorted_is hp hs (by rw [hl]; exact hk)
  rw [hl] at he
  have hin : ∀ x ∈ entsOf f' n, x ∈ l := fun x hx => by
    rw [he] at hx
    rcases Ent.mem_sortR.1 hx with h | h
    · cases h
    · exact h
  rw [← he]
  refine ⟨entsOf_len _ _, ⟨hc, fun h => by cases h⟩, fun x hx => hfit x (hin x hx), fun i hi => ?_⟩
  obtain ⟨j, _, hj, e⟩ := hp.mem (Nat.zero_le i) hi
  have ht := hT j hj
  rw [← e] at ht
  have hc5 := hE.at i hi
  refine ⟨g, 0, (f' i).k, (f' i).n, (f' i).a, (f' i).m, (f' i).c, rfl, hGg, hE.lt, ?_, ?_⟩
  · rw [entsOf_at _ _ _ hi]; exact hc5
  · rw [entsOf_at _ _ _ hi]; exact (ht.stay fun b hb hlt => hg.block b hlt (fun e => hF b hb (by injection e))).mono hG
end Go.Proofs.Ytonffapiamhdbaa

namespace Go.Proofs.Ytonffapiamhdbaa
open Go.RowKit
set_option linter.unusedVariables false
set_option linter.unusedSimpArgs false
set_option maxRecDepth 100000
def ents (l : List (Value × Value)) : List MapEntry := l.mapIdx fun i p => { key := p.1, val := p.2, born := i }
def mapObj (l : List (Value × Value)) : Obj := .map (ents l).toArray l.length
theorem ents_len (l : List (Value × Value)) : (ents l).length = l.length := by simp [ents]
theorem ents_get (l : List (Value × Value)) (i : Nat) : (ents l)[i]? = (l[i]?).map fun p => { key := p.1, val := p.2, born := i } := by
  simp [ents]
theorem ents_snoc (l : List (Value × Value)) (k v : Value) : ents (l ++ [(k, v)]) = ents l ++ [{ key := k, val := v, born := l.length }] := by
  simp [ents, List.mapIdx_append]
theorem ents_modify (l : List (Value × Value)) (j : Nat) (v : Value) : (ents l).modify j (fun e => { e with val := v }) = ents (l.modify j fun p => (p.1, v)) := by
  refine List.ext_getElem? fun i => ?_
  rw [List.getElem?_modify, ents_get, ents_get, List.getElem?_modify]
  cases l[i]? with
  | none => simp
  | some p => simp only [Option.map_some]; split <;> simp
/-- What a struct's type as a key has to say. -/
structure KeyOk (P : Program) (T : TypeId) (KV : Value → Prop) : Prop where
  wide : (match P.underlying T with | some (.array _ _) | some (.struct _) => true | _ => false) = true
  check : ∀ (e : Bool) (w : World) (k : Value), KV k → (Instr.checkKey e 10000 T k).run P w = .ok () w
  eq : ∀ (w : World) (x y : Value), KV x → KV y → ∃ b : Bool, (Op.equal T x y).run P w = .ok b w ∧ (b = true ↔ x = y)
  stays : ∀ (w : World) (k : Value), KV k → (Instr.keyThatStays k k).run P w = .ok k w
section
variable {P : Program} {T : TypeId} {KV : Value → Prop} (K : KeyOk P T KV)
include K
theorem KeyOk.asking (w : World) (k : Value) (hk : KV k) : ∀ (es : List MapEntry) (i : Nat), (∀ e ∈ es, KV e.key) →
    ((Instr.findAsking T k es i).run P w = .ok none w ∧ ∀ e ∈ es, e.key ≠ k) ∨ ∃ (j : Nat) (e : MapEntry), (Instr.findAsking T k es i).run P w = .ok (some (i + j, e.val)) w ∧ es[j]? = some e ∧ e.key = k
  | [], i, _ => .inl ⟨by simp [Instr.findAsking], fun _ h => by cases h⟩
  | e :: es, i, h => by
    obtain ⟨b, hb, hiff⟩ := K.eq w k e.key hk (h e (by simp))
    cases b with
    | true => exact .inr ⟨0, e, by simp [Instr.findAsking, hb, Result.andThen], by simp, (hiff.1 rfl).symm⟩
    | false =>
      have hne : e.key ≠ k := fun h2 => by have := hiff.2 h2.symm; cases this
      rcases KeyOk.asking w k hk es (i + 1) (fun x hx => h x (by simp [hx])) with ⟨h1, h2⟩ | ⟨j, e', h1, h2, h3⟩
      · refine .inl ⟨by simp [Instr.findAsking, hb, h1, Result.andThen], fun x hx => ?_⟩
        rcases List.mem_cons.1 hx with rfl | hx
        · exact hne
        · exact h2 x hx
      · exact .inr ⟨j + 1, e', by simp [Instr.findAsking, hb, h1, Result.andThen]; omega, by simpa using h2, h3⟩
theorem KeyOk.find_no (w : World) (k : Value) (hk : KV k) (l : List (Value × Value)) (hl : ∀ p ∈ l, KV p.1) (hn : ∀ p ∈ l, p.1 ≠ k) : (Instr.findKey T k (ents l)).run P w = .ok none w := by
  rw [run_findKey_eq _ K.wide]
  have hm : ∀ e ∈ ents l, ∃ p ∈ l, e.key = p.1 := fun e he => by
    obtain ⟨i, hi⟩ := List.getElem?_of_mem he
    rw [ents_get] at hi
    obtain ⟨p, hp, rfl⟩ := Option.map_eq_some_iff.1 hi
    exact ⟨p, List.mem_of_getElem? hp, rfl⟩
  rcases K.asking w k hk (ents l) 0 (fun e he => by obtain ⟨p, hp, h⟩ := hm e he; rw [h]; exact hl p hp) with ⟨h1, _⟩ | ⟨j, e, _, h2, h3⟩
  · exact h1
  · obtain ⟨p, hp, h⟩ := hm e (List.mem_of_getElem? h2)
    exact absurd (h.symm.trans h3) (hn p hp)
theorem KeyOk.find_yes (w : World) (k v : Value) (hk : KV k) (l : List (Value × Value)) (hl : ∀ p ∈ l, KV p.1) (hd : (l.map (·.1)).Nodup) (j : Nat) (hj : l[j]? = some (k, v)) : (Instr.findKey T k (ents l)).run P w = .ok (some (j, v)) w := by
  rw [run_findKey_eq _ K.wide]
  have hm : ∀ e ∈ ents l, ∃ p ∈ l, e.key = p.1 := fun e he => by
    obtain ⟨i, hi⟩ := List.getElem?_of_mem he
    rw [ents_get] at hi
    obtain ⟨p, hp, rfl⟩ := Option.map_eq_some_iff.1 hi
    exact ⟨p, List.mem_of_getElem? hp, rfl⟩
  rcases K.asking w k hk (ents l) 0 (fun e he => by obtain ⟨p, hp, h⟩ := hm e he; rw [h]; exact hl p hp) with ⟨_, h2⟩ | ⟨i, e, h1, h2, h3⟩
  · refine absurd rfl (h2 { key := k, val := v, born := j } (List.mem_of_getElem? (i := j) ?_))
    rw [ents_get, hj]; rfl
  · rw [ents_get] at h2
    obtain ⟨p, hp, rfl⟩ := Option.map_eq_some_iff.1 h2
    have hij : i = j := by
      have a1 : (l.map (·.1))[i]? = some k := by simp [hp]; exact h3
      have a2 : (l.map (·.1))[j]? = some k := by simp [hj]
      exact (List.getElem?_inj (by rw [List.length_map]; exact (List.getElem?_eq_some_iff.1 hp).1) hd).1 (a1.trans a2.symm)
    subst hij
    rw [hp] at hj
    cases hj
    rw [h1, Nat.zero_add]
variable {M E : TypeId} (hM : P.underlying M = some (.map T E)) {w : World} {b : Nat} {l : List (Value × Value)} (hb : w.heap[b]? = some (mapObj l)) (hl : ∀ p ∈ l, KV p.1) {k : Value} (hk : KV k)
include hM hb hl hk
theorem KeyOk.lookup_no {z : Value} (hz : ∀ u : World, (zeroValue E).run P u = .ok z u) (hn : ∀ p ∈ l, p.1 ≠ k) (ok : Bool) : (Instr.lookup M (.map (some b)) k ok).run P w = .ok (if ok then .tuple #[z, .bool false] else z) w := by
  unfold mapObj at hb
  simp [Instr.lookup, run_underlying hM, MapKept.run_getObj_map hb, K.check _ w k hk, K.find_no w k hk l hl hn, hz, Result.andThen]
theorem KeyOk.lookup_yes {v : Value} {j : Nat} (hd : (l.map (·.1)).Nodup) (hj : l[j]? = some (k, v)) (ok : Bool) : (Instr.lookup M (.map (some b)) k ok).run P w = .ok (if ok then .tuple #[v, .bool true] else v) w := by
  unfold mapObj at hb
  simp [Instr.lookup, run_underlying hM, MapKept.run_getObj_map hb, K.check _ w k hk, K.find_yes w k v hk l hl hd j hj, Result.andThen]
theorem KeyOk.entry_no {z : Value} (hz : ∀ u : World, (zeroValue E).run P u = .ok z u) (hn : ∀ p ∈ l, p.1 ≠ k) : (Instr.mapEntry M (.map (some b)) k).run P w = .ok (.tuple #[z, goInt l.length]) (w.putObj b (mapObj (l ++ [(k, z)]))) := by
  unfold mapObj at hb
  simp [Instr.mapEntry, run_underlying hM, MapKept.run_getObj_map hb, K.check false w k hk, K.find_no w k hk l hl hn, hz, MapKept.run_setObj_map _ hb, Result.andThen, World.putObj, mapObj, ents_snoc]
theorem KeyOk.entry_yes {v : Value} {j : Nat} (hd : (l.map (·.1)).Nodup) (hj : l[j]? = some (k, v)) : (Instr.mapEntry M (.map (some b)) k).run P w = .ok (.tuple #[v, goInt j]) (w.putObj b (mapObj l)) := by
  unfold mapObj at hb
  have he : (ents l)[j]? = some { key := k, val := v, born := j } := by rw [ents_get, hj]; rfl
  have hs : (ents l).modify j (fun e => { e with key := k }) = ents l := by
    refine List.ext_getElem? fun i => ?_
    rw [List.getElem?_modify]
    split
    · rename_i hij; subst hij; rw [he]; rfl
    · simp
  simp [Instr.mapEntry, run_underlying hM, MapKept.run_getObj_map hb, K.check false w k hk, K.find_yes w k v hk l hl hd j hj, he, K.stays w k hk, hs, MapKept.run_setObj_map _ hb, Result.andThen, World.putObj, mapObj]
theorem KeyOk.update_no {v : Value} (hn : ∀ p ∈ l, p.1 ≠ k) : (Instr.mapUpdate M (.map (some b)) k v).run P w = .ok () (w.putObj b (mapObj (l ++ [(k, v)]))) := by
  unfold mapObj at hb
  simp [Instr.mapUpdate, run_underlying hM, MapKept.run_getObj_map hb, K.check false w k hk, K.find_no w k hk l hl hn, MapKept.run_setObj_map _ hb, Result.andThen, World.putObj, mapObj, ents_snoc]
end
theorem run_entryStore {P : Program} {M : TypeId} {w : World} {b : Nat} {l : List (Value × Value)} (hb : w.heap[b]? = some (mapObj l)) (j : Nat) (hj : j < l.length) (v : Value) : (Instr.entryStore M (.map (some b)) (goInt j) v).run P w = .ok () (w.putObj b (mapObj (l.modify j fun p => (p.1, v)))) := by
  unfold mapObj at hb
  have hidx : (ents l).toArray.findIdx? (fun e => ((e.born : Nat) : Int) == ((j : Nat) : Int)) = some j := by
    have h1 : (ents l).findIdx? (fun e => ((e.born : Nat) : Int) == ((j : Nat) : Int)) = some j := by
      rw [List.findIdx?_eq_some_iff_getElem]
      refine ⟨by rw [ents_len]; exact hj, ?_, fun i hij => ?_⟩
      · simp [ents]
      · simp [ents]; omega
    simpa using h1
  have hm : (ents l).modify j (fun e => { e with val := v }) = ents (l.modify j fun p => (p.1, v)) := ents_modify l j v
  simp [Instr.entryStore, MapKept.run_getObj_map hb, asInt, asIntOf, goInt, hidx, hm, MapKept.run_setObj_map _ hb, Result.andThen, World.putObj, mapObj]
theorem put_same (w : World) (b : Nat) (o : Obj) (h : w.heap[b]? = some o) : w.putObj b o = w := by
  have h2 : w.heap.setIfInBounds b o = w.heap := by
    apply Array.ext_getElem?
    intro i
    by_cases hi : b = i
    · subst hi; rw [Array.getElem?_setIfInBounds_self_of_lt (Array.getElem?_eq_some_iff.1 h).1, h]
    · rw [Array.getElem?_setIfInBounds_ne hi]
  cases w
  simp only [World.putObj] at *
  rw [h2]
theorem put_below {B : Nat} {w w' : World} (h : Below B w w') (b : Nat) (hb : B ≤ b) (o : Obj) : Below B w (w'.putObj b o) :=
  ⟨h.os, h.tape, h.output, by simpa using h.size, fun j hj => (World.putObj_heap_other (by omega)).trans (h.block j hj)⟩
/-- A name: four numbers. -/
abbrev Nm := Int × Int × Int × Int
def nv (x : Nm) : Value := .agg #[.int .i64 x.1, .int .i64 x.2.1, .int .i64 x.2.2.1, .int .i64 x.2.2.2]
theorem int_eqIn (a b : Int) (w : World) : (Op.equalIn 9999 3 (.int .i64 a) (.int .i64 b)).run Try.prog w = .ok (a == b) w := by
  have hI := Try.underlying3
  unfold Op.equalIn
  simp [run_underlying hI]
/-- It is a name's value. -/
def isNv (v : Value) : Prop := ∃ x : Nm, v = nv x
theorem nv_inj {x y : Nm} (h : nv x = nv y) : x = y := by
  obtain ⟨a, b, c, d⟩ := x
  obtain ⟨a', b', c', d'⟩ := y
  simp only [nv, Value.agg.injEq, Array.mk.injEq, List.cons.injEq, Value.int.injEq, true_and, and_true] at h
  obtain ⟨rfl, rfl, rfl, rfl⟩ := h
  rfl
end Go.Proofs.Ytonffapiamhdbaa

namespace Go.Proofs.Ytonffapiamhdbaa
open Go.RowKit
set_option linter.unusedVariables false
set_option linter.unusedSimpArgs false
set_option maxRecDepth 100000
/-- A key: two numbers. -/
def kv (n d : Int) : Value := .agg #[.int .i64 n, .int .i64 d]
theorem key_int (a b : Int) (w : World) : (Op.equalIn 9999 3 (.int .i64 a) (.int .i64 b)).run Try.prog w = .ok (a == b) w := by
  have hI := Try.underlying3
  unfold Op.equalIn
  simp [run_underlying hI]
theorem key_eq (x1 x2 y1 y2 : Int) (w : World) : (Op.equal 24 (kv x1 x2) (kv y1 y2)).run Try.prog w = .ok (x1 == y1 && x2 == y2) w := by
  have hT := Try.underlying24
  have hI := Try.underlying3
  have p0 : ∀ (a b : Int) (w : World), (part 3 #[.int .i64 a, .int .i64 b] 0).run Try.prog w = .ok (.int .i64 a) w := fun _ _ _ => by kernel_rfl
  have p1 : ∀ (a b : Int) (w : World), (part 3 #[.int .i64 a, .int .i64 b] 1).run Try.prog w = .ok (.int .i64 b) w := fun _ _ _ => by kernel_rfl
  unfold Op.equal Op.maxDepth kv
  unfold Op.equalIn
  simp [run_underlying hT, p0, p1, key_int, Result.andThen]
  by_cases h0 : x1 = y1 <;> by_cases h1 : x2 = y2 <;> simp [h0, h1, p0, p1, key_int, Result.andThen]
theorem key_check (x y : Int) (e : Bool) (w : World) : (Instr.checkKey e 10000 24 (kv x y)).run Try.prog w = .ok () w := by kernel_rfl
/-- It is a key's value. -/
def isKv (v : Value) : Prop := ∃ n d : Int, v = kv n d
theorem kv_inj {a b c d : Int} (h : kv a b = kv c d) : a = c ∧ b = d := by
  simp only [kv, Value.agg.injEq, Array.mk.injEq, List.cons.injEq, Value.int.injEq, true_and, and_true] at h
  exact h
theorem key_keys : KeyOk Try.prog 24 isKv where
  wide := by kernel_rfl
  check := fun e w k h => by obtain ⟨x, y, rfl⟩ := h; exact key_check x y e w
  eq := fun w x y hx hy => by
    obtain ⟨a, b, rfl⟩ := hx
    obtain ⟨c, d, rfl⟩ := hy
    refine ⟨_, key_eq a b c d w, ?_⟩
    rw [Bool.and_eq_true, beq_iff_eq, beq_iff_eq]
    exact ⟨fun h => by rw [h.1, h.2], kv_inj⟩
  stays := fun w k h => by
    obtain ⟨x, y, rfl⟩ := h
    simp [Instr.keyThatStays, kv, Instr.sameBits]
end Go.Proofs.Ytonffapiamhdbaa

