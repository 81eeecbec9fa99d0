/- Results that are the call's own; append of noughts to a row of the call's own. No function of the program is named. -/
import Derived.Test.YtpehbgcbifgokaaRowing
import Derived.Lib.AppendZeros
import Derived.Lib.AppendZerosOnto
namespace Go.Proofs.Ytpehbgcbifgokaa
open Go.RowKit
set_option linter.unusedVariables false
set_option linter.unusedSimpArgs false

/-- A result: a new row, of the call's own. -/
def GivesOwn (k : IntKind) (t : TypeId) (xs : List Int) (w : World) (e : Ending) (w' : World) : Prop :=
  ∃ a cap, e = .returned (.slice a xs.length cap) ∧ w'.ownsRow w.heap.size t 1 (.slice a xs.length cap) xs.length (xs.map (Value.int k)) ∧ (∀ x ∈ xs, fits k x) ∧ xs.length ≤ 16777216 ∧ Below w.heap.size w w'
theorem GivesOwn.row {k : IntKind} {t : TypeId} {xs : List Int} {w w' : World} {e : Ending} (h : GivesOwn k t xs w e w') : GivesRow k xs w e w' := by
  obtain ⟨a, cap, rfl, ho, hf, hl, hb⟩ := h
  exact gives_of_own ho hb rfl rfl hf hl

theorem Own.givesO {k : IntKind} {e : TypeId} {w wr : World} {v : Value} {n : Nat} {f : Nat → Int} (h : Own k e w wr v n f) {xs : List Int} (hn : xs.length = n) (hw : ∀ x ∈ xs, fits k x) (hf : ∀ i, i < n → nth xs i = f i) (hl : n ≤ 16777216) :
    GivesOwn k e xs w (.returned v) wr := by
  obtain ⟨a, cap, rfl, hnil⟩ := own_slice h.own
  have e1 : xs.map (Value.int k) = (List.range n).map fun j => Value.int k (f j) := by
    apply List.ext_getElem (by simp [hn])
    intro i h1 h2
    have h3 : i < n := by simpa [hn] using h1
    have := hf i h3
    simp only [List.getElem_map, List.getElem_range]
    rw [← this]
    simp [nth, show i < xs.length by omega]
  refine ⟨a, cap, by rw [hn], ?_, hw, by omega, h.below⟩
  rw [hn, e1]
  exact h.own
theorem OwnAt.givesO {k : IntKind} {e : TypeId} {w wr : World} {g n : Nat} {f : Nat → Int} (h : OwnAt k e w wr g n f) {xs : List Int} (hn : xs.length = n) (hw : ∀ x ∈ xs, fits k x) (hf : ∀ i, i < n → nth xs i = f i) (hl : n ≤ 16777216) :
    GivesOwn k e xs w (.returned (.slice (some ⟨g, 0, none⟩) n n)) wr :=
  Own.givesO (e := e) ⟨h.own, h.below⟩ hn hw hf hl

theorem zeros_list (x : Value) (n : Nat) : (Builtin.zeroCells #[x] n).toList = List.replicate n x := by
  have hs := size_zeroCells #[x] n
  apply List.ext_getElem
  · simp [hs]
  · intro i h1 h2
    simp [Builtin.zeroCells, Nat.mod_one]

theorem run_append_zeros_own {P : Program} (w : World) (base : Nat) (t tn ty e : TypeId) (i : TypeInfo) (k kq kn : IntKind) (ht : P.underlying t = some (.slice e)) (htn : P.underlying tn = some (.int kn)) (hi : P.info? e = some i) (hz : i.zero = some (.int k 0)) (hz1 : i.size = 1) (hz2 : i.bytes = 8)
    (v : Value) (n : Nat) (xs : List Value) (hown : w.ownsRow base e 1 v n xs) (m : Nat) (hlen : n + m ≤ 100000000) (hbase : base ≤ w.heap.size) :
    ∃ v' w', (Builtin.append_ #[t, tn] ty #[v, .int kq m]).run P w = .ok v' w' ∧ w'.ownsRow base e 1 v' (n + m) (xs ++ List.replicate m (.int k 0)) ∧ w.grownBy w' v.ownBlock := by
  have hxl : xs.length = n := by rw [hown.1, Nat.mul_one]
  have hw : IntKind.i64.wrap (m : Int) = m := IntWalk.i64_in _ (by omega)
  have hw0 : IntKind.i64.wrap 0 = 0 := rfl
  have hneg : ¬ ((m : Int) < 0) := by omega
  have h48 : ¬ (281474976710656 < (m : Int) * 8) := by omega
  have hlen2 : (xs ++ List.replicate m (Value.int k 0)).length = (n + m) * 1 := by simp [hxl]
  have hZ : (Value.int k 0).cells = #[Value.int k 0] := rfl
  have grown : ∀ (old : Nat) (row : Option Nat), old < n + m →
      (w.drew.alloc (.cells (xs.toArray ++ Builtin.zeroCells #[Value.int k 0] m ++ Builtin.zeroCells #[Value.int k 0] (grownCap w (n + m) old e - (n + m))) e)).ownsRow base e 1
        (.slice (some ⟨w.heap.size, 0, none⟩) (n + m) (grownCap w (n + m) old e)) (n + m) (xs ++ List.replicate m (.int k 0)) ∧
      w.grownBy (w.drew.alloc (.cells (xs.toArray ++ Builtin.zeroCells #[Value.int k 0] m ++ Builtin.zeroCells #[Value.int k 0] (grownCap w (n + m) old e - (n + m))) e)) row := by
    intro old row ho
    have hge := grownCap_ge w (n + m) old e
    have hcm : grownCap w (n + m) old e ≤ maxLen := grownCap_le_maxLen w (n + m) old e (by unfold maxLen; omega)
    refine ⟨⟨hlen2, .inr ⟨w.heap.size, _, _, rfl, hbase, heap_alloc_new w.drew _, hge, hcm, ?_, ?_⟩⟩, ⟨rfl, rfl, rfl, by simp, fun j hj _ => heap_alloc_old w.drew _ hj⟩⟩
    · simp only [Array.size_append, List.size_toArray, size_zeroCells, hxl]
      simp
      omega
    · simp only [Array.toList_append, zeros_list]
      rw [← hlen2]
      exact List.take_left
  rcases hown.2 with ⟨rfl, rfl⟩ | ⟨g, cap, cur, rfl, hbg, hg, hnc, hcm, hcs, htake⟩
  · have hx : xs = [] := List.eq_nil_of_length_eq_zero hxl
    subst hx
    by_cases hm : m = 0
    · subst hm
      refine ⟨.slice none 0 0, w, ?_, World.ownsRow_nil w base e 1, World.grownBy.refl _ _⟩
      simp [Builtin.append_, run_underlying ht, run_underlying htn, sizeOf, typeInfo, hi, asInt, asIntOf, hw0]
    · have hr := Lib.run_append_nil_zeros (P := P) w t tn ty e i (.int k 0) kq kn ht htn hi hz m (by omega) (by omega) (by omega) (by rw [hz2]; omega)
      have hgr := grown 0 (Value.ownBlock (.slice none 0 0)) (by omega)
      rw [hZ] at hr
      simp only [Nat.zero_add, List.nil_append, Array.empty_append] at hgr ⊢
      exact ⟨_, _, hr, hgr.1, hgr.2⟩
  · by_cases hroom : n + m ≤ cap
    · have hcs' : cur.size = cap := by rw [hcs, Nat.mul_one]
      have hst := run_storeCells_at P g n e (List.replicate m (.int k 0)) 0 cur w hg (by simp; omega) (by intro u hu; rw [List.eq_of_mem_replicate hu]; rfl)
      refine ⟨_, w.setRow g (cur.toList.take n ++ List.replicate m (Value.int k 0) ++ cur.toList.drop (n + m)).toArray, ?_, ⟨hlen2, .inr ⟨g, cap, _, rfl, hbg, setRow_heap w g cur _ e _ hg, hroom, hcm, ?_, ?_⟩⟩, ⟨rfl, rfl, rfl, by simp, fun j _ hj => setRow_other w g j _ (fun e => hj (by simp [Value.ownBlock, e]))⟩⟩
      · by_cases hm : m = 0
        · subst hm
          have hself : w.setRow g (cur.toList.take n ++ List.replicate 0 (Value.int k 0) ++ cur.toList.drop (n + 0)).toArray = w := by
            simp only [List.replicate_zero, List.append_nil, Nat.add_zero, List.take_append_drop, Array.toArray_toList]
            exact setRow_self w g cur e (0, 0) hg
          rw [hself]
          simp [Builtin.append_, run_underlying ht, run_underlying htn, sizeOf, typeInfo, hi, asInt, asIntOf, hnc, hw0, storeCells]
        · have hns : ¬ (m * i.size = 0) := by rw [hz1]; omega
          simp only [Nat.add_zero, List.length_replicate] at hst
          simp [Builtin.append_, run_underlying ht, run_underlying htn, sizeOf, typeInfo, zeroValue, hi, hz, hz1, hz2, asInt, asIntOf, hw, hneg, h48, hroom, hm, zeros_list, Value.cells, Addr.add_lit, hst]
      · simp only [List.size_toArray, List.length_append, List.length_take, List.length_drop, Array.length_toList, List.length_replicate]
        omega
      · rw [Nat.mul_one] at htake
        rw [htake, ← hlen2]
        exact List.take_left
    · have holds : ∀ j u, xs[j]? = some u → w.cell? ((⟨g, 0, none⟩ : Addr).add j) = some u := hown.cells (g := g) rfl
      have hfo := run_firstCells_some (P := P) w.drew i.size n ⟨g, 0, none⟩ n cap xs (by rw [hz1, hxl, Nat.mul_one]) (by simpa using holds)
      by_cases hm : m = 0
      · omega
      · have hfit : Builtin.nextslicecap (n + m) cap * i.bytes ≤ 281474976710656 := growslice_fits (by omega) (by rw [hz2]; omega)
        have hr := Lib.run_append_grow_zeros (P := P) w t tn ty e i (.int k 0) kq kn ht htn hi hz (some ⟨g, 0, none⟩) n cap xs hfo m (by omega) (by omega) (by omega) (by omega) (by rw [hz2]; omega) hfit
        have hgr := grown cap (Value.ownBlock (.slice (some ⟨g, 0, none⟩) n cap)) (by omega)
        rw [hZ] at hr
        exact ⟨_, _, hr, hgr.1, hgr.2⟩

/-- append(own, make([]T, m)...) in a walk. -/
theorem wpList_append_zeros {P : Program} (w : World) {ops : Array Oper} {rest : List Oper} {o : Oper} {a : Act} {Q : Exit → Act → World → Prop} (hgd : o.guard = none) (s x : Operand) (t tn : TypeId)
    (ho : o.op = .call { callee := .builtin .append, args := #[s, x], argTypes := #[t, tn] }) (base : Nat) (e : TypeId) (i : TypeInfo) (k kq kn : IntKind) (ht : P.underlying t = some (.slice e)) (htn : P.underlying tn = some (.int kn)) (hi : P.info? e = some i) (hz : i.zero = some (.int k 0)) (hz1 : i.size = 1) (hz2 : i.bytes = 8)
    (v : Value) (n : Nat) (xs : List Value) (hs : a.eval s = v) (hown : w.ownsRow base e 1 v n xs) (m : Nat) (hx : a.eval x = .int kq m) (hlen : n + m ≤ 100000000) (hbase : base ≤ w.heap.size)
    (h : ∀ v' w', w'.ownsRow base e 1 v' (n + m) (xs ++ List.replicate m (.int k 0)) → w.grownBy w' v.ownBlock → wpList P ops Q rest (a.put o.dst v') w') : wpList P ops Q (o :: rest) a w := by
  obtain ⟨v', w', hr, h1, h2⟩ := run_append_zeros_own (P := P) w base t tn o.type e i k kq kn ht htn hi hz hz1 hz2 v n xs hown m hlen hbase
  exact Lib.wpList_append_run w hgd s x t tn ho v (.int kq m) hs hx v' w' hr (h v' w' h1 h2)
end Go.Proofs.Ytpehbgcbifgokaa
