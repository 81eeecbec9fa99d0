/- Words on memory: maps that are filled in order, keyed by structs of integers. No function of the program is named. -/
import Derived.Test.YtncikklhchimdaaRowing
import Derived.WideKeyRuns
import Derived.MapKept
import Derived.RangeFuncRecord
namespace Go.Proofs.Ytncikklhchimdaa
open Go.RowKit
set_option linter.unusedVariables false
set_option linter.unusedSimpArgs false
set_option maxRecDepth 100000

/-! ### A map's block: keys and elements in the order in which they came; none was taken out. -/
def ents (l : List (Value × Value)) : List MapEntry := l.mapIdx fun i p => { key := p.1, val := p.2, born := i }
def mapObj (l : List (Value × Value)) : Obj := .map (ents l).toArray l.length
theorem ents_len (l : List (Value × Value)) : (ents l).length = l.length := by simp [ents]
theorem ents_get (l : List (Value × Value)) (i : Nat) : (ents l)[i]? = (l[i]?).map fun p => { key := p.1, val := p.2, born := i } := by
  simp [ents]
theorem ents_snoc (l : List (Value × Value)) (k v : Value) : ents (l ++ [(k, v)]) = ents l ++ [{ key := k, val := v, born := l.length }] := by
  simp [ents, List.mapIdx_append]
theorem ents_modify (l : List (Value × Value)) (j : Nat) (v : Value) : (ents l).modify j (fun e => { e with val := v }) = ents (l.modify j fun p => (p.1, v)) := by
  refine List.ext_getElem? fun i => ?_
  rw [List.getElem?_modify, ents_get, ents_get, List.getElem?_modify]
  cases l[i]? with
  | none => simp
  | some p => simp only [Option.map_some]; split <;> simp

/-- What a struct's type as a key has to say. -/
structure KeyOk (P : Program) (T : TypeId) (KV : Value → Prop) : Prop where
  wide : (match P.underlying T with | some (.array _ _) | some (.struct _) => true | _ => false) = true
  check : ∀ (e : Bool) (w : World) (k : Value), KV k → (Instr.checkKey e 10000 T k).run P w = .ok () w
  eq : ∀ (w : World) (x y : Value), KV x → KV y → ∃ b : Bool, (Op.equal T x y).run P w = .ok b w ∧ (b = true ↔ x = y)
  stays : ∀ (w : World) (k : Value), KV k → (Instr.keyThatStays k k).run P w = .ok k w

section
variable {P : Program} {T : TypeId} {KV : Value → Prop} (K : KeyOk P T KV)
include K
theorem KeyOk.asking (w : World) (k : Value) (hk : KV k) : ∀ (es : List MapEntry) (i : Nat), (∀ e ∈ es, KV e.key) →
    ((Instr.findAsking T k es i).run P w = .ok none w ∧ ∀ e ∈ es, e.key ≠ k) ∨ ∃ (j : Nat) (e : MapEntry), (Instr.findAsking T k es i).run P w = .ok (some (i + j, e.val)) w ∧ es[j]? = some e ∧ e.key = k
  | [], i, _ => .inl ⟨by simp [Instr.findAsking], fun _ h => by cases h⟩
  | e :: es, i, h => by
    obtain ⟨b, hb, hiff⟩ := K.eq w k e.key hk (h e (by simp))
    cases b with
    | true => exact .inr ⟨0, e, by simp [Instr.findAsking, hb, Result.andThen], by simp, (hiff.1 rfl).symm⟩
    | false =>
      have hne : e.key ≠ k := fun h2 => by have := hiff.2 h2.symm; cases this
      rcases KeyOk.asking w k hk es (i + 1) (fun x hx => h x (by simp [hx])) with ⟨h1, h2⟩ | ⟨j, e', h1, h2, h3⟩
      · refine .inl ⟨by simp [Instr.findAsking, hb, h1, Result.andThen], fun x hx => ?_⟩
        rcases List.mem_cons.1 hx with rfl | hx
        · exact hne
        · exact h2 x hx
      · exact .inr ⟨j + 1, e', by simp [Instr.findAsking, hb, h1, Result.andThen]; omega, by simpa using h2, h3⟩
theorem KeyOk.find_no (w : World) (k : Value) (hk : KV k) (l : List (Value × Value)) (hl : ∀ p ∈ l, KV p.1) (hn : ∀ p ∈ l, p.1 ≠ k) : (Instr.findKey T k (ents l)).run P w = .ok none w := by
  rw [run_findKey_eq _ K.wide]
  have hm : ∀ e ∈ ents l, ∃ p ∈ l, e.key = p.1 := fun e he => by
    obtain ⟨i, hi⟩ := List.getElem?_of_mem he
    rw [ents_get] at hi
    obtain ⟨p, hp, rfl⟩ := Option.map_eq_some_iff.1 hi
    exact ⟨p, List.mem_of_getElem? hp, rfl⟩
  rcases K.asking w k hk (ents l) 0 (fun e he => by obtain ⟨p, hp, h⟩ := hm e he; rw [h]; exact hl p hp) with ⟨h1, _⟩ | ⟨j, e, _, h2, h3⟩
  · exact h1
  · obtain ⟨p, hp, h⟩ := hm e (List.mem_of_getElem? h2)
    exact absurd (h.symm.trans h3) (hn p hp)
theorem KeyOk.find_yes (w : World) (k v : Value) (hk : KV k) (l : List (Value × Value)) (hl : ∀ p ∈ l, KV p.1) (hd : (l.map (·.1)).Nodup) (j : Nat) (hj : l[j]? = some (k, v)) : (Instr.findKey T k (ents l)).run P w = .ok (some (j, v)) w := by
  rw [run_findKey_eq _ K.wide]
  have hm : ∀ e ∈ ents l, ∃ p ∈ l, e.key = p.1 := fun e he => by
    obtain ⟨i, hi⟩ := List.getElem?_of_mem he
    rw [ents_get] at hi
    obtain ⟨p, hp, rfl⟩ := Option.map_eq_some_iff.1 hi
    exact ⟨p, List.mem_of_getElem? hp, rfl⟩
  rcases K.asking w k hk (ents l) 0 (fun e he => by obtain ⟨p, hp, h⟩ := hm e he; rw [h]; exact hl p hp) with ⟨_, h2⟩ | ⟨i, e, h1, h2, h3⟩
  · refine absurd rfl (h2 { key := k, val := v, born := j } (List.mem_of_getElem? (i := j) ?_))
    rw [ents_get, hj]; rfl
  · rw [ents_get] at h2
    obtain ⟨p, hp, rfl⟩ := Option.map_eq_some_iff.1 h2
    have hij : i = j := by
      have a1 : (l.map (·.1))[i]? = some k := by simp [hp]; exact h3
      have a2 : (l.map (·.1))[j]? = some k := by simp [hj]
      exact (List.getElem?_inj (by rw [List.length_map]; exact (List.getElem?_eq_some_iff.1 hp).1) hd).1 (a1.trans a2.symm)
    subst hij
    rw [hp] at hj
    cases hj
    rw [h1, Nat.zero_add]

variable {M E : TypeId} (hM : P.underlying M = some (.map T E)) {w : World} {b : Nat} {l : List (Value × Value)} (hb : w.heap[b]? = some (mapObj l)) (hl : ∀ p ∈ l, KV p.1) {k : Value} (hk : KV k)
include hM hb hl hk
theorem KeyOk.lookup_no {z : Value} (hz : ∀ u : World, (zeroValue E).run P u = .ok z u) (hn : ∀ p ∈ l, p.1 ≠ k) (ok : Bool) : (Instr.lookup M (.map (some b)) k ok).run P w = .ok (if ok then .tuple #[z, .bool false] else z) w := by
  unfold mapObj at hb
  simp [Instr.lookup, run_underlying hM, MapKept.run_getObj_map hb, K.check _ w k hk, K.find_no w k hk l hl hn, hz, Result.andThen]
theorem KeyOk.lookup_yes {v : Value} {j : Nat} (hd : (l.map (·.1)).Nodup) (hj : l[j]? = some (k, v)) (ok : Bool) : (Instr.lookup M (.map (some b)) k ok).run P w = .ok (if ok then .tuple #[v, .bool true] else v) w := by
  unfold mapObj at hb
  simp [Instr.lookup, run_underlying hM, MapKept.run_getObj_map hb, K.check _ w k hk, K.find_yes w k v hk l hl hd j hj, Result.andThen]
theorem KeyOk.entry_no {z : Value} (hz : ∀ u : World, (zeroValue E).run P u = .ok z u) (hn : ∀ p ∈ l, p.1 ≠ k) : (Instr.mapEntry M (.map (some b)) k).run P w = .ok (.tuple #[z, goInt l.length]) (w.putObj b (mapObj (l ++ [(k, z)]))) := by
  unfold mapObj at hb
  simp [Instr.mapEntry, run_underlying hM, MapKept.run_getObj_map hb, K.check false w k hk, K.find_no w k hk l hl hn, hz, MapKept.run_setObj_map _ hb, Result.andThen, World.putObj, mapObj, ents_snoc]
theorem KeyOk.entry_yes {v : Value} {j : Nat} (hd : (l.map (·.1)).Nodup) (hj : l[j]? = some (k, v)) : (Instr.mapEntry M (.map (some b)) k).run P w = .ok (.tuple #[v, goInt j]) (w.putObj b (mapObj l)) := by
  unfold mapObj at hb
  have he : (ents l)[j]? = some { key := k, val := v, born := j } := by rw [ents_get, hj]; rfl
  have hs : (ents l).modify j (fun e => { e with key := k }) = ents l := by
    refine List.ext_getElem? fun i => ?_
    rw [List.getElem?_modify]
    split
    · rename_i hij; subst hij; rw [he]; rfl
    · simp
  simp [Instr.mapEntry, run_underlying hM, MapKept.run_getObj_map hb, K.check false w k hk, K.find_yes w k v hk l hl hd j hj, he, K.stays w k hk, hs, MapKept.run_setObj_map _ hb, Result.andThen, World.putObj, mapObj]
theorem KeyOk.update_no {v : Value} (hn : ∀ p ∈ l, p.1 ≠ k) : (Instr.mapUpdate M (.map (some b)) k v).run P w = .ok () (w.putObj b (mapObj (l ++ [(k, v)]))) := by
  unfold mapObj at hb
  simp [Instr.mapUpdate, run_underlying hM, MapKept.run_getObj_map hb, K.check false w k hk, K.find_no w k hk l hl hn, MapKept.run_setObj_map _ hb, Result.andThen, World.putObj, mapObj, ents_snoc]
end
theorem run_entryStore {P : Program} {M : TypeId} {w : World} {b : Nat} {l : List (Value × Value)} (hb : w.heap[b]? = some (mapObj l)) (j : Nat) (hj : j < l.length) (v : Value) : (Instr.entryStore M (.map (some b)) (goInt j) v).run P w = .ok () (w.putObj b (mapObj (l.modify j fun p => (p.1, v)))) := by
  unfold mapObj at hb
  have hidx : (ents l).toArray.findIdx? (fun e => ((e.born : Nat) : Int) == ((j : Nat) : Int)) = some j := by
    have h1 : (ents l).findIdx? (fun e => ((e.born : Nat) : Int) == ((j : Nat) : Int)) = some j := by
      rw [List.findIdx?_eq_some_iff_getElem]
      refine ⟨by rw [ents_len]; exact hj, ?_, fun i hij => ?_⟩
      · simp [ents]
      · simp [ents]; omega
    simpa using h1
  have hm : (ents l).modify j (fun e => { e with val := v }) = ents (l.modify j fun p => (p.1, v)) := ents_modify l j v
  simp [Instr.entryStore, MapKept.run_getObj_map hb, asInt, asIntOf, goInt, hidx, hm, MapKept.run_setObj_map _ hb, Result.andThen, World.putObj, mapObj]
theorem put_same (w : World) (b : Nat) (o : Obj) (h : w.heap[b]? = some o) : w.putObj b o = w := by
  have h2 : w.heap.setIfInBounds b o = w.heap := by
    apply Array.ext_getElem?
    intro i
    by_cases hi : b = i
    · subst hi; rw [Array.getElem?_setIfInBounds_self_of_lt (Array.getElem?_eq_some_iff.1 h).1, h]
    · rw [Array.getElem?_setIfInBounds_ne hi]
  cases w
  simp only [World.putObj] at *
  rw [h2]
theorem put_below {B : Nat} {w w' : World} (h : Below B w w') (b : Nat) (hb : B ≤ b) (o : Obj) : Below B w (w'.putObj b o) :=
  ⟨h.os, h.tape, h.output, by simpa using h.size, fun j hj => (World.putObj_heap_other (by omega)).trans (h.block j hj)⟩

/-- A name: four numbers. -/
abbrev Nm := Int × Int × Int × Int
def nv (x : Nm) : Value := .agg #[.int .i64 x.1, .int .i64 x.2.1, .int .i64 x.2.2.1, .int .i64 x.2.2.2]

theorem int_eqIn (a b : Int) (w : World) : (Op.equalIn 9999 3 (.int .i64 a) (.int .i64 b)).run Try.prog w = .ok (a == b) w := by
  have hI := Try.underlying3
  unfold Op.equalIn
  simp [run_underlying hI]
theorem name_eq (x y : Nm) (w : World) : (Op.equal 57 (nv x) (nv y)).run Try.prog w = .ok (x.1 == y.1 && (x.2.1 == y.2.1 && (x.2.2.1 == y.2.2.1 && x.2.2.2 == y.2.2.2))) w := by
  have hT := Try.underlying57
  have hI := Try.underlying3
  have p0 : ∀ (a b c d : Int) (w : World), (part 3 #[.int .i64 a, .int .i64 b, .int .i64 c, .int .i64 d] 0).run Try.prog w = .ok (.int .i64 a) w := fun _ _ _ _ _ => by kernel_rfl
  have p1 : ∀ (a b c d : Int) (w : World), (part 3 #[.int .i64 a, .int .i64 b, .int .i64 c, .int .i64 d] 1).run Try.prog w = .ok (.int .i64 b) w := fun _ _ _ _ _ => by kernel_rfl
  have p2 : ∀ (a b c d : Int) (w : World), (part 3 #[.int .i64 a, .int .i64 b, .int .i64 c, .int .i64 d] 2).run Try.prog w = .ok (.int .i64 c) w := fun _ _ _ _ _ => by kernel_rfl
  have p3 : ∀ (a b c d : Int) (w : World), (part 3 #[.int .i64 a, .int .i64 b, .int .i64 c, .int .i64 d] 3).run Try.prog w = .ok (.int .i64 d) w := fun _ _ _ _ _ => by kernel_rfl
  unfold Op.equal Op.maxDepth nv
  unfold Op.equalIn
  simp [run_underlying hT, p0, p1, p2, p3, int_eqIn, Result.andThen]
  by_cases h0 : x.1 = y.1 <;> by_cases h1 : x.2.1 = y.2.1 <;> by_cases h2 : x.2.2.1 = y.2.2.1 <;> by_cases h3 : x.2.2.2 = y.2.2.2 <;> simp [h0, h1, h2, h3, p0, p1, p2, p3, int_eqIn, Result.andThen]
theorem name_check (x : Nm) (e : Bool) (w : World) : (Instr.checkKey e 10000 57 (nv x)).run Try.prog w = .ok () w := by kernel_rfl
/-- It is a name's value. -/
def isNv (v : Value) : Prop := ∃ x : Nm, v = nv x
theorem nv_inj {x y : Nm} (h : nv x = nv y) : x = y := by
  obtain ⟨a, b, c, d⟩ := x
  obtain ⟨a', b', c', d'⟩ := y
  simp only [nv, Value.agg.injEq, Array.mk.injEq, List.cons.injEq, Value.int.injEq, true_and, and_true] at h
  obtain ⟨rfl, rfl, rfl, rfl⟩ := h
  rfl
theorem name_eqB (x y : Nm) (w : World) : (Op.equal 57 (nv x) (nv y)).run Try.prog w = .ok (decide (x = y)) w := by
  rw [name_eq]
  congr 1
  obtain ⟨a, b, c, d⟩ := x
  obtain ⟨a', b', c', d'⟩ := y
  rw [Bool.eq_iff_iff]
  simp
theorem name_keys : KeyOk Try.prog 57 isNv where
  wide := by kernel_rfl
  check := fun e w k h => by obtain ⟨x, rfl⟩ := h; exact name_check x e w
  eq := fun w x y hx hy => by
    obtain ⟨x, rfl⟩ := hx
    obtain ⟨y, rfl⟩ := hy
    refine ⟨_, name_eqB x y w, ?_⟩
    rw [decide_eq_true_eq]
    exact ⟨fun h => by rw [h], nv_inj⟩
  stays := fun w k h => by
    obtain ⟨x, rfl⟩ := h
    simp [Instr.keyThatStays, nv, Instr.sameBits]
end Go.Proofs.Ytncikklhchimdaa
