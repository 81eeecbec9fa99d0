/- The contracts and plain laws that the statements PolyMuls PolySizes PolyPowers PolyBig need, part 4 of 9: RowZeros VecO RootP GenA RoundR StockB StockC StockD StockE StockF ChirpA SmallA SmallB SmallC SmallD ChirpE ValF ValJ CostL MapB TreeO. -/
import Derived.Test.YtlnlijeamflpiaaGreatPlB3
namespace Go.Proofs.YtlnlijeamflpiaaGreat
open Go.RowKit
set_option linter.unusedVariables false
set_option linter.unusedSimpArgs false
set_option maxRecDepth 100000
/-- A result: a new row, of the call's own. -/
def GivesOwn (k : IntKind) (t : TypeId) (xs : List Int) (w : World) (e : Ending) (w' : World) : Prop :=
  ∃ a cap, e = .returned (.slice a xs.length cap) ∧ w'.ownsRow w.heap.size t 1 (.slice a xs.length cap) xs.length (xs.map (Value.int k)) ∧ (∀ x ∈ xs, fits k x) ∧ xs.length ≤ 16777216 ∧ Below w.heap.size w w'
theorem GivesOwn.row {k : IntKind} {t : TypeId} {xs : List Int} {w w' : World} {e : Ending} (h : GivesOwn k t xs w e w') : GivesRow k xs w e w' := by
  obtain ⟨a, cap, rfl, ho, hf, hl, hb⟩ := h
  exact gives_of_own ho hb rfl rfl hf hl
theorem Own.givesO {k : IntKind} {e : TypeId} {w wr : World} {v : Value} {n : Nat} {f : Nat → Int} (h : Own k e w wr v n f) {xs : List Int} (hn : xs.length = n) (hw : ∀ x ∈ xs, fits k x) (hf : ∀ i, i < n → nth xs i = f i) (hl : n ≤ 16777216) :
    GivesOwn k e xs w (.returned v) wr := by
  obtain ⟨a, cap, rfl, hnil⟩ := own_slice h.own
  have e1 : xs.map (Value.int k) = (List.range n).map fun j => Value.int k (f j) := by
    apply List.ext_getElem (by simp [hn])
    intro i h1 h2
    have h3 : i < n := by simpa [hn] using h1
    have := hf i h3
    simp only [List.getElem_map, List.getElem_range]
    rw [← this]
    simp [nth, show i < xs.length by omega]
  refine ⟨a, cap, by rw [hn], ?_, hw, by omega, h.below⟩
  rw [hn, e1]
  exact h.own
theorem OwnAt.givesO {k : IntKind} {e : TypeId} {w wr : World} {g n : Nat} {f : Nat → Int} (h : OwnAt k e w wr g n f) {xs : List Int} (hn : xs.length = n) (hw : ∀ x ∈ xs, fits k x) (hf : ∀ i, i < n → nth xs i = f i) (hl : n ≤ 16777216) :
    GivesOwn k e xs w (.returned (.slice (some ⟨g, 0, none⟩) n n)) wr :=
  Own.givesO (e := e) ⟨h.own, h.below⟩ hn hw hf hl
theorem zeros_list (x : Value) (n : Nat) : (Builtin.zeroCells #[x] n).toList = List.replicate n x := by
  have hs := size_zeroCells #[x] n
  apply List.ext_getElem
  · simp [hs]
  · intro i h1 h2
    simp [Builtin.zeroCells, Nat.mod_one]
theorem run_append_zeros_own {P : Program} (w : World) (base : Nat) (t tn ty e : TypeId) (i : TypeInfo) (k kq kn : IntKind) (ht : P.underlying t = some (.slice e)) (htn : P.underlying tn = some (.int kn)) (hi : P.info? e = some i) (hz : i.zero = some (.int k 0)) (hz1 : i.size = 1) (hz2 : i.bytes = 8)
    (v : Value) (n : Nat) (xs : List Value) (hown : w.ownsRow base e 1 v n xs) (m : Nat) (hlen : n + m ≤ 100000000) (hbase : base ≤ w.heap.size) :
    ∃ v' w', (Builtin.append_ #[t, tn] ty #[v, .int kq m]).run P w = .ok v' w' ∧ w'.ownsRow base e 1 v' (n + m) (xs ++ List.replicate m (.int k 0)) ∧ w.grownBy w' v.ownBlock := by
  have hxl : xs.length = n := by rw [hown.1, Nat.mul_one]
  have hw : IntKind.i64.wrap (m : Int) = m := IntWalk.i64_in _ (by omega)
  have hw0 : IntKind.i64.wrap 0 = 0 := rfl
  have hneg : ¬ ((m : Int) < 0) := by omega
  have h48 : ¬ (281474976710656 < (m : Int) * 8) := by omega
  have hlen2 : (xs ++ List.replicate m (Value.int k 0)).length = (n + m) * 1 := by simp [hxl]
  have hZ : (Value.int k 0).cells = #[Value.int k 0] := rfl
  have grown : ∀ (old : Nat) (row : Option Nat), old < n + m →
      (w.drew.alloc (.cells (xs.toArray ++ Builtin.zeroCells #[Value.int k 0] m ++ Builtin.zeroCells #[Value.int k 0] (grownCap w (n + m) old e - (n + m))) e)).ownsRow base e 1
        (.slice (some ⟨w.heap.size, 0, none⟩) (n + m) (grownCap w (n + m) old e)) (n + m) (xs ++ List.replicate m (.int k 0)) ∧
      w.grownBy (w.drew.alloc (.cells (xs.toArray ++ Builtin.zeroCells #[Value.int k 0] m ++ Builtin.zeroCells #[Value.int k 0] (grownCap w (n + m) old e - (n + m))) e)) row := by
    intro old row ho
    have hge := grownCap_ge w (n + m) old e
    have hcm : grownCap w (n + m) old e ≤ maxLen := grownCap_le_maxLen w (n + m) old e (by unfold maxLen; omega)
    refine ⟨⟨hlen2, .inr ⟨w.heap.size, _, _, rfl, hbase, heap_alloc_new w.drew _, hge, hcm, ?_, ?_⟩⟩, ⟨rfl, rfl, rfl, by simp, fun j hj _ => heap_alloc_old w.drew _ hj⟩⟩
    · simp only [Array.size_append, List.size_toArray, size_zeroCells, hxl]
      simp
      omega
    · simp only [Array.toList_append, zeros_list]
      rw [← hlen2]
      exact List.take_left
  rcases hown.2 with ⟨rfl, rfl⟩ | ⟨g, cap, cur, rfl, hbg, hg, hnc, hcm, hcs, htake⟩
  · have hx : xs = [] := List.eq_nil_of_length_eq_zero hxl
    subst hx
    by_cases hm : m = 0
    · subst hm
      refine ⟨.slice none 0 0, w, ?_, World.ownsRow_nil w base e 1, World.grownBy.refl _ _⟩
      simp [Builtin.append_, run_underlying ht, run_underlying htn, sizeOf, typeInfo, hi, asInt, asIntOf, hw0]
    · have hr := Lib.run_append_nil_zeros (P := P) w t tn ty e i (.int k 0) kq kn ht htn hi hz m (by omega) (by omega) (by omega) (by rw [hz2]; omega)
      have hgr := grown 0 (Value.ownBlock (.slice none 0 0)) (by omega)
      rw [hZ] at hr
      simp only [Nat.zero_add, List.nil_append, Array.empty_append] at hgr ⊢
      exact ⟨_, _, hr, hgr.1, hgr.2⟩
  · by_cases hroom : n + m ≤ cap
    · have hcs' : cur.size = cap := by rw [hcs, Nat.mul_one]
      have hst := run_storeCells_at P g n e (List.replicate m (.int k 0)) 0 cur w hg (by simp; omega) (by intro u hu; rw [List.eq_of_mem_replicate hu]; rfl)
      refine ⟨_, w.setRow g (cur.toList.take n ++ List.replicate m (Value.int k 0) ++ cur.toList.drop (n + m)).toArray, ?_, ⟨hlen2, .inr ⟨g, cap, _, rfl, hbg, setRow_heap w g cur _ e _ hg, hroom, hcm, ?_, ?_⟩⟩, ⟨rfl, rfl, rfl, by simp, fun j _ hj => setRow_other w g j _ (fun e => hj (by simp [Value.ownBlock, e]))⟩⟩
      · by_cases hm : m = 0
        · subst hm
          have hself : w.setRow g (cur.toList.take n ++ List.replicate 0 (Value.int k 0) ++ cur.toList.drop (n + 0)).toArray = w := by
            simp only [List.replicate_zero, List.append_nil, Nat.add_zero, List.take_append_drop, Array.toArray_toList]
            exact setRow_self w g cur e (0, 0) hg
          rw [hself]
          simp [Builtin.append_, run_underlying ht, run_underlying htn, sizeOf, typeInfo, hi, asInt, asIntOf, hnc, hw0, storeCells]
        · have hns : ¬ (m * i.size = 0) := by rw [hz1]; omega
          simp only [Nat.add_zero, List.length_replicate] at hst
          simp [Builtin.append_, run_underlying ht, run_underlying htn, sizeOf, typeInfo, zeroValue, hi, hz, hz1, hz2, asInt, asIntOf, hw, hneg, h48, hroom, hm, zeros_list, Value.cells, Addr.add_lit, hst]
      · simp only [List.size_toArray, List.length_append, List.length_take, List.length_drop, Array.length_toList, List.length_replicate]
        omega
      · rw [Nat.mul_one] at htake
        rw [htake, ← hlen2]
        exact List.take_left
    · have holds : ∀ j u, xs[j]? = some u → w.cell? ((⟨g, 0, none⟩ : Addr).add j) = some u := hown.cells (g := g) rfl
      have hfo := run_firstCells_some (P := P) w.drew i.size n ⟨g, 0, none⟩ n cap xs (by rw [hz1, hxl, Nat.mul_one]) (by simpa using holds)
      by_cases hm : m = 0
      · omega
      · have hfit : Builtin.nextslicecap (n + m) cap * i.bytes ≤ 281474976710656 := growslice_fits (by omega) (by rw [hz2]; omega)
        have hr := Lib.run_append_grow_zeros (P := P) w t tn ty e i (.int k 0) kq kn ht htn hi hz (some ⟨g, 0, none⟩) n cap xs hfo m (by omega) (by omega) (by omega) (by omega) (by rw [hz2]; omega) hfit
        have hgr := grown cap (Value.ownBlock (.slice (some ⟨g, 0, none⟩) n cap)) (by omega)
        rw [hZ] at hr
        exact ⟨_, _, hr, hgr.1, hgr.2⟩
/-- append(own, make([]T, m)...) in a walk. -/
theorem wpList_append_zeros {P : Program} (w : World) {ops : Array Oper} {rest : List Oper} {o : Oper} {a : Act} {Q : Exit → Act → World → Prop} (hgd : o.guard = none) (s x : Operand) (t tn : TypeId)
    (ho : o.op = .call { callee := .builtin .append, args := #[s, x], argTypes := #[t, tn] }) (base : Nat) (e : TypeId) (i : TypeInfo) (k kq kn : IntKind) (ht : P.underlying t = some (.slice e)) (htn : P.underlying tn = some (.int kn)) (hi : P.info? e = some i) (hz : i.zero = some (.int k 0)) (hz1 : i.size = 1) (hz2 : i.bytes = 8)
    (v : Value) (n : Nat) (xs : List Value) (hs : a.eval s = v) (hown : w.ownsRow base e 1 v n xs) (m : Nat) (hx : a.eval x = .int kq m) (hlen : n + m ≤ 100000000) (hbase : base ≤ w.heap.size)
    (h : ∀ v' w', w'.ownsRow base e 1 v' (n + m) (xs ++ List.replicate m (.int k 0)) → w.grownBy w' v.ownBlock → wpList P ops Q rest (a.put o.dst v') w') : wpList P ops Q (o :: rest) a w := by
  obtain ⟨v', w', hr, h1, h2⟩ := run_append_zeros_own (P := P) w base t tn o.type e i k kq kn ht htn hi hz hz1 hz2 v n xs hown m hlen hbase
  exact Lib.wpList_append_run w hgd s x t tn ho v (.int kq m) hs hx v' w' hr (h v' w' h1 h2)
end Go.Proofs.YtlnlijeamflpiaaGreat

namespace Go.Proofs.YtlnlijeamflpiaaGreat
open Go.RowKit
set_option linter.unusedVariables false
set_option linter.unusedSimpArgs false
set_option maxRecDepth 100000
set_option maxHeartbeats 400000 in
theorem vec_eachO (n : Nat) (g : Nat → Int) (fid : Nat) (caps : Array Value) (w : World) (hn : n ≤ 16777216) (hg : ∀ i, i < n → fits .u64 (g i)) 
    (hent : ∀ args w, (callFunc fid args).run Tryz.prog w = .ok (.enter fid args) w)
    (hf : ∀ (i : Nat) (wr : World), i < n → Below w.heap.size w wr → Calls Tryz.prog fid (#[.int .i64 i] ++ caps) wr fun e w' => e = .returned (.int .u64 (g i)) ∧ Below wr.heap.size wr w') :
    Calls Tryz.prog 82 #[.int .i64 n, .func (.func fid) #[] caps] w (GivesOwn .u64 23 ((List.range n).map g) w) := by
  obtain ⟨i0, hi, hz0, hz1, hz2⟩ := info_parts info_u64
  have HF := Lib.hid hf
  have HG := Lib.hid hg
  clear hf hg
  go_enter Tryz.func82, Tryz.ntmps82
  go_wp2_with (at_make; refine wpList_make_full _ rfl _ _ 22 rfl w.heap.size 23 i0 (.int .u64 0) 1 Tryz.underlying22 hi hz0 hz1 .i64 .i64 n n n rfl rfl rfl rfl (by rw [hz2]; omega) (by unfold maxLen; omega) (Nat.le_refl _) ?_)
  intro w1 hown0 hgrow0
  have hown := Own.made hown0 hgrow0
  clear hown0 hgrow0
  go_wp2_with fail
  go_loopw [11] (fun i wr => ∃ k : Nat, k ≤ n ∧ i = .int .i64 k ∧ OwnAt .u64 23 w wr w.heap.size n (fun j => if j < k then g j else 0)) (fun i _ => n - (intOf i).toNat)
  case atStart => exact ⟨0, Nat.zero_le _, rfl, by simpa using hown⟩
  case round =>
    obtain ⟨k, hk, rfl, hown⟩ := hrel
    by_cases hlt : k < n
    · have hcall := HF.out k wr hlt hown.below
      go_wp2_with fail
      refine hcall.mono ?_
      rintro e w' ⟨rfl, hb'⟩
      have hown2 := hown.later hb'
      have hc := hown2.cell k hlt
      rw [if_neg (Nat.lt_irrefl k)] at hc
      have hfz := hown2.free k
      have hnext := hown2.store k hlt (g k) (f' := fun j => if j < k + 1 then g j else 0) (by simp) (fun j _ hj => by
        by_cases h1 : j < k
        · simp [h1, show j < k + 1 by omega]
        · simp [h1, show ¬ j < k + 1 by omega])
      have HN := Lib.hid hnext
      clear hnext hcall hown hown2 hb'
      go_wp2_with fail
      go_roundw
      case rel => exact ⟨k + 1, by omega, by go_num, HN.out⟩
      case measure => simp [intOf]; omega
    · have hres := hown.givesO (xs := (List.range n).map g) (by simp) (fun x hx => by obtain ⟨i, hi, rfl⟩ := List.mem_map.1 hx; exact HG.out i (by simpa using hi)) (fun i hi => by rw [nth_ofFn _ _ _ hi, if_pos (by omega)]) hn
      clear hown
      go_wp2_with fail
      go_ret
      exact hres
theorem own_base {w : World} {B B' : Nat} {e : TypeId} {v : Value} {n : Nat} {xs : List Value} (h : w.ownsRow B e 1 v n xs) (hB : B' ≤ B) : w.ownsRow B' e 1 v n xs := by
  obtain ⟨h1, h2 | ⟨g, cap, cur, h3, h4, h5⟩⟩ := h
  · exact ⟨h1, .inl h2⟩
  · exact ⟨h1, .inr ⟨g, cap, cur, h3, Nat.le_trans hB h4, h5⟩⟩
set_option maxHeartbeats 400000 in
theorem vec_RedO (a : Option Addr) (cap : Nat) (xs : List Int) (w : World) (hx : Row .u64 w a xs) (hl : xs.length ≤ 16777216) :
    Calls Tryz.prog 49 #[.slice a xs.length cap] w (GivesOwn .u64 23 (xs.map (· % 18446744069414584321)) w) := by
  have hent : ∀ args w, (callFunc 83 args).run Tryz.prog w = .ok (.enter 83 args) w := enters_of Tryz.func83 (by kernel_rfl) rfl
  have HX : Hid (Row .u64 w a xs) := hx
  clear hx
  have hc0 := one_new w (.slice a xs.length cap) 22
  have hf : ∀ (i : Nat) (wr : World), i < xs.length → Below (w.alloc (.cells #[.slice a xs.length cap] 22)).heap.size (w.alloc (.cells #[.slice a xs.length cap] 22)) wr →
      Calls Tryz.prog 83 (#[.int .i64 i] ++ #[.pointer (some ⟨w.heap.size, 0, none⟩)]) wr fun e w' => e = .returned (.int .u64 (nth xs i % 18446744069414584321)) ∧ Below wr.heap.size wr w' :=
    fun i wr hi hb => (vec_Red1 i a cap xs w.heap.size wr hi (by rw [hb.cell (by simp)]; exact hc0) ((HX.out.below ((Below.refl _ _).alloc (Nat.le_refl _) _)).below hb)).mono fun e w' ⟨he, hw⟩ => ⟨he, hw ▸ Below.refl _ _⟩
  have HF := Lib.hid hf
  clear hf
  go_enter Tryz.func49, Tryz.ntmps49
  go_wp2_with fail
  refine (vec_eachO xs.length (fun i => nth xs i % 18446744069414584321) _ _ _ hl (modfits _) hent (HF.out)).mono ?_
  rintro e w' ⟨a', cap', rfl, hr, hfit, hle, hb⟩
  have HR := Lib.hid hr
  have HFIT := Lib.hid hfit
  clear hr hfit
  go_wp2_with fail
  go_ret
  refine ⟨a', cap', by simp, ?_, by rw [map_nth (· % 18446744069414584321) xs]; exact HFIT.out, by simpa using hle, ((Below.refl _ _).alloc (Nat.le_refl _) _).trans (hb.mono (by simp))⟩
  have h := HR.out
  rw [← map_nth (· % 18446744069414584321) xs] at h
  exact own_base h (by simp)
end Go.Proofs.YtlnlijeamflpiaaGreat

namespace Go.Proofs.YtlnlijeamflpiaaGreat
open Go.RowKit Sm
set_option linter.unusedVariables false
set_option linter.unusedSimpArgs false
set_option maxRecDepth 100000
theorem own_eqz {k : IntKind} {e : TypeId} {w wr : World} {g n : Nat} {f f' : Nat → Int} (h : OwnAt k e w wr g n f) (he : ∀ n, f' n = f n) : OwnAt k e w wr g n f' := by
  rw [show f' = f from funext he]; exact h
set_option maxHeartbeats 800000 in
theorem rootPowers (a : Int) (n : Nat) (w : World) (h0 : 0 ≤ a) (h1 : a < 18446744073709551616) (hn : n ≤ 16777216) :
    Calls Tryz.prog 146 #[.int .u64 a, .int .i64 n] w (GivesRowE .u64 (powL a n) 0 w) := by
  obtain ⟨i0, hi, hz0, hz1, hz2⟩ := info_parts info_u64
  go_enter Tryz.func146, Tryz.ntmps146
  go_wp2_with (at_make; refine wpList_make_full _ rfl _ _ 22 rfl w.heap.size 23 i0 (.int .u64 0) 1 Tryz.underlying22 hi hz0 hz1 .i64 .i64 n n n rfl rfl rfl rfl (by rw [hz2]; omega) (by unfold maxLen; omega) (Nat.le_refl _) ?_)
  intro w1 hown0 hgrow0
  have hown := Own.made hown0 hgrow0
  clear hown0 hgrow0
  go_wp2_with fail
  go_loopw [7, 19] (fun p i wr => ∃ (k : Nat) (v : Int), k ≤ n ∧ i = .int .i64 k ∧ p = .int .u64 v ∧ Hid (v = pw a k) ∧ 0 ≤ v ∧ v < 18446744069414584321 ∧ OwnAt .u64 23 w wr w.heap.size n (fun j => if j < k then pw a j else 0)) (fun _ i _ => n - (intOf i).toNat)
  case atStart => exact ⟨0, 1, Nat.zero_le _, rfl, rfl, (pw_0 a).symm, by omega, by omega, own_eqz hown (fun j => if_neg (by omega))⟩
  case round =>
    obtain ⟨k, v, hk, rfl, rfl, HV, hv0, hv1, hown⟩ := hrel
    by_cases hlt : k < n
    · have hcell := hown.cell k hlt
      rw [if_neg (Nat.lt_irrefl k)] at hcell
      have hfz := hown.free k
      have hnext := hown.store k hlt v (f' := fun j => if j < k + 1 then pw a j else 0) (by rw [if_pos (by omega)]; exact HV.out.symm) (fun j _ hj => by
        by_cases h : j < k
        · rw [if_pos h, if_pos (by omega)]
        · rw [if_neg h, if_neg (by omega)])
      have HN := Lib.hid hnext
      have HM : Hid (v * a % 18446744069414584321 = pw a (k + 1)) := by unfold Hid; rw [HV.out]; exact pw_succ a k
      clear hown hnext
      go_wp2_with (first | (go_at_call 46; refine (gold_Mul _ _ _ (by omega) (by omega) (by omega) (by omega)).mono ?_; rintro e w' ⟨rfl, rfl⟩))
      go_roundw
      case rel => exact ⟨k + 1, _, by omega, by go_num, rfl, HM.out, by omega, by omega, HN.out⟩
      case measure => simp [intOf]; omega
    · have hkn : k = n := by omega
      have hrow := hown.row (xs := powL a n) (powL_len a n) (powL_fits a n) (fun i hi => by rw [show nth (powL a n) i = pw a i from nth_ofFn _ _ _ hi, if_pos (by omega)]) hn
      have hb := hown.below
      have HR := Lib.hid hrow
      have HL := Lib.hid (powL_len a n)
      clear hown hrow
      go_wp2_with fail
      go_ret2
      exact ⟨some ⟨w.heap.size, 0, none⟩, n, by simp [HL.out], HR.out, by rw [HL.out]; exact ⟨Nat.le_refl _, fun h => by cases h⟩, hb⟩
end Go.Proofs.YtlnlijeamflpiaaGreat

namespace Go.Proofs.YtlnlijeamflpiaaGreat
open Go.RowKit
set_option linter.unusedVariables false
set_option linter.unusedSimpArgs false
set_option maxRecDepth 100000
@[irreducible] def pmo (a n q : Nat) : Nat := a ^ n % q
theorem pmo_step1 {p a n q V : Nat} (h1 : n % 2 = 1) (H : p * a ^ n % q = V) : (p * a % q) * (a * a % q) ^ (n / 2) % q = V := by
  rw [Nat.mod_mul_mod, Nat.mul_mod, ← Nat.pow_mod, ← Nat.mul_mod, ← Nat.pow_two, ← Nat.pow_mul, Nat.mul_assoc, ← Nat.pow_succ', Nat.succ_eq_add_one, show 2 * (n / 2) + 1 = n by omega]
  exact H
theorem pmo_step0 {p a n q V : Nat} (h1 : n % 2 = 0) (H : p * a ^ n % q = V) : p * (a * a % q) ^ (n / 2) % q = V := by
  rw [Nat.mul_mod, ← Nat.pow_mod, ← Nat.mul_mod, ← Nat.pow_two, ← Nat.pow_mul, show 2 * (n / 2) = n by omega]
  exact H
theorem mulN (a b s : Nat) (h : a * b = s) : (a : Int) * (b : Int) = (s : Int) := by rw [← h]; simp
theorem modN (s q r : Nat) (h : s % q = r) : (s : Int).tmod (q : Int) = (r : Int) ∧ (s : Int) % (q : Int) = (r : Int) := by
  subst h
  exact ⟨by rw [Int.tmod_eq_emod_of_nonneg (by omega), Int.natCast_emod], by rw [← Int.natCast_emod]⟩
theorem divN (s q r : Nat) (h : s / q = r) : (s : Int).tdiv (q : Int) = (r : Int) ∧ (s : Int) / (q : Int) = (r : Int) := by
  subst h
  exact ⟨by rw [Int.tdiv_eq_ediv_of_nonneg (by omega), Int.natCast_ediv], by rw [← Int.natCast_ediv]⟩
theorem prod_bd {a b q : Nat} (ha : a < q) (hb : b < q) (hq : q ≤ 131072) : a * b ≤ 131072 * 131072 := Nat.mul_le_mul (by omega) (by omega)
set_option maxHeartbeats 1000000 in
theorem gen_power (a n q : Nat) (w : World) (hq1 : 2 ≤ q) (hq2 : q ≤ 131072) (ha : a < q) (hn : n ≤ 131072) :
    Calls Tryz.prog 191 #[.int .i64 a, .int .i64 n, .int .i64 q] w fun e w' => e = .returned (.int .i64 (pmo a n q : Nat)) ∧ w = w' := by
  obtain ⟨V, hV⟩ : ∃ V, a ^ n % q = V := ⟨_, rfl⟩
  have HV : Hid (1 * a ^ n % q = V) := by unfold Hid; rw [Nat.one_mul]; exact hV
  have HP : Hid (pmo a n q = V) := by unfold Hid pmo; exact hV
  have z1 : ((q : Int) == 0) = false := bno (by omega)
  have z2 : ¬ (q : Int) = 0 := by omega
  have o1 := (modN 1 q 1 (Nat.mod_eq_of_lt (by omega))).1
  have o2 := (modN 1 q 1 (Nat.mod_eq_of_lt (by omega))).2
  clear hV
  simp only [Int.natCast_one] at o1 o2
  go_enter Tryz.func191, Tryz.ntmps191
  go_wp2_with fail
  go_loop [0, 1, 7] (fun x y z => ∃ b m p : Nat, x = .int .i64 b ∧ y = .int .i64 m ∧ z = .int .i64 p ∧ b < q ∧ m ≤ 131072 ∧ p < q ∧ Hid (p * b ^ m % q = V)) (fun x y z => (intOf y).toNat)
  case atStart => exact ⟨a, n, 1, rfl, rfl, rfl, ha, hn, by omega, HV.out⟩
  case round =>
    obtain ⟨b, m, p, rfl, rfl, rfl, hb, hm, hp, H⟩ := hrel
    by_cases h0 : m = 0
    · subst h0
      go_wp2_with fail
      go_ret
      refine ⟨ret_int ?_, rfl⟩
      have h := H.out
      rw [Nat.pow_zero, Nat.mul_one, Nat.mod_eq_of_lt hp] at h
      rw [HP.out, h]
    · have hpos : (0 : Int) < (m : Int) := by omega
      obtain ⟨k, hk⟩ : ∃ k, m / 2 = k := ⟨_, rfl⟩
      have d1 : (m : Int).tdiv 2 = (k : Int) := (divN m 2 k hk).1
      have d2 : (m : Int) / 2 = (k : Int) := (divN m 2 k hk).2
      obtain ⟨s, hs⟩ : ∃ s, b * b = s := ⟨_, rfl⟩
      have hs1 := prod_bd hb hb hq2
      rw [hs] at hs1
      have m1 := mulN b b s hs
      obtain ⟨r, hr⟩ : ∃ r, s % q = r := ⟨_, rfl⟩
      have r1 := (modN s q r hr).1
      have r2 := (modN s q r hr).2
      have hrq : r < q := by rw [← hr]; exact Nat.mod_lt _ (by omega)
      have hkm : k < m := by omega
      by_cases h1 : m % 2 = 1
      · have e1 : (m : Int).tmod 2 = 1 := (modN m 2 1 h1).1
        have e2 : (m : Int) % 2 = 1 := (modN m 2 1 h1).2
        obtain ⟨t, ht⟩ : ∃ t, p * b = t := ⟨_, rfl⟩
        have ht1 := prod_bd hp hb hq2
        rw [ht] at ht1
        have n1 := mulN p b t ht
        obtain ⟨u, hu⟩ : ∃ u, t % q = u := ⟨_, rfl⟩
        have u1 := (modN t q u hu).1
        have u2 := (modN t q u hu).2
        have huq : u < q := by rw [← hu]; exact Nat.mod_lt _ (by omega)
        have H2 : Hid (u * r ^ k % q = V) := by
          unfold Hid; rw [← hu, ← hr, ← ht, ← hs, ← hk]; exact pmo_step1 h1 H.out
        clear hk hs hr ht hu h1
        go_wp2_with fail
        go_round
        case rel => exact ⟨r, k, u, rfl, rfl, rfl, hrq, by omega, huq, H2.out⟩
        case measure => simp [intOf]; omega
      · have h10 : m % 2 = 0 := by omega
        have e1 : (m : Int).tmod 2 = 0 := (modN m 2 0 h10).1
        have e2 : (m : Int) % 2 = 0 := (modN m 2 0 h10).2
        have H2 : Hid (p * r ^ k % q = V) := by
          unfold Hid; rw [← hr, ← hs, ← hk]; exact pmo_step0 h10 H.out
        clear hk hs hr h1 h10
        go_wp2_with fail
        go_round
        case rel => exact ⟨r, k, p, rfl, rfl, rfl, hrq, by omega, hp, H2.out⟩
        case measure => simp [intOf]; omega
theorem fac_fq {q : Nat} (h : IsFq q) : ∃ m, facL (q - 1) = [(2, m)] := by
  rcases h with h | h | h | h | h <;> subst h
  · exact ⟨1, by decide +kernel⟩
  · exact ⟨2, by decide +kernel⟩
  · exact ⟨4, by decide +kernel⟩
  · exact ⟨8, by decide +kernel⟩
  · exact ⟨16, by decide +kernel⟩
theorem gen_less {q : Nat} (h : IsFq q) (i : Nat) (h1 : 1 ≤ i) (h2 : i < gq q) : pmo i ((q - 1) / 2) q = 1 := by
  unfold pmo
  rw [← Fld.pm_eq q 17 i ((q - 1) / 2) (by have := fq_bd h; omega)]
  have hb := gq_bd h
  have hi : i = 1 ∨ i = 2 := by omega
  rcases h with h | h | h | h | h <;> subst h <;> rcases hi with hi | hi <;> subst hi <;> revert h2 <;> decide +kernel
theorem gen_at {q : Nat} (h : IsFq q) : pmo (gq q) ((q - 1) / 2) q ≠ 1 := by
  have := gp_half h
  unfold gp at this
  unfold pmo; exact this
theorem gen_there {q : Nat} (w : World) (h : IsFq q) :
    Calls Tryz.prog 190 #[.int .i64 q] w fun e w' => e = .returned (.bool true) ∧ Below w.heap.size w w' := by
  have hb := fq_bd h
  have C1 : Hid (∀ W, Calls Tryz.prog 97 #[.int .i64 q] W fun e w' => e = .returned (.bool true) ∧ Below W.heap.size W w') := fun W => by
    have := fact_Prime (q : Int) W (by omega)
    rw [pr_of_fq h] at this; exact this
  clear h
  go_enter Tryz.func190, Tryz.ntmps190
  go_wp2_with fail
  refine (C1.out _).mono ?_; rintro e w1 ⟨rfl, hb1⟩
  go_wp2_with fail
  go_ret
  exact ⟨rfl, hb1⟩
set_option maxHeartbeats 2000000 in
theorem gen_Gen {q : Nat} (w : World) (h : IsFq q) :
    Calls Tryz.prog 175 #[.int .i64 q] w fun e w' => e = .returned (.tuple #[.int .i64 (gq q : Nat), .int .i64 0]) ∧ Below w.heap.size w w' := by
  have hb := fq_bd h
  have hg := gq_bd h
  obtain ⟨fm, hfm⟩ := fac_fq h
  have C0 : Hid (∀ W, Calls Tryz.prog 190 #[.int .i64 q] W fun e w' => e = .returned (.bool true) ∧ Below W.heap.size W w') := fun W => gen_there W h
  obtain ⟨q1, hq1⟩ : ∃ q1, q - 1 = q1 := ⟨_, rfl⟩
  have hqi : (q : Int) - 1 = (q1 : Int) := by omega
  have C1 : Hid (∀ W, Calls Tryz.prog 123 #[.int .i64 q1] W (GivesP [(2, fm)] W)) := fun W => by
    have := fact_Factors (q - 1) W (by omega) (by omega)
    rw [hfm, hq1] at this; exact this
  obtain ⟨hf, hhf⟩ : ∃ hf, q1 / 2 = hf := ⟨_, rfl⟩
  have v1 : (q1 : Int).tdiv 2 = (hf : Int) := (divN q1 2 hf hhf).1
  have v2 : (q1 : Int) / 2 = (hf : Int) := (divN q1 2 hf hhf).2
  have HL : Hid (∀ i, 1 ≤ i → i < gq q → pmo i hf q = 1) := fun i h1 h2 => by have := gen_less h i h1 h2; rw [hq1, hhf] at this; exact this
  have HA : Hid (pmo (gq q) hf q ≠ 1) := by have := gen_at h; rw [hq1, hhf] at this; exact this
  obtain ⟨G, hG⟩ : ∃ G, gq q = G := ⟨_, rfl⟩
  rw [hG] at HL HA hg ⊢
  have hf2 : hf ≤ 131072 := by omega
  have hq3 : G < q := by omega
  clear h hfm hhf hG
  go_enter Tryz.func175, Tryz.ntmps175
  go_wp2_with fail
  go_step3
  go_wp2_with fail
  refine (C0.out _).mono ?_; rintro e w1 ⟨rfl, hb1⟩
  go_wp2_with fail
  refine (C1.out _).mono ?_; rintro e w2 ⟨v, rfl, hown, hb2⟩
  obtain ⟨a, cap, rfl, hcap, hgs⟩ := own_slice2 hown
  obtain ⟨g, rfl⟩ := hgs (by simp)
  have c0 : w2.cell? ⟨g, 0, none⟩ = some (.int .i64 2) := hown.cellAt 0 (by simp)
  have c1 : w2.cell? ⟨g, 1, none⟩ = some (.int .i64 fm) := hown.cellAt 1 (by simp)
  have hgl : g < w2.heap.size := World.block_lt_of_cell? _ _ c0
  have K0 := Lib.hid c0
  have K1 := Lib.hid c1
  have hbl := chain hb1 hb2
  have HBL := Lib.hid hbl
  simp only [List.length_singleton]
  clear hown hcap hgs c0 c1 hb1 hb2 hbl
  go_wp2_with fail
  go_step3
  go_wp2_with fail
  go_loopw [6] (fun x wr => ∃ j : Nat, j < G ∧ x = .int .i64 j ∧ Below w2.heap.size w2 wr) (fun x _ => G - (intOf x).toNat)
  case atStart => exact ⟨0, by omega, rfl, Below.refl _ _⟩
  case round =>
    obtain ⟨j, hj, rfl, hbel⟩ := hrel
    have hlt : (j : Int) < (q1 : Int) := by omega
    obtain ⟨wo, rfl⟩ : ∃ wo : World, wo = wr := ⟨_, rfl⟩
    go_wp2_with fail
    go_loopw [26] (fun x wi => (x = .int .i64 0 ∧ Below wo.heap.size wo wi) ∨ (x = .int .i64 1 ∧ j + 1 = G ∧ Below wo.heap.size wo wi)) (fun x _ => 1 - (intOf x).toNat)
    case atStart => exact Or.inl ⟨rfl, Below.refl _ _⟩
    case round =>
      rcases hrel with ⟨rfl, hbi⟩ | ⟨rfl, hjG, hbi⟩
      · have hb3 := chain hbel hbi
        have c0 := (hb3.cell (p := ⟨g, 0, none⟩) hgl).trans K0.out
        have c1 := (hb3.cell (p := ⟨g, 1, none⟩) hgl).trans K1.out
        obtain ⟨V, hV⟩ : ∃ V, pmo (j + 1) hf q = V := ⟨_, rfl⟩
        have C2 : Hid (∀ W, Calls Tryz.prog 191 #[.int .i64 ((j : Int) + 1), .int .i64 hf, .int .i64 q] W fun e w' => e = .returned (.int .i64 (V : Nat)) ∧ W = w') := fun W => by
          have := gen_power (j + 1) hf q W (by omega) (by omega) (by omega) hf2
          rw [hV] at this; simpa using this
        have HBI : Hid (Below wo.heap.size wo (wr.alloc (.cells #[.int .i64 2, .int .i64 fm] 126))) := hbi.alloc hbi.size _
        by_cases hlast : j + 1 = G
        · have hV1 : V ≠ 1 := by rw [← hV, hlast]; exact HA.out
          have t1 : ((V : Int) == 1) = false := bno (by omega)
          clear hV
          go_wp2_with fail
          refine (C2.out _).mono ?_; rintro e w' ⟨rfl, rfl⟩
          go_wp2_with fail
          go_roundw
          case rel => exact Or.inr ⟨rfl, hlast, HBI.out⟩
          case measure => simp [intOf]
        · have hV1 : V = 1 := by rw [← hV]; exact HL.out _ (by omega) (by omega)
          subst hV1
          clear hV
          have HB4 := Lib.hid (chain hbel HBI.out)
          have h9 : j + 1 < G := by omega
          go_wp2_with fail
          refine (C2.out _).mono ?_; rintro e w' ⟨rfl, rfl⟩
          go_wp2_with fail
          go_roundw
          case rel => exact ⟨j + 1, h9, by go_num, HB4.out⟩
          case measure => simp [intOf]; omega
      · have hb3 := Lib.hid (chain HBL.out (chain hbel hbi))
        have HR : Hid ((j : Int) + 1 = (G : Int)) := by unfold Hid; omega
        clear hbi hbel
        go_wp2_with fail
        rw [Exit.noGoto_ret]
        go_ret2
        exact ⟨by simp [HR.out], hb3.out⟩
theorem genL_fits {q : Nat} (h : IsFq q) : ∀ x ∈ genL q, fits .i64 x := by
  intro x hx; obtain ⟨i, _, rfl⟩ := List.mem_map.1 hx
  have hb := fq_bd h
  have := gp_lt q i (by omega)
  exact fits_i64.2 (by omega)
set_option maxHeartbeats 1000000 in
theorem gen_Powers {q : Nat} (w : World) (h : IsFq q) :
    Calls Tryz.prog 149 #[.int .i64 q] w (GivesRowE .i64 (genL q) 0 w) := by
  have hb := fq_bd h
  have hg := gq_bd h
  have C0 : Hid (∀ W, Calls Tryz.prog 175 #[.int .i64 q] W fun e w' => e = .returned (.tuple #[.int .i64 (gq q : Nat), .int .i64 0]) ∧ Below W.heap.size W w') := fun W => gen_Gen W h
  have H0 : Hid (gp q 0 = 1) := gp_zero h
  have HS : Hid (∀ i, gp q i * gq q % q = gp q (i + 1)) := fun i => (gp_succ q i).symm
  have HLT : Hid (∀ i, gp q i < q) := fun i => gp_lt q i (by omega)
  have HF := Lib.hid (genL_fits h)
  obtain ⟨G, hG⟩ : ∃ G, gq q = G := ⟨_, rfl⟩
  rw [hG] at C0 HS hg
  obtain ⟨n, hn⟩ : ∃ n, q - 1 = n := ⟨_, rfl⟩
  have hqi : (q : Int) - 1 = (n : Int) := by omega
  have HN := Lib.hid hn
  have z1 : ((q : Int) == 0) = false := bno (by omega)
  have z2 : ¬ (q : Int) = 0 := by omega
  obtain ⟨i0, hi, hz0, hz1, hz2⟩ := info_parts info_int
  clear hG h
  go_enter Tryz.func149, Tryz.ntmps149
  go_wp2_with fail
  refine (C0.out _).mono ?_; rintro e w1 ⟨rfl, hb1⟩
  go_wp2_with (at_make; refine wpList_make_full _ rfl _ _ 44 rfl w1.heap.size 3 i0 (.int .i64 0) 1 Tryz.underlying44 hi hz0 hz1 .i64 .i64 n n n rfl rfl rfl rfl (by rw [hz2]; omega) (by unfold maxLen; omega) (Nat.le_refl _) ?_)
  intro w2 hown0 hgrow0
  have hown := Own.made hown0 hgrow0
  clear hown0 hgrow0
  go_wp2_with fail
  go_loopw [7, 22] (fun p i wr => ∃ (k v : Nat), k ≤ n ∧ i = .int .i64 k ∧ p = .int .i64 v ∧ Hid (v = gp q k) ∧ v < q ∧ OwnAt .i64 3 w1 wr w1.heap.size n (fun j => if j < k then (gp q j : Nat) else 0)) (fun _ i _ => n - (intOf i).toNat)
  case atStart => exact ⟨0, 1, Nat.zero_le _, rfl, rfl, H0.out.symm, by omega, own_eqz hown (fun j => if_neg (by omega))⟩
  case round =>
    obtain ⟨k, v, hk, rfl, rfl, HV, hv, hown⟩ := hrel
    by_cases hlt : k < n
    · have hcell := hown.cell k hlt
      rw [if_neg (Nat.lt_irrefl k)] at hcell
      have hfz := hown.free k
      have hnext := hown.store k hlt v (f' := fun j => if j < k + 1 then (gp q j : Nat) else 0) (by rw [if_pos (by omega), HV.out]) (fun j _ hj => by
        by_cases h : j < k
        · rw [if_pos h, if_pos (by omega)]
        · rw [if_neg h, if_neg (by omega)])
      have HNX := Lib.hid hnext
      obtain ⟨s, hs⟩ : ∃ s, v * G = s := ⟨_, rfl⟩
      have hs1 : s ≤ 131072 * 131072 := by rw [← hs]; exact Nat.mul_le_mul (by omega) (by omega)
      have m1 := mulN v G s hs
      obtain ⟨r, hr⟩ : ∃ r, s % q = r := ⟨_, rfl⟩
      have r1 := (modN s q r hr).1
      have r2 := (modN s q r hr).2
      have HM : Hid (r = gp q (k + 1)) := by unfold Hid; rw [← hr, ← hs, HV.out]; exact HS.out k
      have hrq : r < q := by rw [HM.out]; exact HLT.out _
      clear hown hnext hr hs
      go_wp2_with fail
      go_roundw
      case rel => exact ⟨k + 1, r, by omega, by go_num, rfl, HM.out, hrq, HNX.out⟩
      case measure => simp [intOf]; omega
    · have hkn : k = n := by omega
      have hrow := hown.row (xs := genL q) (by rw [genL_len]; exact HN.out) HF.out (fun i hi => by rw [nth_genL q i (by rw [HN.out]; exact hi), if_pos (by omega)]) (by omega)
      have hb2 := Lib.hid (chain hb1 hown.below)
      have HR := Lib.hid hrow
      have HL : Hid ((genL q).length = n) := (genL_len q).trans HN.out
      clear hown hrow hb1
      go_wp2_with fail
      go_ret2
      exact ⟨some ⟨w1.heap.size, 0, none⟩, n, by simp [HL.out], HR.out, by rw [HL.out]; exact ⟨Nat.le_refl _, fun h => by cases h⟩, hb2.out⟩
end Go.Proofs.YtlnlijeamflpiaaGreat

namespace Go.Proofs.YtlnlijeamflpiaaGreat
open Go.RowKit
set_option linter.unusedVariables false
set_option linter.unusedSimpArgs false
set_option maxRecDepth 100000
theorem flipW {P : Program} {f : FuncId} {args : Array Value} {w : World} {x : Ending} (h : Calls P f args w fun e w' => e = x ∧ w = w') : Calls P f args w fun e w' => e = x ∧ w' = w := h.mono fun _ _ ⟨h1, h2⟩ => ⟨h1, h2.symm⟩
end Go.Proofs.YtlnlijeamflpiaaGreat

namespace Go.Proofs.YtlnlijeamflpiaaGreat
open Go.RowKit Sm
set_option linter.unusedVariables false
set_option linter.unusedSimpArgs false
set_option maxRecDepth 100000
theorem cellFar (W : World) (g r b i : Nat) (v : Value) (h : g ≠ b) : ((W.setCell ⟨g, r, none⟩ v).drew).cell? ⟨b, i, none⟩ = W.cell? ⟨b, i, none⟩ :=
  World.cell?_setCell_other W ⟨g, r, none⟩ ⟨b, i, none⟩ v (fun e => h (by cases e; rfl))
/-- What a call leaves that writes block g alone. -/
def Kept (g : Nat) (W W' : World) : Prop := W.heap.size ≤ W'.heap.size ∧ ∀ b i, b ≠ g → b < W.heap.size → W'.cell? ⟨b, i, none⟩ = W.cell? ⟨b, i, none⟩
theorem Kept.trans {g : Nat} {A B C : World} (h : Kept g A B) (k : Kept g B C) : Kept g A C := ⟨Nat.le_trans h.1 k.1, fun b i hb hl => (k.2 b i hb (Nat.lt_of_lt_of_le hl h.1)).trans (h.2 b i hb hl)⟩
set_option maxHeartbeats 1000000 in
theorem stock_one1 (a b s d t n g px py pw : Nat) (ax aw : Option Addr) (cx cw : Nat) (xs ws : List Int) (f : Nat → Int) (w W : World)
    (hx : Row .u64 w ax xs) (hw : Row .u64 w aw ws) (hxl : xs.length = n) (hwl : ws.length = n) (hn : n ≤ 16777216)
    (hpx : W.cell? ⟨px, 0, none⟩ = some (.slice ax n cx)) (hpy : W.cell? ⟨py, 0, none⟩ = some (.slice (some ⟨g, 0, none⟩) n n)) (hpw : W.cell? ⟨pw, 0, none⟩ = some (.slice aw n cw))
    (n1 : g ≠ px) (n2 : g ≠ py) (n3 : g ≠ pw) (hown : OwnAt .u64 23 w W g n f) (ha : a < n) (hb : b < n) (hs : s < n) (hd : d < n) (ht : t < n) :
    Calls Tryz.prog 200 #[.int .i64 a, .int .i64 b, .int .i64 s, .int .i64 d, .int .i64 t, .pointer (some ⟨px, 0, none⟩), .pointer (some ⟨py, 0, none⟩), .pointer (some ⟨pw, 0, none⟩)] W
      fun e W' => (∃ v, e = .returned v) ∧ Kept g W W' ∧ OwnAt .u64 23 w W' g n (fun j => if j = d then (nth xs a - nth xs b) * nth ws t % 18446744069414584321 else if j = s then (nth xs a + nth xs b) % 18446744069414584321 else f j) := by
  have bx := World.block_lt_of_cell? W _ hpx
  have by' := World.block_lt_of_cell? W _ hpy
  have bw := World.block_lt_of_cell? W _ hpw
  obtain ⟨xb, xo, rfl, hcx⟩ := (hx.below hown.below).at (by omega)
  obtain ⟨wb, wo, rfl, hcw⟩ := (hw.below hown.below).at (by omega)
  have hxa := hcx a (by omega)
  have hxb := hcx b (by omega)
  have hwt := hcw t (by omega)
  have fa := fits_u64.1 (hx.wf _ (nth_mem (show a < xs.length by omega)))
  have fb := fits_u64.1 (hx.wf _ (nth_mem (show b < xs.length by omega)))
  have ft := fits_u64.1 (hw.wf _ (nth_mem (show t < ws.length by omega)))
  -- the rows lie ahead of the call's own block
  have hxg : xb < w.heap.size := by
    rcases hx.lies with h1 | ⟨b', o', h1, h2⟩
    · subst h1; simp at hxl; omega
    · cases h1; exact World.block_lt_of_cell? w _ (h2 0 (by omega))
  have hwg : wb < w.heap.size := by
    rcases hw.lies with h1 | ⟨b', o', h1, h2⟩
    · subst h1; simp at hwl; omega
    · cases h1; exact World.block_lt_of_cell? w _ (h2 0 (by omega))
  have hbase := hown.base
  have hst1 := (hown.store s hs ((nth xs a + nth xs b) % 18446744069414584321) (f' := fun j => if j = s then (nth xs a + nth xs b) % 18446744069414584321 else f j) (if_pos rfl) (fun j _ hj => if_neg hj)).later (Below.refl _ _).drew
  have hst2 := (hst1.store d hd ((nth xs a - nth xs b) * nth ws t % 18446744069414584321) (f' := fun j => if j = d then (nth xs a - nth xs b) * nth ws t % 18446744069414584321 else if j = s then (nth xs a + nth xs b) % 18446744069414584321 else f j) (if_pos rfl) (fun j _ hj => if_neg hj)).later (Below.refl _ _).drew
  obtain ⟨x, hxx⟩ : ∃ x, nth xs a = x := ⟨_, rfl⟩
  obtain ⟨y, hyy⟩ : ∃ y, nth xs b = y := ⟨_, rfl⟩
  obtain ⟨z, hzz⟩ : ∃ z, nth ws t = z := ⟨_, rfl⟩
  rw [hxx, hyy, hzz] at hst2
  rw [hxx, hyy] at hst1
  rw [hxx] at hxa fa
  rw [hyy] at hxb fb
  rw [hzz] at hwt ft
  rw [hxx, hyy, hzz]
  have hc1 := hown.cell s hs
  have hf1 := hown.free s
  have hc2 := hst1.cell d hd
  have hf2 := hst1.free d
  obtain ⟨v1, hv1⟩ : ∃ v1, f s = v1 := ⟨_, rfl⟩
  rw [hv1] at hc1
  obtain ⟨v2, hv2⟩ : ∃ v2, (if d = s then (x + y) % 18446744069414584321 else f d) = v2 := ⟨_, rfl⟩
  rw [hv2] at hc2
  have hsub : 0 ≤ (x - y) % 18446744069414584321 ∧ (x - y) % 18446744069414584321 < 18446744069414584321 := by omega
  have hmul : (x - y) % 18446744069414584321 * z % 18446744069414584321 = (x - y) * z % 18446744069414584321 := modmul_l _ _ _
  have HM := Lib.hid hmul
  have hkeep : Kept g W (((((W.setCell ⟨g, s, none⟩ (.int .u64 ((x + y) % 18446744069414584321))).drew).setCell ⟨g, d, none⟩ (.int .u64 ((x - y) * z % 18446744069414584321))).drew)) := ⟨by simp, fun b' i hb' _ => by
    rw [cellFar _ _ _ _ _ _ (Ne.symm hb'), cellFar _ _ _ _ _ _ (Ne.symm hb')]⟩
  have HK := Lib.hid hkeep
  have HST := Lib.hid hst2
  have m1 : ∀ i : Nat, ((W.setCell ⟨g, s, none⟩ (.int .u64 ((x + y) % 18446744069414584321))).drew).cell? ⟨px, 0, none⟩ = some (.slice (some ⟨xb, xo, none⟩) n cx) := fun i => (cellFar _ _ _ _ _ _ n1).trans hpx
  have q1 := m1 0
  have q2 := (cellFar W g s py 0 (.int .u64 ((x + y) % 18446744069414584321)) n2).trans hpy
  have q3 := (cellFar W g s pw 0 (.int .u64 ((x + y) % 18446744069414584321)) n3).trans hpw
  have q4 := (cellFar W g s xb (xo + a) (.int .u64 ((x + y) % 18446744069414584321)) (by omega)).trans hxa
  have q5 := (cellFar W g s xb (xo + b) (.int .u64 ((x + y) % 18446744069414584321)) (by omega)).trans hxb
  have q6 := (cellFar W g s wb (wo + t) (.int .u64 ((x + y) % 18446744069414584321)) (by omega)).trans hwt
  have hlt1 : W.heap.size ≤ ((W.setCell ⟨g, s, none⟩ (.int .u64 ((x + y) % 18446744069414584321))).drew).heap.size := by simp
  obtain ⟨W1, hW1⟩ : ∃ W1, (W.setCell ⟨g, s, none⟩ (.int .u64 ((x + y) % 18446744069414584321))).drew = W1 := ⟨_, rfl⟩
  rw [hW1] at q1 q2 q3 q4 q5 q6 hc2 hf2 HK HST
  have HW1 := Lib.hid hW1
  have g1 : (0 : Int) ≤ (a : Int) := by omega
  have g2 : (a : Int) < (n : Int) := by omega
  have g3 : (0 : Int) ≤ (b : Int) := by omega
  have g4 : (b : Int) < (n : Int) := by omega
  have g5 : (0 : Int) ≤ (s : Int) := by omega
  have g6 : (s : Int) < (n : Int) := by omega
  have g7 : (0 : Int) ≤ (d : Int) := by omega
  have g8 : (d : Int) < (n : Int) := by omega
  have g9 : (0 : Int) ≤ (t : Int) := by omega
  have g10 : (t : Int) < (n : Int) := by omega
  clear hx hw hxl hwl hcx hcw hst1 hst2 hxx hyy hzz hv1 hv2 hmul hkeep m1 hown hW1 hlt1
  go_enter Tryz.func200, Tryz.ntmps200
  go_wp2_with fail
  refine wp_region_still_tail 11 (by kernel_rfl) (by kernel_rfl) ?_; simp only [List.take_succ_cons, List.take_zero, List.drop_succ_cons, List.drop_zero]
  repeat still_step
  still_call (flipW (gold_Add x y _ (by omega) (by omega) (by omega) (by omega)))
  try refine wpStill_nil ?_
  go_wp2_with fail
  rw [HW1.out]
  refine wp_region_still_tail 16 (by kernel_rfl) (by kernel_rfl) ?_; simp only [List.take_succ_cons, List.take_zero, List.drop_succ_cons, List.drop_zero]
  repeat still_step
  still_call (flipW (gold_Sub x y _ (by omega) (by omega) (by omega) (by omega)))
  repeat still_step
  still_call (flipW (gold_Mul ((x - y) % 18446744069414584321) z _ (by omega) (by omega) (by omega) (by omega)))
  try refine wpStill_nil ?_
  rw [HM.out]
  go_wp2_with fail
  refine bodyPost_end (results_none rfl _ _ _) rfl ?_
  exact ⟨⟨_, rfl⟩, HK.out, HST.out⟩
end Go.Proofs.YtlnlijeamflpiaaGreat

namespace Go.Proofs.YtlnlijeamflpiaaGreat
open Go.RowKit Sm
set_option linter.unusedVariables false
set_option linter.unusedSimpArgs false
set_option maxRecDepth 100000
theorem own_eqn {k : IntKind} {e : TypeId} {w wr : World} {g n : Nat} {f f' : Nat → Int} (h : OwnAt k e w wr g n f) (he : ∀ j, j < n → f' j = f j) : OwnAt k e w wr g n f' := by
  refine ⟨?_, h.below⟩
  have e1 : ((List.range n).map fun j => Value.int k (f' j)) = ((List.range n).map fun j => Value.int k (f j)) := List.map_congr_left (fun j hj => by rw [he j (by simpa using hj)])
  rw [e1]; exact h.own
/-- What stands at place j when all pairs ahead of (i, q) are done. -/
def doneF (xs ws : List Int) (s i q j : Nat) : Int := if j / s / 2 < i ∨ (j / s / 2 = i ∧ j % s < q) then passAt xs ws s j else 0
theorem doneF_start (xs ws : List Int) (s j : Nat) : doneF xs ws s 0 0 j = 0 := by unfold doneF; generalize j / s / 2 = p; generalize j % s = r; rw [if_neg (by omega)]
theorem doneF_row (xs ws : List Int) (s i j : Nat) (hs : 0 < s) : doneF xs ws s (i + 1) 0 j = doneF xs ws s i s j := by
  have := Nat.mod_lt j hs
  unfold doneF
  generalize j / s / 2 = p at *
  generalize j % s = r at *
  by_cases h : p < i + 1
  · rw [if_pos (.inl h), if_pos (by omega)]
  · rw [if_neg (by omega), if_neg (by omega)]
theorem doneF_end (xs ws : List Int) (s h j n : Nat) (hs : 0 < s) (hn : n = s * (2 * h)) (hj : j < n) : doneF xs ws s h 0 j = passAt xs ws s j := by
  unfold doneF
  rw [if_pos]
  left
  have : j / s < 2 * h := Nat.div_lt_of_lt_mul (by omega)
  omega
theorem place_of (s q t : Nat) (hq : q < s) : (q + s * t) % s = q ∧ (q + s * t) / s = t :=
  ⟨by rw [Nat.add_mul_mod_self_left, Nat.mod_eq_of_lt hq], by rw [Nat.add_mul_div_left _ _ (by omega), Nat.div_eq_of_lt hq, Nat.zero_add]⟩
theorem doneF_step (xs ws : List Int) (s h i q n j : Nat) (hx : xs.length = n) (hn : n = s * (2 * h)) (hq : q < s) :
    doneF xs ws s i (q + 1) j = if j = q + s * (2 * i + 1) then (nth xs (q + s * i) - nth xs (q + s * (i + h))) * nth ws (i * s) % 18446744069414584321 else if j = q + s * 2 * i then (nth xs (q + s * i) + nth xs (q + s * (i + h))) % 18446744069414584321 else doneF xs ws s i q j := by
  have hh : n / 2 = s * h := by rw [hn, show s * (2 * h) = 2 * (s * h) by grind]; omega
  have e2 : q + s * 2 * i = q + s * (2 * i) := by rw [Nat.mul_assoc]
  have e3 : q + s * (i + h) = q + s * i + s * h := by rw [Nat.mul_add]; omega
  rw [e2, e3]
  by_cases h1 : j = q + s * (2 * i + 1)
  · rw [if_pos h1]
    have hp := place_of s q (2 * i + 1) hq
    subst h1
    unfold doneF
    rw [if_pos (by rw [hp.1, hp.2]; omega)]
    unfold passAt
    rw [hp.1, hp.2, hx, hh, if_neg (by omega), show (2 * i + 1) / 2 = i by omega]
  · rw [if_neg h1]
    by_cases h2 : j = q + s * (2 * i)
    · rw [if_pos h2]
      have hp := place_of s q (2 * i) hq
      subst h2
      unfold doneF
      rw [if_pos (by rw [hp.1, hp.2]; omega)]
      unfold passAt
      rw [hp.1, hp.2, hx, hh, if_pos (by omega), show 2 * i / 2 = i by omega]
    · rw [if_neg h2]
      have key : ¬ (j / s / 2 = i ∧ j % s = q) := by
        rintro ⟨k1, k2⟩
        have k3 := Nat.div_add_mod j s
        rw [k2] at k3
        rcases (show j / s = 2 * i ∨ j / s = 2 * i + 1 by omega) with k4 | k4
        · rw [k4] at k3; omega
        · rw [k4] at k3; omega
      unfold doneF
      generalize j / s / 2 = p at *
      generalize j % s = r at *
      by_cases h3 : p < i ∨ (p = i ∧ r < q)
      · rw [if_pos h3, if_pos (by omega)]
      · rw [if_neg h3, if_neg (by omega)]
/-- The cells that a pass reads. -/
structure RunCells (wr : World) (g pb px py pw n s : Nat) (ax aw : Option Addr) (cx cw : Nat) (fv : Value) : Prop where
  b0 : wr.cell? ⟨pb, 0, none⟩ = some (.int .i64 n)
  b1 : wr.cell? ⟨pb, 1, none⟩ = some (.int .i64 s)
  b2 : wr.cell? ⟨pb, 2, none⟩ = some fv
  px : wr.cell? ⟨px, 0, none⟩ = some (.slice ax n cx)
  py : wr.cell? ⟨py, 0, none⟩ = some (.slice (some ⟨g, 0, none⟩) n n)
  pw : wr.cell? ⟨pw, 0, none⟩ = some (.slice aw n cw)
theorem RunCells.kept {W W' : World} {g pb px py pw n s : Nat} {ax aw : Option Addr} {cx cw : Nat} {fv : Value} (h : RunCells W g pb px py pw n s ax aw cx cw fv) (hk : Kept g W W') (n0 : pb ≠ g) (n1 : px ≠ g) (n2 : py ≠ g) (n3 : pw ≠ g) : RunCells W' g pb px py pw n s ax aw cx cw fv :=
  ⟨(hk.2 _ _ n0 (World.block_lt_of_cell? W _ h.b0)).trans h.b0, (hk.2 _ _ n0 (World.block_lt_of_cell? W _ h.b0)).trans h.b1, (hk.2 _ _ n0 (World.block_lt_of_cell? W _ h.b0)).trans h.b2,
   (hk.2 _ _ n1 (World.block_lt_of_cell? W _ h.px)).trans h.px, (hk.2 _ _ n2 (World.block_lt_of_cell? W _ h.py)).trans h.py, (hk.2 _ _ n3 (World.block_lt_of_cell? W _ h.pw)).trans h.pw⟩
set_option maxHeartbeats 2000000 in
theorem stock_run (n s h g px py pw : Nat) (ax aw : Option Addr) (cx cw : Nat) (xs ws : List Int) (w W : World)
    (hx : Row .u64 w ax xs) (hw : Row .u64 w aw ws) (hxl : xs.length = n) (hwl : ws.length = n) (hn : n ≤ 16777216) (hns : n = s * (2 * h)) (hs : 0 < s) (hh : 0 < h)
    (hpx : W.cell? ⟨px, 0, none⟩ = some (.slice ax n cx)) (hpy : W.cell? ⟨py, 0, none⟩ = some (.slice (some ⟨g, 0, none⟩) n n)) (hpw : W.cell? ⟨pw, 0, none⟩ = some (.slice aw n cw))
    (n1 : px ≠ g) (n2 : py ≠ g) (n3 : pw ≠ g) (hown : OwnAt .u64 23 w W g n (fun _ => 0)) :
    Calls Tryz.prog 202 #[.agg #[.int .i64 n, .int .i64 s, .func (.func 200) #[] #[.pointer (some ⟨px, 0, none⟩), .pointer (some ⟨py, 0, none⟩), .pointer (some ⟨pw, 0, none⟩)]]] W
      fun e W' => (∃ v, e = .returned v) ∧ Kept g W W' ∧ OwnAt .u64 23 w W' g n (passAt xs ws s) := by
  have HX := Lib.hid hx
  have HW := Lib.hid hw
  have HXL := Lib.hid hxl
  have HWL := Lib.hid hwl
  have HNS := Lib.hid hns
  have h2s : s * 2 ≤ n := by rw [hns]; exact Nat.mul_le_mul_left s (by omega)
  have hhn : h ≤ n := by
    rw [hns]
    calc h ≤ 1 * (2 * h) := by omega
      _ ≤ s * (2 * h) := Nat.mul_le_mul_right _ hs
  have eh : (n : Int) / (2 * (s : Int)) = (h : Int) := by
    have e : n = 2 * s * h := by rw [hns]; grind
    have : n / (2 * s) = h := by rw [e, Nat.mul_div_cancel_left _ (by omega)]
    rw [show (2 : Int) * (s : Int) = ((2 * s : Nat) : Int) by omega, ← Int.natCast_ediv, this]
  have ehw : IntKind.i64.wrap (h : Int) = (h : Int) := IntWalk.i64_in _ (by omega)
  have e0 : ((2 * (s : Int)) == 0) = false := by simp; omega
  have e0' : ¬ (2 * (s : Int)) = 0 := by omega
  have e0'' : ¬ s = 0 := by omega
  have hcells : RunCells (W.alloc (.cells #[.int .i64 n, .int .i64 s, .func (.func 200) #[] #[.pointer (some ⟨px, 0, none⟩), .pointer (some ⟨py, 0, none⟩), .pointer (some ⟨pw, 0, none⟩)]] 179)) g W.heap.size px py pw n s ax aw cx cw (.func (.func 200) #[] #[.pointer (some ⟨px, 0, none⟩), .pointer (some ⟨py, 0, none⟩), .pointer (some ⟨pw, 0, none⟩)]) :=
    ⟨by simp, by simp, by simp, (cell_past _ _ _ (World.block_lt_of_cell? W _ hpx)).trans hpx, (cell_past _ _ _ (World.block_lt_of_cell? W _ hpy)).trans hpy, (cell_past _ _ _ (World.block_lt_of_cell? W _ hpw)).trans hpw⟩
  have hgW := hown.base
  have hown1 := own_eqn (hown.later ((Below.refl _ _).alloc (Nat.le_refl _) (.cells #[.int .i64 n, .int .i64 s, .func (.func 200) #[] #[.pointer (some ⟨px, 0, none⟩), .pointer (some ⟨py, 0, none⟩), .pointer (some ⟨pw, 0, none⟩)]] 179))) (fun j _ => doneF_start xs ws s j)
  have HC := Lib.hid hcells
  have HO := Lib.hid hown1
  have HN0 : Hid (W.heap.size ≠ g ∧ px ≠ g ∧ py ≠ g ∧ pw ≠ g) := ⟨by omega, n1, n2, n3⟩
  clear hx hw hxl hwl hns hpx hpy hpw hown hcells hown1 n1 n2 n3
  go_enter Tryz.func202, Tryz.ntmps202
  go_wp2_with fail
  go_loopw [12] (fun v wr => ∃ i : Nat, i ≤ h ∧ v = .int .i64 i ∧ OwnAt .u64 23 w wr g n (doneF xs ws s i 0) ∧ Kept g W wr ∧ RunCells wr g W.heap.size px py pw n s ax aw cx cw (.func (.func 200) #[] #[.pointer (some ⟨px, 0, none⟩), .pointer (some ⟨py, 0, none⟩), .pointer (some ⟨pw, 0, none⟩)])) (fun v _ => h - (intOf v).toNat)
  case atStart => exact ⟨0, Nat.zero_le _, rfl, HO.out, ⟨by simp, fun b i _ hb => cell_past _ _ _ hb⟩, HC.out⟩
  case round =>
    obtain ⟨i, hi, rfl, hown, hkept, hcells⟩ := hrel
    by_cases hlt : i < h
    · obtain ⟨wo, hwo⟩ : ∃ wo : World, wo = wr := ⟨_, rfl⟩
      subst hwo
      have hb1 := hcells.b1
      go_wp2_with fail
      clear hb1
      go_loopw [17] (fun v wr => ∃ q : Nat, q ≤ s ∧ v = .int .i64 q ∧ OwnAt .u64 23 w wr g n (doneF xs ws s i q) ∧ Kept g W wr ∧ RunCells wr g W.heap.size px py pw n s ax aw cx cw (.func (.func 200) #[] #[.pointer (some ⟨px, 0, none⟩), .pointer (some ⟨py, 0, none⟩), .pointer (some ⟨pw, 0, none⟩)])) (fun v _ => s - (intOf v).toNat)
      case atStart => exact ⟨0, Nat.zero_le _, rfl, hown, hkept, hcells⟩
      case round =>
        obtain ⟨q, hq, rfl, hown, hkept, hcells⟩ := hrel
        by_cases hqs : q < s
        · have hstep := fun j (hj : j < n) => doneF_step xs ws s h i q n j HXL.out HNS.out hqs
          have hle1 : s * (2 * i + 2) ≤ n := by rw [HNS.out]; exact Nat.mul_le_mul_left s (by omega)
          have hle2 : s * (i + h + 1) ≤ n := by rw [HNS.out]; exact Nat.mul_le_mul_left s (by omega)
          have hle3 : s * (i + 1) ≤ n := by rw [HNS.out]; exact Nat.mul_le_mul_left s (by omega)
          rw [Nat.mul_add] at hle1 hle2 hle3
          have x1 : s * (2 * i + 1) = s * (2 * i) + s := by rw [Nat.mul_add, Nat.mul_one]
          have x2 : s * 2 * i = s * (2 * i) := Nat.mul_assoc _ _ _
          have y1 : (s : Int) * (i : Int) = ((s * i : Nat) : Int) := (Int.natCast_mul _ _).symm
          have y2 : (s : Int) * ((i : Int) + (h : Int)) = ((s * (i + h) : Nat) : Int) := by rw [Int.natCast_mul, Int.natCast_add]
          have y3 : (s : Int) * 2 * (i : Int) = ((s * 2 * i : Nat) : Int) := by rw [Int.natCast_mul, Int.natCast_mul]; rfl
          have y4 : (s : Int) * (2 * (i : Int) + 1) = ((s * (2 * i + 1) : Nat) : Int) := by rw [Int.natCast_mul, Int.natCast_add, Int.natCast_mul]; rfl
          have y5 : (i : Int) * (s : Int) = ((i * s : Nat) : Int) := (Int.natCast_mul _ _).symm
          have x5 : i * s = s * i := Nat.mul_comm _ _
          rw [x2] at y3 hstep
          rw [x1] at y4 hstep
          rw [x5] at y5 hstep
          obtain ⟨A, hA⟩ : ∃ A, s * i = A := ⟨_, rfl⟩
          obtain ⟨B, hB⟩ : ∃ B, s * (i + h) = B := ⟨_, rfl⟩
          obtain ⟨C, hC⟩ : ∃ C, s * (2 * i) = C := ⟨_, rfl⟩
          rw [hA] at y1 y5 hstep hle3
          rw [hB] at y2 hstep hle2
          rw [hC] at y3 y4 hstep hle1
          have hcall := stock_one1 (q + A) (q + B) (q + C) (q + (C + s)) A n g px py pw ax aw cx cw xs ws (doneF xs ws s i q) w wr HX.out HW.out HXL.out HWL.out hn hcells.px hcells.py hcells.pw HN0.out.2.1.symm HN0.out.2.2.1.symm HN0.out.2.2.2.symm hown (by omega) (by omega) (by omega) (by omega) (by omega)
          have HCALL := Lib.hid hcall
          have HSTEP := Lib.hid hstep
          have HKEPT := Lib.hid hkept
          have HCS := Lib.hid hcells
          have hb1 := hcells.b1
          have hb2 := hcells.b2
          have c1 : ((q + A : Nat) : Int) = (q : Int) + (A : Int) := Int.natCast_add _ _
          have c2 : ((q + B : Nat) : Int) = (q : Int) + (B : Int) := Int.natCast_add _ _
          have c3 : ((q + C : Nat) : Int) = (q : Int) + (C : Int) := Int.natCast_add _ _
          have c4 : ((q + (C + s) : Nat) : Int) = (q : Int) + ((C + s : Nat) : Int) := Int.natCast_add _ _
          have HCC := Lib.hid (And.intro c1 (And.intro c2 (And.intro c3 c4)))
          have y4' : (s : Int) * (2 * (i : Int) + 1) = (C : Int) + (s : Int) := by rw [y4]; omega
          have A1 : A ≤ 16777216 := by omega
          have B1 : B ≤ 16777216 := by omega
          have C1 : C + s ≤ 16777216 := by omega
          have q1 : q ≤ 16777216 := by omega
          clear hA hB hC hcall hstep hkept hcells hown y4 x1 x2 x5 c1 c2 c3 c4 hle1 hle2 hle3
          go_wp2_with fail
          have hc := HCALL.out
          simp only [Int.natCast_add] at hc
          refine hc.mono ?_
          rintro e W' ⟨⟨v, rfl⟩, hk, hown'⟩
          have HO' := Lib.hid (own_eqn hown' (fun j hj => HSTEP.out j hj))
          have HK' := Lib.hid hk
          clear hown' hk hc
          go_wp2_with fail
          go_roundw
          case rel => exact ⟨q + 1, by omega, by go_num, HO'.out, HKEPT.out.trans HK'.out, HCS.out.kept HK'.out HN0.out.1 HN0.out.2.1 HN0.out.2.2.1 HN0.out.2.2.2⟩
          case measure => simp [intOf]; omega
        · obtain rfl : q = s := by omega
          have HO' := Lib.hid (own_eqn hown (fun j _ => doneF_row xs ws q i j hs))
          have HKEPT := Lib.hid hkept
          have HCS := Lib.hid hcells
          clear hown hkept hcells
          go_wp2_with fail
          go_roundw
          case rel => exact ⟨i + 1, by omega, by go_num, HO'.out, HKEPT.out, HCS.out⟩
          case measure => simp [intOf]; omega
    · obtain rfl : i = h := by omega
      have HO' := Lib.hid (own_eqn hown (fun j hj => (doneF_end xs ws s i j n hs HNS.out hj).symm))
      have HKEPT := Lib.hid hkept
      clear hown hkept hcells
      go_wp2_with fail
      refine bodyPost_end (results_none rfl _ _ _) rfl ?_
      exact ⟨⟨_, rfl⟩, HKEPT.out, HO'.out⟩
end Go.Proofs.YtlnlijeamflpiaaGreat

namespace Go.Proofs.YtlnlijeamflpiaaGreat
open Go.RowKit Sm
set_option linter.unusedVariables false
set_option linter.unusedSimpArgs false
set_option maxRecDepth 100000
theorem madeAt {k : IntKind} {e : TypeId} {w wx w1 : World} {g n : Nat} (hb : Below w.heap.size w wx) (h : w1.ownsRow w.heap.size e 1 (.slice (some ⟨g, 0, none⟩) n n) n (madeCells #[Value.int k 0] n).toList) (hg : wx.grownBy w1 none) :
    OwnAt k e w w1 g n (fun _ => 0) := by
  refine ⟨?_, hb.grown hg hb.size (by simp)⟩
  have e1 : (madeCells #[Value.int k 0] n).toList = (List.range n).map fun j => Value.int k 0 := by
    rw [toList_madeCells_one]
    apply List.ext_getElem (by simp)
    intro i h1 h2
    simp
  rw [e1] at h
  exact h
set_option maxHeartbeats 1000000 in
theorem stock_oneO (n s h : Nat) (ax aw : Option Addr) (cx cw : Nat) (xs ws : List Int) (w : World)
    (hx : Row .u64 w ax xs) (hw : Row .u64 w aw ws) (hxl : xs.length = n) (hwl : ws.length = n) (hn : n ≤ 16777216) (hns : n = s * (2 * h)) (hs : 0 < s) (hh : 0 < h) :
    Calls Tryz.prog 192 #[.slice ax n cx, .int .i64 s, .slice aw n cw] w (GivesOwn .u64 23 (passL xs ws s) w) := by
  obtain ⟨i0, hi, hz0, hz1, hz2⟩ := info_parts info_u64
  have HX := Lib.hid hx
  have HW := Lib.hid hw
  have HXL := Lib.hid hxl
  have HWL := Lib.hid hwl
  have HNS := Lib.hid hns
  clear hx hw hxl hwl hns
  go_enter Tryz.func192, Tryz.ntmps192
  go_wp2_with (at_make; refine wpList_make_full _ rfl _ _ 22 rfl w.heap.size 23 i0 (.int .u64 0) 1 Tryz.underlying22 hi hz0 hz1 .i64 .i64 n n n rfl rfl rfl rfl (by rw [hz2]; omega) (by unfold maxLen; omega) (by simp; omega) ?_)
  intro w1 hown0 hgrow0
  have hb0 : Below w.heap.size w ((w.alloc (.cells #[.slice ax n cx] 22)).alloc (.cells #[.slice aw n cw] 22)) := ((Below.refl _ _).alloc (Nat.le_refl _) _).alloc (by simp) _
  have hown := madeAt hb0 hown0 hgrow0
  have c1 : w1.cell? ⟨w.heap.size, 0, none⟩ = some (.slice ax n cx) := hgrow0.cell (a := ⟨w.heap.size, 0, none⟩) ((cell_past _ _ _ (by simp)).trans (one_new _ _ _)) (by simp)
  have c2 : w1.cell? ⟨w.heap.size + 1, 0, none⟩ = some (.slice aw n cw) := hgrow0.cell (a := ⟨w.heap.size + 1, 0, none⟩) (cell_new (by simp)) (by simp)
  have hsz := hown.base
  have l1 : w.heap.size < w1.heap.size := by omega
  have l2 : w.heap.size + 1 < w1.heap.size := by omega
  have d1 : (w1.alloc (.cells #[.slice (some ⟨w.heap.size + 1 + 1, 0, none⟩) n n] 22)).cell? ⟨w.heap.size, 0, none⟩ = some (.slice ax n cx) := (cell_past _ _ _ l1).trans c1
  have HO := Lib.hid hown
  clear hown0 hgrow0 hb0 hown
  go_wp2_with fail
  have hbl : Below w1.heap.size w1 ((w1.alloc (.cells #[.slice (some ⟨w.heap.size + 1 + 1, 0, none⟩) n n] 22)).alloc (.cells #[.int .i64 n, .int .i64 s, .func (.func 200) #[] #[.pointer (some ⟨w.heap.size, 0, none⟩), .pointer (some ⟨w1.heap.size, 0, none⟩), .pointer (some ⟨w.heap.size + 1, 0, none⟩)]] 179)) := ((Below.refl _ _).alloc (Nat.le_refl _) _).alloc (by simp) _
  have p1 := (hbl.cell (p := ⟨w.heap.size, 0, none⟩) l1).trans c1
  have p2 := (hbl.cell (p := ⟨w.heap.size + 1, 0, none⟩) l2).trans c2
  have p3 : ((w1.alloc (.cells #[.slice (some ⟨w.heap.size + 1 + 1, 0, none⟩) n n] 22)).alloc (.cells #[.int .i64 n, .int .i64 s, .func (.func 200) #[] #[.pointer (some ⟨w.heap.size, 0, none⟩), .pointer (some ⟨w1.heap.size, 0, none⟩), .pointer (some ⟨w.heap.size + 1, 0, none⟩)]] 179)).cell? ⟨w1.heap.size, 0, none⟩ = some (.slice (some ⟨w.heap.size + 1 + 1, 0, none⟩) n n) := (cell_past _ _ _ (by simp)).trans (one_new _ _ _)
  refine (stock_run n s h (w.heap.size + 1 + 1) w.heap.size w1.heap.size (w.heap.size + 1) ax aw cx cw xs ws w _ HX.out HW.out HXL.out HWL.out hn HNS.out hs hh p1 p3 p2 (by omega) (by omega) (by omega) (HO.out.later hbl)).mono ?_
  rintro e W' ⟨⟨v, rfl⟩, hk, hown⟩
  have hc := (hk.2 w1.heap.size 0 (by omega) (by simp; omega)).trans p3
  have hres := hown.givesO (xs := passL xs ws s) (by rw [passL_len]; exact HXL.out) (passL_fits _ _ _) (fun i hi => nth_passL _ _ _ _ (by rw [HXL.out]; exact hi)) hn
  have HR := Lib.hid hres
  clear hown hres hk p1 p2 p3 hbl d1 c1 c2
  go_wp2_with fail
  go_ret
  exact HR.out
theorem stock_one (n s h : Nat) (ax aw : Option Addr) (cx cw : Nat) (xs ws : List Int) (w : World)
    (hx : Row .u64 w ax xs) (hw : Row .u64 w aw ws) (hxl : xs.length = n) (hwl : ws.length = n) (hn : n ≤ 16777216) (hns : n = s * (2 * h)) (hs : 0 < s) (hh : 0 < h) :
    Calls Tryz.prog 192 #[.slice ax n cx, .int .i64 s, .slice aw n cw] w (GivesRow .u64 (passL xs ws s) w) :=
  (stock_oneO n s h ax aw cx cw xs ws w hx hw hxl hwl hn hns hs hh).mono fun e w' h => h.row
end Go.Proofs.YtlnlijeamflpiaaGreat

namespace Go.Proofs.YtlnlijeamflpiaaGreat
open Go.RowKit Sm
set_option linter.unusedVariables false
set_option linter.unusedSimpArgs false
set_option maxRecDepth 100000
theorem litRow (w : World) (t : TypeId) (n : Nat) (xs : List Int) (hn : n = w.heap.size) (hw : ∀ x ∈ xs, 0 ≤ x ∧ x < 18446744073709551616) (hl : xs.length ≤ 100) : Row .u64 (w.alloc (.cells (xs.map (Value.int .u64)).toArray t)) (some ⟨n, 0, none⟩) xs := by
  subst hn; exact row_new .u64 w t xs (fun x hx => fits_u64.2 (hw x hx)) (by omega)
theorem vec_RedN2 (a : Option Addr) (n cap : Nat) (xs : List Int) (w : World) (hx : Row .u64 w a xs) (hn : xs.length = n) (hl : n ≤ 16777216) :
    Calls Tryz.prog 49 #[.slice a n cap] w (GivesRow .u64 (xs.map (· % 18446744069414584321)) w) := by
  subst hn; exact vec_Red a cap xs w hx hl
theorem half_of_pow (m j s : Nat) (hs : s = 2 ^ j) (hj : j < m) : ∃ h, 0 < h ∧ 2 ^ m = s * (2 * h) := by
  refine ⟨2 ^ (m - j - 1), Nat.pow_pos (by omega), ?_⟩
  rw [hs, ← Nat.pow_succ', ← Nat.pow_add]
  congr 1; omega
set_option maxHeartbeats 1000000 in
theorem with_ok (ax aw : Option Addr) (n m cx cw : Nat) (xs ws : List Int) (w : World) (hx : Row .u64 w ax xs) (hw : Row .u64 w aw ws) (hxl : xs.length = n) (hwl : ws.length = n) (hm : m ≤ 24) (hn : n = 2 ^ m) :
    Calls Tryz.prog 176 #[.slice ax n cx, .slice aw n cw] w (GivesRowE .u64 (withTo xs ws m) 0 w) := by
  have hP : hasP2 (n : Int) = true := (hasP2_iff _).2 ⟨m, hm, by rw [hn]⟩
  have hn2 : n ≤ 16777216 := by
    have : 2 ^ m ≤ 2 ^ 24 := Nat.pow_le_pow_right (by omega) hm
    have e : (2 : Nat) ^ 24 = 16777216 := by decide
    omega
  have hn1 : 1 ≤ n := by rw [hn]; exact Nat.pow_pos (by omega)
  have C1 : Hid (∀ w : World, Calls Tryz.prog 121 #[.int .i64 n] w fun e w' => e = .returned (.bool true) ∧ w = w') := fun w => by rw [← hP]; exact stock_Has n w (by omega)
  have HX := Lib.hid hx
  have HW := Lib.hid hw
  have HXL := Lib.hid hxl
  have HWL := Lib.hid hwl
  have HN := Lib.hid hn
  have HL : Hid (∀ j, (withTo xs ws j).length = n) := fun j => by rw [withTo_len]; exact hxl
  have h0 : ((n : Int) != (n : Int)) = false := bfalse' rfl
  clear hx hw hxl hwl hn hP
  go_enter Tryz.func176, Tryz.ntmps176
  go_wp2_with fail
  refine (C1.out _).mono ?_; rintro e w' ⟨rfl, rfl⟩
  go_wp2_with fail
  refine (vec_RedN2 ax n cx xs _ HX.out HXL.out hn2).mono ?_
  rintro e w1 ⟨a1, cap1, rfl, hr1, hcap1, hb1⟩
  have hl0 := HL.out 0
  have hl0' : (xs.map (· % 18446744069414584321)).length = n := hl0
  rw [hl0']
  rw [hl0'] at hcap1
  clear hl0 hl0'
  go_wp2_with fail
  go_loopw [6, 7] (fun v i wr => ∃ (j s : Nat) (a : Option Addr) (cap : Nat), j ≤ m ∧ Hid (s = 2 ^ j) ∧ 1 ≤ s ∧ s ≤ n ∧ i = .int .i64 s ∧ v = .slice a n cap ∧ Row .u64 wr a (withTo xs ws j) ∧ OkCap a n cap ∧ Below w.heap.size w wr) (fun _ i _ => n - (intOf i).toNat)
  case atStart => exact ⟨0, 1, a1, cap1, Nat.zero_le _, rfl, by omega, hn1, rfl, rfl, hr1, hcap1, hb1⟩
  case round =>
    obtain ⟨j, s, a, cap, hj, HS, hs1, hsn, rfl, rfl, hrow, hcap, hb⟩ := hrel
    have HR := Lib.hid hrow
    have HC := Lib.hid hcap
    clear hrow hcap
    by_cases hlt : j < m
    · obtain ⟨h, hh, hns⟩ := half_of_pow m j s HS.out hlt
      have h2s : s * 2 ≤ n := by rw [HN.out, hns]; exact Nat.mul_le_mul_left s (by omega)
      have hle : (2 : Int) * (s : Int) ≤ (n : Int) := by omega
      have HNS : Hid (n = s * (2 * h)) := HN.out.trans hns
      have HS2 : Hid (2 * s = 2 ^ (j + 1)) := by unfold Hid; rw [Nat.pow_succ, HS.out]; omega
      clear hns
      go_wp2_with fail
      refine (stock_one n s h a aw cap cw (withTo xs ws j) ws _ HR.out (HW.out.below hb) (HL.out j) HWL.out hn2 HNS.out hs1 hh).mono ?_
      rintro e w2 ⟨a2, cap2, rfl, hr2, hcap2, hb2⟩
      have hlen : (passL (withTo xs ws j) ws s).length = n := by rw [passL_len]; exact HL.out j
      rw [hlen] at hcap2 ⊢
      have HR2 : Hid (Row .u64 w2 a2 (withTo xs ws (j + 1))) := by unfold Hid; simp only [withTo]; rw [← HS.out]; exact hr2
      clear hr2 hlen
      go_wp2_with fail
      go_roundw
      case rel => exact ⟨j + 1, 2 * s, a2, cap2, by omega, HS2.out, by omega, by omega, by go_num, rfl, HR2.out, hcap2, chain hb hb2⟩
      case measure => simp [intOf]; omega
    · have hjm : j = m := by omega
      have hsn' : s = n := by rw [HS.out, HN.out, hjm]
      have hlt2 : (n : Int) < 2 * (s : Int) := by omega
      have HJ := Lib.hid hjm
      have hres : Hid (GivesRowE .u64 (withTo xs ws m) 0 w (.returned (.tuple #[.slice a n cap, .int .i64 0])) wr) := ⟨a, cap, by rw [HL.out], by rw [← HJ.out]; exact HR.out, by rw [HL.out]; exact HC.out, hb⟩
      clear hjm hsn'
      go_wp2_with fail
      go_ret2
      exact hres.out
end Go.Proofs.YtlnlijeamflpiaaGreat

namespace Go.Proofs.YtlnlijeamflpiaaGreat
open Go.RowKit Sm
set_option linter.unusedVariables false
set_option linter.unusedSimpArgs false
set_option maxRecDepth 100000
set_option maxHeartbeats 800000 in
theorem do_ok (a : Option Addr) (n m c : Nat) (d : Int) (xs : List Int) (w : World) (hx : Row .u64 w a xs) (hxl : xs.length = n) (hd : d = 0 ∨ d = 1) (hm : m ≤ 24) (hn : n = 2 ^ m) :
    Calls Tryz.prog 150 #[.slice a n c, .int .i64 d] w (GivesRowE .u64 (dftL xs (dirRt n d)) 0 w) := by
  have hP : hasP2 (n : Int) = true := (hasP2_iff _).2 ⟨m, hm, by rw [hn]⟩
  have hs : hasSz (n : Int) = true := by rw [hn]; exact hasSz_pow m hm
  have hn2 : n ≤ 16777216 := by have := (hasSz_iff.1 hs).2.1; omega
  have C1 : Hid (∀ w : World, Calls Tryz.prog 121 #[.int .i64 n] w fun e w' => e = .returned (.bool true) ∧ w = w') := fun w => by rw [← hP]; exact stock_Has n w (by omega)
  have hroot := isRoot_dir n d hs
  have hfft : withTo xs (powL (dirRt n d) n) m = dftL xs (dirRt n d) := by
    have := fft_all xs (dirRt n d) (dirBk n d) m (by rw [← hn]; exact hroot) (by rw [hxl, hn])
    rw [← hn] at this; exact this
  have HF := Lib.hid hfft
  have HX := Lib.hid hx
  have HXL := Lib.hid hxl
  have HS := Lib.hid hs
  have HN := Lib.hid hn
  have HL : Hid ((withTo xs (powL (dirRt n d) n) m).length = n) := by unfold Hid; rw [withTo_len]; exact hxl
  have HPL : Hid (∀ z : Int, (powL z n).length = n) := fun z => powL_len z n
  have hz := dirRt_range n d
  have HZ := Lib.hid hz
  clear hx hxl hs hP hn hroot hfft hz
  rcases hd with h1 | h1
  · subst h1
    have ez : Hid (dirRt n 0 = rt n) := rfl
    go_enter Tryz.func150, Tryz.ntmps150
    go_wp2_with fail
    refine (C1.out _).mono ?_; rintro e w' ⟨rfl, rfl⟩
    go_wp2_with fail
    refine (rootRoot_yes n _ HS.out).mono ?_; rintro e w' ⟨rfl, rfl⟩
    rw [← ez.out]
    go_wp2_with fail
    refine (rootPowers (dirRt n 0) n _ HZ.out.1 (by have := HZ.out.2; omega) hn2).mono ?_
    rintro e w1 ⟨a1, cap1, rfl, hr1, hcap1, hb1⟩
    rw [HPL.out]
    go_wp2_with fail
    refine (with_ok a a1 n m c cap1 xs (powL (dirRt n 0) n) _ (HX.out.below hb1) hr1 HXL.out (HPL.out _) hm HN.out).mono ?_
    rintro e w2 ⟨a2, cap2, rfl, hr2, hcap2, hb2⟩
    rw [HL.out] at hcap2 ⊢
    rw [HF.out] at hr2
    have hlen := HL.out
    rw [HF.out] at hlen
    have HR := Lib.hid hr2
    have HLEN := Lib.hid hlen
    clear hr2 hlen
    go_wp2_with fail
    go_ret2
    exact ⟨a2, cap2, by simp [HLEN.out], HR.out, by rw [HLEN.out]; exact hcap2, chain hb1 hb2⟩
  · subst h1
    have ez : Hid (dirRt n 1 = bk n) := rfl
    go_enter Tryz.func150, Tryz.ntmps150
    go_wp2_with fail
    refine (C1.out _).mono ?_; rintro e w' ⟨rfl, rfl⟩
    go_wp2_with fail
    refine (rootRoot_yes n _ HS.out).mono ?_; rintro e w' ⟨rfl, rfl⟩
    go_wp2_with fail
    refine (rootBack_yes n _ HS.out).mono ?_; rintro e w' ⟨rfl, rfl⟩
    rw [← ez.out]
    go_wp2_with fail
    refine (rootPowers (dirRt n 1) n _ HZ.out.1 (by have := HZ.out.2; omega) hn2).mono ?_
    rintro e w1 ⟨a1, cap1, rfl, hr1, hcap1, hb1⟩
    rw [HPL.out]
    go_wp2_with fail
    refine (with_ok a a1 n m c cap1 xs (powL (dirRt n 1) n) _ (HX.out.below hb1) hr1 HXL.out (HPL.out _) hm HN.out).mono ?_
    rintro e w2 ⟨a2, cap2, rfl, hr2, hcap2, hb2⟩
    rw [HL.out] at hcap2 ⊢
    rw [HF.out] at hr2
    have hlen := HL.out
    rw [HF.out] at hlen
    have HR := Lib.hid hr2
    have HLEN := Lib.hid hlen
    clear hr2 hlen
    go_wp2_with fail
    go_ret2
    exact ⟨a2, cap2, by simp [HLEN.out], HR.out, by rw [HLEN.out]; exact hcap2, chain hb1 hb2⟩
end Go.Proofs.YtlnlijeamflpiaaGreat

namespace Go.Proofs.YtlnlijeamflpiaaGreat
open Go.RowKit Sm
set_option linter.unusedVariables false
set_option linter.unusedSimpArgs false
set_option maxRecDepth 100000
theorem tri_prod (i : Nat) : (i : Int) * ((i : Int) - 1) = ((i * (i - 1) : Nat) : Int) := by
  cases i with
  | zero => simp
  | succ j => rw [show ((j + 1 : Nat) : Int) - 1 = ((j : Nat) : Int) by omega, show j + 1 - 1 = j by omega, ← Int.natCast_mul]
theorem tri_small (i : Nat) (h : i ≤ 67108864) : i * (i - 1) ≤ 4503599627370496 := by
  have := Nat.mul_le_mul h (show i - 1 ≤ 67108864 by omega)
  omega
theorem chirp_tri (n i : Nat) (w : World) (hn : 1 ≤ n) (hn2 : n ≤ 16777216) (hi : i ≤ 67108864) :
    Calls Tryz.prog 174 #[.int .i64 n, .int .i64 i] w fun e w' => e = .returned (.int .i64 (triN n i : Nat)) ∧ w = w' := by
  obtain ⟨q, hq⟩ : ∃ q, i * (i - 1) = q := ⟨_, rfl⟩
  have h1 := tri_prod i
  have h2 := tri_small i hi
  rw [hq] at h1 h2
  have h0 : ((n : Int) == 0) = false := bno (by omega)
  have HT : Hid ((q : Int) / 2 % n = (triN n i : Nat)) := by
    unfold Hid triN triT; rw [hq, Int.natCast_emod, Int.natCast_ediv]; rfl
  clear hq
  go_enter Tryz.func174, Tryz.ntmps174
  go_wp2_with fail
  go_ret
  exact ⟨ret_int HT.out, rfl⟩
theorem chirp_way (n : Nat) (d : Int) (w : World) (h : hasSz n = true) (hd : d = 0 ∨ d = 1) :
    Calls Tryz.prog 172 #[.int .i64 n, .int .i64 d] w fun e w' => e = .returned (.tuple #[.int .u64 (dirRt n d), .int .i64 0]) ∧ w = w' := by
  have H := Lib.hid h
  clear h
  rcases hd with h1 | h1
  · subst h1
    go_enter Tryz.func172, Tryz.ntmps172
    go_wp2_with fail
    refine (rootHas_yes _ _ H.out).mono ?_; rintro e w' ⟨rfl, rfl⟩
    go_wp2_with fail
    refine (rootRoot_yes n _ H.out).mono ?_; rintro e w' ⟨rfl, rfl⟩
    go_wp2_with fail
    go_ret2
    exact ⟨rfl, rfl⟩
  · subst h1
    go_enter Tryz.func172, Tryz.ntmps172
    go_wp2_with fail
    refine (rootHas_yes _ _ H.out).mono ?_; rintro e w' ⟨rfl, rfl⟩
    go_wp2_with fail
    refine (rootBack_yes n _ H.out).mono ?_; rintro e w' ⟨rfl, rfl⟩
    go_wp2_with fail
    go_ret2
    exact ⟨rfl, rfl⟩
theorem chirp_powers (z : Int) (n : Nat) (w : World) (h0 : 0 ≤ z) (h1 : z < 18446744073709551616) (hn1 : 1 ≤ n) (hn : n ≤ 16777216) :
    Calls Tryz.prog 173 #[.int .u64 z, .int .i64 n] w fun e w' => ∃ b off, e = .returned (.slice (some ⟨b, off, none⟩) n n) ∧ Row .u64 w' (some ⟨b, off, none⟩) (powL z n) ∧ Below w.heap.size w w' := by
  have HL : Hid ((powL z n).length = n) := powL_len z n
  go_enter Tryz.func173, Tryz.ntmps173
  go_wp2_with fail
  refine (rootPowers z n _ h0 h1 hn).mono ?_
  rintro e w1 ⟨a1, cap1, rfl, hr1, hcap1, hb1⟩
  rw [HL.out] at hcap1 ⊢
  obtain ⟨b, off, rfl, _⟩ := hr1.at (by rw [HL.out]; omega)
  have HR := Lib.hid hr1
  have hc := hcap1.1
  clear hr1
  go_wp2_with fail
  go_ret
  exact ⟨b, off, rfl, HR.out, hb1⟩
def GivesOwnE (k : IntKind) (t : TypeId) (xs : List Int) (w : World) (e : Ending) (w' : World) : Prop :=
  ∃ a cap, e = .returned (.tuple #[.slice a xs.length cap, .int .i64 0]) ∧ w'.ownsRow w.heap.size t 1 (.slice a xs.length cap) xs.length (xs.map (Value.int k)) ∧ Row k w' a xs ∧ OkCap a xs.length cap ∧ Below w.heap.size w w'
theorem nth_powL (z : Int) (n i : Nat) (h : i < n) : nth (powL z n) i = pw z i := nth_ofFn _ _ _ h
set_option maxHeartbeats 1000000 in
theorem chirp_Row (n many : Nat) (d : Int) (w : World) (h : hasSz n = true) (hd : d = 0 ∨ d = 1) (hm : many ≤ 16777216) :
    Calls Tryz.prog 148 #[.int .i64 n, .int .i64 d, .int .i64 many] w (GivesOwnE .u64 23 (rowT (dirRt n d) n many) w) := by
  obtain ⟨i0, hi, hz0, hz1, hz2⟩ := info_parts info_u64
  have C1 : Hid (∀ w : World, Calls Tryz.prog 172 #[.int .i64 n, .int .i64 d] w fun e w' => e = .returned (.tuple #[.int .u64 (dirRt n d), .int .i64 0]) ∧ w = w') := fun w => chirp_way n d w h hd
  have hzr := dirRt_range n d
  obtain ⟨h1, h2, _⟩ := hasSz_iff.1 h
  have hn1 : 1 ≤ n := by omega
  have hn2 : n ≤ 16777216 := by omega
  obtain ⟨z, hz⟩ : ∃ z, dirRt n d = z := ⟨_, rfl⟩
  rw [hz] at C1 hzr ⊢
  have C2 : Hid (∀ w : World, Calls Tryz.prog 173 #[.int .u64 z, .int .i64 n] w fun e w' => ∃ b off, e = .returned (.slice (some ⟨b, off, none⟩) n n) ∧ Row .u64 w' (some ⟨b, off, none⟩) (powL z n) ∧ Below w.heap.size w w') := fun w => chirp_powers z n w hzr.1 (by omega) hn1 hn2
  have HPL : Hid ((powL z n).length = n) := powL_len z n
  have HRL : Hid ((rowT z n many).length = many) := rowT_len z n many
  have HTL : Hid (∀ k, triN n k < n) := fun k => triN_lt n k hn1
  clear hz h hd h1 h2
  go_enter Tryz.func148, Tryz.ntmps148
  go_wp2_with fail
  refine (C1.out _).mono ?_; rintro e w' ⟨rfl, rfl⟩
  go_wp2_with fail
  refine (C2.out _).mono ?_
  rintro e w1 ⟨b, off, rfl, hr1, hb1⟩
  have HR1 := Lib.hid hr1
  have HB1 := Lib.hid hb1
  clear hr1 hb1
  go_wp2_with (at_make; refine wpList_make_full _ rfl _ _ 22 rfl w1.heap.size 23 i0 (.int .u64 0) 1 Tryz.underlying22 hi hz0 hz1 .i64 .i64 many many many rfl rfl rfl rfl (by rw [hz2]; omega) (by unfold maxLen; omega) (Nat.le_refl _) ?_)
  intro w2 hown0 hgrow0
  have hown := Own.made hown0 hgrow0
  clear hown0 hgrow0
  go_wp2_with fail
  go_loopw [37] (fun i wr => ∃ k : Nat, k ≤ many ∧ i = .int .i64 k ∧ OwnAt .u64 23 w1 wr w1.heap.size many (fun j => if j < k then pw z (triN n j) else 0)) (fun i _ => many - (intOf i).toNat)
  case atStart => exact ⟨0, Nat.zero_le _, rfl, own_eqz hown (fun j => if_neg (by omega))⟩
  case round =>
    obtain ⟨k, hk, rfl, hown⟩ := hrel
    by_cases hlt : k < many
    · obtain ⟨t, ht⟩ : ∃ t, triN n k = t := ⟨_, rfl⟩
      have htl := HTL.out k
      rw [ht] at htl
      obtain ⟨b', off', hbo, hc⟩ := (HR1.out.below hown.below).at (by rw [HPL.out]; omega)
      simp only [Option.some.injEq, Addr.mk.injEq, and_true] at hbo
      obtain ⟨rfl, rfl⟩ := hbo
      have hck := hc t (by rw [HPL.out]; exact htl)
      rw [nth_powL _ _ _ htl] at hck
      clear hc
      have hcell := hown.cell k hlt
      rw [if_neg (Nat.lt_irrefl k)] at hcell
      have hfz := hown.free k
      have hnext := hown.store k hlt (pw z t) (f' := fun j => if j < k + 1 then pw z (triN n j) else 0) (by rw [if_pos (by omega), ht]) (fun j _ hj => by
        by_cases h : j < k
        · rw [if_pos h, if_pos (by omega)]
        · rw [if_neg h, if_neg (by omega)])
      have HNX := Lib.hid hnext
      have HT := Lib.hid ht
      clear hown hnext ht
      go_wp2_with fail
      refine (chirp_tri n k _ hn1 hn2 (by omega)).mono ?_; rintro e w' ⟨rfl, rfl⟩
      rw [HT.out]
      go_wp2_with fail
      go_roundw
      case rel => exact ⟨k + 1, by omega, by go_num, HNX.out⟩
      case measure => simp [intOf]; omega
    · have hkn : k = many := by omega
      obtain ⟨a2, cap2, he, ho2, hf2, _, hb2⟩ := hown.givesO (xs := rowT z n many) (rowT_len z n many) (rowT_fits z n many) (fun i hi => by rw [nth_rowT _ _ _ _ hi, if_pos (by omega)]) (by omega)
      simp only [Ending.returned.injEq, Value.slice.injEq] at he
      obtain ⟨rfl, hx1, rfl⟩ := he
      clear hx1
      have ho3 := own_base ho2 HB1.out.size
      have hrow := gives_of_own ho2 hb2 rfl rfl hf2 (by rw [HRL.out]; omega)
      obtain ⟨a3, cap3, he3, hr3, hcap3, hb3⟩ := hrow
      simp only [Ending.returned.injEq, Value.slice.injEq] at he3
      obtain ⟨rfl, hx2, rfl⟩ := he3
      clear hx2
      have HO := Lib.hid ho3
      have HR := Lib.hid hr3
      clear hown ho2 ho3 hr3 hf2
      go_wp2_with fail
      go_ret2
      exact ⟨some ⟨w1.heap.size, 0, none⟩, many, by simp [HRL.out], HO.out, HR.out, hcap3, chain HB1.out hb2⟩
end Go.Proofs.YtlnlijeamflpiaaGreat

namespace Go.Proofs.YtlnlijeamflpiaaGreat
open Go.RowKit Sm
set_option linter.unusedVariables false
set_option linter.unusedSimpArgs false
set_option maxRecDepth 100000
theorem small_both (a b : Int) (w : World) (ha0 : 0 ≤ a) (ha : a < 18446744073709551616) (hb0 : 0 ≤ b) (hb : b < 18446744073709551616) :
    Calls Tryz.prog 209 #[.int .u64 a, .int .u64 b] w fun e w' => e = .returned (.tuple #[.int .u64 ((a + b) % 18446744069414584321), .int .u64 ((a - b) % 18446744069414584321)]) ∧ w = w' := by
  go_enter Tryz.func209, Tryz.ntmps209
  go_wp2_with (first | (go_at_call 45; refine (gold_Add _ _ _ (by omega) (by omega) (by omega) (by omega)).mono ?_; rintro e w' ⟨rfl, rfl⟩) | (go_at_call 201; refine (gold_Sub _ _ _ (by omega) (by omega) (by omega) (by omega)).mono ?_; rintro e w' ⟨rfl, rfl⟩))
  go_ret2
  exact ⟨rfl, rfl⟩
theorem small_halves (a b : Int) (w : World) (ha0 : 0 ≤ a) (ha : a < 18446744073709551616) (hb0 : 0 ≤ b) (hb : b < 18446744073709551616) :
    Calls Tryz.prog 210 #[.int .u64 a, .int .u64 b] w fun e w' => e = .returned (.tuple #[.int .u64 ((a + b) * hf % 18446744069414584321), .int .u64 ((a - b) * hf % 18446744069414584321)]) ∧ w = w' := by
  have h1 : (a + b) % 18446744069414584321 * 9223372034707292161 % 18446744069414584321 = (a + b) * hf % 18446744069414584321 := modmul_l _ _ _
  have h2 : (a - b) % 18446744069414584321 * 9223372034707292161 % 18446744069414584321 = (a - b) * hf % 18446744069414584321 := modmul_l _ _ _
  have H1 := Lib.hid h1
  have H2 := Lib.hid h2
  clear h1 h2
  go_enter Tryz.func210, Tryz.ntmps210
  go_wp2_with fail
  refine (gold_Add a b _ ha0 ha hb0 hb).mono ?_; rintro e w' ⟨rfl, rfl⟩
  go_wp2_with fail
  refine (gold_Half ((a + b) % 18446744069414584321) _ (by omega) (by omega)).mono ?_; rintro e w' ⟨rfl, rfl⟩
  rw [H1.out]
  go_wp2_with fail
  refine (gold_Sub a b _ ha0 ha hb0 hb).mono ?_; rintro e w' ⟨rfl, rfl⟩
  go_wp2_with fail
  refine (gold_Half ((a - b) % 18446744069414584321) _ (by omega) (by omega)).mono ?_; rintro e w' ⟨rfl, rfl⟩
  rw [H2.out]
  go_wp2_with fail
  go_ret2
  exact ⟨rfl, rfl⟩
theorem gives_lit (w W : World) (t : TypeId) (xs ys : List Int) (n : Nat) (cs : Array Value) (hc : cs = (ys.map (Value.int .u64)).toArray) (hn : n = ys.length) (h : ys = xs) (hf : ∀ x ∈ xs, fits .u64 x) (hl : ys.length ≤ 100) (hb : Below w.heap.size w W) :
    GivesOwn .u64 t xs w (.returned (.slice (some ⟨W.heap.size, 0, none⟩) n n)) (W.alloc (.cells cs t)) := by
  subst hc hn
  subst h
  exact ⟨_, ys.length, rfl, by simpa using World.ownsRow_lit (base := w.heap.size) (e := t) (size := 1) W (ys.map (Value.int .u64)).toArray ys.length hb.size (by unfold maxLen; omega) (by simp), hf, by omega, hb.alloc hb.size _⟩
set_option maxHeartbeats 800000 in
theorem small_two (ad : Option Addr) (cap : Nat) (a b z u : Int) (w : World) (hx : Row .u64 w ad [a, b]) (hr : IsRoot z u 2) :
    Calls Tryz.prog 203 #[.slice ad 2 cap] w (GivesOwn .u64 23 (dftL [a, b] z) w) := by
  obtain ⟨bk, o, rfl, hc⟩ := hx.at (by simp)
  have c0 := hc 0 (by simp)
  have c1 := hc 1 (by simp)
  have f0 := fits_u64.1 (hx.wf a (by simp))
  have f1 := fits_u64.1 (hx.wf b (by simp))
  have e0 : nth [a, b] 0 = a := rfl
  have e1 : nth [a, b] 1 = b := rfl
  rw [e0] at c0
  rw [e1] at c1
  rw [Nat.add_zero] at c0
  have hz : Eqm (z ^ 1) (-1) := root_half hr 1 rfl (by omega)
  rw [ipow1] at hz
  have hlist : [(a + b) % 18446744069414584321, (a - b) % 18446744069414584321] = dftL [a, b] z := two_eq a b z u _ _ hr (by omega) (by omega) (Eqm.mod _) (by
    refine (Eqm.mod _).trans ?_
    rw [Int.sub_eq_add_neg]
    refine (rfl' a).add ?_
    have := (rfl' b).mul hz.symm
    rw [Int.mul_neg, Int.mul_one] at this
    exact this)
  have HL := Lib.hid hlist
  clear hc hx hr hz e0 e1 hlist
  go_enter Tryz.func203, Tryz.ntmps203
  go_wp2_with fail
  go_quiet ((go_at_call 209; exact Calls.quiet_of_same (flipW (small_both a b _ (by omega) (by omega) (by omega) (by omega)))))
  have hb := below_drewN (Below.refl w.heap.size w) nq
  obtain ⟨w1, hw1⟩ : ∃ w1, w.drewN nq = w1 := ⟨_, rfl⟩
  rw [hw1] at hb ⊢
  clear hw1
  go_wp2_with fail
  go_ret
  exact gives_lit w w1 _ _ [(a + b) % 18446744069414584321, (a - b) % 18446744069414584321] 2 _ rfl rfl HL.out (dftL_fits _ _) (by simp) hb
end Go.Proofs.YtlnlijeamflpiaaGreat

namespace Go.Proofs.YtlnlijeamflpiaaGreat
open Go.RowKit Sm
set_option linter.unusedVariables false
set_option linter.unusedSimpArgs false
set_option maxRecDepth 100000
set_option maxHeartbeats 1000000 in
theorem small_three (ad : Option Addr) (cap : Nat) (a b c z u : Int) (w : World) (hx : Row .u64 w ad [a, b, c]) (hr : IsRoot z u 3) (hz0 : 0 ≤ z) (hz1 : z < 18446744069414584321) :
    Calls Tryz.prog 204 #[.slice ad 3 cap, .int .u64 z] w (GivesOwn .u64 23 (dftL [a, b, c] z) w) := by
  obtain ⟨bk, o, rfl, hc⟩ := hx.at (by simp)
  have k0 : w.cell? ⟨bk, o + 0, none⟩ = some (.int .u64 a) := hc 0 (by simp)
  obtain ⟨p0, q0⟩ := fits_u64.1 (hx.wf a (by simp))
  have k1 : w.cell? ⟨bk, o + 1, none⟩ = some (.int .u64 b) := hc 1 (by simp)
  obtain ⟨p1, q1⟩ := fits_u64.1 (hx.wf b (by simp))
  have k2 : w.cell? ⟨bk, o + 2, none⟩ = some (.int .u64 c) := hc 2 (by simp)
  obtain ⟨p2, q2⟩ := fits_u64.1 (hx.wf c (by simp))
  rw [Nat.add_zero] at k0
  have HR := Lib.hid hr
  clear hc hx hr
  go_enter Tryz.func204, Tryz.ntmps204
  go_wp2_with fail
  refine (gold_Mul z z _ (by omega) (by omega) (by omega) (by omega)).mono ?_; rintro e w' ⟨rfl, rfl⟩
  obtain ⟨zz, hzz⟩ : ∃ v, z * z % 18446744069414584321 = v := ⟨_, rfl⟩
  rw [hzz]
  have bd_zz : 0 ≤ zz ∧ zz < 18446744069414584321 := by omega
  have Ezz : Hid (Eqm zz (z * z)) := by unfold Hid; rw [← hzz]; exact Eqm.mod _
  obtain ⟨lzz, rzz⟩ := bd_zz
  clear hzz
  go_wp2_with fail
  refine (small_halves z zz _ (by omega) (by omega) (by omega) (by omega)).mono ?_; rintro e w' ⟨rfl, rfl⟩
  obtain ⟨cc, hcc⟩ : ∃ v, (z + zz) * hf % 18446744069414584321 = v := ⟨_, rfl⟩
  rw [hcc]
  have bd_cc : 0 ≤ cc ∧ cc < 18446744069414584321 := by omega
  have Ecc : Hid (Eqm cc ((z + zz) * hf)) := by unfold Hid; rw [← hcc]; exact Eqm.mod _
  obtain ⟨lcc, rcc⟩ := bd_cc
  clear hcc
  obtain ⟨ss, hss⟩ : ∃ v, (z - zz) * hf % 18446744069414584321 = v := ⟨_, rfl⟩
  rw [hss]
  have bd_ss : 0 ≤ ss ∧ ss < 18446744069414584321 := by omega
  have Ess : Hid (Eqm ss ((z - zz) * hf)) := by unfold Hid; rw [← hss]; exact Eqm.mod _
  obtain ⟨lss, rss⟩ := bd_ss
  clear hss
  go_wp2_with fail
  go_quiet ((go_at_call 209; exact Calls.quiet_of_same (flipW (small_both b c _ (by omega) (by omega) (by omega) (by omega)))))
  obtain ⟨t, ht⟩ : ∃ v, (b + c) % 18446744069414584321 = v := ⟨_, rfl⟩
  rw [ht]
  have bd_t : 0 ≤ t ∧ t < 18446744069414584321 := by omega
  have Et : Hid (Eqm t (b + c)) := by unfold Hid; rw [← ht]; exact Eqm.mod _
  obtain ⟨lt, rt⟩ := bd_t
  clear ht
  obtain ⟨d, hd⟩ : ∃ v, (b - c) % 18446744069414584321 = v := ⟨_, rfl⟩
  rw [hd]
  have bd_d : 0 ≤ d ∧ d < 18446744069414584321 := by omega
  have Ed : Hid (Eqm d (b - c)) := by unfold Hid; rw [← hd]; exact Eqm.mod _
  obtain ⟨ld, rd⟩ := bd_d
  clear hd
  have hb1 := below_drewN (Below.refl w.heap.size w) nq
  have k0 := (hb1.cell (World.block_lt_of_cell? _ _ k0)).trans k0
  obtain ⟨w1, hw1⟩ : ∃ w', w.drewN nq = w' := ⟨_, rfl⟩
  rw [hw1] at hb1 k0 ⊢
  clear hw1
  go_wp2_with fail
  go_quiet ((first | (go_at_call 46; exact Calls.quiet_of_same (flipW (gold_Mul cc t _ (by omega) (by omega) (by omega) (by omega)))) | (go_at_call 45; exact Calls.quiet_of_same (flipW (gold_Add a (cc * t % 18446744069414584321) _ (by omega) (by omega) (by omega) (by omega))))))
  obtain ⟨v, hv⟩ : ∃ v, (a + cc * t % 18446744069414584321) % 18446744069414584321 = v := ⟨_, rfl⟩
  rw [hv]
  have bd_v : 0 ≤ v ∧ v < 18446744069414584321 := by omega
  have Ev : Hid (Eqm v (a + cc * t % 18446744069414584321)) := by unfold Hid; rw [← hv]; exact Eqm.mod _
  obtain ⟨lv, rv⟩ := bd_v
  clear hv
  have hb2 := below_drewN (Below.refl w1.heap.size w1) nq
  have k0 := (hb2.cell (World.block_lt_of_cell? _ _ k0)).trans k0
  obtain ⟨w2, hw2⟩ : ∃ w', w1.drewN nq = w' := ⟨_, rfl⟩
  rw [hw2] at hb2 k0 ⊢
  clear hw2
  go_wp2_with fail
  refine (gold_Mul ss d _ (by omega) (by omega) (by omega) (by omega)).mono ?_; rintro e w' ⟨rfl, rfl⟩
  obtain ⟨y, hy⟩ : ∃ v, ss * d % 18446744069414584321 = v := ⟨_, rfl⟩
  rw [hy]
  have bd_y : 0 ≤ y ∧ y < 18446744069414584321 := by omega
  have Ey : Hid (Eqm y (ss * d)) := by unfold Hid; rw [← hy]; exact Eqm.mod _
  obtain ⟨ly, ry⟩ := bd_y
  clear hy
  go_wp2_with fail
  refine (gold_Add a t _ (by omega) (by omega) (by omega) (by omega)).mono ?_; rintro e w' ⟨rfl, rfl⟩
  go_wp2_with fail
  refine (gold_Add v y _ (by omega) (by omega) (by omega) (by omega)).mono ?_; rintro e w' ⟨rfl, rfl⟩
  go_wp2_with fail
  refine (gold_Sub v y _ (by omega) (by omega) (by omega) (by omega)).mono ?_; rintro e w' ⟨rfl, rfl⟩
  go_wp2_with fail
  go_ret
  refine gives_lit w w2 _ _ [(a + t) % 18446744069414584321, (v + y) % 18446744069414584321, (v - y) % 18446744069414584321] 3 _ rfl rfl ?_ (dftL_fits _ _) (by simp) (chain hb1 hb2)
  have e1 : Eqm cc ((z + z * z) * hf) := Ecc.out.trans (((rfl' z).add Ezz.out).mul (rfl' hf))
  have e2 : Eqm ss ((z - z * z) * hf) := Ess.out.trans (((rfl' z).sub Ezz.out).mul (rfl' hf))
  have e3 : Eqm v (a + (z + z * z) * hf * (b + c)) := Ev.out.trans ((rfl' a).add ((Eqm.mod _).trans (e1.mul Et.out)))
  have e4 : Eqm y ((z - z * z) * hf * (b - c)) := Ey.out.trans (e2.mul Ed.out)
  have h2 := hf2
  generalize hf = h at *
  refine three_eq a b c z u _ _ _ HR.out (by omega) (by omega) (by omega) ((Eqm.mod _).trans (((rfl' a).add Et.out).trans (by rw [Int.add_assoc]; exact rfl' _))) ((Eqm.mod _).trans ((e3.add e4).trans (eqm_of _ _ (z * b + z * z * c) (by grind)))) ((Eqm.mod _).trans ((e3.sub e4).trans (eqm_of _ _ (z * c + z * z * b) (by grind))))
theorem litRowD (w : World) (t : TypeId) (n : Nat) (xs : List Int) (hn : n = w.heap.size) (hw : ∀ x ∈ xs, 0 ≤ x ∧ x < 18446744073709551616) (hl : xs.length ≤ 100) : Row .u64 ((w.alloc (.cells (xs.map (Value.int .u64)).toArray t)).drew) (some ⟨n, 0, none⟩) xs :=
  (litRow w t n xs hn hw hl).below ((Below.refl _ _).drew)
theorem gold_Sum3 (a b c : Int) (n : Nat) (W w : World) (t : TypeId) (hW : W = (w.alloc (.cells #[.int .u64 a, .int .u64 b, .int .u64 c] t)).drew) (hn : n = w.heap.size) (ha : 0 ≤ a ∧ a < 18446744073709551616) (hb : 0 ≤ b ∧ b < 18446744073709551616) (hc : 0 ≤ c ∧ c < 18446744073709551616) :
    Calls Tryz.prog 189 #[.slice (some ⟨n, 0, none⟩) 3 3] W fun e w' => e = .returned (.int .u64 (sumP [a, b, c])) ∧ W = w' := by
  subst hW
  refine gold_Sum (some ⟨n, 0, none⟩) 3 [a, b, c] _ (litRowD w t n [a, b, c] hn (fun x hx => ?_) (by simp))
  simp only [List.mem_cons, List.not_mem_nil, or_false] at hx
  rcases hx with rfl | rfl | rfl
  · exact ha
  · exact hb
  · exact hc
theorem gold_Sum3' (a b c : Int) (n : Nat) (W w : World) (t : TypeId) (hW : W = w.alloc (.cells #[.int .u64 a, .int .u64 b, .int .u64 c] t)) (hn : n = w.heap.size) (ha : 0 ≤ a ∧ a < 18446744073709551616) (hb : 0 ≤ b ∧ b < 18446744073709551616) (hc : 0 ≤ c ∧ c < 18446744073709551616) :
    Calls Tryz.prog 189 #[.slice (some ⟨n, 0, none⟩) 3 3] W fun e w' => e = .returned (.int .u64 (sumP [a, b, c])) ∧ W = w' := by
  subst hW
  refine gold_Sum (some ⟨n, 0, none⟩) 3 [a, b, c] _ (litRow w t n [a, b, c] hn (fun x hx => ?_) (by simp))
  simp only [List.mem_cons, List.not_mem_nil, or_false] at hx
  rcases hx with rfl | rfl | rfl
  · exact ha
  · exact hb
  · exact hc
theorem gives_litg (w : World) (g : Nat) (W : World) (t : TypeId) (xs ys : List Int) (n : Nat) (cs : Array Value) (hg : g = W.heap.size) (hc : cs = (ys.map (Value.int .u64)).toArray) (hn : n = ys.length) (h : ys = xs) (hf : ∀ x ∈ xs, fits .u64 x) (hl : ys.length ≤ 100) (hb : Below w.heap.size w W) :
    GivesOwn .u64 t xs w (.returned (.slice (some ⟨g, 0, none⟩) n n)) (W.alloc (.cells cs t)) := by
  subst hg
  exact gives_lit w W t xs ys n cs hc hn h hf hl hb
theorem sumP3 (a b c : Int) : Eqm (sumP [a, b, c]) (a + b + c) := by
  show Eqm ((((0 + a) % 18446744069414584321 + b) % 18446744069414584321 + c) % 18446744069414584321) (a + b + c)
  unfold Eqm; omega
set_option maxHeartbeats 1000000 in
theorem small_four (ad : Option Addr) (cap : Nat) (a b c d z u : Int) (w : World) (hx : Row .u64 w ad [a, b, c, d]) (hr : IsRoot z u 4) (hz0 : 0 ≤ z) (hz1 : z < 18446744069414584321) :
    Calls Tryz.prog 205 #[.slice ad 4 cap, .int .u64 z] w (GivesOwn .u64 23 (dftL [a, b, c, d] z) w) := by
  obtain ⟨bk, o, rfl, hc⟩ := hx.at (by simp)
  have k0 : w.cell? ⟨bk, o + 0, none⟩ = some (.int .u64 a) := hc 0 (by simp)
  obtain ⟨p0, q0⟩ := fits_u64.1 (hx.wf a (by simp))
  have k1 : w.cell? ⟨bk, o + 1, none⟩ = some (.int .u64 b) := hc 1 (by simp)
  obtain ⟨p1, q1⟩ := fits_u64.1 (hx.wf b (by simp))
  have k2 : w.cell? ⟨bk, o + 2, none⟩ = some (.int .u64 c) := hc 2 (by simp)
  obtain ⟨p2, q2⟩ := fits_u64.1 (hx.wf c (by simp))
  have k3 : w.cell? ⟨bk, o + 3, none⟩ = some (.int .u64 d) := hc 3 (by simp)
  obtain ⟨p3, q3⟩ := fits_u64.1 (hx.wf d (by simp))
  rw [Nat.add_zero] at k0
  have HR := Lib.hid hr
  clear hc hx hr
  go_enter Tryz.func205, Tryz.ntmps205
  go_wp2_with fail
  go_quiet ((go_at_call 209; exact Calls.quiet_of_same (flipW (small_both a c _ (by omega) (by omega) (by omega) (by omega)))))
  obtain ⟨s, hs⟩ : ∃ v, (a + c) % 18446744069414584321 = v := ⟨_, rfl⟩
  rw [hs]
  have bd_s : 0 ≤ s ∧ s < 18446744069414584321 := by omega
  have Es : Hid (Eqm s (a + c)) := by unfold Hid; rw [← hs]; exact Eqm.mod _
  obtain ⟨ls, rs⟩ := bd_s
  clear hs
  obtain ⟨t, ht⟩ : ∃ v, (a - c) % 18446744069414584321 = v := ⟨_, rfl⟩
  rw [ht]
  have bd_t : 0 ≤ t ∧ t < 18446744069414584321 := by omega
  have Et : Hid (Eqm t (a - c)) := by unfold Hid; rw [← ht]; exact Eqm.mod _
  obtain ⟨lt, rt⟩ := bd_t
  clear ht
  have hb1 := below_drewN (Below.refl w.heap.size w) nq
  have k1 := (hb1.cell (World.block_lt_of_cell? _ _ k1)).trans k1
  have k3 := (hb1.cell (World.block_lt_of_cell? _ _ k3)).trans k3
  obtain ⟨w1, hw1⟩ : ∃ w', w.drewN nq = w' := ⟨_, rfl⟩
  rw [hw1] at hb1 k1 k3 ⊢
  clear hw1
  go_wp2_with fail
  go_quiet ((go_at_call 209; exact Calls.quiet_of_same (flipW (small_both b d _ (by omega) (by omega) (by omega) (by omega)))))
  obtain ⟨p, hp⟩ : ∃ v, (b + d) % 18446744069414584321 = v := ⟨_, rfl⟩
  rw [hp]
  have bd_p : 0 ≤ p ∧ p < 18446744069414584321 := by omega
  have Ep : Hid (Eqm p (b + d)) := by unfold Hid; rw [← hp]; exact Eqm.mod _
  obtain ⟨lp, rp⟩ := bd_p
  clear hp
  obtain ⟨q, hq⟩ : ∃ v, (b - d) % 18446744069414584321 = v := ⟨_, rfl⟩
  rw [hq]
  have bd_q : 0 ≤ q ∧ q < 18446744069414584321 := by omega
  have Eq_ : Hid (Eqm q (b - d)) := by unfold Hid; rw [← hq]; exact Eqm.mod _
  obtain ⟨lq, rq⟩ := bd_q
  clear hq
  have hb2 := below_drewN (Below.refl w1.heap.size w1) nq
  obtain ⟨w2, hw2⟩ : ∃ w', w1.drewN nq = w' := ⟨_, rfl⟩
  rw [hw2] at hb2 ⊢
  clear hw2
  go_wp2_with fail
  refine (gold_Mul q z _ (by omega) (by omega) (by omega) (by omega)).mono ?_; rintro e w' ⟨rfl, rfl⟩
  obtain ⟨y, hy⟩ : ∃ v, q * z % 18446744069414584321 = v := ⟨_, rfl⟩
  rw [hy]
  have bd_y : 0 ≤ y ∧ y < 18446744069414584321 := by omega
  have Ey : Hid (Eqm y (q * z)) := by unfold Hid; rw [← hy]; exact Eqm.mod _
  obtain ⟨ly, ry⟩ := bd_y
  clear hy
  go_wp2_with fail
  refine (gold_Add s p _ (by omega) (by omega) (by omega) (by omega)).mono ?_; rintro e w' ⟨rfl, rfl⟩
  go_wp2_with fail
  refine (gold_Add t y _ (by omega) (by omega) (by omega) (by omega)).mono ?_; rintro e w' ⟨rfl, rfl⟩
  go_wp2_with fail
  refine (gold_Sub s p _ (by omega) (by omega) (by omega) (by omega)).mono ?_; rintro e w' ⟨rfl, rfl⟩
  go_wp2_with fail
  refine (gold_Sub t y _ (by omega) (by omega) (by omega) (by omega)).mono ?_; rintro e w' ⟨rfl, rfl⟩
  go_wp2_with fail
  go_ret
  refine gives_lit w w2 _ _ [(s + p) % 18446744069414584321, (t + y) % 18446744069414584321, (s - p) % 18446744069414584321, (t - y) % 18446744069414584321] 4 _ rfl rfl ?_ (dftL_fits _ _) (by simp) (chain hb1 hb2)
  obtain ⟨m, hm⟩ := eqm_wit (root_half HR.out 2 rfl (by omega))
  have e1 : Eqm y ((b - d) * z) := Ey.out.trans (Eq_.out.mul (rfl' z))
  refine four_eq a b c d z u _ _ _ _ HR.out (by omega) (by omega) (by omega) (by omega) ((Eqm.mod _).trans ((Es.out.add Ep.out).trans (eqm_of _ _ 0 (by grind)))) ((Eqm.mod _).trans ((Et.out.add e1).trans (eqm_of _ _ (-(m * (c + d * z))) (by grind)))) ((Eqm.mod _).trans ((Es.out.sub Ep.out).trans (eqm_of _ _ (-(m * (b + d))) (by grind)))) ((Eqm.mod _).trans ((Et.out.sub e1).trans (eqm_of _ _ (-(m * (c + b * z))) (by grind))))
set_option maxHeartbeats 1000000 in
theorem small_five (ad : Option Addr) (cap : Nat) (a b c d e z u : Int) (w : World) (hx : Row .u64 w ad [a, b, c, d, e]) (hr : IsRoot z u 5) (hz0 : 0 ≤ z) (hz1 : z < 18446744069414584321) :
    Calls Tryz.prog 206 #[.slice ad 5 cap, .int .u64 z] w (GivesOwn .u64 23 (dftL [a, b, c, d, e] z) w) := by
  obtain ⟨bk, o, rfl, hc⟩ := hx.at (by simp)
  have k0 : w.cell? ⟨bk, o + 0, none⟩ = some (.int .u64 a) := hc 0 (by simp)
  obtain ⟨p0, q0⟩ := fits_u64.1 (hx.wf a (by simp))
  have k1 : w.cell? ⟨bk, o + 1, none⟩ = some (.int .u64 b) := hc 1 (by simp)
  obtain ⟨p1, q1⟩ := fits_u64.1 (hx.wf b (by simp))
  have k2 : w.cell? ⟨bk, o + 2, none⟩ = some (.int .u64 c) := hc 2 (by simp)
  obtain ⟨p2, q2⟩ := fits_u64.1 (hx.wf c (by simp))
  have k3 : w.cell? ⟨bk, o + 3, none⟩ = some (.int .u64 d) := hc 3 (by simp)
  obtain ⟨p3, q3⟩ := fits_u64.1 (hx.wf d (by simp))
  have k4 : w.cell? ⟨bk, o + 4, none⟩ = some (.int .u64 e) := hc 4 (by simp)
  obtain ⟨p4, q4⟩ := fits_u64.1 (hx.wf e (by simp))
  rw [Nat.add_zero] at k0
  have HR := Lib.hid hr
  clear hc hx hr
  go_enter Tryz.func206, Tryz.ntmps206
  go_wp2_with fail
  refine (gold_Mul z z _ (by omega) (by omega) (by omega) (by omega)).mono ?_; rintro en w' ⟨rfl, rfl⟩
  obtain ⟨zz, hzz⟩ : ∃ v, z * z % 18446744069414584321 = v := ⟨_, rfl⟩
  rw [hzz]
  have bd_zz : 0 ≤ zz ∧ zz < 18446744069414584321 := by omega
  have Ezz : Hid (Eqm zz (z * z)) := by unfold Hid; rw [← hzz]; exact Eqm.mod _
  obtain ⟨lzz, rzz⟩ := bd_zz
  clear hzz
  go_wp2_with fail
  refine (gold_Mul zz zz _ (by omega) (by omega) (by omega) (by omega)).mono ?_; rintro en w' ⟨rfl, rfl⟩
  obtain ⟨z4, hz4⟩ : ∃ v, zz * zz % 18446744069414584321 = v := ⟨_, rfl⟩
  rw [hz4]
  have bd_z4 : 0 ≤ z4 ∧ z4 < 18446744069414584321 := by omega
  have Ez4 : Hid (Eqm z4 (zz * zz)) := by unfold Hid; rw [← hz4]; exact Eqm.mod _
  obtain ⟨lz4, rz4⟩ := bd_z4
  clear hz4
  go_wp2_with fail
  refine (small_halves z z4 _ (by omega) (by omega) (by omega) (by omega)).mono ?_; rintro en w' ⟨rfl, rfl⟩
  obtain ⟨c1, hc1⟩ : ∃ v, (z + z4) * hf % 18446744069414584321 = v := ⟨_, rfl⟩
  rw [hc1]
  have bd_c1 : 0 ≤ c1 ∧ c1 < 18446744069414584321 := by omega
  have Ec1 : Hid (Eqm c1 ((z + z4) * hf)) := by unfold Hid; rw [← hc1]; exact Eqm.mod _
  obtain ⟨lc1, rc1⟩ := bd_c1
  clear hc1
  obtain ⟨s1, hs1⟩ : ∃ v, (z - z4) * hf % 18446744069414584321 = v := ⟨_, rfl⟩
  rw [hs1]
  have bd_s1 : 0 ≤ s1 ∧ s1 < 18446744069414584321 := by omega
  have Es1 : Hid (Eqm s1 ((z - z4) * hf)) := by unfold Hid; rw [← hs1]; exact Eqm.mod _
  obtain ⟨ls1, rs1⟩ := bd_s1
  clear hs1
  go_wp2_with fail
  refine (gold_Mul zz z _ (by omega) (by omega) (by omega) (by omega)).mono ?_; rintro en w' ⟨rfl, rfl⟩
  obtain ⟨z3, hz3⟩ : ∃ v, zz * z % 18446744069414584321 = v := ⟨_, rfl⟩
  rw [hz3]
  have bd_z3 : 0 ≤ z3 ∧ z3 < 18446744069414584321 := by omega
  have Ez3 : Hid (Eqm z3 (zz * z)) := by unfold Hid; rw [← hz3]; exact Eqm.mod _
  obtain ⟨lz3, rz3⟩ := bd_z3
  clear hz3
  go_wp2_with fail
  refine (small_halves zz z3 _ (by omega) (by omega) (by omega) (by omega)).mono ?_; rintro en w' ⟨rfl, rfl⟩
  obtain ⟨c2, hc2⟩ : ∃ v, (zz + z3) * hf % 18446744069414584321 = v := ⟨_, rfl⟩
  rw [hc2]
  have bd_c2 : 0 ≤ c2 ∧ c2 < 18446744069414584321 := by omega
  have Ec2 : Hid (Eqm c2 ((zz + z3) * hf)) := by unfold Hid; rw [← hc2]; exact Eqm.mod _
  obtain ⟨lc2, rc2⟩ := bd_c2
  clear hc2
  obtain ⟨s2, hs2⟩ : ∃ v, (zz - z3) * hf % 18446744069414584321 = v := ⟨_, rfl⟩
  rw [hs2]
  have bd_s2 : 0 ≤ s2 ∧ s2 < 18446744069414584321 := by omega
  have Es2 : Hid (Eqm s2 ((zz - z3) * hf)) := by unfold Hid; rw [← hs2]; exact Eqm.mod _
  obtain ⟨ls2, rs2⟩ := bd_s2
  clear hs2
  go_wp2_with fail
  go_quiet ((go_at_call 209; exact Calls.quiet_of_same (flipW (small_both b e _ (by omega) (by omega) (by omega) (by omega)))))
  obtain ⟨t1, ht1⟩ : ∃ v, (b + e) % 18446744069414584321 = v := ⟨_, rfl⟩
  rw [ht1]
  have bd_t1 : 0 ≤ t1 ∧ t1 < 18446744069414584321 := by omega
  have Et1 : Hid (Eqm t1 (b + e)) := by unfold Hid; rw [← ht1]; exact Eqm.mod _
  obtain ⟨lt1, rt1⟩ := bd_t1
  clear ht1
  obtain ⟨d1, hd1⟩ : ∃ v, (b - e) % 18446744069414584321 = v := ⟨_, rfl⟩
  rw [hd1]
  have bd_d1 : 0 ≤ d1 ∧ d1 < 18446744069414584321 := by omega
  have Ed1 : Hid (Eqm d1 (b - e)) := by unfold Hid; rw [← hd1]; exact Eqm.mod _
  obtain ⟨ld1, rd1⟩ := bd_d1
  clear hd1
  have hb1 := below_drewN (Below.refl w.heap.size w) nq
  have k0 := (hb1.cell (World.block_lt_of_cell? _ _ k0)).trans k0
  have k2 := (hb1.cell (World.block_lt_of_cell? _ _ k2)).trans k2
  have k3 := (hb1.cell (World.block_lt_of_cell? _ _ k3)).trans k3
  obtain ⟨w1, hw1⟩ : ∃ w', w.drewN nq = w' := ⟨_, rfl⟩
  rw [hw1] at hb1 k0 k2 k3 ⊢
  clear hw1
  go_wp2_with fail
  go_quiet ((go_at_call 209; exact Calls.quiet_of_same (flipW (small_both c d _ (by omega) (by omega) (by omega) (by omega)))))
  obtain ⟨t2, ht2⟩ : ∃ v, (c + d) % 18446744069414584321 = v := ⟨_, rfl⟩
  rw [ht2]
  have bd_t2 : 0 ≤ t2 ∧ t2 < 18446744069414584321 := by omega
  have Et2 : Hid (Eqm t2 (c + d)) := by unfold Hid; rw [← ht2]; exact Eqm.mod _
  obtain ⟨lt2, rt2⟩ := bd_t2
  clear ht2
  obtain ⟨d2, hd2⟩ : ∃ v, (c - d) % 18446744069414584321 = v := ⟨_, rfl⟩
  rw [hd2]
  have bd_d2 : 0 ≤ d2 ∧ d2 < 18446744069414584321 := by omega
  have Ed2 : Hid (Eqm d2 (c - d)) := by unfold Hid; rw [← hd2]; exact Eqm.mod _
  obtain ⟨ld2, rd2⟩ := bd_d2
  clear hd2
  have hb2 := below_drewN (Below.refl w1.heap.size w1) nq
  have k0 := (hb2.cell (World.block_lt_of_cell? _ _ k0)).trans k0
  obtain ⟨w2, hw2⟩ : ∃ w', w1.drewN nq = w' := ⟨_, rfl⟩
  rw [hw2] at hb2 k0 ⊢
  clear hw2
  go_wp2_with fail
  go_region_held3 (fun w' => w'.cell? ⟨bk, o, none⟩ = some (.int .u64 a)) (go_keep) ((first | (go_at_call 46; refine (gold_Mul _ _ _ (by omega) (by omega) (by omega) (by omega)).mono ?_; rintro en w' ⟨rfl, rfl⟩) | (go_at_call 189; refine (gold_Sum3 _ _ _ _ _ w2 _ (by rfl) (by simp) ⟨p0, q0⟩ (by omega) (by omega)).mono ?_; rintro en w' ⟨rfl, rfl⟩)))
  have hb3 : Below w2.heap.size w2 ((w2.alloc (.cells #[.int .u64 a, .int .u64 (c1 * t1 % 18446744069414584321), .int .u64 (c2 * t2 % 18446744069414584321)] 23)).drew) := ((Below.refl _ _).alloc (Nat.le_refl _) _).drew
  have k0 := (hb3.cell (World.block_lt_of_cell? _ _ k0)).trans k0
  obtain ⟨w3, hw3⟩ : ∃ w', (w2.alloc (.cells #[.int .u64 a, .int .u64 (c1 * t1 % 18446744069414584321), .int .u64 (c2 * t2 % 18446744069414584321)] 23)).drew = w' := ⟨_, rfl⟩
  rw [hw3] at hb3 k0 ⊢
  clear hw3
  obtain ⟨va, hva⟩ : ∃ v, sumP [a, c1 * t1 % 18446744069414584321, c2 * t2 % 18446744069414584321] = v := ⟨_, rfl⟩
  rw [hva]
  have bd_va := sumP_range [a, c1 * t1 % 18446744069414584321, c2 * t2 % 18446744069414584321]
  rw [hva] at bd_va
  have Eva : Hid (Eqm va (a + c1 * t1 % 18446744069414584321 + c2 * t2 % 18446744069414584321)) := by unfold Hid; rw [← hva]; exact sumP3 _ _ _
  obtain ⟨lva, rva⟩ := bd_va
  clear hva
  go_wp2_with fail
  go_region_held3 (fun w' => w'.cell? ⟨bk, o, none⟩ = some (.int .u64 a)) (go_keep) ((first | (go_at_call 46; refine (gold_Mul _ _ _ (by omega) (by omega) (by omega) (by omega)).mono ?_; rintro en w' ⟨rfl, rfl⟩) | (go_at_call 189; refine (gold_Sum3 _ _ _ _ _ w3 _ (by rfl) (by simp) ⟨p0, q0⟩ (by omega) (by omega)).mono ?_; rintro en w' ⟨rfl, rfl⟩)))
  have hb4 : Below w3.heap.size w3 ((w3.alloc (.cells #[.int .u64 a, .int .u64 (c2 * t1 % 18446744069414584321), .int .u64 (c1 * t2 % 18446744069414584321)] 23)).drew) := ((Below.refl _ _).alloc (Nat.le_refl _) _).drew
  have k0 := (hb4.cell (World.block_lt_of_cell? _ _ k0)).trans k0
  obtain ⟨w4, hw4⟩ : ∃ w', (w3.alloc (.cells #[.int .u64 a, .int .u64 (c2 * t1 % 18446744069414584321), .int .u64 (c1 * t2 % 18446744069414584321)] 23)).drew = w' := ⟨_, rfl⟩
  rw [hw4] at hb4 k0 ⊢
  clear hw4
  obtain ⟨vb, hvb⟩ : ∃ v, sumP [a, c2 * t1 % 18446744069414584321, c1 * t2 % 18446744069414584321] = v := ⟨_, rfl⟩
  rw [hvb]
  have bd_vb := sumP_range [a, c2 * t1 % 18446744069414584321, c1 * t2 % 18446744069414584321]
  rw [hvb] at bd_vb
  have Evb : Hid (Eqm vb (a + c2 * t1 % 18446744069414584321 + c1 * t2 % 18446744069414584321)) := by unfold Hid; rw [← hvb]; exact sumP3 _ _ _
  obtain ⟨lvb, rvb⟩ := bd_vb
  clear hvb
  go_wp2_with fail
  refine (gold_Mul s1 d1 _ (by omega) (by omega) (by omega) (by omega)).mono ?_; rintro en w' ⟨rfl, rfl⟩
  obtain ⟨m1, hm1⟩ : ∃ v, s1 * d1 % 18446744069414584321 = v := ⟨_, rfl⟩
  rw [hm1]
  have bd_m1 : 0 ≤ m1 ∧ m1 < 18446744069414584321 := by omega
  have Em1 : Hid (Eqm m1 (s1 * d1)) := by unfold Hid; rw [← hm1]; exact Eqm.mod _
  obtain ⟨lm1, rm1⟩ := bd_m1
  clear hm1
  go_wp2_with fail
  refine (gold_Mul s2 d2 _ (by omega) (by omega) (by omega) (by omega)).mono ?_; rintro en w' ⟨rfl, rfl⟩
  obtain ⟨m2, hm2⟩ : ∃ v, s2 * d2 % 18446744069414584321 = v := ⟨_, rfl⟩
  rw [hm2]
  have bd_m2 : 0 ≤ m2 ∧ m2 < 18446744069414584321 := by omega
  have Em2 : Hid (Eqm m2 (s2 * d2)) := by unfold Hid; rw [← hm2]; exact Eqm.mod _
  obtain ⟨lm2, rm2⟩ := bd_m2
  clear hm2
  go_wp2_with fail
  refine (gold_Add m1 m2 _ (by omega) (by omega) (by omega) (by omega)).mono ?_; rintro en w' ⟨rfl, rfl⟩
  obtain ⟨vc, hvc⟩ : ∃ v, (m1 + m2) % 18446744069414584321 = v := ⟨_, rfl⟩
  rw [hvc]
  have bd_vc : 0 ≤ vc ∧ vc < 18446744069414584321 := by omega
  have Evc : Hid (Eqm vc (m1 + m2)) := by unfold Hid; rw [← hvc]; exact Eqm.mod _
  obtain ⟨lvc, rvc⟩ := bd_vc
  clear hvc
  go_wp2_with fail
  refine (gold_Mul s2 d1 _ (by omega) (by omega) (by omega) (by omega)).mono ?_; rintro en w' ⟨rfl, rfl⟩
  obtain ⟨m3, hm3⟩ : ∃ v, s2 * d1 % 18446744069414584321 = v := ⟨_, rfl⟩
  rw [hm3]
  have bd_m3 : 0 ≤ m3 ∧ m3 < 18446744069414584321 := by omega
  have Em3 : Hid (Eqm m3 (s2 * d1)) := by unfold Hid; rw [← hm3]; exact Eqm.mod _
  obtain ⟨lm3, rm3⟩ := bd_m3
  clear hm3
  go_wp2_with fail
  refine (gold_Mul s1 d2 _ (by omega) (by omega) (by omega) (by omega)).mono ?_; rintro en w' ⟨rfl, rfl⟩
  obtain ⟨m4, hm4⟩ : ∃ v, s1 * d2 % 18446744069414584321 = v := ⟨_, rfl⟩
  rw [hm4]
  have bd_m4 : 0 ≤ m4 ∧ m4 < 18446744069414584321 := by omega
  have Em4 : Hid (Eqm m4 (s1 * d2)) := by unfold Hid; rw [← hm4]; exact Eqm.mod _
  obtain ⟨lm4, rm4⟩ := bd_m4
  clear hm4
  go_wp2_with fail
  refine (gold_Sub m3 m4 _ (by omega) (by omega) (by omega) (by omega)).mono ?_; rintro en w' ⟨rfl, rfl⟩
  obtain ⟨vd, hvd⟩ : ∃ v, (m3 - m4) % 18446744069414584321 = v := ⟨_, rfl⟩
  rw [hvd]
  have bd_vd : 0 ≤ vd ∧ vd < 18446744069414584321 := by omega
  have Evd : Hid (Eqm vd (m3 - m4)) := by unfold Hid; rw [← hvd]; exact Eqm.mod _
  obtain ⟨lvd, rvd⟩ := bd_vd
  clear hvd
  go_wp2_with fail
  refine (gold_Sum3' a t1 t2 _ _ w4 _ rfl rfl ⟨p0, q0⟩ (by omega) (by omega)).mono ?_; rintro en w' ⟨rfl, rfl⟩
  obtain ⟨v0, hv0⟩ : ∃ v, sumP [a, t1, t2] = v := ⟨_, rfl⟩
  rw [hv0]
  have bd_v0 := sumP_range [a, t1, t2]
  rw [hv0] at bd_v0
  have Ev0 : Hid (Eqm v0 (a + t1 + t2)) := by unfold Hid; rw [← hv0]; exact sumP3 _ _ _
  obtain ⟨lv0, rv0⟩ := bd_v0
  clear hv0
  go_wp2_with fail
  refine (gold_Add va vc _ (by omega) (by omega) (by omega) (by omega)).mono ?_; rintro en w' ⟨rfl, rfl⟩
  go_wp2_with fail
  refine (gold_Add vb vd _ (by omega) (by omega) (by omega) (by omega)).mono ?_; rintro en w' ⟨rfl, rfl⟩
  go_wp2_with fail
  refine (gold_Sub vb vd _ (by omega) (by omega) (by omega) (by omega)).mono ?_; rintro en w' ⟨rfl, rfl⟩
  go_wp2_with fail
  refine (gold_Sub va vc _ (by omega) (by omega) (by omega) (by omega)).mono ?_; rintro en w' ⟨rfl, rfl⟩
  go_wp2_with fail
  go_ret
  refine gives_litg w (w4.heap.size + 1) (w4.alloc (.cells #[.int .u64 a, .int .u64 t1, .int .u64 t2] 23)) _ _ [v0, (va + vc) % 18446744069414584321, (vb + vd) % 18446744069414584321, (vb - vd) % 18446744069414584321, (va - vc) % 18446744069414584321] 5 _ (by simp) rfl rfl ?_ (dftL_fits _ _) (by simp) ((chain (chain (chain hb1 hb2) hb3) hb4).alloc (chain (chain (chain hb1 hb2) hb3) hb4).size _)
  have e4 : Eqm z4 (z * z * (z * z)) := Ez4.out.trans (Ezz.out.mul Ezz.out)
  have e3 : Eqm z3 (z * z * z) := Ez3.out.trans (Ezz.out.mul (rfl' z))
  have ec1 : Eqm c1 ((z + z * z * (z * z)) * hf) := Ec1.out.trans (((rfl' z).add e4).mul (rfl' hf))
  have es1 : Eqm s1 ((z - z * z * (z * z)) * hf) := Es1.out.trans (((rfl' z).sub e4).mul (rfl' hf))
  have ec2 : Eqm c2 ((z * z + z * z * z) * hf) := Ec2.out.trans ((Ezz.out.add e3).mul (rfl' hf))
  have es2 : Eqm s2 ((z * z - z * z * z) * hf) := Es2.out.trans ((Ezz.out.sub e3).mul (rfl' hf))
  have ea : Eqm va (a + (z + z * z * (z * z)) * hf * (b + e) + (z * z + z * z * z) * hf * (c + d)) := Eva.out.trans (((rfl' a).add ((Eqm.mod _).trans (ec1.mul Et1.out))).add ((Eqm.mod _).trans (ec2.mul Et2.out)))
  have eb : Eqm vb (a + (z * z + z * z * z) * hf * (b + e) + (z + z * z * (z * z)) * hf * (c + d)) := Evb.out.trans (((rfl' a).add ((Eqm.mod _).trans (ec2.mul Et1.out))).add ((Eqm.mod _).trans (ec1.mul Et2.out)))
  have ecc : Eqm vc ((z - z * z * (z * z)) * hf * (b - e) + (z * z - z * z * z) * hf * (c - d)) := Evc.out.trans ((Em1.out.trans (es1.mul Ed1.out)).add (Em2.out.trans (es2.mul Ed2.out)))
  have ed : Eqm vd ((z * z - z * z * z) * hf * (b - e) - (z - z * z * (z * z)) * hf * (c - d)) := Evd.out.trans ((Em3.out.trans (es2.mul Ed1.out)).sub (Em4.out.trans (es1.mul Ed2.out)))
  have h2 := hf2
  generalize hf = h at *
  refine five_eq a b c d e z u _ _ _ _ _ HR.out ⟨lv0, rv0⟩ (by omega) (by omega) (by omega) (by omega) (Ev0.out.trans ((((rfl' a).add Et1.out).add Et2.out).trans (eqm_of _ _ 0 (by grind)))) ((Eqm.mod _).trans ((ea.add ecc).trans (eqm_of _ _ (z * b + z ^ 2 * c + z ^ 3 * d + z ^ 4 * e) (by grind)))) ((Eqm.mod _).trans ((eb.add ed).trans (eqm_of _ _ (z ^ 2 * b + z ^ 4 * c + z * d + z ^ 3 * e) (by grind)))) ((Eqm.mod _).trans ((eb.sub ed).trans (eqm_of _ _ (z ^ 3 * b + z * c + z ^ 4 * d + z ^ 2 * e) (by grind)))) ((Eqm.mod _).trans ((ea.sub ecc).trans (eqm_of _ _ (z ^ 4 * b + z ^ 3 * c + z ^ 2 * d + z * e) (by grind))))
end Go.Proofs.YtlnlijeamflpiaaGreat

namespace Go.Proofs.YtlnlijeamflpiaaGreat
open Go.RowKit Sm
set_option linter.unusedVariables false
set_option linter.unusedSimpArgs false
set_option maxRecDepth 100000
set_option maxHeartbeats 1000000 in
theorem small_done2 (ad : Option Addr) (cap : Nat) (a b z u : Int) (w : World) (hx : Row .u64 w ad [a, b]) (hr : IsRoot z u 2) (hz0 : 0 ≤ z) (hz1 : z < 18446744069414584321) :
    Calls Tryz.prog 193 #[.slice ad 2 cap, .int .u64 z] w (GivesOwn .u64 23 (dftL [a, b] z) w) := by
  have HT := Lib.hid (small_two ad cap a b z u w hx hr)
  have HL := Lib.hid (dftL_len [a, b] z)
  clear hx hr
  go_enter Tryz.func193, Tryz.ntmps193
  go_wp2_with fail
  refine wp_scope_jumps 0 (fun a' w' => ∃ v u2 u3 u6 u7 u8 u9 u10 u11 u12 u13 u14 u15 u16 u17 u18 u19 u20 u21 u22 u23 u24 u25 u26 u27 u28 u29, a' = { tmps := #[.slice ad 2 cap, .int .u64 z, u2, u3, .slice none 0 0, v, u6, u7, u8, u9, u10, u11, u12, u13, u14, u15, u16, u17, u18, u19, u20, u21, u22, u23, u24, u25, u26, u27, u28, u29], defers := [] } ∧ GivesOwn .u64 23 (dftL [a, b] z) w (.returned v) w') (fun _ _ => 0) rfl ?_ ?_
  · go_wp2_with fail
    refine HT.out.mono ?_; rintro en w' ⟨a2, cap2, rfl, hrow, hca, hcl, hb⟩
    go_wp2_with fail
    go_step3
    exact ⟨rfl, _, _, _, _, _, _, _, _, _, _, _, _, _, _, _, _, _, _, _, _, _, _, _, _, _, _, _, rfl, a2, cap2, rfl, hrow, hca, hcl, hb⟩
  · rintro a' w' ⟨v, u2, u3, u6, u7, u8, u9, u10, u11, u12, u13, u14, u15, u16, u17, u18, u19, u20, u21, u22, u23, u24, u25, u26, u27, u28, u29, rfl, hg⟩
    go_wp2_with fail
    simp only [Exit.jump]
    go_ret
    exact hg
set_option maxHeartbeats 1000000 in
theorem small_done3 (ad : Option Addr) (cap : Nat) (a b c z u : Int) (w : World) (hx : Row .u64 w ad [a, b, c]) (hr : IsRoot z u 3) (hz0 : 0 ≤ z) (hz1 : z < 18446744069414584321) :
    Calls Tryz.prog 193 #[.slice ad 3 cap, .int .u64 z] w (GivesOwn .u64 23 (dftL [a, b, c] z) w) := by
  have HT := Lib.hid (small_three ad cap a b c z u w hx hr hz0 hz1)
  have HL := Lib.hid (dftL_len [a, b, c] z)
  clear hx hr
  go_enter Tryz.func193, Tryz.ntmps193
  go_wp2_with fail
  refine wp_scope_jumps 0 (fun a' w' => ∃ v u2 u3 u6 u7 u8 u9 u10 u11 u12 u13 u14 u15 u16 u17 u18 u19 u20 u21 u22 u23 u24 u25 u26 u27 u28 u29, a' = { tmps := #[.slice ad 3 cap, .int .u64 z, u2, u3, .slice none 0 0, v, u6, u7, u8, u9, u10, u11, u12, u13, u14, u15, u16, u17, u18, u19, u20, u21, u22, u23, u24, u25, u26, u27, u28, u29], defers := [] } ∧ GivesOwn .u64 23 (dftL [a, b, c] z) w (.returned v) w') (fun _ _ => 0) rfl ?_ ?_
  · go_wp2_with fail
    refine HT.out.mono ?_; rintro en w' ⟨a2, cap2, rfl, hrow, hca, hcl, hb⟩
    go_wp2_with fail
    go_step3
    exact ⟨rfl, _, _, _, _, _, _, _, _, _, _, _, _, _, _, _, _, _, _, _, _, _, _, _, _, _, _, _, rfl, a2, cap2, rfl, hrow, hca, hcl, hb⟩
  · rintro a' w' ⟨v, u2, u3, u6, u7, u8, u9, u10, u11, u12, u13, u14, u15, u16, u17, u18, u19, u20, u21, u22, u23, u24, u25, u26, u27, u28, u29, rfl, hg⟩
    go_wp2_with fail
    simp only [Exit.jump]
    go_ret
    exact hg
set_option maxHeartbeats 1000000 in
theorem small_done4 (ad : Option Addr) (cap : Nat) (a b c d z u : Int) (w : World) (hx : Row .u64 w ad [a, b, c, d]) (hr : IsRoot z u 4) (hz0 : 0 ≤ z) (hz1 : z < 18446744069414584321) :
    Calls Tryz.prog 193 #[.slice ad 4 cap, .int .u64 z] w (GivesOwn .u64 23 (dftL [a, b, c, d] z) w) := by
  have HT := Lib.hid (small_four ad cap a b c d z u w hx hr hz0 hz1)
  have HL := Lib.hid (dftL_len [a, b, c, d] z)
  clear hx hr
  go_enter Tryz.func193, Tryz.ntmps193
  go_wp2_with fail
  refine wp_scope_jumps 0 (fun a' w' => ∃ v u2 u3 u6 u7 u8 u9 u10 u11 u12 u13 u14 u15 u16 u17 u18 u19 u20 u21 u22 u23 u24 u25 u26 u27 u28 u29, a' = { tmps := #[.slice ad 4 cap, .int .u64 z, u2, u3, .slice none 0 0, v, u6, u7, u8, u9, u10, u11, u12, u13, u14, u15, u16, u17, u18, u19, u20, u21, u22, u23, u24, u25, u26, u27, u28, u29], defers := [] } ∧ GivesOwn .u64 23 (dftL [a, b, c, d] z) w (.returned v) w') (fun _ _ => 0) rfl ?_ ?_
  · go_wp2_with fail
    refine HT.out.mono ?_; rintro en w' ⟨a2, cap2, rfl, hrow, hca, hcl, hb⟩
    go_wp2_with fail
    go_step3
    exact ⟨rfl, _, _, _, _, _, _, _, _, _, _, _, _, _, _, _, _, _, _, _, _, _, _, _, _, _, _, _, rfl, a2, cap2, rfl, hrow, hca, hcl, hb⟩
  · rintro a' w' ⟨v, u2, u3, u6, u7, u8, u9, u10, u11, u12, u13, u14, u15, u16, u17, u18, u19, u20, u21, u22, u23, u24, u25, u26, u27, u28, u29, rfl, hg⟩
    go_wp2_with fail
    simp only [Exit.jump]
    go_ret
    exact hg
set_option maxHeartbeats 1000000 in
theorem small_done5 (ad : Option Addr) (cap : Nat) (a b c d e z u : Int) (w : World) (hx : Row .u64 w ad [a, b, c, d, e]) (hr : IsRoot z u 5) (hz0 : 0 ≤ z) (hz1 : z < 18446744069414584321) :
    Calls Tryz.prog 193 #[.slice ad 5 cap, .int .u64 z] w (GivesOwn .u64 23 (dftL [a, b, c, d, e] z) w) := by
  have HT := Lib.hid (small_five ad cap a b c d e z u w hx hr hz0 hz1)
  have HL := Lib.hid (dftL_len [a, b, c, d, e] z)
  clear hx hr
  go_enter Tryz.func193, Tryz.ntmps193
  go_wp2_with fail
  refine wp_scope_jumps 0 (fun a' w' => ∃ v u2 u3 u6 u7 u8 u9 u10 u11 u12 u13 u14 u15 u16 u17 u18 u19 u20 u21 u22 u23 u24 u25 u26 u27 u28 u29, a' = { tmps := #[.slice ad 5 cap, .int .u64 z, u2, u3, .slice none 0 0, v, u6, u7, u8, u9, u10, u11, u12, u13, u14, u15, u16, u17, u18, u19, u20, u21, u22, u23, u24, u25, u26, u27, u28, u29], defers := [] } ∧ GivesOwn .u64 23 (dftL [a, b, c, d, e] z) w (.returned v) w') (fun _ _ => 0) rfl ?_ ?_
  · go_wp2_with fail
    refine HT.out.mono ?_; rintro en w' ⟨a2, cap2, rfl, hrow, hca, hcl, hb⟩
    go_wp2_with fail
    go_step3
    exact ⟨rfl, _, _, _, _, _, _, _, _, _, _, _, _, _, _, _, _, _, _, _, _, _, _, _, _, _, _, _, rfl, a2, cap2, rfl, hrow, hca, hcl, hb⟩
  · rintro a' w' ⟨v, u2, u3, u6, u7, u8, u9, u10, u11, u12, u13, u14, u15, u16, u17, u18, u19, u20, u21, u22, u23, u24, u25, u26, u27, u28, u29, rfl, hg⟩
    go_wp2_with fail
    simp only [Exit.jump]
    go_ret
    exact hg
set_option maxHeartbeats 1000000 in
theorem small_done1 (ad : Option Addr) (cap : Nat) (a z u : Int) (w : World) (hx : Row .u64 w ad [a]) (hr : IsRoot z u 1) :
    Calls Tryz.prog 193 #[.slice ad 1 cap, .int .u64 z] w (GivesOwn .u64 23 (dftL [a] z) w) := by
  have HT := Lib.hid (vec_RedO ad cap [a] w hx (by simp))
  have HL := Lib.hid (one_eq [a] z u hr rfl)
  clear hx hr
  go_enter Tryz.func193, Tryz.ntmps193
  go_wp2_with fail
  refine wp_scope_jumps 0 (fun a' w' => False) (fun _ _ => 0) rfl ?_ ?_
  · go_wp2_with fail
    refine HT.out.mono ?_
    rw [HL.out]
    rintro en w' ⟨a2, cap2, rfl, hrow, hca, hcl, hb⟩
    go_wp2_with fail
    go_step3
    go_wp2_with fail
    simp only [Exit.jump]
    go_ret
    exact ⟨a2, cap2, rfl, hrow, hca, hcl, hb⟩
  · rintro a' w' h
    exact h.elim
theorem small_doneO (ad : Option Addr) (cap n : Nat) (xs : List Int) (z u : Int) (w : World) (hx : Row .u64 w ad xs) (hn : n = xs.length) (h1 : 1 ≤ n) (h5 : n ≤ 5) (hr : IsRoot z u n) (hz0 : 0 ≤ z) (hz1 : z < 18446744069414584321) :
    Calls Tryz.prog 193 #[.slice ad n cap, .int .u64 z] w (GivesOwn .u64 23 (dftL xs z) w) := by
  match xs, hn with
  | [], hn => simp at hn; omega
  | [a], hn => subst hn; exact small_done1 ad cap a z u w hx hr
  | [a, b], hn => subst hn; exact small_done2 ad cap a b z u w hx hr hz0 hz1
  | [a, b, c], hn => subst hn; exact small_done3 ad cap a b c z u w hx hr hz0 hz1
  | [a, b, c, d], hn => subst hn; exact small_done4 ad cap a b c d z u w hx hr hz0 hz1
  | [a, b, c, d, e], hn => subst hn; exact small_done5 ad cap a b c d e z u w hx hr hz0 hz1
  | a :: b :: c :: d :: e :: f :: t, hn => simp at hn; omega
end Go.Proofs.YtlnlijeamflpiaaGreat

namespace Go.Proofs.YtlnlijeamflpiaaGreat
open Go.RowKit Sm
set_option linter.unusedVariables false
set_option linter.unusedSimpArgs false
set_option maxRecDepth 100000
theorem few_size (n : Nat) (h1 : 1 ≤ n) (h5 : n ≤ 5) : hasSz (n : Int) = true := by
  have : n = 1 ∨ n = 2 ∨ n = 3 ∨ n = 4 ∨ n = 5 := by omega
  rcases this with rfl | rfl | rfl | rfl | rfl <;> exact hasSz_iff.2 (by decide)
theorem small_way (n : Nat) (d : Int) (w : World) (hs : hasSz n = true) (hd : d = 0 ∨ d = 1) :
    Calls Tryz.prog 194 #[.int .i64 n, .int .i64 d] w fun e w' => e = .returned (.int .u64 (dirRt n d)) ∧ w = w' := by
  have HS := Lib.hid hs
  clear hs
  rcases hd with h1 | h1
  · subst h1
    go_enter Tryz.func194, Tryz.ntmps194
    go_wp2_with fail
    refine (rootRoot_yes n _ HS.out).mono ?_; rintro e w' ⟨rfl, rfl⟩
    go_wp2_with fail
    go_ret
    exact ⟨rfl, rfl⟩
  · subst h1
    go_enter Tryz.func194, Tryz.ntmps194
    go_wp2_with fail
    refine (rootRoot_yes n _ HS.out).mono ?_; rintro e w' ⟨rfl, rfl⟩
    go_wp2_with fail
    refine (rootBack_yes n _ HS.out).mono ?_; rintro e w' ⟨rfl, rfl⟩
    go_wp2_with fail
    go_ret
    exact ⟨rfl, rfl⟩
end Go.Proofs.YtlnlijeamflpiaaGreat

namespace Go.Proofs.YtlnlijeamflpiaaGreat
open Go.RowKit Sm
set_option linter.unusedVariables false
set_option linter.unusedSimpArgs false
set_option maxRecDepth 100000
set_option maxHeartbeats 1000000 in
theorem kernel_ok (n m : Nat) (d : Int) (w : World) (h : hasSz n = true) (hd : d = 0 ∨ d = 1) (hm : hasSz m = true) (hl : 2 * n - 1 ≤ m) :
    Calls Tryz.prog 151 #[.int .i64 n, .int .i64 m, .int .i64 d] w (GivesRowE .u64 (zeroL (rowT (dirRt n d) n (2 * n - 1)) m) 0 w) := by
  obtain ⟨i0, hi, hz0, hz1, hz2⟩ := info_parts info_u64
  have C1 : Hid (∀ w : World, Calls Tryz.prog 172 #[.int .i64 n, .int .i64 d] w fun e w' => e = .returned (.tuple #[.int .u64 (dirRt n d), .int .i64 0]) ∧ w = w') := fun w => chirp_way n d w h hd
  obtain ⟨h1, h2, _⟩ := hasSz_iff.1 h
  obtain ⟨h3, h4, _⟩ := hasSz_iff.1 hm
  obtain ⟨q, hq⟩ : ∃ q : Nat, 2 * n - 1 = q := ⟨2 * n - 1, rfl⟩
  rw [hq] at hl ⊢
  have C2 : Hid (∀ (w : World), Calls Tryz.prog 148 #[.int .i64 n, .int .i64 d, .int .i64 q] w (GivesOwnE .u64 23 (rowT (dirRt n d) n q) w)) := fun w => chirp_Row n q d w h hd (by omega)
  have hq1 : 2 * (n : Int) - 1 = q := by omega
  have hql : ¬ (m : Int) < (q : Int) := by omega
  have hxl : (rowT (dirRt n d) n q).length = q := rowT_len _ _ _
  have hxf := rowT_fits (dirRt n d) n q
  obtain ⟨xs, hxs⟩ : ∃ xs, rowT (dirRt n d) n q = xs := ⟨_, rfl⟩
  rw [hxs] at C2 hxl hxf ⊢
  obtain ⟨dd, hdd⟩ : ∃ dd : Nat, m - q = dd := ⟨m - q, rfl⟩
  have hd1 : (m : Int) - (q : Int) = dd := by omega
  have H := Lib.hid h
  have HM := Lib.hid hm
  have HXL := Lib.hid hxl
  have HXF := Lib.hid hxf
  have HDD := Lib.hid hdd
  have HZL : Hid ((zeroL xs m).length = m) := zeroL_len xs m (by omega)
  have hqd : q + dd ≤ 100000000 := by omega
  have hm1 : m ≤ 16777216 := by omega
  clear h hd hm hxl hxf hxs hq hdd
  go_enter Tryz.func151, Tryz.ntmps151
  go_wp2_with fail
  refine (C1.out _).mono ?_; rintro e w' ⟨rfl, rfl⟩
  go_wp2_with fail
  refine (rootHas_yes _ _ HM.out).mono ?_; rintro e w' ⟨rfl, rfl⟩
  go_wp2_with fail
  refine (C2.out _).mono ?_; rintro e w1 ⟨a1, cap1, rfl, ho1, hr1, hcap1, hb1⟩
  rw [HXL.out] at ho1 ⊢
  have HO := Lib.hid ho1
  have hsz := hb1.size
  clear ho1 hr1 hcap1
  go_wp2_with (at_builtin; refine wpList_append_zeros _ rfl _ _ 22 3 rfl w.heap.size 23 i0 .u64 .i64 .i64 Tryz.underlying22 Tryz.underlying3 hi hz0 hz1 hz2 _ q _ rfl HO.out dd rfl (by omega) hsz ?_)
  intro v' w2 hown' hgrow
  have hb2 : Below w.heap.size w w2 := append_below hb1 hsz HO.out hgrow
  obtain ⟨a2, cap2, rfl, hcap2⟩ := own_slice hown'
  rw [show List.replicate dd (Value.int .u64 0) = List.replicate (m - xs.length) (Value.int .u64 0) by rw [HXL.out, HDD.out], zeroL_cells, show q + dd = m by have := HDD.out; omega] at hown'
  rw [show q + dd = m by have := HDD.out; omega] at hcap2 ⊢
  have hrow := Row.of_own (a := a2) (cap := cap2) HZL.out (by omega) (zeroL_fits xs m HXF.out) hown'
  have HR := Lib.hid hrow
  clear hown' hgrow hrow
  go_wp2_with fail
  go_ret2
  exact ⟨a2, cap2, by simp [HZL.out], HR.out, by rw [HZL.out]; exact hcap2, hb2⟩
end Go.Proofs.YtlnlijeamflpiaaGreat

namespace Go.Proofs.YtlnlijeamflpiaaGreat
open Go.RowKit
set_option linter.unusedVariables false
set_option linter.unusedSimpArgs false
set_option maxRecDepth 100000
set_option maxRecDepth 20000
namespace Tr
/-- The first node that is not right is there just where not all nodes are right. -/
theorem wrong_all' (N : Nat) : ∀ t : Tr, t.size ≤ N → (t.wrong.isSome = false ↔ ∀ u ∈ t.nodes, nodeOk u = true) := by
  induction N with
  | zero => intro t h; have := size_pos t; omega
  | succ N ih =>
    intro t h
    rw [size_kids] at h
    have hL : ∀ (ks : List Tr) (i : Nat), sizeL ks ≤ N → ((wrongL i ks).isSome = false ↔ ∀ u ∈ nodesL ks, nodeOk u = true) := by
      intro ks
      induction ks with
      | nil => intro i _; simp [wrongL, nodesL]
      | cons x r ih2 =>
        intro i hs
        simp only [sizeL] at hs
        have hx := ih x (by omega)
        simp only [wrongL, nodesL, List.mem_append]
        cases hw : wrong x with
        | none =>
          rw [hw] at hx
          simp only []
          rw [ih2 (i + 1) (by omega)]
          constructor
          · intro h u hu
            rcases hu with hu | hu
            · exact hx.1 rfl u hu
            · exact h u hu
          · intro h u hu; exact h u (.inr hu)
        | some p =>
          rw [hw] at hx
          simp only [Option.isSome_some, Bool.true_eq_false, false_iff]
          intro h
          have := hx.2 (fun u hu => h u (.inl hu))
          simp at this
    rw [wrong_kids, nodes_kids]
    by_cases hn : nodeOk t = true
    · rw [if_pos hn, hL t.kids 0 (by omega)]
      constructor
      · intro h u hu
        rcases List.mem_cons.1 hu with rfl | hu
        · exact hn
        · exact h u hu
      · intro h u hu; exact h u (List.mem_cons.2 (.inr hu))
    · rw [if_neg hn]
      simp only [Option.isSome_some, Bool.true_eq_false, false_iff]
      intro h; exact hn (h t (by simp))
theorem wrong_all (t : Tr) : t.wrong.isSome = false ↔ ∀ u ∈ t.nodes, nodeOk u = true := wrong_all' _ t (Nat.le_refl _)
end Tr
end Go.Proofs.YtlnlijeamflpiaaGreat

namespace Go.Proofs.YtlnlijeamflpiaaGreat
open Go.RowKit
set_option linter.unusedVariables false
set_option linter.unusedSimpArgs false
set_option maxRecDepth 100000
namespace Tr
theorem mem_nodesL {ks : List Tr} {u : Tr} : u ∈ nodesL ks ↔ ∃ i, i < ks.length ∧ u ∈ (kid ks i).nodes := by
  induction ks with
  | nil => simp [nodesL]
  | cons x r ih =>
    simp only [nodesL, List.mem_append, ih]
    constructor
    · rintro (h | ⟨i, hi, h⟩)
      · exact ⟨0, by simp, h⟩
      · exact ⟨i + 1, by simpa using hi, h⟩
    · rintro ⟨i, hi, h⟩
      cases i with
      | zero => exact .inl h
      | succ i => exact .inr ⟨i, by simpa using hi, h⟩
theorem mem_nodes {t u : Tr} : u ∈ t.nodes ↔ u = t ∨ ∃ i, i < t.kids.length ∧ u ∈ (kid t.kids i).nodes := by
  rw [nodes_kids, List.mem_cons, mem_nodesL]
/-- Is each node right? -/
def allOk (t : Tr) : Prop := ∀ u ∈ t.nodes, nodeOk u = true
theorem allOk_iff (t : Tr) : allOk t ↔ nodeOk t = true ∧ ∀ i, i < t.kids.length → allOk (kid t.kids i) := by
  unfold allOk
  constructor
  · intro h; exact ⟨h t (mem_nodes.2 (.inl rfl)), fun i hi u hu => h u (mem_nodes.2 (.inr ⟨i, hi, hu⟩))⟩
  · rintro ⟨h0, h1⟩ u hu
    rcases mem_nodes.1 hu with rfl | ⟨i, hi, hu⟩
    · exact h0
    · exact h1 i hi u hu
end Tr
theorem chk_zero {t : Tr} : chk t = 0 ↔ (t.size ≤ 60 ∧ t.depth ≤ 12) ∧ t.allOk := by
  have h := Tr.wrong_all t
  unfold chk bigB Tr.allOk
  rw [← h]
  by_cases h1 : 60 < t.size
  · simp [h1]; omega
  · by_cases h2 : 12 < t.depth
    · simp [h1, h2]; omega
    · simp only [h1, h2]
      cases hw : t.wrong.isSome <;> simp <;> omega
end Go.Proofs.YtlnlijeamflpiaaGreat

namespace Go.Proofs.YtlnlijeamflpiaaGreat
open Go.RowKit
set_option linter.unusedVariables false
set_option linter.unusedSimpArgs false
set_option maxRecDepth 100000
/-- Where sums and products end. -/
def sat (x : Int) : Int := if x ≤ 1152921504606846976 then x else 1152921504606846976
theorem sat_le (x : Int) : sat x ≤ 1152921504606846976 := by unfold sat; split <;> omega
theorem sat_ge {x a : Int} (h : a ≤ x) (ha : a ≤ 1152921504606846976) : a ≤ sat x := by unfold sat; split <;> omega
theorem sat_top {x : Int} (h : 1152921504606846976 ≤ x) : sat x = 1152921504606846976 := by unfold sat; split <;> omega
/-- The logarithm. -/
def lg (n : Int) : Int := (Lib.bitLen n.toNat : Int) - 1
/-- The estimate of a node, from those of the first two children and their sizes. -/
def estB (k n e0 e1 k0 k1 : Int) : Int :=
  if k = 1 then n * n
  else if k = 2 then 2 * n
  else if k = 3 then n * lg n
  else if k = 6 then sat (sat (2 * e0) + 2 * n)
  else if k = 7 then sat (sat (sat (2 * e0) + k0) + 3 * n)
  else if k = 4 then sat (sat (sat (k1 * e0) + sat (k0 * e1)) + n)
  else sat (sat (k1 * e0) + sat (k0 * e1))
namespace Tr
mutual
def est : Tr → Int
  | node k n ks => estB k n ((estL ks).getD 0 0) ((estL ks).getD 1 0) (kid ks 0).num (kid ks 1).num
def estL : List Tr → List Int
  | [] => []
  | t :: ts => est t :: estL ts
end
theorem estL_at (ks : List Tr) : ∀ i, i < ks.length → (estL ks).getD i 0 = (kid ks i).est := by
  induction ks with
  | nil => intro i h; simp at h
  | cons t ts ih =>
    intro i h
    cases i with
    | zero => simp [estL, kid]
    | succ i =>
      have := ih i (by simpa using h)
      simpa [estL, kid] using this
theorem est_kids (t : Tr) : t.est = estB t.kind t.num ((estL t.kids).getD 0 0) ((estL t.kids).getD 1 0) (kid t.kids 0).num (kid t.kids 1).num := by cases t; simp [est, kind, num, kids]
end Tr
theorem lg_pow (k : Nat) (hk : k ≤ 24) : lg ((2 ^ k : Nat) : Int) = k := by
  have h : ∀ j : Fin 25, Lib.bitLen (2 ^ j.val) = j.val + 1 := by decide +kernel
  have := h ⟨k, by omega⟩
  simp only [] at this
  unfold lg
  rw [Int.toNat_natCast, this]
  omega
/-- What a right node is, kind by kind. -/
theorem node_cases {t : Tr} (h : nodeOk t = true) :
    (t.kind = 1 ∧ t.kids.length = 0 ∧ 1 ≤ t.num ∧ t.num ≤ 64) ∨
    (t.kind = 2 ∧ t.kids.length = 0 ∧ 2 ≤ t.num ∧ t.num ≤ 5) ∨
    (t.kind = 3 ∧ t.kids.length = 0 ∧ ∃ j, 1 ≤ j ∧ j ≤ 24 ∧ t.num = ((2 ^ j : Nat) : Int)) ∨
    ((t.kind = 4 ∨ t.kind = 5) ∧ t.kids.length = 2 ∧ 1 ≤ t.num ∧ t.num ≤ 16777216 ∧ 2 ≤ (Tr.kid t.kids 0).num ∧ (Tr.kid t.kids 0).num ≤ t.num ∧ 2 ≤ (Tr.kid t.kids 1).num ∧ (Tr.kid t.kids 1).num ≤ t.num ∧ (Tr.kid t.kids 0).num * (Tr.kid t.kids 1).num = t.num) ∨
    (t.kind = 6 ∧ t.kids.length = 1 ∧ 3 ≤ t.num ∧ t.num ≤ 16777216 ∧ (Tr.kid t.kids 0).num = t.num - 1) ∨
    (t.kind = 7 ∧ t.kids.length = 1 ∧ 2 ≤ t.num ∧ t.num ≤ 16777216 ∧ 2 * t.num - 1 ≤ (Tr.kid t.kids 0).num ∧ (Tr.kid t.kids 0).num ≤ 16777216) := by
  unfold nodeOk nodeB at h
  generalize (Tr.kid t.kids 0).num = k0 at *
  generalize (Tr.kid t.kids 1).num = k1 at *
  by_cases h1 : t.kind = 1
  · rw [if_pos h1] at h
    simp only [Bool.and_eq_true, decide_eq_true_eq] at h
    have := hasSz_bd h.2
    exact .inl ⟨h1, h.1.1, this.1, h.1.2⟩
  rw [if_neg h1] at h
  by_cases h2 : t.kind = 2
  · rw [if_pos h2] at h
    simp only [decide_eq_true_eq] at h
    exact .inr (.inl ⟨h2, h.1, h.2.1, h.2.2⟩)
  rw [if_neg h2] at h
  by_cases h3 : t.kind = 3
  · rw [if_pos h3] at h
    simp only [Bool.and_eq_true, decide_eq_true_eq] at h
    obtain ⟨j, hj, e⟩ := (hasP2_iff _).1 h.2
    refine .inr (.inr (.inl ⟨h3, h.1.1, j, ?_, hj, e⟩))
    rcases Nat.eq_zero_or_pos j with h0 | h0
    · subst h0; have := h.1.2; rw [e] at this; simp at this
    · exact h0
  rw [if_neg h3] at h
  by_cases h4 : t.kind = 4
  · rw [if_pos h4] at h
    obtain ⟨⟨a, b, c, d, e, f⟩, g⟩ := sides_iff.1 h
    have := hasSz_bd g
    exact .inr (.inr (.inr (.inl ⟨.inl h4, a, this.1, this.2, b, d, c, e, f⟩)))
  rw [if_neg h4] at h
  by_cases h5 : t.kind = 5
  · rw [if_pos h5] at h
    simp only [Bool.and_eq_true] at h
    obtain ⟨⟨a, b, c, d, e, f⟩, g⟩ := sides_iff.1 h.1
    have := hasSz_bd g
    exact .inr (.inr (.inr (.inl ⟨.inr h5, a, this.1, this.2, b, d, c, e, f⟩)))
  rw [if_neg h5] at h
  by_cases h6 : t.kind = 6
  · rw [if_pos h6] at h
    simp only [Bool.and_eq_true, decide_eq_true_eq] at h
    have := hasSz_bd h.1.2
    exact .inr (.inr (.inr (.inr (.inl ⟨h6, h.1.1.1, h.1.1.2.1, this.2, h.1.1.2.2⟩))))
  rw [if_neg h6] at h
  by_cases h7 : t.kind = 7
  · rw [if_pos h7] at h
    simp only [Bool.and_eq_true, decide_eq_true_eq] at h
    have h8 := hasSz_bd h.1.2
    obtain ⟨j, hj, e⟩ := (hasP2_iff _).1 h.2
    have h9 : 2 ^ j ≤ 2 ^ 24 := Nat.pow_le_pow_right (by omega) hj
    have e9 : (2 : Nat) ^ 24 = 16777216 := by decide
    exact .inr (.inr (.inr (.inr (.inr ⟨h7, h.1.1.1, h.1.1.2.1, h8.2, h.1.1.2.2, by omega⟩))))
  rw [if_neg h7] at h
  cases h
theorem mul_ge_one {a b : Int} (ha : 1 ≤ a) (hb : 1 ≤ b) : 1 ≤ a * b := by
  have := Int.mul_le_mul ha hb (by omega) (by omega)
  omega
/-- The estimate of a plan: from 1 on, and no more than the end. -/
theorem est_bd' (N : Nat) : ∀ t : Tr, t.size ≤ N → t.allOk → 1 ≤ t.est ∧ t.est ≤ 1152921504606846976 := by
  induction N with
  | zero => intro t h; have := Tr.size_pos t; omega
  | succ N ih =>
    intro t hs hok
    have hn := ((Tr.allOk_iff t).1 hok)
    have hk : ∀ i, i < t.kids.length → 1 ≤ (Tr.kid t.kids i).est ∧ (Tr.kid t.kids i).est ≤ 1152921504606846976 := fun i hi =>
      ih _ (by have := Tr.size_kid t i hi; omega) (hn.2 i hi)
    rw [Tr.est_kids]
    unfold estB
    rcases node_cases hn.1 with ⟨hk1, _, h1, h2⟩ | ⟨hk1, _, h1, h2⟩ | ⟨hk1, _, j, h1, h2, h3⟩ | ⟨hk1, hl, h1, h2, h3, h4, h5, h6, h7⟩ | ⟨hk1, hl, h1, h2, h3⟩ | ⟨hk1, hl, h1, h2, h3, h4⟩
    · rw [if_pos hk1]
      have a1 := Int.mul_le_mul h1 h1 (by omega) (by omega)
      have a2 := Int.mul_le_mul h2 h2 (by omega) (by omega)
      omega
    · rw [if_neg (by omega), if_pos hk1]; omega
    · rw [if_neg (by omega), if_neg (by omega), if_pos hk1, h3, lg_pow j h2]
      have h9 : 2 ^ j ≤ 2 ^ 24 := Nat.pow_le_pow_right (by omega) h2
      have e9 : (2 : Nat) ^ 24 = 16777216 := by decide
      have h8 : 0 < 2 ^ j := Nat.pos_of_ne_zero (by simp)
      have a1 := mul_ge_one (a := ((2 ^ j : Nat) : Int)) (b := (j : Int)) (by omega) (by omega)
      have a2 := Int.mul_le_mul (show ((2 ^ j : Nat) : Int) ≤ 16777216 by omega) (show (j : Int) ≤ 24 by omega) (by omega) (by omega)
      omega
    · rw [if_neg (by omega), if_neg (by omega), if_neg (by omega), if_neg (by omega), if_neg (by omega)]
      have e0 := hk 0 (by omega)
      have e1 := hk 1 (by omega)
      rw [Tr.estL_at _ 0 (by omega), Tr.estL_at _ 1 (by omega)]
      have p0 := sat_ge (mul_ge_one (a := (Tr.kid t.kids 1).num) (b := (Tr.kid t.kids 0).est) (by omega) e0.1) (by omega)
      have p1 := sat_ge (mul_ge_one (a := (Tr.kid t.kids 0).num) (b := (Tr.kid t.kids 1).est) (by omega) e1.1) (by omega)
      have p2 : 1 ≤ sat (sat ((Tr.kid t.kids 1).num * (Tr.kid t.kids 0).est) + sat ((Tr.kid t.kids 0).num * (Tr.kid t.kids 1).est)) := sat_ge (by omega) (by omega)
      split
      · exact ⟨sat_ge (by omega) (by omega), sat_le _⟩
      · exact ⟨p2, sat_le _⟩
    · rw [if_neg (by omega), if_neg (by omega), if_neg (by omega), if_pos hk1]
      have e0 := hk 0 (by omega)
      rw [Tr.estL_at _ 0 (by omega)]
      have p0 : 0 ≤ sat (2 * (Tr.kid t.kids 0).est) := sat_ge (by omega) (by omega)
      exact ⟨sat_ge (by omega) (by omega), sat_le _⟩
    · rw [if_neg (by omega), if_neg (by omega), if_neg (by omega), if_neg (by omega), if_pos hk1]
      have e0 := hk 0 (by omega)
      rw [Tr.estL_at _ 0 (by omega)]
      have p0 : 0 ≤ sat (2 * (Tr.kid t.kids 0).est) := sat_ge (by omega) (by omega)
      have p1 : 0 ≤ sat (sat (2 * (Tr.kid t.kids 0).est) + (Tr.kid t.kids 0).num) := sat_ge (by omega) (by omega)
      exact ⟨sat_ge (by omega) (by omega), sat_le _⟩
theorem est_bd {t : Tr} (h : t.allOk) : 1 ≤ t.est ∧ t.est ≤ 1152921504606846976 := est_bd' _ t (Nat.le_refl _) h
end Go.Proofs.YtlnlijeamflpiaaGreat

namespace Go.Proofs.YtlnlijeamflpiaaGreat
open Go.RowKit
set_option linter.unusedVariables false
set_option linter.unusedSimpArgs false
set_option maxRecDepth 100000
def ents (l : List (Value × Value)) : List MapEntry := l.mapIdx fun i p => { key := p.1, val := p.2, born := i }
def mapObj (l : List (Value × Value)) : Obj := .map (ents l).toArray l.length
theorem ents_len (l : List (Value × Value)) : (ents l).length = l.length := by simp [ents]
theorem ents_get (l : List (Value × Value)) (i : Nat) : (ents l)[i]? = (l[i]?).map fun p => { key := p.1, val := p.2, born := i } := by
  simp [ents]
theorem ents_snoc (l : List (Value × Value)) (k v : Value) : ents (l ++ [(k, v)]) = ents l ++ [{ key := k, val := v, born := l.length }] := by
  simp [ents, List.mapIdx_append]
theorem ents_modify (l : List (Value × Value)) (j : Nat) (v : Value) : (ents l).modify j (fun e => { e with val := v }) = ents (l.modify j fun p => (p.1, v)) := by
  refine List.ext_getElem? fun i => ?_
  rw [List.getElem?_modify, ents_get, ents_get, List.getElem?_modify]
  cases l[i]? with
  | none => simp
  | some p => simp only [Option.map_some]; split <;> simp
/-- What a struct's type as a key has to say. -/
structure KeyOk (P : Program) (T : TypeId) (KV : Value → Prop) : Prop where
  wide : (match P.underlying T with | some (.array _ _) | some (.struct _) => true | _ => false) = true
  check : ∀ (e : Bool) (w : World) (k : Value), KV k → (Instr.checkKey e 10000 T k).run P w = .ok () w
  eq : ∀ (w : World) (x y : Value), KV x → KV y → ∃ b : Bool, (Op.equal T x y).run P w = .ok b w ∧ (b = true ↔ x = y)
  stays : ∀ (w : World) (k : Value), KV k → (Instr.keyThatStays k k).run P w = .ok k w
section
variable {P : Program} {T : TypeId} {KV : Value → Prop} (K : KeyOk P T KV)
include K
theorem KeyOk.asking (w : World) (k : Value) (hk : KV k) : ∀ (es : List MapEntry) (i : Nat), (∀ e ∈ es, KV e.key) →
    ((Instr.findAsking T k es i).run P w = .ok none w ∧ ∀ e ∈ es, e.key ≠ k) ∨ ∃ (j : Nat) (e : MapEntry), (Instr.findAsking T k es i).run P w = .ok (some (i + j, e.val)) w ∧ es[j]? = some e ∧ e.key = k
  | [], i, _ => .inl ⟨by simp [Instr.findAsking], fun _ h => by cases h⟩
  | e :: es, i, h => by
    obtain ⟨b, hb, hiff⟩ := K.eq w k e.key hk (h e (by simp))
    cases b with
    | true => exact .inr ⟨0, e, by simp [Instr.findAsking, hb, Result.andThen], by simp, (hiff.1 rfl).symm⟩
    | false =>
      have hne : e.key ≠ k := fun h2 => by have := hiff.2 h2.symm; cases this
      rcases KeyOk.asking w k hk es (i + 1) (fun x hx => h x (by simp [hx])) with ⟨h1, h2⟩ | ⟨j, e', h1, h2, h3⟩
      · refine .inl ⟨by simp [Instr.findAsking, hb, h1, Result.andThen], fun x hx => ?_⟩
        rcases List.mem_cons.1 hx with rfl | hx
        · exact hne
        · exact h2 x hx
      · exact .inr ⟨j + 1, e', by simp [Instr.findAsking, hb, h1, Result.andThen]; omega, by simpa using h2, h3⟩
theorem KeyOk.find_no (w : World) (k : Value) (hk : KV k) (l : List (Value × Value)) (hl : ∀ p ∈ l, KV p.1) (hn : ∀ p ∈ l, p.1 ≠ k) : (Instr.findKey T k (ents l)).run P w = .ok none w := by
  rw [run_findKey_eq _ K.wide]
  have hm : ∀ e ∈ ents l, ∃ p ∈ l, e.key = p.1 := fun e he => by
    obtain ⟨i, hi⟩ := List.getElem?_of_mem he
    rw [ents_get] at hi
    obtain ⟨p, hp, rfl⟩ := Option.map_eq_some_iff.1 hi
    exact ⟨p, List.mem_of_getElem? hp, rfl⟩
  rcases K.asking w k hk (ents l) 0 (fun e he => by obtain ⟨p, hp, h⟩ := hm e he; rw [h]; exact hl p hp) with ⟨h1, _⟩ | ⟨j, e, _, h2, h3⟩
  · exact h1
  · obtain ⟨p, hp, h⟩ := hm e (List.mem_of_getElem? h2)
    exact absurd (h.symm.trans h3) (hn p hp)
theorem KeyOk.find_yes (w : World) (k v : Value) (hk : KV k) (l : List (Value × Value)) (hl : ∀ p ∈ l, KV p.1) (hd : (l.map (·.1)).Nodup) (j : Nat) (hj : l[j]? = some (k, v)) : (Instr.findKey T k (ents l)).run P w = .ok (some (j, v)) w := by
  rw [run_findKey_eq _ K.wide]
  have hm : ∀ e ∈ ents l, ∃ p ∈ l, e.key = p.1 := fun e he => by
    obtain ⟨i, hi⟩ := List.getElem?_of_mem he
    rw [ents_get] at hi
    obtain ⟨p, hp, rfl⟩ := Option.map_eq_some_iff.1 hi
    exact ⟨p, List.mem_of_getElem? hp, rfl⟩
  rcases K.asking w k hk (ents l) 0 (fun e he => by obtain ⟨p, hp, h⟩ := hm e he; rw [h]; exact hl p hp) with ⟨_, h2⟩ | ⟨i, e, h1, h2, h3⟩
  · refine absurd rfl (h2 { key := k, val := v, born := j } (List.mem_of_getElem? (i := j) ?_))
    rw [ents_get, hj]; rfl
  · rw [ents_get] at h2
    obtain ⟨p, hp, rfl⟩ := Option.map_eq_some_iff.1 h2
    have hij : i = j := by
      have a1 : (l.map (·.1))[i]? = some k := by simp [hp]; exact h3
      have a2 : (l.map (·.1))[j]? = some k := by simp [hj]
      exact (List.getElem?_inj (by rw [List.length_map]; exact (List.getElem?_eq_some_iff.1 hp).1) hd).1 (a1.trans a2.symm)
    subst hij
    rw [hp] at hj
    cases hj
    rw [h1, Nat.zero_add]
variable {M E : TypeId} (hM : P.underlying M = some (.map T E)) {w : World} {b : Nat} {l : List (Value × Value)} (hb : w.heap[b]? = some (mapObj l)) (hl : ∀ p ∈ l, KV p.1) {k : Value} (hk : KV k)
include hM hb hl hk
theorem KeyOk.lookup_no {z : Value} (hz : ∀ u : World, (zeroValue E).run P u = .ok z u) (hn : ∀ p ∈ l, p.1 ≠ k) (ok : Bool) : (Instr.lookup M (.map (some b)) k ok).run P w = .ok (if ok then .tuple #[z, .bool false] else z) w := by
  unfold mapObj at hb
  simp [Instr.lookup, run_underlying hM, MapKept.run_getObj_map hb, K.check _ w k hk, K.find_no w k hk l hl hn, hz, Result.andThen]
theorem KeyOk.lookup_yes {v : Value} {j : Nat} (hd : (l.map (·.1)).Nodup) (hj : l[j]? = some (k, v)) (ok : Bool) : (Instr.lookup M (.map (some b)) k ok).run P w = .ok (if ok then .tuple #[v, .bool true] else v) w := by
  unfold mapObj at hb
  simp [Instr.lookup, run_underlying hM, MapKept.run_getObj_map hb, K.check _ w k hk, K.find_yes w k v hk l hl hd j hj, Result.andThen]
theorem KeyOk.entry_no {z : Value} (hz : ∀ u : World, (zeroValue E).run P u = .ok z u) (hn : ∀ p ∈ l, p.1 ≠ k) : (Instr.mapEntry M (.map (some b)) k).run P w = .ok (.tuple #[z, goInt l.length]) (w.putObj b (mapObj (l ++ [(k, z)]))) := by
  unfold mapObj at hb
  simp [Instr.mapEntry, run_underlying hM, MapKept.run_getObj_map hb, K.check false w k hk, K.find_no w k hk l hl hn, hz, MapKept.run_setObj_map _ hb, Result.andThen, World.putObj, mapObj, ents_snoc]
theorem KeyOk.entry_yes {v : Value} {j : Nat} (hd : (l.map (·.1)).Nodup) (hj : l[j]? = some (k, v)) : (Instr.mapEntry M (.map (some b)) k).run P w = .ok (.tuple #[v, goInt j]) (w.putObj b (mapObj l)) := by
  unfold mapObj at hb
  have he : (ents l)[j]? = some { key := k, val := v, born := j } := by rw [ents_get, hj]; rfl
  have hs : (ents l).modify j (fun e => { e with key := k }) = ents l := by
    refine List.ext_getElem? fun i => ?_
    rw [List.getElem?_modify]
    split
    · rename_i hij; subst hij; rw [he]; rfl
    · simp
  simp [Instr.mapEntry, run_underlying hM, MapKept.run_getObj_map hb, K.check false w k hk, K.find_yes w k v hk l hl hd j hj, he, K.stays w k hk, hs, MapKept.run_setObj_map _ hb, Result.andThen, World.putObj, mapObj]
theorem KeyOk.update_no {v : Value} (hn : ∀ p ∈ l, p.1 ≠ k) : (Instr.mapUpdate M (.map (some b)) k v).run P w = .ok () (w.putObj b (mapObj (l ++ [(k, v)]))) := by
  unfold mapObj at hb
  simp [Instr.mapUpdate, run_underlying hM, MapKept.run_getObj_map hb, K.check false w k hk, K.find_no w k hk l hl hn, MapKept.run_setObj_map _ hb, Result.andThen, World.putObj, mapObj, ents_snoc]
end
theorem run_entryStore {P : Program} {M : TypeId} {w : World} {b : Nat} {l : List (Value × Value)} (hb : w.heap[b]? = some (mapObj l)) (j : Nat) (hj : j < l.length) (v : Value) : (Instr.entryStore M (.map (some b)) (goInt j) v).run P w = .ok () (w.putObj b (mapObj (l.modify j fun p => (p.1, v)))) := by
  unfold mapObj at hb
  have hidx : (ents l).toArray.findIdx? (fun e => ((e.born : Nat) : Int) == ((j : Nat) : Int)) = some j := by
    have h1 : (ents l).findIdx? (fun e => ((e.born : Nat) : Int) == ((j : Nat) : Int)) = some j := by
      rw [List.findIdx?_eq_some_iff_getElem]
      refine ⟨by rw [ents_len]; exact hj, ?_, fun i hij => ?_⟩
      · simp [ents]
      · simp [ents]; omega
    simpa using h1
  have hm : (ents l).modify j (fun e => { e with val := v }) = ents (l.modify j fun p => (p.1, v)) := ents_modify l j v
  simp [Instr.entryStore, MapKept.run_getObj_map hb, asInt, asIntOf, goInt, hidx, hm, MapKept.run_setObj_map _ hb, Result.andThen, World.putObj, mapObj]
theorem put_same (w : World) (b : Nat) (o : Obj) (h : w.heap[b]? = some o) : w.putObj b o = w := by
  have h2 : w.heap.setIfInBounds b o = w.heap := by
    apply Array.ext_getElem?
    intro i
    by_cases hi : b = i
    · subst hi; rw [Array.getElem?_setIfInBounds_self_of_lt (Array.getElem?_eq_some_iff.1 h).1, h]
    · rw [Array.getElem?_setIfInBounds_ne hi]
  cases w
  simp only [World.putObj] at *
  rw [h2]
theorem put_below {B : Nat} {w w' : World} (h : Below B w w') (b : Nat) (hb : B ≤ b) (o : Obj) : Below B w (w'.putObj b o) :=
  ⟨h.os, h.tape, h.output, by simpa using h.size, fun j hj => (World.putObj_heap_other (by omega)).trans (h.block j hj)⟩
/-- A name: four numbers. -/
abbrev Nm := Int × Int × Int × Int
def nv (x : Nm) : Value := .agg #[.int .i64 x.1, .int .i64 x.2.1, .int .i64 x.2.2.1, .int .i64 x.2.2.2]
theorem int_eqIn (a b : Int) (w : World) : (Op.equalIn 9999 3 (.int .i64 a) (.int .i64 b)).run Tryz.prog w = .ok (a == b) w := by
  have hI := Tryz.underlying3
  unfold Op.equalIn
  simp [run_underlying hI]
theorem name_eq (x y : Nm) (w : World) : (Op.equal 112 (nv x) (nv y)).run Tryz.prog w = .ok (x.1 == y.1 && (x.2.1 == y.2.1 && (x.2.2.1 == y.2.2.1 && x.2.2.2 == y.2.2.2))) w := by
  have hT := Tryz.underlying112
  have hI := Tryz.underlying3
  have p0 : ∀ (a b c d : Int) (w : World), (part 3 #[.int .i64 a, .int .i64 b, .int .i64 c, .int .i64 d] 0).run Tryz.prog w = .ok (.int .i64 a) w := fun _ _ _ _ _ => by kernel_rfl
  have p1 : ∀ (a b c d : Int) (w : World), (part 3 #[.int .i64 a, .int .i64 b, .int .i64 c, .int .i64 d] 1).run Tryz.prog w = .ok (.int .i64 b) w := fun _ _ _ _ _ => by kernel_rfl
  have p2 : ∀ (a b c d : Int) (w : World), (part 3 #[.int .i64 a, .int .i64 b, .int .i64 c, .int .i64 d] 2).run Tryz.prog w = .ok (.int .i64 c) w := fun _ _ _ _ _ => by kernel_rfl
  have p3 : ∀ (a b c d : Int) (w : World), (part 3 #[.int .i64 a, .int .i64 b, .int .i64 c, .int .i64 d] 3).run Tryz.prog w = .ok (.int .i64 d) w := fun _ _ _ _ _ => by kernel_rfl
  unfold Op.equal Op.maxDepth nv
  unfold Op.equalIn
  simp [run_underlying hT, p0, p1, p2, p3, int_eqIn, Result.andThen]
  by_cases h0 : x.1 = y.1 <;> by_cases h1 : x.2.1 = y.2.1 <;> by_cases h2 : x.2.2.1 = y.2.2.1 <;> by_cases h3 : x.2.2.2 = y.2.2.2 <;> simp [h0, h1, h2, h3, p0, p1, p2, p3, int_eqIn, Result.andThen]
theorem name_check (x : Nm) (e : Bool) (w : World) : (Instr.checkKey e 10000 112 (nv x)).run Tryz.prog w = .ok () w := by kernel_rfl
/-- It is a name's value. -/
def isNv (v : Value) : Prop := ∃ x : Nm, v = nv x
theorem nv_inj {x y : Nm} (h : nv x = nv y) : x = y := by
  obtain ⟨a, b, c, d⟩ := x
  obtain ⟨a', b', c', d'⟩ := y
  simp only [nv, Value.agg.injEq, Array.mk.injEq, List.cons.injEq, Value.int.injEq, true_and, and_true] at h
  obtain ⟨rfl, rfl, rfl, rfl⟩ := h
  rfl
theorem name_eqB (x y : Nm) (w : World) : (Op.equal 112 (nv x) (nv y)).run Tryz.prog w = .ok (decide (x = y)) w := by
  rw [name_eq]
  congr 1
  obtain ⟨a, b, c, d⟩ := x
  obtain ⟨a', b', c', d'⟩ := y
  rw [Bool.eq_iff_iff]
  simp
theorem name_keys : KeyOk Tryz.prog 112 isNv where
  wide := by kernel_rfl
  check := fun e w k h => by obtain ⟨x, rfl⟩ := h; exact name_check x e w
  eq := fun w x y hx hy => by
    obtain ⟨x, rfl⟩ := hx
    obtain ⟨y, rfl⟩ := hy
    refine ⟨_, name_eqB x y w, ?_⟩
    rw [decide_eq_true_eq]
    exact ⟨fun h => by rw [h], nv_inj⟩
  stays := fun w k h => by
    obtain ⟨x, rfl⟩ := h
    simp [Instr.keyThatStays, nv, Instr.sameBits]
end Go.Proofs.YtlnlijeamflpiaaGreat

namespace Go.Proofs.YtlnlijeamflpiaaGreat
open Go.RowKit
set_option linter.unusedVariables false
set_option linter.unusedSimpArgs false
set_option maxRecDepth 100000
theorem orI_neg {x y x' y' : Int} (h : x' = -x) (h2 : x = 0 → y' = -y) : orI x' y' = - orI x y := by
  unfold orI
  by_cases hx : x = 0
  · rw [if_pos (by omega), if_pos hx]; exact h2 hx
  · rw [if_neg (by omega), if_neg hx]; exact h
namespace Tr
theorem cmpL_neg (ts : List Tr) (h : ∀ t ∈ ts, ∀ u, cmp u t = - cmp t u) : ∀ us, ts.length = us.length → cmpL us ts = - cmpL ts us := by
  induction ts with
  | nil => intro us hl; cases us with
    | nil => simp [cmpL]
    | cons u us => simp at hl
  | cons t ts ih =>
    intro us hl
    cases us with
    | nil => simp at hl
    | cons u us =>
      simp only [cmpL]
      exact orI_neg (h t (by simp) u) fun _ => ih (fun t ht => h t (by simp [ht])) us (by simpa using hl)
theorem cmp_neg' (N : Nat) : ∀ t u : Tr, t.size ≤ N → cmp u t = - cmp t u := by
  induction N with
  | zero => intro t u h; have := size_pos t; omega
  | succ N ih =>
    intro t u h
    rw [cmp_kids, cmp_kids t u]
    refine orI_neg (cmpI_neg _ _) fun _ => orI_neg (cmpI_neg _ _) fun _ => orI_neg (cmpI_neg _ _) fun h3 => cmpL_neg _ (fun t' ht u => ih t' u ?_) _ ?_
    · have := size_mem ht; rw [size_kids] at h; omega
    · have := cmpI_zero h3; omega
theorem cmp_neg (t u : Tr) : cmp u t = - cmp t u := cmp_neg' _ t u (Nat.le_refl _)
end Tr
end Go.Proofs.YtlnlijeamflpiaaGreat

