/- The contracts and plain laws that the statement TableClears needs, part 2 of 2: RowZeros VecO RootP GenA RoundR StockB StockC StockD StockE StockF ChirpA ChirpE CostL MapB NeedL NeedA TabA DftD TabB TabD PermA TabE. -/
import Derived.Test.YtcckfeikaolfgaaTableClearsB1
namespace Go.Proofs.Ytcckfeikaolfgaa
open Go.RowKit
set_option linter.unusedVariables false
set_option linter.unusedSimpArgs false
set_option maxRecDepth 100000
/-- A result: a new row, of the call's own. -/
def GivesOwn (k : IntKind) (t : TypeId) (xs : List Int) (w : World) (e : Ending) (w' : World) : Prop :=
  ∃ a cap, e = .returned (.slice a xs.length cap) ∧ w'.ownsRow w.heap.size t 1 (.slice a xs.length cap) xs.length (xs.map (Value.int k)) ∧ (∀ x ∈ xs, fits k x) ∧ xs.length ≤ 16777216 ∧ Below w.heap.size w w'
theorem GivesOwn.row {k : IntKind} {t : TypeId} {xs : List Int} {w w' : World} {e : Ending} (h : GivesOwn k t xs w e w') : GivesRow k xs w e w' := by
  obtain ⟨a, cap, rfl, ho, hf, hl, hb⟩ := h
  exact gives_of_own ho hb rfl rfl hf hl
theorem Own.givesO {k : IntKind} {e : TypeId} {w wr : World} {v : Value} {n : Nat} {f : Nat → Int} (h : Own k e w wr v n f) {xs : List Int} (hn : xs.length = n) (hw : ∀ x ∈ xs, fits k x) (hf : ∀ i, i < n → nth xs i = f i) (hl : n ≤ 16777216) :
    GivesOwn k e xs w (.returned v) wr := by
  obtain ⟨a, cap, rfl, hnil⟩ := own_slice h.own
  have e1 : xs.map (Value.int k) = (List.range n).map fun j => Value.int k (f j) := by
    apply List.ext_getElem (by simp [hn])
    intro i h1 h2
    have h3 : i < n := by simpa [hn] using h1
    have := hf i h3
    simp only [List.getElem_map, List.getElem_range]
    rw [← this]
    simp [nth, show i < xs.length by omega]
  refine ⟨a, cap, by rw [hn], ?_, hw, by omega, h.below⟩
  rw [hn, e1]
  exact h.own
theorem OwnAt.givesO {k : IntKind} {e : TypeId} {w wr : World} {g n : Nat} {f : Nat → Int} (h : OwnAt k e w wr g n f) {xs : List Int} (hn : xs.length = n) (hw : ∀ x ∈ xs, fits k x) (hf : ∀ i, i < n → nth xs i = f i) (hl : n ≤ 16777216) :
    GivesOwn k e xs w (.returned (.slice (some ⟨g, 0, none⟩) n n)) wr :=
  Own.givesO (e := e) ⟨h.own, h.below⟩ hn hw hf hl
theorem zeros_list (x : Value) (n : Nat) : (Builtin.zeroCells #[x] n).toList = List.replicate n x := by
  have hs := size_zeroCells #[x] n
  apply List.ext_getElem
  · simp [hs]
  · intro i h1 h2
    simp [Builtin.zeroCells, Nat.mod_one]
theorem run_append_zeros_own {P : Program} (w : World) (base : Nat) (t tn ty e : TypeId) (i : TypeInfo) (k kq kn : IntKind) (ht : P.underlying t = some (.slice e)) (htn : P.underlying tn = some (.int kn)) (hi : P.info? e = some i) (hz : i.zero = some (.int k 0)) (hz1 : i.size = 1) (hz2 : i.bytes = 8)
    (v : Value) (n : Nat) (xs : List Value) (hown : w.ownsRow base e 1 v n xs) (m : Nat) (hlen : n + m ≤ 100000000) (hbase : base ≤ w.heap.size) :
    ∃ v' w', (Builtin.append_ #[t, tn] ty #[v, .int kq m]).run P w = .ok v' w' ∧ w'.ownsRow base e 1 v' (n + m) (xs ++ List.replicate m (.int k 0)) ∧ w.grownBy w' v.ownBlock := by
  have hxl : xs.length = n := by rw [hown.1, Nat.mul_one]
  have hw : IntKind.i64.wrap (m : Int) = m := IntWalk.i64_in _ (by omega)
  have hw0 : IntKind.i64.wrap 0 = 0 := rfl
  have hneg : ¬ ((m : Int) < 0) := by omega
  have h48 : ¬ (281474976710656 < (m : Int) * 8) := by omega
  have hlen2 : (xs ++ List.replicate m (Value.int k 0)).length = (n + m) * 1 := by simp [hxl]
  have hZ : (Value.int k 0).cells = #[Value.int k 0] := rfl
  have grown : ∀ (old : Nat) (row : Option Nat), old < n + m →
      (w.drew.alloc (.cells (xs.toArray ++ Builtin.zeroCells #[Value.int k 0] m ++ Builtin.zeroCells #[Value.int k 0] (grownCap w (n + m) old e - (n + m))) e)).ownsRow base e 1
        (.slice (some ⟨w.heap.size, 0, none⟩) (n + m) (grownCap w (n + m) old e)) (n + m) (xs ++ List.replicate m (.int k 0)) ∧
      w.grownBy (w.drew.alloc (.cells (xs.toArray ++ Builtin.zeroCells #[Value.int k 0] m ++ Builtin.zeroCells #[Value.int k 0] (grownCap w (n + m) old e - (n + m))) e)) row := by
    intro old row ho
    have hge := grownCap_ge w (n + m) old e
    have hcm : grownCap w (n + m) old e ≤ maxLen := grownCap_le_maxLen w (n + m) old e (by unfold maxLen; omega)
    refine ⟨⟨hlen2, .inr ⟨w.heap.size, _, _, rfl, hbase, heap_alloc_new w.drew _, hge, hcm, ?_, ?_⟩⟩, ⟨rfl, rfl, rfl, by simp, fun j hj _ => heap_alloc_old w.drew _ hj⟩⟩
    · simp only [Array.size_append, List.size_toArray, size_zeroCells, hxl]
      simp
      omega
    · simp only [Array.toList_append, zeros_list]
      rw [← hlen2]
      exact List.take_left
  rcases hown.2 with ⟨rfl, rfl⟩ | ⟨g, cap, cur, rfl, hbg, hg, hnc, hcm, hcs, htake⟩
  · have hx : xs = [] := List.eq_nil_of_length_eq_zero hxl
    subst hx
    by_cases hm : m = 0
    · subst hm
      refine ⟨.slice none 0 0, w, ?_, World.ownsRow_nil w base e 1, World.grownBy.refl _ _⟩
      simp [Builtin.append_, run_underlying ht, run_underlying htn, sizeOf, typeInfo, hi, asInt, asIntOf, hw0]
    · have hr := Lib.run_append_nil_zeros (P := P) w t tn ty e i (.int k 0) kq kn ht htn hi hz m (by omega) (by omega) (by omega) (by rw [hz2]; omega)
      have hgr := grown 0 (Value.ownBlock (.slice none 0 0)) (by omega)
      rw [hZ] at hr
      simp only [Nat.zero_add, List.nil_append, Array.empty_append] at hgr ⊢
      exact ⟨_, _, hr, hgr.1, hgr.2⟩
  · by_cases hroom : n + m ≤ cap
    · have hcs' : cur.size = cap := by rw [hcs, Nat.mul_one]
      have hst := run_storeCells_at P g n e (List.replicate m (.int k 0)) 0 cur w hg (by simp; omega) (by intro u hu; rw [List.eq_of_mem_replicate hu]; rfl)
      refine ⟨_, w.setRow g (cur.toList.take n ++ List.replicate m (Value.int k 0) ++ cur.toList.drop (n + m)).toArray, ?_, ⟨hlen2, .inr ⟨g, cap, _, rfl, hbg, setRow_heap w g cur _ e _ hg, hroom, hcm, ?_, ?_⟩⟩, ⟨rfl, rfl, rfl, by simp, fun j _ hj => setRow_other w g j _ (fun e => hj (by simp [Value.ownBlock, e]))⟩⟩
      · by_cases hm : m = 0
        · subst hm
          have hself : w.setRow g (cur.toList.take n ++ List.replicate 0 (Value.int k 0) ++ cur.toList.drop (n + 0)).toArray = w := by
            simp only [List.replicate_zero, List.append_nil, Nat.add_zero, List.take_append_drop, Array.toArray_toList]
            exact setRow_self w g cur e (0, 0) hg
          rw [hself]
          simp [Builtin.append_, run_underlying ht, run_underlying htn, sizeOf, typeInfo, hi, asInt, asIntOf, hnc, hw0, storeCells]
        · have hns : ¬ (m * i.size = 0) := by rw [hz1]; omega
          simp only [Nat.add_zero, List.length_replicate] at hst
          simp [Builtin.append_, run_underlying ht, run_underlying htn, sizeOf, typeInfo, zeroValue, hi, hz, hz1, hz2, asInt, asIntOf, hw, hneg, h48, hroom, hm, zeros_list, Value.cells, Addr.add_lit, hst]
      · simp only [List.size_toArray, List.length_append, List.length_take, List.length_drop, Array.length_toList, List.length_replicate]
        omega
      · rw [Nat.mul_one] at htake
        rw [htake, ← hlen2]
        exact List.take_left
    · have holds : ∀ j u, xs[j]? = some u → w.cell? ((⟨g, 0, none⟩ : Addr).add j) = some u := hown.cells (g := g) rfl
      have hfo := run_firstCells_some (P := P) w.drew i.size n ⟨g, 0, none⟩ n cap xs (by rw [hz1, hxl, Nat.mul_one]) (by simpa using holds)
      by_cases hm : m = 0
      · omega
      · have hfit : Builtin.nextslicecap (n + m) cap * i.bytes ≤ 281474976710656 := growslice_fits (by omega) (by rw [hz2]; omega)
        have hr := Lib.run_append_grow_zeros (P := P) w t tn ty e i (.int k 0) kq kn ht htn hi hz (some ⟨g, 0, none⟩) n cap xs hfo m (by omega) (by omega) (by omega) (by omega) (by rw [hz2]; omega) hfit
        have hgr := grown cap (Value.ownBlock (.slice (some ⟨g, 0, none⟩) n cap)) (by omega)
        rw [hZ] at hr
        exact ⟨_, _, hr, hgr.1, hgr.2⟩
/-- append(own, make([]T, m)...) in a walk. -/
theorem wpList_append_zeros {P : Program} (w : World) {ops : Array Oper} {rest : List Oper} {o : Oper} {a : Act} {Q : Exit → Act → World → Prop} (hgd : o.guard = none) (s x : Operand) (t tn : TypeId)
    (ho : o.op = .call { callee := .builtin .append, args := #[s, x], argTypes := #[t, tn] }) (base : Nat) (e : TypeId) (i : TypeInfo) (k kq kn : IntKind) (ht : P.underlying t = some (.slice e)) (htn : P.underlying tn = some (.int kn)) (hi : P.info? e = some i) (hz : i.zero = some (.int k 0)) (hz1 : i.size = 1) (hz2 : i.bytes = 8)
    (v : Value) (n : Nat) (xs : List Value) (hs : a.eval s = v) (hown : w.ownsRow base e 1 v n xs) (m : Nat) (hx : a.eval x = .int kq m) (hlen : n + m ≤ 100000000) (hbase : base ≤ w.heap.size)
    (h : ∀ v' w', w'.ownsRow base e 1 v' (n + m) (xs ++ List.replicate m (.int k 0)) → w.grownBy w' v.ownBlock → wpList P ops Q rest (a.put o.dst v') w') : wpList P ops Q (o :: rest) a w := by
  obtain ⟨v', w', hr, h1, h2⟩ := run_append_zeros_own (P := P) w base t tn o.type e i k kq kn ht htn hi hz hz1 hz2 v n xs hown m hlen hbase
  exact Lib.wpList_append_run w hgd s x t tn ho v (.int kq m) hs hx v' w' hr (h v' w' h1 h2)
end Go.Proofs.Ytcckfeikaolfgaa

namespace Go.Proofs.Ytcckfeikaolfgaa
open Go.RowKit
set_option linter.unusedVariables false
set_option linter.unusedSimpArgs false
set_option maxRecDepth 100000
theorem own_base {w : World} {B B' : Nat} {e : TypeId} {v : Value} {n : Nat} {xs : List Value} (h : w.ownsRow B e 1 v n xs) (hB : B' ≤ B) : w.ownsRow B' e 1 v n xs := by
  obtain ⟨h1, h2 | ⟨g, cap, cur, h3, h4, h5⟩⟩ := h
  · exact ⟨h1, .inl h2⟩
  · exact ⟨h1, .inr ⟨g, cap, cur, h3, Nat.le_trans hB h4, h5⟩⟩
end Go.Proofs.Ytcckfeikaolfgaa

namespace Go.Proofs.Ytcckfeikaolfgaa
open Go.RowKit Sm
set_option linter.unusedVariables false
set_option linter.unusedSimpArgs false
set_option maxRecDepth 100000
theorem own_eqz {k : IntKind} {e : TypeId} {w wr : World} {g n : Nat} {f f' : Nat → Int} (h : OwnAt k e w wr g n f) (he : ∀ n, f' n = f n) : OwnAt k e w wr g n f' := by
  rw [show f' = f from funext he]; exact h
set_option maxHeartbeats 800000 in
theorem rootPowers (a : Int) (n : Nat) (w : World) (h0 : 0 ≤ a) (h1 : a < 18446744073709551616) (hn : n ≤ 16777216) :
    Calls Try.prog 69 #[.int .u64 a, .int .i64 n] w (GivesRowE .u64 (powL a n) 0 w) := by
  obtain ⟨i0, hi, hz0, hz1, hz2⟩ := info_parts info_u64
  go_enter Try.func69, Try.ntmps69
  go_wp2_with (at_make; refine wpList_make_full _ rfl _ _ 25 rfl w.heap.size 34 i0 (.int .u64 0) 1 Try.underlying25 hi hz0 hz1 .i64 .i64 n n n rfl rfl rfl rfl (by rw [hz2]; omega) (by unfold maxLen; omega) (Nat.le_refl _) ?_)
  intro w1 hown0 hgrow0
  have hown := Own.made hown0 hgrow0
  clear hown0 hgrow0
  go_wp2_with fail
  go_loopw [7, 19] (fun p i wr => ∃ (k : Nat) (v : Int), k ≤ n ∧ i = .int .i64 k ∧ p = .int .u64 v ∧ Hid (v = pw a k) ∧ 0 ≤ v ∧ v < 18446744069414584321 ∧ OwnAt .u64 34 w wr w.heap.size n (fun j => if j < k then pw a j else 0)) (fun _ i _ => n - (intOf i).toNat)
  case atStart => exact ⟨0, 1, Nat.zero_le _, rfl, rfl, (pw_0 a).symm, by omega, by omega, own_eqz hown (fun j => if_neg (by omega))⟩
  case round =>
    obtain ⟨k, v, hk, rfl, rfl, HV, hv0, hv1, hown⟩ := hrel
    by_cases hlt : k < n
    · have hcell := hown.cell k hlt
      rw [if_neg (Nat.lt_irrefl k)] at hcell
      have hfz := hown.free k
      have hnext := hown.store k hlt v (f' := fun j => if j < k + 1 then pw a j else 0) (by rw [if_pos (by omega)]; exact HV.out.symm) (fun j _ hj => by
        by_cases h : j < k
        · rw [if_pos h, if_pos (by omega)]
        · rw [if_neg h, if_neg (by omega)])
      have HN := Lib.hid hnext
      have HM : Hid (v * a % 18446744069414584321 = pw a (k + 1)) := by unfold Hid; rw [HV.out]; exact pw_succ a k
      clear hown hnext
      go_wp2_with (first | (go_at_call 85; refine (gold_Mul _ _ _ (by omega) (by omega) (by omega) (by omega)).mono ?_; rintro e w' ⟨rfl, rfl⟩))
      go_roundw
      case rel => exact ⟨k + 1, _, by omega, by go_num, rfl, HM.out, by omega, by omega, HN.out⟩
      case measure => simp [intOf]; omega
    · have hkn : k = n := by omega
      have hrow := hown.row (xs := powL a n) (powL_len a n) (powL_fits a n) (fun i hi => by rw [show nth (powL a n) i = pw a i from nth_ofFn _ _ _ hi, if_pos (by omega)]) hn
      have hb := hown.below
      have HR := Lib.hid hrow
      have HL := Lib.hid (powL_len a n)
      clear hown hrow
      go_wp2_with fail
      go_ret2
      exact ⟨some ⟨w.heap.size, 0, none⟩, n, by simp [HL.out], HR.out, by rw [HL.out]; exact ⟨Nat.le_refl _, fun h => by cases h⟩, hb⟩
end Go.Proofs.Ytcckfeikaolfgaa

namespace Go.Proofs.Ytcckfeikaolfgaa
open Go.RowKit
set_option linter.unusedVariables false
set_option linter.unusedSimpArgs false
set_option maxRecDepth 100000
@[irreducible] def pmo (a n q : Nat) : Nat := a ^ n % q
theorem pmo_step1 {p a n q V : Nat} (h1 : n % 2 = 1) (H : p * a ^ n % q = V) : (p * a % q) * (a * a % q) ^ (n / 2) % q = V := by
  rw [Nat.mod_mul_mod, Nat.mul_mod, ← Nat.pow_mod, ← Nat.mul_mod, ← Nat.pow_two, ← Nat.pow_mul, Nat.mul_assoc, ← Nat.pow_succ', Nat.succ_eq_add_one, show 2 * (n / 2) + 1 = n by omega]
  exact H
theorem pmo_step0 {p a n q V : Nat} (h1 : n % 2 = 0) (H : p * a ^ n % q = V) : p * (a * a % q) ^ (n / 2) % q = V := by
  rw [Nat.mul_mod, ← Nat.pow_mod, ← Nat.mul_mod, ← Nat.pow_two, ← Nat.pow_mul, show 2 * (n / 2) = n by omega]
  exact H
theorem mulN (a b s : Nat) (h : a * b = s) : (a : Int) * (b : Int) = (s : Int) := by rw [← h]; simp
theorem modN (s q r : Nat) (h : s % q = r) : (s : Int).tmod (q : Int) = (r : Int) ∧ (s : Int) % (q : Int) = (r : Int) := by
  subst h
  exact ⟨by rw [Int.tmod_eq_emod_of_nonneg (by omega), Int.natCast_emod], by rw [← Int.natCast_emod]⟩
theorem divN (s q r : Nat) (h : s / q = r) : (s : Int).tdiv (q : Int) = (r : Int) ∧ (s : Int) / (q : Int) = (r : Int) := by
  subst h
  exact ⟨by rw [Int.tdiv_eq_ediv_of_nonneg (by omega), Int.natCast_ediv], by rw [← Int.natCast_ediv]⟩
theorem prod_bd {a b q : Nat} (ha : a < q) (hb : b < q) (hq : q ≤ 131072) : a * b ≤ 131072 * 131072 := Nat.mul_le_mul (by omega) (by omega)
set_option maxHeartbeats 1000000 in
theorem gen_power (a n q : Nat) (w : World) (hq1 : 2 ≤ q) (hq2 : q ≤ 131072) (ha : a < q) (hn : n ≤ 131072) :
    Calls Try.prog 112 #[.int .i64 a, .int .i64 n, .int .i64 q] w fun e w' => e = .returned (.int .i64 (pmo a n q : Nat)) ∧ w = w' := by
  obtain ⟨V, hV⟩ : ∃ V, a ^ n % q = V := ⟨_, rfl⟩
  have HV : Hid (1 * a ^ n % q = V) := by unfold Hid; rw [Nat.one_mul]; exact hV
  have HP : Hid (pmo a n q = V) := by unfold Hid pmo; exact hV
  have z1 : ((q : Int) == 0) = false := bno (by omega)
  have z2 : ¬ (q : Int) = 0 := by omega
  have o1 := (modN 1 q 1 (Nat.mod_eq_of_lt (by omega))).1
  have o2 := (modN 1 q 1 (Nat.mod_eq_of_lt (by omega))).2
  clear hV
  simp only [Int.natCast_one] at o1 o2
  go_enter Try.func112, Try.ntmps112
  go_wp2_with fail
  go_loop [0, 1, 7] (fun x y z => ∃ b m p : Nat, x = .int .i64 b ∧ y = .int .i64 m ∧ z = .int .i64 p ∧ b < q ∧ m ≤ 131072 ∧ p < q ∧ Hid (p * b ^ m % q = V)) (fun x y z => (intOf y).toNat)
  case atStart => exact ⟨a, n, 1, rfl, rfl, rfl, ha, hn, by omega, HV.out⟩
  case round =>
    obtain ⟨b, m, p, rfl, rfl, rfl, hb, hm, hp, H⟩ := hrel
    by_cases h0 : m = 0
    · subst h0
      go_wp2_with fail
      go_ret
      refine ⟨ret_int ?_, rfl⟩
      have h := H.out
      rw [Nat.pow_zero, Nat.mul_one, Nat.mod_eq_of_lt hp] at h
      rw [HP.out, h]
    · have hpos : (0 : Int) < (m : Int) := by omega
      obtain ⟨k, hk⟩ : ∃ k, m / 2 = k := ⟨_, rfl⟩
      have d1 : (m : Int).tdiv 2 = (k : Int) := (divN m 2 k hk).1
      have d2 : (m : Int) / 2 = (k : Int) := (divN m 2 k hk).2
      obtain ⟨s, hs⟩ : ∃ s, b * b = s := ⟨_, rfl⟩
      have hs1 := prod_bd hb hb hq2
      rw [hs] at hs1
      have m1 := mulN b b s hs
      obtain ⟨r, hr⟩ : ∃ r, s % q = r := ⟨_, rfl⟩
      have r1 := (modN s q r hr).1
      have r2 := (modN s q r hr).2
      have hrq : r < q := by rw [← hr]; exact Nat.mod_lt _ (by omega)
      have hkm : k < m := by omega
      by_cases h1 : m % 2 = 1
      · have e1 : (m : Int).tmod 2 = 1 := (modN m 2 1 h1).1
        have e2 : (m : Int) % 2 = 1 := (modN m 2 1 h1).2
        obtain ⟨t, ht⟩ : ∃ t, p * b = t := ⟨_, rfl⟩
        have ht1 := prod_bd hp hb hq2
        rw [ht] at ht1
        have n1 := mulN p b t ht
        obtain ⟨u, hu⟩ : ∃ u, t % q = u := ⟨_, rfl⟩
        have u1 := (modN t q u hu).1
        have u2 := (modN t q u hu).2
        have huq : u < q := by rw [← hu]; exact Nat.mod_lt _ (by omega)
        have H2 : Hid (u * r ^ k % q = V) := by
          unfold Hid; rw [← hu, ← hr, ← ht, ← hs, ← hk]; exact pmo_step1 h1 H.out
        clear hk hs hr ht hu h1
        go_wp2_with fail
        go_round
        case rel => exact ⟨r, k, u, rfl, rfl, rfl, hrq, by omega, huq, H2.out⟩
        case measure => simp [intOf]; omega
      · have h10 : m % 2 = 0 := by omega
        have e1 : (m : Int).tmod 2 = 0 := (modN m 2 0 h10).1
        have e2 : (m : Int) % 2 = 0 := (modN m 2 0 h10).2
        have H2 : Hid (p * r ^ k % q = V) := by
          unfold Hid; rw [← hr, ← hs, ← hk]; exact pmo_step0 h10 H.out
        clear hk hs hr h1 h10
        go_wp2_with fail
        go_round
        case rel => exact ⟨r, k, p, rfl, rfl, rfl, hrq, by omega, hp, H2.out⟩
        case measure => simp [intOf]; omega
theorem fac_fq {q : Nat} (h : IsFq q) : ∃ m, facL (q - 1) = [(2, m)] := by
  rcases h with h | h | h | h | h <;> subst h
  · exact ⟨1, by decide +kernel⟩
  · exact ⟨2, by decide +kernel⟩
  · exact ⟨4, by decide +kernel⟩
  · exact ⟨8, by decide +kernel⟩
  · exact ⟨16, by decide +kernel⟩
theorem gen_less {q : Nat} (h : IsFq q) (i : Nat) (h1 : 1 ≤ i) (h2 : i < gq q) : pmo i ((q - 1) / 2) q = 1 := by
  unfold pmo
  rw [← Fld.pm_eq q 17 i ((q - 1) / 2) (by have := fq_bd h; omega)]
  have hb := gq_bd h
  have hi : i = 1 ∨ i = 2 := by omega
  rcases h with h | h | h | h | h <;> subst h <;> rcases hi with hi | hi <;> subst hi <;> revert h2 <;> decide +kernel
theorem gen_at {q : Nat} (h : IsFq q) : pmo (gq q) ((q - 1) / 2) q ≠ 1 := by
  have := gp_half h
  unfold gp at this
  unfold pmo; exact this
theorem gen_there {q : Nat} (w : World) (h : IsFq q) :
    Calls Try.prog 111 #[.int .i64 q] w fun e w' => e = .returned (.bool true) ∧ Below w.heap.size w w' := by
  have hb := fq_bd h
  have C1 : Hid (∀ W, Calls Try.prog 67 #[.int .i64 q] W fun e w' => e = .returned (.bool true) ∧ Below W.heap.size W w') := fun W => by
    have := fact_Prime (q : Int) W (by omega)
    rw [pr_of_fq h] at this; exact this
  clear h
  go_enter Try.func111, Try.ntmps111
  go_wp2_with fail
  refine (C1.out _).mono ?_; rintro e w1 ⟨rfl, hb1⟩
  go_wp2_with fail
  go_ret
  exact ⟨rfl, hb1⟩
set_option maxHeartbeats 2000000 in
theorem gen_Gen {q : Nat} (w : World) (h : IsFq q) :
    Calls Try.prog 97 #[.int .i64 q] w fun e w' => e = .returned (.tuple #[.int .i64 (gq q : Nat), .int .i64 0]) ∧ Below w.heap.size w w' := by
  have hb := fq_bd h
  have hg := gq_bd h
  obtain ⟨fm, hfm⟩ := fac_fq h
  have C0 : Hid (∀ W, Calls Try.prog 111 #[.int .i64 q] W fun e w' => e = .returned (.bool true) ∧ Below W.heap.size W w') := fun W => gen_there W h
  obtain ⟨q1, hq1⟩ : ∃ q1, q - 1 = q1 := ⟨_, rfl⟩
  have hqi : (q : Int) - 1 = (q1 : Int) := by omega
  have C1 : Hid (∀ W, Calls Try.prog 90 #[.int .i64 q1] W (GivesP [(2, fm)] W)) := fun W => by
    have := fact_Factors (q - 1) W (by omega) (by omega)
    rw [hfm, hq1] at this; exact this
  obtain ⟨hf, hhf⟩ : ∃ hf, q1 / 2 = hf := ⟨_, rfl⟩
  have v1 : (q1 : Int).tdiv 2 = (hf : Int) := (divN q1 2 hf hhf).1
  have v2 : (q1 : Int) / 2 = (hf : Int) := (divN q1 2 hf hhf).2
  have HL : Hid (∀ i, 1 ≤ i → i < gq q → pmo i hf q = 1) := fun i h1 h2 => by have := gen_less h i h1 h2; rw [hq1, hhf] at this; exact this
  have HA : Hid (pmo (gq q) hf q ≠ 1) := by have := gen_at h; rw [hq1, hhf] at this; exact this
  obtain ⟨G, hG⟩ : ∃ G, gq q = G := ⟨_, rfl⟩
  rw [hG] at HL HA hg ⊢
  have hf2 : hf ≤ 131072 := by omega
  have hq3 : G < q := by omega
  clear h hfm hhf hG
  go_enter Try.func97, Try.ntmps97
  go_wp2_with fail
  go_step3
  go_wp2_with fail
  refine (C0.out _).mono ?_; rintro e w1 ⟨rfl, hb1⟩
  go_wp2_with fail
  refine (C1.out _).mono ?_; rintro e w2 ⟨v, rfl, hown, hb2⟩
  obtain ⟨a, cap, rfl, hcap, hgs⟩ := own_slice2 hown
  obtain ⟨g, rfl⟩ := hgs (by simp)
  have c0 : w2.cell? ⟨g, 0, none⟩ = some (.int .i64 2) := hown.cellAt 0 (by simp)
  have c1 : w2.cell? ⟨g, 1, none⟩ = some (.int .i64 fm) := hown.cellAt 1 (by simp)
  have hgl : g < w2.heap.size := World.block_lt_of_cell? _ _ c0
  have K0 := Lib.hid c0
  have K1 := Lib.hid c1
  have hbl := chain hb1 hb2
  have HBL := Lib.hid hbl
  simp only [List.length_singleton]
  clear hown hcap hgs c0 c1 hb1 hb2 hbl
  go_wp2_with fail
  go_step3
  go_wp2_with fail
  go_loopw [6] (fun x wr => ∃ j : Nat, j < G ∧ x = .int .i64 j ∧ Below w2.heap.size w2 wr) (fun x _ => G - (intOf x).toNat)
  case atStart => exact ⟨0, by omega, rfl, Below.refl _ _⟩
  case round =>
    obtain ⟨j, hj, rfl, hbel⟩ := hrel
    have hlt : (j : Int) < (q1 : Int) := by omega
    obtain ⟨wo, rfl⟩ : ∃ wo : World, wo = wr := ⟨_, rfl⟩
    go_wp2_with fail
    go_loopw [26] (fun x wi => (x = .int .i64 0 ∧ Below wo.heap.size wo wi) ∨ (x = .int .i64 1 ∧ j + 1 = G ∧ Below wo.heap.size wo wi)) (fun x _ => 1 - (intOf x).toNat)
    case atStart => exact Or.inl ⟨rfl, Below.refl _ _⟩
    case round =>
      rcases hrel with ⟨rfl, hbi⟩ | ⟨rfl, hjG, hbi⟩
      · have hb3 := chain hbel hbi
        have c0 := (hb3.cell (p := ⟨g, 0, none⟩) hgl).trans K0.out
        have c1 := (hb3.cell (p := ⟨g, 1, none⟩) hgl).trans K1.out
        obtain ⟨V, hV⟩ : ∃ V, pmo (j + 1) hf q = V := ⟨_, rfl⟩
        have C2 : Hid (∀ W, Calls Try.prog 112 #[.int .i64 ((j : Int) + 1), .int .i64 hf, .int .i64 q] W fun e w' => e = .returned (.int .i64 (V : Nat)) ∧ W = w') := fun W => by
          have := gen_power (j + 1) hf q W (by omega) (by omega) (by omega) hf2
          rw [hV] at this; simpa using this
        have HBI : Hid (Below wo.heap.size wo (wr.alloc (.cells #[.int .i64 2, .int .i64 fm] 114))) := hbi.alloc hbi.size _
        by_cases hlast : j + 1 = G
        · have hV1 : V ≠ 1 := by rw [← hV, hlast]; exact HA.out
          have t1 : ((V : Int) == 1) = false := bno (by omega)
          clear hV
          go_wp2_with fail
          refine (C2.out _).mono ?_; rintro e w' ⟨rfl, rfl⟩
          go_wp2_with fail
          go_roundw
          case rel => exact Or.inr ⟨rfl, hlast, HBI.out⟩
          case measure => simp [intOf]
        · have hV1 : V = 1 := by rw [← hV]; exact HL.out _ (by omega) (by omega)
          subst hV1
          clear hV
          have HB4 := Lib.hid (chain hbel HBI.out)
          have h9 : j + 1 < G := by omega
          go_wp2_with fail
          refine (C2.out _).mono ?_; rintro e w' ⟨rfl, rfl⟩
          go_wp2_with fail
          go_roundw
          case rel => exact ⟨j + 1, h9, by go_num, HB4.out⟩
          case measure => simp [intOf]; omega
      · have hb3 := Lib.hid (chain HBL.out (chain hbel hbi))
        have HR : Hid ((j : Int) + 1 = (G : Int)) := by unfold Hid; omega
        clear hbi hbel
        go_wp2_with fail
        rw [Exit.noGoto_ret]
        go_ret2
        exact ⟨by simp [HR.out], hb3.out⟩
theorem genL_fits {q : Nat} (h : IsFq q) : ∀ x ∈ genL q, fits .i64 x := by
  intro x hx; obtain ⟨i, _, rfl⟩ := List.mem_map.1 hx
  have hb := fq_bd h
  have := gp_lt q i (by omega)
  exact fits_i64.2 (by omega)
set_option maxHeartbeats 1000000 in
theorem gen_Powers {q : Nat} (w : World) (h : IsFq q) :
    Calls Try.prog 72 #[.int .i64 q] w (GivesRowE .i64 (genL q) 0 w) := by
  have hb := fq_bd h
  have hg := gq_bd h
  have C0 : Hid (∀ W, Calls Try.prog 97 #[.int .i64 q] W fun e w' => e = .returned (.tuple #[.int .i64 (gq q : Nat), .int .i64 0]) ∧ Below W.heap.size W w') := fun W => gen_Gen W h
  have H0 : Hid (gp q 0 = 1) := gp_zero h
  have HS : Hid (∀ i, gp q i * gq q % q = gp q (i + 1)) := fun i => (gp_succ q i).symm
  have HLT : Hid (∀ i, gp q i < q) := fun i => gp_lt q i (by omega)
  have HF := Lib.hid (genL_fits h)
  obtain ⟨G, hG⟩ : ∃ G, gq q = G := ⟨_, rfl⟩
  rw [hG] at C0 HS hg
  obtain ⟨n, hn⟩ : ∃ n, q - 1 = n := ⟨_, rfl⟩
  have hqi : (q : Int) - 1 = (n : Int) := by omega
  have HN := Lib.hid hn
  have z1 : ((q : Int) == 0) = false := bno (by omega)
  have z2 : ¬ (q : Int) = 0 := by omega
  obtain ⟨i0, hi, hz0, hz1, hz2⟩ := info_parts info_int
  clear hG h
  go_enter Try.func72, Try.ntmps72
  go_wp2_with fail
  refine (C0.out _).mono ?_; rintro e w1 ⟨rfl, hb1⟩
  go_wp2_with (at_make; refine wpList_make_full _ rfl _ _ 97 rfl w1.heap.size 3 i0 (.int .i64 0) 1 Try.underlying97 hi hz0 hz1 .i64 .i64 n n n rfl rfl rfl rfl (by rw [hz2]; omega) (by unfold maxLen; omega) (Nat.le_refl _) ?_)
  intro w2 hown0 hgrow0
  have hown := Own.made hown0 hgrow0
  clear hown0 hgrow0
  go_wp2_with fail
  go_loopw [7, 22] (fun p i wr => ∃ (k v : Nat), k ≤ n ∧ i = .int .i64 k ∧ p = .int .i64 v ∧ Hid (v = gp q k) ∧ v < q ∧ OwnAt .i64 3 w1 wr w1.heap.size n (fun j => if j < k then (gp q j : Nat) else 0)) (fun _ i _ => n - (intOf i).toNat)
  case atStart => exact ⟨0, 1, Nat.zero_le _, rfl, rfl, H0.out.symm, by omega, own_eqz hown (fun j => if_neg (by omega))⟩
  case round =>
    obtain ⟨k, v, hk, rfl, rfl, HV, hv, hown⟩ := hrel
    by_cases hlt : k < n
    · have hcell := hown.cell k hlt
      rw [if_neg (Nat.lt_irrefl k)] at hcell
      have hfz := hown.free k
      have hnext := hown.store k hlt v (f' := fun j => if j < k + 1 then (gp q j : Nat) else 0) (by rw [if_pos (by omega), HV.out]) (fun j _ hj => by
        by_cases h : j < k
        · rw [if_pos h, if_pos (by omega)]
        · rw [if_neg h, if_neg (by omega)])
      have HNX := Lib.hid hnext
      obtain ⟨s, hs⟩ : ∃ s, v * G = s := ⟨_, rfl⟩
      have hs1 : s ≤ 131072 * 131072 := by rw [← hs]; exact Nat.mul_le_mul (by omega) (by omega)
      have m1 := mulN v G s hs
      obtain ⟨r, hr⟩ : ∃ r, s % q = r := ⟨_, rfl⟩
      have r1 := (modN s q r hr).1
      have r2 := (modN s q r hr).2
      have HM : Hid (r = gp q (k + 1)) := by unfold Hid; rw [← hr, ← hs, HV.out]; exact HS.out k
      have hrq : r < q := by rw [HM.out]; exact HLT.out _
      clear hown hnext hr hs
      go_wp2_with fail
      go_roundw
      case rel => exact ⟨k + 1, r, by omega, by go_num, rfl, HM.out, hrq, HNX.out⟩
      case measure => simp [intOf]; omega
    · have hkn : k = n := by omega
      have hrow := hown.row (xs := genL q) (by rw [genL_len]; exact HN.out) HF.out (fun i hi => by rw [nth_genL q i (by rw [HN.out]; exact hi), if_pos (by omega)]) (by omega)
      have hb2 := Lib.hid (chain hb1 hown.below)
      have HR := Lib.hid hrow
      have HL : Hid ((genL q).length = n) := (genL_len q).trans HN.out
      clear hown hrow hb1
      go_wp2_with fail
      go_ret2
      exact ⟨some ⟨w1.heap.size, 0, none⟩, n, by simp [HL.out], HR.out, by rw [HL.out]; exact ⟨Nat.le_refl _, fun h => by cases h⟩, hb2.out⟩
end Go.Proofs.Ytcckfeikaolfgaa

namespace Go.Proofs.Ytcckfeikaolfgaa
open Go.RowKit
set_option linter.unusedVariables false
set_option linter.unusedSimpArgs false
set_option maxRecDepth 100000
theorem flipW {P : Program} {f : FuncId} {args : Array Value} {w : World} {x : Ending} (h : Calls P f args w fun e w' => e = x ∧ w = w') : Calls P f args w fun e w' => e = x ∧ w' = w := h.mono fun _ _ ⟨h1, h2⟩ => ⟨h1, h2.symm⟩
end Go.Proofs.Ytcckfeikaolfgaa

namespace Go.Proofs.Ytcckfeikaolfgaa
open Go.RowKit Sm
set_option linter.unusedVariables false
set_option linter.unusedSimpArgs false
set_option maxRecDepth 100000
theorem cellFar (W : World) (g r b i : Nat) (v : Value) (h : g ≠ b) : ((W.setCell ⟨g, r, none⟩ v).drew).cell? ⟨b, i, none⟩ = W.cell? ⟨b, i, none⟩ :=
  World.cell?_setCell_other W ⟨g, r, none⟩ ⟨b, i, none⟩ v (fun e => h (by cases e; rfl))
/-- What a call leaves that writes block g alone. -/
def Kept (g : Nat) (W W' : World) : Prop := W.heap.size ≤ W'.heap.size ∧ ∀ b i, b ≠ g → b < W.heap.size → W'.cell? ⟨b, i, none⟩ = W.cell? ⟨b, i, none⟩
theorem Kept.trans {g : Nat} {A B C : World} (h : Kept g A B) (k : Kept g B C) : Kept g A C := ⟨Nat.le_trans h.1 k.1, fun b i hb hl => (k.2 b i hb (Nat.lt_of_lt_of_le hl h.1)).trans (h.2 b i hb hl)⟩
set_option maxHeartbeats 1000000 in
theorem stock_one1 (a b s d t n g px py pw : Nat) (ax aw : Option Addr) (cx cw : Nat) (xs ws : List Int) (f : Nat → Int) (w W : World)
    (hx : Row .u64 w ax xs) (hw : Row .u64 w aw ws) (hxl : xs.length = n) (hwl : ws.length = n) (hn : n ≤ 16777216)
    (hpx : W.cell? ⟨px, 0, none⟩ = some (.slice ax n cx)) (hpy : W.cell? ⟨py, 0, none⟩ = some (.slice (some ⟨g, 0, none⟩) n n)) (hpw : W.cell? ⟨pw, 0, none⟩ = some (.slice aw n cw))
    (n1 : g ≠ px) (n2 : g ≠ py) (n3 : g ≠ pw) (hown : OwnAt .u64 34 w W g n f) (ha : a < n) (hb : b < n) (hs : s < n) (hd : d < n) (ht : t < n) :
    Calls Try.prog 122 #[.int .i64 a, .int .i64 b, .int .i64 s, .int .i64 d, .int .i64 t, .pointer (some ⟨px, 0, none⟩), .pointer (some ⟨py, 0, none⟩), .pointer (some ⟨pw, 0, none⟩)] W
      fun e W' => (∃ v, e = .returned v) ∧ Kept g W W' ∧ OwnAt .u64 34 w W' g n (fun j => if j = d then (nth xs a - nth xs b) * nth ws t % 18446744069414584321 else if j = s then (nth xs a + nth xs b) % 18446744069414584321 else f j) := by
  have bx := World.block_lt_of_cell? W _ hpx
  have by' := World.block_lt_of_cell? W _ hpy
  have bw := World.block_lt_of_cell? W _ hpw
  obtain ⟨xb, xo, rfl, hcx⟩ := (hx.below hown.below).at (by omega)
  obtain ⟨wb, wo, rfl, hcw⟩ := (hw.below hown.below).at (by omega)
  have hxa := hcx a (by omega)
  have hxb := hcx b (by omega)
  have hwt := hcw t (by omega)
  have fa := fits_u64.1 (hx.wf _ (nth_mem (show a < xs.length by omega)))
  have fb := fits_u64.1 (hx.wf _ (nth_mem (show b < xs.length by omega)))
  have ft := fits_u64.1 (hw.wf _ (nth_mem (show t < ws.length by omega)))
  -- the rows lie ahead of the call's own block
  have hxg : xb < w.heap.size := by
    rcases hx.lies with h1 | ⟨b', o', h1, h2⟩
    · subst h1; simp at hxl; omega
    · cases h1; exact World.block_lt_of_cell? w _ (h2 0 (by omega))
  have hwg : wb < w.heap.size := by
    rcases hw.lies with h1 | ⟨b', o', h1, h2⟩
    · subst h1; simp at hwl; omega
    · cases h1; exact World.block_lt_of_cell? w _ (h2 0 (by omega))
  have hbase := hown.base
  have hst1 := (hown.store s hs ((nth xs a + nth xs b) % 18446744069414584321) (f' := fun j => if j = s then (nth xs a + nth xs b) % 18446744069414584321 else f j) (if_pos rfl) (fun j _ hj => if_neg hj)).later (Below.refl _ _).drew
  have hst2 := (hst1.store d hd ((nth xs a - nth xs b) * nth ws t % 18446744069414584321) (f' := fun j => if j = d then (nth xs a - nth xs b) * nth ws t % 18446744069414584321 else if j = s then (nth xs a + nth xs b) % 18446744069414584321 else f j) (if_pos rfl) (fun j _ hj => if_neg hj)).later (Below.refl _ _).drew
  obtain ⟨x, hxx⟩ : ∃ x, nth xs a = x := ⟨_, rfl⟩
  obtain ⟨y, hyy⟩ : ∃ y, nth xs b = y := ⟨_, rfl⟩
  obtain ⟨z, hzz⟩ : ∃ z, nth ws t = z := ⟨_, rfl⟩
  rw [hxx, hyy, hzz] at hst2
  rw [hxx, hyy] at hst1
  rw [hxx] at hxa fa
  rw [hyy] at hxb fb
  rw [hzz] at hwt ft
  rw [hxx, hyy, hzz]
  have hc1 := hown.cell s hs
  have hf1 := hown.free s
  have hc2 := hst1.cell d hd
  have hf2 := hst1.free d
  obtain ⟨v1, hv1⟩ : ∃ v1, f s = v1 := ⟨_, rfl⟩
  rw [hv1] at hc1
  obtain ⟨v2, hv2⟩ : ∃ v2, (if d = s then (x + y) % 18446744069414584321 else f d) = v2 := ⟨_, rfl⟩
  rw [hv2] at hc2
  have hsub : 0 ≤ (x - y) % 18446744069414584321 ∧ (x - y) % 18446744069414584321 < 18446744069414584321 := by omega
  have hmul : (x - y) % 18446744069414584321 * z % 18446744069414584321 = (x - y) * z % 18446744069414584321 := modmul_l _ _ _
  have HM := Lib.hid hmul
  have hkeep : Kept g W (((((W.setCell ⟨g, s, none⟩ (.int .u64 ((x + y) % 18446744069414584321))).drew).setCell ⟨g, d, none⟩ (.int .u64 ((x - y) * z % 18446744069414584321))).drew)) := ⟨by simp, fun b' i hb' _ => by
    rw [cellFar _ _ _ _ _ _ (Ne.symm hb'), cellFar _ _ _ _ _ _ (Ne.symm hb')]⟩
  have HK := Lib.hid hkeep
  have HST := Lib.hid hst2
  have m1 : ∀ i : Nat, ((W.setCell ⟨g, s, none⟩ (.int .u64 ((x + y) % 18446744069414584321))).drew).cell? ⟨px, 0, none⟩ = some (.slice (some ⟨xb, xo, none⟩) n cx) := fun i => (cellFar _ _ _ _ _ _ n1).trans hpx
  have q1 := m1 0
  have q2 := (cellFar W g s py 0 (.int .u64 ((x + y) % 18446744069414584321)) n2).trans hpy
  have q3 := (cellFar W g s pw 0 (.int .u64 ((x + y) % 18446744069414584321)) n3).trans hpw
  have q4 := (cellFar W g s xb (xo + a) (.int .u64 ((x + y) % 18446744069414584321)) (by omega)).trans hxa
  have q5 := (cellFar W g s xb (xo + b) (.int .u64 ((x + y) % 18446744069414584321)) (by omega)).trans hxb
  have q6 := (cellFar W g s wb (wo + t) (.int .u64 ((x + y) % 18446744069414584321)) (by omega)).trans hwt
  have hlt1 : W.heap.size ≤ ((W.setCell ⟨g, s, none⟩ (.int .u64 ((x + y) % 18446744069414584321))).drew).heap.size := by simp
  obtain ⟨W1, hW1⟩ : ∃ W1, (W.setCell ⟨g, s, none⟩ (.int .u64 ((x + y) % 18446744069414584321))).drew = W1 := ⟨_, rfl⟩
  rw [hW1] at q1 q2 q3 q4 q5 q6 hc2 hf2 HK HST
  have HW1 := Lib.hid hW1
  have g1 : (0 : Int) ≤ (a : Int) := by omega
  have g2 : (a : Int) < (n : Int) := by omega
  have g3 : (0 : Int) ≤ (b : Int) := by omega
  have g4 : (b : Int) < (n : Int) := by omega
  have g5 : (0 : Int) ≤ (s : Int) := by omega
  have g6 : (s : Int) < (n : Int) := by omega
  have g7 : (0 : Int) ≤ (d : Int) := by omega
  have g8 : (d : Int) < (n : Int) := by omega
  have g9 : (0 : Int) ≤ (t : Int) := by omega
  have g10 : (t : Int) < (n : Int) := by omega
  clear hx hw hxl hwl hcx hcw hst1 hst2 hxx hyy hzz hv1 hv2 hmul hkeep m1 hown hW1 hlt1
  go_enter Try.func122, Try.ntmps122
  go_wp2_with fail
  refine wp_region_still_tail 11 (by kernel_rfl) (by kernel_rfl) ?_; simp only [List.take_succ_cons, List.take_zero, List.drop_succ_cons, List.drop_zero]
  repeat still_step
  still_call (flipW (gold_Add x y _ (by omega) (by omega) (by omega) (by omega)))
  try refine wpStill_nil ?_
  go_wp2_with fail
  rw [HW1.out]
  refine wp_region_still_tail 16 (by kernel_rfl) (by kernel_rfl) ?_; simp only [List.take_succ_cons, List.take_zero, List.drop_succ_cons, List.drop_zero]
  repeat still_step
  still_call (flipW (gold_Sub x y _ (by omega) (by omega) (by omega) (by omega)))
  repeat still_step
  still_call (flipW (gold_Mul ((x - y) % 18446744069414584321) z _ (by omega) (by omega) (by omega) (by omega)))
  try refine wpStill_nil ?_
  rw [HM.out]
  go_wp2_with fail
  refine bodyPost_end (results_none rfl _ _ _) rfl ?_
  exact ⟨⟨_, rfl⟩, HK.out, HST.out⟩
end Go.Proofs.Ytcckfeikaolfgaa

namespace Go.Proofs.Ytcckfeikaolfgaa
open Go.RowKit Sm
set_option linter.unusedVariables false
set_option linter.unusedSimpArgs false
set_option maxRecDepth 100000
theorem own_eqn {k : IntKind} {e : TypeId} {w wr : World} {g n : Nat} {f f' : Nat → Int} (h : OwnAt k e w wr g n f) (he : ∀ j, j < n → f' j = f j) : OwnAt k e w wr g n f' := by
  refine ⟨?_, h.below⟩
  have e1 : ((List.range n).map fun j => Value.int k (f' j)) = ((List.range n).map fun j => Value.int k (f j)) := List.map_congr_left (fun j hj => by rw [he j (by simpa using hj)])
  rw [e1]; exact h.own
/-- What stands at place j when all pairs ahead of (i, q) are done. -/
def doneF (xs ws : List Int) (s i q j : Nat) : Int := if j / s / 2 < i ∨ (j / s / 2 = i ∧ j % s < q) then passAt xs ws s j else 0
theorem doneF_start (xs ws : List Int) (s j : Nat) : doneF xs ws s 0 0 j = 0 := by unfold doneF; generalize j / s / 2 = p; generalize j % s = r; rw [if_neg (by omega)]
theorem doneF_row (xs ws : List Int) (s i j : Nat) (hs : 0 < s) : doneF xs ws s (i + 1) 0 j = doneF xs ws s i s j := by
  have := Nat.mod_lt j hs
  unfold doneF
  generalize j / s / 2 = p at *
  generalize j % s = r at *
  by_cases h : p < i + 1
  · rw [if_pos (.inl h), if_pos (by omega)]
  · rw [if_neg (by omega), if_neg (by omega)]
theorem doneF_end (xs ws : List Int) (s h j n : Nat) (hs : 0 < s) (hn : n = s * (2 * h)) (hj : j < n) : doneF xs ws s h 0 j = passAt xs ws s j := by
  unfold doneF
  rw [if_pos]
  left
  have : j / s < 2 * h := Nat.div_lt_of_lt_mul (by omega)
  omega
theorem place_of (s q t : Nat) (hq : q < s) : (q + s * t) % s = q ∧ (q + s * t) / s = t :=
  ⟨by rw [Nat.add_mul_mod_self_left, Nat.mod_eq_of_lt hq], by rw [Nat.add_mul_div_left _ _ (by omega), Nat.div_eq_of_lt hq, Nat.zero_add]⟩
theorem doneF_step (xs ws : List Int) (s h i q n j : Nat) (hx : xs.length = n) (hn : n = s * (2 * h)) (hq : q < s) :
    doneF xs ws s i (q + 1) j = if j = q + s * (2 * i + 1) then (nth xs (q + s * i) - nth xs (q + s * (i + h))) * nth ws (i * s) % 18446744069414584321 else if j = q + s * 2 * i then (nth xs (q + s * i) + nth xs (q + s * (i + h))) % 18446744069414584321 else doneF xs ws s i q j := by
  have hh : n / 2 = s * h := by rw [hn, show s * (2 * h) = 2 * (s * h) by grind]; omega
  have e2 : q + s * 2 * i = q + s * (2 * i) := by rw [Nat.mul_assoc]
  have e3 : q + s * (i + h) = q + s * i + s * h := by rw [Nat.mul_add]; omega
  rw [e2, e3]
  by_cases h1 : j = q + s * (2 * i + 1)
  · rw [if_pos h1]
    have hp := place_of s q (2 * i + 1) hq
    subst h1
    unfold doneF
    rw [if_pos (by rw [hp.1, hp.2]; omega)]
    unfold passAt
    rw [hp.1, hp.2, hx, hh, if_neg (by omega), show (2 * i + 1) / 2 = i by omega]
  · rw [if_neg h1]
    by_cases h2 : j = q + s * (2 * i)
    · rw [if_pos h2]
      have hp := place_of s q (2 * i) hq
      subst h2
      unfold doneF
      rw [if_pos (by rw [hp.1, hp.2]; omega)]
      unfold passAt
      rw [hp.1, hp.2, hx, hh, if_pos (by omega), show 2 * i / 2 = i by omega]
    · rw [if_neg h2]
      have key : ¬ (j / s / 2 = i ∧ j % s = q) := by
        rintro ⟨k1, k2⟩
        have k3 := Nat.div_add_mod j s
        rw [k2] at k3
        rcases (show j / s = 2 * i ∨ j / s = 2 * i + 1 by omega) with k4 | k4
        · rw [k4] at k3; omega
        · rw [k4] at k3; omega
      unfold doneF
      generalize j / s / 2 = p at *
      generalize j % s = r at *
      by_cases h3 : p < i ∨ (p = i ∧ r < q)
      · rw [if_pos h3, if_pos (by omega)]
      · rw [if_neg h3, if_neg (by omega)]
/-- The cells that a pass reads. -/
structure RunCells (wr : World) (g pb px py pw n s : Nat) (ax aw : Option Addr) (cx cw : Nat) (fv : Value) : Prop where
  b0 : wr.cell? ⟨pb, 0, none⟩ = some (.int .i64 n)
  b1 : wr.cell? ⟨pb, 1, none⟩ = some (.int .i64 s)
  b2 : wr.cell? ⟨pb, 2, none⟩ = some fv
  px : wr.cell? ⟨px, 0, none⟩ = some (.slice ax n cx)
  py : wr.cell? ⟨py, 0, none⟩ = some (.slice (some ⟨g, 0, none⟩) n n)
  pw : wr.cell? ⟨pw, 0, none⟩ = some (.slice aw n cw)
theorem RunCells.kept {W W' : World} {g pb px py pw n s : Nat} {ax aw : Option Addr} {cx cw : Nat} {fv : Value} (h : RunCells W g pb px py pw n s ax aw cx cw fv) (hk : Kept g W W') (n0 : pb ≠ g) (n1 : px ≠ g) (n2 : py ≠ g) (n3 : pw ≠ g) : RunCells W' g pb px py pw n s ax aw cx cw fv :=
  ⟨(hk.2 _ _ n0 (World.block_lt_of_cell? W _ h.b0)).trans h.b0, (hk.2 _ _ n0 (World.block_lt_of_cell? W _ h.b0)).trans h.b1, (hk.2 _ _ n0 (World.block_lt_of_cell? W _ h.b0)).trans h.b2,
   (hk.2 _ _ n1 (World.block_lt_of_cell? W _ h.px)).trans h.px, (hk.2 _ _ n2 (World.block_lt_of_cell? W _ h.py)).trans h.py, (hk.2 _ _ n3 (World.block_lt_of_cell? W _ h.pw)).trans h.pw⟩
set_option maxHeartbeats 2000000 in
theorem stock_run (n s h g px py pw : Nat) (ax aw : Option Addr) (cx cw : Nat) (xs ws : List Int) (w W : World)
    (hx : Row .u64 w ax xs) (hw : Row .u64 w aw ws) (hxl : xs.length = n) (hwl : ws.length = n) (hn : n ≤ 16777216) (hns : n = s * (2 * h)) (hs : 0 < s) (hh : 0 < h)
    (hpx : W.cell? ⟨px, 0, none⟩ = some (.slice ax n cx)) (hpy : W.cell? ⟨py, 0, none⟩ = some (.slice (some ⟨g, 0, none⟩) n n)) (hpw : W.cell? ⟨pw, 0, none⟩ = some (.slice aw n cw))
    (n1 : px ≠ g) (n2 : py ≠ g) (n3 : pw ≠ g) (hown : OwnAt .u64 34 w W g n (fun _ => 0)) :
    Calls Try.prog 125 #[.agg #[.int .i64 n, .int .i64 s, .func (.func 122) #[] #[.pointer (some ⟨px, 0, none⟩), .pointer (some ⟨py, 0, none⟩), .pointer (some ⟨pw, 0, none⟩)]]] W
      fun e W' => (∃ v, e = .returned v) ∧ Kept g W W' ∧ OwnAt .u64 34 w W' g n (passAt xs ws s) := by
  have HX := Lib.hid hx
  have HW := Lib.hid hw
  have HXL := Lib.hid hxl
  have HWL := Lib.hid hwl
  have HNS := Lib.hid hns
  have h2s : s * 2 ≤ n := by rw [hns]; exact Nat.mul_le_mul_left s (by omega)
  have hhn : h ≤ n := by
    rw [hns]
    calc h ≤ 1 * (2 * h) := by omega
      _ ≤ s * (2 * h) := Nat.mul_le_mul_right _ hs
  have eh : (n : Int) / (2 * (s : Int)) = (h : Int) := by
    have e : n = 2 * s * h := by rw [hns]; grind
    have : n / (2 * s) = h := by rw [e, Nat.mul_div_cancel_left _ (by omega)]
    rw [show (2 : Int) * (s : Int) = ((2 * s : Nat) : Int) by omega, ← Int.natCast_ediv, this]
  have ehw : IntKind.i64.wrap (h : Int) = (h : Int) := IntWalk.i64_in _ (by omega)
  have e0 : ((2 * (s : Int)) == 0) = false := by simp; omega
  have e0' : ¬ (2 * (s : Int)) = 0 := by omega
  have e0'' : ¬ s = 0 := by omega
  have hcells : RunCells (W.alloc (.cells #[.int .i64 n, .int .i64 s, .func (.func 122) #[] #[.pointer (some ⟨px, 0, none⟩), .pointer (some ⟨py, 0, none⟩), .pointer (some ⟨pw, 0, none⟩)]] 134)) g W.heap.size px py pw n s ax aw cx cw (.func (.func 122) #[] #[.pointer (some ⟨px, 0, none⟩), .pointer (some ⟨py, 0, none⟩), .pointer (some ⟨pw, 0, none⟩)]) :=
    ⟨by simp, by simp, by simp, (cell_past _ _ _ (World.block_lt_of_cell? W _ hpx)).trans hpx, (cell_past _ _ _ (World.block_lt_of_cell? W _ hpy)).trans hpy, (cell_past _ _ _ (World.block_lt_of_cell? W _ hpw)).trans hpw⟩
  have hgW := hown.base
  have hown1 := own_eqn (hown.later ((Below.refl _ _).alloc (Nat.le_refl _) (.cells #[.int .i64 n, .int .i64 s, .func (.func 122) #[] #[.pointer (some ⟨px, 0, none⟩), .pointer (some ⟨py, 0, none⟩), .pointer (some ⟨pw, 0, none⟩)]] 134))) (fun j _ => doneF_start xs ws s j)
  have HC := Lib.hid hcells
  have HO := Lib.hid hown1
  have HN0 : Hid (W.heap.size ≠ g ∧ px ≠ g ∧ py ≠ g ∧ pw ≠ g) := ⟨by omega, n1, n2, n3⟩
  clear hx hw hxl hwl hns hpx hpy hpw hown hcells hown1 n1 n2 n3
  go_enter Try.func125, Try.ntmps125
  go_wp2_with fail
  go_loopw [12] (fun v wr => ∃ i : Nat, i ≤ h ∧ v = .int .i64 i ∧ OwnAt .u64 34 w wr g n (doneF xs ws s i 0) ∧ Kept g W wr ∧ RunCells wr g W.heap.size px py pw n s ax aw cx cw (.func (.func 122) #[] #[.pointer (some ⟨px, 0, none⟩), .pointer (some ⟨py, 0, none⟩), .pointer (some ⟨pw, 0, none⟩)])) (fun v _ => h - (intOf v).toNat)
  case atStart => exact ⟨0, Nat.zero_le _, rfl, HO.out, ⟨by simp, fun b i _ hb => cell_past _ _ _ hb⟩, HC.out⟩
  case round =>
    obtain ⟨i, hi, rfl, hown, hkept, hcells⟩ := hrel
    by_cases hlt : i < h
    · obtain ⟨wo, hwo⟩ : ∃ wo : World, wo = wr := ⟨_, rfl⟩
      subst hwo
      have hb1 := hcells.b1
      go_wp2_with fail
      clear hb1
      go_loopw [17] (fun v wr => ∃ q : Nat, q ≤ s ∧ v = .int .i64 q ∧ OwnAt .u64 34 w wr g n (doneF xs ws s i q) ∧ Kept g W wr ∧ RunCells wr g W.heap.size px py pw n s ax aw cx cw (.func (.func 122) #[] #[.pointer (some ⟨px, 0, none⟩), .pointer (some ⟨py, 0, none⟩), .pointer (some ⟨pw, 0, none⟩)])) (fun v _ => s - (intOf v).toNat)
      case atStart => exact ⟨0, Nat.zero_le _, rfl, hown, hkept, hcells⟩
      case round =>
        obtain ⟨q, hq, rfl, hown, hkept, hcells⟩ := hrel
        by_cases hqs : q < s
        · have hstep := fun j (hj : j < n) => doneF_step xs ws s h i q n j HXL.out HNS.out hqs
          have hle1 : s * (2 * i + 2) ≤ n := by rw [HNS.out]; exact Nat.mul_le_mul_left s (by omega)
          have hle2 : s * (i + h + 1) ≤ n := by rw [HNS.out]; exact Nat.mul_le_mul_left s (by omega)
          have hle3 : s * (i + 1) ≤ n := by rw [HNS.out]; exact Nat.mul_le_mul_left s (by omega)
          rw [Nat.mul_add] at hle1 hle2 hle3
          have x1 : s * (2 * i + 1) = s * (2 * i) + s := by rw [Nat.mul_add, Nat.mul_one]
          have x2 : s * 2 * i = s * (2 * i) := Nat.mul_assoc _ _ _
          have y1 : (s : Int) * (i : Int) = ((s * i : Nat) : Int) := (Int.natCast_mul _ _).symm
          have y2 : (s : Int) * ((i : Int) + (h : Int)) = ((s * (i + h) : Nat) : Int) := by rw [Int.natCast_mul, Int.natCast_add]
          have y3 : (s : Int) * 2 * (i : Int) = ((s * 2 * i : Nat) : Int) := by rw [Int.natCast_mul, Int.natCast_mul]; rfl
          have y4 : (s : Int) * (2 * (i : Int) + 1) = ((s * (2 * i + 1) : Nat) : Int) := by rw [Int.natCast_mul, Int.natCast_add, Int.natCast_mul]; rfl
          have y5 : (i : Int) * (s : Int) = ((i * s : Nat) : Int) := (Int.natCast_mul _ _).symm
          have x5 : i * s = s * i := Nat.mul_comm _ _
          rw [x2] at y3 hstep
          rw [x1] at y4 hstep
          rw [x5] at y5 hstep
          obtain ⟨A, hA⟩ : ∃ A, s * i = A := ⟨_, rfl⟩
          obtain ⟨B, hB⟩ : ∃ B, s * (i + h) = B := ⟨_, rfl⟩
          obtain ⟨C, hC⟩ : ∃ C, s * (2 * i) = C := ⟨_, rfl⟩
          rw [hA] at y1 y5 hstep hle3
          rw [hB] at y2 hstep hle2
          rw [hC] at y3 y4 hstep hle1
          have hcall := stock_one1 (q + A) (q + B) (q + C) (q + (C + s)) A n g px py pw ax aw cx cw xs ws (doneF xs ws s i q) w wr HX.out HW.out HXL.out HWL.out hn hcells.px hcells.py hcells.pw HN0.out.2.1.symm HN0.out.2.2.1.symm HN0.out.2.2.2.symm hown (by omega) (by omega) (by omega) (by omega) (by omega)
          have HCALL := Lib.hid hcall
          have HSTEP := Lib.hid hstep
          have HKEPT := Lib.hid hkept
          have HCS := Lib.hid hcells
          have hb1 := hcells.b1
          have hb2 := hcells.b2
          have c1 : ((q + A : Nat) : Int) = (q : Int) + (A : Int) := Int.natCast_add _ _
          have c2 : ((q + B : Nat) : Int) = (q : Int) + (B : Int) := Int.natCast_add _ _
          have c3 : ((q + C : Nat) : Int) = (q : Int) + (C : Int) := Int.natCast_add _ _
          have c4 : ((q + (C + s) : Nat) : Int) = (q : Int) + ((C + s : Nat) : Int) := Int.natCast_add _ _
          have HCC := Lib.hid (And.intro c1 (And.intro c2 (And.intro c3 c4)))
          have y4' : (s : Int) * (2 * (i : Int) + 1) = (C : Int) + (s : Int) := by rw [y4]; omega
          have A1 : A ≤ 16777216 := by omega
          have B1 : B ≤ 16777216 := by omega
          have C1 : C + s ≤ 16777216 := by omega
          have q1 : q ≤ 16777216 := by omega
          clear hA hB hC hcall hstep hkept hcells hown y4 x1 x2 x5 c1 c2 c3 c4 hle1 hle2 hle3
          go_wp2_with fail
          have hc := HCALL.out
          simp only [Int.natCast_add] at hc
          refine hc.mono ?_
          rintro e W' ⟨⟨v, rfl⟩, hk, hown'⟩
          have HO' := Lib.hid (own_eqn hown' (fun j hj => HSTEP.out j hj))
          have HK' := Lib.hid hk
          clear hown' hk hc
          go_wp2_with fail
          go_roundw
          case rel => exact ⟨q + 1, by omega, by go_num, HO'.out, HKEPT.out.trans HK'.out, HCS.out.kept HK'.out HN0.out.1 HN0.out.2.1 HN0.out.2.2.1 HN0.out.2.2.2⟩
          case measure => simp [intOf]; omega
        · obtain rfl : q = s := by omega
          have HO' := Lib.hid (own_eqn hown (fun j _ => doneF_row xs ws q i j hs))
          have HKEPT := Lib.hid hkept
          have HCS := Lib.hid hcells
          clear hown hkept hcells
          go_wp2_with fail
          go_roundw
          case rel => exact ⟨i + 1, by omega, by go_num, HO'.out, HKEPT.out, HCS.out⟩
          case measure => simp [intOf]; omega
    · obtain rfl : i = h := by omega
      have HO' := Lib.hid (own_eqn hown (fun j hj => (doneF_end xs ws s i j n hs HNS.out hj).symm))
      have HKEPT := Lib.hid hkept
      clear hown hkept hcells
      go_wp2_with fail
      refine bodyPost_end (results_none rfl _ _ _) rfl ?_
      exact ⟨⟨_, rfl⟩, HKEPT.out, HO'.out⟩
end Go.Proofs.Ytcckfeikaolfgaa

namespace Go.Proofs.Ytcckfeikaolfgaa
open Go.RowKit Sm
set_option linter.unusedVariables false
set_option linter.unusedSimpArgs false
set_option maxRecDepth 100000
theorem madeAt {k : IntKind} {e : TypeId} {w wx w1 : World} {g n : Nat} (hb : Below w.heap.size w wx) (h : w1.ownsRow w.heap.size e 1 (.slice (some ⟨g, 0, none⟩) n n) n (madeCells #[Value.int k 0] n).toList) (hg : wx.grownBy w1 none) :
    OwnAt k e w w1 g n (fun _ => 0) := by
  refine ⟨?_, hb.grown hg hb.size (by simp)⟩
  have e1 : (madeCells #[Value.int k 0] n).toList = (List.range n).map fun j => Value.int k 0 := by
    rw [toList_madeCells_one]
    apply List.ext_getElem (by simp)
    intro i h1 h2
    simp
  rw [e1] at h
  exact h
set_option maxHeartbeats 1000000 in
theorem stock_one (n s h : Nat) (ax aw : Option Addr) (cx cw : Nat) (xs ws : List Int) (w : World)
    (hx : Row .u64 w ax xs) (hw : Row .u64 w aw ws) (hxl : xs.length = n) (hwl : ws.length = n) (hn : n ≤ 16777216) (hns : n = s * (2 * h)) (hs : 0 < s) (hh : 0 < h) :
    Calls Try.prog 113 #[.slice ax n cx, .int .i64 s, .slice aw n cw] w (GivesRow .u64 (passL xs ws s) w) := by
  obtain ⟨i0, hi, hz0, hz1, hz2⟩ := info_parts info_u64
  have HX := Lib.hid hx
  have HW := Lib.hid hw
  have HXL := Lib.hid hxl
  have HWL := Lib.hid hwl
  have HNS := Lib.hid hns
  clear hx hw hxl hwl hns
  go_enter Try.func113, Try.ntmps113
  go_wp2_with (at_make; refine wpList_make_full _ rfl _ _ 25 rfl w.heap.size 34 i0 (.int .u64 0) 1 Try.underlying25 hi hz0 hz1 .i64 .i64 n n n rfl rfl rfl rfl (by rw [hz2]; omega) (by unfold maxLen; omega) (by simp; omega) ?_)
  intro w1 hown0 hgrow0
  have hb0 : Below w.heap.size w ((w.alloc (.cells #[.slice ax n cx] 25)).alloc (.cells #[.slice aw n cw] 25)) := ((Below.refl _ _).alloc (Nat.le_refl _) _).alloc (by simp) _
  have hown := madeAt hb0 hown0 hgrow0
  have c1 : w1.cell? ⟨w.heap.size, 0, none⟩ = some (.slice ax n cx) := hgrow0.cell (a := ⟨w.heap.size, 0, none⟩) ((cell_past _ _ _ (by simp)).trans (one_new _ _ _)) (by simp)
  have c2 : w1.cell? ⟨w.heap.size + 1, 0, none⟩ = some (.slice aw n cw) := hgrow0.cell (a := ⟨w.heap.size + 1, 0, none⟩) (cell_new (by simp)) (by simp)
  have hsz := hown.base
  have l1 : w.heap.size < w1.heap.size := by omega
  have l2 : w.heap.size + 1 < w1.heap.size := by omega
  have d1 : (w1.alloc (.cells #[.slice (some ⟨w.heap.size + 1 + 1, 0, none⟩) n n] 25)).cell? ⟨w.heap.size, 0, none⟩ = some (.slice ax n cx) := (cell_past _ _ _ l1).trans c1
  have HO := Lib.hid hown
  clear hown0 hgrow0 hb0 hown
  go_wp2_with fail
  have hbl : Below w1.heap.size w1 ((w1.alloc (.cells #[.slice (some ⟨w.heap.size + 1 + 1, 0, none⟩) n n] 25)).alloc (.cells #[.int .i64 n, .int .i64 s, .func (.func 122) #[] #[.pointer (some ⟨w.heap.size, 0, none⟩), .pointer (some ⟨w1.heap.size, 0, none⟩), .pointer (some ⟨w.heap.size + 1, 0, none⟩)]] 134)) := ((Below.refl _ _).alloc (Nat.le_refl _) _).alloc (by simp) _
  have p1 := (hbl.cell (p := ⟨w.heap.size, 0, none⟩) l1).trans c1
  have p2 := (hbl.cell (p := ⟨w.heap.size + 1, 0, none⟩) l2).trans c2
  have p3 : ((w1.alloc (.cells #[.slice (some ⟨w.heap.size + 1 + 1, 0, none⟩) n n] 25)).alloc (.cells #[.int .i64 n, .int .i64 s, .func (.func 122) #[] #[.pointer (some ⟨w.heap.size, 0, none⟩), .pointer (some ⟨w1.heap.size, 0, none⟩), .pointer (some ⟨w.heap.size + 1, 0, none⟩)]] 134)).cell? ⟨w1.heap.size, 0, none⟩ = some (.slice (some ⟨w.heap.size + 1 + 1, 0, none⟩) n n) := (cell_past _ _ _ (by simp)).trans (one_new _ _ _)
  refine (stock_run n s h (w.heap.size + 1 + 1) w.heap.size w1.heap.size (w.heap.size + 1) ax aw cx cw xs ws w _ HX.out HW.out HXL.out HWL.out hn HNS.out hs hh p1 p3 p2 (by omega) (by omega) (by omega) (HO.out.later hbl)).mono ?_
  rintro e W' ⟨⟨v, rfl⟩, hk, hown⟩
  have hc := (hk.2 w1.heap.size 0 (by omega) (by simp; omega)).trans p3
  have hres := hown.gives (xs := passL xs ws s) (by rw [passL_len]; exact HXL.out) (passL_fits _ _ _) (fun i hi => nth_passL _ _ _ _ (by rw [HXL.out]; exact hi)) hn
  have HR := Lib.hid hres
  clear hown hres hk p1 p2 p3 hbl d1 c1 c2
  go_wp2_with fail
  go_ret
  exact HR.out
end Go.Proofs.Ytcckfeikaolfgaa

namespace Go.Proofs.Ytcckfeikaolfgaa
open Go.RowKit Sm
set_option linter.unusedVariables false
set_option linter.unusedSimpArgs false
set_option maxRecDepth 100000
theorem litRow (w : World) (t : TypeId) (n : Nat) (xs : List Int) (hn : n = w.heap.size) (hw : ∀ x ∈ xs, 0 ≤ x ∧ x < 18446744073709551616) (hl : xs.length ≤ 100) : Row .u64 (w.alloc (.cells (xs.map (Value.int .u64)).toArray t)) (some ⟨n, 0, none⟩) xs := by
  subst hn; exact row_new .u64 w t xs (fun x hx => fits_u64.2 (hw x hx)) (by omega)
theorem vec_RedN2 (a : Option Addr) (n cap : Nat) (xs : List Int) (w : World) (hx : Row .u64 w a xs) (hn : xs.length = n) (hl : n ≤ 16777216) :
    Calls Try.prog 43 #[.slice a n cap] w (GivesRow .u64 (xs.map (· % 18446744069414584321)) w) := by
  subst hn; exact vec_Red a cap xs w hx hl
theorem half_of_pow (m j s : Nat) (hs : s = 2 ^ j) (hj : j < m) : ∃ h, 0 < h ∧ 2 ^ m = s * (2 * h) := by
  refine ⟨2 ^ (m - j - 1), Nat.pow_pos (by omega), ?_⟩
  rw [hs, ← Nat.pow_succ', ← Nat.pow_add]
  congr 1; omega
set_option maxHeartbeats 1000000 in
theorem with_ok (ax aw : Option Addr) (n m cx cw : Nat) (xs ws : List Int) (w : World) (hx : Row .u64 w ax xs) (hw : Row .u64 w aw ws) (hxl : xs.length = n) (hwl : ws.length = n) (hm : m ≤ 24) (hn : n = 2 ^ m) :
    Calls Try.prog 98 #[.slice ax n cx, .slice aw n cw] w (GivesRowE .u64 (withTo xs ws m) 0 w) := by
  have hP : hasP2 (n : Int) = true := (hasP2_iff _).2 ⟨m, hm, by rw [hn]⟩
  have hn2 : n ≤ 16777216 := by
    have : 2 ^ m ≤ 2 ^ 24 := Nat.pow_le_pow_right (by omega) hm
    have e : (2 : Nat) ^ 24 = 16777216 := by decide
    omega
  have hn1 : 1 ≤ n := by rw [hn]; exact Nat.pow_pos (by omega)
  have C1 : Hid (∀ w : World, Calls Try.prog 68 #[.int .i64 n] w fun e w' => e = .returned (.bool true) ∧ w = w') := fun w => by rw [← hP]; exact stock_Has n w (by omega)
  have HX := Lib.hid hx
  have HW := Lib.hid hw
  have HXL := Lib.hid hxl
  have HWL := Lib.hid hwl
  have HN := Lib.hid hn
  have HL : Hid (∀ j, (withTo xs ws j).length = n) := fun j => by rw [withTo_len]; exact hxl
  have h0 : ((n : Int) != (n : Int)) = false := bfalse' rfl
  clear hx hw hxl hwl hn hP
  go_enter Try.func98, Try.ntmps98
  go_wp2_with fail
  refine (C1.out _).mono ?_; rintro e w' ⟨rfl, rfl⟩
  go_wp2_with fail
  refine (vec_RedN2 ax n cx xs _ HX.out HXL.out hn2).mono ?_
  rintro e w1 ⟨a1, cap1, rfl, hr1, hcap1, hb1⟩
  have hl0 := HL.out 0
  have hl0' : (xs.map (· % 18446744069414584321)).length = n := hl0
  rw [hl0']
  rw [hl0'] at hcap1
  clear hl0 hl0'
  go_wp2_with fail
  go_loopw [6, 7] (fun v i wr => ∃ (j s : Nat) (a : Option Addr) (cap : Nat), j ≤ m ∧ Hid (s = 2 ^ j) ∧ 1 ≤ s ∧ s ≤ n ∧ i = .int .i64 s ∧ v = .slice a n cap ∧ Row .u64 wr a (withTo xs ws j) ∧ OkCap a n cap ∧ Below w.heap.size w wr) (fun _ i _ => n - (intOf i).toNat)
  case atStart => exact ⟨0, 1, a1, cap1, Nat.zero_le _, rfl, by omega, hn1, rfl, rfl, hr1, hcap1, hb1⟩
  case round =>
    obtain ⟨j, s, a, cap, hj, HS, hs1, hsn, rfl, rfl, hrow, hcap, hb⟩ := hrel
    have HR := Lib.hid hrow
    have HC := Lib.hid hcap
    clear hrow hcap
    by_cases hlt : j < m
    · obtain ⟨h, hh, hns⟩ := half_of_pow m j s HS.out hlt
      have h2s : s * 2 ≤ n := by rw [HN.out, hns]; exact Nat.mul_le_mul_left s (by omega)
      have hle : (2 : Int) * (s : Int) ≤ (n : Int) := by omega
      have HNS : Hid (n = s * (2 * h)) := HN.out.trans hns
      have HS2 : Hid (2 * s = 2 ^ (j + 1)) := by unfold Hid; rw [Nat.pow_succ, HS.out]; omega
      clear hns
      go_wp2_with fail
      refine (stock_one n s h a aw cap cw (withTo xs ws j) ws _ HR.out (HW.out.below hb) (HL.out j) HWL.out hn2 HNS.out hs1 hh).mono ?_
      rintro e w2 ⟨a2, cap2, rfl, hr2, hcap2, hb2⟩
      have hlen : (passL (withTo xs ws j) ws s).length = n := by rw [passL_len]; exact HL.out j
      rw [hlen] at hcap2 ⊢
      have HR2 : Hid (Row .u64 w2 a2 (withTo xs ws (j + 1))) := by unfold Hid; simp only [withTo]; rw [← HS.out]; exact hr2
      clear hr2 hlen
      go_wp2_with fail
      go_roundw
      case rel => exact ⟨j + 1, 2 * s, a2, cap2, by omega, HS2.out, by omega, by omega, by go_num, rfl, HR2.out, hcap2, chain hb hb2⟩
      case measure => simp [intOf]; omega
    · have hjm : j = m := by omega
      have hsn' : s = n := by rw [HS.out, HN.out, hjm]
      have hlt2 : (n : Int) < 2 * (s : Int) := by omega
      have HJ := Lib.hid hjm
      have hres : Hid (GivesRowE .u64 (withTo xs ws m) 0 w (.returned (.tuple #[.slice a n cap, .int .i64 0])) wr) := ⟨a, cap, by rw [HL.out], by rw [← HJ.out]; exact HR.out, by rw [HL.out]; exact HC.out, hb⟩
      clear hjm hsn'
      go_wp2_with fail
      go_ret2
      exact hres.out
end Go.Proofs.Ytcckfeikaolfgaa

namespace Go.Proofs.Ytcckfeikaolfgaa
open Go.RowKit Sm
set_option linter.unusedVariables false
set_option linter.unusedSimpArgs false
set_option maxRecDepth 100000
set_option maxHeartbeats 800000 in
theorem do_ok (a : Option Addr) (n m c : Nat) (d : Int) (xs : List Int) (w : World) (hx : Row .u64 w a xs) (hxl : xs.length = n) (hd : d = 0 ∨ d = 1) (hm : m ≤ 24) (hn : n = 2 ^ m) :
    Calls Try.prog 73 #[.slice a n c, .int .i64 d] w (GivesRowE .u64 (dftL xs (dirRt n d)) 0 w) := by
  have hP : hasP2 (n : Int) = true := (hasP2_iff _).2 ⟨m, hm, by rw [hn]⟩
  have hs : hasSz (n : Int) = true := by rw [hn]; exact hasSz_pow m hm
  have hn2 : n ≤ 16777216 := by have := (hasSz_iff.1 hs).2.1; omega
  have C1 : Hid (∀ w : World, Calls Try.prog 68 #[.int .i64 n] w fun e w' => e = .returned (.bool true) ∧ w = w') := fun w => by rw [← hP]; exact stock_Has n w (by omega)
  have hroot := isRoot_dir n d hs
  have hfft : withTo xs (powL (dirRt n d) n) m = dftL xs (dirRt n d) := by
    have := fft_all xs (dirRt n d) (dirBk n d) m (by rw [← hn]; exact hroot) (by rw [hxl, hn])
    rw [← hn] at this; exact this
  have HF := Lib.hid hfft
  have HX := Lib.hid hx
  have HXL := Lib.hid hxl
  have HS := Lib.hid hs
  have HN := Lib.hid hn
  have HL : Hid ((withTo xs (powL (dirRt n d) n) m).length = n) := by unfold Hid; rw [withTo_len]; exact hxl
  have HPL : Hid (∀ z : Int, (powL z n).length = n) := fun z => powL_len z n
  have hz := dirRt_range n d
  have HZ := Lib.hid hz
  clear hx hxl hs hP hn hroot hfft hz
  rcases hd with h1 | h1
  · subst h1
    have ez : Hid (dirRt n 0 = rt n) := rfl
    go_enter Try.func73, Try.ntmps73
    go_wp2_with fail
    refine (C1.out _).mono ?_; rintro e w' ⟨rfl, rfl⟩
    go_wp2_with fail
    refine (rootRoot_yes n _ HS.out).mono ?_; rintro e w' ⟨rfl, rfl⟩
    rw [← ez.out]
    go_wp2_with fail
    refine (rootPowers (dirRt n 0) n _ HZ.out.1 (by have := HZ.out.2; omega) hn2).mono ?_
    rintro e w1 ⟨a1, cap1, rfl, hr1, hcap1, hb1⟩
    rw [HPL.out]
    go_wp2_with fail
    refine (with_ok a a1 n m c cap1 xs (powL (dirRt n 0) n) _ (HX.out.below hb1) hr1 HXL.out (HPL.out _) hm HN.out).mono ?_
    rintro e w2 ⟨a2, cap2, rfl, hr2, hcap2, hb2⟩
    rw [HL.out] at hcap2 ⊢
    rw [HF.out] at hr2
    have hlen := HL.out
    rw [HF.out] at hlen
    have HR := Lib.hid hr2
    have HLEN := Lib.hid hlen
    clear hr2 hlen
    go_wp2_with fail
    go_ret2
    exact ⟨a2, cap2, by simp [HLEN.out], HR.out, by rw [HLEN.out]; exact hcap2, chain hb1 hb2⟩
  · subst h1
    have ez : Hid (dirRt n 1 = bk n) := rfl
    go_enter Try.func73, Try.ntmps73
    go_wp2_with fail
    refine (C1.out _).mono ?_; rintro e w' ⟨rfl, rfl⟩
    go_wp2_with fail
    refine (rootRoot_yes n _ HS.out).mono ?_; rintro e w' ⟨rfl, rfl⟩
    go_wp2_with fail
    refine (rootBack_yes n _ HS.out).mono ?_; rintro e w' ⟨rfl, rfl⟩
    rw [← ez.out]
    go_wp2_with fail
    refine (rootPowers (dirRt n 1) n _ HZ.out.1 (by have := HZ.out.2; omega) hn2).mono ?_
    rintro e w1 ⟨a1, cap1, rfl, hr1, hcap1, hb1⟩
    rw [HPL.out]
    go_wp2_with fail
    refine (with_ok a a1 n m c cap1 xs (powL (dirRt n 1) n) _ (HX.out.below hb1) hr1 HXL.out (HPL.out _) hm HN.out).mono ?_
    rintro e w2 ⟨a2, cap2, rfl, hr2, hcap2, hb2⟩
    rw [HL.out] at hcap2 ⊢
    rw [HF.out] at hr2
    have hlen := HL.out
    rw [HF.out] at hlen
    have HR := Lib.hid hr2
    have HLEN := Lib.hid hlen
    clear hr2 hlen
    go_wp2_with fail
    go_ret2
    exact ⟨a2, cap2, by simp [HLEN.out], HR.out, by rw [HLEN.out]; exact hcap2, chain hb1 hb2⟩
end Go.Proofs.Ytcckfeikaolfgaa

namespace Go.Proofs.Ytcckfeikaolfgaa
open Go.RowKit Sm
set_option linter.unusedVariables false
set_option linter.unusedSimpArgs false
set_option maxRecDepth 100000
theorem tri_prod (i : Nat) : (i : Int) * ((i : Int) - 1) = ((i * (i - 1) : Nat) : Int) := by
  cases i with
  | zero => simp
  | succ j => rw [show ((j + 1 : Nat) : Int) - 1 = ((j : Nat) : Int) by omega, show j + 1 - 1 = j by omega, ← Int.natCast_mul]
theorem tri_small (i : Nat) (h : i ≤ 67108864) : i * (i - 1) ≤ 4503599627370496 := by
  have := Nat.mul_le_mul h (show i - 1 ≤ 67108864 by omega)
  omega
theorem chirp_tri (n i : Nat) (w : World) (hn : 1 ≤ n) (hn2 : n ≤ 16777216) (hi : i ≤ 67108864) :
    Calls Try.prog 96 #[.int .i64 n, .int .i64 i] w fun e w' => e = .returned (.int .i64 (triN n i : Nat)) ∧ w = w' := by
  obtain ⟨q, hq⟩ : ∃ q, i * (i - 1) = q := ⟨_, rfl⟩
  have h1 := tri_prod i
  have h2 := tri_small i hi
  rw [hq] at h1 h2
  have h0 : ((n : Int) == 0) = false := bno (by omega)
  have HT : Hid ((q : Int) / 2 % n = (triN n i : Nat)) := by
    unfold Hid triN triT; rw [hq, Int.natCast_emod, Int.natCast_ediv]; rfl
  clear hq
  go_enter Try.func96, Try.ntmps96
  go_wp2_with fail
  go_ret
  exact ⟨ret_int HT.out, rfl⟩
theorem chirp_way (n : Nat) (d : Int) (w : World) (h : hasSz n = true) (hd : d = 0 ∨ d = 1) :
    Calls Try.prog 94 #[.int .i64 n, .int .i64 d] w fun e w' => e = .returned (.tuple #[.int .u64 (dirRt n d), .int .i64 0]) ∧ w = w' := by
  have H := Lib.hid h
  clear h
  rcases hd with h1 | h1
  · subst h1
    go_enter Try.func94, Try.ntmps94
    go_wp2_with fail
    refine (rootHas_yes _ _ H.out).mono ?_; rintro e w' ⟨rfl, rfl⟩
    go_wp2_with fail
    refine (rootRoot_yes n _ H.out).mono ?_; rintro e w' ⟨rfl, rfl⟩
    go_wp2_with fail
    go_ret2
    exact ⟨rfl, rfl⟩
  · subst h1
    go_enter Try.func94, Try.ntmps94
    go_wp2_with fail
    refine (rootHas_yes _ _ H.out).mono ?_; rintro e w' ⟨rfl, rfl⟩
    go_wp2_with fail
    refine (rootBack_yes n _ H.out).mono ?_; rintro e w' ⟨rfl, rfl⟩
    go_wp2_with fail
    go_ret2
    exact ⟨rfl, rfl⟩
theorem chirp_powers (z : Int) (n : Nat) (w : World) (h0 : 0 ≤ z) (h1 : z < 18446744073709551616) (hn1 : 1 ≤ n) (hn : n ≤ 16777216) :
    Calls Try.prog 95 #[.int .u64 z, .int .i64 n] w fun e w' => ∃ b off, e = .returned (.slice (some ⟨b, off, none⟩) n n) ∧ Row .u64 w' (some ⟨b, off, none⟩) (powL z n) ∧ Below w.heap.size w w' := by
  have HL : Hid ((powL z n).length = n) := powL_len z n
  go_enter Try.func95, Try.ntmps95
  go_wp2_with fail
  refine (rootPowers z n _ h0 h1 hn).mono ?_
  rintro e w1 ⟨a1, cap1, rfl, hr1, hcap1, hb1⟩
  rw [HL.out] at hcap1 ⊢
  obtain ⟨b, off, rfl, _⟩ := hr1.at (by rw [HL.out]; omega)
  have HR := Lib.hid hr1
  have hc := hcap1.1
  clear hr1
  go_wp2_with fail
  go_ret
  exact ⟨b, off, rfl, HR.out, hb1⟩
def GivesOwnE (k : IntKind) (t : TypeId) (xs : List Int) (w : World) (e : Ending) (w' : World) : Prop :=
  ∃ a cap, e = .returned (.tuple #[.slice a xs.length cap, .int .i64 0]) ∧ w'.ownsRow w.heap.size t 1 (.slice a xs.length cap) xs.length (xs.map (Value.int k)) ∧ Row k w' a xs ∧ OkCap a xs.length cap ∧ Below w.heap.size w w'
theorem nth_powL (z : Int) (n i : Nat) (h : i < n) : nth (powL z n) i = pw z i := nth_ofFn _ _ _ h
set_option maxHeartbeats 1000000 in
theorem chirp_Row (n many : Nat) (d : Int) (w : World) (h : hasSz n = true) (hd : d = 0 ∨ d = 1) (hm : many ≤ 16777216) :
    Calls Try.prog 71 #[.int .i64 n, .int .i64 d, .int .i64 many] w (GivesOwnE .u64 34 (rowT (dirRt n d) n many) w) := by
  obtain ⟨i0, hi, hz0, hz1, hz2⟩ := info_parts info_u64
  have C1 : Hid (∀ w : World, Calls Try.prog 94 #[.int .i64 n, .int .i64 d] w fun e w' => e = .returned (.tuple #[.int .u64 (dirRt n d), .int .i64 0]) ∧ w = w') := fun w => chirp_way n d w h hd
  have hzr := dirRt_range n d
  obtain ⟨h1, h2, _⟩ := hasSz_iff.1 h
  have hn1 : 1 ≤ n := by omega
  have hn2 : n ≤ 16777216 := by omega
  obtain ⟨z, hz⟩ : ∃ z, dirRt n d = z := ⟨_, rfl⟩
  rw [hz] at C1 hzr ⊢
  have C2 : Hid (∀ w : World, Calls Try.prog 95 #[.int .u64 z, .int .i64 n] w fun e w' => ∃ b off, e = .returned (.slice (some ⟨b, off, none⟩) n n) ∧ Row .u64 w' (some ⟨b, off, none⟩) (powL z n) ∧ Below w.heap.size w w') := fun w => chirp_powers z n w hzr.1 (by omega) hn1 hn2
  have HPL : Hid ((powL z n).length = n) := powL_len z n
  have HRL : Hid ((rowT z n many).length = many) := rowT_len z n many
  have HTL : Hid (∀ k, triN n k < n) := fun k => triN_lt n k hn1
  clear hz h hd h1 h2
  go_enter Try.func71, Try.ntmps71
  go_wp2_with fail
  refine (C1.out _).mono ?_; rintro e w' ⟨rfl, rfl⟩
  go_wp2_with fail
  refine (C2.out _).mono ?_
  rintro e w1 ⟨b, off, rfl, hr1, hb1⟩
  have HR1 := Lib.hid hr1
  have HB1 := Lib.hid hb1
  clear hr1 hb1
  go_wp2_with (at_make; refine wpList_make_full _ rfl _ _ 25 rfl w1.heap.size 34 i0 (.int .u64 0) 1 Try.underlying25 hi hz0 hz1 .i64 .i64 many many many rfl rfl rfl rfl (by rw [hz2]; omega) (by unfold maxLen; omega) (Nat.le_refl _) ?_)
  intro w2 hown0 hgrow0
  have hown := Own.made hown0 hgrow0
  clear hown0 hgrow0
  go_wp2_with fail
  go_loopw [37] (fun i wr => ∃ k : Nat, k ≤ many ∧ i = .int .i64 k ∧ OwnAt .u64 34 w1 wr w1.heap.size many (fun j => if j < k then pw z (triN n j) else 0)) (fun i _ => many - (intOf i).toNat)
  case atStart => exact ⟨0, Nat.zero_le _, rfl, own_eqz hown (fun j => if_neg (by omega))⟩
  case round =>
    obtain ⟨k, hk, rfl, hown⟩ := hrel
    by_cases hlt : k < many
    · obtain ⟨t, ht⟩ : ∃ t, triN n k = t := ⟨_, rfl⟩
      have htl := HTL.out k
      rw [ht] at htl
      obtain ⟨b', off', hbo, hc⟩ := (HR1.out.below hown.below).at (by rw [HPL.out]; omega)
      simp only [Option.some.injEq, Addr.mk.injEq, and_true] at hbo
      obtain ⟨rfl, rfl⟩ := hbo
      have hck := hc t (by rw [HPL.out]; exact htl)
      rw [nth_powL _ _ _ htl] at hck
      clear hc
      have hcell := hown.cell k hlt
      rw [if_neg (Nat.lt_irrefl k)] at hcell
      have hfz := hown.free k
      have hnext := hown.store k hlt (pw z t) (f' := fun j => if j < k + 1 then pw z (triN n j) else 0) (by rw [if_pos (by omega), ht]) (fun j _ hj => by
        by_cases h : j < k
        · rw [if_pos h, if_pos (by omega)]
        · rw [if_neg h, if_neg (by omega)])
      have HNX := Lib.hid hnext
      have HT := Lib.hid ht
      clear hown hnext ht
      go_wp2_with fail
      refine (chirp_tri n k _ hn1 hn2 (by omega)).mono ?_; rintro e w' ⟨rfl, rfl⟩
      rw [HT.out]
      go_wp2_with fail
      go_roundw
      case rel => exact ⟨k + 1, by omega, by go_num, HNX.out⟩
      case measure => simp [intOf]; omega
    · have hkn : k = many := by omega
      obtain ⟨a2, cap2, he, ho2, hf2, _, hb2⟩ := hown.givesO (xs := rowT z n many) (rowT_len z n many) (rowT_fits z n many) (fun i hi => by rw [nth_rowT _ _ _ _ hi, if_pos (by omega)]) (by omega)
      simp only [Ending.returned.injEq, Value.slice.injEq] at he
      obtain ⟨rfl, hx1, rfl⟩ := he
      clear hx1
      have ho3 := own_base ho2 HB1.out.size
      have hrow := gives_of_own ho2 hb2 rfl rfl hf2 (by rw [HRL.out]; omega)
      obtain ⟨a3, cap3, he3, hr3, hcap3, hb3⟩ := hrow
      simp only [Ending.returned.injEq, Value.slice.injEq] at he3
      obtain ⟨rfl, hx2, rfl⟩ := he3
      clear hx2
      have HO := Lib.hid ho3
      have HR := Lib.hid hr3
      clear hown ho2 ho3 hr3 hf2
      go_wp2_with fail
      go_ret2
      exact ⟨some ⟨w1.heap.size, 0, none⟩, many, by simp [HRL.out], HO.out, HR.out, hcap3, chain HB1.out hb2⟩
end Go.Proofs.Ytcckfeikaolfgaa

namespace Go.Proofs.Ytcckfeikaolfgaa
open Go.RowKit Sm
set_option linter.unusedVariables false
set_option linter.unusedSimpArgs false
set_option maxRecDepth 100000
set_option maxHeartbeats 1000000 in
theorem kernel_ok (n m : Nat) (d : Int) (w : World) (h : hasSz n = true) (hd : d = 0 ∨ d = 1) (hm : hasSz m = true) (hl : 2 * n - 1 ≤ m) :
    Calls Try.prog 74 #[.int .i64 n, .int .i64 m, .int .i64 d] w (GivesRowE .u64 (zeroL (rowT (dirRt n d) n (2 * n - 1)) m) 0 w) := by
  obtain ⟨i0, hi, hz0, hz1, hz2⟩ := info_parts info_u64
  have C1 : Hid (∀ w : World, Calls Try.prog 94 #[.int .i64 n, .int .i64 d] w fun e w' => e = .returned (.tuple #[.int .u64 (dirRt n d), .int .i64 0]) ∧ w = w') := fun w => chirp_way n d w h hd
  obtain ⟨h1, h2, _⟩ := hasSz_iff.1 h
  obtain ⟨h3, h4, _⟩ := hasSz_iff.1 hm
  obtain ⟨q, hq⟩ : ∃ q : Nat, 2 * n - 1 = q := ⟨2 * n - 1, rfl⟩
  rw [hq] at hl ⊢
  have C2 : Hid (∀ (w : World), Calls Try.prog 71 #[.int .i64 n, .int .i64 d, .int .i64 q] w (GivesOwnE .u64 34 (rowT (dirRt n d) n q) w)) := fun w => chirp_Row n q d w h hd (by omega)
  have hq1 : 2 * (n : Int) - 1 = q := by omega
  have hql : ¬ (m : Int) < (q : Int) := by omega
  have hxl : (rowT (dirRt n d) n q).length = q := rowT_len _ _ _
  have hxf := rowT_fits (dirRt n d) n q
  obtain ⟨xs, hxs⟩ : ∃ xs, rowT (dirRt n d) n q = xs := ⟨_, rfl⟩
  rw [hxs] at C2 hxl hxf ⊢
  obtain ⟨dd, hdd⟩ : ∃ dd : Nat, m - q = dd := ⟨m - q, rfl⟩
  have hd1 : (m : Int) - (q : Int) = dd := by omega
  have H := Lib.hid h
  have HM := Lib.hid hm
  have HXL := Lib.hid hxl
  have HXF := Lib.hid hxf
  have HDD := Lib.hid hdd
  have HZL : Hid ((zeroL xs m).length = m) := zeroL_len xs m (by omega)
  have hqd : q + dd ≤ 100000000 := by omega
  have hm1 : m ≤ 16777216 := by omega
  clear h hd hm hxl hxf hxs hq hdd
  go_enter Try.func74, Try.ntmps74
  go_wp2_with fail
  refine (C1.out _).mono ?_; rintro e w' ⟨rfl, rfl⟩
  go_wp2_with fail
  refine (rootHas_yes _ _ HM.out).mono ?_; rintro e w' ⟨rfl, rfl⟩
  go_wp2_with fail
  refine (C2.out _).mono ?_; rintro e w1 ⟨a1, cap1, rfl, ho1, hr1, hcap1, hb1⟩
  rw [HXL.out] at ho1 ⊢
  have HO := Lib.hid ho1
  have hsz := hb1.size
  clear ho1 hr1 hcap1
  go_wp2_with (at_builtin; refine wpList_append_zeros _ rfl _ _ 25 3 rfl w.heap.size 34 i0 .u64 .i64 .i64 Try.underlying25 Try.underlying3 hi hz0 hz1 hz2 _ q _ rfl HO.out dd rfl (by omega) hsz ?_)
  intro v' w2 hown' hgrow
  have hb2 : Below w.heap.size w w2 := append_below hb1 hsz HO.out hgrow
  obtain ⟨a2, cap2, rfl, hcap2⟩ := own_slice hown'
  rw [show List.replicate dd (Value.int .u64 0) = List.replicate (m - xs.length) (Value.int .u64 0) by rw [HXL.out, HDD.out], zeroL_cells, show q + dd = m by have := HDD.out; omega] at hown'
  rw [show q + dd = m by have := HDD.out; omega] at hcap2 ⊢
  have hrow := Row.of_own (a := a2) (cap := cap2) HZL.out (by omega) (zeroL_fits xs m HXF.out) hown'
  have HR := Lib.hid hrow
  clear hown' hgrow hrow
  go_wp2_with fail
  go_ret2
  exact ⟨a2, cap2, by simp [HZL.out], HR.out, by rw [HZL.out]; exact hcap2, hb2⟩
end Go.Proofs.Ytcckfeikaolfgaa

namespace Go.Proofs.Ytcckfeikaolfgaa
open Go.RowKit
set_option linter.unusedVariables false
set_option linter.unusedSimpArgs false
set_option maxRecDepth 100000
/-- The logarithm. -/
def lg (n : Int) : Int := (Lib.bitLen n.toNat : Int) - 1
namespace Tr
end Tr
end Go.Proofs.Ytcckfeikaolfgaa

namespace Go.Proofs.Ytcckfeikaolfgaa
open Go.RowKit
set_option linter.unusedVariables false
set_option linter.unusedSimpArgs false
set_option maxRecDepth 100000
def ents (l : List (Value × Value)) : List MapEntry := l.mapIdx fun i p => { key := p.1, val := p.2, born := i }
def mapObj (l : List (Value × Value)) : Obj := .map (ents l).toArray l.length
theorem ents_len (l : List (Value × Value)) : (ents l).length = l.length := by simp [ents]
theorem ents_get (l : List (Value × Value)) (i : Nat) : (ents l)[i]? = (l[i]?).map fun p => { key := p.1, val := p.2, born := i } := by
  simp [ents]
theorem ents_snoc (l : List (Value × Value)) (k v : Value) : ents (l ++ [(k, v)]) = ents l ++ [{ key := k, val := v, born := l.length }] := by
  simp [ents, List.mapIdx_append]
theorem ents_modify (l : List (Value × Value)) (j : Nat) (v : Value) : (ents l).modify j (fun e => { e with val := v }) = ents (l.modify j fun p => (p.1, v)) := by
  refine List.ext_getElem? fun i => ?_
  rw [List.getElem?_modify, ents_get, ents_get, List.getElem?_modify]
  cases l[i]? with
  | none => simp
  | some p => simp only [Option.map_some]; split <;> simp
/-- What a struct's type as a key has to say. -/
structure KeyOk (P : Program) (T : TypeId) (KV : Value → Prop) : Prop where
  wide : (match P.underlying T with | some (.array _ _) | some (.struct _) => true | _ => false) = true
  check : ∀ (e : Bool) (w : World) (k : Value), KV k → (Instr.checkKey e 10000 T k).run P w = .ok () w
  eq : ∀ (w : World) (x y : Value), KV x → KV y → ∃ b : Bool, (Op.equal T x y).run P w = .ok b w ∧ (b = true ↔ x = y)
  stays : ∀ (w : World) (k : Value), KV k → (Instr.keyThatStays k k).run P w = .ok k w
section
variable {P : Program} {T : TypeId} {KV : Value → Prop} (K : KeyOk P T KV)
include K
theorem KeyOk.asking (w : World) (k : Value) (hk : KV k) : ∀ (es : List MapEntry) (i : Nat), (∀ e ∈ es, KV e.key) →
    ((Instr.findAsking T k es i).run P w = .ok none w ∧ ∀ e ∈ es, e.key ≠ k) ∨ ∃ (j : Nat) (e : MapEntry), (Instr.findAsking T k es i).run P w = .ok (some (i + j, e.val)) w ∧ es[j]? = some e ∧ e.key = k
  | [], i, _ => .inl ⟨by simp [Instr.findAsking], fun _ h => by cases h⟩
  | e :: es, i, h => by
    obtain ⟨b, hb, hiff⟩ := K.eq w k e.key hk (h e (by simp))
    cases b with
    | true => exact .inr ⟨0, e, by simp [Instr.findAsking, hb, Result.andThen], by simp, (hiff.1 rfl).symm⟩
    | false =>
      have hne : e.key ≠ k := fun h2 => by have := hiff.2 h2.symm; cases this
      rcases KeyOk.asking w k hk es (i + 1) (fun x hx => h x (by simp [hx])) with ⟨h1, h2⟩ | ⟨j, e', h1, h2, h3⟩
      · refine .inl ⟨by simp [Instr.findAsking, hb, h1, Result.andThen], fun x hx => ?_⟩
        rcases List.mem_cons.1 hx with rfl | hx
        · exact hne
        · exact h2 x hx
      · exact .inr ⟨j + 1, e', by simp [Instr.findAsking, hb, h1, Result.andThen]; omega, by simpa using h2, h3⟩
theorem KeyOk.find_no (w : World) (k : Value) (hk : KV k) (l : List (Value × Value)) (hl : ∀ p ∈ l, KV p.1) (hn : ∀ p ∈ l, p.1 ≠ k) : (Instr.findKey T k (ents l)).run P w = .ok none w := by
  rw [run_findKey_eq _ K.wide]
  have hm : ∀ e ∈ ents l, ∃ p ∈ l, e.key = p.1 := fun e he => by
    obtain ⟨i, hi⟩ := List.getElem?_of_mem he
    rw [ents_get] at hi
    obtain ⟨p, hp, rfl⟩ := Option.map_eq_some_iff.1 hi
    exact ⟨p, List.mem_of_getElem? hp, rfl⟩
  rcases K.asking w k hk (ents l) 0 (fun e he => by obtain ⟨p, hp, h⟩ := hm e he; rw [h]; exact hl p hp) with ⟨h1, _⟩ | ⟨j, e, _, h2, h3⟩
  · exact h1
  · obtain ⟨p, hp, h⟩ := hm e (List.mem_of_getElem? h2)
    exact absurd (h.symm.trans h3) (hn p hp)
theorem KeyOk.find_yes (w : World) (k v : Value) (hk : KV k) (l : List (Value × Value)) (hl : ∀ p ∈ l, KV p.1) (hd : (l.map (·.1)).Nodup) (j : Nat) (hj : l[j]? = some (k, v)) : (Instr.findKey T k (ents l)).run P w = .ok (some (j, v)) w := by
  rw [run_findKey_eq _ K.wide]
  have hm : ∀ e ∈ ents l, ∃ p ∈ l, e.key = p.1 := fun e he => by
    obtain ⟨i, hi⟩ := List.getElem?_of_mem he
    rw [ents_get] at hi
    obtain ⟨p, hp, rfl⟩ := Option.map_eq_some_iff.1 hi
    exact ⟨p, List.mem_of_getElem? hp, rfl⟩
  rcases K.asking w k hk (ents l) 0 (fun e he => by obtain ⟨p, hp, h⟩ := hm e he; rw [h]; exact hl p hp) with ⟨_, h2⟩ | ⟨i, e, h1, h2, h3⟩
  · refine absurd rfl (h2 { key := k, val := v, born := j } (List.mem_of_getElem? (i := j) ?_))
    rw [ents_get, hj]; rfl
  · rw [ents_get] at h2
    obtain ⟨p, hp, rfl⟩ := Option.map_eq_some_iff.1 h2
    have hij : i = j := by
      have a1 : (l.map (·.1))[i]? = some k := by simp [hp]; exact h3
      have a2 : (l.map (·.1))[j]? = some k := by simp [hj]
      exact (List.getElem?_inj (by rw [List.length_map]; exact (List.getElem?_eq_some_iff.1 hp).1) hd).1 (a1.trans a2.symm)
    subst hij
    rw [hp] at hj
    cases hj
    rw [h1, Nat.zero_add]
variable {M E : TypeId} (hM : P.underlying M = some (.map T E)) {w : World} {b : Nat} {l : List (Value × Value)} (hb : w.heap[b]? = some (mapObj l)) (hl : ∀ p ∈ l, KV p.1) {k : Value} (hk : KV k)
include hM hb hl hk
theorem KeyOk.lookup_no {z : Value} (hz : ∀ u : World, (zeroValue E).run P u = .ok z u) (hn : ∀ p ∈ l, p.1 ≠ k) (ok : Bool) : (Instr.lookup M (.map (some b)) k ok).run P w = .ok (if ok then .tuple #[z, .bool false] else z) w := by
  unfold mapObj at hb
  simp [Instr.lookup, run_underlying hM, MapKept.run_getObj_map hb, K.check _ w k hk, K.find_no w k hk l hl hn, hz, Result.andThen]
theorem KeyOk.lookup_yes {v : Value} {j : Nat} (hd : (l.map (·.1)).Nodup) (hj : l[j]? = some (k, v)) (ok : Bool) : (Instr.lookup M (.map (some b)) k ok).run P w = .ok (if ok then .tuple #[v, .bool true] else v) w := by
  unfold mapObj at hb
  simp [Instr.lookup, run_underlying hM, MapKept.run_getObj_map hb, K.check _ w k hk, K.find_yes w k v hk l hl hd j hj, Result.andThen]
theorem KeyOk.entry_no {z : Value} (hz : ∀ u : World, (zeroValue E).run P u = .ok z u) (hn : ∀ p ∈ l, p.1 ≠ k) : (Instr.mapEntry M (.map (some b)) k).run P w = .ok (.tuple #[z, goInt l.length]) (w.putObj b (mapObj (l ++ [(k, z)]))) := by
  unfold mapObj at hb
  simp [Instr.mapEntry, run_underlying hM, MapKept.run_getObj_map hb, K.check false w k hk, K.find_no w k hk l hl hn, hz, MapKept.run_setObj_map _ hb, Result.andThen, World.putObj, mapObj, ents_snoc]
theorem KeyOk.entry_yes {v : Value} {j : Nat} (hd : (l.map (·.1)).Nodup) (hj : l[j]? = some (k, v)) : (Instr.mapEntry M (.map (some b)) k).run P w = .ok (.tuple #[v, goInt j]) (w.putObj b (mapObj l)) := by
  unfold mapObj at hb
  have he : (ents l)[j]? = some { key := k, val := v, born := j } := by rw [ents_get, hj]; rfl
  have hs : (ents l).modify j (fun e => { e with key := k }) = ents l := by
    refine List.ext_getElem? fun i => ?_
    rw [List.getElem?_modify]
    split
    · rename_i hij; subst hij; rw [he]; rfl
    · simp
  simp [Instr.mapEntry, run_underlying hM, MapKept.run_getObj_map hb, K.check false w k hk, K.find_yes w k v hk l hl hd j hj, he, K.stays w k hk, hs, MapKept.run_setObj_map _ hb, Result.andThen, World.putObj, mapObj]
theorem KeyOk.update_no {v : Value} (hn : ∀ p ∈ l, p.1 ≠ k) : (Instr.mapUpdate M (.map (some b)) k v).run P w = .ok () (w.putObj b (mapObj (l ++ [(k, v)]))) := by
  unfold mapObj at hb
  simp [Instr.mapUpdate, run_underlying hM, MapKept.run_getObj_map hb, K.check false w k hk, K.find_no w k hk l hl hn, MapKept.run_setObj_map _ hb, Result.andThen, World.putObj, mapObj, ents_snoc]
end
theorem run_entryStore {P : Program} {M : TypeId} {w : World} {b : Nat} {l : List (Value × Value)} (hb : w.heap[b]? = some (mapObj l)) (j : Nat) (hj : j < l.length) (v : Value) : (Instr.entryStore M (.map (some b)) (goInt j) v).run P w = .ok () (w.putObj b (mapObj (l.modify j fun p => (p.1, v)))) := by
  unfold mapObj at hb
  have hidx : (ents l).toArray.findIdx? (fun e => ((e.born : Nat) : Int) == ((j : Nat) : Int)) = some j := by
    have h1 : (ents l).findIdx? (fun e => ((e.born : Nat) : Int) == ((j : Nat) : Int)) = some j := by
      rw [List.findIdx?_eq_some_iff_getElem]
      refine ⟨by rw [ents_len]; exact hj, ?_, fun i hij => ?_⟩
      · simp [ents]
      · simp [ents]; omega
    simpa using h1
  have hm : (ents l).modify j (fun e => { e with val := v }) = ents (l.modify j fun p => (p.1, v)) := ents_modify l j v
  simp [Instr.entryStore, MapKept.run_getObj_map hb, asInt, asIntOf, goInt, hidx, hm, MapKept.run_setObj_map _ hb, Result.andThen, World.putObj, mapObj]
theorem put_same (w : World) (b : Nat) (o : Obj) (h : w.heap[b]? = some o) : w.putObj b o = w := by
  have h2 : w.heap.setIfInBounds b o = w.heap := by
    apply Array.ext_getElem?
    intro i
    by_cases hi : b = i
    · subst hi; rw [Array.getElem?_setIfInBounds_self_of_lt (Array.getElem?_eq_some_iff.1 h).1, h]
    · rw [Array.getElem?_setIfInBounds_ne hi]
  cases w
  simp only [World.putObj] at *
  rw [h2]
theorem put_below {B : Nat} {w w' : World} (h : Below B w w') (b : Nat) (hb : B ≤ b) (o : Obj) : Below B w (w'.putObj b o) :=
  ⟨h.os, h.tape, h.output, by simpa using h.size, fun j hj => (World.putObj_heap_other (by omega)).trans (h.block j hj)⟩
/-- A name: four numbers. -/
abbrev Nm := Int × Int × Int × Int
def nv (x : Nm) : Value := .agg #[.int .i64 x.1, .int .i64 x.2.1, .int .i64 x.2.2.1, .int .i64 x.2.2.2]
theorem int_eqIn (a b : Int) (w : World) : (Op.equalIn 9999 3 (.int .i64 a) (.int .i64 b)).run Try.prog w = .ok (a == b) w := by
  have hI := Try.underlying3
  unfold Op.equalIn
  simp [run_underlying hI]
theorem name_eq (x y : Nm) (w : World) : (Op.equal 23 (nv x) (nv y)).run Try.prog w = .ok (x.1 == y.1 && (x.2.1 == y.2.1 && (x.2.2.1 == y.2.2.1 && x.2.2.2 == y.2.2.2))) w := by
  have hT := Try.underlying23
  have hI := Try.underlying3
  have p0 : ∀ (a b c d : Int) (w : World), (part 3 #[.int .i64 a, .int .i64 b, .int .i64 c, .int .i64 d] 0).run Try.prog w = .ok (.int .i64 a) w := fun _ _ _ _ _ => by kernel_rfl
  have p1 : ∀ (a b c d : Int) (w : World), (part 3 #[.int .i64 a, .int .i64 b, .int .i64 c, .int .i64 d] 1).run Try.prog w = .ok (.int .i64 b) w := fun _ _ _ _ _ => by kernel_rfl
  have p2 : ∀ (a b c d : Int) (w : World), (part 3 #[.int .i64 a, .int .i64 b, .int .i64 c, .int .i64 d] 2).run Try.prog w = .ok (.int .i64 c) w := fun _ _ _ _ _ => by kernel_rfl
  have p3 : ∀ (a b c d : Int) (w : World), (part 3 #[.int .i64 a, .int .i64 b, .int .i64 c, .int .i64 d] 3).run Try.prog w = .ok (.int .i64 d) w := fun _ _ _ _ _ => by kernel_rfl
  unfold Op.equal Op.maxDepth nv
  unfold Op.equalIn
  simp [run_underlying hT, p0, p1, p2, p3, int_eqIn, Result.andThen]
  by_cases h0 : x.1 = y.1 <;> by_cases h1 : x.2.1 = y.2.1 <;> by_cases h2 : x.2.2.1 = y.2.2.1 <;> by_cases h3 : x.2.2.2 = y.2.2.2 <;> simp [h0, h1, h2, h3, p0, p1, p2, p3, int_eqIn, Result.andThen]
theorem name_check (x : Nm) (e : Bool) (w : World) : (Instr.checkKey e 10000 23 (nv x)).run Try.prog w = .ok () w := by kernel_rfl
/-- It is a name's value. -/
def isNv (v : Value) : Prop := ∃ x : Nm, v = nv x
theorem nv_inj {x y : Nm} (h : nv x = nv y) : x = y := by
  obtain ⟨a, b, c, d⟩ := x
  obtain ⟨a', b', c', d'⟩ := y
  simp only [nv, Value.agg.injEq, Array.mk.injEq, List.cons.injEq, Value.int.injEq, true_and, and_true] at h
  obtain ⟨rfl, rfl, rfl, rfl⟩ := h
  rfl
theorem name_eqB (x y : Nm) (w : World) : (Op.equal 23 (nv x) (nv y)).run Try.prog w = .ok (decide (x = y)) w := by
  rw [name_eq]
  congr 1
  obtain ⟨a, b, c, d⟩ := x
  obtain ⟨a', b', c', d'⟩ := y
  rw [Bool.eq_iff_iff]
  simp
theorem name_keys : KeyOk Try.prog 23 isNv where
  wide := by kernel_rfl
  check := fun e w k h => by obtain ⟨x, rfl⟩ := h; exact name_check x e w
  eq := fun w x y hx hy => by
    obtain ⟨x, rfl⟩ := hx
    obtain ⟨y, rfl⟩ := hy
    refine ⟨_, name_eqB x y w, ?_⟩
    rw [decide_eq_true_eq]
    exact ⟨fun h => by rw [h], nv_inj⟩
  stays := fun w k h => by
    obtain ⟨x, rfl⟩ := h
    simp [Instr.keyThatStays, nv, Instr.sameBits]
end Go.Proofs.Ytcckfeikaolfgaa

namespace Go.Proofs.Ytcckfeikaolfgaa
open Go.RowKit
set_option linter.unusedVariables false
set_option linter.unusedSimpArgs false
set_option maxRecDepth 100000
namespace Tr
end Tr
/-- Is it a name? -/
def rightB (x : Nm) : Bool :=
  hasSz x.2.1 && decide (x.2.2.2 = 0 ∨ x.2.2.2 = 1) &&
    if x.1 = 1 ∨ x.1 = 2 then decide (x.2.2.1 = 0)
    else if x.1 = 3 then decide (x.2.2.1 = 0 ∧ 3 ≤ x.2.1) && isPr x.2.1
    else if x.1 = 4 then decide (2 ≤ x.2.1 ∧ 2 * x.2.1 - 1 ≤ x.2.2.1) && hasP2 x.2.2.1
    else false
/-- How many numbers. -/
def roomN (x : Nm) : Int := if rightB x = false then 0 else if x.1 = 3 then x.2.1 - 1 else if x.1 = 4 then x.2.2.1 else x.2.1
end Go.Proofs.Ytcckfeikaolfgaa

namespace Go.Proofs.Ytcckfeikaolfgaa
open Go.RowKit
set_option linter.unusedVariables false
set_option linter.unusedSimpArgs false
set_option maxRecDepth 100000
set_option maxRecDepth 20000
/-- Four numbers that may be. -/
def NmOk (x : Nm) : Prop := (-9223372036854775808 ≤ x.1 ∧ x.1 < 9223372036854775808) ∧ (-9223372036854775808 ≤ x.2.1 ∧ x.2.1 < 9223372036854775808) ∧ (-9223372036854775808 ≤ x.2.2.1 ∧ x.2.2.1 < 9223372036854775808) ∧ (-9223372036854775808 ≤ x.2.2.2 ∧ x.2.2.2 < 9223372036854775808)
set_option maxHeartbeats 4000000 in
theorem need_Right (k n m d : Int) (w : World) (hx : NmOk (k, n, m, d)) :
    Calls Try.prog 38 #[.agg #[.int .i64 k, .int .i64 n, .int .i64 m, .int .i64 d]] w fun e w' => e = .returned (.bool (rightB (k, n, m, d))) ∧ Below w.heap.size w w' := by
  obtain ⟨hk, hn, hm, hd⟩ := hx
  simp only at hk hn hm hd
  obtain ⟨W0, hW0, hb0, x0⟩ := box_any w #[.int .i64 k, .int .i64 n, .int .i64 m, .int .i64 d] 23
  have HW0 := Lib.hid hW0
  have HB := Lib.hid hb0
  have D0 : W0.cell? ⟨w.heap.size, 0, none⟩ = some (.int .i64 k) := block_cell x0 0
  have D1 : W0.cell? ⟨w.heap.size, 1, none⟩ = some (.int .i64 n) := block_cell x0 1
  have D2 : W0.cell? ⟨w.heap.size, 2, none⟩ = some (.int .i64 m) := block_cell x0 2
  have D3 : W0.cell? ⟨w.heap.size, 3, none⟩ = some (.int .i64 d) := block_cell x0 3
  clear hW0 hb0 x0
  by_cases hsz : hasSz n = true
  case neg =>
    have hsz' : hasSz n = false := by simpa using hsz
    have HS : Hid (∀ W, Calls Try.prog 66 #[.int .i64 n] W fun e w' => e = .returned (.bool false) ∧ W = w') := fun W => rootHas_no n W hsz' hn
    have HV : Hid (rightB (k, n, m, d) = false) := by simp [Hid, rightB, hsz']
    clear hsz hsz'
    go_enter Try.func38, Try.ntmps38
    go_wp2_with fail
    rw [HW0.out]
    refine (HS.out _).mono ?_; rintro e w1 ⟨rfl, rfl⟩
    go_wp2_with fail
    go_ret
    exact ⟨ret_bool HV.out.symm, HB.out⟩
  have HS : Hid (∀ W, Calls Try.prog 66 #[.int .i64 n] W fun e w' => e = .returned (.bool true) ∧ W = w') := fun W => rootHas_yes n W hsz
  have hnb := hasSz_bd hsz
  by_cases hdd : d = 0 ∨ d = 1
  case neg =>
    have HV : Hid (rightB (k, n, m, d) = false) := by simp [Hid, rightB, hdd]
    have t0 : (d != 0) = true := bdiff (by omega)
    have t1 : (d != 1) = true := bdiff (by omega)
    clear hsz hdd
    go_enter Try.func38, Try.ntmps38
    go_wp2_with fail
    rw [HW0.out]
    refine (HS.out _).mono ?_; rintro e w1 ⟨rfl, rfl⟩
    go_wp2_with fail
    go_ret
    exact ⟨ret_bool HV.out.symm, HB.out⟩
  have HD : Hid (decide (d = 0 ∨ d = 1) = true) := decide_eq_true hdd
  have HZ := Lib.hid hsz
  rcases hdd with rfl | rfl

  · clear hsz
    rcases (show k = 1 ∨ k = 2 ∨ k = 3 ∨ k = 4 ∨ (k ≠ 1 ∧ k ≠ 2 ∧ k ≠ 3 ∧ k ≠ 4) by omega) with rfl | rfl | rfl | rfl | ⟨k1, k2, k3, k4⟩
    · by_cases hm0 : m = 0
      · subst hm0
        have HV : Hid (rightB (1, n, 0, 0) = true) := by unfold Hid rightB; simp only [HZ.out]; simp
        clear HZ HD
        go_enter Try.func38, Try.ntmps38
        go_wp2_with fail
        rw [HW0.out]
        refine (HS.out _).mono ?_; rintro e w1 ⟨rfl, rfl⟩
        go_wp2_with fail
        go_ret
        exact ⟨ret_bool HV.out.symm, HB.out⟩
      · have t2 : (m == 0) = false := bno hm0
        have HV : Hid (rightB (1, n, m, 0) = false) := by unfold Hid rightB; simp only [HZ.out]; simp [hm0]
        clear HZ HD hm0
        go_enter Try.func38, Try.ntmps38
        go_wp2_with fail
        rw [HW0.out]
        refine (HS.out _).mono ?_; rintro e w1 ⟨rfl, rfl⟩
        go_wp2_with fail
        go_ret
        exact ⟨ret_bool HV.out.symm, HB.out⟩
    · by_cases hm0 : m = 0
      · subst hm0
        have HV : Hid (rightB (2, n, 0, 0) = true) := by unfold Hid rightB; simp only [HZ.out]; simp
        clear HZ HD
        go_enter Try.func38, Try.ntmps38
        go_wp2_with fail
        rw [HW0.out]
        refine (HS.out _).mono ?_; rintro e w1 ⟨rfl, rfl⟩
        go_wp2_with fail
        go_ret
        exact ⟨ret_bool HV.out.symm, HB.out⟩
      · have t2 : (m == 0) = false := bno hm0
        have HV : Hid (rightB (2, n, m, 0) = false) := by unfold Hid rightB; simp only [HZ.out]; simp [hm0]
        clear HZ HD hm0
        go_enter Try.func38, Try.ntmps38
        go_wp2_with fail
        rw [HW0.out]
        refine (HS.out _).mono ?_; rintro e w1 ⟨rfl, rfl⟩
        go_wp2_with fail
        go_ret
        exact ⟨ret_bool HV.out.symm, HB.out⟩
    · by_cases hm0 : m = 0
      · subst hm0
        by_cases h3 : 3 ≤ n
        · have t3 : decide (n ≥ 3) = true := by simp; omega
          obtain ⟨P, hP⟩ : ∃ P, isPr n = P := ⟨_, rfl⟩
          have HP : Hid (∀ W, Calls Try.prog 67 #[.int .i64 n] W fun e w' => e = .returned (.bool P) ∧ Below W.heap.size W w') := fun W => by rw [← hP]; exact fact_Prime n W hn
          have HV : Hid (rightB (3, n, 0, 0) = P) := by unfold Hid rightB; simp only [HZ.out]; simp [h3, hP]
          clear HZ HD hP
          go_enter Try.func38, Try.ntmps38
          go_wp2_with fail
          rw [HW0.out]
          refine (HS.out _).mono ?_; rintro e w1 ⟨rfl, rfl⟩
          go_wp2_with fail
          refine (HP.out _).mono ?_; rintro e w2 ⟨rfl, hb2⟩
          have HB := Lib.hid (chain HB.out hb2)
          clear hb2 D0 D1 D2 D3
          go_wp2_with fail
          go_ret
          exact ⟨ret_bool HV.out.symm, HB.out⟩
        · have t3 : decide (n ≥ 3) = false := by simp; omega
          have HV : Hid (rightB (3, n, 0, 0) = false) := by unfold Hid rightB; simp only [HZ.out]; simp [h3]
          clear HZ HD h3
          go_enter Try.func38, Try.ntmps38
          go_wp2_with fail
          rw [HW0.out]
          refine (HS.out _).mono ?_; rintro e w1 ⟨rfl, rfl⟩
          go_wp2_with fail
          go_ret
          exact ⟨ret_bool HV.out.symm, HB.out⟩
      · have t2 : (m == 0) = false := bno hm0
        have HV : Hid (rightB (3, n, m, 0) = false) := by unfold Hid rightB; simp only [HZ.out]; simp [hm0]
        clear HZ HD hm0
        go_enter Try.func38, Try.ntmps38
        go_wp2_with fail
        rw [HW0.out]
        refine (HS.out _).mono ?_; rintro e w1 ⟨rfl, rfl⟩
        go_wp2_with fail
        go_ret
        exact ⟨ret_bool HV.out.symm, HB.out⟩
    · by_cases h2 : 2 ≤ n
      · have t4 : decide (n ≥ 2) = true := by simp; omega
        by_cases h5 : 2 * n - 1 ≤ m
        · have t5 : decide (m ≥ 2 * n - 1) = true := by simp; omega
          obtain ⟨P, hP⟩ : ∃ P, hasP2 m = P := ⟨_, rfl⟩
          have HP : Hid (∀ W, Calls Try.prog 68 #[.int .i64 m] W fun e w' => e = .returned (.bool P) ∧ W = w') := fun W => by rw [← hP]; exact stock_Has m W ⟨hm.1, by omega⟩
          have HV : Hid (rightB (4, n, m, 0) = P) := by unfold Hid rightB; simp only [HZ.out]; simp [h2, h5, hP]
          clear HZ HD hP
          go_enter Try.func38, Try.ntmps38
          go_wp2_with fail
          rw [HW0.out]
          refine (HS.out _).mono ?_; rintro e w1 ⟨rfl, rfl⟩
          go_wp2_with fail
          refine (HP.out _).mono ?_; rintro e w2 ⟨rfl, rfl⟩
          go_wp2_with fail
          go_ret
          exact ⟨ret_bool HV.out.symm, HB.out⟩
        · have t5 : decide (m ≥ 2 * n - 1) = false := by simp; omega
          have HV : Hid (rightB (4, n, m, 0) = false) := by unfold Hid rightB; simp only [HZ.out]; simp [h5]
          clear HZ HD h5
          go_enter Try.func38, Try.ntmps38
          go_wp2_with fail
          rw [HW0.out]
          refine (HS.out _).mono ?_; rintro e w1 ⟨rfl, rfl⟩
          go_wp2_with fail
          go_ret
          exact ⟨ret_bool HV.out.symm, HB.out⟩
      · have t4 : decide (n ≥ 2) = false := by simp; omega
        have HV : Hid (rightB (4, n, m, 0) = false) := by unfold Hid rightB; simp only [HZ.out]; simp [h2]
        clear HZ HD h2
        go_enter Try.func38, Try.ntmps38
        go_wp2_with fail
        rw [HW0.out]
        refine (HS.out _).mono ?_; rintro e w1 ⟨rfl, rfl⟩
        go_wp2_with fail
        go_ret
        exact ⟨ret_bool HV.out.symm, HB.out⟩
    · have u1 := bno k1
      have u2 := bno k2
      have u3 := bno k3
      have u4 := bno k4
      have HV : Hid (rightB (k, n, m, 0) = false) := by unfold Hid rightB; simp only [HZ.out]; simp [k1, k2, k3, k4]
      clear HZ HD k1 k2 k3 k4
      go_enter Try.func38, Try.ntmps38
      go_wp2_with fail
      rw [HW0.out]
      refine (HS.out _).mono ?_; rintro e w1 ⟨rfl, rfl⟩
      go_wp2_with fail
      go_ret
      exact ⟨ret_bool HV.out.symm, HB.out⟩

  · clear hsz
    rcases (show k = 1 ∨ k = 2 ∨ k = 3 ∨ k = 4 ∨ (k ≠ 1 ∧ k ≠ 2 ∧ k ≠ 3 ∧ k ≠ 4) by omega) with rfl | rfl | rfl | rfl | ⟨k1, k2, k3, k4⟩
    · by_cases hm0 : m = 0
      · subst hm0
        have HV : Hid (rightB (1, n, 0, 1) = true) := by unfold Hid rightB; simp only [HZ.out]; simp
        clear HZ HD
        go_enter Try.func38, Try.ntmps38
        go_wp2_with fail
        rw [HW0.out]
        refine (HS.out _).mono ?_; rintro e w1 ⟨rfl, rfl⟩
        go_wp2_with fail
        go_ret
        exact ⟨ret_bool HV.out.symm, HB.out⟩
      · have t2 : (m == 0) = false := bno hm0
        have HV : Hid (rightB (1, n, m, 1) = false) := by unfold Hid rightB; simp only [HZ.out]; simp [hm0]
        clear HZ HD hm0
        go_enter Try.func38, Try.ntmps38
        go_wp2_with fail
        rw [HW0.out]
        refine (HS.out _).mono ?_; rintro e w1 ⟨rfl, rfl⟩
        go_wp2_with fail
        go_ret
        exact ⟨ret_bool HV.out.symm, HB.out⟩
    · by_cases hm0 : m = 0
      · subst hm0
        have HV : Hid (rightB (2, n, 0, 1) = true) := by unfold Hid rightB; simp only [HZ.out]; simp
        clear HZ HD
        go_enter Try.func38, Try.ntmps38
        go_wp2_with fail
        rw [HW0.out]
        refine (HS.out _).mono ?_; rintro e w1 ⟨rfl, rfl⟩
        go_wp2_with fail
        go_ret
        exact ⟨ret_bool HV.out.symm, HB.out⟩
      · have t2 : (m == 0) = false := bno hm0
        have HV : Hid (rightB (2, n, m, 1) = false) := by unfold Hid rightB; simp only [HZ.out]; simp [hm0]
        clear HZ HD hm0
        go_enter Try.func38, Try.ntmps38
        go_wp2_with fail
        rw [HW0.out]
        refine (HS.out _).mono ?_; rintro e w1 ⟨rfl, rfl⟩
        go_wp2_with fail
        go_ret
        exact ⟨ret_bool HV.out.symm, HB.out⟩
    · by_cases hm0 : m = 0
      · subst hm0
        by_cases h3 : 3 ≤ n
        · have t3 : decide (n ≥ 3) = true := by simp; omega
          obtain ⟨P, hP⟩ : ∃ P, isPr n = P := ⟨_, rfl⟩
          have HP : Hid (∀ W, Calls Try.prog 67 #[.int .i64 n] W fun e w' => e = .returned (.bool P) ∧ Below W.heap.size W w') := fun W => by rw [← hP]; exact fact_Prime n W hn
          have HV : Hid (rightB (3, n, 0, 1) = P) := by unfold Hid rightB; simp only [HZ.out]; simp [h3, hP]
          clear HZ HD hP
          go_enter Try.func38, Try.ntmps38
          go_wp2_with fail
          rw [HW0.out]
          refine (HS.out _).mono ?_; rintro e w1 ⟨rfl, rfl⟩
          go_wp2_with fail
          refine (HP.out _).mono ?_; rintro e w2 ⟨rfl, hb2⟩
          have HB := Lib.hid (chain HB.out hb2)
          clear hb2 D0 D1 D2 D3
          go_wp2_with fail
          go_ret
          exact ⟨ret_bool HV.out.symm, HB.out⟩
        · have t3 : decide (n ≥ 3) = false := by simp; omega
          have HV : Hid (rightB (3, n, 0, 1) = false) := by unfold Hid rightB; simp only [HZ.out]; simp [h3]
          clear HZ HD h3
          go_enter Try.func38, Try.ntmps38
          go_wp2_with fail
          rw [HW0.out]
          refine (HS.out _).mono ?_; rintro e w1 ⟨rfl, rfl⟩
          go_wp2_with fail
          go_ret
          exact ⟨ret_bool HV.out.symm, HB.out⟩
      · have t2 : (m == 0) = false := bno hm0
        have HV : Hid (rightB (3, n, m, 1) = false) := by unfold Hid rightB; simp only [HZ.out]; simp [hm0]
        clear HZ HD hm0
        go_enter Try.func38, Try.ntmps38
        go_wp2_with fail
        rw [HW0.out]
        refine (HS.out _).mono ?_; rintro e w1 ⟨rfl, rfl⟩
        go_wp2_with fail
        go_ret
        exact ⟨ret_bool HV.out.symm, HB.out⟩
    · by_cases h2 : 2 ≤ n
      · have t4 : decide (n ≥ 2) = true := by simp; omega
        by_cases h5 : 2 * n - 1 ≤ m
        · have t5 : decide (m ≥ 2 * n - 1) = true := by simp; omega
          obtain ⟨P, hP⟩ : ∃ P, hasP2 m = P := ⟨_, rfl⟩
          have HP : Hid (∀ W, Calls Try.prog 68 #[.int .i64 m] W fun e w' => e = .returned (.bool P) ∧ W = w') := fun W => by rw [← hP]; exact stock_Has m W ⟨hm.1, by omega⟩
          have HV : Hid (rightB (4, n, m, 1) = P) := by unfold Hid rightB; simp only [HZ.out]; simp [h2, h5, hP]
          clear HZ HD hP
          go_enter Try.func38, Try.ntmps38
          go_wp2_with fail
          rw [HW0.out]
          refine (HS.out _).mono ?_; rintro e w1 ⟨rfl, rfl⟩
          go_wp2_with fail
          refine (HP.out _).mono ?_; rintro e w2 ⟨rfl, rfl⟩
          go_wp2_with fail
          go_ret
          exact ⟨ret_bool HV.out.symm, HB.out⟩
        · have t5 : decide (m ≥ 2 * n - 1) = false := by simp; omega
          have HV : Hid (rightB (4, n, m, 1) = false) := by unfold Hid rightB; simp only [HZ.out]; simp [h5]
          clear HZ HD h5
          go_enter Try.func38, Try.ntmps38
          go_wp2_with fail
          rw [HW0.out]
          refine (HS.out _).mono ?_; rintro e w1 ⟨rfl, rfl⟩
          go_wp2_with fail
          go_ret
          exact ⟨ret_bool HV.out.symm, HB.out⟩
      · have t4 : decide (n ≥ 2) = false := by simp; omega
        have HV : Hid (rightB (4, n, m, 1) = false) := by unfold Hid rightB; simp only [HZ.out]; simp [h2]
        clear HZ HD h2
        go_enter Try.func38, Try.ntmps38
        go_wp2_with fail
        rw [HW0.out]
        refine (HS.out _).mono ?_; rintro e w1 ⟨rfl, rfl⟩
        go_wp2_with fail
        go_ret
        exact ⟨ret_bool HV.out.symm, HB.out⟩
    · have u1 := bno k1
      have u2 := bno k2
      have u3 := bno k3
      have u4 := bno k4
      have HV : Hid (rightB (k, n, m, 1) = false) := by unfold Hid rightB; simp only [HZ.out]; simp [k1, k2, k3, k4]
      clear HZ HD k1 k2 k3 k4
      go_enter Try.func38, Try.ntmps38
      go_wp2_with fail
      rw [HW0.out]
      refine (HS.out _).mono ?_; rintro e w1 ⟨rfl, rfl⟩
      go_wp2_with fail
      go_ret
      exact ⟨ret_bool HV.out.symm, HB.out⟩
end Go.Proofs.Ytcckfeikaolfgaa

namespace Go.Proofs.Ytcckfeikaolfgaa
open Go.RowKit
set_option linter.unusedVariables false
set_option linter.unusedSimpArgs false
set_option maxRecDepth 100000
theorem dirRt_zero (n : Nat) : dirRt n 0 = rt n := by unfold dirRt; rw [if_neg (by omega)]
theorem dirRt_one (n : Nat) : dirRt n 1 = bk n := by unfold dirRt; rw [if_pos rfl]
set_option maxHeartbeats 1000000 in
theorem tab_way (k : Int) (n : Nat) (m d : Int) (w : World) (h : hasSz n = true) (hd : d = 0 ∨ d = 1) :
    Calls Try.prog 70 #[.agg #[.int .i64 k, .int .i64 n, .int .i64 m, .int .i64 d]] w fun e w' => e = .returned (.int .u64 (dirRt n d)) ∧ Below w.heap.size w w' := by
  have HS := Lib.hid h
  clear h
  obtain ⟨W0, hW0, hb0, x0⟩ := box_any w #[.int .i64 k, .int .i64 n, .int .i64 m, .int .i64 d] 71
  have HW0 := Lib.hid hW0
  have HB := Lib.hid hb0
  have D1 : W0.cell? ⟨w.heap.size, 1, none⟩ = some (.int .i64 n) := block_cell x0 1
  have D3 : W0.cell? ⟨w.heap.size, 3, none⟩ = some (.int .i64 d) := block_cell x0 3
  clear hW0 hb0 x0
  rcases hd with rfl | rfl
  · go_enter Try.func70, Try.ntmps70
    go_wp2_with fail
    rw [HW0.out]
    refine (rootRoot_yes n _ HS.out).mono ?_; rintro e w' ⟨rfl, rfl⟩
    go_wp2_with fail
    go_ret
    exact ⟨by simp [dirRt_zero], HB.out⟩
  · go_enter Try.func70, Try.ntmps70
    go_wp2_with fail
    rw [HW0.out]
    refine (rootRoot_yes n _ HS.out).mono ?_; rintro e w' ⟨rfl, rfl⟩
    go_wp2_with fail
    refine (rootBack_yes n _ HS.out).mono ?_; rintro e w' ⟨rfl, rfl⟩
    go_wp2_with fail
    go_ret
    exact ⟨by simp [dirRt_one], HB.out⟩
set_option maxHeartbeats 1000000 in
theorem tab_powers (k : Int) (n : Nat) (m d : Int) (w : World) (h : hasSz n = true) (hd : d = 0 ∨ d = 1) :
    Calls Try.prog 39 #[.agg #[.int .i64 k, .int .i64 n, .int .i64 m, .int .i64 d]] w (GivesRow .u64 (powL (dirRt n d) n) w) := by
  have hn2 : n ≤ 16777216 := by have := (hasSz_iff.1 h).2.1; omega
  have hz := dirRt_range n d
  have C0 : Hid (∀ W, Calls Try.prog 70 #[.agg #[.int .i64 k, .int .i64 n, .int .i64 m, .int .i64 d]] W fun e w' => e = .returned (.int .u64 (dirRt n d)) ∧ Below W.heap.size W w') := fun W => tab_way k n m d W h hd
  obtain ⟨z, hz'⟩ : ∃ z, dirRt n d = z := ⟨_, rfl⟩
  rw [hz'] at C0 hz ⊢
  have C1 : Hid (∀ W, Calls Try.prog 69 #[.int .u64 z, .int .i64 n] W (GivesRowE .u64 (powL z n) 0 W)) := fun W => rootPowers z n W hz.1 (by omega) hn2
  have HL : Hid ((powL z n).length = n) := powL_len z n
  clear h hd hz hz'
  obtain ⟨W0, hW0, hb0, x0⟩ := box_any w #[.int .i64 k, .int .i64 n, .int .i64 m, .int .i64 d] 71
  have HW0 := Lib.hid hW0
  have HB := Lib.hid hb0
  have D0 : W0.cell? ⟨w.heap.size, 0, none⟩ = some (.int .i64 k) := block_cell x0 0
  have D1 : W0.cell? ⟨w.heap.size, 1, none⟩ = some (.int .i64 n) := block_cell x0 1
  have D2 : W0.cell? ⟨w.heap.size, 2, none⟩ = some (.int .i64 m) := block_cell x0 2
  have D3 : W0.cell? ⟨w.heap.size, 3, none⟩ = some (.int .i64 d) := block_cell x0 3
  have lD := block_lt x0
  clear hW0 hb0 x0
  go_enter Try.func39, Try.ntmps39
  go_wp2_with fail
  rw [HW0.out]
  have hb : Below W0.heap.size W0 W0.drew := (Below.refl _ _).drew
  go_region_held3 (fun w' => w'.cell? ⟨w.heap.size, 0, none⟩ = some (.int .i64 k) ∧ w'.cell? ⟨w.heap.size, 1, none⟩ = some (.int .i64 n) ∧ w'.cell? ⟨w.heap.size, 2, none⟩ = some (.int .i64 m) ∧ w'.cell? ⟨w.heap.size, 3, none⟩ = some (.int .i64 d))
    (first | exact ⟨D0, D1, D2, D3⟩ | exact ⟨(hb.cell (p := ⟨w.heap.size, 0, none⟩) lD).trans D0, (hb.cell (p := ⟨w.heap.size, 1, none⟩) lD).trans D1, (hb.cell (p := ⟨w.heap.size, 2, none⟩) lD).trans D2, (hb.cell (p := ⟨w.heap.size, 3, none⟩) lD).trans D3⟩)
    ((first
      | (go_at_call 70; ((with_reducible refine (C0.out _).mono ?_); rintro e z1 ⟨rfl, hc⟩; have hb := chain hb hc))
      | (go_at_call 69; ((with_reducible refine (C1.out _).mono ?_); rintro e z1 ⟨a1, cap1, rfl, hr1, hcap1, hc⟩; have hb := chain hb hc))))
  simp only [HL.out] at hcap1 ⊢
  have HBF := Lib.hid (chain HB.out hb)
  clear hb
  go_wp2_with fail
  go_ret
  exact ⟨a1, cap1, by simp [HL.out], hr1, by rw [HL.out]; exact hcap1, HBF.out⟩
set_option maxHeartbeats 1000000 in
theorem tab_chirps (k : Int) (n : Nat) (m d d' : Int) (w : World) (h : hasSz n = true) (hd : d = 0 ∨ d = 1) (hd' : d' = 1 - d) :
    Calls Try.prog 40 #[.agg #[.int .i64 k, .int .i64 n, .int .i64 m, .int .i64 d]] w (GivesRow .u64 (rowT (dirRt n d') n n) w) := by
  have hn2 : n ≤ 16777216 := by have := (hasSz_iff.1 h).2.1; omega
  have C1 : Hid (∀ W, Calls Try.prog 71 #[.int .i64 n, .int .i64 d', .int .i64 n] W (GivesOwnE .u64 34 (rowT (dirRt n d') n n) W)) := fun W => chirp_Row n n d' W h (by omega) hn2
  obtain ⟨z, hz⟩ : ∃ z, rowT (dirRt n d') n n = z := ⟨_, rfl⟩
  have HL : Hid (z.length = n) := by unfold Hid; rw [← hz]; exact rowT_len _ _ _
  have HF : Hid (∀ x ∈ z, fits .u64 x) := by unfold Hid; rw [← hz]; exact rowT_fits _ _ _
  rw [hz] at C1 ⊢
  have hdd : 1 - d = d' := hd'.symm
  clear h hz hd'
  obtain ⟨W0, hW0, hb0, x0⟩ := box_any w #[.int .i64 k, .int .i64 n, .int .i64 m, .int .i64 d] 71
  have HW0 := Lib.hid hW0
  have HB := Lib.hid hb0
  have D1 : W0.cell? ⟨w.heap.size, 1, none⟩ = some (.int .i64 n) := block_cell x0 1
  have D3 : W0.cell? ⟨w.heap.size, 3, none⟩ = some (.int .i64 d) := block_cell x0 3
  clear hW0 hb0 x0
  go_enter Try.func40, Try.ntmps40
  go_wp2_with fail
  rw [HW0.out]
  refine (C1.out _).mono ?_; rintro e w1 ⟨a1, cap1, rfl, _, hr1, hcap1, hb1⟩
  simp only [HL.out] at hcap1 ⊢
  have HBF := Lib.hid (chain HB.out hb1)
  clear D1 D3 hb1
  go_wp2_with fail
  go_ret
  exact ⟨a1, cap1, by simp [HL.out], hr1, by rw [HL.out]; exact hcap1, HBF.out⟩
def tabRaderL (n : Nat) (d : Int) : List Int := dftL (radL (dirRt n d) n) (dirRt (n - 1) 0)
set_option maxHeartbeats 2000000 in
theorem tab_raders (k : Int) (n : Nat) (m d : Int) (w : World) (h : hasSz n = true) (hd : d = 0 ∨ d = 1) (hq : IsFq n) :
    Calls Try.prog 41 #[.agg #[.int .i64 k, .int .i64 n, .int .i64 m, .int .i64 d]] w (GivesRow .u64 (tabRaderL n d) w) := by
  have hbq := fq_bd hq
  obtain ⟨lg, hlg1, hlg2, hlg⟩ := fq_log hq
  have C0 : Hid (∀ W, Calls Try.prog 39 #[.agg #[.int .i64 k, .int .i64 n, .int .i64 m, .int .i64 d]] W (GivesRow .u64 (powL (dirRt n d) n) W)) := fun W => tab_powers k n m d W h hd
  have C1 : Hid (∀ W, Calls Try.prog 72 #[.int .i64 n] W (GivesRowE .i64 (genL n) 0 W)) := fun W => gen_Powers W hq
  have C2 : Hid (∀ (a : Option Addr) (c : Nat) (xs : List Int) (W : World), Row .u64 W a xs → xs.length = n - 1 → Calls Try.prog 73 #[.slice a (n - 1 : Nat) c, .int .i64 0] W (GivesRowE .u64 (dftL xs (dirRt (n - 1) 0)) 0 W)) := fun a c xs W hx hl => do_ok a (n - 1) lg c 0 xs W hx hl (Or.inl rfl) (by omega) hlg
  have HG : Hid (∀ i, gp n i < n) := fun i => gp_lt n i (by omega)
  have HRL : Hid ((tabRaderL n d).length = n - 1) := by unfold Hid tabRaderL; rw [dftL_len, radL_len]
  have HPL : Hid ((powL (dirRt n d) n).length = n) := powL_len _ _
  have HGL : Hid ((genL n).length = n - 1) := genL_len _
  have HRD : Hid (dftL (radL (dirRt n d) n) (dirRt (n - 1) 0) = tabRaderL n d) := rfl
  obtain ⟨z, hz⟩ : ∃ z, dirRt n d = z := ⟨_, rfl⟩
  obtain ⟨q1, hq1⟩ : ∃ q1, n - 1 = q1 := ⟨_, rfl⟩
  obtain ⟨RL, hRL⟩ : ∃ L, tabRaderL n d = L := ⟨_, rfl⟩
  rw [hz, hq1] at HRD
  rw [hz] at C0 HPL
  rw [hq1] at C2 HGL HRL
  rw [hRL] at HRD HRL ⊢
  have HQ1 := Lib.hid hq1
  have hq2 : 2 ≤ q1 ∧ q1 ≤ 65536 := by omega
  clear h hd hq hlg hz hq1 hRL
  obtain ⟨i0, hi, hz0, hz1, hz2⟩ := info_parts info_u64
  obtain ⟨W0, hW0, hb0, x0⟩ := box_any w #[.int .i64 k, .int .i64 n, .int .i64 m, .int .i64 d] 71
  have HW0 := Lib.hid hW0
  have HB := Lib.hid hb0
  have X0 := Lib.hid x0
  have D0 : W0.cell? ⟨w.heap.size, 0, none⟩ = some (.int .i64 k) := block_cell x0 0
  have D1 : W0.cell? ⟨w.heap.size, 1, none⟩ = some (.int .i64 n) := block_cell x0 1
  have D2 : W0.cell? ⟨w.heap.size, 2, none⟩ = some (.int .i64 m) := block_cell x0 2
  have D3 : W0.cell? ⟨w.heap.size, 3, none⟩ = some (.int .i64 d) := block_cell x0 3
  clear hW0 hb0 x0
  go_enter Try.func41, Try.ntmps41
  go_wp2_with fail
  rw [HW0.out]
  go_wp2_with fail
  refine (C0.out _).mono ?_; rintro e w1 ⟨a1, cap1, rfl, hr1, hcap1, hb1⟩
  clear D0 D1 D2 D3
  have D1 : w1.cell? ⟨w.heap.size, 1, none⟩ = some (.int .i64 n) := (hb1.cell (p := ⟨w.heap.size, 1, none⟩) (block_lt X0.out)).trans (block_cell X0.out 1)
  simp only [HPL.out] at hcap1 ⊢
  go_wp2_with fail
  refine (C1.out _).mono ?_; rintro e w2 ⟨a2, cap2, rfl, hr2, hcap2, hb2⟩
  simp only [HGL.out] at hcap2 ⊢
  have hb12 := chain hb1 hb2
  have HR1 := Lib.hid (hr1.below hb2)
  have HR2 := Lib.hid hr2
  have HB2 := Lib.hid (chain HB.out hb12)
  clear hr1 hr2 hb1 hb2 hb12 D1 hcap1 hcap2
  go_wp2_with (at_make; refine wpList_make_full _ rfl _ _ 25 rfl w2.heap.size 34 i0 (.int .u64 0) 1 Try.underlying25 hi hz0 hz1 .i64 .i64 q1 q1 q1 rfl rfl rfl rfl (by rw [hz2]; omega) (by unfold maxLen; omega) (Nat.le_refl _) ?_)
  intro w3 hown0 hgrow0
  have hown := Own.made hown0 hgrow0
  clear hown0 hgrow0
  go_wp2_with fail
  have HRV : Hid (∀ i, i < q1 → revAt q1 (revAt q1 i) = i) := fun i hi => by
    unfold revAt
    by_cases h0 : i = 0
    · subst h0; simp
    · rw [Nat.mod_eq_of_lt (show q1 - i < q1 by omega), show q1 - (q1 - i) = i by omega, Nat.mod_eq_of_lt hi]
  go_loopw [23] (fun i wr => ∃ k : Nat, k ≤ q1 ∧ i = .int .i64 k ∧ OwnAt .u64 34 w2 wr w2.heap.size q1 (fun j => if revAt q1 j < k then pw z (gp n (revAt q1 j)) else 0)) (fun i _ => q1 - (intOf i).toNat)
  case atStart => exact ⟨0, Nat.zero_le _, rfl, own_eqz hown (fun j => if_neg (by omega))⟩
  case round =>
    obtain ⟨k, hk, rfl, hown⟩ := hrel
    by_cases hlt : k < q1
    · obtain ⟨b1, o1, rfl, hc1⟩ := (HR2.out.below hown.below).at (by rw [HGL.out]; omega)
      obtain ⟨b2, o2, rfl, hc2⟩ := (HR1.out.below hown.below).at (by rw [HPL.out]; omega)
      have h1 := hc1 k (by rw [HGL.out]; exact hlt)
      rw [nth_genL n k (by rw [HQ1.out]; exact hlt)] at h1
      have hgl := HG.out k
      obtain ⟨x, hx⟩ : ∃ x, gp n k = x := ⟨_, rfl⟩
      rw [hx] at h1 hgl
      have h2 := hc2 x (by rw [HPL.out]; exact hgl)
      rw [show nth (powL z n) x = pw z x from nth_ofFn _ _ _ hgl] at h2
      have hrl := revAt_lt hlt
      have e1 := revAt_int hlt
      obtain ⟨r, hr⟩ : ∃ r, revAt q1 k = r := ⟨_, rfl⟩
      have hrr : revAt q1 r = k := by rw [← hr]; exact HRV.out k hlt
      rw [hr] at hrl e1
      have e2 : ((q1 : Int) - (k : Int)) % (q1 : Int) = (r : Int) := by rw [← e1, Int.tmod_eq_emod_of_nonneg (by omega)]
      have z1 : ((q1 : Int) == 0) = false := bno (by omega)
      have z2 : ¬ (q1 : Int) = 0 := by omega
      have z3 : ¬ q1 = 0 := by omega
      have e0 : IntKind.i64.wrap ((q1 : Int) - (k : Int)) = (q1 : Int) - (k : Int) := IntWalk.i64_in _ (by omega)
      have hcell := hown.cell r hrl
      have hfz := hown.free r
      have hpr := pw_range z x
      have hnext := hown.store r hrl (pw z x) (f' := fun j => if revAt q1 j < k + 1 then pw z (gp n (revAt q1 j)) else 0) (by show (if revAt q1 r < k + 1 then _ else _) = _; rw [hrr, if_pos (by omega), hx]) (fun j hj hjr => by
        show (if revAt q1 j < k + 1 then _ else _) = (if revAt q1 j < k then _ else _)
        have hne : revAt q1 j ≠ k := fun e => hjr (by rw [← HRV.out j hj, e, hr])
        by_cases h : revAt q1 j < k
        · rw [if_pos h, if_pos (by omega)]
        · rw [if_neg h, if_neg (by omega)])
      have HNX := Lib.hid hnext
      obtain ⟨v, hv⟩ : ∃ v : Int, (if revAt q1 r < k then pw z (gp n (revAt q1 r)) else 0) = v := ⟨_, rfl⟩
      rw [hv] at hcell
      have g1 : (0 : Int) ≤ (r : Int) := by omega
      have g2 : (r : Int) < (q1 : Int) := by omega
      have g3 : (0 : Int) ≤ (x : Int) := by omega
      have g4 : (x : Int) < (n : Int) := by omega
      obtain ⟨y, hy⟩ : ∃ y, pw z x = y := ⟨_, rfl⟩
      rw [hy] at h2 hpr HNX
      clear hc1 hc2 hx hr hrr hnext hv hown hy
      go_wp2_with fail
      go_still_tail 13, (by kernel_rfl)
      go_wp2_with fail
      go_roundw
      case rel => exact ⟨k + 1, by omega, by go_num, HNX.out.later (Below.refl _ _).drew⟩
      case measure => simp [intOf]; omega
    · have hkn : k = q1 := by omega
      have hrow := hown.row (xs := radL z n) (by rw [radL_len]; exact HQ1.out) (radL_fits z n) (fun i hi => by
        rw [nth_radL z n i (by rw [HQ1.out]; exact hi), if_pos (by have := revAt_lt hi; omega)]
        unfold radAt revAt; rw [HQ1.out]) (by omega)
      have HB3 := Lib.hid (chain HB2.out hown.below)
      have HR := Lib.hid hrow
      have HLR : Hid ((radL z n).length = q1) := (radL_len z n).trans HQ1.out
      clear hown hrow
      go_wp2_with fail
      refine (C2.out _ _ _ _ HR.out HLR.out).mono ?_; rintro e w4 ⟨a4, cap4, rfl, hr4, hcap4, hb4⟩
      rw [HRD.out] at hr4 hcap4 ⊢
      have HB4 := Lib.hid (chain HB3.out hb4)
      have HR4 := Lib.hid hr4
      have HC4 := Lib.hid hcap4
      clear hr4 hcap4 hb4
      go_wp2_with fail
      go_ret
      exact ⟨a4, cap4, rfl, HR4.out, HC4.out, HB4.out⟩
def tabBlueL (n m : Nat) (d : Int) : List Int := dftL (zeroL (rowT (dirRt n d) n (2 * n - 1)) m) (dirRt m 0)
set_option maxHeartbeats 1000000 in
theorem tab_blues (k : Int) (n m lg : Nat) (d : Int) (w : World) (h : hasSz n = true) (hd : d = 0 ∨ d = 1) (hlg : lg ≤ 24) (hm : m = 2 ^ lg) (hl : 2 * n - 1 ≤ m) :
    Calls Try.prog 42 #[.agg #[.int .i64 k, .int .i64 n, .int .i64 m, .int .i64 d]] w (GivesRow .u64 (tabBlueL n m d) w) := by
  have hms : hasSz m = true := by rw [hm]; exact hasSz_pow lg hlg
  have C0 : Hid (∀ W, Calls Try.prog 74 #[.int .i64 n, .int .i64 m, .int .i64 d] W (GivesRowE .u64 (zeroL (rowT (dirRt n d) n (2 * n - 1)) m) 0 W)) := fun W => kernel_ok n m d W h hd hms hl
  have C1 : Hid (∀ (a : Option Addr) (c : Nat) (xs : List Int) (W : World), Row .u64 W a xs → xs.length = m → Calls Try.prog 73 #[.slice a m c, .int .i64 0] W (GivesRowE .u64 (dftL xs (dirRt m 0)) 0 W)) := fun a c xs W hx hl => do_ok a m lg c 0 xs W hx hl (Or.inl rfl) (by omega) hm
  have HD : Hid (dftL (zeroL (rowT (dirRt n d) n (2 * n - 1)) m) (dirRt m 0) = tabBlueL n m d) := rfl
  have HZ : Hid ((zeroL (rowT (dirRt n d) n (2 * n - 1)) m).length = m) := zeroL_len _ _ (by rw [rowT_len]; exact hl)
  have HL : Hid ((tabBlueL n m d).length = m) := by unfold Hid; rw [← HD.out, dftL_len]; exact HZ.out
  obtain ⟨K, hK⟩ : ∃ K, zeroL (rowT (dirRt n d) n (2 * n - 1)) m = K := ⟨_, rfl⟩
  rw [hK] at C0 HD HZ
  clear h hd hm hms hK
  obtain ⟨W0, hW0, hb0, x0⟩ := box_any w #[.int .i64 k, .int .i64 n, .int .i64 m, .int .i64 d] 71
  have HW0 := Lib.hid hW0
  have HB := Lib.hid hb0
  have D1 : W0.cell? ⟨w.heap.size, 1, none⟩ = some (.int .i64 n) := block_cell x0 1
  have D2 : W0.cell? ⟨w.heap.size, 2, none⟩ = some (.int .i64 m) := block_cell x0 2
  have D3 : W0.cell? ⟨w.heap.size, 3, none⟩ = some (.int .i64 d) := block_cell x0 3
  clear hW0 hb0 x0
  go_enter Try.func42, Try.ntmps42
  go_wp2_with fail
  rw [HW0.out]
  refine (C0.out _).mono ?_; rintro e w1 ⟨a1, cap1, rfl, hr1, hcap1, hb1⟩
  rw [HZ.out]
  clear D1 D2 D3
  go_wp2_with fail
  refine (C1.out _ _ _ _ hr1 HZ.out).mono ?_; rintro e w4 ⟨a4, cap4, rfl, hr4, hcap4, hb4⟩
  rw [HD.out] at hr4 hcap4 ⊢
  have HB4 := Lib.hid (chain (chain HB.out hb1) hb4)
  have HR4 := Lib.hid hr4
  have HC4 := Lib.hid hcap4
  clear hr4 hcap4 hb4
  go_wp2_with fail
  go_ret
  exact ⟨a4, cap4, rfl, HR4.out, HC4.out, HB4.out⟩
end Go.Proofs.Ytcckfeikaolfgaa

namespace Go.Proofs.Ytcckfeikaolfgaa
open Go.RowKit Sm
set_option linter.unusedVariables false
set_option linter.unusedSimpArgs false
set_option maxRecDepth 100000
theorem rt_two : rt 2 = 18446744069414584320 := by
  have hs : hasSz ((2 : Nat) : Int) = true := by decide
  have hr := isRoot_rt 2 hs
  have h1 : Eqm ((rt 2 - 1) * (rt 2 + 1)) 0 := by
    have h2 := hr.one.sub (rfl' 1)
    have e : rt 2 ^ 2 - 1 = (rt 2 - 1) * (rt 2 + 1) := by
      rw [Int.sub_mul, Int.mul_add, Int.one_mul, Int.mul_one, Int.pow_succ, Int.pow_succ, Int.pow_zero, Int.one_mul]; omega
    rw [e, Int.sub_self] at h2
    exact h2
  have h3 : ¬ Eqm (rt 2 - 1) 0 := by
    intro h
    have h4 := h.add (rfl' 1)
    rw [Int.sub_add_cancel, Int.zero_add] at h4
    exact hr.least 1 (by omega) (by omega) (by rw [Int.pow_succ, Int.pow_zero, Int.one_mul]; exact h4)
  have h5 := strike' _ _ h3 h1
  have b := rt_range 2
  generalize rt 2 = r at *
  unfold Eqm at h5
  omega
end Go.Proofs.Ytcckfeikaolfgaa

namespace Go.Proofs.Ytcckfeikaolfgaa
open Go.RowKit
set_option linter.unusedVariables false
set_option linter.unusedSimpArgs false
set_option maxRecDepth 100000
def tblL (k : Int) (n m : Nat) (d : Int) : List Int :=
  if k = 1 then powL (dirRt n d) n else if k = 2 then rowT (dirRt n (1 - d)) n n else if k = 3 then tabRaderL n d else tabBlueL n m d
theorem tab1 (n m : Nat) (d : Int) : tblL 1 n m d = powL (dirRt n d) n := rfl
theorem tab2 (n m : Nat) (d : Int) : tblL 2 n m d = rowT (dirRt n (1 - d)) n n := rfl
theorem tab3 (n m : Nat) (d : Int) : tblL 3 n m d = tabRaderL n d := rfl
theorem tab4 (n m : Nat) (d : Int) : tblL 4 n m d = tabBlueL n m d := rfl
/-- Reduced. -/
def RedL (xs : List Int) : Prop := ∀ x ∈ xs, 0 ≤ x ∧ x < 18446744069414584321
theorem red_id {xs : List Int} (h : RedL xs) : xs.map (· % 18446744069414584321) = xs := by
  have : ∀ x ∈ xs, (x % 18446744069414584321) = id x := fun x hx => by have := h x hx; exact Int.emod_eq_of_lt this.1 this.2
  rw [List.map_congr_left this, List.map_id]
theorem red_pow (z : Int) (n : Nat) : RedL (powL z n) := by
  intro x hx; obtain ⟨i, _, rfl⟩ := List.mem_map.1 hx; exact pw_range z i
theorem red_rowT (z : Int) (n m : Nat) : RedL (rowT z n m) := by
  intro x hx; obtain ⟨i, _, rfl⟩ := List.mem_map.1 hx; exact pw_range z _
theorem red_dft (xs : List Int) (z : Int) : RedL (dftL xs z) := by
  intro x hx; obtain ⟨i, _, rfl⟩ := List.mem_map.1 hx; exact pt_range xs _
theorem red_tab (k : Int) (n m : Nat) (d : Int) : RedL (tblL k n m d) := by
  unfold tblL
  split
  · exact red_pow _ _
  · split
    · exact red_rowT _ _ _
    · split
      · exact red_dft _ _
      · exact red_dft _ _
/-- What a right name is. -/
theorem right_cases {k n m d : Int} (h : rightB (k, n, m, d) = true) : ∃ N : Nat, n = N ∧ hasSz (N : Int) = true ∧ (d = 0 ∨ d = 1) ∧
    ((k = 1 ∧ m = 0) ∨ (k = 2 ∧ m = 0) ∨ (k = 3 ∧ m = 0 ∧ IsFq N) ∨ (k = 4 ∧ ∃ M lg : Nat, m = M ∧ 2 ≤ N ∧ lg ≤ 24 ∧ M = 2 ^ lg ∧ 2 * N - 1 ≤ M)) := by
  simp only [rightB, Bool.and_eq_true, decide_eq_true_eq] at h
  obtain ⟨⟨h1, h2⟩, h3⟩ := h
  have hb := hasSz_iff.1 h1
  obtain ⟨N, rfl⟩ := Int.eq_ofNat_of_zero_le (show 0 ≤ n by omega)
  refine ⟨N, rfl, h1, h2, ?_⟩
  by_cases k1 : k = 1 ∨ k = 2
  · rw [if_pos k1] at h3
    have := of_decide_eq_true h3
    rcases k1 with k1 | k1
    · exact Or.inl ⟨k1, this⟩
    · exact Or.inr (Or.inl ⟨k1, this⟩)
  · rw [if_neg k1] at h3
    by_cases k3 : k = 3
    · rw [if_pos k3] at h3
      simp only [Bool.and_eq_true, decide_eq_true_eq] at h3
      exact Or.inr (Or.inr (Or.inl ⟨k3, h3.1.1, fq_of h1 h3.2 (by omega)⟩))
    · rw [if_neg k3] at h3
      by_cases k4 : k = 4
      · rw [if_pos k4] at h3
        simp only [Bool.and_eq_true, decide_eq_true_eq] at h3
        obtain ⟨lg, hlg, he⟩ := (hasP2_iff _).1 h3.2
        exact Or.inr (Or.inr (Or.inr ⟨k4, 2 ^ lg, lg, he, by omega, hlg, rfl, by omega⟩))
      · rw [if_neg k4] at h3; cases h3
theorem room_right {k n m d : Int} (h : rightB (k, n, m, d) = true) (N M : Nat) (hn : n = N) (hm : m = M) : roomN (k, n, m, d) = ((tblL k N M d).length : Nat) ∧ (tblL k N M d).length ≤ 16777216 := by
  obtain ⟨N', hN, hs, hd, hc⟩ := right_cases h
  have hb := hasSz_iff.1 hs
  have : N' = N := by omega
  subst this
  unfold roomN
  rw [if_neg (by rw [h]; simp)]
  simp only
  rcases hc with ⟨rfl, _⟩ | ⟨rfl, _⟩ | ⟨rfl, _, hq⟩ | ⟨rfl, M', lg, hM, h2, hlg, he, hle⟩
  · rw [if_neg (by omega), if_neg (by omega), tab1, powL_len]; exact ⟨hN, by omega⟩
  · rw [if_neg (by omega), if_neg (by omega), tab2, rowT_len]; exact ⟨hN, by omega⟩
  · have := fq_bd hq
    rw [if_pos rfl, tab3, tabRaderL, dftL_len, radL_len]; omega
  · have hMM : M' = M := by omega
    subst hMM
    have := (hasSz_iff.1 (hasSz_pow lg hlg)).2.1
    rw [← he] at this
    rw [if_neg (by omega), if_pos rfl, tab4, tabBlueL, dftL_len, zeroL_len _ _ (by rw [rowT_len]; exact hle)]
    omega
set_option maxHeartbeats 1000000 in
theorem table_made (k n m d : Int) (xs : List Int) (L : Nat) (w : World) (hx : NmOk (k, n, m, d)) (h : rightB (k, n, m, d) = true) (hl : xs.length = L) (hl2 : L ≤ 16777216) (hr : RedL xs)
    (hc : ∀ W, Calls Try.prog (if k = 2 then 40 else if k = 3 then 41 else if k = 4 then 42 else 39) #[.agg #[.int .i64 k, .int .i64 n, .int .i64 m, .int .i64 d]] W (GivesRow .u64 xs W)) (hk : k = 1 ∨ k = 2 ∨ k = 3 ∨ k = 4) :
    Calls Try.prog 10 #[.agg #[.int .i64 k, .int .i64 n, .int .i64 m, .int .i64 d]] w (GivesRowE .u64 xs 0 w) := by
  have C0 : Hid (∀ W, Calls Try.prog 38 #[.agg #[.int .i64 k, .int .i64 n, .int .i64 m, .int .i64 d]] W fun e w' => e = .returned (.bool true) ∧ Below W.heap.size W w') := fun W => by rw [← h]; exact need_Right k n m d W hx
  have C2 : Hid (∀ (a : Option Addr) (c : Nat) (W : World), Row .u64 W a xs → Calls Try.prog 43 #[.slice a L c] W (GivesRow .u64 xs W)) := fun a c W hr' => by
    have := vec_RedN2 a L c xs W hr' hl hl2
    rwa [red_id hr] at this
  have HL := Lib.hid hl
  clear h hx hr hl
  obtain ⟨W0, hW0, hb0, x0⟩ := box_any w #[.int .i64 k, .int .i64 n, .int .i64 m, .int .i64 d] 23
  have HW0 := Lib.hid hW0
  have HB := Lib.hid hb0
  have X0 := Lib.hid x0
  have D0 : W0.cell? ⟨w.heap.size, 0, none⟩ = some (.int .i64 k) := block_cell x0 0
  have D1 : W0.cell? ⟨w.heap.size, 1, none⟩ = some (.int .i64 n) := block_cell x0 1
  have D2 : W0.cell? ⟨w.heap.size, 2, none⟩ = some (.int .i64 m) := block_cell x0 2
  have D3 : W0.cell? ⟨w.heap.size, 3, none⟩ = some (.int .i64 d) := block_cell x0 3
  clear hW0 hb0 x0
  rcases hk with rfl | rfl | rfl | rfl
  · have C1 : Hid (∀ W, Calls Try.prog 39 #[.agg #[.int .i64 1, .int .i64 n, .int .i64 m, .int .i64 d]] W (GivesRow .u64 xs W)) := hc
    clear hc
    go_enter Try.func10, Try.ntmps10
    go_wp2_with fail
    rw [HW0.out]
    refine (C0.out _).mono ?_; rintro e w1 ⟨rfl, hb1⟩
    have HB1 := Lib.hid (chain HB.out hb1)
    clear D0 D1 D2 D3
    have X1 := Lib.hid ((hb1.block _ (block_lt X0.out)).trans X0.out)
    have D0 : w1.cell? ⟨w.heap.size, 0, none⟩ = some (.int .i64 1) := block_cell X1.out 0
    have D1 : w1.cell? ⟨w.heap.size, 1, none⟩ = some (.int .i64 n) := block_cell X1.out 1
    have D2 : w1.cell? ⟨w.heap.size, 2, none⟩ = some (.int .i64 m) := block_cell X1.out 2
    have D3 : w1.cell? ⟨w.heap.size, 3, none⟩ = some (.int .i64 d) := block_cell X1.out 3
    obtain ⟨W2, hW2, hb2, x2⟩ := box_any w1 #[.int .i64 1, .int .i64 n, .int .i64 m, .int .i64 d] 71
    have E0 : (w1.alloc (.cells #[.int .i64 1, .int .i64 n, .int .i64 m, .int .i64 d] 71)).cell? ⟨w.heap.size, 0, none⟩ = some (.int .i64 1) := (cell_past _ _ _ (block_lt X1.out)).trans D0
    have HW2 := Lib.hid hW2
    have HB2 := Lib.hid (chain HB1.out hb2)
    clear hb1 hW2 hb2 x2
    go_wp2_with fail
    rw [HW2.out]
    refine (C1.out _).mono ?_; rintro e w3 ⟨a3, cap3, rfl, hr3, hcap3, hb3⟩
    simp only [HL.out] at hcap3 ⊢
    have HB3 := Lib.hid (chain HB2.out hb3)
    have HR3 := Lib.hid hr3
    clear D0 D1 D2 D3 E0 hr3 hcap3 hb3
    go_wp2_with fail
    refine (C2.out _ _ _ HR3.out).mono ?_; rintro e w4 ⟨a4, cap4, rfl, hr4, hcap4, hb4⟩
    simp only [HL.out] at hcap4 ⊢
    have HB4 := Lib.hid (chain HB3.out hb4)
    have HR4 := Lib.hid hr4
    clear hr4 hb4
    go_wp2_with fail
    go_ret2
    exact ⟨a4, cap4, by simp [HL.out], HR4.out, by rw [HL.out]; exact hcap4, HB4.out⟩
  · have C1 : Hid (∀ W, Calls Try.prog 40 #[.agg #[.int .i64 2, .int .i64 n, .int .i64 m, .int .i64 d]] W (GivesRow .u64 xs W)) := hc
    clear hc
    go_enter Try.func10, Try.ntmps10
    go_wp2_with fail
    rw [HW0.out]
    refine (C0.out _).mono ?_; rintro e w1 ⟨rfl, hb1⟩
    have HB1 := Lib.hid (chain HB.out hb1)
    clear D0 D1 D2 D3
    have X1 := Lib.hid ((hb1.block _ (block_lt X0.out)).trans X0.out)
    have D0 : w1.cell? ⟨w.heap.size, 0, none⟩ = some (.int .i64 2) := block_cell X1.out 0
    have D1 : w1.cell? ⟨w.heap.size, 1, none⟩ = some (.int .i64 n) := block_cell X1.out 1
    have D2 : w1.cell? ⟨w.heap.size, 2, none⟩ = some (.int .i64 m) := block_cell X1.out 2
    have D3 : w1.cell? ⟨w.heap.size, 3, none⟩ = some (.int .i64 d) := block_cell X1.out 3
    obtain ⟨W2, hW2, hb2, x2⟩ := box_any w1 #[.int .i64 2, .int .i64 n, .int .i64 m, .int .i64 d] 71
    have E0 : (w1.alloc (.cells #[.int .i64 2, .int .i64 n, .int .i64 m, .int .i64 d] 71)).cell? ⟨w.heap.size, 0, none⟩ = some (.int .i64 2) := (cell_past _ _ _ (block_lt X1.out)).trans D0
    have HW2 := Lib.hid hW2
    have HB2 := Lib.hid (chain HB1.out hb2)
    clear hb1 hW2 hb2 x2
    go_wp2_with fail
    rw [HW2.out]
    refine (C1.out _).mono ?_; rintro e w3 ⟨a3, cap3, rfl, hr3, hcap3, hb3⟩
    simp only [HL.out] at hcap3 ⊢
    have HB3 := Lib.hid (chain HB2.out hb3)
    have HR3 := Lib.hid hr3
    clear D0 D1 D2 D3 E0 hr3 hcap3 hb3
    go_wp2_with fail
    refine (C2.out _ _ _ HR3.out).mono ?_; rintro e w4 ⟨a4, cap4, rfl, hr4, hcap4, hb4⟩
    simp only [HL.out] at hcap4 ⊢
    have HB4 := Lib.hid (chain HB3.out hb4)
    have HR4 := Lib.hid hr4
    clear hr4 hb4
    go_wp2_with fail
    go_ret2
    exact ⟨a4, cap4, by simp [HL.out], HR4.out, by rw [HL.out]; exact hcap4, HB4.out⟩
  · have C1 : Hid (∀ W, Calls Try.prog 41 #[.agg #[.int .i64 3, .int .i64 n, .int .i64 m, .int .i64 d]] W (GivesRow .u64 xs W)) := hc
    clear hc
    go_enter Try.func10, Try.ntmps10
    go_wp2_with fail
    rw [HW0.out]
    refine (C0.out _).mono ?_; rintro e w1 ⟨rfl, hb1⟩
    have HB1 := Lib.hid (chain HB.out hb1)
    clear D0 D1 D2 D3
    have X1 := Lib.hid ((hb1.block _ (block_lt X0.out)).trans X0.out)
    have D0 : w1.cell? ⟨w.heap.size, 0, none⟩ = some (.int .i64 3) := block_cell X1.out 0
    have D1 : w1.cell? ⟨w.heap.size, 1, none⟩ = some (.int .i64 n) := block_cell X1.out 1
    have D2 : w1.cell? ⟨w.heap.size, 2, none⟩ = some (.int .i64 m) := block_cell X1.out 2
    have D3 : w1.cell? ⟨w.heap.size, 3, none⟩ = some (.int .i64 d) := block_cell X1.out 3
    obtain ⟨W2, hW2, hb2, x2⟩ := box_any w1 #[.int .i64 3, .int .i64 n, .int .i64 m, .int .i64 d] 71
    have E0 : (w1.alloc (.cells #[.int .i64 3, .int .i64 n, .int .i64 m, .int .i64 d] 71)).cell? ⟨w.heap.size, 0, none⟩ = some (.int .i64 3) := (cell_past _ _ _ (block_lt X1.out)).trans D0
    have HW2 := Lib.hid hW2
    have HB2 := Lib.hid (chain HB1.out hb2)
    clear hb1 hW2 hb2 x2
    go_wp2_with fail
    rw [HW2.out]
    refine (C1.out _).mono ?_; rintro e w3 ⟨a3, cap3, rfl, hr3, hcap3, hb3⟩
    simp only [HL.out] at hcap3 ⊢
    have HB3 := Lib.hid (chain HB2.out hb3)
    have HR3 := Lib.hid hr3
    clear D0 D1 D2 D3 E0 hr3 hcap3 hb3
    go_wp2_with fail
    refine (C2.out _ _ _ HR3.out).mono ?_; rintro e w4 ⟨a4, cap4, rfl, hr4, hcap4, hb4⟩
    simp only [HL.out] at hcap4 ⊢
    have HB4 := Lib.hid (chain HB3.out hb4)
    have HR4 := Lib.hid hr4
    clear hr4 hb4
    go_wp2_with fail
    go_ret2
    exact ⟨a4, cap4, by simp [HL.out], HR4.out, by rw [HL.out]; exact hcap4, HB4.out⟩
  · have C1 : Hid (∀ W, Calls Try.prog 42 #[.agg #[.int .i64 4, .int .i64 n, .int .i64 m, .int .i64 d]] W (GivesRow .u64 xs W)) := hc
    clear hc
    go_enter Try.func10, Try.ntmps10
    go_wp2_with fail
    rw [HW0.out]
    refine (C0.out _).mono ?_; rintro e w1 ⟨rfl, hb1⟩
    have HB1 := Lib.hid (chain HB.out hb1)
    clear D0 D1 D2 D3
    have X1 := Lib.hid ((hb1.block _ (block_lt X0.out)).trans X0.out)
    have D0 : w1.cell? ⟨w.heap.size, 0, none⟩ = some (.int .i64 4) := block_cell X1.out 0
    have D1 : w1.cell? ⟨w.heap.size, 1, none⟩ = some (.int .i64 n) := block_cell X1.out 1
    have D2 : w1.cell? ⟨w.heap.size, 2, none⟩ = some (.int .i64 m) := block_cell X1.out 2
    have D3 : w1.cell? ⟨w.heap.size, 3, none⟩ = some (.int .i64 d) := block_cell X1.out 3
    obtain ⟨W2, hW2, hb2, x2⟩ := box_any w1 #[.int .i64 4, .int .i64 n, .int .i64 m, .int .i64 d] 71
    have E0 : (w1.alloc (.cells #[.int .i64 4, .int .i64 n, .int .i64 m, .int .i64 d] 71)).cell? ⟨w.heap.size, 0, none⟩ = some (.int .i64 4) := (cell_past _ _ _ (block_lt X1.out)).trans D0
    have HW2 := Lib.hid hW2
    have HB2 := Lib.hid (chain HB1.out hb2)
    clear hb1 hW2 hb2 x2
    go_wp2_with fail
    rw [HW2.out]
    refine (C1.out _).mono ?_; rintro e w3 ⟨a3, cap3, rfl, hr3, hcap3, hb3⟩
    simp only [HL.out] at hcap3 ⊢
    have HB3 := Lib.hid (chain HB2.out hb3)
    have HR3 := Lib.hid hr3
    clear D0 D1 D2 D3 E0 hr3 hcap3 hb3
    go_wp2_with fail
    refine (C2.out _ _ _ HR3.out).mono ?_; rintro e w4 ⟨a4, cap4, rfl, hr4, hcap4, hb4⟩
    simp only [HL.out] at hcap4 ⊢
    have HB4 := Lib.hid (chain HB3.out hb4)
    have HR4 := Lib.hid hr4
    clear hr4 hb4
    go_wp2_with fail
    go_ret2
    exact ⟨a4, cap4, by simp [HL.out], HR4.out, by rw [HL.out]; exact hcap4, HB4.out⟩
theorem table_Make (k n m d : Int) (N M : Nat) (w : World) (hx : NmOk (k, n, m, d)) (h : rightB (k, n, m, d) = true) (hn : n = N) (hm : m = M) :
    Calls Try.prog 10 #[.agg #[.int .i64 k, .int .i64 n, .int .i64 m, .int .i64 d]] w (GivesRowE .u64 (tblL k N M d) 0 w) := by
  have hl := (room_right h N M hn hm).2
  obtain ⟨N', hN, hs, hd, hc⟩ := right_cases h
  have : N' = N := by omega
  subst this
  subst hn
  refine table_made k N' m d _ _ w hx h rfl hl (red_tab _ _ _ _) ?_ (by rcases hc with ⟨h, _⟩ | ⟨h, _⟩ | ⟨h, _⟩ | ⟨h, _⟩ <;> omega)
  intro W
  rcases hc with ⟨rfl, _⟩ | ⟨rfl, _⟩ | ⟨rfl, _, hq⟩ | ⟨rfl, M', lg, hM, h2, hlg, he, hle⟩
  · exact tab_powers 1 N' m d W hs hd
  · exact tab_chirps 2 N' m d _ W hs hd rfl
  · exact tab_raders 3 N' m d W hs hd hq
  · have hMM : M' = M := by omega
    subst hMM
    rw [hm]
    exact tab_blues 4 N' M' lg d W hs hd hlg he hle
theorem name2 : rightB (1, 2, 0, 0) = true := by decide
theorem live16 (w : World) : Calls Try.prog 11 #[] w fun e w' => e = .returned (.bool true) ∧ Below w.heap.size w w' := by
  have C0 : Hid (∀ W, Calls Try.prog 10 #[.agg #[.int .i64 1, .int .i64 2, .int .i64 0, .int .i64 0]] W (GivesRowE .u64 [1, 18446744069414584320] 0 W)) := fun W => by
    have := table_Make 1 2 0 0 2 0 W (by unfold NmOk; simp) name2 rfl rfl
    rwa [tab1, dirRt_zero, show powL (rt 2) 2 = [1, 18446744069414584320] by rw [rt_two]; unfold powL; simp only [List.range_succ_eq_map, List.range_zero, List.map_nil, List.map_cons]; rw [pw_0, show pw 18446744069414584320 (Nat.succ 0) = 18446744069414584320 by unfold pw; decide]] at this
  have r1 : ∀ (w : World) (n : Nat), n = w.heap.size → Row .u64 (w.alloc (.cells #[.int .u64 1, .int .u64 18446744069414584320] 34)) (some ⟨n, 0, none⟩) [1, 18446744069414584320] := fun w n hn => litRow w _ n [1, 18446744069414584320] hn (by decide) (by simp)
  have R1 := Lib.hid r1
  clear r1
  go_enter Try.func11, Try.ntmps11
  go_wp2_with fail
  refine (C0.out _).mono ?_; rintro e w1 ⟨a1, cap1, rfl, hr1, hcap1, hb1⟩
  simp only [List.length_cons, List.length_nil]
  go_wp2_with fail
  refine (ref_SameT _ _ _ _ _ _ [1, 18446744069414584320] [1, 18446744069414584320] _ (hr1.below ((Below.refl _ _).alloc (Nat.le_refl _) _)) (R1.out _ _ rfl) rfl rfl rfl).mono ?_
  rintro e w3 ⟨rfl, hb3⟩
  go_wp2_with fail
  go_ret
  exact ⟨rfl, chainA hb1 hb3⟩
end Go.Proofs.Ytcckfeikaolfgaa

namespace Go.Proofs.Ytcckfeikaolfgaa
open Go.RowKit Sm
set_option linter.unusedVariables false
set_option linter.unusedSimpArgs false
set_option maxRecDepth 100000
def zeroB (xs : List Int) : Bool := xs.all (· == 0)
theorem zeroB_no {xs : List Int} (i : Nat) (h : i < xs.length) (hx : nth xs i ≠ 0) : zeroB xs = false := by
  simp only [zeroB, List.all_eq_false]
  exact ⟨nth xs i, nth_mem h, by simpa using hx⟩
theorem zeroB_all {xs : List Int} (h : zeroB xs = true) : xs = List.replicate xs.length 0 := by
  apply List.eq_replicate_iff.2
  refine ⟨rfl, fun x hx => ?_⟩
  have := List.all_eq_true.1 h x hx
  simpa using this
theorem nth_rep (n k : Nat) : nth (List.replicate n (0 : Int)) k = 0 := by
  simp only [nth, List.getD_eq_getElem?_getD, List.getElem?_replicate]
  split <;> rfl
theorem clean1 (x : Int) (w : World) : Calls Try.prog 52 #[.int .u64 x] w fun e w' => e = .returned (.bool (x != 0)) ∧ w = w' := by
  go_enter Try.func52, Try.ntmps52
  go_wp2_with fail
  go_ret
  exact ⟨rfl, rfl⟩
/-- Where the first number that is not 0 stands. -/
def nzAt (xs : List Int) (j : Nat) : Prop := ∀ i, i < j → nth xs i = 0
set_option maxHeartbeats 1000000 in
theorem clean_idx (a : Option Addr) (n cap : Nat) (xs : List Int) (w : World) (hx : Row .u64 w a xs) (hn : xs.length = n) (hl : n ≤ 16777216) :
    Calls Try.prog 83 #[.slice a n cap, .func (.func 52) #[] #[]] w fun e w' => (∃ r : Int, e = .returned (.int .i64 r) ∧ (decide (r ≥ 0) = !zeroB xs) ∧ -1 ≤ r ∧ r ≤ 16777216) ∧ w = w' := by
  have HX := Lib.hid hx
  have HN := Lib.hid hn
  clear hx hn
  go_enter Try.func83, Try.ntmps83
  go_wp2_with fail
  go_loopw [8] (fun i wr => ∃ j : Nat, j ≤ n ∧ i = .int .i64 j ∧ Hid (nzAt xs j) ∧ Hid (w = wr)) (fun i _ => n - (intOf i).toNat)
  case atStart => exact ⟨0, Nat.zero_le _, rfl, fun i hi => absurd hi (by omega), rfl⟩
  case round =>
    obtain ⟨j, hj, rfl, HZ, HW⟩ := hrel
    obtain rfl := HW.out
    by_cases hlt : j < n
    · obtain ⟨b, o, rfl, hc⟩ := HX.out.at (by rw [HN.out]; omega)
      have h1 := hc j (by rw [HN.out]; exact hlt)
      have hmem := nth_mem (show j < xs.length by rw [HN.out]; exact hlt)
      have HM := Lib.hid hmem
      obtain ⟨x, hx⟩ : ∃ x, nth xs j = x := ⟨_, rfl⟩
      rw [hx] at h1
      have HXJ := Lib.hid hx
      have C1 : Hid (∀ W, Calls Try.prog 52 #[.int .u64 x] W fun e w' => e = .returned (.bool (x != 0)) ∧ W = w') := fun W => clean1 x W
      have g1 : (0 : Int) ≤ (j : Int) := by omega
      have g2 : (j : Int) < (n : Int) := by omega
      clear hc hx hmem
      by_cases hx0 : x = 0
      · have HN2 : Hid (nzAt xs (j + 1)) := fun i hi => by
          by_cases h : i = j
          · rw [h, HXJ.out]; exact hx0
          · exact HZ.out i (by omega)
        subst hx0
        go_wp2_with fail
        refine (C1.out _).mono ?_; rintro e w' ⟨rfl, rfl⟩
        go_wp2_with fail
        go_roundw
        case rel => exact ⟨j + 1, by omega, by go_num, HN2.out, (by first | exact rfl | exact trivial)⟩
        case measure => simp [intOf]; omega
      · have hb : (x != 0) = true := bdiff hx0
        rw [hb] at C1
        have HZB : Hid (zeroB xs = false) := zeroB_no j (by rw [HN.out]; exact hlt) (by rw [HXJ.out]; exact hx0)
        clear hx0 hb
        go_wp2_with fail
        refine (C1.out _).mono ?_; rintro e w' ⟨rfl, rfl⟩
        go_wp2_with fail
        go_ret
        exact ⟨⟨(j : Int), rfl, by rw [HZB.out]; simp, by omega, by omega⟩, rfl⟩
    · have hjn : j = n := by omega
      have HZB : Hid (zeroB xs = true) := by
        unfold Hid zeroB
        rw [List.all_eq_true]
        intro x hx
        obtain ⟨i, hi, rfl⟩ := List.getElem_of_mem hx
        have := HZ.out i (by rw [← HN.out] at hjn; omega)
        simp only [nth, List.getD_eq_getElem?_getD, List.getElem?_eq_getElem hi, Option.getD_some] at this
        simpa using this
      clear hjn
      go_wp2_with fail
      go_ret
      exact ⟨⟨-1, rfl, by rw [HZB.out]; rfl, by omega, by omega⟩, rfl⟩
theorem table_Clean (a : Option Addr) (n cap : Nat) (xs : List Int) (w : World) (hx : Row .u64 w a xs) (hn : xs.length = n) (hl : n ≤ 16777216) :
    Calls Try.prog 15 #[.slice a n cap] w fun e w' => e = .returned (.bool (zeroB xs)) ∧ w = w' := by
  have C0 : Hid (∀ W, w = W → Calls Try.prog 83 #[.slice a n cap, .func (.func 52) #[] #[]] W fun e w' => (∃ r : Int, e = .returned (.int .i64 r) ∧ (decide (r ≥ 0) = !zeroB xs) ∧ -1 ≤ r ∧ r ≤ 16777216) ∧ W = w') := fun W h => h ▸ clean_idx a n cap xs w hx hn hl
  have C1 : Hid (Calls Try.prog 51 #[.slice a n cap, .func (.func 52) #[] #[]] w fun e w' => e = .returned (.bool (!zeroB xs)) ∧ w = w') := by
    unfold Hid
    clear hx hn hl
    go_enter Try.func51, Try.ntmps51
    go_wp2_with fail
    refine (C0.out _ rfl).mono ?_; rintro e w' ⟨⟨r, rfl, hr, hr1, hr2⟩, rfl⟩
    have HR := Lib.hid hr
    clear hr
    go_wp2_with fail
    go_ret
    exact ⟨ret_bool HR.out, rfl⟩
  clear hx hn hl C0
  go_enter Try.func15, Try.ntmps15
  go_wp2_with fail
  refine C1.out.mono ?_; rintro e w' ⟨rfl, rfl⟩
  go_wp2_with fail
  go_ret
  exact ⟨ret_bool (by simp), rfl⟩
theorem scale_zero (xs : List Int) : scaleL xs 0 = List.replicate xs.length 0 := by
  apply ext_nth (by rw [scaleL_len]; simp)
  intro i hi
  rw [scaleL_len] at hi
  rw [nth_scaleL _ _ _ hi, nth_rep, Int.mul_zero]; rfl
theorem table_Clear (a : Option Addr) (n cap : Nat) (xs : List Int) (w : World) (hx : Row .u64 w a xs) (hn : xs.length = n) (hl : n ≤ 16777216) :
    Calls Try.prog 16 #[.slice a n cap] w (GivesRow .u64 (List.replicate n 0) w) := by
  have C0 : Hid (∀ W, Calls Try.prog 54 #[.int .u64 0] W fun e w' => e = .returned (.int .u64 0) ∧ W = w') := fun W => gold_Red 0 W (by omega) (by omega)
  have C1 : Hid (Calls Try.prog 53 #[.slice a n cap, .int .u64 0] w (GivesRow .u64 (List.replicate n 0) w)) := by
    have := vec_ScaleN a n cap xs 0 w hx hn (by omega) (by omega) (by omega)
    rwa [scale_zero, hn] at this
  clear hx hn hl
  go_enter Try.func16, Try.ntmps16
  go_wp2_with fail
  refine (C0.out _).mono ?_; rintro e w' ⟨rfl, rfl⟩
  go_wp2_with fail
  refine C1.out.mono ?_; rintro e w1 ⟨a1, cap1, rfl, hr1, hcap1, hb1⟩
  simp only [List.length_replicate] at hcap1 ⊢
  have HR := Lib.hid hr1
  clear hr1
  go_wp2_with fail
  go_ret
  exact ⟨a1, cap1, by simp, HR.out, by simpa using hcap1, hb1⟩
end Go.Proofs.Ytcckfeikaolfgaa

namespace Go.Proofs.Ytcckfeikaolfgaa
open Go.RowKit
set_option linter.unusedVariables false
set_option linter.unusedSimpArgs false
set_option maxRecDepth 100000
/-- May there be a table of such sides? -/
def Sides (a b : Int) : Prop := 1 ≤ a ∧ a ≤ 16777216 ∧ 1 ≤ b ∧ b ≤ 16777216 ∧ a * b ≤ 16777216
instance (a b : Int) : Decidable (Sides a b) := by unfold Sides; infer_instance
end Go.Proofs.Ytcckfeikaolfgaa

namespace Go.Proofs.Ytcckfeikaolfgaa
open Go.RowKit Sm
set_option linter.unusedVariables false
set_option linter.unusedSimpArgs false
set_option maxRecDepth 100000
theorem wpList_make_fullG {P : Program} (w : World) {ops : Array Oper} {rest : List Oper} {o : Oper} {a : Act} {Q : Exit → Act → World → Prop}
    (hgd : Region.wanted o (yielded ops a.tmps) = true) (l c : Operand) (t : TypeId) (hop : o.op = Op.makeSlice t l c)
    (base : Nat) (e : TypeId) (i : TypeInfo) (z : Value) (size : Nat) (h1 : P.underlying t = some (.slice e)) (h2 : P.info? e = some i) (h3 : i.zero = some z) (h4 : i.size = size)
    (kl kc : IntKind) (L C : Int) (n : Nat) (hl : a.eval l = .int kl L) (hc : a.eval c = .int kc C) (hL : L = (n : Int)) (hC : C = (n : Int)) (b2 : i.bytes * n ≤ 281474976710656) (b3 : n ≤ maxLen) (b4 : base ≤ w.heap.size)
    (hK : ∀ w', w'.ownsRow base e size (.slice (some ⟨w.heap.size, 0, none⟩) n n) n (madeCells z.cells (n * size)).toList → w.grownBy w' none → wpList P ops Q rest (a.put o.dst (.slice (some ⟨w.heap.size, 0, none⟩) n n)) w') :
    wpList P ops Q (o :: rest) a w := by
  refine BigFrame.wpList_want hgd fun K hK' => ?_
  obtain ⟨w', hrun, r1, r2⟩ := run_make_full (P := P) w base t e i z size h1 h2 h3 h4 kl kc n b2 b3 b4
  subst hL
  subst hC
  unfold Oper.wp
  simp [execOp, hop, hl, hc, hrun, Result.andThen]
  exact hK' _ _ (hK w' r1 r2)
/-- How many of the first j numbers are 0. -/
def cnt0 (xs : List Int) : Nat → Nat
  | 0 => 0
  | j + 1 => cnt0 xs j + if nth xs j = 0 then 1 else 0
theorem cnt0_le (xs : List Int) (j : Nat) : cnt0 xs j ≤ j := by
  induction j with
  | zero => exact Nat.le_refl _
  | succ j ih => simp only [cnt0]; split <;> omega
theorem cnt0_all (xs : List Int) (j : Nat) : cnt0 xs j = j ↔ ∀ i, i < j → nth xs i = 0 := by
  induction j with
  | zero => simp [cnt0]
  | succ j ih =>
    have hle := cnt0_le xs j
    simp only [cnt0]
    constructor
    · intro h i hi
      split at h
      · rename_i h0
        by_cases e : i = j
        · rw [e]; exact h0
        · exact ih.1 (by omega) i (by omega)
      · omega
    · intro h
      rw [if_pos (h j (by omega)), ih.2 fun i hi => h i (by omega)]
theorem zeroB_cnt (xs : List Int) : zeroB xs = decide (cnt0 xs xs.length = xs.length) := by
  cases hz : zeroB xs with
  | true =>
    have h0 := zeroB_all hz
    symm; rw [decide_eq_true_eq, cnt0_all]
    intro i hi
    rw [h0, nth_rep]
  | false =>
    symm; rw [decide_eq_false_iff_not, cnt0_all]
    intro h
    have : zeroB xs = true := by
      simp only [zeroB, List.all_eq_true]
      intro x hx
      obtain ⟨i, hi, rfl⟩ := List.getElem_of_mem hx
      have := h i hi
      simp only [nth, List.getD_eq_getElem?_getD, List.getElem?_eq_getElem hi, Option.getD_some] at this
      simpa using this
    rw [hz] at this; cases this
theorem zeroB_rep (n : Nat) : zeroB (List.replicate n 0) = true := by
  simp only [zeroB, List.all_eq_true]
  intro x hx
  simp [List.eq_of_mem_replicate hx]
theorem own_row0 {w w1 : World} {n : Nat} (h : OwnAt .u64 34 w w1 w.heap.size n (fun _ => 0)) (hl : n ≤ 16777216) : Row .u64 w1 (some ⟨w.heap.size, 0, none⟩) (List.replicate n 0) :=
  h.row (by simp) (fun x hx => by rw [List.eq_of_mem_replicate hx]; exact fits_u64.2 (by omega)) (fun i hi => nth_rep _ _) hl
set_option maxHeartbeats 4000000 in
theorem tableClearsW (a : Option Addr) (cap : Nat) (xs : List Int) (w : World) (hx : Row .u64 w a xs) (hoc : OkCap a xs.length cap) :
    Calls Try.prog 4 #[.slice a xs.length cap] w fun e w' => e = .returned (.bool true) ∧ Below w.heap.size w w' := by
  obtain ⟨i0, hi, hz0, hz1, hz2⟩ := info_parts info_u64
  have hlen := hx.len
  obtain ⟨n, hn⟩ : ∃ n, xs.length = n := ⟨_, rfl⟩
  rw [hn] at hlen ⊢
  have HX := Lib.hid hx
  have HN := Lib.hid hn
  clear hx hn hoc
  by_cases hbig : 200 < n
  · go_enter Try.func4, Try.ntmps4
    go_wp2_with fail
    refine (live16 _).mono ?_; rintro e w1 ⟨rfl, hb1⟩
    go_wp2_with fail
    go_ret
    exact ⟨rfl, hb1⟩
  · have hsm : n ≤ 200 := by omega
    go_enter Try.func4, Try.ntmps4
    go_wp2_with fail
    refine (table_Clear a n cap xs _ HX.out HN.out (by omega)).mono ?_; rintro e w1 ⟨a1, cap1, rfl, hr1, hcap1, hb1⟩
    simp only [List.length_replicate] at hcap1 ⊢
    have HR1 := Lib.hid hr1
    have HB1 := Lib.hid hb1
    have HX1 := Lib.hid (HX.out.below hb1)
    clear hr1 hcap1 hb1
    go_wp2_with fail
    go_loopw [4, 5] (fun c i wr => ∃ j : Nat, j ≤ n ∧ i = .int .i64 j ∧ c = .int .i64 (cnt0 xs j : Nat) ∧ Hid (w1 = wr)) (fun _ i _ => n - (intOf i).toNat)
    case atStart => exact ⟨0, Nat.zero_le _, rfl, rfl, rfl⟩
    case round =>
      obtain ⟨j, hj, rfl, rfl, HW⟩ := hrel
      obtain rfl := HW.out
      by_cases hlt : j < n
      · obtain ⟨b, o, rfl, hc⟩ := HX1.out.at (by rw [HN.out]; omega)
        have h1 := hc j (by rw [HN.out]; exact hlt)
        have hle := cnt0_le xs j
        have HC : Hid (cnt0 xs (j + 1) = cnt0 xs j + if nth xs j = 0 then 1 else 0) := rfl
        obtain ⟨x, hx⟩ : ∃ x, nth xs j = x := ⟨_, rfl⟩
        rw [hx] at h1 HC
        obtain ⟨c, hc'⟩ : ∃ c, cnt0 xs j = c := ⟨_, rfl⟩
        rw [hc'] at HC hle
        simp only [hc']
        have g1 : (0 : Int) ≤ (j : Int) := by omega
        have g2 : (j : Int) < (n : Int) := by omega
        clear hc hx hc'
        by_cases hx0 : x = 0
        · have HC2 : Hid ((((cnt0 xs (j + 1) : Nat)) : Int) = (c : Int) + 1) := by unfold Hid; rw [HC.out, if_pos hx0]; omega
          subst hx0
          go_wp2_with fail
          go_roundw
          case rel => exact ⟨j + 1, by omega, by go_num, by rw [HC2.out], (by first | exact rfl | exact trivial)⟩
          case measure => simp [intOf]; omega
        · have hb : (x == 0) = false := bno hx0
          have HC2 : Hid ((((cnt0 xs (j + 1) : Nat)) : Int) = (c : Int)) := by unfold Hid; rw [HC.out, if_neg hx0]; omega
          clear hx0
          go_wp2_with fail
          go_roundw
          case rel => exact ⟨j + 1, by omega, by go_num, by rw [HC2.out], (by first | exact rfl | exact trivial)⟩
          case measure => simp [intOf]; omega
      · have hjn : j = n := by omega
        have HZB : Hid (zeroB xs = decide (cnt0 xs n = n)) := by unfold Hid; rw [← HN.out]; exact zeroB_cnt xs
        have hle := cnt0_le xs n
        have HZR : Hid (zeroB (List.replicate n 0) = true) := zeroB_rep n
        rw [hjn]
        obtain ⟨c, hc'⟩ : ∃ c, cnt0 xs n = c := ⟨_, rfl⟩
        rw [hc'] at HZB hle ⊢
        have hce : ((c : Int) == (n : Int)) = decide (c = n) := by
          by_cases h : c = n
          · rw [decide_eq_true h]; exact btrue (by omega)
          · rw [decide_eq_false h]; exact bno (by omega)
        have hq : ((n : Int) == (n : Int)) = true := btrue rfl
        obtain ⟨B, hB⟩ : ∃ B : Bool, decide (c = n) = B := ⟨_, rfl⟩
        rw [hB] at hce HZB
        clear hjn hc' hB
        go_wp2_with fail
        refine (table_Clean _ _ _ _ _ HR1.out (by simp) (by omega)).mono ?_; rintro e w9 ⟨rfl, rfl⟩
        rw [HZR.out]
        go_wp2_with (refine wpList_make_fullG _ (by rfl) _ _ 25 rfl w1.heap.size 34 i0 (.int .u64 0) 1 Try.underlying25 hi hz0 hz1 .i64 .i64 n n n rfl rfl rfl rfl (by rw [hz2]; omega) (by unfold maxLen; omega) (Nat.le_refl _) ?_)
        intro w2 hown0 hgrow0
        have hown := Own.made hown0 hgrow0
        have hrow := own_row0 hown (by omega)
        have HR2 := Lib.hid hrow
        have HRB := Lib.hid (HR1.out.below hown.below)
        have HX2 := Lib.hid (HX1.out.below hown.below)
        have HB2 := Lib.hid (chain HB1.out hown.below)
        clear hown0 hgrow0 hown hrow
        go_wp2_with fail
        refine (ref_SameT _ _ _ _ _ _ _ _ _ HRB.out HR2.out (by simp) (by simp) rfl).mono ?_; rintro e w3 ⟨rfl, hb3⟩
        have HX3 := Lib.hid (HX2.out.below hb3)
        have HB3 := Lib.hid (chain HB2.out hb3)
        clear hb3
        go_wp2_with fail
        refine (table_Clean _ _ _ _ _ HX3.out HN.out (by omega)).mono ?_; rintro e w9 ⟨rfl, rfl⟩
        rw [HZB.out]
        have hBB : (B == B) = true := by simp
        go_wp2_with fail
        refine (live16 _).mono ?_; rintro e w4 ⟨rfl, hb4⟩
        have HB4 := Lib.hid (chain HB3.out hb4)
        clear hb4
        go_wp2_with fail
        go_ret
        exact ⟨rfl, HB4.out⟩
end Go.Proofs.Ytcckfeikaolfgaa

