/- The contracts and plain laws that the statement ExecSame needs, part 7 of 8: ExecB PermD PermF PermK PermM ExecC. -/
import Derived.Test.YtcckfeikaolfgaaGreatExecSameB6
namespace Go.Proofs.YtcckfeikaolfgaaGreat
open Go.RowKit Sm
set_option linter.unusedVariables false
set_option linter.unusedSimpArgs false
set_option maxRecDepth 100000
theorem set_grown (w : World) (b i : Nat) (v : Value) : w.grownBy (w.setCell ⟨b, i, none⟩ v) (some b) :=
  ⟨rfl, rfl, rfl, by simp [World.setCell], fun k _ hk => Below.heap_setCell _ _ _ _ (fun e => hk (by simp [e]))⟩
theorem OwnAt.other {k : IntKind} {e : TypeId} {w wr : World} {g n : Nat} {f : Nat → Int} (h : OwnAt k e w wr g n f) (g' i : Nat) (v : Value) (hne : g ≠ g') (hB : w.heap.size ≤ g') : OwnAt k e w (wr.setCell ⟨g', i, none⟩ v) g n f := by
  refine ⟨?_, h.below.setCell hB _⟩
  exact h.own.kept (set_grown wr g' i v) (.inr (by simp [Value.ownBlock, hne]))
theorem OwnAt.congr {k : IntKind} {e : TypeId} {w wr : World} {g n : Nat} {f f' : Nat → Int} (h : OwnAt k e w wr g n f) (he : ∀ i, i < n → f' i = f i) : OwnAt k e w wr g n f' := by
  refine ⟨?_, h.below⟩
  have e1 : (List.range n).map (fun j => Value.int k (f' j)) = (List.range n).map (fun j => Value.int k (f j)) := List.map_congr_left fun x hx => by rw [he x (List.mem_range.1 hx)]
  rw [e1]; exact h.own
theorem OwnAt.rebase {k : IntKind} {e : TypeId} {w w1 wr : World} {g n : Nat} {f : Nat → Int} (h : OwnAt k e w1 wr g n f) (hb : Below w.heap.size w w1) : OwnAt k e w wr g n f :=
  ⟨own_base h.own hb.size, chain hb h.below⟩
/-- An own row is another one than what lies below. -/
theorem row_keep {k : IntKind} {wr : World} {a : Option Addr} {xs : List Int} {B g' i : Nat} {v : Value} {e : TypeId} {n cap : Nat} (h : wr.ownsRow B e 1 (.slice a n cap) n (xs.map (Value.int k))) (hg : g' < B) : (wr.setCell ⟨g', i, none⟩ v).ownsRow B e 1 (.slice a n cap) n (xs.map (Value.int k)) := by
  refine h.kept (set_grown wr g' i v) ?_
  cases a with
  | none => exact .inl rfl
  | some ad =>
    right
    intro e'
    have := (h.lt ad.block rfl).1
    simp only [Value.ownBlock, Option.some.injEq] at e'
    omega
theorem news_row {k : IntKind} {w : World} {b off : Nat} {xs : List Int} (hc : ∀ i, i < xs.length → w.cell? ⟨b, off + i, none⟩ = some (.int k (nth xs i))) : ∀ j u, (xs.map (Value.int k))[j]? = some u → w.cell? ((⟨b, off, none⟩ : Addr).add j) = some u := by
  intro j u hj
  have hjl : j < xs.length := by have := (List.getElem?_eq_some_iff.1 hj).1; simpa using this
  have h3 := hc j hjl
  have h4 : u = .int k (nth xs j) := by
    simp [hjl] at hj
    rw [← hj]; simp [nth, hjl]
  rw [h4, ← h3]
  by_cases hj0 : j = 0
  · subst hj0; simp [Addr.add]
  · simp [Addr.add, hj0]
theorem rows_join {k : IntKind} (n m : Nat) (f : Nat → Int) (ys : List Int) (hl : ys.length = m) (h : ∀ r, r < m → f (n + r) = nth ys r) : ((List.range n).map fun r => Value.int k (f r)) ++ ys.map (Value.int k) = (List.range (n + m)).map fun r => Value.int k (f r) := by
  rw [List.range_add, List.map_append, List.map_map]
  congr 1
  conv => lhs; rw [list_nth ys, hl, List.map_map]
  exact List.map_congr_left fun r hr => by simp [h r (List.mem_range.1 hr)]
/-- What the turned columns' row holds while row i of column j is under way. -/
def tF (T : List Int) (b j i x : Nat) : Int := if x % b < j ∨ (x % b = j ∧ x / b < i) then nth T x else 0
theorem tF_start (T : List Int) (b x : Nat) : tF T b 0 0 x = 0 := by
  unfold tF
  generalize x % b = r
  generalize x / b = s
  rw [if_neg (by omega)]
theorem tF_next (T : List Int) (a b j x : Nat) (hb : 0 < b) (hx : x < a * b) : tF T b (j + 1) 0 x = tF T b j a x := by
  have h : x / b < a := Nat.div_lt_of_lt_mul (by rw [Nat.mul_comm]; exact hx)
  unfold tF
  generalize x % b = r at *
  generalize x / b = s at *
  by_cases h1 : r < j
  · rw [if_pos (by omega), if_pos (by omega)]
  · by_cases h2 : r = j
    · rw [if_pos (by omega), if_pos (by omega)]
    · rw [if_neg (by omega), if_neg (by omega)]
theorem tF_at (T : List Int) (b i j : Nat) (hj : j < b) : tF T b j i (i * b + j) = 0 ∧ tF T b j (i + 1) (i * b + j) = nth T (i * b + j) := by
  unfold tF
  rw [(at_row hj).1, (at_row hj).2]
  exact ⟨if_neg (by omega), if_pos (by omega)⟩
theorem tF_other (T : List Int) (b i j x : Nat) (hj : j < b) (h : x ≠ i * b + j) : tF T b j (i + 1) x = tF T b j i x := by
  have h3 : x % b = j → x / b ≠ i := fun e1 e2 => h (by rw [← e2, ← e1, Nat.mul_comm]; exact (Nat.div_add_mod x b).symm)
  unfold tF
  generalize x % b = r at *
  generalize x / b = s at *
  by_cases h1 : r < j
  · rw [if_pos (by omega), if_pos (by omega)]
  · by_cases h2 : r = j
    · have h5 := h3 h2
      by_cases h4 : s < i
      · rw [if_pos (by omega), if_pos (by omega)]
      · rw [if_neg (by omega), if_neg (by omega)]
    · rw [if_neg (by omega), if_neg (by omega)]
theorem tF_end (T : List Int) (b x : Nat) (hb : 0 < b) : tF T b b 0 x = nth T x := by
  unfold tF; rw [if_pos (Or.inl (Nat.mod_lt _ hb))]
set_option maxHeartbeats 8000000 in
theorem exec_gridS (q p1 p2 N A B b off cap cx : Nat) (k d k0 k1 : Int) (a0 a1 ax : Option Addr) (m0 c0 m1 c1 : Nat) (xs : List Int) (tw : Nat → Nat → Int) (w : World) (hx : Row .u64 w ax xs) (hxl : xs.length = N) (hN : N = A * B) (hA : 2 ≤ A) (hB : 2 ≤ B) (hN2 : N ≤ 16777216)
    (h00 : w.cell? ⟨b, off, none⟩ = some (.int .i64 k0)) (h01 : w.cell? ⟨b, off + 1, none⟩ = some (.int .i64 A)) (h02 : w.cell? ⟨b, off + 2, none⟩ = some (.slice a0 m0 c0))
    (h10 : w.cell? ⟨b, off + 3, none⟩ = some (.int .i64 k1)) (h11 : w.cell? ⟨b, off + 4, none⟩ = some (.int .i64 B)) (h12 : w.cell? ⟨b, off + 5, none⟩ = some (.slice a1 m1 c1))
    (hC0 : ∀ W (ax : Option Addr) (cx : Nat) (xs : List Int), Below w.heap.size w W → Row .u64 W ax xs → xs.length = A → Calls Tryz.prog 34 #[.agg #[.func (.func 16) #[] #[.pointer (some ⟨q, 0, none⟩)]], .agg #[.int .i64 k0, .int .i64 A, .slice a0 m0 c0], .int .i64 d, .slice ax A cx] W (GivesOwn .u64 38 (dftL xs (dirRt A d)) W))
    (hC1 : ∀ W (ax : Option Addr) (cx : Nat) (xs : List Int), Below w.heap.size w W → Row .u64 W ax xs → xs.length = B → Calls Tryz.prog 34 #[.agg #[.func (.func 16) #[] #[.pointer (some ⟨q, 0, none⟩)]], .agg #[.int .i64 k1, .int .i64 B, .slice a1 m1 c1], .int .i64 d, .slice ax B cx] W (GivesOwn .u64 38 (dftL xs (dirRt B d)) W))
    (hT : ∀ W (i j : Nat), Below w.heap.size w W → i < A → j < B → Calls Tryz.prog 83 #[.int .i64 i, .int .i64 j, .pointer (some ⟨p1, 0, none⟩), .pointer (some ⟨p2, 0, none⟩)] W fun e w' => e = .returned (.int .u64 (tw i j)) ∧ Below W.heap.size W w') (htw : ∀ i j, 0 ≤ tw i j ∧ tw i j < 18446744073709551616) :
    Calls Tryz.prog 82 #[.agg #[.func (.func 16) #[] #[.pointer (some ⟨q, 0, none⟩)]], .agg #[.int .i64 k, .int .i64 N, .slice (some ⟨b, off, none⟩) 2 cap], .int .i64 d, .slice ax N cx, .func (.func 83) #[] #[.pointer (some ⟨p1, 0, none⟩), .pointer (some ⟨p2, 0, none⟩)]] w (GivesOwn .u64 38 (grL (gtL xs A B (dirRt A d) tw) A B (dirRt B d)) w) := by
  obtain ⟨i0, hi, hz0, hz1, hz2⟩ := info_parts info_u64
  have hbl : b < w.heap.size := World.block_lt_of_cell? _ _ h00
  have HX := Lib.hid hx
  have HXL := Lib.hid hxl
  have HN := Lib.hid hN
  have HC0 := Lib.hid hC0
  have HC1 := Lib.hid hC1
  have HT := Lib.hid hT
  have HTW := Lib.hid htw
  have HK : Hid (w.cell? ⟨b, off, none⟩ = some (.int .i64 k0) ∧ w.cell? ⟨b, off + 1, none⟩ = some (.int .i64 A) ∧ w.cell? ⟨b, off + 2, none⟩ = some (.slice a0 m0 c0) ∧ w.cell? ⟨b, off + 3, none⟩ = some (.int .i64 k1) ∧ w.cell? ⟨b, off + 4, none⟩ = some (.int .i64 B) ∧ w.cell? ⟨b, off + 5, none⟩ = some (.slice a1 m1 c1)) := ⟨h00, h01, h02, h10, h11, h12⟩
  have KK : Hid (∀ W, Below w.heap.size w W → W.cell? ⟨b, off, none⟩ = some (.int .i64 k0) ∧ W.cell? ⟨b, off + 1, none⟩ = some (.int .i64 A) ∧ W.cell? ⟨b, off + 2, none⟩ = some (.slice a0 m0 c0) ∧ W.cell? ⟨b, off + 3, none⟩ = some (.int .i64 k1) ∧ W.cell? ⟨b, off + 4, none⟩ = some (.int .i64 B) ∧ W.cell? ⟨b, off + 5, none⟩ = some (.slice a1 m1 c1)) := fun W hW => by
    obtain ⟨e0, e1, e2, e3, e4, e5⟩ := HK.out
    exact ⟨(hW.cell (p := ⟨b, off, none⟩) hbl).trans e0, (hW.cell (p := ⟨b, off + 1, none⟩) hbl).trans e1, (hW.cell (p := ⟨b, off + 2, none⟩) hbl).trans e2, (hW.cell (p := ⟨b, off + 3, none⟩) hbl).trans e3, (hW.cell (p := ⟨b, off + 4, none⟩) hbl).trans e4, (hW.cell (p := ⟨b, off + 5, none⟩) hbl).trans e5⟩
  have hAN : A ≤ N := by rw [hN]; exact Nat.le_mul_of_pos_right A (by omega)
  have hBN : B ≤ N := by rw [hN]; exact Nat.le_mul_of_pos_left B (by omega)
  obtain ⟨za, hza⟩ : ∃ z, dirRt A d = z := ⟨_, rfl⟩
  obtain ⟨zb, hzb⟩ : ∃ z, dirRt B d = z := ⟨_, rfl⟩
  rw [hza] at HC0 ⊢
  rw [hzb] at HC1 ⊢
  obtain ⟨T, hTT⟩ : ∃ T, gtL xs A B za tw = T := ⟨_, rfl⟩
  have HTL : Hid (T.length = N) := by unfold Hid; rw [← hTT, gtL_len, hN]
  have HTF : Hid (∀ x ∈ T, fits .u64 x) := by unfold Hid; rw [← hTT]; exact gtL_fits _ _ _ _ _
  have HTV : Hid (∀ i j, i < A → j < B → nth (dftL (colL xs A B j) za) i * tw i j % 18446744069414584321 = nth T (i * B + j)) := fun i j hi hj => by
    rw [← hTT, nth_gtL _ _ _ _ _ _ (row_in hi hj), (at_row hj).1, (at_row hj).2]
  rw [hTT]
  clear hN hx hxl hC0 hC1 hT htw h00 h01 h02 h10 h11 h12 HK hza hzb hTT
  obtain ⟨W1, hW1, hb1, x0, x1⟩ := two_boxes w #[.func (.func 16) #[] #[.pointer (some ⟨q, 0, none⟩)]] #[.int .i64 k, .int .i64 N, .slice (some ⟨b, off, none⟩) 2 cap] 63 24
  have HW1 := Lib.hid hW1
  have HB1 := Lib.hid hb1
  have X0 := Lib.hid x0
  have X1 := Lib.hid x1
  have hsz1 := block_lt x1
  clear hW1 hb1 x0 x1
  have D2 : W1.cell? ⟨w.heap.size + 1, 2, none⟩ = some (.slice (some ⟨b, off, none⟩) 2 cap) := block_cell X1.out 2
  obtain ⟨e0, e1, e2, e3, e4, e5⟩ := KK.out W1 HB1.out
  go_enter Tryz.func82, Tryz.ntmps82
  go_wp2_with fail
  rw [HW1.out]
  go_quiet (fail)
  have hbq := below_drewN (Below.refl W1.heap.size W1) nq
  obtain ⟨wb, hwb⟩ : ∃ wb, W1.drewN nq = wb := ⟨_, rfl⟩
  rw [hwb] at hbq ⊢
  have HBB := Lib.hid (chain HB1.out hbq)
  have X0 := Lib.hid ((hbq.block _ (block_lt X0.out)).trans X0.out)
  have X1 := Lib.hid ((hbq.block _ (block_lt X1.out)).trans X1.out)
  have hsb : w.heap.size + 1 < wb.heap.size := block_lt X1.out
  clear hwb hbq D2 e0 e1 e2 e3 e4 e5
  have D1 : wb.cell? ⟨w.heap.size + 1, 1, none⟩ = some (.int .i64 N) := block_cell X1.out 1
  go_wp2_with (at_make; refine wpList_make_full _ rfl _ _ 25 rfl wb.heap.size 38 i0 (.int .u64 0) 1 Tryz.underlying25 hi hz0 hz1 .i64 .i64 N N N rfl rfl rfl rfl (by rw [hz2]; omega) (by unfold maxLen; omega) (Nat.le_refl _) ?_)
  intro w3 hown0 hgrow0
  have hownT := Own.made hown0 hgrow0
  have HOT := Lib.hid hownT
  have hg1 := hownT.base
  clear hown0 hgrow0 hownT D1
  go_wp2_with (at_make; refine wpList_make_full _ rfl _ _ 25 rfl w3.heap.size 38 i0 (.int .u64 0) 1 Tryz.underlying25 hi hz0 hz1 .i64 .i64 A A A rfl rfl rfl rfl (by rw [hz2]; omega) (by unfold maxLen; omega) (Nat.le_refl _) ?_)
  intro w4 hown0 hgrow0
  have hownC := Own.made hown0 hgrow0
  have HOC := Lib.hid (hownC.rebase HOT.out.below)
  have HOT := Lib.hid (HOT.out.later hownC.below)
  clear hown0 hgrow0 hownC
  have hgg : wb.heap.size < w3.heap.size := hg1.2
  have hg2 := HOC.out.base
  have HKB : Hid (∀ W, Below wb.heap.size wb W → Below w.heap.size w W) := fun W hW => chain HBB.out hW
  go_wp2_with fail
  go_loopw [37] (fun iv wr => ∃ (j : Nat) (old : Nat → Int), j ≤ B ∧ iv = .int .i64 j ∧ OwnAt .u64 38 wb wr wb.heap.size N (tF T B j 0) ∧ OwnAt .u64 38 wb wr w3.heap.size A old) (fun iv _ => B - (intOf iv).toNat)
  case atStart => exact ⟨0, fun _ => 0, Nat.zero_le _, rfl, own_eqz HOT.out (fun x => tF_start _ _ _), HOC.out⟩
  case round =>
    obtain ⟨j, old, hj, rfl, hoT, hoC⟩ := hrel
    by_cases hlt : j < B
    · have HO1 := Lib.hid hoT
      have HO2 := Lib.hid hoC
      obtain ⟨wo, rfl⟩ : ∃ wo : World, wo = wr := ⟨_, rfl⟩
      clear hoT hoC HOT HOC
      go_wp2_with fail
      go_loopw [41] (fun iv wi => ∃ i : Nat, i ≤ A ∧ iv = .int .i64 i ∧ OwnAt .u64 38 wb wi wb.heap.size N (tF T B j 0) ∧ OwnAt .u64 38 wb wi w3.heap.size A (fun r => if r < i then nth xs (r * B + j) else old r)) (fun iv _ => A - (intOf iv).toNat)
      case atStart => exact ⟨0, Nat.zero_le _, rfl, HO1.out, own_eqz HO2.out (fun x => if_neg (by omega))⟩
      case round =>
        obtain ⟨i, hi9, rfl, hoT, hoC⟩ := hrel
        by_cases hli : i < A
        · have hin := row_in hli hlt
          rw [← HN.out] at hin
          obtain ⟨bx, ox, rfl, hcx⟩ := (HX.out.below (HKB.out _ hoT.below)).at (by rw [HXL.out]; omega)
          obtain ⟨s, hs⟩ : ∃ s, i * B = s := ⟨_, rfl⟩
          rw [hs] at hin
          have m1 := mulN i B s hs
          have mw : IntKind.i64.wrap (s : Int) = (s : Int) := IntWalk.i64_in _ (by omega)
          have c1 := hcx (s + j) (by rw [HXL.out]; exact hin)
          have HS := Lib.hid hs
          obtain ⟨t, ht⟩ : ∃ t, s + j = t := ⟨_, rfl⟩
          have m2 : (s : Int) + (j : Int) = (t : Int) := by omega
          have mw2 : IntKind.i64.wrap (t : Int) = (t : Int) := IntWalk.i64_in _ (by omega)
          rw [ht] at c1 hin
          obtain ⟨x, hx⟩ : ∃ x, nth xs t = x := ⟨_, rfl⟩
          rw [hx] at c1
          have hcell := hoC.cell i hli
          rw [if_neg (Nat.lt_irrefl i)] at hcell
          have hfz := hoC.free i
          have hnext := hoC.store i hli x (f' := fun r => if r < i + 1 then nth xs (r * B + j) else old r) (by show (if i < i + 1 then _ else _) = _; rw [if_pos (by omega), HS.out, ht]; exact hx) (fun r _ hr => by
            by_cases h : r < i
            · rw [if_pos h, if_pos (by omega)]
            · rw [if_neg h, if_neg (by omega)])
          have HNC := Lib.hid hnext
          have HNT := Lib.hid (hoT.other w3.heap.size i (.int .u64 x) (by omega) (by omega))
          have g3 : (0 : Int) ≤ (t : Int) := by omega
          have g4 : (t : Int) < (N : Int) := by omega
          have g5 : (0 : Int) ≤ (i : Int) := by omega
          have g6 : (i : Int) < (A : Int) := by omega
          clear hcx hs ht hx hoT hoC hnext
          go_wp2_with fail
          go_roundw
          case rel => exact ⟨i + 1, by omega, by go_num, HNT.out, HNC.out⟩
          case measure => simp [intOf]; omega
        · have hiA : i = A := by omega
          have hcl := colL_len xs A B j
          have hrow : Row .u64 wr (some ⟨w3.heap.size, 0, none⟩) (colL xs A B j) := hoC.row hcl (fun x hx => by
            obtain ⟨r, hr, rfl⟩ := List.mem_map.1 hx
            simp only [List.mem_range] at hr
            exact HX.out.wf _ (nth_mem (by rw [HXL.out, HN.out]; exact row_in hr hlt))) (fun r hr => by rw [nth_colL _ _ _ _ _ hr, if_pos (by omega)]) (by omega)
          have HCR := Lib.hid hrow
          have HCL := Lib.hid hcl
          have HO3 := Lib.hid hoT
          have HO4 := Lib.hid hoC
          have HBR := Lib.hid (HKB.out _ hoT.below)
          have hDL : Hid ((dftL (colL xs A B j) za).length = A) := (dftL_len _ _).trans hcl
          obtain ⟨e0, e1, e2, _, _, _⟩ := KK.out wr HBR.out
          have R0 : wr.cell? ⟨w.heap.size, 0, none⟩ = some (.func (.func 16) #[] #[.pointer (some ⟨q, 0, none⟩)]) := (hoT.below.cell (p := ⟨w.heap.size, 0, none⟩) (block_lt X0.out)).trans (block_cell X0.out 0)
          have D2 : wr.cell? ⟨w.heap.size + 1, 2, none⟩ = some (.slice (some ⟨b, off, none⟩) 2 cap) := (hoT.below.cell (p := ⟨w.heap.size + 1, 2, none⟩) (block_lt X1.out)).trans (block_cell X1.out 2)
          have hbs := hoT.below.size
          have l0 : w.heap.size < wr.heap.size := by omega
          have l1 : w.heap.size + 1 < wr.heap.size := by omega
          have l2 : b < wr.heap.size := by omega
          have hb : Below wr.heap.size wr wr.drew := (Below.refl _ _).drew
          clear hrow hcl hoT hoC hiA
          go_wp2_with fail
          go_region_held3 (fun w' => w'.cell? ⟨w.heap.size, 0, none⟩ = some (.func (.func 16) #[] #[.pointer (some ⟨q, 0, none⟩)]) ∧ w'.cell? ⟨w.heap.size + 1, 2, none⟩ = some (.slice (some ⟨b, off, none⟩) 2 cap) ∧ w'.cell? ⟨b, off, none⟩ = some (.int .i64 k0) ∧ w'.cell? ⟨b, off + 1, none⟩ = some (.int .i64 A) ∧ w'.cell? ⟨b, off + 2, none⟩ = some (.slice a0 m0 c0))
            (first | exact ⟨R0, D2, e0, e1, e2⟩ | exact ⟨(hb.cell (p := ⟨w.heap.size, 0, none⟩) l0).trans R0, (hb.cell (p := ⟨w.heap.size + 1, 2, none⟩) l1).trans D2, (hb.cell (p := ⟨b, off, none⟩) l2).trans e0, (hb.cell (p := ⟨b, off + 1, none⟩) l2).trans e1, (hb.cell (p := ⟨b, off + 2, none⟩) l2).trans e2⟩ | fail)
            ((first
              | (go_at_call 34; ((with_reducible refine (HC0.out _ _ _ _ (chain HBR.out hb) (HCR.out.below hb) HCL.out).mono ?_); rintro e z1 ⟨a3, cap3, rfl, ho3, hf3, hl3, hc⟩; have hb := chain hb hc; simp only [hDL.out] at ho3 hl3 ⊢))
              | fail))
          obtain ⟨V, hV⟩ : ∃ V, dftL (colL xs A B j) za = V := ⟨_, rfl⟩
          rw [hV] at ho3 hf3 hDL
          have HTV2 : Hid (∀ i, i < A → nth V i * tw i j % 18446744069414584321 = nth T (i * B + j)) := fun i hi => by rw [← hV]; exact HTV.out i j hi hlt
          have ho3 : z1.ownsRow wr.heap.size 38 1 (.slice a3 A cap3) A (V.map (Value.int .u64)) := ho3
          have hV3 := Lib.hid ho3
          have hVF := Lib.hid hf3
          have hO5 := Lib.hid (HO3.out.later hb)
          have hO6 := Lib.hid (HO4.out.later hb)
          obtain ⟨BV, hBV⟩ : ∃ BV, wr.heap.size = BV := ⟨_, rfl⟩
          rw [hBV] at hV3 hbs
          have hgV : wb.heap.size < BV := by have := HO3.out.base; omega
          clear R0 D2 e0 e1 e2 hV ho3 hf3 hc hb hBV HCR HCL
          go_wp2_with fail
          go_loopw [65] (fun iv wi => ∃ i : Nat, i ≤ A ∧ iv = .int .i64 i ∧ OwnAt .u64 38 wb wi wb.heap.size N (tF T B j i) ∧ OwnAt .u64 38 wb wi w3.heap.size A (fun r => if r < A then nth xs (r * B + j) else old r) ∧ Hid (wi.ownsRow BV 38 1 (.slice a3 A cap3) A (V.map (Value.int .u64)))) (fun iv _ => A - (intOf iv).toNat)
          case atStart => exact ⟨0, Nat.zero_le _, rfl, hO5.out, own_eqz hO6.out (fun x => by by_cases h : x < A; (rw [if_pos h, if_pos (by omega)]); (rw [if_neg h, if_neg (by omega)])), hV3.out⟩
          case round =>
            obtain ⟨i, hi9, rfl, hoT, hoC, HV⟩ := hrel
            by_cases hli : i < A
            · have hin := row_in hli hlt
              rw [← HN.out] at hin
              obtain ⟨bv, ov, rfl, hcv⟩ := (Row.of_own (k := .u64) hDL (by omega) hVF.out HV.out).at (by rw [hDL]; omega)
              have c1 := hcv i (by rw [hDL]; exact hli)
              have fv := fits_u64.1 (hVF.out _ (nth_mem (show i < V.length by rw [hDL]; exact hli)))
              obtain ⟨s, hs⟩ : ∃ s, i * B = s := ⟨_, rfl⟩
              rw [hs] at hin
              have m1 := mulN i B s hs
              have mw : IntKind.i64.wrap (s : Int) = (s : Int) := IntWalk.i64_in _ (by omega)
              have hTV := HTV2.out i hli
              have hta := tF_at T B i j hlt
              have hto : ∀ x, x ≠ i * B + j → tF T B j (i + 1) x = tF T B j i x := fun x hx => tF_other T B i j x hlt hx
              rw [hs] at hTV hta hto
              obtain ⟨t, ht⟩ : ∃ t, s + j = t := ⟨_, rfl⟩
              have m2 : (s : Int) + (j : Int) = (t : Int) := by omega
              have mw2 : IntKind.i64.wrap (t : Int) = (t : Int) := IntWalk.i64_in _ (by omega)
              rw [ht] at hin hTV hta hto
              obtain ⟨x, hx⟩ : ∃ x, nth V i = x := ⟨_, rfl⟩
              rw [hx] at c1 fv hTV
              have CT : Hid (∀ W, Below wb.heap.size wb W → Calls Tryz.prog 83 #[.int .i64 i, .int .i64 j, .pointer (some ⟨p1, 0, none⟩), .pointer (some ⟨p2, 0, none⟩)] W fun e w' => e = .returned (.int .u64 (tw i j)) ∧ Below W.heap.size W w') := fun W hW => HT.out W i j (HKB.out W hW) hli hlt
              have ft := HTW.out i j
              obtain ⟨y, hy⟩ : ∃ y, tw i j = y := ⟨_, rfl⟩
              rw [hy] at CT ft hTV
              have HTA := Lib.hid hta
              have HTO := Lib.hid hto
              have HTVV := Lib.hid hTV
              have g3 : (0 : Int) ≤ (t : Int) := by omega
              have g4 : (t : Int) < (N : Int) := by omega
              have g5 : (0 : Int) ≤ (i : Int) := by omega
              have g6 : (i : Int) < (A : Int) := by omega
              have HO7 := Lib.hid hoT
              have HO8 := Lib.hid hoC
              clear hcv hs ht hx hy hta hto hTV hoT hoC
              go_wp2_with fail
              refine (CT.out _ HO7.out.below).mono ?_; rintro e w5 ⟨rfl, hb5⟩
              have hoT := HO7.out.later hb5
              have hoC := HO8.out.later hb5
              have hV5 := own_later HV.out hb5
              have hcell := hoT.cell t hin
              rw [HTA.out.1] at hcell
              have hfz := hoT.free t
              have hnext := hoT.store t hin (x * y % 18446744069414584321) (f' := tF T B j (i + 1)) (by rw [HTA.out.2, HTVV.out]) (fun r _ hr => HTO.out r hr)
              have HNT := Lib.hid hnext
              have HNC := Lib.hid (hoC.other wb.heap.size t (.int .u64 (x * y % 18446744069414584321)) (by omega) (Nat.le_refl _))
              have HNV := Lib.hid (row_keep (g' := wb.heap.size) (i := t) (v := .int .u64 (x * y % 18446744069414584321)) hV5 hgV)
              clear hoT hoC hV5 hnext c1
              go_wp2_with fail
              refine (gold_Mul x y _ (by omega) (by omega) (by omega) (by omega)).mono ?_; rintro e w6 ⟨rfl, rfl⟩
              go_wp2_with fail
              go_roundw
              case rel => exact ⟨i + 1, by omega, by go_num, HNT.out, HNC.out, HNV.out⟩
              case measure => simp [intOf]; omega
            · have hiA : i = A := by omega
              subst hiA
              have HNT : Hid (OwnAt .u64 38 wb wr wb.heap.size N (tF T B (j + 1) 0)) := hoT.congr (fun x hx => tF_next T i B j x (by omega) (by rw [← HN.out]; exact hx))
              have HNC := Lib.hid hoC
              clear hoT hoC
              go_wp2_with fail
              go_roundw
              case rel => exact ⟨j + 1, _, by omega, by go_num, HNT.out, HNC.out⟩
              case measure => simp [intOf]; omega
    · have hjB : j = B := by omega
      subst hjB
      have hrow := hoT.row (xs := T) HTL.out HTF.out (fun i _ => (tF_end T j i (by omega)).symm) hN2
      have HRT := Lib.hid hrow
      have HBW := Lib.hid hoT.below
      have D1 : wr.cell? ⟨w.heap.size + 1, 1, none⟩ = some (.int .i64 N) := (hoT.below.cell (p := ⟨w.heap.size + 1, 1, none⟩) (block_lt X1.out)).trans (block_cell X1.out 1)
      have X0 := Lib.hid ((hoT.below.block _ (block_lt X0.out)).trans X0.out)
      have X1 := Lib.hid ((hoT.below.block _ (block_lt X1.out)).trans X1.out)
      have hbsz := hoT.below.size
      obtain ⟨wy, rfl⟩ : ∃ wy : World, wy = wr := ⟨_, rfl⟩
      have HBY := Lib.hid (HKB.out _ HBW.out)
      have HG : Hid (∀ i r, i < A → r < j → nth (grL T A j zb) (i * j + r) = nth (dftL (rowL T j i) zb) r) := fun i r h1 h2 => by rw [nth_grL _ _ _ _ _ (row_in h1 h2), (at_row h2).1, (at_row h2).2]
      have HGL : Hid ((grL T A j zb).length = N) := by unfold Hid; rw [grL_len]; exact HN.out.symm
      have HGF : Hid (∀ x ∈ grL T A j zb, fits .u64 x) := by
        intro x hx
        obtain ⟨i, hi, rfl⟩ := List.mem_map.1 hx
        simp only [List.mem_range] at hi
        have h2 := dftL_range (rowL T j (i / j)) zb (i % j) (by rw [rowL_len]; exact Nat.mod_lt _ (by omega))
        exact fits_u64.2 (by omega)
      obtain ⟨G, hG⟩ : ∃ G, grL T A j zb = G := ⟨_, rfl⟩
      have HGG := Lib.hid hG
      rw [hG] at HG HGL HGF
      clear hrow hoT hoC HOT HOC hG
      go_wp2_with (at_make; refine wpList_make_own _ rfl _ _ 25 rfl wy.heap.size 38 i0 (.int .u64 0) 1 Tryz.underlying25 hi hz0 hz1 .i64 .i64 N N rfl rfl rfl (by rw [hz2]; omega) (by unfold maxLen; omega) (Nat.le_refl _) ?_)
      intro w7 hown0 hgrow0
      have hown : Own .u64 38 wy w7 (.slice (some ⟨wy.heap.size, 0, none⟩) 0 N) 0 (nth G) := ⟨hown0, (Below.refl _ _).grown hgrow0 (Nat.le_refl _) (by simp)⟩
      have HOW := Lib.hid hown
      clear hown0 hgrow0 hown D1
      go_wp2_with fail
      go_loopw [19, 89] (fun v iv wr => ∃ (i n : Nat), i ≤ A ∧ Hid (n = i * j) ∧ n ≤ N ∧ iv = .int .i64 i ∧ Own .u64 38 wy wr v n (nth G)) (fun _ iv _ => A - (intOf iv).toNat)
      case atStart => exact ⟨0, 0, Nat.zero_le _, by unfold Hid; rw [Nat.zero_mul], by omega, rfl, HOW.out⟩
      case round =>
        obtain ⟨i, n, hi9, HNI, hnN, rfl, hown⟩ := hrel
        by_cases hli : i < A
        · have HB9 := Lib.hid (chain HBY.out hown.below)
          have hrow : Row .u64 wr (some ⟨wb.heap.size, n, none⟩) (rowL T j i) := by
            have h := (HRT.out.below hown.below).cut n (n + j)
            rw [Nat.zero_add] at h
            have e : (T.take (n + j)).drop n = rowL T j i := by
              have hin : n + j ≤ N := by rw [HNI.out, HN.out, ← Nat.succ_mul]; exact Nat.mul_le_mul_right j (by omega)
              apply ext_nth (by rw [rowL_len]; simp [HTL.out]; omega)
              intro r hr
              have hr2 : r < j := by simp [HTL.out] at hr; omega
              rw [nth_drop, nth_take (by omega), nth_rowL _ _ _ _ hr2, HNI.out]
            rwa [e] at h
          have HCR := Lib.hid hrow
          have HCL : Hid ((rowL T j i).length = j) := rowL_len _ _ _
          have hDL : Hid ((dftL (rowL T j i) zb).length = j) := (dftL_len _ _).trans HCL.out
          have HGI : Hid (∀ r, r < j → nth G (n + r) = nth (dftL (rowL T j i) zb) r) := fun r hr => by rw [HNI.out]; exact HG.out i r hli hr
          have hnj : n + j ≤ N := by rw [HNI.out, HN.out, ← Nat.succ_mul]; exact Nat.mul_le_mul_right j (by omega)
          obtain ⟨_, _, _, e3, e4, e5⟩ := KK.out wr HB9.out
          have R0 : wr.cell? ⟨w.heap.size, 0, none⟩ = some (.func (.func 16) #[] #[.pointer (some ⟨q, 0, none⟩)]) := (hown.below.cell (p := ⟨w.heap.size, 0, none⟩) (block_lt X0.out)).trans (block_cell X0.out 0)
          have D2 : wr.cell? ⟨w.heap.size + 1, 2, none⟩ = some (.slice (some ⟨b, off, none⟩) 2 cap) := (hown.below.cell (p := ⟨w.heap.size + 1, 2, none⟩) (block_lt X1.out)).trans (block_cell X1.out 2)
          have hbs := hown.below.size
          have l0 : w.heap.size < wr.heap.size := by omega
          have l1 : w.heap.size + 1 < wr.heap.size := by omega
          have l2 : b < wr.heap.size := by omega
          have hb : Below wr.heap.size wr wr.drew := (Below.refl _ _).drew
          have n0 : ∀ k' : Nat, k' < wy.heap.size → u19.ownBlock ≠ some k' := fun k' hk' h => by have := (hown.own.lt _ h).1; omega
          have n1 := n0 w.heap.size (by omega)
          have n2 := n0 (w.heap.size + 1) (by omega)
          have n3 := n0 b (by omega)
          have mA : (i : Int) * (j : Int) = (n : Int) := by rw [HNI.out]; simp
          have mwA : IntKind.i64.wrap (n : Int) = (n : Int) := IntWalk.i64_in _ (by omega)
          have mi : IntKind.i64.wrap ((i : Int) + 1) = (i : Int) + 1 := IntWalk.i64_in _ (by omega)
          have mB : ((i : Int) + 1) * (j : Int) = ((n + j : Nat) : Int) := by rw [Int.add_mul, Int.one_mul, mA]; simp
          obtain ⟨n', hn'⟩ : ∃ n', n + j = n' := ⟨_, rfl⟩
          rw [hn'] at mB hnj
          have mwB : IntKind.i64.wrap (n' : Int) = (n' : Int) := IntWalk.i64_in _ (by omega)
          have s1 : (0 : Int) ≤ (n : Int) := by omega
          have s2 : (n : Int) ≤ (n' : Int) := by omega
          have s3 : (n' : Int) ≤ (N : Int) := by omega
          have s4 : n' - n = j := by omega
          have s5 : (n' : Int) - (n : Int) = (j : Int) := by omega
          have hNn : ¬ N = n := by omega
          clear hrow
          go_wp2_with fail
          go_region_held3 (fun w' => w'.cell? ⟨w.heap.size, 0, none⟩ = some (.func (.func 16) #[] #[.pointer (some ⟨q, 0, none⟩)]) ∧ w'.cell? ⟨w.heap.size + 1, 2, none⟩ = some (.slice (some ⟨b, off, none⟩) 2 cap) ∧ w'.cell? ⟨b, off + 3, none⟩ = some (.int .i64 k1) ∧ w'.cell? ⟨b, off + 4, none⟩ = some (.int .i64 j) ∧ w'.cell? ⟨b, off + 5, none⟩ = some (.slice a1 m1 c1))
            (first | exact ⟨R0, D2, e3, e4, e5⟩ | exact ⟨(hb.cell (p := ⟨w.heap.size, 0, none⟩) l0).trans R0, (hb.cell (p := ⟨w.heap.size + 1, 2, none⟩) l1).trans D2, (hb.cell (p := ⟨b, off + 3, none⟩) l2).trans e3, (hb.cell (p := ⟨b, off + 4, none⟩) l2).trans e4, (hb.cell (p := ⟨b, off + 5, none⟩) l2).trans e5⟩ | exact ⟨hgrow.cell (a := ⟨w.heap.size, 0, none⟩) ((hb.cell (p := ⟨w.heap.size, 0, none⟩) l0).trans R0) (Ne.symm n1), hgrow.cell (a := ⟨w.heap.size + 1, 2, none⟩) ((hb.cell (p := ⟨w.heap.size + 1, 2, none⟩) l1).trans D2) (Ne.symm n2), hgrow.cell (a := ⟨b, off + 3, none⟩) ((hb.cell (p := ⟨b, off + 3, none⟩) l2).trans e3) (Ne.symm n3), hgrow.cell (a := ⟨b, off + 4, none⟩) ((hb.cell (p := ⟨b, off + 4, none⟩) l2).trans e4) (Ne.symm n3), hgrow.cell (a := ⟨b, off + 5, none⟩) ((hb.cell (p := ⟨b, off + 5, none⟩) l2).trans e5) (Ne.symm n3)⟩ | fail)
            ((first
              | (go_at_call 34; ((with_reducible refine (HC1.out _ _ _ _ (chain HB9.out hb) (HCR.out.below hb) HCL.out).mono ?_); rintro e z1 ⟨a5, cap5, rfl, ho5, hf5, hl5, hc⟩; have hb := chain hb hc; simp only [hDL.out] at ho5 hl5 ⊢; have hR5 := Row.of_own (k := .u64) hDL.out (by omega) hf5 ho5; obtain ⟨b5, o5, rfl, hc5⟩ := hR5.at (by rw [hDL.out]; omega)))
              | (refine step_append_lies _ (by rfl) _ _ 25 (by rfl) wy.heap.size 38 i0 _ 1 8 Tryz.underlying25 hi hz0 hz1 hz2 rfl (by omega) _ n _ (by rfl) (own_later hown.own hb) ⟨b5, o5, none⟩ j cap5 ((dftL (rowL T j i) zb).map (Value.int .u64)) (by rfl) (by rw [List.length_map, hDL.out, Nat.mul_one]) (news_row hc5) (ints_oneCell _ _) (by omega) (by unfold maxLen; omega) (by omega) (by have := hb.size; omega) _ rfl ?_; intro gg cap9 w9 hown' hgrow hat hlt0)
              | fail))
          have hown2 : w9.ownsRow wy.heap.size 38 1 (.slice (some ⟨gg, 0, none⟩) n' cap9) n' ((List.range n').map fun r => Value.int .u64 (nth G r)) := by
            have h := hown'
            rw [rows_join n j (nth G) _ hDL.out HGI.out, hn'] at h
            exact h
          have hnext : Own .u64 38 wy w9 (.slice (some ⟨gg, 0, none⟩) n' cap9) n' (nth G) := ⟨hown2, (chain hown.below hb).grown hgrow (by have := hb.size; omega) (own_lt hown.own)⟩
          have HNX := Lib.hid hnext
          have HNI2 : Hid (n' = (i + 1) * j) := by unfold Hid; rw [← hn', HNI.out, Nat.succ_mul]
          clear R0 D2 e3 e4 e5 hown' hown2 hgrow hat hnext hb hc ho5 hf5 hR5 hc5
          go_wp2_with fail
          go_roundw
          case rel => exact ⟨i + 1, n', by omega, HNI2.out, hnj, by go_num, HNX.out⟩
          case measure => simp [intOf]; omega
        · have hiA : i = A := by omega
          have hnN2 : n = N := by rw [HNI.out, hiA, ← HN.out]
          have hres := (hown.givesO (xs := G) (HGL.out.trans hnN2.symm) HGF.out (fun r hr => rfl) (by omega)).step HBY.out
          have HRES := Lib.hid hres
          clear hown hres
          go_wp2_with fail
          go_ret
          rw [HGG.out]
          exact HRES.out
set_option maxHeartbeats 8000000 in
theorem exec_gridG (q  N A B b off cap cx : Nat) (k d k0 k1 : Int) (a0 a1 ax : Option Addr) (m0 c0 m1 c1 : Nat) (xs : List Int) (tw : Nat → Nat → Int) (w : World) (hx : Row .u64 w ax xs) (hxl : xs.length = N) (hN : N = A * B) (hA : 2 ≤ A) (hB : 2 ≤ B) (hN2 : N ≤ 16777216)
    (h00 : w.cell? ⟨b, off, none⟩ = some (.int .i64 k0)) (h01 : w.cell? ⟨b, off + 1, none⟩ = some (.int .i64 A)) (h02 : w.cell? ⟨b, off + 2, none⟩ = some (.slice a0 m0 c0))
    (h10 : w.cell? ⟨b, off + 3, none⟩ = some (.int .i64 k1)) (h11 : w.cell? ⟨b, off + 4, none⟩ = some (.int .i64 B)) (h12 : w.cell? ⟨b, off + 5, none⟩ = some (.slice a1 m1 c1))
    (hC0 : ∀ W (ax : Option Addr) (cx : Nat) (xs : List Int), Below w.heap.size w W → Row .u64 W ax xs → xs.length = A → Calls Tryz.prog 34 #[.agg #[.func (.func 16) #[] #[.pointer (some ⟨q, 0, none⟩)]], .agg #[.int .i64 k0, .int .i64 A, .slice a0 m0 c0], .int .i64 d, .slice ax A cx] W (GivesOwn .u64 38 (dftL xs (dirRt A d)) W))
    (hC1 : ∀ W (ax : Option Addr) (cx : Nat) (xs : List Int), Below w.heap.size w W → Row .u64 W ax xs → xs.length = B → Calls Tryz.prog 34 #[.agg #[.func (.func 16) #[] #[.pointer (some ⟨q, 0, none⟩)]], .agg #[.int .i64 k1, .int .i64 B, .slice a1 m1 c1], .int .i64 d, .slice ax B cx] W (GivesOwn .u64 38 (dftL xs (dirRt B d)) W))
    (hT : ∀ W (i j : Nat), Below w.heap.size w W → i < A → j < B → Calls Tryz.prog 87 #[.int .i64 i, .int .i64 j] W fun e w' => e = .returned (.int .u64 (tw i j)) ∧ Below W.heap.size W w') (htw : ∀ i j, 0 ≤ tw i j ∧ tw i j < 18446744073709551616) :
    Calls Tryz.prog 82 #[.agg #[.func (.func 16) #[] #[.pointer (some ⟨q, 0, none⟩)]], .agg #[.int .i64 k, .int .i64 N, .slice (some ⟨b, off, none⟩) 2 cap], .int .i64 d, .slice ax N cx, .func (.func 87) #[] #[]] w (GivesOwn .u64 38 (grL (gtL xs A B (dirRt A d) tw) A B (dirRt B d)) w) := by
  obtain ⟨i0, hi, hz0, hz1, hz2⟩ := info_parts info_u64
  have hbl : b < w.heap.size := World.block_lt_of_cell? _ _ h00
  have HX := Lib.hid hx
  have HXL := Lib.hid hxl
  have HN := Lib.hid hN
  have HC0 := Lib.hid hC0
  have HC1 := Lib.hid hC1
  have HT := Lib.hid hT
  have HTW := Lib.hid htw
  have HK : Hid (w.cell? ⟨b, off, none⟩ = some (.int .i64 k0) ∧ w.cell? ⟨b, off + 1, none⟩ = some (.int .i64 A) ∧ w.cell? ⟨b, off + 2, none⟩ = some (.slice a0 m0 c0) ∧ w.cell? ⟨b, off + 3, none⟩ = some (.int .i64 k1) ∧ w.cell? ⟨b, off + 4, none⟩ = some (.int .i64 B) ∧ w.cell? ⟨b, off + 5, none⟩ = some (.slice a1 m1 c1)) := ⟨h00, h01, h02, h10, h11, h12⟩
  have KK : Hid (∀ W, Below w.heap.size w W → W.cell? ⟨b, off, none⟩ = some (.int .i64 k0) ∧ W.cell? ⟨b, off + 1, none⟩ = some (.int .i64 A) ∧ W.cell? ⟨b, off + 2, none⟩ = some (.slice a0 m0 c0) ∧ W.cell? ⟨b, off + 3, none⟩ = some (.int .i64 k1) ∧ W.cell? ⟨b, off + 4, none⟩ = some (.int .i64 B) ∧ W.cell? ⟨b, off + 5, none⟩ = some (.slice a1 m1 c1)) := fun W hW => by
    obtain ⟨e0, e1, e2, e3, e4, e5⟩ := HK.out
    exact ⟨(hW.cell (p := ⟨b, off, none⟩) hbl).trans e0, (hW.cell (p := ⟨b, off + 1, none⟩) hbl).trans e1, (hW.cell (p := ⟨b, off + 2, none⟩) hbl).trans e2, (hW.cell (p := ⟨b, off + 3, none⟩) hbl).trans e3, (hW.cell (p := ⟨b, off + 4, none⟩) hbl).trans e4, (hW.cell (p := ⟨b, off + 5, none⟩) hbl).trans e5⟩
  have hAN : A ≤ N := by rw [hN]; exact Nat.le_mul_of_pos_right A (by omega)
  have hBN : B ≤ N := by rw [hN]; exact Nat.le_mul_of_pos_left B (by omega)
  obtain ⟨za, hza⟩ : ∃ z, dirRt A d = z := ⟨_, rfl⟩
  obtain ⟨zb, hzb⟩ : ∃ z, dirRt B d = z := ⟨_, rfl⟩
  rw [hza] at HC0 ⊢
  rw [hzb] at HC1 ⊢
  obtain ⟨T, hTT⟩ : ∃ T, gtL xs A B za tw = T := ⟨_, rfl⟩
  have HTL : Hid (T.length = N) := by unfold Hid; rw [← hTT, gtL_len, hN]
  have HTF : Hid (∀ x ∈ T, fits .u64 x) := by unfold Hid; rw [← hTT]; exact gtL_fits _ _ _ _ _
  have HTV : Hid (∀ i j, i < A → j < B → nth (dftL (colL xs A B j) za) i * tw i j % 18446744069414584321 = nth T (i * B + j)) := fun i j hi hj => by
    rw [← hTT, nth_gtL _ _ _ _ _ _ (row_in hi hj), (at_row hj).1, (at_row hj).2]
  rw [hTT]
  clear hN hx hxl hC0 hC1 hT htw h00 h01 h02 h10 h11 h12 HK hza hzb hTT
  obtain ⟨W1, hW1, hb1, x0, x1⟩ := two_boxes w #[.func (.func 16) #[] #[.pointer (some ⟨q, 0, none⟩)]] #[.int .i64 k, .int .i64 N, .slice (some ⟨b, off, none⟩) 2 cap] 63 24
  have HW1 := Lib.hid hW1
  have HB1 := Lib.hid hb1
  have X0 := Lib.hid x0
  have X1 := Lib.hid x1
  have hsz1 := block_lt x1
  clear hW1 hb1 x0 x1
  have D2 : W1.cell? ⟨w.heap.size + 1, 2, none⟩ = some (.slice (some ⟨b, off, none⟩) 2 cap) := block_cell X1.out 2
  obtain ⟨e0, e1, e2, e3, e4, e5⟩ := KK.out W1 HB1.out
  go_enter Tryz.func82, Tryz.ntmps82
  go_wp2_with fail
  rw [HW1.out]
  go_quiet (fail)
  have hbq := below_drewN (Below.refl W1.heap.size W1) nq
  obtain ⟨wb, hwb⟩ : ∃ wb, W1.drewN nq = wb := ⟨_, rfl⟩
  rw [hwb] at hbq ⊢
  have HBB := Lib.hid (chain HB1.out hbq)
  have X0 := Lib.hid ((hbq.block _ (block_lt X0.out)).trans X0.out)
  have X1 := Lib.hid ((hbq.block _ (block_lt X1.out)).trans X1.out)
  have hsb : w.heap.size + 1 < wb.heap.size := block_lt X1.out
  clear hwb hbq D2 e0 e1 e2 e3 e4 e5
  have D1 : wb.cell? ⟨w.heap.size + 1, 1, none⟩ = some (.int .i64 N) := block_cell X1.out 1
  go_wp2_with (at_make; refine wpList_make_full _ rfl _ _ 25 rfl wb.heap.size 38 i0 (.int .u64 0) 1 Tryz.underlying25 hi hz0 hz1 .i64 .i64 N N N rfl rfl rfl rfl (by rw [hz2]; omega) (by unfold maxLen; omega) (Nat.le_refl _) ?_)
  intro w3 hown0 hgrow0
  have hownT := Own.made hown0 hgrow0
  have HOT := Lib.hid hownT
  have hg1 := hownT.base
  clear hown0 hgrow0 hownT D1
  go_wp2_with (at_make; refine wpList_make_full _ rfl _ _ 25 rfl w3.heap.size 38 i0 (.int .u64 0) 1 Tryz.underlying25 hi hz0 hz1 .i64 .i64 A A A rfl rfl rfl rfl (by rw [hz2]; omega) (by unfold maxLen; omega) (Nat.le_refl _) ?_)
  intro w4 hown0 hgrow0
  have hownC := Own.made hown0 hgrow0
  have HOC := Lib.hid (hownC.rebase HOT.out.below)
  have HOT := Lib.hid (HOT.out.later hownC.below)
  clear hown0 hgrow0 hownC
  have hgg : wb.heap.size < w3.heap.size := hg1.2
  have hg2 := HOC.out.base
  have HKB : Hid (∀ W, Below wb.heap.size wb W → Below w.heap.size w W) := fun W hW => chain HBB.out hW
  go_wp2_with fail
  go_loopw [37] (fun iv wr => ∃ (j : Nat) (old : Nat → Int), j ≤ B ∧ iv = .int .i64 j ∧ OwnAt .u64 38 wb wr wb.heap.size N (tF T B j 0) ∧ OwnAt .u64 38 wb wr w3.heap.size A old) (fun iv _ => B - (intOf iv).toNat)
  case atStart => exact ⟨0, fun _ => 0, Nat.zero_le _, rfl, own_eqz HOT.out (fun x => tF_start _ _ _), HOC.out⟩
  case round =>
    obtain ⟨j, old, hj, rfl, hoT, hoC⟩ := hrel
    by_cases hlt : j < B
    · have HO1 := Lib.hid hoT
      have HO2 := Lib.hid hoC
      obtain ⟨wo, rfl⟩ : ∃ wo : World, wo = wr := ⟨_, rfl⟩
      clear hoT hoC HOT HOC
      go_wp2_with fail
      go_loopw [41] (fun iv wi => ∃ i : Nat, i ≤ A ∧ iv = .int .i64 i ∧ OwnAt .u64 38 wb wi wb.heap.size N (tF T B j 0) ∧ OwnAt .u64 38 wb wi w3.heap.size A (fun r => if r < i then nth xs (r * B + j) else old r)) (fun iv _ => A - (intOf iv).toNat)
      case atStart => exact ⟨0, Nat.zero_le _, rfl, HO1.out, own_eqz HO2.out (fun x => if_neg (by omega))⟩
      case round =>
        obtain ⟨i, hi9, rfl, hoT, hoC⟩ := hrel
        by_cases hli : i < A
        · have hin := row_in hli hlt
          rw [← HN.out] at hin
          obtain ⟨bx, ox, rfl, hcx⟩ := (HX.out.below (HKB.out _ hoT.below)).at (by rw [HXL.out]; omega)
          obtain ⟨s, hs⟩ : ∃ s, i * B = s := ⟨_, rfl⟩
          rw [hs] at hin
          have m1 := mulN i B s hs
          have mw : IntKind.i64.wrap (s : Int) = (s : Int) := IntWalk.i64_in _ (by omega)
          have c1 := hcx (s + j) (by rw [HXL.out]; exact hin)
          have HS := Lib.hid hs
          obtain ⟨t, ht⟩ : ∃ t, s + j = t := ⟨_, rfl⟩
          have m2 : (s : Int) + (j : Int) = (t : Int) := by omega
          have mw2 : IntKind.i64.wrap (t : Int) = (t : Int) := IntWalk.i64_in _ (by omega)
          rw [ht] at c1 hin
          obtain ⟨x, hx⟩ : ∃ x, nth xs t = x := ⟨_, rfl⟩
          rw [hx] at c1
          have hcell := hoC.cell i hli
          rw [if_neg (Nat.lt_irrefl i)] at hcell
          have hfz := hoC.free i
          have hnext := hoC.store i hli x (f' := fun r => if r < i + 1 then nth xs (r * B + j) else old r) (by show (if i < i + 1 then _ else _) = _; rw [if_pos (by omega), HS.out, ht]; exact hx) (fun r _ hr => by
            by_cases h : r < i
            · rw [if_pos h, if_pos (by omega)]
            · rw [if_neg h, if_neg (by omega)])
          have HNC := Lib.hid hnext
          have HNT := Lib.hid (hoT.other w3.heap.size i (.int .u64 x) (by omega) (by omega))
          have g3 : (0 : Int) ≤ (t : Int) := by omega
          have g4 : (t : Int) < (N : Int) := by omega
          have g5 : (0 : Int) ≤ (i : Int) := by omega
          have g6 : (i : Int) < (A : Int) := by omega
          clear hcx hs ht hx hoT hoC hnext
          go_wp2_with fail
          go_roundw
          case rel => exact ⟨i + 1, by omega, by go_num, HNT.out, HNC.out⟩
          case measure => simp [intOf]; omega
        · have hiA : i = A := by omega
          have hcl := colL_len xs A B j
          have hrow : Row .u64 wr (some ⟨w3.heap.size, 0, none⟩) (colL xs A B j) := hoC.row hcl (fun x hx => by
            obtain ⟨r, hr, rfl⟩ := List.mem_map.1 hx
            simp only [List.mem_range] at hr
            exact HX.out.wf _ (nth_mem (by rw [HXL.out, HN.out]; exact row_in hr hlt))) (fun r hr => by rw [nth_colL _ _ _ _ _ hr, if_pos (by omega)]) (by omega)
          have HCR := Lib.hid hrow
          have HCL := Lib.hid hcl
          have HO3 := Lib.hid hoT
          have HO4 := Lib.hid hoC
          have HBR := Lib.hid (HKB.out _ hoT.below)
          have hDL : Hid ((dftL (colL xs A B j) za).length = A) := (dftL_len _ _).trans hcl
          obtain ⟨e0, e1, e2, _, _, _⟩ := KK.out wr HBR.out
          have R0 : wr.cell? ⟨w.heap.size, 0, none⟩ = some (.func (.func 16) #[] #[.pointer (some ⟨q, 0, none⟩)]) := (hoT.below.cell (p := ⟨w.heap.size, 0, none⟩) (block_lt X0.out)).trans (block_cell X0.out 0)
          have D2 : wr.cell? ⟨w.heap.size + 1, 2, none⟩ = some (.slice (some ⟨b, off, none⟩) 2 cap) := (hoT.below.cell (p := ⟨w.heap.size + 1, 2, none⟩) (block_lt X1.out)).trans (block_cell X1.out 2)
          have hbs := hoT.below.size
          have l0 : w.heap.size < wr.heap.size := by omega
          have l1 : w.heap.size + 1 < wr.heap.size := by omega
          have l2 : b < wr.heap.size := by omega
          have hb : Below wr.heap.size wr wr.drew := (Below.refl _ _).drew
          clear hrow hcl hoT hoC hiA
          go_wp2_with fail
          go_region_held3 (fun w' => w'.cell? ⟨w.heap.size, 0, none⟩ = some (.func (.func 16) #[] #[.pointer (some ⟨q, 0, none⟩)]) ∧ w'.cell? ⟨w.heap.size + 1, 2, none⟩ = some (.slice (some ⟨b, off, none⟩) 2 cap) ∧ w'.cell? ⟨b, off, none⟩ = some (.int .i64 k0) ∧ w'.cell? ⟨b, off + 1, none⟩ = some (.int .i64 A) ∧ w'.cell? ⟨b, off + 2, none⟩ = some (.slice a0 m0 c0))
            (first | exact ⟨R0, D2, e0, e1, e2⟩ | exact ⟨(hb.cell (p := ⟨w.heap.size, 0, none⟩) l0).trans R0, (hb.cell (p := ⟨w.heap.size + 1, 2, none⟩) l1).trans D2, (hb.cell (p := ⟨b, off, none⟩) l2).trans e0, (hb.cell (p := ⟨b, off + 1, none⟩) l2).trans e1, (hb.cell (p := ⟨b, off + 2, none⟩) l2).trans e2⟩ | fail)
            ((first
              | (go_at_call 34; ((with_reducible refine (HC0.out _ _ _ _ (chain HBR.out hb) (HCR.out.below hb) HCL.out).mono ?_); rintro e z1 ⟨a3, cap3, rfl, ho3, hf3, hl3, hc⟩; have hb := chain hb hc; simp only [hDL.out] at ho3 hl3 ⊢))
              | fail))
          obtain ⟨V, hV⟩ : ∃ V, dftL (colL xs A B j) za = V := ⟨_, rfl⟩
          rw [hV] at ho3 hf3 hDL
          have HTV2 : Hid (∀ i, i < A → nth V i * tw i j % 18446744069414584321 = nth T (i * B + j)) := fun i hi => by rw [← hV]; exact HTV.out i j hi hlt
          have ho3 : z1.ownsRow wr.heap.size 38 1 (.slice a3 A cap3) A (V.map (Value.int .u64)) := ho3
          have hV3 := Lib.hid ho3
          have hVF := Lib.hid hf3
          have hO5 := Lib.hid (HO3.out.later hb)
          have hO6 := Lib.hid (HO4.out.later hb)
          obtain ⟨BV, hBV⟩ : ∃ BV, wr.heap.size = BV := ⟨_, rfl⟩
          rw [hBV] at hV3 hbs
          have hgV : wb.heap.size < BV := by have := HO3.out.base; omega
          clear R0 D2 e0 e1 e2 hV ho3 hf3 hc hb hBV HCR HCL
          go_wp2_with fail
          go_loopw [65] (fun iv wi => ∃ i : Nat, i ≤ A ∧ iv = .int .i64 i ∧ OwnAt .u64 38 wb wi wb.heap.size N (tF T B j i) ∧ OwnAt .u64 38 wb wi w3.heap.size A (fun r => if r < A then nth xs (r * B + j) else old r) ∧ Hid (wi.ownsRow BV 38 1 (.slice a3 A cap3) A (V.map (Value.int .u64)))) (fun iv _ => A - (intOf iv).toNat)
          case atStart => exact ⟨0, Nat.zero_le _, rfl, hO5.out, own_eqz hO6.out (fun x => by by_cases h : x < A; (rw [if_pos h, if_pos (by omega)]); (rw [if_neg h, if_neg (by omega)])), hV3.out⟩
          case round =>
            obtain ⟨i, hi9, rfl, hoT, hoC, HV⟩ := hrel
            by_cases hli : i < A
            · have hin := row_in hli hlt
              rw [← HN.out] at hin
              obtain ⟨bv, ov, rfl, hcv⟩ := (Row.of_own (k := .u64) hDL (by omega) hVF.out HV.out).at (by rw [hDL]; omega)
              have c1 := hcv i (by rw [hDL]; exact hli)
              have fv := fits_u64.1 (hVF.out _ (nth_mem (show i < V.length by rw [hDL]; exact hli)))
              obtain ⟨s, hs⟩ : ∃ s, i * B = s := ⟨_, rfl⟩
              rw [hs] at hin
              have m1 := mulN i B s hs
              have mw : IntKind.i64.wrap (s : Int) = (s : Int) := IntWalk.i64_in _ (by omega)
              have hTV := HTV2.out i hli
              have hta := tF_at T B i j hlt
              have hto : ∀ x, x ≠ i * B + j → tF T B j (i + 1) x = tF T B j i x := fun x hx => tF_other T B i j x hlt hx
              rw [hs] at hTV hta hto
              obtain ⟨t, ht⟩ : ∃ t, s + j = t := ⟨_, rfl⟩
              have m2 : (s : Int) + (j : Int) = (t : Int) := by omega
              have mw2 : IntKind.i64.wrap (t : Int) = (t : Int) := IntWalk.i64_in _ (by omega)
              rw [ht] at hin hTV hta hto
              obtain ⟨x, hx⟩ : ∃ x, nth V i = x := ⟨_, rfl⟩
              rw [hx] at c1 fv hTV
              have CT : Hid (∀ W, Below wb.heap.size wb W → Calls Tryz.prog 87 #[.int .i64 i, .int .i64 j] W fun e w' => e = .returned (.int .u64 (tw i j)) ∧ Below W.heap.size W w') := fun W hW => HT.out W i j (HKB.out W hW) hli hlt
              have ft := HTW.out i j
              obtain ⟨y, hy⟩ : ∃ y, tw i j = y := ⟨_, rfl⟩
              rw [hy] at CT ft hTV
              have HTA := Lib.hid hta
              have HTO := Lib.hid hto
              have HTVV := Lib.hid hTV
              have g3 : (0 : Int) ≤ (t : Int) := by omega
              have g4 : (t : Int) < (N : Int) := by omega
              have g5 : (0 : Int) ≤ (i : Int) := by omega
              have g6 : (i : Int) < (A : Int) := by omega
              have HO7 := Lib.hid hoT
              have HO8 := Lib.hid hoC
              clear hcv hs ht hx hy hta hto hTV hoT hoC
              go_wp2_with fail
              refine (CT.out _ HO7.out.below).mono ?_; rintro e w5 ⟨rfl, hb5⟩
              have hoT := HO7.out.later hb5
              have hoC := HO8.out.later hb5
              have hV5 := own_later HV.out hb5
              have hcell := hoT.cell t hin
              rw [HTA.out.1] at hcell
              have hfz := hoT.free t
              have hnext := hoT.store t hin (x * y % 18446744069414584321) (f' := tF T B j (i + 1)) (by rw [HTA.out.2, HTVV.out]) (fun r _ hr => HTO.out r hr)
              have HNT := Lib.hid hnext
              have HNC := Lib.hid (hoC.other wb.heap.size t (.int .u64 (x * y % 18446744069414584321)) (by omega) (Nat.le_refl _))
              have HNV := Lib.hid (row_keep (g' := wb.heap.size) (i := t) (v := .int .u64 (x * y % 18446744069414584321)) hV5 hgV)
              clear hoT hoC hV5 hnext c1
              go_wp2_with fail
              refine (gold_Mul x y _ (by omega) (by omega) (by omega) (by omega)).mono ?_; rintro e w6 ⟨rfl, rfl⟩
              go_wp2_with fail
              go_roundw
              case rel => exact ⟨i + 1, by omega, by go_num, HNT.out, HNC.out, HNV.out⟩
              case measure => simp [intOf]; omega
            · have hiA : i = A := by omega
              subst hiA
              have HNT : Hid (OwnAt .u64 38 wb wr wb.heap.size N (tF T B (j + 1) 0)) := hoT.congr (fun x hx => tF_next T i B j x (by omega) (by rw [← HN.out]; exact hx))
              have HNC := Lib.hid hoC
              clear hoT hoC
              go_wp2_with fail
              go_roundw
              case rel => exact ⟨j + 1, _, by omega, by go_num, HNT.out, HNC.out⟩
              case measure => simp [intOf]; omega
    · have hjB : j = B := by omega
      subst hjB
      have hrow := hoT.row (xs := T) HTL.out HTF.out (fun i _ => (tF_end T j i (by omega)).symm) hN2
      have HRT := Lib.hid hrow
      have HBW := Lib.hid hoT.below
      have D1 : wr.cell? ⟨w.heap.size + 1, 1, none⟩ = some (.int .i64 N) := (hoT.below.cell (p := ⟨w.heap.size + 1, 1, none⟩) (block_lt X1.out)).trans (block_cell X1.out 1)
      have X0 := Lib.hid ((hoT.below.block _ (block_lt X0.out)).trans X0.out)
      have X1 := Lib.hid ((hoT.below.block _ (block_lt X1.out)).trans X1.out)
      have hbsz := hoT.below.size
      obtain ⟨wy, rfl⟩ : ∃ wy : World, wy = wr := ⟨_, rfl⟩
      have HBY := Lib.hid (HKB.out _ HBW.out)
      have HG : Hid (∀ i r, i < A → r < j → nth (grL T A j zb) (i * j + r) = nth (dftL (rowL T j i) zb) r) := fun i r h1 h2 => by rw [nth_grL _ _ _ _ _ (row_in h1 h2), (at_row h2).1, (at_row h2).2]
      have HGL : Hid ((grL T A j zb).length = N) := by unfold Hid; rw [grL_len]; exact HN.out.symm
      have HGF : Hid (∀ x ∈ grL T A j zb, fits .u64 x) := by
        intro x hx
        obtain ⟨i, hi, rfl⟩ := List.mem_map.1 hx
        simp only [List.mem_range] at hi
        have h2 := dftL_range (rowL T j (i / j)) zb (i % j) (by rw [rowL_len]; exact Nat.mod_lt _ (by omega))
        exact fits_u64.2 (by omega)
      obtain ⟨G, hG⟩ : ∃ G, grL T A j zb = G := ⟨_, rfl⟩
      have HGG := Lib.hid hG
      rw [hG] at HG HGL HGF
      clear hrow hoT hoC HOT HOC hG
      go_wp2_with (at_make; refine wpList_make_own _ rfl _ _ 25 rfl wy.heap.size 38 i0 (.int .u64 0) 1 Tryz.underlying25 hi hz0 hz1 .i64 .i64 N N rfl rfl rfl (by rw [hz2]; omega) (by unfold maxLen; omega) (Nat.le_refl _) ?_)
      intro w7 hown0 hgrow0
      have hown : Own .u64 38 wy w7 (.slice (some ⟨wy.heap.size, 0, none⟩) 0 N) 0 (nth G) := ⟨hown0, (Below.refl _ _).grown hgrow0 (Nat.le_refl _) (by simp)⟩
      have HOW := Lib.hid hown
      clear hown0 hgrow0 hown D1
      go_wp2_with fail
      go_loopw [19, 89] (fun v iv wr => ∃ (i n : Nat), i ≤ A ∧ Hid (n = i * j) ∧ n ≤ N ∧ iv = .int .i64 i ∧ Own .u64 38 wy wr v n (nth G)) (fun _ iv _ => A - (intOf iv).toNat)
      case atStart => exact ⟨0, 0, Nat.zero_le _, by unfold Hid; rw [Nat.zero_mul], by omega, rfl, HOW.out⟩
      case round =>
        obtain ⟨i, n, hi9, HNI, hnN, rfl, hown⟩ := hrel
        by_cases hli : i < A
        · have HB9 := Lib.hid (chain HBY.out hown.below)
          have hrow : Row .u64 wr (some ⟨wb.heap.size, n, none⟩) (rowL T j i) := by
            have h := (HRT.out.below hown.below).cut n (n + j)
            rw [Nat.zero_add] at h
            have e : (T.take (n + j)).drop n = rowL T j i := by
              have hin : n + j ≤ N := by rw [HNI.out, HN.out, ← Nat.succ_mul]; exact Nat.mul_le_mul_right j (by omega)
              apply ext_nth (by rw [rowL_len]; simp [HTL.out]; omega)
              intro r hr
              have hr2 : r < j := by simp [HTL.out] at hr; omega
              rw [nth_drop, nth_take (by omega), nth_rowL _ _ _ _ hr2, HNI.out]
            rwa [e] at h
          have HCR := Lib.hid hrow
          have HCL : Hid ((rowL T j i).length = j) := rowL_len _ _ _
          have hDL : Hid ((dftL (rowL T j i) zb).length = j) := (dftL_len _ _).trans HCL.out
          have HGI : Hid (∀ r, r < j → nth G (n + r) = nth (dftL (rowL T j i) zb) r) := fun r hr => by rw [HNI.out]; exact HG.out i r hli hr
          have hnj : n + j ≤ N := by rw [HNI.out, HN.out, ← Nat.succ_mul]; exact Nat.mul_le_mul_right j (by omega)
          obtain ⟨_, _, _, e3, e4, e5⟩ := KK.out wr HB9.out
          have R0 : wr.cell? ⟨w.heap.size, 0, none⟩ = some (.func (.func 16) #[] #[.pointer (some ⟨q, 0, none⟩)]) := (hown.below.cell (p := ⟨w.heap.size, 0, none⟩) (block_lt X0.out)).trans (block_cell X0.out 0)
          have D2 : wr.cell? ⟨w.heap.size + 1, 2, none⟩ = some (.slice (some ⟨b, off, none⟩) 2 cap) := (hown.below.cell (p := ⟨w.heap.size + 1, 2, none⟩) (block_lt X1.out)).trans (block_cell X1.out 2)
          have hbs := hown.below.size
          have l0 : w.heap.size < wr.heap.size := by omega
          have l1 : w.heap.size + 1 < wr.heap.size := by omega
          have l2 : b < wr.heap.size := by omega
          have hb : Below wr.heap.size wr wr.drew := (Below.refl _ _).drew
          have n0 : ∀ k' : Nat, k' < wy.heap.size → u19.ownBlock ≠ some k' := fun k' hk' h => by have := (hown.own.lt _ h).1; omega
          have n1 := n0 w.heap.size (by omega)
          have n2 := n0 (w.heap.size + 1) (by omega)
          have n3 := n0 b (by omega)
          have mA : (i : Int) * (j : Int) = (n : Int) := by rw [HNI.out]; simp
          have mwA : IntKind.i64.wrap (n : Int) = (n : Int) := IntWalk.i64_in _ (by omega)
          have mi : IntKind.i64.wrap ((i : Int) + 1) = (i : Int) + 1 := IntWalk.i64_in _ (by omega)
          have mB : ((i : Int) + 1) * (j : Int) = ((n + j : Nat) : Int) := by rw [Int.add_mul, Int.one_mul, mA]; simp
          obtain ⟨n', hn'⟩ : ∃ n', n + j = n' := ⟨_, rfl⟩
          rw [hn'] at mB hnj
          have mwB : IntKind.i64.wrap (n' : Int) = (n' : Int) := IntWalk.i64_in _ (by omega)
          have s1 : (0 : Int) ≤ (n : Int) := by omega
          have s2 : (n : Int) ≤ (n' : Int) := by omega
          have s3 : (n' : Int) ≤ (N : Int) := by omega
          have s4 : n' - n = j := by omega
          have s5 : (n' : Int) - (n : Int) = (j : Int) := by omega
          have hNn : ¬ N = n := by omega
          clear hrow
          go_wp2_with fail
          go_region_held3 (fun w' => w'.cell? ⟨w.heap.size, 0, none⟩ = some (.func (.func 16) #[] #[.pointer (some ⟨q, 0, none⟩)]) ∧ w'.cell? ⟨w.heap.size + 1, 2, none⟩ = some (.slice (some ⟨b, off, none⟩) 2 cap) ∧ w'.cell? ⟨b, off + 3, none⟩ = some (.int .i64 k1) ∧ w'.cell? ⟨b, off + 4, none⟩ = some (.int .i64 j) ∧ w'.cell? ⟨b, off + 5, none⟩ = some (.slice a1 m1 c1))
            (first | exact ⟨R0, D2, e3, e4, e5⟩ | exact ⟨(hb.cell (p := ⟨w.heap.size, 0, none⟩) l0).trans R0, (hb.cell (p := ⟨w.heap.size + 1, 2, none⟩) l1).trans D2, (hb.cell (p := ⟨b, off + 3, none⟩) l2).trans e3, (hb.cell (p := ⟨b, off + 4, none⟩) l2).trans e4, (hb.cell (p := ⟨b, off + 5, none⟩) l2).trans e5⟩ | exact ⟨hgrow.cell (a := ⟨w.heap.size, 0, none⟩) ((hb.cell (p := ⟨w.heap.size, 0, none⟩) l0).trans R0) (Ne.symm n1), hgrow.cell (a := ⟨w.heap.size + 1, 2, none⟩) ((hb.cell (p := ⟨w.heap.size + 1, 2, none⟩) l1).trans D2) (Ne.symm n2), hgrow.cell (a := ⟨b, off + 3, none⟩) ((hb.cell (p := ⟨b, off + 3, none⟩) l2).trans e3) (Ne.symm n3), hgrow.cell (a := ⟨b, off + 4, none⟩) ((hb.cell (p := ⟨b, off + 4, none⟩) l2).trans e4) (Ne.symm n3), hgrow.cell (a := ⟨b, off + 5, none⟩) ((hb.cell (p := ⟨b, off + 5, none⟩) l2).trans e5) (Ne.symm n3)⟩ | fail)
            ((first
              | (go_at_call 34; ((with_reducible refine (HC1.out _ _ _ _ (chain HB9.out hb) (HCR.out.below hb) HCL.out).mono ?_); rintro e z1 ⟨a5, cap5, rfl, ho5, hf5, hl5, hc⟩; have hb := chain hb hc; simp only [hDL.out] at ho5 hl5 ⊢; have hR5 := Row.of_own (k := .u64) hDL.out (by omega) hf5 ho5; obtain ⟨b5, o5, rfl, hc5⟩ := hR5.at (by rw [hDL.out]; omega)))
              | (refine step_append_lies _ (by rfl) _ _ 25 (by rfl) wy.heap.size 38 i0 _ 1 8 Tryz.underlying25 hi hz0 hz1 hz2 rfl (by omega) _ n _ (by rfl) (own_later hown.own hb) ⟨b5, o5, none⟩ j cap5 ((dftL (rowL T j i) zb).map (Value.int .u64)) (by rfl) (by rw [List.length_map, hDL.out, Nat.mul_one]) (news_row hc5) (ints_oneCell _ _) (by omega) (by unfold maxLen; omega) (by omega) (by have := hb.size; omega) _ rfl ?_; intro gg cap9 w9 hown' hgrow hat hlt0)
              | fail))
          have hown2 : w9.ownsRow wy.heap.size 38 1 (.slice (some ⟨gg, 0, none⟩) n' cap9) n' ((List.range n').map fun r => Value.int .u64 (nth G r)) := by
            have h := hown'
            rw [rows_join n j (nth G) _ hDL.out HGI.out, hn'] at h
            exact h
          have hnext : Own .u64 38 wy w9 (.slice (some ⟨gg, 0, none⟩) n' cap9) n' (nth G) := ⟨hown2, (chain hown.below hb).grown hgrow (by have := hb.size; omega) (own_lt hown.own)⟩
          have HNX := Lib.hid hnext
          have HNI2 : Hid (n' = (i + 1) * j) := by unfold Hid; rw [← hn', HNI.out, Nat.succ_mul]
          clear R0 D2 e3 e4 e5 hown' hown2 hgrow hat hnext hb hc ho5 hf5 hR5 hc5
          go_wp2_with fail
          go_roundw
          case rel => exact ⟨i + 1, n', by omega, HNI2.out, hnj, by go_num, HNX.out⟩
          case measure => simp [intOf]; omega
        · have hiA : i = A := by omega
          have hnN2 : n = N := by rw [HNI.out, hiA, ← HN.out]
          have hres := (hown.givesO (xs := G) (HGL.out.trans hnN2.symm) HGF.out (fun r hr => rfl) (by omega)).step HBY.out
          have HRES := Lib.hid hres
          clear hown hres
          go_wp2_with fail
          go_ret
          rw [HGG.out]
          exact HRES.out
end Go.Proofs.YtcckfeikaolfgaaGreat

namespace Go.Proofs.YtcckfeikaolfgaaGreat
open Go.RowKit
set_option linter.unusedVariables false
set_option linter.unusedSimpArgs false
set_option maxRecDepth 100000
theorem permCoprime_ok (a b : Nat) (w : World) (h : Sides a b) (hg : Nat.gcd a b = 1) :
    Calls Tryz.prog 103 #[.int .i64 a, .int .i64 b] w fun e w' => e = .returned (.int .i64 0) ∧ Below w.heap.size w w' := by
  have H := Lib.hid h
  have HG := Lib.hid hg
  obtain ⟨h1, h2, h3, h4, h5⟩ := h
  clear h5 hg
  go_enter Tryz.func103, Tryz.ntmps103
  go_wp2_with fail
  refine (permSides_yes _ _ _ H.out).mono ?_; rintro e w' ⟨rfl, rfl⟩
  go_wp2_with fail
  refine (factGcd a b _ (by omega) (by omega)).mono ?_
  rintro e w' ⟨rfl, hb⟩
  rw [HG.out]
  go_wp2_with fail
  go_ret
  exact ⟨rfl, hb⟩
theorem crt_bd (a b : Nat) : ∀ x ∈ crtL a b, ∃ t, t < a * b ∧ x = ((invOf (a * b) (crtF a b) t : Nat) : Int) := by
  intro x hx
  obtain ⟨i, hi, rfl⟩ := List.mem_map.1 hx
  exact ⟨i, by simpa using hi, rfl⟩
theorem crtL_len (a b : Nat) : (crtL a b).length = a * b := mapL_len _ _
set_option maxHeartbeats 1600000 in
theorem permCrt_ok (a b : Nat) (w : World) (h : Sides a b) (hg : Nat.gcd a b = 1) :
    Calls Tryz.prog 85 #[.int .i64 a, .int .i64 b] w (GivesRowE .i64 (crtL a b) 0 w) := by
  obtain ⟨i0, hi, hz0, hz1, hz2⟩ := info_parts info_int
  have H := Lib.hid h
  have HG := Lib.hid hg
  obtain ⟨h1, h2, h3, h4, h5⟩ := h
  have hab : a * b ≤ 16777216 := by rw [← Int.natCast_mul] at h5; omega
  have hw : IntKind.i64.wrap ((a : Int) * (b : Int)) = ((a * b : Nat) : Int) := by rw [← Int.natCast_mul]; exact IntWalk.i64_in _ (by omega)
  have HB : Hid (∀ k, k < a * b → crtF a b k < a * b) := fun k hk => crtF_lt a b k hk
  have HL := Lib.hid (crtL_len a b)
  have ha0 : ((a : Int) == 0) = false := bno (by omega)
  have hb0 : ((b : Int) == 0) = false := bno (by omega)
  have ha0' : ¬ (a : Int) = 0 := by omega
  have ha0'' : ¬ a = 0 := by omega
  have hb0' : ¬ (b : Int) = 0 := by omega
  have hb0'' : ¬ b = 0 := by omega
  obtain ⟨N, hN⟩ : ∃ N, a * b = N := ⟨_, rfl⟩
  rw [hN] at hw hab
  have HN := Lib.hid hN
  clear hN h5 hg
  go_enter Tryz.func85, Tryz.ntmps85
  go_wp2_with fail
  refine (permCoprime_ok a b _ H.out HG.out).mono ?_
  rintro e w0 ⟨rfl, hbl⟩
  have HB0 := Lib.hid hbl
  clear hbl
  go_wp2_with (at_make; refine wpList_make_full _ rfl _ _ 71 rfl w0.heap.size 3 i0 (.int .i64 0) 1 Tryz.underlying71 hi hz0 hz1 .i64 .i64 N N N rfl rfl rfl rfl (by rw [hz2]; omega) (by unfold maxLen; omega) (Nat.le_refl _) ?_)
  intro w1 hown0 hgrow0
  have hown := Own.made hown0 hgrow0
  clear hown0 hgrow0
  go_wp2_with fail
  go_loopw [22] (fun i wr => ∃ k : Nat, k ≤ N ∧ i = .int .i64 k ∧ OwnAt .i64 3 w0 wr w0.heap.size N (fun n => if among (mapL N (crtF a b)) k n = 1 then (invOf N (crtF a b) n : Int) else 0)) (fun i _ => N - (intOf i).toNat)
  case atStart => exact ⟨0, Nat.zero_le _, rfl, OwnAt.eq hown (fun n => by rw [among_zero]; rfl)⟩
  case round =>
    obtain ⟨k, hk, rfl, hown⟩ := hrel
    by_cases hlt : k < N
    · have hq := HB.out k (by rw [HN.out]; exact hlt)
      rw [HN.out] at hq
      obtain ⟨x1, x2, y, hx1, hx2, hy⟩ : ∃ x1 x2 y : Nat, k % a = x1 ∧ x1 * b = x2 ∧ k % b = y := ⟨_, _, _, rfl, rfl, rfl⟩
      have e1 : (k : Int).tmod (a : Int) = (x1 : Int) := by rw [Int.tmod_eq_emod_of_nonneg (by omega), ← Int.natCast_emod, hx1]
      have hval : crtF a b k = x2 + y := by unfold crtF; rw [hx1, hx2, hy]
      rw [hval] at hq
      have e2 : IntKind.i64.wrap ((x1 : Int) * (b : Int)) = (x2 : Int) := by rw [← Int.natCast_mul, hx2]; exact IntWalk.i64_in _ (by omega)
      have e3 : (k : Int).tmod (b : Int) = (y : Int) := by rw [Int.tmod_eq_emod_of_nonneg (by omega), ← Int.natCast_emod, hy]
      have e3' : (k : Int) % (b : Int) = (y : Int) := by rw [← Int.natCast_emod, hy]
      have e1' : (k : Int) % (a : Int) = (x1 : Int) := by rw [← Int.natCast_emod, hx1]
      have e4 : IntKind.i64.wrap ((x2 : Int) + (y : Int)) = ((x2 + y : Nat) : Int) := by rw [← Int.natCast_add]; exact IntWalk.i64_in _ (by omega)
      have hnk : nth (mapL N (crtF a b)) k = ((x2 + y : Nat) : Int) := by rw [nth_mapL _ _ _ hlt, hval]
      have hinv : invOf N (crtF a b) (x2 + y) = k := by rw [← hval, ← HN.out]; exact invOf_of _ _ (crtF_inj a b HG.out) k (by rw [HN.out]; exact hlt)
      obtain ⟨m, hm⟩ : ∃ m, x2 + y = m := ⟨_, rfl⟩
      rw [hm] at e4 hq hnk hinv
      have hfz := hown.free m
      have hcell := hown.cell m hq
      have hnext := hown.store m hq (k : Int) (f' := fun n => if among (mapL N (crtF a b)) (k + 1) n = 1 then (invOf N (crtF a b) n : Int) else 0) (by show (if among (mapL N (crtF a b)) (k + 1) m = 1 then (invOf N (crtF a b) m : Int) else 0) = _; rw [among_new _ k m hnk, if_pos rfl, hinv]) (fun j _ hj => by show (if among (mapL N (crtF a b)) (k + 1) j = 1 then (invOf N (crtF a b) j : Int) else 0) = _; rw [among_old _ k j (by rw [hnk]; omega)])
      have HNX := Lib.hid hnext
      have hk0 : (0 : Int) ≤ (k : Int) := by omega
      have ha1 : (1 : Int) ≤ (a : Int) := by omega
      have g1 : (0 : Int) ≤ (m : Int) := by omega
      have g2 : (m : Int) < (N : Int) := by omega
      obtain ⟨z, hz⟩ : ∃ z : Int, (if among (mapL N (crtF a b)) k m = 1 then (invOf N (crtF a b) m : Int) else 0) = z := ⟨_, rfl⟩
      rw [hz] at hcell
      clear hx1 hx2 hy hval hnext hnk hinv hz hown hm
      go_wp2_with fail
      go_still_tail 12, (by kernel_rfl)
      go_wp2_with fail
      go_roundw
      case rel => exact ⟨k + 1, by omega, by go_num, HNX.out.later (Below.refl _ _).drew⟩
      case measure => simp [intOf]; omega
    · have hkn : k = N := by omega
      have hall : ∀ m, m < N → among (mapL N (crtF a b)) k m = 1 := by
        intro m hm
        obtain ⟨i, hi, e⟩ := Fld.onto N (crtF a b) (fun i hi => by have := HB.out i (by rw [HN.out]; exact hi); rw [HN.out] at this; exact this) (fun i j hij hj => crtF_inj a b HG.out i j hij (by rw [HN.out]; exact hj)) m hm
        unfold among
        rw [if_pos ⟨i, by omega, by rw [nth_mapL _ _ _ hi, e]⟩]
      have hrow := OwnAt.row hown (xs := crtL a b) (by rw [HL.out, HN.out]) (fun x hx => by
        obtain ⟨t, ht, rfl⟩ := crt_bd a b x hx
        have := (invOf_lt _ _ (crtF_lt a b) (crtF_inj a b HG.out) t ht).1
        have := HN.out
        exact fits_nat (by omega)) (fun i hi => by
          unfold crtL; rw [nth_mapL _ _ _ (by rw [HN.out]; exact hi), if_pos (hall i hi), HN.out]) hab
      have hb := hown.below
      have HR := Lib.hid hrow
      clear hown hrow hall
      go_wp2_with fail
      go_ret2
      exact ⟨some ⟨w0.heap.size, 0, none⟩, N, by simp [HL.out, HN.out], HR.out, ⟨by simp [HL.out, HN.out], fun h => by cases h⟩, chain HB0.out hb⟩
end Go.Proofs.YtcckfeikaolfgaaGreat

namespace Go.Proofs.YtcckfeikaolfgaaGreat
open Go.RowKit
set_option linter.unusedVariables false
set_option linter.unusedSimpArgs false
set_option maxRecDepth 100000
theorem good1 (i j a b p q : Nat) (w : World) (hcb : w.cell? ⟨p, 0, none⟩ = some (.int .i64 b)) (hca : w.cell? ⟨q, 0, none⟩ = some (.int .i64 a)) (hi : i < a) (hj : j < b) (hab : a * b ≤ 16777216) :
    Calls Tryz.prog 105 #[.int .i64 i, .int .i64 j, .pointer (some ⟨p, 0, none⟩), .pointer (some ⟨q, 0, none⟩)] w fun e w' => e = .returned (.int .i64 (((i * b + j * a) % (a * b) : Nat) : Int)) ∧ w = w' := by
  have m1 : i * b ≤ a * b := Nat.mul_le_mul_right b (by omega)
  have m2 : j * a ≤ a * b := by rw [Nat.mul_comm a b]; exact Nat.mul_le_mul_right a (by omega)
  have hpos : 0 < a * b := Nat.mul_pos (by omega) (by omega)
  have e1 : IntKind.i64.wrap ((i : Int) * (b : Int)) = ((i * b : Nat) : Int) := by rw [← Int.natCast_mul]; exact IntWalk.i64_in _ (by omega)
  have e2 : IntKind.i64.wrap ((j : Int) * (a : Int)) = ((j * a : Nat) : Int) := by rw [← Int.natCast_mul]; exact IntWalk.i64_in _ (by omega)
  have e3 : IntKind.i64.wrap ((a : Int) * (b : Int)) = ((a * b : Nat) : Int) := by rw [← Int.natCast_mul]; exact IntWalk.i64_in _ (by omega)
  have hlt := Nat.mod_lt (i * b + j * a) hpos
  obtain ⟨x, hx⟩ : ∃ x, i * b = x := ⟨_, rfl⟩
  obtain ⟨y, hy⟩ : ∃ y, j * a = y := ⟨_, rfl⟩
  obtain ⟨N, hN⟩ : ∃ N, a * b = N := ⟨_, rfl⟩
  rw [hx] at e1 hlt m1 ⊢
  rw [hy] at e2 hlt m2 ⊢
  rw [hN] at e3 hlt hpos m1 m2 hab ⊢
  obtain ⟨r, hr⟩ : ∃ r, (x + y) % N = r := ⟨_, rfl⟩
  have e4 : IntKind.i64.wrap ((x : Int) + (y : Int)) = ((x + y : Nat) : Int) := by rw [← Int.natCast_add]; exact IntWalk.i64_in _ (by omega)
  have e5 : ((x + y : Nat) : Int).tmod (N : Int) = (r : Int) := by rw [Int.tmod_eq_emod_of_nonneg (by omega), ← Int.natCast_emod, hr]
  have e6 : ((x + y : Nat) : Int) % (N : Int) = (r : Int) := by rw [← Int.natCast_emod, hr]
  have n0 : ((N : Int) == 0) = false := bno (by omega)
  have n1 : ¬ (N : Int) = 0 := by omega
  have n2 : ¬ N = 0 := by omega
  rw [hr] at hlt ⊢
  obtain ⟨z, hz⟩ : ∃ z, x + y = z := ⟨_, rfl⟩
  rw [hz] at e4 e5 e6
  clear hx hy hN hr hz m1 m2
  go_enter Tryz.func105, Tryz.ntmps105
  go_wp2_with fail
  go_ret
  exact ⟨rfl, rfl⟩
theorem gooL_len (a b : Nat) : (gooL a b).length = a * b := mapL_len _ _
set_option maxHeartbeats 400000 in
theorem permGood_ok (a b : Nat) (w : World) (h : Sides a b) (hg : Nat.gcd a b = 1) :
    Calls Tryz.prog 84 #[.int .i64 a, .int .i64 b] w (GivesRowE .i64 (gooL a b) 0 w) := by
  have hent : ∀ args w, (callFunc 105 args).run Tryz.prog w = .ok (.enter 105 args) w := enters_of Tryz.func105 (by kernel_rfl) rfl
  have h' := h
  obtain ⟨h1, h2, h3, h4, h5⟩ := h'
  have hab : a * b ≤ 16777216 := by rw [← Int.natCast_mul] at h5; omega
  have hfit : ∀ i j, i < a → j < b → fits .i64 (((i * b + j * a) % (a * b) : Nat) : Int) := fun i j hi hj => fits_nat (by have := Nat.mod_lt (i * b + j * a) (Nat.mul_pos (show 0 < a by omega) (show 0 < b by omega)); omega)
  have HFT := Lib.hid hfit
  have hg1 : Hid (∀ (i j p q : Nat) (wr : World), i < a → j < b → wr.cell? ⟨p, 0, none⟩ = some (.int .i64 b) → wr.cell? ⟨q, 0, none⟩ = some (.int .i64 a) →
      Calls Tryz.prog 105 (#[.int .i64 i, .int .i64 j] ++ #[.pointer (some ⟨p, 0, none⟩), .pointer (some ⟨q, 0, none⟩)]) wr fun e w' => e = .returned (.int .i64 (((i * b + j * a) % (a * b) : Nat) : Int)) ∧ Below wr.heap.size wr w') :=
    fun i j p q wr hi hj hp hq => (good1 i j a b p q wr hp hq hi hj hab).mono fun e w' ⟨he, hw⟩ => ⟨he, hw ▸ Below.refl _ _⟩
  have H := Lib.hid h
  have HG := Lib.hid hg
  have ca : ((w.alloc (.cells #[.int .i64 a] 3)).alloc (.cells #[.int .i64 b] 3)).cell? ⟨w.heap.size, 0, none⟩ = some (.int .i64 a) := by
    rw [cell_past _ _ _ (by simp)]; exact one_new _ _ _
  have cb : ((w.alloc (.cells #[.int .i64 a] 3)).alloc (.cells #[.int .i64 b] 3)).cell? ⟨w.heap.size + 1, 0, none⟩ = some (.int .i64 b) := cell_new (by simp)
  have hsz : w.heap.size + 1 < ((w.alloc (.cells #[.int .i64 a] 3)).alloc (.cells #[.int .i64 b] 3)).heap.size := by simp
  have hbel : Below w.heap.size w ((w.alloc (.cells #[.int .i64 a] 3)).alloc (.cells #[.int .i64 b] 3)) := ((Below.refl _ _).alloc (Nat.le_refl _) _).alloc (by simp) _
  have CAB := Lib.hid (And.intro ca cb)
  have HSZ := Lib.hid (And.intro hsz hbel)
  clear hfit h h5 hg hsz hbel
  go_enter Tryz.func84, Tryz.ntmps84
  go_wp2_with fail
  refine (permCoprime_ok a b _ H.out HG.out).mono ?_
  rintro e w1 ⟨rfl, hb1⟩
  have ca1 := (hb1.cell (p := ⟨w.heap.size, 0, none⟩) (by have := HSZ.out.1; show w.heap.size < _; omega)).trans CAB.out.1
  have cb1 := (hb1.cell (p := ⟨w.heap.size + 1, 0, none⟩) HSZ.out.1).trans CAB.out.2
  have hs1 : w.heap.size + 1 < w1.heap.size := Nat.lt_of_lt_of_le HSZ.out.1 hb1.size
  have hbl : Below w.heap.size w w1 := HSZ.out.2.trans (hb1.mono (by have := HSZ.out.1; omega))
  have HF : Hid (∀ (i j : Nat) (wr : World), i < a → j < b → Below w1.heap.size w1 wr →
      Calls Tryz.prog 105 (#[.int .i64 i, .int .i64 j] ++ #[.pointer (some ⟨w.heap.size + 1, 0, none⟩), .pointer (some ⟨w.heap.size, 0, none⟩)]) wr fun e w' => e = .returned (.int .i64 (((i * b + j * a) % (a * b) : Nat) : Int)) ∧ Below wr.heap.size wr w') :=
    fun i j wr hi hj hb => hg1.out i j _ _ wr hi hj ((hb.cell (by exact hs1)).trans cb1) ((hb.cell (by show w.heap.size < _; omega)).trans ca1)
  go_wp2_with fail
  refine (permTable a b (fun i j => (((i * b + j * a) % (a * b) : Nat) : Int)) _ _ _ hab (by omega) (by omega) HFT.out hent HF.out).mono ?_
  rintro e w' ⟨a', cap', rfl, hr, hcap, hb⟩
  go_wp2_with fail
  go_ret2
  exact ⟨a', cap', rfl, hr, hcap, chain hbl hb⟩
end Go.Proofs.YtcckfeikaolfgaaGreat

namespace Go.Proofs.YtcckfeikaolfgaaGreat
open Go.RowKit
set_option linter.unusedVariables false
set_option linter.unusedSimpArgs false
set_option maxRecDepth 100000
/-- What stands at the places of an order. -/
def mvL (p xs : List Int) : List Int := (List.range xs.length).map fun i => nth xs (nth p i).toNat
theorem mvL_len (p xs : List Int) : (mvL p xs).length = xs.length := by simp [mvL]
theorem nth_mvL (p xs : List Int) (i : Nat) (h : i < xs.length) : nth (mvL p xs) i = nth xs (nth p i).toNat := nth_ofFn _ _ _ h
theorem range_map_eq (k : IntKind) (xs : List Int) : xs.map (Value.int k) = (List.range xs.length).map fun j => Value.int k (nth xs j) := by
  apply List.ext_getElem (by simp)
  intro i h1 h2
  have : i < xs.length := by simpa using h1
  simp [nth, this]
theorem nth_memL (xs : List Int) (t : Nat) (h : t < xs.length) : nth xs t ∈ xs := by
  have e : nth xs t = xs[t] := by simp [nth, h]
  rw [e]; exact List.getElem_mem h
theorem splice_all {α : Type} (L M : List α) (h : L.length = M.length) : splice L 0 M = M := by
  unfold splice; rw [List.take_zero, List.nil_append, Nat.zero_add, ← h, List.drop_length, List.append_nil]
set_option maxHeartbeats 1600000 in
theorem moved_u64 (a ax : Option Addr) (n m cap capx : Nat) (p xs : List Int) (w : World) (hp : Row .i64 w a p) (hx : Row .u64 w ax xs) (hn : p.length = n) (hm : xs.length = m) (hnm : n = m) (hl : n ≤ 16777216) (hpm : IsPerm p) (hcx : ax = none → capx = 0) :
    Calls Tryz.prog 107 #[.slice a n cap, .slice ax m capx] w (GivesRow .u64 (mvL p xs) w) := by
  subst hn hm
  obtain ⟨i0, hi, hz0, hz1, hz2⟩ := info_parts info_u64
  have HN := Lib.hid hnm
  have HP := Lib.hid hp
  have HX := Lib.hid hx
  have HPM := Lib.hid hpm
  have hfx := hx.wf
  obtain ⟨L, hL⟩ : ∃ L, xs.map (Value.int .u64) = L := ⟨_, rfl⟩
  have HL := Lib.hid hL
  have hLl : L.length = xs.length := by rw [← hL]; simp
  have hl1 : ∀ v ∈ L, v.oneCell' = true := by rw [← hL]; exact ints_oneCell _ _
  have hmin : L.length = Nat.min xs.length xs.length := by rw [hLl]; exact (Nat.min_self _).symm
  have hinfo : (Tryz.prog.info? 38).map (·.size) = some 1 := by rw [hi]; simp [hz1]
  have HF := Lib.hid hfx
  have HL1 := Lib.hid hl1
  have HLL := Lib.hid hLl
  have HMN := Lib.hid hmin
  clear hp hx hpm hL hl1 hLl hmin hfx hnm
  go_enter Tryz.func107, Tryz.ntmps107
  go_wp2_with (at_make; refine wpList_make_full _ rfl _ _ 25 rfl w.heap.size 38 i0 (.int .u64 0) 1 Tryz.underlying25 hi hz0 hz1 .i64 .i64 xs.length xs.length xs.length rfl rfl rfl rfl (by rw [hz2]; have := HN.out; omega) (by unfold maxLen; have := HN.out; omega) (Nat.le_refl _) ?_)
  intro w1 hown0 hgrow0
  have hown := Own.made hown0 hgrow0
  have HH := Lib.hid hown.heap
  have hsrc : Hid (0 < L.length → ((some ⟨w.heap.size, 0, none⟩ : Option Addr) = some ⟨w.heap.size, 0, none⟩ ∧ ∃ ad, ax = some ad ∧ ∀ j v, L[j]? = some v → w1.cell? (ad.add j) = some v)) := fun h0 => by
    obtain ⟨b, off, rfl, hc⟩ := (HX.out.below hown.below).at (by have := HLL.out; omega)
    refine ⟨rfl, _, rfl, fun j v hj => ?_⟩
    have hjl : j < xs.length := by have := (List.getElem?_eq_some_iff.1 hj).1; have := HLL.out; omega
    have h3 := hc j hjl
    rw [← HL.out] at hj
    have h4 : v = .int .u64 (nth xs j) := by
      simp [hjl] at hj
      rw [← hj]; simp [nth, hjl]
    rw [h4, ← h3]
    by_cases hj0 : j = 0
    · subst hj0; simp [Addr.add]
    · simp [Addr.add, hj0]
  have HB1 := Lib.hid hown.below
  clear hown0 hgrow0 hown
  go_wp2_with (refine wpList_copy_splice rfl _ _ 25 25 rfl 38 Tryz.underlying25 hinfo (some ⟨w.heap.size, 0, none⟩) ax xs.length xs.length xs.length capx (by rfl) (by rfl) w.heap.size 0 _ 38 HH.out L HMN.out hsrc.out (by have := HLL.out; simp; omega) HL1.out w.heap.size w HB1.out (Nat.le_refl _) ?_)
  intro w2 HG2 hB2
  have hown : OwnAt .u64 38 w w2 w.heap.size xs.length (fun i => nth xs i) := OwnAt.of_heap (Nat.le_refl _) (by unfold maxLen; have := HN.out; omega) hB2 (by have h := HG2.out; rw [splice_all _ _ (by rw [HLL.out]; simp)] at h; rw [h, ← HL.out, range_map_eq])
  clear HG2 hB2
  go_wp2_with fail
  go_loopw [15] (fun i wr => ∃ k : Nat, k ≤ p.length ∧ i = .int .i64 k ∧ OwnAt .u64 38 w wr w.heap.size xs.length (fun i => if i < k then nth xs (nth p i).toNat else nth xs i)) (fun i _ => p.length - (intOf i).toNat)
  case atStart => exact ⟨0, Nat.zero_le _, rfl, OwnAt.eq hown (fun n => by rw [if_neg (by omega)])⟩
  case round =>
    obtain ⟨k, hk, rfl, hown⟩ := hrel
    by_cases hlt : k < p.length
    · have hlx : k < xs.length := by have := HN.out; omega
      obtain ⟨b, off, rfl, hc⟩ := (HP.out.below hown.below).at (by omega)
      obtain ⟨bx, ox, rfl, hcx'⟩ := (HX.out.below hown.below).at (by omega)
      have hck := hc k hlt
      obtain ⟨m, hm⟩ := Int.eq_ofNat_of_zero_le (HPM.out.1 k hlt).1
      have hmlt : m < xs.length := by have := (HPM.out.1 k hlt).2; have := HN.out; omega
      rw [hm] at hck
      have hcm := hcx' m hmlt
      obtain ⟨z, hz⟩ : ∃ z, nth xs m = z := ⟨_, rfl⟩
      rw [hz] at hcm
      have hcell := hown.cell k hlx
      have hfz := hown.free k
      have hnext := hown.store k hlx z (f' := fun i => if i < k + 1 then nth xs (nth p i).toNat else nth xs i) (by show (if k < k + 1 then nth xs (nth p k).toNat else nth xs k) = _; rw [if_pos (by omega), hm, Int.toNat_natCast, hz]) (fun j _ hj => by show (if j < k + 1 then nth xs (nth p j).toNat else nth xs j) = (if j < k then nth xs (nth p j).toNat else nth xs j); by_cases h : j < k; (rw [if_pos h, if_pos (by omega)]); (rw [if_neg h, if_neg (by omega)]))
      have HNX := Lib.hid hnext
      obtain ⟨y, hy⟩ : ∃ y, (if k < k then nth xs (nth p k).toNat else nth xs k) = y := ⟨_, rfl⟩
      rw [hy] at hcell
      have g1 : (0 : Int) ≤ (m : Int) := by omega
      have g2 : (m : Int) < (xs.length : Int) := by omega
      have g3 : (k : Int) < (xs.length : Int) := by omega
      clear hc hcx' hnext hm hz hy hown
      go_wp2_with fail
      go_roundw
      case rel => exact ⟨k + 1, by omega, by go_num, HNX.out⟩
      case measure => simp [intOf]; omega
    · have hres := hown.gives (xs := mvL p xs) (mvL_len p xs) (fun x hx => by
        obtain ⟨i, hi, rfl⟩ := List.mem_map.1 hx
        have hi' : i < xs.length := by simpa using hi
        have h1 := HPM.out.1 i (by have := HN.out; omega)
        have h2 : (nth p i).toNat < xs.length := by have := HN.out; omega
        exact HF.out _ (nth_memL xs _ h2)) (fun i hi => by have h := HN.out; show _ = (if i < k then nth xs (nth p i).toNat else nth xs i); rw [if_pos (by omega)]; exact nth_mvL _ _ _ hi) (by have := HN.out; omega)
      clear hown
      go_wp2_with fail
      go_ret
      exact hres
end Go.Proofs.YtcckfeikaolfgaaGreat

namespace Go.Proofs.YtcckfeikaolfgaaGreat
open Go.RowKit
set_option linter.unusedVariables false
set_option linter.unusedSimpArgs false
set_option maxRecDepth 100000
theorem permApply_ok (a ax : Option Addr) (n m cap capx : Nat) (p xs : List Int) (w : World) (hp : Row .i64 w a p) (hx : Row .u64 w ax xs) (hn : p.length = n) (hm : xs.length = m) (hnm : n = m) (hl : n ≤ 16777216) (hpm : IsPerm p) (hcx : ax = none → capx = 0) :
    Calls Tryz.prog 86 #[.slice a n cap, .slice ax m capx] w (GivesRowE .u64 (mvL p xs) 0 w) := by
  subst hnm
  have HP := Lib.hid hp
  have HX := Lib.hid hx
  have HM := Lib.hid hpm
  have HL := Lib.hid (mvL_len p xs)
  have h0 : ((n : Int) != (n : Int)) = false := bfalse rfl
  clear hp hx hpm
  go_enter Tryz.func86, Tryz.ntmps86
  go_wp2_with fail
  refine (permRight_yes a n cap p _ HP.out hn hl HM.out).mono ?_
  rintro e w1 ⟨rfl, hb1⟩
  go_wp2_with fail
  refine (moved_u64 a ax n n cap capx p xs _ (HP.out.below hb1) (HX.out.below hb1) hn hm rfl hl HM.out hcx).mono ?_
  rintro e w2 ⟨a2, cap2, rfl, hr2, hcap2, hb2⟩
  go_wp2_with fail
  go_ret2
  exact ⟨a2, cap2, rfl, hr2, hcap2, chain hb1 hb2⟩
end Go.Proofs.YtcckfeikaolfgaaGreat

namespace Go.Proofs.YtcckfeikaolfgaaGreat
open Go.RowKit Sm
set_option linter.unusedVariables false
set_option linter.unusedSimpArgs false
set_option maxRecDepth 100000
set_option maxHeartbeats 1000000 in
theorem split_turn (p1 p2 N i j cw : Nat) (aw : Option Addr) (z : Int) (w : World) (h1 : w.cell? ⟨p1, 0, none⟩ = some (.slice aw N cw)) (h2 : w.cell? ⟨p2, 1, none⟩ = some (.int .i64 N)) (hw : Row .u64 w aw (powL z N)) (hN : 0 < N) (hN2 : N ≤ 16777216) (hi : i < N) (hj : j < N) :
    Calls Tryz.prog 83 #[.int .i64 i, .int .i64 j, .pointer (some ⟨p1, 0, none⟩), .pointer (some ⟨p2, 0, none⟩)] w fun e w' => e = .returned (.int .u64 (pw z (i * j % N))) ∧ Below w.heap.size w w' := by
  obtain ⟨b, o, rfl, hc⟩ := hw.at (by rw [powL_len]; exact hN)
  obtain ⟨s, hs⟩ : ∃ s, i * j = s := ⟨_, rfl⟩
  have hs1 : s ≤ 16777216 * 16777216 := by rw [← hs]; exact Nat.mul_le_mul (by omega) (by omega)
  have m1 := mulN i j s hs
  have mw : IntKind.i64.wrap (s : Int) = (s : Int) := IntWalk.i64_in _ (by omega)
  obtain ⟨r, hr⟩ : ∃ r, s % N = r := ⟨_, rfl⟩
  have r1 := (modN s N r hr).1
  have r2 := (modN s N r hr).2
  have hrn : r < N := by rw [← hr]; exact Nat.mod_lt _ hN
  have c1 := hc r (by rw [powL_len]; exact hrn)
  rw [show nth (powL z N) r = pw z r from nth_ofFn _ _ _ hrn] at c1
  rw [hs, hr]
  obtain ⟨y, hy⟩ : ∃ y, pw z r = y := ⟨_, rfl⟩
  rw [hy] at c1 ⊢
  have z1 : ((N : Int) == 0) = false := bno (by omega)
  have z2 : ¬ (N : Int) = 0 := by omega
  have z3 : ¬ N = 0 := by omega
  have g5 : (0 : Int) ≤ (r : Int) := by omega
  have g6 : (r : Int) < (N : Int) := by omega
  clear hs hr hy hc hw
  go_enter Tryz.func83, Tryz.ntmps83
  go_wp2_with fail
  go_quiet (fail)
  have hb := below_drewN (Below.refl w.heap.size w) nq
  go_wp2_with fail
  go_ret
  exact ⟨rfl, hb⟩
theorem good_turn (i j : Int) (w : World) :
    Calls Tryz.prog 87 #[.int .i64 i, .int .i64 j] w fun e w' => e = .returned (.int .u64 1) ∧ Below w.heap.size w w' := by
  go_enter Tryz.func87, Tryz.ntmps87
  go_wp2_with fail
  go_ret
  exact ⟨rfl, Below.refl _ _⟩
set_option maxHeartbeats 8000000 in
theorem exec_split (q : Nat) (w0 : World) (ns : List Nm) (hL : LookAt q w0 ns) (N A B b off cap cx : Nat) (k d k0 k1 : Int) (a0 a1 ax : Option Addr) (m0 c0 m1 c1 : Nat) (xs : List Int) (w : World) (hx : Row .u64 w ax xs) (hxl : xs.length = N) (hN : N = A * B) (hA : 2 ≤ A) (hB : 2 ≤ B) (hs : hasSz (N : Int) = true) (hb0 : Below w0.heap.size w0 w) (hin : (1, (N : Int), 0, d) ∈ ns)
    (h00 : w.cell? ⟨b, off, none⟩ = some (.int .i64 k0)) (h01 : w.cell? ⟨b, off + 1, none⟩ = some (.int .i64 A)) (h02 : w.cell? ⟨b, off + 2, none⟩ = some (.slice a0 m0 c0))
    (h10 : w.cell? ⟨b, off + 3, none⟩ = some (.int .i64 k1)) (h11 : w.cell? ⟨b, off + 4, none⟩ = some (.int .i64 B)) (h12 : w.cell? ⟨b, off + 5, none⟩ = some (.slice a1 m1 c1))
    (hC0 : ∀ W (ax : Option Addr) (cx : Nat) (xs : List Int), Below w.heap.size w W → Row .u64 W ax xs → xs.length = A → Calls Tryz.prog 34 #[.agg #[.func (.func 16) #[] #[.pointer (some ⟨q, 0, none⟩)]], .agg #[.int .i64 k0, .int .i64 A, .slice a0 m0 c0], .int .i64 d, .slice ax A cx] W (GivesOwn .u64 38 (dftL xs (dirRt A d)) W))
    (hC1 : ∀ W (ax : Option Addr) (cx : Nat) (xs : List Int), Below w.heap.size w W → Row .u64 W ax xs → xs.length = B → Calls Tryz.prog 34 #[.agg #[.func (.func 16) #[] #[.pointer (some ⟨q, 0, none⟩)]], .agg #[.int .i64 k1, .int .i64 B, .slice a1 m1 c1], .int .i64 d, .slice ax B cx] W (GivesOwn .u64 38 (dftL xs (dirRt B d)) W)) :
    Calls Tryz.prog 59 #[.agg #[.func (.func 16) #[] #[.pointer (some ⟨q, 0, none⟩)]], .agg #[.int .i64 k, .int .i64 N, .slice (some ⟨b, off, none⟩) 2 cap], .int .i64 d, .slice ax N cx] w (GivesOwn .u64 38 (dftL xs (dirRt N d)) w) := by
  obtain ⟨i0, hi, hz0, hz1, hz2⟩ := info_parts info_u64
  have hN2 : N ≤ 16777216 := by have := (hasSz_iff.1 hs).2.1; omega
  have hbl : b < w.heap.size := World.block_lt_of_cell? _ _ h00
  have HK : Hid (w.cell? ⟨b, off, none⟩ = some (.int .i64 k0) ∧ w.cell? ⟨b, off + 1, none⟩ = some (.int .i64 A) ∧ w.cell? ⟨b, off + 2, none⟩ = some (.slice a0 m0 c0) ∧ w.cell? ⟨b, off + 3, none⟩ = some (.int .i64 k1) ∧ w.cell? ⟨b, off + 4, none⟩ = some (.int .i64 B) ∧ w.cell? ⟨b, off + 5, none⟩ = some (.slice a1 m1 c1)) := ⟨h00, h01, h02, h10, h11, h12⟩
  have KK : Hid (∀ W, Below w.heap.size w W → W.cell? ⟨b, off, none⟩ = some (.int .i64 k0) ∧ W.cell? ⟨b, off + 1, none⟩ = some (.int .i64 A) ∧ W.cell? ⟨b, off + 2, none⟩ = some (.slice a0 m0 c0) ∧ W.cell? ⟨b, off + 3, none⟩ = some (.int .i64 k1) ∧ W.cell? ⟨b, off + 4, none⟩ = some (.int .i64 B) ∧ W.cell? ⟨b, off + 5, none⟩ = some (.slice a1 m1 c1)) := fun W hW => by
    obtain ⟨e0, e1, e2, e3, e4, e5⟩ := HK.out
    exact ⟨(hW.cell (p := ⟨b, off, none⟩) hbl).trans e0, (hW.cell (p := ⟨b, off + 1, none⟩) hbl).trans e1, (hW.cell (p := ⟨b, off + 2, none⟩) hbl).trans e2, (hW.cell (p := ⟨b, off + 3, none⟩) hbl).trans e3, (hW.cell (p := ⟨b, off + 4, none⟩) hbl).trans e4, (hW.cell (p := ⟨b, off + 5, none⟩) hbl).trans e5⟩
  have CT : Hid (∀ W, Below w0.heap.size w0 W → Calls Tryz.prog 79 #[.agg #[.func (.func 16) #[] #[.pointer (some ⟨q, 0, none⟩)]], .int .i64 1, .agg #[.int .i64 k, .int .i64 N, .slice (some ⟨b, off, none⟩) 2 cap], .int .i64 d] W (GivesRow .u64 (powL (dirRt N d) N) W)) := fun W hW => by
    have := exec_table q w0 ns hL 1 N k d (some ⟨b, off, none⟩) 2 cap W hW (by decide) hin
    rwa [tblN_pow] at this
  have HPL : Hid ((powL (dirRt N d) N).length = N) := powL_len _ _
  have hAN : A ≤ N := by rw [hN]; exact Nat.le_mul_of_pos_right A (by omega)
  have hBN : B ≤ N := by rw [hN]; exact Nat.le_mul_of_pos_left B (by omega)
  have GR : Hid (∀ W (ax : Option Addr) (cx : Nat) (xs : List Int) (p1 p2 : Nat), Below w.heap.size w W → Row .u64 W ax xs → xs.length = N → (∀ V (i j : Nat), Below W.heap.size W V → i < A → j < B → Calls Tryz.prog 83 #[.int .i64 i, .int .i64 j, .pointer (some ⟨p1, 0, none⟩), .pointer (some ⟨p2, 0, none⟩)] V fun e w' => e = .returned (.int .u64 (pw (dirRt N d) (i * j % (A * B)))) ∧ Below V.heap.size V w') → Calls Tryz.prog 82 #[.agg #[.func (.func 16) #[] #[.pointer (some ⟨q, 0, none⟩)]], .agg #[.int .i64 k, .int .i64 N, .slice (some ⟨b, off, none⟩) 2 cap], .int .i64 d, .slice ax N cx, .func (.func 83) #[] #[.pointer (some ⟨p1, 0, none⟩), .pointer (some ⟨p2, 0, none⟩)]] W (GivesOwn .u64 38 (grL (gtL xs A B (dirRt A d) (fun i j => pw (dirRt N d) (i * j % (A * B)))) A B (dirRt B d)) W)) := fun W ax cx xs p1 p2 hW hx hxl hT => by
    obtain ⟨e0, e1, e2, e3, e4, e5⟩ := KK.out W hW
    exact exec_gridS q p1 p2 N A B b off cap cx k d k0 k1 a0 a1 ax m0 c0 m1 c1 xs _ W hx hxl hN hA hB hN2 e0 e1 e2 e3 e4 e5 (fun V ax cx xs hV hx hxl => hC0 V ax cx xs (chain hW hV) hx hxl) (fun V ax cx xs hV hx hxl => hC1 V ax cx xs (chain hW hV) hx hxl) hT (fun i j => by have := pw_range (dirRt N d) (i * j % (A * B)); omega)
  have HSP : Hid (splL xs A B (dirRt A d) (dirRt B d) (dirRt N d) = dftL xs (dirRt N d)) := by
    have := split_eq xs A B d (by rw [hxl, hN]) (by rw [← hN]; exact hs)
    rwa [← hN] at this
  have HX := Lib.hid hx
  have HXL := Lib.hid hxl
  have HN := Lib.hid hN
  have HBW := Lib.hid hb0
  have HDF : Hid (∀ x ∈ dftL xs (dirRt N d), fits .u64 x) := dftL_fits _ _
  have HDL : Hid ((dftL xs (dirRt N d)).length = N) := (dftL_len _ _).trans hxl
  obtain ⟨G, hG⟩ : ∃ G, grL (gtL xs A B (dirRt A d) (fun i j => pw (dirRt N d) (i * j % (A * B)))) A B (dirRt B d) = G := ⟨_, rfl⟩
  have HGG := Lib.hid hG
  have HGL : Hid (G.length = N) := by unfold Hid; rw [← hG, grL_len, hN]
  obtain ⟨R, hR⟩ : ∃ R, dftL xs (dirRt N d) = R := ⟨_, rfl⟩
  have HSN : Hid (∀ i j, i < A → j < B → nth R (j * A + i) = nth G (i * B + j)) := fun i j h1 h2 => by
    have hin : j * A + i < A * B := by rw [Nat.mul_comm A B]; exact row_in h2 h1
    rw [← hR, ← HSP.out, ← hG, hN]
    unfold splL
    rw [nth_ofFn _ _ _ hin, (at_row h1).2, (at_row h1).1]
  obtain ⟨z, hz⟩ : ∃ z, dirRt N d = z := ⟨_, rfl⟩
  rw [hz] at CT HPL GR
  have HRR := Lib.hid hR
  rw [hR] at HDF HDL
  rw [hz] at hG HGG
  have HZ := Lib.hid hz
  clear hL hx hxl hN hs hb0 hin h00 h01 h02 h10 h11 h12 HK hC0 hC1 hG hR hz
  obtain ⟨W1, hW1, hb1, x0, x1⟩ := two_boxes w #[.func (.func 16) #[] #[.pointer (some ⟨q, 0, none⟩)]] #[.int .i64 k, .int .i64 N, .slice (some ⟨b, off, none⟩) 2 cap] 63 24
  have HW1 := Lib.hid hW1
  have HB1 := Lib.hid hb1
  have X0 := Lib.hid x0
  have X1 := Lib.hid x1
  have hsz1 := block_lt x1
  clear hW1 hb1 x0 x1
  have D2 : W1.cell? ⟨w.heap.size + 1, 2, none⟩ = some (.slice (some ⟨b, off, none⟩) 2 cap) := block_cell X1.out 2
  obtain ⟨e0, e1, e2, e3, e4, e5⟩ := KK.out W1 HB1.out
  go_enter Tryz.func59, Tryz.ntmps59
  go_wp2_with fail
  rw [HW1.out]
  go_quiet (fail)
  have hbq := below_drewN (Below.refl W1.heap.size W1) nq
  obtain ⟨wb, hwb⟩ : ∃ wb, W1.drewN nq = wb := ⟨_, rfl⟩
  rw [hwb] at hbq ⊢
  have HBB := Lib.hid (chain HB1.out hbq)
  have X0 := Lib.hid ((hbq.block _ (block_lt X0.out)).trans X0.out)
  have X1 := Lib.hid ((hbq.block _ (block_lt X1.out)).trans X1.out)
  clear hwb hbq D2 e0 e1 e2 e3 e4 e5
  have R0 : wb.cell? ⟨w.heap.size, 0, none⟩ = some (.func (.func 16) #[] #[.pointer (some ⟨q, 0, none⟩)]) := block_cell X0.out 0
  have D0 : wb.cell? ⟨w.heap.size + 1, 0, none⟩ = some (.int .i64 k) := block_cell X1.out 0
  have D1 : wb.cell? ⟨w.heap.size + 1, 1, none⟩ = some (.int .i64 N) := block_cell X1.out 1
  have D2 : wb.cell? ⟨w.heap.size + 1, 2, none⟩ = some (.slice (some ⟨b, off, none⟩) 2 cap) := block_cell X1.out 2
  go_wp2_with fail
  refine (CT.out _ (chain HBW.out HBB.out)).mono ?_; rintro e w2 ⟨a2, cap2, rfl, hr2, hcap2, hb2⟩
  simp only [HPL.out] at hcap2 ⊢
  have X0 := Lib.hid ((hb2.block _ (block_lt X0.out)).trans X0.out)
  have X1 := Lib.hid ((hb2.block _ (block_lt X1.out)).trans X1.out)
  have HB2 := Lib.hid (chain HBB.out hb2)
  have HR2 := Lib.hid hr2
  obtain ⟨w3, hW3, hb3, x3⟩ := box_any w2 #[.slice a2 N cap2] 25
  have HW3 := Lib.hid hW3
  have HB3 := Lib.hid (chain HB2.out hb3)
  have X0 := Lib.hid ((hb3.block _ (block_lt X0.out)).trans X0.out)
  have X1 := Lib.hid ((hb3.block _ (block_lt X1.out)).trans X1.out)
  have X3 := Lib.hid x3
  have HR3 := Lib.hid (HR2.out.below hb3)
  clear R0 D0 D1 D2 hr2 hb2 hcap2
  have R0 : w3.cell? ⟨w.heap.size, 0, none⟩ = some (.func (.func 16) #[] #[.pointer (some ⟨q, 0, none⟩)]) := block_cell X0.out 0
  have D0 : w3.cell? ⟨w.heap.size + 1, 0, none⟩ = some (.int .i64 k) := block_cell X1.out 0
  have D1 : w3.cell? ⟨w.heap.size + 1, 1, none⟩ = some (.int .i64 N) := block_cell X1.out 1
  have D2 : w3.cell? ⟨w.heap.size + 1, 2, none⟩ = some (.slice (some ⟨b, off, none⟩) 2 cap) := block_cell X1.out 2
  rw [← HW3.out] at R0 D0 D1 D2
  have D1' : w3.cell? ⟨w.heap.size + 1, 1, none⟩ = some (.int .i64 N) := block_cell X1.out 1
  have c3 : w3.cell? ⟨w2.heap.size, 0, none⟩ = some (.slice a2 N cap2) := block_cell X3.out 0
  have l1 : w.heap.size + 1 < w3.heap.size := block_lt X1.out
  have l3 : w2.heap.size < w3.heap.size := block_lt X3.out
  have hT : Hid (∀ V (i j : Nat), Below w3.heap.size w3 V → i < A → j < B → Calls Tryz.prog 83 #[.int .i64 i, .int .i64 j, .pointer (some ⟨w2.heap.size, 0, none⟩), .pointer (some ⟨w.heap.size + 1, 0, none⟩)] V fun e w' => e = .returned (.int .u64 (pw z (i * j % (A * B)))) ∧ Below V.heap.size V w') := fun V i j hV hi hj => by
    rw [← HN.out]
    exact split_turn w2.heap.size (w.heap.size + 1) N i j cap2 a2 z V ((hV.cell (p := ⟨w2.heap.size, 0, none⟩) l3).trans c3) ((hV.cell (p := ⟨w.heap.size + 1, 1, none⟩) l1).trans D1') (HR3.out.below hV) (by omega) hN2 (by omega) (by omega)
  clear D1' c3 x3 hb3 hW3
  go_wp2_with fail
  rw [HW3.out]
  refine (GR.out _ ax cx xs w2.heap.size (w.heap.size + 1) HB3.out (HX.out.below HB3.out) HXL.out hT.out).mono ?_; rintro e w4 ⟨a4, cap4, rfl, ho4, hf4, hl4, hb4⟩
  rw [HGG.out] at ho4 hf4 hl4 ⊢
  rw [HGL.out] at ho4 hl4 ⊢
  have X0 := Lib.hid ((hb4.block _ (block_lt X0.out)).trans X0.out)
  have X1 := Lib.hid ((hb4.block _ (block_lt X1.out)).trans X1.out)
  have HR4 : Hid (Row .u64 w4 a4 G) := Row.of_own HGL.out (by omega) hf4 ho4
  have HB4 := Lib.hid (chain HB3.out hb4)
  have hAi : (2 : Int) ≤ (A : Int) := by omega
  clear R0 D0 D1 D2 ho4 hf4 hl4 hb4
  have D1 : w4.cell? ⟨w.heap.size + 1, 1, none⟩ = some (.int .i64 N) := block_cell X1.out 1
  go_wp2_with (at_make; refine wpList_make_full _ rfl _ _ 25 rfl w4.heap.size 38 i0 (.int .u64 0) 1 Tryz.underlying25 hi hz0 hz1 .i64 .i64 N N N rfl rfl rfl rfl (by rw [hz2]; omega) (by unfold maxLen; omega) (Nat.le_refl _) ?_)
  intro w5 hown0 hgrow0
  have HO5 := Lib.hid (Own.made hown0 hgrow0)
  clear hown0 hgrow0 D1
  go_wp2_with fail
  go_loopw [40] (fun iv wr => ∃ i : Nat, i ≤ A ∧ iv = .int .i64 i ∧ OwnAt .u64 38 w4 wr w4.heap.size N (tF R A i 0)) (fun iv _ => A - (intOf iv).toNat)
  case atStart => exact ⟨0, Nat.zero_le _, rfl, own_eqz HO5.out (fun x => tF_start _ _ _)⟩
  case round =>
    obtain ⟨i, hi9, rfl, hoY⟩ := hrel
    by_cases hli : i < A
    · have HO6 := Lib.hid hoY
      obtain ⟨wo, rfl⟩ : ∃ wo : World, wo = wr := ⟨_, rfl⟩
      clear hoY HO5
      go_wp2_with fail
      go_loopw [44] (fun jv wi => ∃ j : Nat, j ≤ B ∧ jv = .int .i64 j ∧ OwnAt .u64 38 w4 wi w4.heap.size N (tF R A i j)) (fun jv _ => B - (intOf jv).toNat)
      case atStart => exact ⟨0, Nat.zero_le _, rfl, HO6.out⟩
      case round =>
        obtain ⟨j, hj9, rfl, hoY⟩ := hrel
        by_cases hlj : j < B
        · have h1 := row_in hlj hli
          have h2 := row_in hli hlj
          rw [Nat.mul_comm B A, ← HN.out] at h1
          rw [← HN.out] at h2
          obtain ⟨bx, ox, rfl, hcx⟩ := (HR4.out.below hoY.below).at (by rw [HGL.out]; omega)
          have hta := tF_at R A j i hli
          have hto : ∀ x, x ≠ j * A + i → tF R A i (j + 1) x = tF R A i j x := fun x hx => tF_other R A j i x hli hx
          have hsn := HSN.out i j hli hlj
          obtain ⟨s1, hs1⟩ : ∃ s, j * A = s := ⟨_, rfl⟩
          obtain ⟨s2, hs2⟩ : ∃ s, i * B = s := ⟨_, rfl⟩
          rw [hs1] at h1 hta hto hsn
          rw [hs2] at h2 hsn
          have m1 : (A : Int) * (j : Int) = (s1 : Int) := by rw [Int.mul_comm]; exact mulN j A s1 hs1
          have m2 := mulN i B s2 hs2
          have mw1 : IntKind.i64.wrap (s1 : Int) = (s1 : Int) := IntWalk.i64_in _ (by omega)
          have mw2 : IntKind.i64.wrap (s2 : Int) = (s2 : Int) := IntWalk.i64_in _ (by omega)
          obtain ⟨t1, ht1⟩ : ∃ t, s1 + i = t := ⟨_, rfl⟩
          obtain ⟨t2, ht2⟩ : ∃ t, s2 + j = t := ⟨_, rfl⟩
          rw [ht1] at h1 hta hto hsn
          rw [ht2] at h2 hsn
          have m3 : (i : Int) + (s1 : Int) = (t1 : Int) := by omega
          have m4 : (s2 : Int) + (j : Int) = (t2 : Int) := by omega
          have mw3 : IntKind.i64.wrap (t1 : Int) = (t1 : Int) := IntWalk.i64_in _ (by omega)
          have mw4 : IntKind.i64.wrap (t2 : Int) = (t2 : Int) := IntWalk.i64_in _ (by omega)
          have c2 := hcx t2 (by rw [HGL.out]; exact h2)
          obtain ⟨x, hx⟩ : ∃ x, nth G t2 = x := ⟨_, rfl⟩
          rw [hx] at c2 hsn
          have hcell := hoY.cell t1 h1
          rw [hta.1] at hcell
          have hfz := hoY.free t1
          have hnext := hoY.store t1 h1 x (f' := tF R A i (j + 1)) (by rw [hta.2, hsn]) (fun r _ hr => hto r hr)
          have HNX := Lib.hid hnext
          have g1 : (0 : Int) ≤ (t1 : Int) := by omega
          have g2 : (t1 : Int) < (N : Int) := by omega
          have g3 : (0 : Int) ≤ (t2 : Int) := by omega
          have g4 : (t2 : Int) < (N : Int) := by omega
          clear hcx hs1 hs2 ht1 ht2 hx hta hto hsn hnext hoY
          go_wp2_with fail
          go_roundw
          case rel => exact ⟨j + 1, by omega, by go_num, HNX.out⟩
          case measure => simp [intOf]; omega
        · have hjB : j = B := by omega
          have HNX : Hid (OwnAt .u64 38 w4 wr w4.heap.size N (tF R A (i + 1) 0)) := by
            rw [hjB] at hoY
            exact hoY.congr (fun x hx => tF_next R B A i x (by omega) (by rw [Nat.mul_comm B A, ← HN.out]; exact hx))
          clear hoY
          go_wp2_with fail
          go_roundw
          case rel => exact ⟨i + 1, by omega, by go_num, HNX.out⟩
          case measure => simp [intOf]; omega
    · have hiA : i = A := by omega
      subst hiA
      have hres := (hoY.givesO (xs := R) HDL.out HDF.out (fun x _ => (tF_end R i x (by omega)).symm) hN2).step HB4.out
      have HRES := Lib.hid hres
      clear hoY hres
      go_wp2_with fail
      go_ret
      have h := HRES.out
      rw [← HRR.out] at h
      exact h
theorem mv_goo (xs : List Int) (a b : Nat) (hx : xs.length = a * b) : mvL (gooL a b) xs = gdIn xs a b := by
  apply ext_nth (by rw [mvL_len, gdIn_len, hx])
  intro i hi
  rw [mvL_len, hx] at hi
  rw [nth_mvL _ _ _ (by rw [hx]; exact hi), nth_gdIn _ _ _ _ hi, gooL, nth_mapL _ _ _ hi, Int.toNat_natCast]
set_option maxHeartbeats 8000000 in
theorem exec_good (q : Nat) (N A B b off cap cx : Nat) (k d k0 k1 : Int) (a0 a1 ax : Option Addr) (m0 c0 m1 c1 : Nat) (xs : List Int) (w : World) (hx : Row .u64 w ax xs) (hxl : xs.length = N) (hN : N = A * B) (hA : 2 ≤ A) (hB : 2 ≤ B) (hs : hasSz (N : Int) = true) (hg : Nat.gcd A B = 1)
    (h00 : w.cell? ⟨b, off, none⟩ = some (.int .i64 k0)) (h01 : w.cell? ⟨b, off + 1, none⟩ = some (.int .i64 A)) (h02 : w.cell? ⟨b, off + 2, none⟩ = some (.slice a0 m0 c0))
    (h10 : w.cell? ⟨b, off + 3, none⟩ = some (.int .i64 k1)) (h11 : w.cell? ⟨b, off + 4, none⟩ = some (.int .i64 B)) (h12 : w.cell? ⟨b, off + 5, none⟩ = some (.slice a1 m1 c1))
    (hC0 : ∀ W (ax : Option Addr) (cx : Nat) (xs : List Int), Below w.heap.size w W → Row .u64 W ax xs → xs.length = A → Calls Tryz.prog 34 #[.agg #[.func (.func 16) #[] #[.pointer (some ⟨q, 0, none⟩)]], .agg #[.int .i64 k0, .int .i64 A, .slice a0 m0 c0], .int .i64 d, .slice ax A cx] W (GivesOwn .u64 38 (dftL xs (dirRt A d)) W))
    (hC1 : ∀ W (ax : Option Addr) (cx : Nat) (xs : List Int), Below w.heap.size w W → Row .u64 W ax xs → xs.length = B → Calls Tryz.prog 34 #[.agg #[.func (.func 16) #[] #[.pointer (some ⟨q, 0, none⟩)]], .agg #[.int .i64 k1, .int .i64 B, .slice a1 m1 c1], .int .i64 d, .slice ax B cx] W (GivesOwn .u64 38 (dftL xs (dirRt B d)) W)) :
    Calls Tryz.prog 60 #[.agg #[.func (.func 16) #[] #[.pointer (some ⟨q, 0, none⟩)]], .agg #[.int .i64 k, .int .i64 N, .slice (some ⟨b, off, none⟩) 2 cap], .int .i64 d, .slice ax N cx] w (GivesOwn .u64 38 (dftL xs (dirRt N d)) w) := by
  obtain ⟨i0, hi, hz0, hz1, hz2⟩ := info_parts info_u64
  have hN2 : N ≤ 16777216 := by have := (hasSz_iff.1 hs).2.1; omega
  have hbl : b < w.heap.size := World.block_lt_of_cell? _ _ h00
  have HK : Hid (w.cell? ⟨b, off, none⟩ = some (.int .i64 k0) ∧ w.cell? ⟨b, off + 1, none⟩ = some (.int .i64 A) ∧ w.cell? ⟨b, off + 2, none⟩ = some (.slice a0 m0 c0) ∧ w.cell? ⟨b, off + 3, none⟩ = some (.int .i64 k1) ∧ w.cell? ⟨b, off + 4, none⟩ = some (.int .i64 B) ∧ w.cell? ⟨b, off + 5, none⟩ = some (.slice a1 m1 c1)) := ⟨h00, h01, h02, h10, h11, h12⟩
  have KK : Hid (∀ W, Below w.heap.size w W → W.cell? ⟨b, off, none⟩ = some (.int .i64 k0) ∧ W.cell? ⟨b, off + 1, none⟩ = some (.int .i64 A) ∧ W.cell? ⟨b, off + 2, none⟩ = some (.slice a0 m0 c0) ∧ W.cell? ⟨b, off + 3, none⟩ = some (.int .i64 k1) ∧ W.cell? ⟨b, off + 4, none⟩ = some (.int .i64 B) ∧ W.cell? ⟨b, off + 5, none⟩ = some (.slice a1 m1 c1)) := fun W hW => by
    obtain ⟨e0, e1, e2, e3, e4, e5⟩ := HK.out
    exact ⟨(hW.cell (p := ⟨b, off, none⟩) hbl).trans e0, (hW.cell (p := ⟨b, off + 1, none⟩) hbl).trans e1, (hW.cell (p := ⟨b, off + 2, none⟩) hbl).trans e2, (hW.cell (p := ⟨b, off + 3, none⟩) hbl).trans e3, (hW.cell (p := ⟨b, off + 4, none⟩) hbl).trans e4, (hW.cell (p := ⟨b, off + 5, none⟩) hbl).trans e5⟩
  have hAN : A ≤ N := by rw [hN]; exact Nat.le_mul_of_pos_right A (by omega)
  have hBN : B ≤ N := by rw [hN]; exact Nat.le_mul_of_pos_left B (by omega)
  have hsd : Sides (A : Int) (B : Int) := ⟨by omega, by omega, by omega, by omega, by rw [← Int.natCast_mul, ← hN]; omega⟩
  have GR : Hid (∀ W (ax : Option Addr) (cx : Nat) (xs : List Int), Below w.heap.size w W → Row .u64 W ax xs → xs.length = N →  Calls Tryz.prog 82 #[.agg #[.func (.func 16) #[] #[.pointer (some ⟨q, 0, none⟩)]], .agg #[.int .i64 k, .int .i64 N, .slice (some ⟨b, off, none⟩) 2 cap], .int .i64 d, .slice ax N cx, .func (.func 87) #[] #[]] W (GivesOwn .u64 38 (grL (gtL xs A B (dirRt A d) (fun _ _ => 1)) A B (dirRt B d)) W)) := fun W ax cx xs  hW hx hxl  => by
    obtain ⟨e0, e1, e2, e3, e4, e5⟩ := KK.out W hW
    exact exec_gridG q  N A B b off cap cx k d k0 k1 a0 a1 ax m0 c0 m1 c1 xs _ W hx hxl hN hA hB hN2 e0 e1 e2 e3 e4 e5 (fun V ax cx xs hV hx hxl => hC0 V ax cx xs (chain hW hV) hx hxl) (fun V ax cx xs hV hx hxl => hC1 V ax cx xs (chain hW hV) hx hxl) (fun V i j _ _ _ => good_turn i j V) (fun i j => by omega)
  have HSP : Hid (gdL xs A B (dirRt A d) (dirRt B d) = dftL xs (dirRt N d)) := by
    have := good_eq xs A B d (by rw [hxl, hN]) (by rw [← hN]; exact hs) hg
    rwa [← hN] at this
  have CG : Hid (∀ W, Calls Tryz.prog 84 #[.int .i64 A, .int .i64 B] W (GivesRowE .i64 (gooL A B) 0 W)) := fun W => permGood_ok A B W hsd hg
  have CC : Hid (∀ W, Calls Tryz.prog 85 #[.int .i64 A, .int .i64 B] W (GivesRowE .i64 (crtL A B) 0 W)) := fun W => permCrt_ok A B W hsd hg
  have HGO : Hid ((gooL A B).length = N) := by unfold Hid; rw [gooL_len, hN]
  have HCO : Hid ((crtL A B).length = N) := by unfold Hid; rw [crtL_len, hN]
  have hax : ∃ bb oo, ax = some ⟨bb, oo, none⟩ := by
    obtain ⟨bb, oo, e, _⟩ := hx.at (by rw [hxl]; omega)
    exact ⟨bb, oo, e⟩
  have CA : Hid (∀ W (ap : Option Addr) (cp : Nat), Below w.heap.size w W → Row .i64 W ap (gooL A B) → Calls Tryz.prog 86 #[.slice ap N cp, .slice ax N cx] W (GivesRowE .u64 (gdIn xs A B) 0 W)) := fun W ap cp hW hp => by
    have := permApply_ok ap ax N N cp cx (gooL A B) xs W hp (hx.below hW) HGO.out hxl rfl hN2 (isPerm_goo A B hg) (fun e => by obtain ⟨_, _, e2⟩ := hax; rw [e2] at e; cases e)
    rwa [mv_goo xs A B (by rw [hxl, hN])] at this
  have HGI : Hid ((gdIn xs A B).length = N) := by unfold Hid; rw [gdIn_len, hN]
  have HX := Lib.hid hx
  have HXL := Lib.hid hxl
  have HN := Lib.hid hN
  have HDF : Hid (∀ x ∈ dftL xs (dirRt N d), fits .u64 x) := dftL_fits _ _
  have HDL : Hid ((dftL xs (dirRt N d)).length = N) := (dftL_len _ _).trans hxl
  obtain ⟨G, hG⟩ : ∃ G, grL (gtL (gdIn xs A B) A B (dirRt A d) (fun _ _ => 1)) A B (dirRt B d) = G := ⟨_, rfl⟩
  have HGG := Lib.hid hG
  have HGL : Hid (G.length = N) := by unfold Hid; rw [← hG, grL_len, hN]
  obtain ⟨R, hR⟩ : ∃ R, dftL xs (dirRt N d) = R := ⟨_, rfl⟩
  have HSN : Hid (∀ k, k < N → nth R k = nth G (crtF A B k)) := fun k hk => by
    rw [← hR, ← HSP.out, ← hG]
    unfold gdL
    rw [nth_ofFn _ _ _ (by rw [← hN]; exact hk)]
  have HCL : Hid (∀ i, i < N → ∃ k, k < N ∧ crtF A B k = i ∧ nth (crtL A B) i = (k : Int)) := fun i hi => by
    have h := invOf_lt (A * B) (crtF A B) (crtF_lt A B) (crtF_inj A B hg) i (by rw [← hN]; exact hi)
    exact ⟨_, by rw [hN]; exact h.1, h.2, by unfold crtL; rw [nth_mapL _ _ _ (by rw [← hN]; exact hi)]⟩
  have HCI : Hid (∀ k k', k < N → k' < N → k ≠ k' → crtF A B k ≠ crtF A B k') := fun k k' h1 h2 hne e => by
    rcases Nat.lt_or_gt_of_ne hne with h | h
    · exact crtF_inj A B hg k k' h (by rw [← hN]; exact h2) e
    · exact crtF_inj A B hg k' k h (by rw [← hN]; exact h1) e.symm
  have HCB : Hid (∀ k, k < N → crtF A B k < N) := fun k hk => by rw [hN]; exact crtF_lt A B k (by rw [← hN]; exact hk)
  have HRR := Lib.hid hR
  rw [hR] at HDF HDL
  obtain ⟨CL, hCL⟩ : ∃ CL, crtL A B = CL := ⟨_, rfl⟩
  rw [hCL] at CC HCO HCL
  obtain ⟨GO, hGO⟩ : ∃ GO, gooL A B = GO := ⟨_, rfl⟩
  rw [hGO] at CG HGO CA
  clear hx hxl hN hs hsd hg h00 h01 h02 h10 h11 h12 HK hC0 hC1 hG hR hCL hGO hax
  obtain ⟨W1, hW1, hb1, x0, x1⟩ := two_boxes w #[.func (.func 16) #[] #[.pointer (some ⟨q, 0, none⟩)]] #[.int .i64 k, .int .i64 N, .slice (some ⟨b, off, none⟩) 2 cap] 63 24
  have HW1 := Lib.hid hW1
  have HB1 := Lib.hid hb1
  have X0 := Lib.hid x0
  have X1 := Lib.hid x1
  have hsz1 := block_lt x1
  clear hW1 hb1 x0 x1
  have D2 : W1.cell? ⟨w.heap.size + 1, 2, none⟩ = some (.slice (some ⟨b, off, none⟩) 2 cap) := block_cell X1.out 2
  obtain ⟨e0, e1, e2, e3, e4, e5⟩ := KK.out W1 HB1.out
  go_enter Tryz.func60, Tryz.ntmps60
  go_wp2_with fail
  rw [HW1.out]
  go_quiet (fail)
  have hbq := below_drewN (Below.refl W1.heap.size W1) nq
  obtain ⟨wb, hwb⟩ : ∃ wb, W1.drewN nq = wb := ⟨_, rfl⟩
  rw [hwb] at hbq ⊢
  have HBB := Lib.hid (chain HB1.out hbq)
  have X0 := Lib.hid ((hbq.block _ (block_lt X0.out)).trans X0.out)
  have X1 := Lib.hid ((hbq.block _ (block_lt X1.out)).trans X1.out)
  clear hwb hbq D2 e0 e1 e2 e3 e4 e5
  go_wp2_with fail
  refine (CG.out _).mono ?_; rintro e w2 ⟨a2, cap2, rfl, hr2, hcap2, hb2⟩
  simp only [HGO.out] at hcap2 ⊢
  have X0 := Lib.hid ((hb2.block _ (block_lt X0.out)).trans X0.out)
  have X1 := Lib.hid ((hb2.block _ (block_lt X1.out)).trans X1.out)
  have HB2 := Lib.hid (chain HBB.out hb2)
  have HR2 := Lib.hid hr2
  clear hr2 hb2 hcap2
  go_wp2_with fail
  refine (CC.out _).mono ?_; rintro e w3 ⟨a3, cap3, rfl, hr3, hcap3, hb3⟩
  simp only [HCO.out] at hcap3 ⊢
  have X0 := Lib.hid ((hb3.block _ (block_lt X0.out)).trans X0.out)
  have X1 := Lib.hid ((hb3.block _ (block_lt X1.out)).trans X1.out)
  have HB3 := Lib.hid (chain HB2.out hb3)
  have HR2 := Lib.hid (HR2.out.below hb3)
  have HR3 := Lib.hid hr3
  clear hr3 hb3 hcap3
  go_wp2_with fail
  refine (CA.out _ _ _ HB3.out HR2.out).mono ?_; rintro e w4 ⟨a4, cap4, rfl, hr4, hcap4, hb4⟩
  simp only [HGI.out] at hcap4 ⊢
  have X0 := Lib.hid ((hb4.block _ (block_lt X0.out)).trans X0.out)
  have X1 := Lib.hid ((hb4.block _ (block_lt X1.out)).trans X1.out)
  have HB4 := Lib.hid (chain HB3.out hb4)
  have HR3 := Lib.hid (HR3.out.below hb4)
  have HR4 := Lib.hid hr4
  clear hr4 hb4 hcap4
  have R0 : w4.cell? ⟨w.heap.size, 0, none⟩ = some (.func (.func 16) #[] #[.pointer (some ⟨q, 0, none⟩)]) := block_cell X0.out 0
  have D0 : w4.cell? ⟨w.heap.size + 1, 0, none⟩ = some (.int .i64 k) := block_cell X1.out 0
  have D1 : w4.cell? ⟨w.heap.size + 1, 1, none⟩ = some (.int .i64 N) := block_cell X1.out 1
  have D2 : w4.cell? ⟨w.heap.size + 1, 2, none⟩ = some (.slice (some ⟨b, off, none⟩) 2 cap) := block_cell X1.out 2
  go_wp2_with fail
  refine (GR.out _ a4 cap4 (gdIn xs A B) HB4.out HR4.out HGI.out).mono ?_; rintro e w5 ⟨a5, cap5, rfl, ho5, hf5, hl5, hb5⟩
  rw [HGG.out] at ho5 hf5 hl5 ⊢
  rw [HGL.out] at ho5 hl5 ⊢
  have X0 := Lib.hid ((hb5.block _ (block_lt X0.out)).trans X0.out)
  have X1 := Lib.hid ((hb5.block _ (block_lt X1.out)).trans X1.out)
  have HR5 : Hid (Row .u64 w5 a5 G) := Row.of_own HGL.out (by omega) hf5 ho5
  have HR3 := Lib.hid (HR3.out.below hb5)
  have HB5 := Lib.hid (chain HB4.out hb5)
  clear R0 D0 D1 D2 ho5 hf5 hl5 hb5
  have D1 : w5.cell? ⟨w.heap.size + 1, 1, none⟩ = some (.int .i64 N) := block_cell X1.out 1
  go_wp2_with (at_make; refine wpList_make_full _ rfl _ _ 25 rfl w5.heap.size 38 i0 (.int .u64 0) 1 Tryz.underlying25 hi hz0 hz1 .i64 .i64 N N N rfl rfl rfl rfl (by rw [hz2]; omega) (by unfold maxLen; omega) (Nat.le_refl _) ?_)
  intro w6 hown0 hgrow0
  have HO6 := Lib.hid (Own.made hown0 hgrow0)
  clear hown0 hgrow0 D1
  go_wp2_with fail
  go_loopw [59] (fun iv wr => ∃ i : Nat, i ≤ N ∧ iv = .int .i64 i ∧ OwnAt .u64 38 w5 wr w5.heap.size N (fun x => if crtF A B x < i then nth R x else 0)) (fun iv _ => N - (intOf iv).toNat)
  case atStart => exact ⟨0, Nat.zero_le _, rfl, own_eqz HO6.out (fun x => if_neg (by omega))⟩
  case round =>
    obtain ⟨i, hi9, rfl, hoY⟩ := hrel
    by_cases hli : i < N
    · obtain ⟨bx, ox, rfl, hcx⟩ := (HR5.out.below hoY.below).at (by rw [HGL.out]; omega)
      obtain ⟨bc, oc, rfl, hcc⟩ := (HR3.out.below hoY.below).at (by rw [HCO.out]; omega)
      have c1 := hcc i (by rw [HCO.out]; exact hli)
      have c2 := hcx i (by rw [HGL.out]; exact hli)
      obtain ⟨κ, hκ, hκc, hκn⟩ := HCL.out i hli
      rw [hκn] at c1
      have hsn := HSN.out κ hκ
      rw [hκc] at hsn
      obtain ⟨x, hx⟩ : ∃ x, nth G i = x := ⟨_, rfl⟩
      rw [hx] at c2 hsn
      have hcell := hoY.cell κ hκ
      rw [if_neg (by omega)] at hcell
      have hfz := hoY.free κ
      have hnext := hoY.store κ hκ x (f' := fun x => if crtF A B x < i + 1 then nth R x else 0) (by show (if crtF A B κ < i + 1 then _ else _) = _; rw [if_pos (by omega), hsn]) (fun r hr hne => by
        have h9 := HCI.out r κ hr hκ hne
        rw [hκc] at h9
        by_cases h : crtF A B r < i
        · rw [if_pos h, if_pos (by omega)]
        · rw [if_neg h, if_neg (by omega)])
      have HNX := Lib.hid hnext
      have g1 : (0 : Int) ≤ (κ : Int) := by omega
      have g2 : (κ : Int) < (N : Int) := by omega
      have g3 : (0 : Int) ≤ (i : Int) := by omega
      have g4 : (i : Int) < (N : Int) := by omega
      clear hcx hcc hκc hκn hsn hx hnext hoY
      go_wp2_with fail
      go_roundw
      case rel => exact ⟨i + 1, by omega, by go_num, HNX.out⟩
      case measure => simp [intOf]; omega
    · have hiN : i = N := by omega
      have hres := (hoY.givesO (xs := R) HDL.out HDF.out (fun x hx => (if_pos (by have := HCB.out x hx; omega)).symm) hN2).step HB5.out
      have HRES := Lib.hid hres
      clear hoY hres
      go_wp2_with fail
      go_ret
      have h := HRES.out
      rw [← HRR.out] at h
      exact h
end Go.Proofs.YtcckfeikaolfgaaGreat

