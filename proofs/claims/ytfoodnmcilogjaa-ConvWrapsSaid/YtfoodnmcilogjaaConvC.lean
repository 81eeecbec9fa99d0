/- Sums of the products of two rows, by places modulo n: the walk. -/
import Derived.Test.YtfoodnmcilogjaaConvB
import Derived.Test.YtfoodnmcilogjaaRoundR
namespace Go.Proofs.Ytfoodnmcilogjaa
open Go.RowKit Go.Shelf Sm
set_option linter.unusedVariables false
set_option linter.unusedSimpArgs false
attribute [local go_sem] Oper.semAt_some

theorem info_u64' : (Try.prog.info? 28).map (fun i => (i.zero, i.size, i.bytes)) = some (some (.int .u64 0), 1, 8) := by kernel_rfl

theorem products_stops (n px py : Nat) (hn : 1 ≤ n) (ax ay : Option Addr) (lx ly cx cy : Nat) (xs ys : List Int) (w0 W0 : World) (hx : Row .u64 w0 ax xs) (hy : Row .u64 w0 ay ys) (hlx : xs.length = lx) (hly : ys.length = ly) (h1 : lx ≤ 4096) (h2 : ly ≤ 4096)
    (hW : Below w0.heap.size w0 W0) (hpx : W0.cell? ⟨px, 0, none⟩ = some (.slice ax lx cx)) (hpy : W0.cell? ⟨py, 0, none⟩ = some (.slice ay ly cy)) (bx : px < W0.heap.size) (by' : py < W0.heap.size) :
    SeqStopsK Fence.wide n Try.prog 94 #[.pointer (some ⟨px, 0, none⟩), .pointer (some ⟨py, 0, none⟩)] encPr (KeepsBox w0.heap.size py) (fun zs => zs = prodL xs ys) (fun _ => True) (lx * ly) W0 :=
  fun l J Jx W hb _ _ hY h0 => products1_in n hn l px py ax ay lx ly cx cy xs ys w0 hx hy hlx hly h1 h2 J Jx hY W (hW.trans (hb.mono hW.size)) ((hb.cell (p := ⟨px, 0, none⟩) bx).trans hpx) ((hb.cell (p := ⟨py, 0, none⟩) by').trans hpy) h0

theorem cell_far (W : World) (g r b : Nat) (v : Value) (h : g ≠ b) : ((W.setCell ⟨g, r, none⟩ v).drew).cell? ⟨b, 0, none⟩ = W.cell? ⟨b, 0, none⟩ :=
  World.cell?_setCell_far W ⟨g, r, none⟩ ⟨b, 0, none⟩ v h

set_option maxRecDepth 100000 in
set_option maxHeartbeats 4000000 in
theorem conv_sum (ax ay : Option Addr) (lx ly cx cy : Nat) (xs ys : List Int) (n : Nat) (w : World) (hx : Row .u64 w ax xs) (hy : Row .u64 w ay ys) (hlx : xs.length = lx) (hly : ys.length = ly) (h1 : lx ≤ 4096) (h2 : ly ≤ 4096) (hn : n ≤ 16777216) (hpos : 0 < lx * ly → 1 ≤ n) :
    Calls Try.prog 79 #[.slice ax lx cx, .slice ay ly cy, .int .i64 n] w (GivesRow .u64 (cvL xs ys n) w) := by
  obtain ⟨i0, hi, hz0, hz1, hz2⟩ := info_parts info_u64'
  have HX := Lib.hid hx
  have HY := Lib.hid hy
  have HLX := Lib.hid hlx
  have HLY := Lib.hid hly
  have HPOS := Lib.hid hpos
  clear hx hy hlx hly hpos
  refine (callsIn_wide (n := 8)).1 ?_
  refine callsIn_of_wp_marks Try.func79 rfl trivial ?_ rfl
  simp only [Try.ntmps79, List.size_toArray, List.length_cons, List.length_nil, Nat.reduceAdd, Nat.reduceSub, Array.replicate_succ, Array.replicate_zero, List.push_toArray, List.append_toArray, List.nil_append, List.cons_append]
  gi_wp2_with (gi_at_make; refine wpListIn_make_full _ rfl _ _ 22 rfl w.heap.size 28 i0 (.int .u64 0) 1 Try.underlying22 hi hz0 hz1 .i64 .i64 n n n rfl rfl rfl rfl (by rw [hz2]; omega) (by unfold maxLen; omega) (by simp) ?_)
  intro w1 hown0 hgrow0
  have hown := OwnAt.made ((Below.refl _ _).alloc (Nat.le_refl _) _) hown0 hgrow0
  have hcn : w1.cell? ⟨w.heap.size, 0, none⟩ = some (.int .i64 n) := (hgrow0.cell (a := ⟨w.heap.size, 0, none⟩) (one_new _ _ _) (by simp))
  have hsz : w.heap.size + 1 < w1.heap.size := hown.base.2
  clear hown0 hgrow0
  gi_wp2_with (refine ⟨trivial, ?_⟩; gi_at_call 89; refine (products_in _ _ _ _ _ _ _ _).mono ?_; rintro e w' ⟨rfl, rfl⟩)
  obtain ⟨W0, hW0⟩ : ∃ W0, ((w1.alloc (.cells #[.slice (some ⟨w.heap.size + 1, 0, none⟩) n n] 22)).alloc (.cells #[.slice ax lx cx] 22)).alloc (.cells #[.slice ay ly cy] 22) = W0 := ⟨_, rfl⟩
  have hbW : Below w1.heap.size w1 W0 := by rw [← hW0]; exact (((Below.refl _ _).alloc (Nat.le_refl _) _).alloc (by simp) _).alloc (by simp; omega) _
  have hs0 : W0.heap.size = w1.heap.size + 3 := by rw [← hW0]; simp
  have hcl : W0.cell? ⟨w1.heap.size, 0, none⟩ = some (.slice (some ⟨w.heap.size + 1, 0, none⟩) n n) := by
    rw [← hW0, cell_past _ _ _ (by simp; omega), cell_past _ _ _ (by simp)]; exact one_new _ _ _
  have hpx : W0.cell? ⟨w1.heap.size + 1, 0, none⟩ = some (.slice ax lx cx) := by
    rw [← hW0, cell_past _ _ _ (by simp)]; exact cell_new (by simp)
  have hpy : W0.cell? ⟨w1.heap.size + 1 + 1, 0, none⟩ = some (.slice ay ly cy) := by
    rw [← hW0]; exact cell_new (by simp)
  have hcn0 := (hbW.cell (p := ⟨w.heap.size, 0, none⟩) (by show w.heap.size < w1.heap.size; omega)).trans hcn
  have hown0 := hown.later hbW
  rw [hW0]
  clear hW0 hcn hown
  have HBW := Lib.hid hbW
  clear hbW
  refine wpIn_rangeFunc_ownG rfl (by omega) (gf := 94) (lb := #[.pointer (some ⟨w1.heap.size + 1, 0, none⟩), .pointer (some ⟨w1.heap.size + 1 + 1, 0, none⟩)]) rfl trivial (enters_of Try.func94 (by kernel_rfl) rfl)
    (products_stops 7 (w1.heap.size + 1) (w1.heap.size + 1 + 1) (by omega) ax ay lx ly cx cy xs ys w W0 HX.out HY.out HLX.out HLY.out h1 h2 hown0.below hpx hpy (by omega) (by omega))
    (fun h k => ⟨h.1.trans k.1, k.2.trans h.2⟩)
    (fun W l o o' hl h ho hw => ⟨belowK_b (w := W0) (by omega) W l o o' hl h ho hw, (belowK_b (n₀ := W0.heap.size) (w := W0) (Nat.le_refl _) W l o o' hl h ho hw).cell (p := ⟨w1.heap.size + 1 + 1, 0, none⟩) (by show w1.heap.size + 1 + 1 < W0.heap.size; omega)⟩)
    (Below.refl _ _) (fun _ => rfl)
    (fun pre W => (W.cell? ⟨w.heap.size, 0, none⟩ = some (.int .i64 n) ∧ W.cell? ⟨w1.heap.size, 0, none⟩ = some (.slice (some ⟨w.heap.size + 1, 0, none⟩) n n)) ∧ OwnAt .u64 28 w W (w.heap.size + 1) n (accF n pre))
    (fun _ _ _ => False)
    (OwnFrom.and (OwnFrom.and (cell_from _ _ (fun _ => .int .i64 n)) (cell_from _ _ (fun _ => .slice (some ⟨w.heap.size + 1, 0, none⟩) n n))) (ownAt_from _ .u64 28 w (w.heap.size + 1) n (fun pre => accF n pre) (by omega) (by unfold maxLen; omega)))
    (fun _ _ _ _ _ hs _ _ => hs)
    ⟨⟨hcn0, hcl⟩, hown0⟩
    (fun x => { tmps := #[.slice ax lx cx, .slice ay ly cy, .int .i64 n, undef, undef, .pointer (some ⟨w.heap.size, 0, none⟩), .slice none 0 0, .pointer (some ⟨w1.heap.size, 0, none⟩), .int .i64 x.1.1, .int .u64 x.1.2, .int .i64 n, .slice (some ⟨w.heap.size + 1, 0, none⟩) n n, .slice ax lx cx, .slice ay ly cy,
      .func (.func 94) #[] #[.pointer (some ⟨w1.heap.size + 1, 0, none⟩), .pointer (some ⟨w1.heap.size + 1 + 1, 0, none⟩)], .int .i64 x.1.1, .int .u64 x.1.2, undef, undef, undef, undef, undef, undef, undef, undef, undef, undef, undef, undef, undef, undef], defers := [] }) ?assign ?body ?done ?stop
  case assign =>
    intro l x W K hK
    gi_wp2
    exact hK
  case body =>
    rintro l pre x W ⟨⟨hn1, hl1⟩, hown⟩ hlen
    have hnp : 1 ≤ n := HPOS.out (by omega)
    obtain ⟨⟨k, p⟩, hk0, hk1, hp0, hp1⟩ := x
    dsimp only at hk0 hk1 hp0 hp1 ⊢
    obtain ⟨kk, rfl⟩ := Int.eq_ofNat_of_zero_le hk0
    obtain ⟨r, hr⟩ : ∃ r, kk % n = r := ⟨_, rfl⟩
    have hrn : r < n := by rw [← hr]; exact Nat.mod_lt _ (by omega)
    have e1 : (kk : Int).tmod (n : Int) = (r : Int) := by rw [Int.tmod_eq_emod_of_nonneg (by omega), ← Int.natCast_emod, hr]
    have e1' : (kk : Int) % (n : Int) = (r : Int) := by rw [← Int.natCast_emod, hr]
    have e0 : ((n : Int) == 0) = false := by simp; omega
    have e0' : ¬ (n : Int) = 0 := by omega
    have e0'' : ¬ n = 0 := by omega
    have hcell := hown.cell r hrn
    have hacc := accF_range n pre r
    have hnext := hown.store r hrn ((accF n pre r + p) % 18446744069414584321) (f' := accF n (pre ++ [⟨((kk : Int), p), hk0, hk1, hp0, hp1⟩])) (by rw [accF_snoc, if_pos (by exact e1')]) (fun j _ hj => by rw [accF_snoc, if_neg (by show ¬ (kk : Int) % (n : Int) = (j : Int); rw [e1']; omega)])
    obtain ⟨s, hs⟩ : ∃ s, accF n pre r = s := ⟨_, rfl⟩
    rw [hs] at hcell hacc hnext
    obtain ⟨hs0', hs1'⟩ := hacc
    have hfz := hown.free r
    have HN := Lib.hid hnext
    have hbs := hown.below.size
    have g1 : (0 : Int) ≤ (r : Int) := by omega
    have g2 : (r : Int) < (n : Int) := by omega
    have hmx : Try.prog.follows .mixedOrders = true := by kernel_rfl
    clear hr hnext hs hown
    gi_wp2
    refine still_tail_round 12 hmx (by kernel_rfl) (by kernel_rfl) (by rintro ⟨_, _, h⟩; exact h) ?_
    simp only [List.take_succ_cons, List.take_zero, List.drop_succ_cons, List.drop_zero]
    repeat still_step
    still_call (flipW (gold_Add s p _ (by omega) (by omega) (by omega) (by omega)))
    try refine wpStill_nil ?_
    go_wp2_with fail
    exact ⟨((KeepsOthers.setCell _ _ _).trans (KeepsOthers.drew _)).from _,
      ⟨((Below.refl w.heap.size W).setCell (p := ⟨w.heap.size + 1, r, none⟩) (by show w.heap.size ≤ w.heap.size + 1; omega) _).drew, cell_far W (w.heap.size + 1) r (w1.heap.size + 1 + 1) _ (by omega)⟩,
      ⟨⟨(cell_far W (w.heap.size + 1) r w.heap.size _ (by omega)).trans hn1, (cell_far W (w.heap.size + 1) r w1.heap.size _ (by omega)).trans hl1⟩, HN.out.later (Below.refl _ _).drew⟩⟩
  case done =>
    rintro D ys' W hD rfl ⟨⟨hn1, hl1⟩, hown⟩ hK
    gi_wp2
    refine ⟨by simp, .inl ⟨_, _, rfl, run_takeDeferred hK, ?_⟩⟩
    have hown' : OwnAt .u64 28 w (W.putObj D (.deferred none)) (w.heap.size + 1) n (accF n (prodL xs ys)) :=
      (ownAt_from W0.heap.size .u64 28 w (w.heap.size + 1) n (fun (_ : Unit) => accF n (prodL xs ys)) (by have := hown0.below.size; omega) (by unfold maxLen; omega)).putObj (s := ()) (.deferred none) hown hD hK rfl
    have hres := hown'.gives (xs := cvL xs ys n) (cvL_len _ _ _) (cvL_fits _ _ _) (fun i hi => by
      rw [nth_cvL _ _ _ _ hi, acc_all xs ys n i (by rw [HLX.out]; omega) (by rw [HLY.out]; omega)]) hn
    refine ⟨_, results_tmp rfl _ _ _, ?_⟩
    exact hres
  case stop =>
    rintro D c pre W _ _ h _
    exact h.elim
end Go.Proofs.Ytfoodnmcilogjaa
