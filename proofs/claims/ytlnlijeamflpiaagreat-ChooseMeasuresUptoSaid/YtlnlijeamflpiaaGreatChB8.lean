/- The contracts and plain laws that the statements ChooseFirst ChooseMeasures ChooseBest need, part 8 of 11: PermM ExecC ExecD ExecE ExecF ExecG ExecH ExecI. -/
import Derived.Test.YtlnlijeamflpiaaGreatChB7
namespace Go.Proofs.YtlnlijeamflpiaaGreat
open Go.RowKit
set_option linter.unusedVariables false
set_option linter.unusedSimpArgs false
set_option maxRecDepth 100000
theorem permApply_ok (a ax : Option Addr) (n m cap capx : Nat) (p xs : List Int) (w : World) (hp : Row .i64 w a p) (hx : Row .u64 w ax xs) (hn : p.length = n) (hm : xs.length = m) (hnm : n = m) (hl : n ≤ 16777216) (hpm : IsPerm p) (hcx : ax = none → capx = 0) :
    Calls Tryz.prog 186 #[.slice a n cap, .slice ax m capx] w (GivesRowE .u64 (mvL p xs) 0 w) := by
  subst hnm
  have HP := Lib.hid hp
  have HX := Lib.hid hx
  have HM := Lib.hid hpm
  have HL := Lib.hid (mvL_len p xs)
  have h0 : ((n : Int) != (n : Int)) = false := bfalse rfl
  clear hp hx hpm
  go_enter Tryz.func186, Tryz.ntmps186
  go_wp2_with fail
  refine (permRight_yes a n cap p _ HP.out hn hl HM.out).mono ?_
  rintro e w1 ⟨rfl, hb1⟩
  go_wp2_with fail
  refine (moved_u64 a ax n n cap capx p xs _ (HP.out.below hb1) (HX.out.below hb1) hn hm rfl hl HM.out hcx).mono ?_
  rintro e w2 ⟨a2, cap2, rfl, hr2, hcap2, hb2⟩
  go_wp2_with fail
  go_ret2
  exact ⟨a2, cap2, rfl, hr2, hcap2, chain hb1 hb2⟩
end Go.Proofs.YtlnlijeamflpiaaGreat

namespace Go.Proofs.YtlnlijeamflpiaaGreat
open Go.RowKit Sm
set_option linter.unusedVariables false
set_option linter.unusedSimpArgs false
set_option maxRecDepth 100000
set_option maxHeartbeats 1000000 in
theorem split_turn (p1 p2 N i j cw : Nat) (aw : Option Addr) (z : Int) (w : World) (h1 : w.cell? ⟨p1, 0, none⟩ = some (.slice aw N cw)) (h2 : w.cell? ⟨p2, 1, none⟩ = some (.int .i64 N)) (hw : Row .u64 w aw (powL z N)) (hN : 0 < N) (hN2 : N ≤ 16777216) (hi : i < N) (hj : j < N) :
    Calls Tryz.prog 183 #[.int .i64 i, .int .i64 j, .pointer (some ⟨p1, 0, none⟩), .pointer (some ⟨p2, 0, none⟩)] w fun e w' => e = .returned (.int .u64 (pw z (i * j % N))) ∧ Below w.heap.size w w' := by
  obtain ⟨b, o, rfl, hc⟩ := hw.at (by rw [powL_len]; exact hN)
  obtain ⟨s, hs⟩ : ∃ s, i * j = s := ⟨_, rfl⟩
  have hs1 : s ≤ 16777216 * 16777216 := by rw [← hs]; exact Nat.mul_le_mul (by omega) (by omega)
  have m1 := mulN i j s hs
  have mw : IntKind.i64.wrap (s : Int) = (s : Int) := IntWalk.i64_in _ (by omega)
  obtain ⟨r, hr⟩ : ∃ r, s % N = r := ⟨_, rfl⟩
  have r1 := (modN s N r hr).1
  have r2 := (modN s N r hr).2
  have hrn : r < N := by rw [← hr]; exact Nat.mod_lt _ hN
  have c1 := hc r (by rw [powL_len]; exact hrn)
  rw [show nth (powL z N) r = pw z r from nth_ofFn _ _ _ hrn] at c1
  rw [hs, hr]
  obtain ⟨y, hy⟩ : ∃ y, pw z r = y := ⟨_, rfl⟩
  rw [hy] at c1 ⊢
  have z1 : ((N : Int) == 0) = false := bno (by omega)
  have z2 : ¬ (N : Int) = 0 := by omega
  have z3 : ¬ N = 0 := by omega
  have g5 : (0 : Int) ≤ (r : Int) := by omega
  have g6 : (r : Int) < (N : Int) := by omega
  clear hs hr hy hc hw
  go_enter Tryz.func183, Tryz.ntmps183
  go_wp2_with fail
  go_quiet (fail)
  have hb := below_drewN (Below.refl w.heap.size w) nq
  go_wp2_with fail
  go_ret
  exact ⟨rfl, hb⟩
theorem good_turn (i j : Int) (w : World) :
    Calls Tryz.prog 187 #[.int .i64 i, .int .i64 j] w fun e w' => e = .returned (.int .u64 1) ∧ Below w.heap.size w w' := by
  go_enter Tryz.func187, Tryz.ntmps187
  go_wp2_with fail
  go_ret
  exact ⟨rfl, Below.refl _ _⟩
set_option maxHeartbeats 8000000 in
theorem exec_split (q : Nat) (w0 : World) (ns : List Nm) (hL : LookAt q w0 ns) (N A B b off cap cx : Nat) (k d k0 k1 : Int) (a0 a1 ax : Option Addr) (m0 c0 m1 c1 : Nat) (xs : List Int) (w : World) (hx : Row .u64 w ax xs) (hxl : xs.length = N) (hN : N = A * B) (hA : 2 ≤ A) (hB : 2 ≤ B) (hs : hasSz (N : Int) = true) (hb0 : Below w0.heap.size w0 w) (hin : (1, (N : Int), 0, d) ∈ ns)
    (h00 : w.cell? ⟨b, off, none⟩ = some (.int .i64 k0)) (h01 : w.cell? ⟨b, off + 1, none⟩ = some (.int .i64 A)) (h02 : w.cell? ⟨b, off + 2, none⟩ = some (.slice a0 m0 c0))
    (h10 : w.cell? ⟨b, off + 3, none⟩ = some (.int .i64 k1)) (h11 : w.cell? ⟨b, off + 4, none⟩ = some (.int .i64 B)) (h12 : w.cell? ⟨b, off + 5, none⟩ = some (.slice a1 m1 c1))
    (hC0 : ∀ W (ax : Option Addr) (cx : Nat) (xs : List Int), Below w.heap.size w W → Row .u64 W ax xs → xs.length = A → Calls Tryz.prog 138 #[.agg #[.func (.func 107) #[] #[.pointer (some ⟨q, 0, none⟩)]], .agg #[.int .i64 k0, .int .i64 A, .slice a0 m0 c0], .int .i64 d, .slice ax A cx] W (GivesOwn .u64 23 (dftL xs (dirRt A d)) W))
    (hC1 : ∀ W (ax : Option Addr) (cx : Nat) (xs : List Int), Below w.heap.size w W → Row .u64 W ax xs → xs.length = B → Calls Tryz.prog 138 #[.agg #[.func (.func 107) #[] #[.pointer (some ⟨q, 0, none⟩)]], .agg #[.int .i64 k1, .int .i64 B, .slice a1 m1 c1], .int .i64 d, .slice ax B cx] W (GivesOwn .u64 23 (dftL xs (dirRt B d)) W)) :
    Calls Tryz.prog 157 #[.agg #[.func (.func 107) #[] #[.pointer (some ⟨q, 0, none⟩)]], .agg #[.int .i64 k, .int .i64 N, .slice (some ⟨b, off, none⟩) 2 cap], .int .i64 d, .slice ax N cx] w (GivesOwn .u64 23 (dftL xs (dirRt N d)) w) := by
  obtain ⟨i0, hi, hz0, hz1, hz2⟩ := info_parts info_u64
  have hN2 : N ≤ 16777216 := by have := (hasSz_iff.1 hs).2.1; omega
  have hbl : b < w.heap.size := World.block_lt_of_cell? _ _ h00
  have HK : Hid (w.cell? ⟨b, off, none⟩ = some (.int .i64 k0) ∧ w.cell? ⟨b, off + 1, none⟩ = some (.int .i64 A) ∧ w.cell? ⟨b, off + 2, none⟩ = some (.slice a0 m0 c0) ∧ w.cell? ⟨b, off + 3, none⟩ = some (.int .i64 k1) ∧ w.cell? ⟨b, off + 4, none⟩ = some (.int .i64 B) ∧ w.cell? ⟨b, off + 5, none⟩ = some (.slice a1 m1 c1)) := ⟨h00, h01, h02, h10, h11, h12⟩
  have KK : Hid (∀ W, Below w.heap.size w W → W.cell? ⟨b, off, none⟩ = some (.int .i64 k0) ∧ W.cell? ⟨b, off + 1, none⟩ = some (.int .i64 A) ∧ W.cell? ⟨b, off + 2, none⟩ = some (.slice a0 m0 c0) ∧ W.cell? ⟨b, off + 3, none⟩ = some (.int .i64 k1) ∧ W.cell? ⟨b, off + 4, none⟩ = some (.int .i64 B) ∧ W.cell? ⟨b, off + 5, none⟩ = some (.slice a1 m1 c1)) := fun W hW => by
    obtain ⟨e0, e1, e2, e3, e4, e5⟩ := HK.out
    exact ⟨(hW.cell (p := ⟨b, off, none⟩) hbl).trans e0, (hW.cell (p := ⟨b, off + 1, none⟩) hbl).trans e1, (hW.cell (p := ⟨b, off + 2, none⟩) hbl).trans e2, (hW.cell (p := ⟨b, off + 3, none⟩) hbl).trans e3, (hW.cell (p := ⟨b, off + 4, none⟩) hbl).trans e4, (hW.cell (p := ⟨b, off + 5, none⟩) hbl).trans e5⟩
  have CT : Hid (∀ W, Below w0.heap.size w0 W → Calls Tryz.prog 180 #[.agg #[.func (.func 107) #[] #[.pointer (some ⟨q, 0, none⟩)]], .int .i64 1, .agg #[.int .i64 k, .int .i64 N, .slice (some ⟨b, off, none⟩) 2 cap], .int .i64 d] W (GivesRow .u64 (powL (dirRt N d) N) W)) := fun W hW => by
    have := exec_table q w0 ns hL 1 N k d (some ⟨b, off, none⟩) 2 cap W hW (by decide) hin
    rwa [tblN_pow] at this
  have HPL : Hid ((powL (dirRt N d) N).length = N) := powL_len _ _
  have hAN : A ≤ N := by rw [hN]; exact Nat.le_mul_of_pos_right A (by omega)
  have hBN : B ≤ N := by rw [hN]; exact Nat.le_mul_of_pos_left B (by omega)
  have GR : Hid (∀ W (ax : Option Addr) (cx : Nat) (xs : List Int) (p1 p2 : Nat), Below w.heap.size w W → Row .u64 W ax xs → xs.length = N → (∀ V (i j : Nat), Below W.heap.size W V → i < A → j < B → Calls Tryz.prog 183 #[.int .i64 i, .int .i64 j, .pointer (some ⟨p1, 0, none⟩), .pointer (some ⟨p2, 0, none⟩)] V fun e w' => e = .returned (.int .u64 (pw (dirRt N d) (i * j % (A * B)))) ∧ Below V.heap.size V w') → Calls Tryz.prog 182 #[.agg #[.func (.func 107) #[] #[.pointer (some ⟨q, 0, none⟩)]], .agg #[.int .i64 k, .int .i64 N, .slice (some ⟨b, off, none⟩) 2 cap], .int .i64 d, .slice ax N cx, .func (.func 183) #[] #[.pointer (some ⟨p1, 0, none⟩), .pointer (some ⟨p2, 0, none⟩)]] W (GivesOwn .u64 23 (grL (gtL xs A B (dirRt A d) (fun i j => pw (dirRt N d) (i * j % (A * B)))) A B (dirRt B d)) W)) := fun W ax cx xs p1 p2 hW hx hxl hT => by
    obtain ⟨e0, e1, e2, e3, e4, e5⟩ := KK.out W hW
    exact exec_gridS q p1 p2 N A B b off cap cx k d k0 k1 a0 a1 ax m0 c0 m1 c1 xs _ W hx hxl hN hA hB hN2 e0 e1 e2 e3 e4 e5 (fun V ax cx xs hV hx hxl => hC0 V ax cx xs (chain hW hV) hx hxl) (fun V ax cx xs hV hx hxl => hC1 V ax cx xs (chain hW hV) hx hxl) hT (fun i j => by have := pw_range (dirRt N d) (i * j % (A * B)); omega)
  have HSP : Hid (splL xs A B (dirRt A d) (dirRt B d) (dirRt N d) = dftL xs (dirRt N d)) := by
    have := split_eq xs A B d (by rw [hxl, hN]) (by rw [← hN]; exact hs)
    rwa [← hN] at this
  have HX := Lib.hid hx
  have HXL := Lib.hid hxl
  have HN := Lib.hid hN
  have HBW := Lib.hid hb0
  have HDF : Hid (∀ x ∈ dftL xs (dirRt N d), fits .u64 x) := dftL_fits _ _
  have HDL : Hid ((dftL xs (dirRt N d)).length = N) := (dftL_len _ _).trans hxl
  obtain ⟨G, hG⟩ : ∃ G, grL (gtL xs A B (dirRt A d) (fun i j => pw (dirRt N d) (i * j % (A * B)))) A B (dirRt B d) = G := ⟨_, rfl⟩
  have HGG := Lib.hid hG
  have HGL : Hid (G.length = N) := by unfold Hid; rw [← hG, grL_len, hN]
  obtain ⟨R, hR⟩ : ∃ R, dftL xs (dirRt N d) = R := ⟨_, rfl⟩
  have HSN : Hid (∀ i j, i < A → j < B → nth R (j * A + i) = nth G (i * B + j)) := fun i j h1 h2 => by
    have hin : j * A + i < A * B := by rw [Nat.mul_comm A B]; exact row_in h2 h1
    rw [← hR, ← HSP.out, ← hG, hN]
    unfold splL
    rw [nth_ofFn _ _ _ hin, (at_row h1).2, (at_row h1).1]
  obtain ⟨z, hz⟩ : ∃ z, dirRt N d = z := ⟨_, rfl⟩
  rw [hz] at CT HPL GR
  have HRR := Lib.hid hR
  rw [hR] at HDF HDL
  rw [hz] at hG HGG
  have HZ := Lib.hid hz
  clear hL hx hxl hN hs hb0 hin h00 h01 h02 h10 h11 h12 HK hC0 hC1 hG hR hz
  obtain ⟨W1, hW1, hb1, x0, x1⟩ := two_boxes w #[.func (.func 107) #[] #[.pointer (some ⟨q, 0, none⟩)]] #[.int .i64 k, .int .i64 N, .slice (some ⟨b, off, none⟩) 2 cap] 138 48
  have HW1 := Lib.hid hW1
  have HB1 := Lib.hid hb1
  have X0 := Lib.hid x0
  have X1 := Lib.hid x1
  have hsz1 := block_lt x1
  clear hW1 hb1 x0 x1
  have D2 : W1.cell? ⟨w.heap.size + 1, 2, none⟩ = some (.slice (some ⟨b, off, none⟩) 2 cap) := block_cell X1.out 2
  obtain ⟨e0, e1, e2, e3, e4, e5⟩ := KK.out W1 HB1.out
  go_enter Tryz.func157, Tryz.ntmps157
  go_wp2_with fail
  rw [HW1.out]
  go_quiet (fail)
  have hbq := below_drewN (Below.refl W1.heap.size W1) nq
  obtain ⟨wb, hwb⟩ : ∃ wb, W1.drewN nq = wb := ⟨_, rfl⟩
  rw [hwb] at hbq ⊢
  have HBB := Lib.hid (chain HB1.out hbq)
  have X0 := Lib.hid ((hbq.block _ (block_lt X0.out)).trans X0.out)
  have X1 := Lib.hid ((hbq.block _ (block_lt X1.out)).trans X1.out)
  clear hwb hbq D2 e0 e1 e2 e3 e4 e5
  have R0 : wb.cell? ⟨w.heap.size, 0, none⟩ = some (.func (.func 107) #[] #[.pointer (some ⟨q, 0, none⟩)]) := block_cell X0.out 0
  have D0 : wb.cell? ⟨w.heap.size + 1, 0, none⟩ = some (.int .i64 k) := block_cell X1.out 0
  have D1 : wb.cell? ⟨w.heap.size + 1, 1, none⟩ = some (.int .i64 N) := block_cell X1.out 1
  have D2 : wb.cell? ⟨w.heap.size + 1, 2, none⟩ = some (.slice (some ⟨b, off, none⟩) 2 cap) := block_cell X1.out 2
  go_wp2_with fail
  refine (CT.out _ (chain HBW.out HBB.out)).mono ?_; rintro e w2 ⟨a2, cap2, rfl, hr2, hcap2, hb2⟩
  simp only [HPL.out] at hcap2 ⊢
  have X0 := Lib.hid ((hb2.block _ (block_lt X0.out)).trans X0.out)
  have X1 := Lib.hid ((hb2.block _ (block_lt X1.out)).trans X1.out)
  have HB2 := Lib.hid (chain HBB.out hb2)
  have HR2 := Lib.hid hr2
  obtain ⟨w3, hW3, hb3, x3⟩ := box_any w2 #[.slice a2 N cap2] 22
  have HW3 := Lib.hid hW3
  have HB3 := Lib.hid (chain HB2.out hb3)
  have X0 := Lib.hid ((hb3.block _ (block_lt X0.out)).trans X0.out)
  have X1 := Lib.hid ((hb3.block _ (block_lt X1.out)).trans X1.out)
  have X3 := Lib.hid x3
  have HR3 := Lib.hid (HR2.out.below hb3)
  clear R0 D0 D1 D2 hr2 hb2 hcap2
  have R0 : w3.cell? ⟨w.heap.size, 0, none⟩ = some (.func (.func 107) #[] #[.pointer (some ⟨q, 0, none⟩)]) := block_cell X0.out 0
  have D0 : w3.cell? ⟨w.heap.size + 1, 0, none⟩ = some (.int .i64 k) := block_cell X1.out 0
  have D1 : w3.cell? ⟨w.heap.size + 1, 1, none⟩ = some (.int .i64 N) := block_cell X1.out 1
  have D2 : w3.cell? ⟨w.heap.size + 1, 2, none⟩ = some (.slice (some ⟨b, off, none⟩) 2 cap) := block_cell X1.out 2
  rw [← HW3.out] at R0 D0 D1 D2
  have D1' : w3.cell? ⟨w.heap.size + 1, 1, none⟩ = some (.int .i64 N) := block_cell X1.out 1
  have c3 : w3.cell? ⟨w2.heap.size, 0, none⟩ = some (.slice a2 N cap2) := block_cell X3.out 0
  have l1 : w.heap.size + 1 < w3.heap.size := block_lt X1.out
  have l3 : w2.heap.size < w3.heap.size := block_lt X3.out
  have hT : Hid (∀ V (i j : Nat), Below w3.heap.size w3 V → i < A → j < B → Calls Tryz.prog 183 #[.int .i64 i, .int .i64 j, .pointer (some ⟨w2.heap.size, 0, none⟩), .pointer (some ⟨w.heap.size + 1, 0, none⟩)] V fun e w' => e = .returned (.int .u64 (pw z (i * j % (A * B)))) ∧ Below V.heap.size V w') := fun V i j hV hi hj => by
    rw [← HN.out]
    exact split_turn w2.heap.size (w.heap.size + 1) N i j cap2 a2 z V ((hV.cell (p := ⟨w2.heap.size, 0, none⟩) l3).trans c3) ((hV.cell (p := ⟨w.heap.size + 1, 1, none⟩) l1).trans D1') (HR3.out.below hV) (by omega) hN2 (by omega) (by omega)
  clear D1' c3 x3 hb3 hW3
  go_wp2_with fail
  rw [HW3.out]
  refine (GR.out _ ax cx xs w2.heap.size (w.heap.size + 1) HB3.out (HX.out.below HB3.out) HXL.out hT.out).mono ?_; rintro e w4 ⟨a4, cap4, rfl, ho4, hf4, hl4, hb4⟩
  rw [HGG.out] at ho4 hf4 hl4 ⊢
  rw [HGL.out] at ho4 hl4 ⊢
  have X0 := Lib.hid ((hb4.block _ (block_lt X0.out)).trans X0.out)
  have X1 := Lib.hid ((hb4.block _ (block_lt X1.out)).trans X1.out)
  have HR4 : Hid (Row .u64 w4 a4 G) := Row.of_own HGL.out (by omega) hf4 ho4
  have HB4 := Lib.hid (chain HB3.out hb4)
  have hAi : (2 : Int) ≤ (A : Int) := by omega
  clear R0 D0 D1 D2 ho4 hf4 hl4 hb4
  have D1 : w4.cell? ⟨w.heap.size + 1, 1, none⟩ = some (.int .i64 N) := block_cell X1.out 1
  go_wp2_with (at_make; refine wpList_make_full _ rfl _ _ 22 rfl w4.heap.size 23 i0 (.int .u64 0) 1 Tryz.underlying22 hi hz0 hz1 .i64 .i64 N N N rfl rfl rfl rfl (by rw [hz2]; omega) (by unfold maxLen; omega) (Nat.le_refl _) ?_)
  intro w5 hown0 hgrow0
  have HO5 := Lib.hid (Own.made hown0 hgrow0)
  clear hown0 hgrow0 D1
  go_wp2_with fail
  go_loopw [40] (fun iv wr => ∃ i : Nat, i ≤ A ∧ iv = .int .i64 i ∧ OwnAt .u64 23 w4 wr w4.heap.size N (tF R A i 0)) (fun iv _ => A - (intOf iv).toNat)
  case atStart => exact ⟨0, Nat.zero_le _, rfl, own_eqz HO5.out (fun x => tF_start _ _ _)⟩
  case round =>
    obtain ⟨i, hi9, rfl, hoY⟩ := hrel
    by_cases hli : i < A
    · have HO6 := Lib.hid hoY
      obtain ⟨wo, rfl⟩ : ∃ wo : World, wo = wr := ⟨_, rfl⟩
      clear hoY HO5
      go_wp2_with fail
      go_loopw [44] (fun jv wi => ∃ j : Nat, j ≤ B ∧ jv = .int .i64 j ∧ OwnAt .u64 23 w4 wi w4.heap.size N (tF R A i j)) (fun jv _ => B - (intOf jv).toNat)
      case atStart => exact ⟨0, Nat.zero_le _, rfl, HO6.out⟩
      case round =>
        obtain ⟨j, hj9, rfl, hoY⟩ := hrel
        by_cases hlj : j < B
        · have h1 := row_in hlj hli
          have h2 := row_in hli hlj
          rw [Nat.mul_comm B A, ← HN.out] at h1
          rw [← HN.out] at h2
          obtain ⟨bx, ox, rfl, hcx⟩ := (HR4.out.below hoY.below).at (by rw [HGL.out]; omega)
          have hta := tF_at R A j i hli
          have hto : ∀ x, x ≠ j * A + i → tF R A i (j + 1) x = tF R A i j x := fun x hx => tF_other R A j i x hli hx
          have hsn := HSN.out i j hli hlj
          obtain ⟨s1, hs1⟩ : ∃ s, j * A = s := ⟨_, rfl⟩
          obtain ⟨s2, hs2⟩ : ∃ s, i * B = s := ⟨_, rfl⟩
          rw [hs1] at h1 hta hto hsn
          rw [hs2] at h2 hsn
          have m1 : (A : Int) * (j : Int) = (s1 : Int) := by rw [Int.mul_comm]; exact mulN j A s1 hs1
          have m2 := mulN i B s2 hs2
          have mw1 : IntKind.i64.wrap (s1 : Int) = (s1 : Int) := IntWalk.i64_in _ (by omega)
          have mw2 : IntKind.i64.wrap (s2 : Int) = (s2 : Int) := IntWalk.i64_in _ (by omega)
          obtain ⟨t1, ht1⟩ : ∃ t, s1 + i = t := ⟨_, rfl⟩
          obtain ⟨t2, ht2⟩ : ∃ t, s2 + j = t := ⟨_, rfl⟩
          rw [ht1] at h1 hta hto hsn
          rw [ht2] at h2 hsn
          have m3 : (i : Int) + (s1 : Int) = (t1 : Int) := by omega
          have m4 : (s2 : Int) + (j : Int) = (t2 : Int) := by omega
          have mw3 : IntKind.i64.wrap (t1 : Int) = (t1 : Int) := IntWalk.i64_in _ (by omega)
          have mw4 : IntKind.i64.wrap (t2 : Int) = (t2 : Int) := IntWalk.i64_in _ (by omega)
          have c2 := hcx t2 (by rw [HGL.out]; exact h2)
          obtain ⟨x, hx⟩ : ∃ x, nth G t2 = x := ⟨_, rfl⟩
          rw [hx] at c2 hsn
          have hcell := hoY.cell t1 h1
          rw [hta.1] at hcell
          have hfz := hoY.free t1
          have hnext := hoY.store t1 h1 x (f' := tF R A i (j + 1)) (by rw [hta.2, hsn]) (fun r _ hr => hto r hr)
          have HNX := Lib.hid hnext
          have g1 : (0 : Int) ≤ (t1 : Int) := by omega
          have g2 : (t1 : Int) < (N : Int) := by omega
          have g3 : (0 : Int) ≤ (t2 : Int) := by omega
          have g4 : (t2 : Int) < (N : Int) := by omega
          clear hcx hs1 hs2 ht1 ht2 hx hta hto hsn hnext hoY
          go_wp2_with fail
          go_roundw
          case rel => exact ⟨j + 1, by omega, by go_num, HNX.out⟩
          case measure => simp [intOf]; omega
        · have hjB : j = B := by omega
          have HNX : Hid (OwnAt .u64 23 w4 wr w4.heap.size N (tF R A (i + 1) 0)) := by
            rw [hjB] at hoY
            exact hoY.congr (fun x hx => tF_next R B A i x (by omega) (by rw [Nat.mul_comm B A, ← HN.out]; exact hx))
          clear hoY
          go_wp2_with fail
          go_roundw
          case rel => exact ⟨i + 1, by omega, by go_num, HNX.out⟩
          case measure => simp [intOf]; omega
    · have hiA : i = A := by omega
      subst hiA
      have hres := (hoY.givesO (xs := R) HDL.out HDF.out (fun x _ => (tF_end R i x (by omega)).symm) hN2).step HB4.out
      have HRES := Lib.hid hres
      clear hoY hres
      go_wp2_with fail
      go_ret
      have h := HRES.out
      rw [← HRR.out] at h
      exact h
theorem mv_goo (xs : List Int) (a b : Nat) (hx : xs.length = a * b) : mvL (gooL a b) xs = gdIn xs a b := by
  apply ext_nth (by rw [mvL_len, gdIn_len, hx])
  intro i hi
  rw [mvL_len, hx] at hi
  rw [nth_mvL _ _ _ (by rw [hx]; exact hi), nth_gdIn _ _ _ _ hi, gooL, nth_mapL _ _ _ hi, Int.toNat_natCast]
set_option maxHeartbeats 8000000 in
theorem exec_good (q : Nat) (N A B b off cap cx : Nat) (k d k0 k1 : Int) (a0 a1 ax : Option Addr) (m0 c0 m1 c1 : Nat) (xs : List Int) (w : World) (hx : Row .u64 w ax xs) (hxl : xs.length = N) (hN : N = A * B) (hA : 2 ≤ A) (hB : 2 ≤ B) (hs : hasSz (N : Int) = true) (hg : Nat.gcd A B = 1)
    (h00 : w.cell? ⟨b, off, none⟩ = some (.int .i64 k0)) (h01 : w.cell? ⟨b, off + 1, none⟩ = some (.int .i64 A)) (h02 : w.cell? ⟨b, off + 2, none⟩ = some (.slice a0 m0 c0))
    (h10 : w.cell? ⟨b, off + 3, none⟩ = some (.int .i64 k1)) (h11 : w.cell? ⟨b, off + 4, none⟩ = some (.int .i64 B)) (h12 : w.cell? ⟨b, off + 5, none⟩ = some (.slice a1 m1 c1))
    (hC0 : ∀ W (ax : Option Addr) (cx : Nat) (xs : List Int), Below w.heap.size w W → Row .u64 W ax xs → xs.length = A → Calls Tryz.prog 138 #[.agg #[.func (.func 107) #[] #[.pointer (some ⟨q, 0, none⟩)]], .agg #[.int .i64 k0, .int .i64 A, .slice a0 m0 c0], .int .i64 d, .slice ax A cx] W (GivesOwn .u64 23 (dftL xs (dirRt A d)) W))
    (hC1 : ∀ W (ax : Option Addr) (cx : Nat) (xs : List Int), Below w.heap.size w W → Row .u64 W ax xs → xs.length = B → Calls Tryz.prog 138 #[.agg #[.func (.func 107) #[] #[.pointer (some ⟨q, 0, none⟩)]], .agg #[.int .i64 k1, .int .i64 B, .slice a1 m1 c1], .int .i64 d, .slice ax B cx] W (GivesOwn .u64 23 (dftL xs (dirRt B d)) W)) :
    Calls Tryz.prog 158 #[.agg #[.func (.func 107) #[] #[.pointer (some ⟨q, 0, none⟩)]], .agg #[.int .i64 k, .int .i64 N, .slice (some ⟨b, off, none⟩) 2 cap], .int .i64 d, .slice ax N cx] w (GivesOwn .u64 23 (dftL xs (dirRt N d)) w) := by
  obtain ⟨i0, hi, hz0, hz1, hz2⟩ := info_parts info_u64
  have hN2 : N ≤ 16777216 := by have := (hasSz_iff.1 hs).2.1; omega
  have hbl : b < w.heap.size := World.block_lt_of_cell? _ _ h00
  have HK : Hid (w.cell? ⟨b, off, none⟩ = some (.int .i64 k0) ∧ w.cell? ⟨b, off + 1, none⟩ = some (.int .i64 A) ∧ w.cell? ⟨b, off + 2, none⟩ = some (.slice a0 m0 c0) ∧ w.cell? ⟨b, off + 3, none⟩ = some (.int .i64 k1) ∧ w.cell? ⟨b, off + 4, none⟩ = some (.int .i64 B) ∧ w.cell? ⟨b, off + 5, none⟩ = some (.slice a1 m1 c1)) := ⟨h00, h01, h02, h10, h11, h12⟩
  have KK : Hid (∀ W, Below w.heap.size w W → W.cell? ⟨b, off, none⟩ = some (.int .i64 k0) ∧ W.cell? ⟨b, off + 1, none⟩ = some (.int .i64 A) ∧ W.cell? ⟨b, off + 2, none⟩ = some (.slice a0 m0 c0) ∧ W.cell? ⟨b, off + 3, none⟩ = some (.int .i64 k1) ∧ W.cell? ⟨b, off + 4, none⟩ = some (.int .i64 B) ∧ W.cell? ⟨b, off + 5, none⟩ = some (.slice a1 m1 c1)) := fun W hW => by
    obtain ⟨e0, e1, e2, e3, e4, e5⟩ := HK.out
    exact ⟨(hW.cell (p := ⟨b, off, none⟩) hbl).trans e0, (hW.cell (p := ⟨b, off + 1, none⟩) hbl).trans e1, (hW.cell (p := ⟨b, off + 2, none⟩) hbl).trans e2, (hW.cell (p := ⟨b, off + 3, none⟩) hbl).trans e3, (hW.cell (p := ⟨b, off + 4, none⟩) hbl).trans e4, (hW.cell (p := ⟨b, off + 5, none⟩) hbl).trans e5⟩
  have hAN : A ≤ N := by rw [hN]; exact Nat.le_mul_of_pos_right A (by omega)
  have hBN : B ≤ N := by rw [hN]; exact Nat.le_mul_of_pos_left B (by omega)
  have hsd : Sides (A : Int) (B : Int) := ⟨by omega, by omega, by omega, by omega, by rw [← Int.natCast_mul, ← hN]; omega⟩
  have GR : Hid (∀ W (ax : Option Addr) (cx : Nat) (xs : List Int), Below w.heap.size w W → Row .u64 W ax xs → xs.length = N →  Calls Tryz.prog 182 #[.agg #[.func (.func 107) #[] #[.pointer (some ⟨q, 0, none⟩)]], .agg #[.int .i64 k, .int .i64 N, .slice (some ⟨b, off, none⟩) 2 cap], .int .i64 d, .slice ax N cx, .func (.func 187) #[] #[]] W (GivesOwn .u64 23 (grL (gtL xs A B (dirRt A d) (fun _ _ => 1)) A B (dirRt B d)) W)) := fun W ax cx xs  hW hx hxl  => by
    obtain ⟨e0, e1, e2, e3, e4, e5⟩ := KK.out W hW
    exact exec_gridG q  N A B b off cap cx k d k0 k1 a0 a1 ax m0 c0 m1 c1 xs _ W hx hxl hN hA hB hN2 e0 e1 e2 e3 e4 e5 (fun V ax cx xs hV hx hxl => hC0 V ax cx xs (chain hW hV) hx hxl) (fun V ax cx xs hV hx hxl => hC1 V ax cx xs (chain hW hV) hx hxl) (fun V i j _ _ _ => good_turn i j V) (fun i j => by omega)
  have HSP : Hid (gdL xs A B (dirRt A d) (dirRt B d) = dftL xs (dirRt N d)) := by
    have := good_eq xs A B d (by rw [hxl, hN]) (by rw [← hN]; exact hs) hg
    rwa [← hN] at this
  have CG : Hid (∀ W, Calls Tryz.prog 184 #[.int .i64 A, .int .i64 B] W (GivesRowE .i64 (gooL A B) 0 W)) := fun W => permGood_ok A B W hsd hg
  have CC : Hid (∀ W, Calls Tryz.prog 185 #[.int .i64 A, .int .i64 B] W (GivesRowE .i64 (crtL A B) 0 W)) := fun W => permCrt_ok A B W hsd hg
  have HGO : Hid ((gooL A B).length = N) := by unfold Hid; rw [gooL_len, hN]
  have HCO : Hid ((crtL A B).length = N) := by unfold Hid; rw [crtL_len, hN]
  have hax : ∃ bb oo, ax = some ⟨bb, oo, none⟩ := by
    obtain ⟨bb, oo, e, _⟩ := hx.at (by rw [hxl]; omega)
    exact ⟨bb, oo, e⟩
  have CA : Hid (∀ W (ap : Option Addr) (cp : Nat), Below w.heap.size w W → Row .i64 W ap (gooL A B) → Calls Tryz.prog 186 #[.slice ap N cp, .slice ax N cx] W (GivesRowE .u64 (gdIn xs A B) 0 W)) := fun W ap cp hW hp => by
    have := permApply_ok ap ax N N cp cx (gooL A B) xs W hp (hx.below hW) HGO.out hxl rfl hN2 (isPerm_goo A B hg) (fun e => by obtain ⟨_, _, e2⟩ := hax; rw [e2] at e; cases e)
    rwa [mv_goo xs A B (by rw [hxl, hN])] at this
  have HGI : Hid ((gdIn xs A B).length = N) := by unfold Hid; rw [gdIn_len, hN]
  have HX := Lib.hid hx
  have HXL := Lib.hid hxl
  have HN := Lib.hid hN
  have HDF : Hid (∀ x ∈ dftL xs (dirRt N d), fits .u64 x) := dftL_fits _ _
  have HDL : Hid ((dftL xs (dirRt N d)).length = N) := (dftL_len _ _).trans hxl
  obtain ⟨G, hG⟩ : ∃ G, grL (gtL (gdIn xs A B) A B (dirRt A d) (fun _ _ => 1)) A B (dirRt B d) = G := ⟨_, rfl⟩
  have HGG := Lib.hid hG
  have HGL : Hid (G.length = N) := by unfold Hid; rw [← hG, grL_len, hN]
  obtain ⟨R, hR⟩ : ∃ R, dftL xs (dirRt N d) = R := ⟨_, rfl⟩
  have HSN : Hid (∀ k, k < N → nth R k = nth G (crtF A B k)) := fun k hk => by
    rw [← hR, ← HSP.out, ← hG]
    unfold gdL
    rw [nth_ofFn _ _ _ (by rw [← hN]; exact hk)]
  have HCL : Hid (∀ i, i < N → ∃ k, k < N ∧ crtF A B k = i ∧ nth (crtL A B) i = (k : Int)) := fun i hi => by
    have h := invOf_lt (A * B) (crtF A B) (crtF_lt A B) (crtF_inj A B hg) i (by rw [← hN]; exact hi)
    exact ⟨_, by rw [hN]; exact h.1, h.2, by unfold crtL; rw [nth_mapL _ _ _ (by rw [← hN]; exact hi)]⟩
  have HCI : Hid (∀ k k', k < N → k' < N → k ≠ k' → crtF A B k ≠ crtF A B k') := fun k k' h1 h2 hne e => by
    rcases Nat.lt_or_gt_of_ne hne with h | h
    · exact crtF_inj A B hg k k' h (by rw [← hN]; exact h2) e
    · exact crtF_inj A B hg k' k h (by rw [← hN]; exact h1) e.symm
  have HCB : Hid (∀ k, k < N → crtF A B k < N) := fun k hk => by rw [hN]; exact crtF_lt A B k (by rw [← hN]; exact hk)
  have HRR := Lib.hid hR
  rw [hR] at HDF HDL
  obtain ⟨CL, hCL⟩ : ∃ CL, crtL A B = CL := ⟨_, rfl⟩
  rw [hCL] at CC HCO HCL
  obtain ⟨GO, hGO⟩ : ∃ GO, gooL A B = GO := ⟨_, rfl⟩
  rw [hGO] at CG HGO CA
  clear hx hxl hN hs hsd hg h00 h01 h02 h10 h11 h12 HK hC0 hC1 hG hR hCL hGO hax
  obtain ⟨W1, hW1, hb1, x0, x1⟩ := two_boxes w #[.func (.func 107) #[] #[.pointer (some ⟨q, 0, none⟩)]] #[.int .i64 k, .int .i64 N, .slice (some ⟨b, off, none⟩) 2 cap] 138 48
  have HW1 := Lib.hid hW1
  have HB1 := Lib.hid hb1
  have X0 := Lib.hid x0
  have X1 := Lib.hid x1
  have hsz1 := block_lt x1
  clear hW1 hb1 x0 x1
  have D2 : W1.cell? ⟨w.heap.size + 1, 2, none⟩ = some (.slice (some ⟨b, off, none⟩) 2 cap) := block_cell X1.out 2
  obtain ⟨e0, e1, e2, e3, e4, e5⟩ := KK.out W1 HB1.out
  go_enter Tryz.func158, Tryz.ntmps158
  go_wp2_with fail
  rw [HW1.out]
  go_quiet (fail)
  have hbq := below_drewN (Below.refl W1.heap.size W1) nq
  obtain ⟨wb, hwb⟩ : ∃ wb, W1.drewN nq = wb := ⟨_, rfl⟩
  rw [hwb] at hbq ⊢
  have HBB := Lib.hid (chain HB1.out hbq)
  have X0 := Lib.hid ((hbq.block _ (block_lt X0.out)).trans X0.out)
  have X1 := Lib.hid ((hbq.block _ (block_lt X1.out)).trans X1.out)
  clear hwb hbq D2 e0 e1 e2 e3 e4 e5
  go_wp2_with fail
  refine (CG.out _).mono ?_; rintro e w2 ⟨a2, cap2, rfl, hr2, hcap2, hb2⟩
  simp only [HGO.out] at hcap2 ⊢
  have X0 := Lib.hid ((hb2.block _ (block_lt X0.out)).trans X0.out)
  have X1 := Lib.hid ((hb2.block _ (block_lt X1.out)).trans X1.out)
  have HB2 := Lib.hid (chain HBB.out hb2)
  have HR2 := Lib.hid hr2
  clear hr2 hb2 hcap2
  go_wp2_with fail
  refine (CC.out _).mono ?_; rintro e w3 ⟨a3, cap3, rfl, hr3, hcap3, hb3⟩
  simp only [HCO.out] at hcap3 ⊢
  have X0 := Lib.hid ((hb3.block _ (block_lt X0.out)).trans X0.out)
  have X1 := Lib.hid ((hb3.block _ (block_lt X1.out)).trans X1.out)
  have HB3 := Lib.hid (chain HB2.out hb3)
  have HR2 := Lib.hid (HR2.out.below hb3)
  have HR3 := Lib.hid hr3
  clear hr3 hb3 hcap3
  go_wp2_with fail
  refine (CA.out _ _ _ HB3.out HR2.out).mono ?_; rintro e w4 ⟨a4, cap4, rfl, hr4, hcap4, hb4⟩
  simp only [HGI.out] at hcap4 ⊢
  have X0 := Lib.hid ((hb4.block _ (block_lt X0.out)).trans X0.out)
  have X1 := Lib.hid ((hb4.block _ (block_lt X1.out)).trans X1.out)
  have HB4 := Lib.hid (chain HB3.out hb4)
  have HR3 := Lib.hid (HR3.out.below hb4)
  have HR4 := Lib.hid hr4
  clear hr4 hb4 hcap4
  have R0 : w4.cell? ⟨w.heap.size, 0, none⟩ = some (.func (.func 107) #[] #[.pointer (some ⟨q, 0, none⟩)]) := block_cell X0.out 0
  have D0 : w4.cell? ⟨w.heap.size + 1, 0, none⟩ = some (.int .i64 k) := block_cell X1.out 0
  have D1 : w4.cell? ⟨w.heap.size + 1, 1, none⟩ = some (.int .i64 N) := block_cell X1.out 1
  have D2 : w4.cell? ⟨w.heap.size + 1, 2, none⟩ = some (.slice (some ⟨b, off, none⟩) 2 cap) := block_cell X1.out 2
  go_wp2_with fail
  refine (GR.out _ a4 cap4 (gdIn xs A B) HB4.out HR4.out HGI.out).mono ?_; rintro e w5 ⟨a5, cap5, rfl, ho5, hf5, hl5, hb5⟩
  rw [HGG.out] at ho5 hf5 hl5 ⊢
  rw [HGL.out] at ho5 hl5 ⊢
  have X0 := Lib.hid ((hb5.block _ (block_lt X0.out)).trans X0.out)
  have X1 := Lib.hid ((hb5.block _ (block_lt X1.out)).trans X1.out)
  have HR5 : Hid (Row .u64 w5 a5 G) := Row.of_own HGL.out (by omega) hf5 ho5
  have HR3 := Lib.hid (HR3.out.below hb5)
  have HB5 := Lib.hid (chain HB4.out hb5)
  clear R0 D0 D1 D2 ho5 hf5 hl5 hb5
  have D1 : w5.cell? ⟨w.heap.size + 1, 1, none⟩ = some (.int .i64 N) := block_cell X1.out 1
  go_wp2_with (at_make; refine wpList_make_full _ rfl _ _ 22 rfl w5.heap.size 23 i0 (.int .u64 0) 1 Tryz.underlying22 hi hz0 hz1 .i64 .i64 N N N rfl rfl rfl rfl (by rw [hz2]; omega) (by unfold maxLen; omega) (Nat.le_refl _) ?_)
  intro w6 hown0 hgrow0
  have HO6 := Lib.hid (Own.made hown0 hgrow0)
  clear hown0 hgrow0 D1
  go_wp2_with fail
  go_loopw [59] (fun iv wr => ∃ i : Nat, i ≤ N ∧ iv = .int .i64 i ∧ OwnAt .u64 23 w5 wr w5.heap.size N (fun x => if crtF A B x < i then nth R x else 0)) (fun iv _ => N - (intOf iv).toNat)
  case atStart => exact ⟨0, Nat.zero_le _, rfl, own_eqz HO6.out (fun x => if_neg (by omega))⟩
  case round =>
    obtain ⟨i, hi9, rfl, hoY⟩ := hrel
    by_cases hli : i < N
    · obtain ⟨bx, ox, rfl, hcx⟩ := (HR5.out.below hoY.below).at (by rw [HGL.out]; omega)
      obtain ⟨bc, oc, rfl, hcc⟩ := (HR3.out.below hoY.below).at (by rw [HCO.out]; omega)
      have c1 := hcc i (by rw [HCO.out]; exact hli)
      have c2 := hcx i (by rw [HGL.out]; exact hli)
      obtain ⟨κ, hκ, hκc, hκn⟩ := HCL.out i hli
      rw [hκn] at c1
      have hsn := HSN.out κ hκ
      rw [hκc] at hsn
      obtain ⟨x, hx⟩ : ∃ x, nth G i = x := ⟨_, rfl⟩
      rw [hx] at c2 hsn
      have hcell := hoY.cell κ hκ
      rw [if_neg (by omega)] at hcell
      have hfz := hoY.free κ
      have hnext := hoY.store κ hκ x (f' := fun x => if crtF A B x < i + 1 then nth R x else 0) (by show (if crtF A B κ < i + 1 then _ else _) = _; rw [if_pos (by omega), hsn]) (fun r hr hne => by
        have h9 := HCI.out r κ hr hκ hne
        rw [hκc] at h9
        by_cases h : crtF A B r < i
        · rw [if_pos h, if_pos (by omega)]
        · rw [if_neg h, if_neg (by omega)])
      have HNX := Lib.hid hnext
      have g1 : (0 : Int) ≤ (κ : Int) := by omega
      have g2 : (κ : Int) < (N : Int) := by omega
      have g3 : (0 : Int) ≤ (i : Int) := by omega
      have g4 : (i : Int) < (N : Int) := by omega
      clear hcx hcc hκc hκn hsn hx hnext hoY
      go_wp2_with fail
      go_roundw
      case rel => exact ⟨i + 1, by omega, by go_num, HNX.out⟩
      case measure => simp [intOf]; omega
    · have hiN : i = N := by omega
      have hres := (hoY.givesO (xs := R) HDL.out HDF.out (fun x hx => (if_pos (by have := HCB.out x hx; omega)).symm) hN2).step HB5.out
      have HRES := Lib.hid hres
      clear hoY hres
      go_wp2_with fail
      go_ret
      have h := HRES.out
      rw [← HRR.out] at h
      exact h
end Go.Proofs.YtlnlijeamflpiaaGreat

namespace Go.Proofs.YtlnlijeamflpiaaGreat
open Go.RowKit Sm
set_option linter.unusedVariables false
set_option linter.unusedSimpArgs false
set_option maxRecDepth 100000
theorem mulL_len2 (xs ys : List Int) : (mulL xs ys).length = xs.length := by simp [mulL, zipL]
set_option maxHeartbeats 8000000 in
theorem exec_around (q N M b off cap cx ct : Nat) (k k0 : Int) (a0 ax at' : Option Addr) (m0 c0 : Nat) (xs ts : List Int) (w : World) (hx : Row .u64 w ax xs) (hxl : xs.length = M) (ht : Row .u64 w at' ts) (htl : ts.length = M) (hs : hasSz (M : Int) = true)
    (h00 : w.cell? ⟨b, off, none⟩ = some (.int .i64 k0)) (h01 : w.cell? ⟨b, off + 1, none⟩ = some (.int .i64 M)) (h02 : w.cell? ⟨b, off + 2, none⟩ = some (.slice a0 m0 c0))
    (hC0 : ∀ W (ax : Option Addr) (cx : Nat) (xs : List Int), Below w.heap.size w W → Row .u64 W ax xs → xs.length = M → Calls Tryz.prog 138 #[.agg #[.func (.func 107) #[] #[.pointer (some ⟨q, 0, none⟩)]], .agg #[.int .i64 k0, .int .i64 M, .slice a0 m0 c0], .int .i64 0, .slice ax M cx] W (GivesOwn .u64 23 (dftL xs (dirRt M 0)) W)) :
    Calls Tryz.prog 188 #[.agg #[.func (.func 107) #[] #[.pointer (some ⟨q, 0, none⟩)]], .agg #[.int .i64 k, .int .i64 N, .slice (some ⟨b, off, none⟩) 1 cap], .slice ax M cx, .slice at' M ct] w (GivesRow .u64 (arL xs ts M) w) := by
  have hM := hasSz_bd hs
  have hbl : b < w.heap.size := World.block_lt_of_cell? _ _ h00
  have HK : Hid (w.cell? ⟨b, off, none⟩ = some (.int .i64 k0) ∧ w.cell? ⟨b, off + 1, none⟩ = some (.int .i64 M) ∧ w.cell? ⟨b, off + 2, none⟩ = some (.slice a0 m0 c0)) := ⟨h00, h01, h02⟩
  have KK : Hid (∀ W, Below w.heap.size w W → W.cell? ⟨b, off, none⟩ = some (.int .i64 k0) ∧ W.cell? ⟨b, off + 1, none⟩ = some (.int .i64 M) ∧ W.cell? ⟨b, off + 2, none⟩ = some (.slice a0 m0 c0)) := fun W hW => by
    obtain ⟨e0, e1, e2⟩ := HK.out
    exact ⟨(hW.cell (p := ⟨b, off, none⟩) hbl).trans e0, (hW.cell (p := ⟨b, off + 1, none⟩) hbl).trans e1, (hW.cell (p := ⟨b, off + 2, none⟩) hbl).trans e2⟩
  have HX := Lib.hid hx
  have HT := Lib.hid ht
  have HXL := Lib.hid hxl
  have HTL := Lib.hid htl
  have HC0 := Lib.hid hC0
  have HAL : Hid ((arL xs ts M).length = M) := by unfold Hid arL; rw [scaleL_len, revL_len, dftL_len, mulL_len2, dftL_len, hxl]
  have HAR : Hid (scaleL (revL (dftL (mulL (dftL xs (dirRt M 0)) ts) (dirRt M 0))) (invN M) = arL xs ts M) := rfl
  have L1 : Hid ((dftL xs (dirRt M 0)).length = M) := (dftL_len _ _).trans hxl
  have L2 : Hid ((mulL (dftL xs (dirRt M 0)) ts).length = M) := (mulL_len2 _ _).trans L1.out
  have L3 : Hid ((dftL (mulL (dftL xs (dirRt M 0)) ts) (dirRt M 0)).length = M) := (dftL_len _ _).trans L2.out
  have L4 : Hid ((revL (dftL (mulL (dftL xs (dirRt M 0)) ts) (dirRt M 0))).length = M) := (revL_len _).trans L3.out
  have CI : Hid (∀ W, Calls Tryz.prog 104 #[.int .u64 M] W fun e w' => e = .returned (.int .u64 (invN M)) ∧ W = w') := fun W => gold_Inv (M : Int) W (by omega) (by omega)
  have hir := invN_range M
  obtain ⟨F1, hF1⟩ : ∃ F, dftL xs (dirRt M 0) = F := ⟨_, rfl⟩
  have H1 := Lib.hid hF1
  rw [hF1] at HAR L1 L2 L3 L4
  obtain ⟨F2, hF2⟩ : ∃ F, mulL F1 ts = F := ⟨_, rfl⟩
  have H2 := Lib.hid hF2
  rw [hF2] at HAR L2 L3 L4
  obtain ⟨F3, hF3⟩ : ∃ F, dftL F2 (dirRt M 0) = F := ⟨_, rfl⟩
  have H3 := Lib.hid hF3
  rw [hF3] at HAR L3 L4
  obtain ⟨F4, hF4⟩ : ∃ F, revL F3 = F := ⟨_, rfl⟩
  have H4 := Lib.hid hF4
  rw [hF4] at HAR L4
  obtain ⟨iv, hiv⟩ : ∃ v, invN M = v := ⟨_, rfl⟩
  rw [hiv] at HAR CI hir
  obtain ⟨R, hR⟩ : ∃ R, arL xs ts M = R := ⟨_, rfl⟩
  have HRR := Lib.hid hR
  rw [hR] at HAR HAL
  have CS : Hid (∀ W (a : Option Addr) (c : Nat), Row .u64 W a F4 → Calls Tryz.prog 102 #[.slice a M c, .int .u64 iv] W (GivesRow .u64 R W)) := fun W a c h => by
    have := vec_ScaleN a M c F4 iv W h L4.out (by rw [L4.out]; omega) hir.1 (by omega)
    rwa [HAR.out] at this
  have CV : Hid (∀ W (a : Option Addr) (c : Nat), Row .u64 W a F3 → Calls Tryz.prog 103 #[.slice a M c] W (GivesRow .u64 F4 W)) := fun W a c h => by
    have := vec_RevN a M c F3 W h L3.out (by rw [L3.out]; omega)
    rwa [H4.out] at this
  have CMU : Hid (∀ W (a a' : Option Addr) (c c' : Nat), Row .u64 W a F1 → Row .u64 W a' ts → Calls Tryz.prog 74 #[.slice a M c, .slice a' M c'] W (GivesRowE .u64 F2 0 W)) := fun W a a' c c' h h' => by
    have := vec_Mul a a' M M c c' F1 ts W h h' L1.out htl rfl (by omega)
    rwa [H2.out] at this
  have N1 : Hid (∀ W (ax : Option Addr) (cx : Nat), Below w.heap.size w W → Row .u64 W ax xs → Calls Tryz.prog 138 #[.agg #[.func (.func 107) #[] #[.pointer (some ⟨q, 0, none⟩)]], .agg #[.int .i64 k0, .int .i64 M, .slice a0 m0 c0], .int .i64 0, .slice ax M cx] W (GivesOwn .u64 23 F1 W)) := fun W ax cx hW h => by
    have := hC0 W ax cx xs hW h hxl
    rwa [H1.out] at this
  have N2 : Hid (∀ W (ax : Option Addr) (cx : Nat), Below w.heap.size w W → Row .u64 W ax F2 → Calls Tryz.prog 138 #[.agg #[.func (.func 107) #[] #[.pointer (some ⟨q, 0, none⟩)]], .agg #[.int .i64 k0, .int .i64 M, .slice a0 m0 c0], .int .i64 0, .slice ax M cx] W (GivesOwn .u64 23 F3 W)) := fun W ax cx hW h => by
    have := hC0 W ax cx F2 hW h L2.out
    rwa [H3.out] at this
  clear hx hxl ht htl hs h00 h01 h02 hC0 HK hF1 hF2 hF3 hF4 hiv hR HC0
  obtain ⟨W1, hW1, hb1, x0, x1⟩ := two_boxes w #[.func (.func 107) #[] #[.pointer (some ⟨q, 0, none⟩)]] #[.int .i64 k, .int .i64 N, .slice (some ⟨b, off, none⟩) 1 cap] 138 48
  have HW1 := Lib.hid hW1
  have HB1 := Lib.hid hb1
  have X0 := Lib.hid x0
  have X1 := Lib.hid x1
  have hsz1 := block_lt x1
  obtain ⟨e0, e1, e2⟩ := KK.out W1 hb1
  have D2 : W1.cell? ⟨w.heap.size + 1, 2, none⟩ = some (.slice (some ⟨b, off, none⟩) 1 cap) := block_cell x1 2
  have R0 : W1.cell? ⟨w.heap.size, 0, none⟩ = some (.func (.func 107) #[] #[.pointer (some ⟨q, 0, none⟩)]) := block_cell x0 0
  obtain ⟨W2, hW2, hb2, x2⟩ := box_any W1 #[.int .i64 k0, .int .i64 M, .slice a0 m0 c0] 48
  have HW2 := Lib.hid hW2
  have HB2 := Lib.hid (chain hb1 hb2)
  have X0 := Lib.hid ((hb2.block _ (block_lt X0.out)).trans X0.out)
  have X2 := Lib.hid x2
  have hs1 : W1.heap.size = w.heap.size + 2 := by rw [← hW1]; simp
  rw [← hW1] at D2 R0 e0 e1 e2
  have r0 : W2.cell? ⟨w.heap.size, 0, none⟩ = some (.func (.func 107) #[] #[.pointer (some ⟨q, 0, none⟩)]) := block_cell X0.out 0
  rw [← hW2, ← hW1] at r0
  have hx2 := HX.out.below (chain hb1 hb2)
  have HX2 := Lib.hid hx2
  have HT2 := Lib.hid (HT.out.below (chain hb1 hb2))
  clear hW1 hW2 hb1 hb2 x0 x1 x2 hx2
  go_enter Tryz.func188, Tryz.ntmps188
  go_wp2_with fail
  rw [HW1.out, HW2.out]
  have hX2 : W2.heap[w.heap.size + 1 + 1]? = some (.cells #[.int .i64 k0, .int .i64 M, .slice a0 m0 c0] 48 (0, 0)) := by have := X2.out; rw [hs1] at this; exact this
  have X2 := Lib.hid hX2
  clear hX2 D2 R0 e0 e1 e2 r0
  refine (N1.out _ _ _ HB2.out HX2.out).mono ?_; rintro e w3 ⟨a3, cap3, rfl, ho3, hf3, hl3, hb3⟩
  rw [L1.out] at ho3 hl3 ⊢
  have HR3 : Hid (Row .u64 w3 a3 F1) := Row.of_own L1.out (by omega) hf3 ho3
  have HT3 := Lib.hid (HT2.out.below hb3)
  have HB3 := Lib.hid (chain HB2.out hb3)
  have X0 := Lib.hid ((hb3.block _ (block_lt X0.out)).trans X0.out)
  have X2 := Lib.hid ((hb3.block _ (block_lt X2.out)).trans X2.out)
  clear ho3 hf3 hl3 hb3
  go_wp2_with fail
  refine (CMU.out _ _ _ _ _ HR3.out HT3.out).mono ?_; rintro e w4 ⟨a4, cap4, rfl, hr4, hcap4, hb4⟩
  rw [L2.out]
  have HR4 := Lib.hid hr4
  have HB4 := Lib.hid (chain HB3.out hb4)
  have X0 := Lib.hid ((hb4.block _ (block_lt X0.out)).trans X0.out)
  have X2 := Lib.hid ((hb4.block _ (block_lt X2.out)).trans X2.out)
  clear hr4 hcap4 hb4
  have R0 : w4.cell? ⟨w.heap.size, 0, none⟩ = some (.func (.func 107) #[] #[.pointer (some ⟨q, 0, none⟩)]) := block_cell X0.out 0
  have K0 : w4.cell? ⟨w.heap.size + 1 + 1, 0, none⟩ = some (.int .i64 k0) := block_cell X2.out 0
  have K1 : w4.cell? ⟨w.heap.size + 1 + 1, 1, none⟩ = some (.int .i64 M) := block_cell X2.out 1
  have K2 : w4.cell? ⟨w.heap.size + 1 + 1, 2, none⟩ = some (.slice a0 m0 c0) := block_cell X2.out 2
  have l2 := block_lt X2.out
  have l0 : w.heap.size < w4.heap.size := by omega
  have mw : IntKind.u64.wrap (M : Int) = (M : Int) := by rw [IntKind.wrap_u64]; omega
  have hb : Below w4.heap.size w4 w4.drew := (Below.refl _ _).drew
  go_wp2_with fail
  go_region_held3 (fun w' => w'.cell? ⟨w.heap.size, 0, none⟩ = some (.func (.func 107) #[] #[.pointer (some ⟨q, 0, none⟩)]) ∧ w'.cell? ⟨w.heap.size + 1 + 1, 0, none⟩ = some (.int .i64 k0) ∧ w'.cell? ⟨w.heap.size + 1 + 1, 1, none⟩ = some (.int .i64 M) ∧ w'.cell? ⟨w.heap.size + 1 + 1, 2, none⟩ = some (.slice a0 m0 c0))
    (first | exact ⟨R0, K0, K1, K2⟩ | exact ⟨(hb.cell (p := ⟨w.heap.size, 0, none⟩) l0).trans R0, (hb.cell (p := ⟨w.heap.size + 1 + 1, 0, none⟩) l2).trans K0, (hb.cell (p := ⟨w.heap.size + 1 + 1, 1, none⟩) l2).trans K1, (hb.cell (p := ⟨w.heap.size + 1 + 1, 2, none⟩) l2).trans K2⟩ | fail)
    ((first
      | (go_at_call 138; ((with_reducible refine (N2.out _ _ _ (chain HB4.out hb) (HR4.out.below hb)).mono ?_); rintro e z1 ⟨a5, cap5, rfl, ho5, hf5, hl5, hc⟩; have hb := chain hb hc; simp only [L3.out] at ho5 hl5 ⊢; have hR5 := Row.of_own (k := .u64) L3.out (by omega) hf5 ho5; clear ho5 hf5 hl5 hc))
      | (go_at_call 103; ((with_reducible refine (CV.out _ _ _ (by assumption)).mono ?_); rintro e z2 ⟨a6, cap6, rfl, hr6, hcap6, hc⟩; have hb := chain hb hc; simp only [L4.out] at hcap6 ⊢; clear hcap6 hc))
      | (go_at_call 104; ((with_reducible refine (CI.out _).mono ?_); rintro e z3 ⟨rfl, rfl⟩))
      | (go_at_call 102; ((with_reducible refine (CS.out _ _ _ (by assumption)).mono ?_); rintro e z4 ⟨a7, cap7, rfl, hr7, hcap7, hc⟩; have hb := chain hb hc; simp only [HAL.out] at hcap7 ⊢; clear hc))
      | fail))
  have HBF := Lib.hid (chain HB4.out hb)
  have HR7 := Lib.hid hr7
  have HC7 := Lib.hid hcap7
  clear hb hr7 hcap7 R0 K0 K1 K2
  go_wp2_with fail
  go_ret
  rw [HRR.out]
  exact ⟨a7, cap7, by simp [HAL.out], HR7.out, by rw [HAL.out]; exact HC7.out, HBF.out⟩
theorem rader_vals (xs : List Int) (q : Nat) (d : Int) (hq : IsFq q) (hs : hasSz (q : Int) = true) (hx : xs.length = q) :
    nth (dftL xs (dirRt q d)) 0 = sumP xs ∧ ∀ i, i < q - 1 → nth (dftL xs (dirRt q d)) (radAt q i) = (nth xs 0 + nth (cvL (radIn xs q) (radL (dirRt q d) q) (q - 1)) i) % 18446744069414584321 := by
  have hb := fq_bd hq
  obtain ⟨c, hc⟩ : ∃ c, cvL (radIn xs q) (radL (dirRt q d) q) (q - 1) = c := ⟨_, rfl⟩
  have e0 : nth ((List.range q).map fun x => if x = 0 then sumP xs else (nth xs 0 + nth c (invOf (q - 1) (radAt q) x)) % 18446744069414584321) 0 = sumP xs := by rw [nth_ofFn _ _ _ (by omega), if_pos rfl]
  have e1 : ∀ i, i < q - 1 → nth ((List.range q).map fun x => if x = 0 then sumP xs else (nth xs 0 + nth c (invOf (q - 1) (radAt q) x)) % 18446744069414584321) (radAt q i) = (nth xs 0 + nth c i) % 18446744069414584321 := fun i hi => by
    rw [nth_ofFn _ _ _ (radAt_lt hq i), if_neg (by have := radAt_pos hq i; omega), invOf_of _ _ (radAt_inj hq) i hi]
  have h := rader_eq xs _ q d hq hs hx (by simp) e0 (by rw [hc]; exact e1)
  rw [hc, ← h]
  exact ⟨e0, e1⟩
/-- What Rader's row holds while place i is under way. -/
noncomputable def rdF (R : List Int) (q i x : Nat) : Int := if x = 0 ∨ invOf (q - 1) (radAt q) x < i then nth R x else 0
theorem rdF_pos {q : Nat} (hq : IsFq q) (x : Nat) (h0 : x ≠ 0) (hx : x < q) : invOf (q - 1) (radAt q) x < q - 1 ∧ radAt q (invOf (q - 1) (radAt q) x) = x :=
  invOf_spec (q - 1) (radAt q) x (radAt_onto hq x (by omega) hx)
theorem rdF_next {q : Nat} (hq : IsFq q) (R : List Int) (i x : Nat) (hi : i < q - 1) (hx : x < q) (hne : x ≠ radAt q i) : rdF R q (i + 1) x = rdF R q i x := by
  unfold rdF
  by_cases h0 : x = 0
  · rw [if_pos (Or.inl h0), if_pos (Or.inl h0)]
  · have h1 := rdF_pos hq x h0 hx
    have h2 : invOf (q - 1) (radAt q) x ≠ i := fun e => hne (by rw [← e]; exact h1.2.symm)
    generalize invOf (q - 1) (radAt q) x = t at *
    by_cases h : t < i
    · rw [if_pos (by omega), if_pos (by omega)]
    · rw [if_neg (by omega), if_neg (by omega)]
theorem rdF_at {q : Nat} (hq : IsFq q) (R : List Int) (i : Nat) (hi : i < q - 1) : rdF R q i (radAt q i) = 0 ∧ rdF R q (i + 1) (radAt q i) = nth R (radAt q i) := by
  have h0 := radAt_pos hq i
  unfold rdF
  rw [invOf_of _ _ (radAt_inj hq) i hi]
  exact ⟨if_neg (by omega), if_pos (by omega)⟩
theorem rdF_end {q : Nat} (hq : IsFq q) (R : List Int) (x : Nat) (hx : x < q) : rdF R q (q - 1) x = nth R x := by
  unfold rdF
  by_cases h0 : x = 0
  · rw [if_pos (Or.inl h0)]
  · rw [if_pos (Or.inr (rdF_pos hq x h0 hx).1)]
theorem gold_SumN (a : Option Addr) (n cap : Nat) (xs : List Int) (w : World) (hx : Row .u64 w a xs) (hn : xs.length = n) :
    Calls Tryz.prog 189 #[.slice a n cap] w fun e w' => e = .returned (.int .u64 (sumP xs)) ∧ w = w' := by
  subst hn; exact gold_Sum a cap xs w hx
set_option maxHeartbeats 8000000 in
theorem exec_rader (q : Nat) (w0 : World) (ns : List Nm) (hL : LookAt q w0 ns) (N M b off cap cx : Nat) (k d k0 : Int) (a0 ax : Option Addr) (m0 c0 : Nat) (xs : List Int) (w : World) (hx : Row .u64 w ax xs) (hxl : xs.length = N) (hq : IsFq N) (hs : hasSz (N : Int) = true) (hM : N - 1 = M) (hb0 : Below w0.heap.size w0 w) (hin : (3, (N : Int), 0, d) ∈ ns)
    (h00 : w.cell? ⟨b, off, none⟩ = some (.int .i64 k0)) (h01 : w.cell? ⟨b, off + 1, none⟩ = some (.int .i64 M)) (h02 : w.cell? ⟨b, off + 2, none⟩ = some (.slice a0 m0 c0))
    (hC0 : ∀ W (ax : Option Addr) (cx : Nat) (xs : List Int), Below w.heap.size w W → Row .u64 W ax xs → xs.length = M → Calls Tryz.prog 138 #[.agg #[.func (.func 107) #[] #[.pointer (some ⟨q, 0, none⟩)]], .agg #[.int .i64 k0, .int .i64 M, .slice a0 m0 c0], .int .i64 0, .slice ax M cx] W (GivesOwn .u64 23 (dftL xs (dirRt M 0)) W)) :
    Calls Tryz.prog 159 #[.agg #[.func (.func 107) #[] #[.pointer (some ⟨q, 0, none⟩)]], .agg #[.int .i64 k, .int .i64 N, .slice (some ⟨b, off, none⟩) 1 cap], .int .i64 d, .slice ax N cx] w (GivesOwn .u64 23 (dftL xs (dirRt N d)) w) := by
  obtain ⟨i0, hi, hz0, hz1, hz2⟩ := info_parts info_u64
  have hN2 : N ≤ 16777216 := by have := (hasSz_iff.1 hs).2.1; omega
  have hbq := fq_bd hq
  obtain ⟨lg, hlg1, hlg2, hlg⟩ := fq_log hq
  have hsM : hasSz (M : Int) = true := by rw [← hM, hlg]; exact hasSz_pow lg (by omega)
  have hbl : b < w.heap.size := World.block_lt_of_cell? _ _ h00
  have HK : Hid (w.cell? ⟨b, off, none⟩ = some (.int .i64 k0) ∧ w.cell? ⟨b, off + 1, none⟩ = some (.int .i64 M) ∧ w.cell? ⟨b, off + 2, none⟩ = some (.slice a0 m0 c0)) := ⟨h00, h01, h02⟩
  have KK : Hid (∀ W, Below w.heap.size w W → W.cell? ⟨b, off, none⟩ = some (.int .i64 k0) ∧ W.cell? ⟨b, off + 1, none⟩ = some (.int .i64 M) ∧ W.cell? ⟨b, off + 2, none⟩ = some (.slice a0 m0 c0)) := fun W hW => by
    obtain ⟨e0, e1, e2⟩ := HK.out
    exact ⟨(hW.cell (p := ⟨b, off, none⟩) hbl).trans e0, (hW.cell (p := ⟨b, off + 1, none⟩) hbl).trans e1, (hW.cell (p := ⟨b, off + 2, none⟩) hbl).trans e2⟩
  have CT : Hid (∀ W, Below w0.heap.size w0 W → Calls Tryz.prog 180 #[.agg #[.func (.func 107) #[] #[.pointer (some ⟨q, 0, none⟩)]], .int .i64 3, .agg #[.int .i64 k, .int .i64 N, .slice (some ⟨b, off, none⟩) 1 cap], .int .i64 d] W (GivesRow .u64 (tabRaderL N d) W)) := fun W hW => by
    have := exec_table q w0 ns hL 3 N k d (some ⟨b, off, none⟩) 1 cap W hW (by decide) hin
    rwa [tblN_rader] at this
  have HTL : Hid ((tabRaderL N d).length = M) := by unfold Hid tabRaderL; rw [dftL_len, radL_len, hM]
  have CG : Hid (∀ W, Calls Tryz.prog 149 #[.int .i64 N] W (GivesRowE .i64 (genL N) 0 W)) := fun W => gen_Powers W hq
  have HGL : Hid ((genL N).length = M) := (genL_len N).trans hM
  have HAL : Hid ((radIn xs N).length = M) := (radIn_len xs N).trans hM
  have CA : Hid (∀ W (ax at' : Option Addr) (cx ct : Nat), Below w.heap.size w W → Row .u64 W ax (radIn xs N) → Row .u64 W at' (tabRaderL N d) → Calls Tryz.prog 188 #[.agg #[.func (.func 107) #[] #[.pointer (some ⟨q, 0, none⟩)]], .agg #[.int .i64 k, .int .i64 N, .slice (some ⟨b, off, none⟩) 1 cap], .slice ax M cx, .slice at' M ct] W (GivesRow .u64 (cvL (radIn xs N) (radL (dirRt N d) N) M) W)) := fun W ax at' cx ct hW h h' => by
    obtain ⟨e0, e1, e2⟩ := KK.out W hW
    have := exec_around q N M b off cap cx ct k k0 a0 ax at' m0 c0 (radIn xs N) (tabRaderL N d) W h HAL.out h' HTL.out hsM e0 e1 e2 (fun V ax cx xs hV hx hxl => hC0 V ax cx xs (chain hW hV) hx hxl)
    unfold tabRaderL at this
    rw [show dirRt (N - 1) 0 = dirRt M 0 by rw [hM], around_eq (radIn xs N) (radL (dirRt N d) N) M HAL.out (by rw [radL_len, hM]) hsM] at this
    exact this
  have hrv := rader_vals xs N d hq hs hxl
  rw [hM] at hrv
  have HX := Lib.hid hx
  have HXL := Lib.hid hxl
  have HBW := Lib.hid hb0
  have HQ := Lib.hid hq
  have HM := Lib.hid hM
  have HXF := Lib.hid hx.wf
  have HDF : Hid (∀ x ∈ dftL xs (dirRt N d), fits .u64 x) := dftL_fits _ _
  have HDL : Hid ((dftL xs (dirRt N d)).length = N) := (dftL_len _ _).trans hxl
  obtain ⟨C, hC⟩ : ∃ C, cvL (radIn xs N) (radL (dirRt N d) N) M = C := ⟨_, rfl⟩
  have HCL : Hid (C.length = M) := by unfold Hid; rw [← hC, cvL_len]
  have HCF : Hid (∀ x ∈ C, fits .u64 x) := by unfold Hid; rw [← hC]; exact cvL_fits _ _ _
  rw [hC] at CA hrv
  obtain ⟨R, hR⟩ : ∃ R, dftL xs (dirRt N d) = R := ⟨_, rfl⟩
  have HRR := Lib.hid hR
  rw [hR] at hrv HDF HDL
  have HRV := Lib.hid hrv
  obtain ⟨TL, hTL⟩ : ∃ T, tabRaderL N d = T := ⟨_, rfl⟩
  rw [hTL] at CT HTL CA
  have HNI : Hid ((N : Int) - 1 = (M : Int)) := by unfold Hid; omega
  have hMb : 2 ≤ M ∧ M ≤ 65536 ∧ M < N := by omega
  clear hL hx hxl hq hs hM hb0 hin h00 h01 h02 hC0 HK hrv hC hR hTL hlg
  obtain ⟨W1, hW1, hb1, x0, x1⟩ := two_boxes w #[.func (.func 107) #[] #[.pointer (some ⟨q, 0, none⟩)]] #[.int .i64 k, .int .i64 N, .slice (some ⟨b, off, none⟩) 1 cap] 138 48
  have HW1 := Lib.hid hW1
  have HB1 := Lib.hid hb1
  have X0 := Lib.hid x0
  have X1 := Lib.hid x1
  have hsz1 := block_lt x1
  clear hW1 hb1 x0 x1
  have D1 : W1.cell? ⟨w.heap.size + 1, 1, none⟩ = some (.int .i64 N) := block_cell X1.out 1
  go_enter Tryz.func159, Tryz.ntmps159
  go_wp2_with fail
  rw [HW1.out]
  refine (CG.out _).mono ?_; rintro e w2 ⟨a2, cap2, rfl, hr2, hcap2, hb2⟩
  simp only [HGL.out] at hcap2 ⊢
  have X0 := Lib.hid ((hb2.block _ (block_lt X0.out)).trans X0.out)
  have X1 := Lib.hid ((hb2.block _ (block_lt X1.out)).trans X1.out)
  have HB2 := Lib.hid (chain HB1.out hb2)
  have HR2 := Lib.hid hr2
  clear hr2 hb2 hcap2 D1
  go_wp2_with (at_make; refine wpList_make_full _ rfl _ _ 22 rfl w2.heap.size 23 i0 (.int .u64 0) 1 Tryz.underlying22 hi hz0 hz1 .i64 .i64 M M M rfl rfl rfl rfl (by rw [hz2]; omega) (by unfold maxLen; omega) (Nat.le_refl _) ?_)
  intro w3 hown0 hgrow0
  have HO3 := Lib.hid (Own.made hown0 hgrow0)
  clear hown0 hgrow0
  go_wp2_with fail
  go_loopw [28] (fun iv wr => ∃ i : Nat, i ≤ M ∧ iv = .int .i64 i ∧ OwnAt .u64 23 w2 wr w2.heap.size M (fun r => if r < i then nth xs (gp N r) else 0)) (fun iv _ => M - (intOf iv).toNat)
  case atStart => exact ⟨0, Nat.zero_le _, rfl, own_eqz HO3.out (fun x => if_neg (by omega))⟩
  case round =>
    obtain ⟨i, hi9, rfl, hoA⟩ := hrel
    by_cases hli : i < M
    · obtain ⟨bx, ox, rfl, hcx⟩ := (HX.out.below (chain HB2.out hoA.below)).at (by rw [HXL.out]; omega)
      obtain ⟨bg, og, rfl, hcg⟩ := (HR2.out.below hoA.below).at (by rw [HGL.out]; omega)
      have c1 := hcg i (by rw [HGL.out]; exact hli)
      rw [nth_genL N i (by rw [HM.out]; exact hli)] at c1
      have hgl := gp_lt N i (by omega)
      have hnx : ∀ r, r < i + 1 → r ≠ i → r < i := fun r h1 h2 => by omega
      obtain ⟨g, hg⟩ : ∃ g, gp N i = g := ⟨_, rfl⟩
      rw [hg] at c1 hgl
      have c2 := hcx g (by rw [HXL.out]; exact hgl)
      obtain ⟨x, hx⟩ : ∃ x, nth xs g = x := ⟨_, rfl⟩
      rw [hx] at c2
      have hcell := hoA.cell i hli
      rw [if_neg (Nat.lt_irrefl i)] at hcell
      have hfz := hoA.free i
      have hnext := hoA.store i hli x (f' := fun r => if r < i + 1 then nth xs (gp N r) else 0) (by show (if i < i + 1 then _ else _) = _; rw [if_pos (by omega), hg]; exact hx) (fun r _ hr => by
        by_cases h : r < i
        · rw [if_pos h, if_pos (by omega)]
        · rw [if_neg h, if_neg (by omega)])
      have HNX := Lib.hid hnext
      have g1 : (0 : Int) ≤ (g : Int) := by omega
      have g2 : (g : Int) < (N : Int) := by omega
      have g3 : (0 : Int) ≤ (i : Int) := by omega
      have g4 : (i : Int) < (M : Int) := by omega
      clear hcx hcg hg hx hnext hoA hnx
      go_wp2_with fail
      go_roundw
      case rel => exact ⟨i + 1, by omega, by go_num, HNX.out⟩
      case measure => simp [intOf]; omega
    · have hiM : i = M := by omega
      subst hiM
      have hrow := hoA.row (xs := radIn xs N) HAL.out (fun x hx => by
        obtain ⟨r, hr, rfl⟩ := List.mem_map.1 hx
        exact HXF.out _ (nth_mem (by rw [HXL.out]; exact gp_lt N r (by omega)))) (fun r hr => by rw [nth_radIn _ _ _ (by rw [HM.out]; exact hr), if_pos hr]) (by omega)
      have HRA := Lib.hid hrow
      have HB4 := Lib.hid (chain HB2.out hoA.below)
      have HR2 := Lib.hid (HR2.out.below hoA.below)
      have X0 := Lib.hid ((hoA.below.block _ (block_lt X0.out)).trans X0.out)
      have X1 := Lib.hid ((hoA.below.block _ (block_lt X1.out)).trans X1.out)
      obtain ⟨w4, rfl⟩ : ∃ w4 : World, w4 = wr := ⟨_, rfl⟩
      have R0 : w4.cell? ⟨w.heap.size, 0, none⟩ = some (.func (.func 107) #[] #[.pointer (some ⟨q, 0, none⟩)]) := block_cell X0.out 0
      have D0 : w4.cell? ⟨w.heap.size + 1, 0, none⟩ = some (.int .i64 k) := block_cell X1.out 0
      have D1 : w4.cell? ⟨w.heap.size + 1, 1, none⟩ = some (.int .i64 N) := block_cell X1.out 1
      have D2 : w4.cell? ⟨w.heap.size + 1, 2, none⟩ = some (.slice (some ⟨b, off, none⟩) 1 cap) := block_cell X1.out 2
      have l1 := block_lt X1.out
      have l0 : w.heap.size < w4.heap.size := by omega
      have hb : Below w4.heap.size w4 w4.drew := (Below.refl _ _).drew
      clear hrow hoA HO3
      go_wp2_with fail
      go_region_held3 (fun w' => w'.cell? ⟨w.heap.size, 0, none⟩ = some (.func (.func 107) #[] #[.pointer (some ⟨q, 0, none⟩)]) ∧ w'.cell? ⟨w.heap.size + 1, 0, none⟩ = some (.int .i64 k) ∧ w'.cell? ⟨w.heap.size + 1, 1, none⟩ = some (.int .i64 N) ∧ w'.cell? ⟨w.heap.size + 1, 2, none⟩ = some (.slice (some ⟨b, off, none⟩) 1 cap))
        (first | exact ⟨R0, D0, D1, D2⟩ | exact ⟨(hb.cell (p := ⟨w.heap.size, 0, none⟩) l0).trans R0, (hb.cell (p := ⟨w.heap.size + 1, 0, none⟩) l1).trans D0, (hb.cell (p := ⟨w.heap.size + 1, 1, none⟩) l1).trans D1, (hb.cell (p := ⟨w.heap.size + 1, 2, none⟩) l1).trans D2⟩ | fail)
        ((first
          | (go_at_call 180; ((with_reducible refine (CT.out _ (chain HBW.out (chain HB4.out hb))).mono ?_); rintro e z1 ⟨a5, cap5, rfl, hr5, hcap5, hc⟩; have hb := chain hb hc; simp only [HTL.out] at hcap5 ⊢; clear hc))
          | (go_at_call 188; ((with_reducible refine (CA.out _ _ _ _ _ (chain HB4.out hb) (HRA.out.below hb) hr5).mono ?_); rintro e z2 ⟨a6, cap6, rfl, hr6, hcap6, hc⟩; have hb := chain hb hc; simp only [HCL.out] at hcap6 ⊢; clear hc))
          | fail))
      have HR6 := Lib.hid hr6
      have HR2 := Lib.hid (HR2.out.below hb)
      have X0 := Lib.hid ((hb.block _ (block_lt X0.out)).trans X0.out)
      have X1 := Lib.hid ((hb.block _ (block_lt X1.out)).trans X1.out)
      have HB6 := Lib.hid (chain HB4.out hb)
      clear R0 D0 D1 D2 hr5 hcap5 hr6 hcap6 hb HRA HB4 l0 l1
      have D1 : z2.cell? ⟨w.heap.size + 1, 1, none⟩ = some (.int .i64 N) := block_cell X1.out 1
      go_wp2_with (at_make; refine wpList_make_full _ rfl _ _ 22 rfl z2.heap.size 23 i0 (.int .u64 0) 1 Tryz.underlying22 hi hz0 hz1 .i64 .i64 N N N rfl rfl rfl rfl (by rw [hz2]; omega) (by unfold maxLen; omega) (Nat.le_refl _) ?_)
      intro w7 hown0 hgrow0
      have hoY := Own.made hown0 hgrow0
      have HX7 := Lib.hid (HX.out.below (chain HB6.out hoY.below))
      have hfz := hoY.free 0
      have hcell := hoY.cell 0 (by omega)
      have hy0 := hoY.store 0 (by omega) (sumP xs) (f' := rdF R N 0) (by unfold rdF; rw [if_pos (Or.inl rfl)]; exact HRV.out.1) (fun r _ hr => by unfold rdF; rw [if_neg (by omega)])
      have HY0 := Lib.hid hy0
      have hN0 : (0 : Int) < (N : Int) := by omega
      clear hown0 hgrow0 hoY hy0 D1
      go_wp2_with fail
      refine (gold_SumN _ _ _ xs _ HX7.out HXL.out).mono ?_; rintro e w8 ⟨rfl, rfl⟩
      go_wp2_with fail
      go_loopw [58] (fun iv wr => ∃ t : Nat, t ≤ i ∧ iv = .int .i64 t ∧ OwnAt .u64 23 z2 wr z2.heap.size N (rdF R N t)) (fun iv _ => i - (intOf iv).toNat)
      case atStart => exact ⟨0, Nat.zero_le _, rfl, HY0.out⟩
      case round =>
        obtain ⟨t, ht9, rfl, hoY⟩ := hrel
        by_cases hlt : t < i
        · obtain ⟨bx, ox, rfl, hcx⟩ := (HX.out.below (chain HB6.out hoY.below)).at (by rw [HXL.out]; omega)
          obtain ⟨bg, og, rfl, hcg⟩ := (HR2.out.below hoY.below).at (by rw [HGL.out]; omega)
          obtain ⟨bc, oc, rfl, hcc⟩ := (HR6.out.below hoY.below).at (by rw [HCL.out]; omega)
          have hrl := revAt_lt hlt
          have er := revAt_int hlt
          have hrt : gp N (revAt i t) = radAt N t := by unfold radAt revAt; rw [HM.out]
          have c1 := hcg (revAt i t) (by rw [HGL.out]; exact hrl)
          rw [nth_genL N _ (by rw [HM.out]; exact hrl), hrt] at c1
          have c2 := hcx 0 (by rw [HXL.out]; omega)
          rw [Nat.add_zero] at c2
          have c3 := hcc t (by rw [HCL.out]; exact hlt)
          have hv := HRV.out.2 t hlt
          have hra := rdF_at HQ.out R t (by rw [HM.out]; exact hlt)
          have hrn : ∀ x, x < N → x ≠ radAt N t → rdF R N (t + 1) x = rdF R N t x := fun x hx hne => rdF_next HQ.out R t x (by rw [HM.out]; exact hlt) hx hne
          have hκl := radAt_lt HQ.out t
          have f0 := fits_u64.1 (HXF.out _ (nth_mem (show 0 < xs.length by rw [HXL.out]; omega)))
          have f1 := fits_u64.1 (HCF.out _ (nth_mem (show t < C.length by rw [HCL.out]; exact hlt)))
          obtain ⟨r, hr⟩ : ∃ r, revAt i t = r := ⟨_, rfl⟩
          obtain ⟨κ, hκ⟩ : ∃ κ, radAt N t = κ := ⟨_, rfl⟩
          obtain ⟨x, hx⟩ : ∃ x, nth xs 0 = x := ⟨_, rfl⟩
          obtain ⟨c, hc⟩ : ∃ c, nth C t = c := ⟨_, rfl⟩
          rw [hr] at hrl er c1
          rw [hκ] at c1 hv hra hrn hκl
          rw [hx] at c2 hv f0
          rw [hc] at c3 hv f1
          have e0 : IntKind.i64.wrap ((i : Int) - (t : Int)) = (i : Int) - (t : Int) := IntWalk.i64_in _ (by omega)
          have e2 : ((i : Int) - (t : Int)) % (i : Int) = (r : Int) := by rw [← er, Int.tmod_eq_emod_of_nonneg (by omega)]
          have z1 : ((i : Int) == 0) = false := bno (by omega)
          have z2' : ¬ (i : Int) = 0 := by omega
          have z3 : ¬ i = 0 := by omega
          have hcell := hoY.cell κ hκl
          rw [hra.1] at hcell
          have hfz := hoY.free κ
          have hnext := hoY.store κ hκl ((x + c) % 18446744069414584321) (f' := rdF R N (t + 1)) (by rw [hra.2, hv]) (fun r hr hne => hrn r hr hne)
          have HNX := Lib.hid hnext
          have g1 : (0 : Int) ≤ (r : Int) := by omega
          have g2 : (r : Int) < (i : Int) := by omega
          have g3 : (0 : Int) ≤ (κ : Int) := by omega
          have g4 : (κ : Int) < (N : Int) := by omega
          have g5 : (0 : Int) < (N : Int) := by omega
          have g6 : (0 : Int) ≤ (t : Int) := by omega
          have g7 : (t : Int) < (i : Int) := by omega
          have g8 : 0 < N := by omega
          clear hcx hcg hcc hrt hv hra hrn hr hκ hx hc hnext hoY
          go_wp2_with fail
          refine wp_region_still_tail 20 (by kernel_rfl) (by kernel_rfl) ?_; simp only [List.take_succ_cons, List.take_zero, List.drop_succ_cons, List.drop_zero]
          repeat still_step
          still_call (flipW (gold_Add x c _ (by omega) (by omega) (by omega) (by omega)))
          repeat still_step
          try refine wpStill_nil ?_
          go_wp2_with fail
          go_roundw
          case rel => exact ⟨t + 1, by omega, by go_num, HNX.out.later (Below.refl _ _).drew⟩
          case measure => simp [intOf]; omega
        · have hti : t = i := by omega
          have hres := (hoY.givesO (xs := R) HDL.out HDF.out (fun x hx => by have := rdF_end HQ.out R x hx; rw [HM.out] at this; rw [hti]; exact this.symm) hN2).step HB6.out
          have HRES := Lib.hid hres
          clear hoY hres
          go_wp2_with fail
          go_ret
          have h := HRES.out
          rw [← HRR.out] at h
          exact h
/-- What is ahead of the product while number j is under way. -/
def blF (F : List Int) (n j x : Nat) : Int := if x < n ∧ n - 1 - x < j then nth F x else 0
theorem blF_next (F : List Int) (n j x : Nat) (hj : j < n) (h : x ≠ n - 1 - j) : blF F n (j + 1) x = blF F n j x := by
  unfold blF
  by_cases h1 : x < n ∧ n - 1 - x < j
  · rw [if_pos h1, if_pos ⟨h1.1, by omega⟩]
  · rw [if_neg h1, if_neg (by omega)]
theorem blF_at (F : List Int) (n j : Nat) (hj : j < n) : blF F n j (n - 1 - j) = 0 ∧ blF F n (j + 1) (n - 1 - j) = nth F (n - 1 - j) := by
  unfold blF
  exact ⟨if_neg (by omega), if_pos (by omega)⟩
set_option maxHeartbeats 8000000 in
theorem exec_blue (q : Nat) (w0 : World) (ns : List Nm) (hL : LookAt q w0 ns) (N M b off cap cx : Nat) (k d k0 : Int) (a0 ax : Option Addr) (m0 c0 : Nat) (xs : List Int) (w : World) (hx : Row .u64 w ax xs) (hxl : xs.length = N) (hd : d = 0 ∨ d = 1) (hs : hasSz (N : Int) = true) (hsM : hasSz (M : Int) = true) (hNM : 2 * N - 1 ≤ M) (hN1 : 2 ≤ N) (hb0 : Below w0.heap.size w0 w) (hin2 : (2, (N : Int), 0, d) ∈ ns) (hin4 : (4, (N : Int), (M : Int), d) ∈ ns)
    (h00 : w.cell? ⟨b, off, none⟩ = some (.int .i64 k0)) (h01 : w.cell? ⟨b, off + 1, none⟩ = some (.int .i64 M)) (h02 : w.cell? ⟨b, off + 2, none⟩ = some (.slice a0 m0 c0))
    (hC0 : ∀ W (ax : Option Addr) (cx : Nat) (xs : List Int), Below w.heap.size w W → Row .u64 W ax xs → xs.length = M → Calls Tryz.prog 138 #[.agg #[.func (.func 107) #[] #[.pointer (some ⟨q, 0, none⟩)]], .agg #[.int .i64 k0, .int .i64 M, .slice a0 m0 c0], .int .i64 0, .slice ax M cx] W (GivesOwn .u64 23 (dftL xs (dirRt M 0)) W)) :
    Calls Tryz.prog 160 #[.agg #[.func (.func 107) #[] #[.pointer (some ⟨q, 0, none⟩)]], .agg #[.int .i64 k, .int .i64 N, .slice (some ⟨b, off, none⟩) 1 cap], .int .i64 d, .slice ax N cx] w (GivesOwn .u64 23 (dftL xs (dirRt N d)) w) := by
  obtain ⟨i0, hi, hz0, hz1, hz2⟩ := info_parts info_u64
  have hN2 : N ≤ 16777216 := by have := (hasSz_iff.1 hs).2.1; omega
  have hM2 : M ≤ 16777216 := by have := (hasSz_iff.1 hsM).2.1; omega
  have hbl : b < w.heap.size := World.block_lt_of_cell? _ _ h00
  have HK : Hid (w.cell? ⟨b, off, none⟩ = some (.int .i64 k0) ∧ w.cell? ⟨b, off + 1, none⟩ = some (.int .i64 M) ∧ w.cell? ⟨b, off + 2, none⟩ = some (.slice a0 m0 c0)) := ⟨h00, h01, h02⟩
  have KK : Hid (∀ W, Below w.heap.size w W → W.cell? ⟨b, off, none⟩ = some (.int .i64 k0) ∧ W.cell? ⟨b, off + 1, none⟩ = some (.int .i64 M) ∧ W.cell? ⟨b, off + 2, none⟩ = some (.slice a0 m0 c0)) := fun W hW => by
    obtain ⟨e0, e1, e2⟩ := HK.out
    exact ⟨(hW.cell (p := ⟨b, off, none⟩) hbl).trans e0, (hW.cell (p := ⟨b, off + 1, none⟩) hbl).trans e1, (hW.cell (p := ⟨b, off + 2, none⟩) hbl).trans e2⟩
  have CT : Hid (∀ W, Below w0.heap.size w0 W → Calls Tryz.prog 180 #[.agg #[.func (.func 107) #[] #[.pointer (some ⟨q, 0, none⟩)]], .int .i64 2, .agg #[.int .i64 k, .int .i64 N, .slice (some ⟨b, off, none⟩) 1 cap], .int .i64 d] W (GivesRow .u64 (rowT (dirBk N d) N N) W)) := fun W hW => by
    have := exec_table q w0 ns hL 2 N k d (some ⟨b, off, none⟩) 1 cap W hW (by decide) hin2
    rwa [tblN_chirp, dir_swap N d hd] at this
  have CB : Hid (∀ W, Below w0.heap.size w0 W → Below w.heap.size w W → Calls Tryz.prog 180 #[.agg #[.func (.func 107) #[] #[.pointer (some ⟨q, 0, none⟩)]], .int .i64 4, .agg #[.int .i64 k, .int .i64 N, .slice (some ⟨b, off, none⟩) 1 cap], .int .i64 d] W (GivesRow .u64 (tabBlueL N M d) W)) := fun W hW hW2 => by
    obtain ⟨e0, e1, e2⟩ := KK.out W hW2
    have := exec_tableB q w0 ns hL N M k d b off 1 cap W hW (by omega) e1 hin4
    rwa [tblN_blue] at this
  have HUL : Hid ((rowT (dirBk N d) N N).length = N) := rowT_len _ _ _
  have hzl : (zeroL (rowT (dirRt N d) N (2 * N - 1)) M).length = M := zeroL_len _ _ (by rw [rowT_len]; exact hNM)
  have HTL : Hid ((tabBlueL N M d).length = M) := by unfold Hid tabBlueL; rw [dftL_len]; exact hzl
  have hfl : (zeroL (foreL xs (dirBk N d) N) M).length = M := zeroL_len _ _ (by rw [foreL_len]; omega)
  have CA : Hid (∀ W (ax at' : Option Addr) (cx ct : Nat), Below w.heap.size w W → Row .u64 W ax (zeroL (foreL xs (dirBk N d) N) M) → Row .u64 W at' (tabBlueL N M d) → Calls Tryz.prog 188 #[.agg #[.func (.func 107) #[] #[.pointer (some ⟨q, 0, none⟩)]], .agg #[.int .i64 k, .int .i64 N, .slice (some ⟨b, off, none⟩) 1 cap], .slice ax M cx, .slice at' M ct] W (GivesRow .u64 (cvL (zeroL (foreL xs (dirBk N d) N) M) (zeroL (rowT (dirRt N d) N (2 * N - 1)) M) M) W)) := fun W ax at' cx ct hW h h' => by
    obtain ⟨e0, e1, e2⟩ := KK.out W hW
    have := exec_around q N M b off cap cx ct k k0 a0 ax at' m0 c0 _ (tabBlueL N M d) W h hfl h' HTL.out hsM e0 e1 e2 (fun V ax cx xs hV hx hxl => hC0 V ax cx xs (chain hW hV) hx hxl)
    unfold tabBlueL at this
    rw [around_eq _ _ M hfl hzl hsM] at this
    exact this
  have hbl' := blue xs (dirRt N d) (dirBk N d) N M (isRoot_dir N d hs) hxl (by omega) hNM
  have HX := Lib.hid hx
  have HXL := Lib.hid hxl
  have HBW := Lib.hid hb0
  have HXF := Lib.hid hx.wf
  have HDF : Hid (∀ x ∈ dftL xs (dirRt N d), fits .u64 x) := dftL_fits _ _
  have HDL : Hid ((dftL xs (dirRt N d)).length = N) := (dftL_len _ _).trans hxl
  obtain ⟨u, hu⟩ : ∃ u, dirBk N d = u := ⟨_, rfl⟩
  rw [hu] at CT HUL CA hfl hbl'
  obtain ⟨F, hF⟩ : ∃ F, zeroL (foreL xs u N) M = F := ⟨_, rfl⟩
  have HFV : Hid (∀ j, j < N → nth F (N - 1 - j) = nth xs j * pw u (triN N j) % 18446744069414584321) := fun j hj => by
    rw [← hF, nth_zeroL, nth_foreL _ _ _ _ (by omega), show N - 1 - (N - 1 - j) = j by omega]
  have HFZ : Hid (∀ x, N ≤ x → nth F x = 0) := fun x hx => by rw [← hF, nth_zeroL, nth_out _ _ (by rw [foreL_len]; exact hx)]
  have HFF : Hid (∀ x ∈ F, fits .u64 x) := by unfold Hid; rw [← hF]; exact zeroL_fits _ _ (foreL_fits _ _ _)
  rw [hF] at CA hfl hbl'
  obtain ⟨C, hC⟩ : ∃ C, cvL F (zeroL (rowT (dirRt N d) N (2 * N - 1)) M) M = C := ⟨_, rfl⟩
  have HCL : Hid (C.length = M) := by unfold Hid; rw [← hC, cvL_len]
  have HCF : Hid (∀ x ∈ C, fits .u64 x) := by unfold Hid; rw [← hC]; exact cvL_fits _ _ _
  rw [hC] at CA hbl'
  obtain ⟨R, hR⟩ : ∃ R, dftL xs (dirRt N d) = R := ⟨_, rfl⟩
  have HRR := Lib.hid hR
  rw [hR] at HDF HDL hbl'
  have HRV : Hid (∀ i, i < N → nth R i = nth C (N - 1 + i) * pw u (triN N i) % 18446744069414584321) := fun i hi => by rw [← hbl', nth_aftL _ _ _ _ hi]
  obtain ⟨TL, hTL⟩ : ∃ T, tabBlueL N M d = T := ⟨_, rfl⟩
  rw [hTL] at CB HTL CA
  have HFL := Lib.hid hfl
  clear hL hx hxl hs hsM hb0 hin2 hin4 h00 h01 h02 hC0 HK hC hR hTL hF hu hfl hzl hbl' hd
  obtain ⟨W1, hW1, hb1, x0, x1⟩ := two_boxes w #[.func (.func 107) #[] #[.pointer (some ⟨q, 0, none⟩)]] #[.int .i64 k, .int .i64 N, .slice (some ⟨b, off, none⟩) 1 cap] 138 48
  have HW1 := Lib.hid hW1
  have HB1 := Lib.hid hb1
  have X0 := Lib.hid x0
  have X1 := Lib.hid x1
  have hsz1 := block_lt x1
  obtain ⟨e0, e1, e2⟩ := KK.out W1 hb1
  clear hW1 hb1 x0 x1 e0 e2
  have R0 : W1.cell? ⟨w.heap.size, 0, none⟩ = some (.func (.func 107) #[] #[.pointer (some ⟨q, 0, none⟩)]) := block_cell X0.out 0
  have D0 : W1.cell? ⟨w.heap.size + 1, 0, none⟩ = some (.int .i64 k) := block_cell X1.out 0
  have D1 : W1.cell? ⟨w.heap.size + 1, 1, none⟩ = some (.int .i64 N) := block_cell X1.out 1
  have D2 : W1.cell? ⟨w.heap.size + 1, 2, none⟩ = some (.slice (some ⟨b, off, none⟩) 1 cap) := block_cell X1.out 2
  have hl2 := hsz1
  go_enter Tryz.func160, Tryz.ntmps160
  go_wp2_with fail
  rw [HW1.out]
  refine (CT.out _ (chain HBW.out HB1.out)).mono ?_; rintro e w2 ⟨a2, cap2, rfl, hr2, hcap2, hb2⟩
  simp only [HUL.out] at hcap2 ⊢
  have X0 := Lib.hid ((hb2.block _ (block_lt X0.out)).trans X0.out)
  have X1 := Lib.hid ((hb2.block _ (block_lt X1.out)).trans X1.out)
  have HB2 := Lib.hid (chain HB1.out hb2)
  have HR2 := Lib.hid hr2
  clear R0 D0 D1 D2 e1 hr2 hb2 hcap2
  obtain ⟨e0, e1, e2⟩ := KK.out w2 HB2.out
  have D2 : w2.cell? ⟨w.heap.size + 1, 2, none⟩ = some (.slice (some ⟨b, off, none⟩) 1 cap) := block_cell X1.out 2
  go_wp2_with (at_make; refine wpList_make_full _ rfl _ _ 22 rfl w2.heap.size 23 i0 (.int .u64 0) 1 Tryz.underlying22 hi hz0 hz1 .i64 .i64 M M M rfl rfl rfl rfl (by rw [hz2]; omega) (by unfold maxLen; omega) (Nat.le_refl _) ?_)
  intro w3 hown0 hgrow0
  have HO3 := Lib.hid (Own.made hown0 hgrow0)
  clear hown0 hgrow0 e0 e1 e2 D2
  go_wp2_with fail
  go_loopw [28] (fun iv wr => ∃ j : Nat, j ≤ N ∧ iv = .int .i64 j ∧ OwnAt .u64 23 w2 wr w2.heap.size M (blF F N j)) (fun iv _ => N - (intOf iv).toNat)
  case atStart => exact ⟨0, Nat.zero_le _, rfl, own_eqz HO3.out (fun x => by unfold blF; rw [if_neg (by omega)])⟩
  case round =>
    obtain ⟨j, hj9, rfl, hoA⟩ := hrel
    by_cases hlj : j < N
    · obtain ⟨bx, ox, rfl, hcx⟩ := (HX.out.below (chain HB2.out hoA.below)).at (by rw [HXL.out]; omega)
      obtain ⟨bu, ou, rfl, hcu⟩ := (HR2.out.below hoA.below).at (by rw [HUL.out]; omega)
      have c1 := hcx j (by rw [HXL.out]; exact hlj)
      have c2 := hcu j (by rw [HUL.out]; exact hlj)
      rw [nth_rowT _ _ _ _ hlj] at c2
      have D1 : wr.cell? ⟨w.heap.size + 1, 1, none⟩ = some (.int .i64 N) := (hoA.below.cell (p := ⟨w.heap.size + 1, 1, none⟩) (block_lt X1.out)).trans (block_cell X1.out 1)
      have fx := fits_u64.1 (HXF.out _ (nth_mem (show j < xs.length by rw [HXL.out]; exact hlj)))
      have fu := pw_range u (triN N j)
      have hfv := HFV.out j hlj
      have hba := blF_at F N j hlj
      have hbn : ∀ x, x ≠ N - 1 - j → blF F N (j + 1) x = blF F N j x := fun x hx => blF_next F N j x hlj hx
      obtain ⟨x, hx⟩ : ∃ x, nth xs j = x := ⟨_, rfl⟩
      obtain ⟨y, hy⟩ : ∃ y, pw u (triN N j) = y := ⟨_, rfl⟩
      obtain ⟨p, hp⟩ : ∃ p, N - 1 - j = p := ⟨_, rfl⟩
      rw [hx] at c1 fx hfv
      rw [hy] at c2 fu hfv
      rw [hp] at hfv hba hbn
      have hpM : p < M := by omega
      have m1 : IntKind.i64.wrap ((N : Int) - 1) = (N : Int) - 1 := IntWalk.i64_in _ (by omega)
      have m2 : (N : Int) - 1 - (j : Int) = (p : Int) := by omega
      have m3 : IntKind.i64.wrap (p : Int) = (p : Int) := IntWalk.i64_in _ (by omega)
      have hcell := hoA.cell p hpM
      rw [hba.1] at hcell
      have hfz := hoA.free p
      have hnext := hoA.store p hpM (x * y % 18446744069414584321) (f' := blF F N (j + 1)) (by rw [hba.2, hfv]) (fun r _ hr => hbn r hr)
      have HNX := Lib.hid hnext
      have g1 : (0 : Int) ≤ (j : Int) := by omega
      have g2 : (j : Int) < (N : Int) := by omega
      have g3 : (0 : Int) ≤ (p : Int) := by omega
      have g4 : (p : Int) < (M : Int) := by omega
      clear hcx hcu hfv hba hbn hx hy hp hnext hoA
      go_wp2_with fail
      refine wp_region_still_tail 13 (by kernel_rfl) (by kernel_rfl) ?_; simp only [List.take_succ_cons, List.take_zero, List.drop_succ_cons, List.drop_zero]
      repeat still_step
      still_call (flipW (gold_Mul x y _ (by omega) (by omega) (by omega) (by omega)))
      repeat still_step
      try refine wpStill_nil ?_
      go_wp2_with fail
      go_roundw
      case rel => exact ⟨j + 1, by omega, by go_num, HNX.out.later (Below.refl _ _).drew⟩
      case measure => simp [intOf]; omega
    · have hjN : j = N := by omega
      have hrow := hoA.row (xs := F) HFL.out HFF.out (fun r hr => by
        unfold blF
        by_cases h : r < N
        · rw [if_pos (by omega)]
        · rw [if_neg (by omega)]; exact HFZ.out r (by omega)) hM2
      have HRA := Lib.hid hrow
      have HB4 := Lib.hid (chain HB2.out hoA.below)
      have HR2 := Lib.hid (HR2.out.below hoA.below)
      have X0 := Lib.hid ((hoA.below.block _ (block_lt X0.out)).trans X0.out)
      have X1 := Lib.hid ((hoA.below.block _ (block_lt X1.out)).trans X1.out)
      obtain ⟨w4, rfl⟩ : ∃ w4 : World, w4 = wr := ⟨_, rfl⟩
      have R0 : w4.cell? ⟨w.heap.size, 0, none⟩ = some (.func (.func 107) #[] #[.pointer (some ⟨q, 0, none⟩)]) := block_cell X0.out 0
      have D0 : w4.cell? ⟨w.heap.size + 1, 0, none⟩ = some (.int .i64 k) := block_cell X1.out 0
      have D1 : w4.cell? ⟨w.heap.size + 1, 1, none⟩ = some (.int .i64 N) := block_cell X1.out 1
      have D2 : w4.cell? ⟨w.heap.size + 1, 2, none⟩ = some (.slice (some ⟨b, off, none⟩) 1 cap) := block_cell X1.out 2
      have l1 := block_lt X1.out
      have l0 : w.heap.size < w4.heap.size := by omega
      have hb : Below w4.heap.size w4 w4.drew := (Below.refl _ _).drew
      clear hrow hoA HO3
      go_wp2_with fail
      go_region_held3 (fun w' => w'.cell? ⟨w.heap.size, 0, none⟩ = some (.func (.func 107) #[] #[.pointer (some ⟨q, 0, none⟩)]) ∧ w'.cell? ⟨w.heap.size + 1, 0, none⟩ = some (.int .i64 k) ∧ w'.cell? ⟨w.heap.size + 1, 1, none⟩ = some (.int .i64 N) ∧ w'.cell? ⟨w.heap.size + 1, 2, none⟩ = some (.slice (some ⟨b, off, none⟩) 1 cap))
        (first | exact ⟨R0, D0, D1, D2⟩ | exact ⟨(hb.cell (p := ⟨w.heap.size, 0, none⟩) l0).trans R0, (hb.cell (p := ⟨w.heap.size + 1, 0, none⟩) l1).trans D0, (hb.cell (p := ⟨w.heap.size + 1, 1, none⟩) l1).trans D1, (hb.cell (p := ⟨w.heap.size + 1, 2, none⟩) l1).trans D2⟩ | fail)
        ((first
          | (go_at_call 180; ((with_reducible refine (CB.out _ (chain HBW.out (chain HB4.out hb)) (chain HB4.out hb)).mono ?_); rintro e z1 ⟨a5, cap5, rfl, hr5, hcap5, hc⟩; have hb := chain hb hc; simp only [HTL.out] at hcap5 ⊢; clear hc))
          | (go_at_call 188; ((with_reducible refine (CA.out _ _ _ _ _ (chain HB4.out hb) (HRA.out.below hb) hr5).mono ?_); rintro e z2 ⟨a6, cap6, rfl, hr6, hcap6, hc⟩; have hb := chain hb hc; simp only [HCL.out] at hcap6 ⊢; clear hc))
          | fail))
      have HR6 := Lib.hid hr6
      have HR2 := Lib.hid (HR2.out.below hb)
      have X0 := Lib.hid ((hb.block _ (block_lt X0.out)).trans X0.out)
      have X1 := Lib.hid ((hb.block _ (block_lt X1.out)).trans X1.out)
      have HB6 := Lib.hid (chain HB4.out hb)
      clear R0 D0 D1 D2 hr5 hcap5 hr6 hcap6 hb HRA HB4 l0 l1
      have D1 : z2.cell? ⟨w.heap.size + 1, 1, none⟩ = some (.int .i64 N) := block_cell X1.out 1
      go_wp2_with (at_make; refine wpList_make_full _ rfl _ _ 22 rfl z2.heap.size 23 i0 (.int .u64 0) 1 Tryz.underlying22 hi hz0 hz1 .i64 .i64 N N N rfl rfl rfl rfl (by rw [hz2]; omega) (by unfold maxLen; omega) (Nat.le_refl _) ?_)
      intro w7 hown0 hgrow0
      have HO7 := Lib.hid (Own.made hown0 hgrow0)
      clear hown0 hgrow0 D1
      go_wp2_with fail
      go_loopw [60] (fun iv wr => ∃ t : Nat, t ≤ N ∧ iv = .int .i64 t ∧ OwnAt .u64 23 z2 wr z2.heap.size N (fun r => if r < t then nth R r else 0)) (fun iv _ => N - (intOf iv).toNat)
      case atStart => exact ⟨0, Nat.zero_le _, rfl, own_eqz HO7.out (fun x => if_neg (by omega))⟩
      case round =>
        obtain ⟨t, ht9, rfl, hoY⟩ := hrel
        by_cases hlt : t < N
        · obtain ⟨bc, oc, rfl, hcc⟩ := (HR6.out.below hoY.below).at (by rw [HCL.out]; omega)
          obtain ⟨bu, ou, rfl, hcu⟩ := (HR2.out.below hoY.below).at (by rw [HUL.out]; omega)
          have c1 := hcc (N - 1 + t) (by rw [HCL.out]; omega)
          have c2 := hcu t (by rw [HUL.out]; exact hlt)
          rw [nth_rowT _ _ _ _ hlt] at c2
          have D1 : wr.cell? ⟨w.heap.size + 1, 1, none⟩ = some (.int .i64 N) := (hoY.below.cell (p := ⟨w.heap.size + 1, 1, none⟩) (block_lt X1.out)).trans (block_cell X1.out 1)
          have fc := fits_u64.1 (HCF.out _ (nth_mem (show N - 1 + t < C.length by rw [HCL.out]; omega)))
          have fu := pw_range u (triN N t)
          have hv := HRV.out t hlt
          obtain ⟨x, hx⟩ : ∃ x, nth C (N - 1 + t) = x := ⟨_, rfl⟩
          obtain ⟨y, hy⟩ : ∃ y, pw u (triN N t) = y := ⟨_, rfl⟩
          obtain ⟨p, hp⟩ : ∃ p, N - 1 + t = p := ⟨_, rfl⟩
          rw [hx] at c1 fc hv
          rw [hy] at c2 fu hv
          rw [hp] at c1
          have hpM : p < M := by omega
          have m1 : IntKind.i64.wrap ((N : Int) - 1) = (N : Int) - 1 := IntWalk.i64_in _ (by omega)
          have m2 : (N : Int) - 1 + (t : Int) = (p : Int) := by omega
          have m3 : IntKind.i64.wrap (p : Int) = (p : Int) := IntWalk.i64_in _ (by omega)
          have hcell := hoY.cell t hlt
          rw [if_neg (Nat.lt_irrefl t)] at hcell
          have hfz := hoY.free t
          have hnext := hoY.store t hlt (x * y % 18446744069414584321) (f' := fun r => if r < t + 1 then nth R r else 0) (by show (if t < t + 1 then _ else _) = _; rw [if_pos (by omega), hv]) (fun r _ hr => by
            by_cases h : r < t
            · rw [if_pos h, if_pos (by omega)]
            · rw [if_neg h, if_neg (by omega)])
          have HNX := Lib.hid hnext
          have g1 : (0 : Int) ≤ (p : Int) := by omega
          have g2 : (p : Int) < (M : Int) := by omega
          have g3 : (0 : Int) ≤ (t : Int) := by omega
          have g4 : (t : Int) < (N : Int) := by omega
          clear hcc hcu hv hx hy hp hnext hoY
          go_wp2_with fail
          refine wp_region_still_tail 16 (by kernel_rfl) (by kernel_rfl) ?_; simp only [List.take_succ_cons, List.take_zero, List.drop_succ_cons, List.drop_zero]
          repeat still_step
          still_call (flipW (gold_Mul x y _ (by omega) (by omega) (by omega) (by omega)))
          repeat still_step
          try refine wpStill_nil ?_
          go_wp2_with fail
          go_roundw
          case rel => exact ⟨t + 1, by omega, by go_num, HNX.out.later (Below.refl _ _).drew⟩
          case measure => simp [intOf]; omega
        · have htN : t = N := by omega
          have hres := (hoY.givesO (xs := R) HDL.out HDF.out (fun x hx => (if_pos (by omega)).symm) hN2).step HB6.out
          have HRES := Lib.hid hres
          clear hoY hres
          go_wp2_with fail
          go_ret
          have h := HRES.out
          rw [← HRR.out] at h
          exact h
end Go.Proofs.YtlnlijeamflpiaaGreat

namespace Go.Proofs.YtlnlijeamflpiaaGreat
open Go.RowKit Sm
set_option linter.unusedVariables false
set_option linter.unusedSimpArgs false
set_option maxRecDepth 100000
theorem Tr.kid_names {t : Tr} {x : Nm} {D : Int} {j : Nat} (hj : j < t.kids.length) (hx : x ∈ (Tr.kid t.kids j).names (nmBelow t.kind D)) : x ∈ t.names D := by
  rw [Tr.names_kids, List.mem_append]
  exact Or.inr (Tr.mem_namesL.2 ⟨j, hj, hx⟩)
set_option maxHeartbeats 1000000 in
theorem node_naive (q : Nat) (n d : Int) (a ax : Option Addr) (m cap N cx : Nat) (R : List Int) (w : World)
    (hc : ∀ W, Below w.heap.size w W → Calls Tryz.prog 154 #[.agg #[.func (.func 107) #[] #[.pointer (some ⟨q, 0, none⟩)]], .agg #[.int .i64 1, .int .i64 n, .slice a m cap], .int .i64 d, .slice ax N cx] W (GivesOwn .u64 23 R W)) :
    Calls Tryz.prog 138 #[.agg #[.func (.func 107) #[] #[.pointer (some ⟨q, 0, none⟩)]], .agg #[.int .i64 1, .int .i64 n, .slice a m cap], .int .i64 d, .slice ax N cx] w (GivesOwn .u64 23 R w) := by
  have HC := Lib.hid hc
  clear hc
  obtain ⟨W1, hW1, hb1, x0, x1⟩ := two_boxes w #[.func (.func 107) #[] #[.pointer (some ⟨q, 0, none⟩)]] #[.int .i64 1, .int .i64 n, .slice a m cap] 138 48
  have HW1 := Lib.hid hW1
  have HB1 := Lib.hid hb1
  have R0 : W1.cell? ⟨w.heap.size, 0, none⟩ = some (.func (.func 107) #[] #[.pointer (some ⟨q, 0, none⟩)]) := block_cell x0 0
  have D0 : W1.cell? ⟨w.heap.size + 1, 0, none⟩ = some (.int .i64 1) := block_cell x1 0
  have D1 : W1.cell? ⟨w.heap.size + 1, 1, none⟩ = some (.int .i64 n) := block_cell x1 1
  have D2 : W1.cell? ⟨w.heap.size + 1, 2, none⟩ = some (.slice a m cap) := block_cell x1 2
  clear hW1 hb1 x0 x1
  go_enter Tryz.func138, Tryz.ntmps138
  go_wp2_with fail
  rw [HW1.out]
  refine (HC.out _ HB1.out).mono ?_; rintro e w2 ⟨a2, cap2, rfl, ho2, hf2, hl2, hb2⟩
  have hg : GivesOwn .u64 23 R w (.returned (.slice a2 R.length cap2)) w2 := ⟨a2, cap2, rfl, own_base ho2 HB1.out.size, hf2, hl2, chain HB1.out hb2⟩
  have HG := Lib.hid hg
  clear R0 D0 D1 D2 ho2 hf2 hl2 hb2 hg
  go_wp2_with fail
  go_ret
  exact HG.out
set_option maxHeartbeats 1000000 in
theorem node_little (q : Nat) (n d : Int) (a ax : Option Addr) (m cap N cx : Nat) (R : List Int) (w : World)
    (hc : ∀ W, Below w.heap.size w W → Calls Tryz.prog 155 #[.agg #[.func (.func 107) #[] #[.pointer (some ⟨q, 0, none⟩)]], .agg #[.int .i64 2, .int .i64 n, .slice a m cap], .int .i64 d, .slice ax N cx] W (GivesOwn .u64 23 R W)) :
    Calls Tryz.prog 138 #[.agg #[.func (.func 107) #[] #[.pointer (some ⟨q, 0, none⟩)]], .agg #[.int .i64 2, .int .i64 n, .slice a m cap], .int .i64 d, .slice ax N cx] w (GivesOwn .u64 23 R w) := by
  have HC := Lib.hid hc
  clear hc
  obtain ⟨W1, hW1, hb1, x0, x1⟩ := two_boxes w #[.func (.func 107) #[] #[.pointer (some ⟨q, 0, none⟩)]] #[.int .i64 2, .int .i64 n, .slice a m cap] 138 48
  have HW1 := Lib.hid hW1
  have HB1 := Lib.hid hb1
  have R0 : W1.cell? ⟨w.heap.size, 0, none⟩ = some (.func (.func 107) #[] #[.pointer (some ⟨q, 0, none⟩)]) := block_cell x0 0
  have D0 : W1.cell? ⟨w.heap.size + 1, 0, none⟩ = some (.int .i64 2) := block_cell x1 0
  have D1 : W1.cell? ⟨w.heap.size + 1, 1, none⟩ = some (.int .i64 n) := block_cell x1 1
  have D2 : W1.cell? ⟨w.heap.size + 1, 2, none⟩ = some (.slice a m cap) := block_cell x1 2
  clear hW1 hb1 x0 x1
  go_enter Tryz.func138, Tryz.ntmps138
  go_wp2_with fail
  rw [HW1.out]
  refine (HC.out _ HB1.out).mono ?_; rintro e w2 ⟨a2, cap2, rfl, ho2, hf2, hl2, hb2⟩
  have hg : GivesOwn .u64 23 R w (.returned (.slice a2 R.length cap2)) w2 := ⟨a2, cap2, rfl, own_base ho2 HB1.out.size, hf2, hl2, chain HB1.out hb2⟩
  have HG := Lib.hid hg
  clear R0 D0 D1 D2 ho2 hf2 hl2 hb2 hg
  go_wp2_with fail
  go_ret
  exact HG.out
set_option maxHeartbeats 1000000 in
theorem node_passes (q : Nat) (n d : Int) (a ax : Option Addr) (m cap N cx : Nat) (R : List Int) (w : World)
    (hc : ∀ W, Below w.heap.size w W → Calls Tryz.prog 156 #[.agg #[.func (.func 107) #[] #[.pointer (some ⟨q, 0, none⟩)]], .agg #[.int .i64 3, .int .i64 n, .slice a m cap], .int .i64 d, .slice ax N cx] W (GivesOwn .u64 23 R W)) :
    Calls Tryz.prog 138 #[.agg #[.func (.func 107) #[] #[.pointer (some ⟨q, 0, none⟩)]], .agg #[.int .i64 3, .int .i64 n, .slice a m cap], .int .i64 d, .slice ax N cx] w (GivesOwn .u64 23 R w) := by
  have HC := Lib.hid hc
  clear hc
  obtain ⟨W1, hW1, hb1, x0, x1⟩ := two_boxes w #[.func (.func 107) #[] #[.pointer (some ⟨q, 0, none⟩)]] #[.int .i64 3, .int .i64 n, .slice a m cap] 138 48
  have HW1 := Lib.hid hW1
  have HB1 := Lib.hid hb1
  have R0 : W1.cell? ⟨w.heap.size, 0, none⟩ = some (.func (.func 107) #[] #[.pointer (some ⟨q, 0, none⟩)]) := block_cell x0 0
  have D0 : W1.cell? ⟨w.heap.size + 1, 0, none⟩ = some (.int .i64 3) := block_cell x1 0
  have D1 : W1.cell? ⟨w.heap.size + 1, 1, none⟩ = some (.int .i64 n) := block_cell x1 1
  have D2 : W1.cell? ⟨w.heap.size + 1, 2, none⟩ = some (.slice a m cap) := block_cell x1 2
  clear hW1 hb1 x0 x1
  go_enter Tryz.func138, Tryz.ntmps138
  go_wp2_with fail
  rw [HW1.out]
  refine (HC.out _ HB1.out).mono ?_; rintro e w2 ⟨a2, cap2, rfl, ho2, hf2, hl2, hb2⟩
  have hg : GivesOwn .u64 23 R w (.returned (.slice a2 R.length cap2)) w2 := ⟨a2, cap2, rfl, own_base ho2 HB1.out.size, hf2, hl2, chain HB1.out hb2⟩
  have HG := Lib.hid hg
  clear R0 D0 D1 D2 ho2 hf2 hl2 hb2 hg
  go_wp2_with fail
  go_ret
  exact HG.out
set_option maxHeartbeats 1000000 in
theorem node_split (q : Nat) (n d : Int) (a ax : Option Addr) (m cap N cx : Nat) (R : List Int) (w : World)
    (hc : ∀ W, Below w.heap.size w W → Calls Tryz.prog 157 #[.agg #[.func (.func 107) #[] #[.pointer (some ⟨q, 0, none⟩)]], .agg #[.int .i64 4, .int .i64 n, .slice a m cap], .int .i64 d, .slice ax N cx] W (GivesOwn .u64 23 R W)) :
    Calls Tryz.prog 138 #[.agg #[.func (.func 107) #[] #[.pointer (some ⟨q, 0, none⟩)]], .agg #[.int .i64 4, .int .i64 n, .slice a m cap], .int .i64 d, .slice ax N cx] w (GivesOwn .u64 23 R w) := by
  have HC := Lib.hid hc
  clear hc
  obtain ⟨W1, hW1, hb1, x0, x1⟩ := two_boxes w #[.func (.func 107) #[] #[.pointer (some ⟨q, 0, none⟩)]] #[.int .i64 4, .int .i64 n, .slice a m cap] 138 48
  have HW1 := Lib.hid hW1
  have HB1 := Lib.hid hb1
  have R0 : W1.cell? ⟨w.heap.size, 0, none⟩ = some (.func (.func 107) #[] #[.pointer (some ⟨q, 0, none⟩)]) := block_cell x0 0
  have D0 : W1.cell? ⟨w.heap.size + 1, 0, none⟩ = some (.int .i64 4) := block_cell x1 0
  have D1 : W1.cell? ⟨w.heap.size + 1, 1, none⟩ = some (.int .i64 n) := block_cell x1 1
  have D2 : W1.cell? ⟨w.heap.size + 1, 2, none⟩ = some (.slice a m cap) := block_cell x1 2
  clear hW1 hb1 x0 x1
  go_enter Tryz.func138, Tryz.ntmps138
  go_wp2_with fail
  rw [HW1.out]
  refine (HC.out _ HB1.out).mono ?_; rintro e w2 ⟨a2, cap2, rfl, ho2, hf2, hl2, hb2⟩
  have hg : GivesOwn .u64 23 R w (.returned (.slice a2 R.length cap2)) w2 := ⟨a2, cap2, rfl, own_base ho2 HB1.out.size, hf2, hl2, chain HB1.out hb2⟩
  have HG := Lib.hid hg
  clear R0 D0 D1 D2 ho2 hf2 hl2 hb2 hg
  go_wp2_with fail
  go_ret
  exact HG.out
set_option maxHeartbeats 1000000 in
theorem node_good (q : Nat) (n d : Int) (a ax : Option Addr) (m cap N cx : Nat) (R : List Int) (w : World)
    (hc : ∀ W, Below w.heap.size w W → Calls Tryz.prog 158 #[.agg #[.func (.func 107) #[] #[.pointer (some ⟨q, 0, none⟩)]], .agg #[.int .i64 5, .int .i64 n, .slice a m cap], .int .i64 d, .slice ax N cx] W (GivesOwn .u64 23 R W)) :
    Calls Tryz.prog 138 #[.agg #[.func (.func 107) #[] #[.pointer (some ⟨q, 0, none⟩)]], .agg #[.int .i64 5, .int .i64 n, .slice a m cap], .int .i64 d, .slice ax N cx] w (GivesOwn .u64 23 R w) := by
  have HC := Lib.hid hc
  clear hc
  obtain ⟨W1, hW1, hb1, x0, x1⟩ := two_boxes w #[.func (.func 107) #[] #[.pointer (some ⟨q, 0, none⟩)]] #[.int .i64 5, .int .i64 n, .slice a m cap] 138 48
  have HW1 := Lib.hid hW1
  have HB1 := Lib.hid hb1
  have R0 : W1.cell? ⟨w.heap.size, 0, none⟩ = some (.func (.func 107) #[] #[.pointer (some ⟨q, 0, none⟩)]) := block_cell x0 0
  have D0 : W1.cell? ⟨w.heap.size + 1, 0, none⟩ = some (.int .i64 5) := block_cell x1 0
  have D1 : W1.cell? ⟨w.heap.size + 1, 1, none⟩ = some (.int .i64 n) := block_cell x1 1
  have D2 : W1.cell? ⟨w.heap.size + 1, 2, none⟩ = some (.slice a m cap) := block_cell x1 2
  clear hW1 hb1 x0 x1
  go_enter Tryz.func138, Tryz.ntmps138
  go_wp2_with fail
  rw [HW1.out]
  refine (HC.out _ HB1.out).mono ?_; rintro e w2 ⟨a2, cap2, rfl, ho2, hf2, hl2, hb2⟩
  have hg : GivesOwn .u64 23 R w (.returned (.slice a2 R.length cap2)) w2 := ⟨a2, cap2, rfl, own_base ho2 HB1.out.size, hf2, hl2, chain HB1.out hb2⟩
  have HG := Lib.hid hg
  clear R0 D0 D1 D2 ho2 hf2 hl2 hb2 hg
  go_wp2_with fail
  go_ret
  exact HG.out
set_option maxHeartbeats 1000000 in
theorem node_rader (q : Nat) (n d : Int) (a ax : Option Addr) (m cap N cx : Nat) (R : List Int) (w : World)
    (hc : ∀ W, Below w.heap.size w W → Calls Tryz.prog 159 #[.agg #[.func (.func 107) #[] #[.pointer (some ⟨q, 0, none⟩)]], .agg #[.int .i64 6, .int .i64 n, .slice a m cap], .int .i64 d, .slice ax N cx] W (GivesOwn .u64 23 R W)) :
    Calls Tryz.prog 138 #[.agg #[.func (.func 107) #[] #[.pointer (some ⟨q, 0, none⟩)]], .agg #[.int .i64 6, .int .i64 n, .slice a m cap], .int .i64 d, .slice ax N cx] w (GivesOwn .u64 23 R w) := by
  have HC := Lib.hid hc
  clear hc
  obtain ⟨W1, hW1, hb1, x0, x1⟩ := two_boxes w #[.func (.func 107) #[] #[.pointer (some ⟨q, 0, none⟩)]] #[.int .i64 6, .int .i64 n, .slice a m cap] 138 48
  have HW1 := Lib.hid hW1
  have HB1 := Lib.hid hb1
  have R0 : W1.cell? ⟨w.heap.size, 0, none⟩ = some (.func (.func 107) #[] #[.pointer (some ⟨q, 0, none⟩)]) := block_cell x0 0
  have D0 : W1.cell? ⟨w.heap.size + 1, 0, none⟩ = some (.int .i64 6) := block_cell x1 0
  have D1 : W1.cell? ⟨w.heap.size + 1, 1, none⟩ = some (.int .i64 n) := block_cell x1 1
  have D2 : W1.cell? ⟨w.heap.size + 1, 2, none⟩ = some (.slice a m cap) := block_cell x1 2
  clear hW1 hb1 x0 x1
  go_enter Tryz.func138, Tryz.ntmps138
  go_wp2_with fail
  rw [HW1.out]
  refine (HC.out _ HB1.out).mono ?_; rintro e w2 ⟨a2, cap2, rfl, ho2, hf2, hl2, hb2⟩
  have hg : GivesOwn .u64 23 R w (.returned (.slice a2 R.length cap2)) w2 := ⟨a2, cap2, rfl, own_base ho2 HB1.out.size, hf2, hl2, chain HB1.out hb2⟩
  have HG := Lib.hid hg
  clear R0 D0 D1 D2 ho2 hf2 hl2 hb2 hg
  go_wp2_with fail
  go_ret
  exact HG.out
set_option maxHeartbeats 1000000 in
theorem node_blue (q : Nat) (n d : Int) (a ax : Option Addr) (m cap N cx : Nat) (R : List Int) (w : World)
    (hc : ∀ W, Below w.heap.size w W → Calls Tryz.prog 160 #[.agg #[.func (.func 107) #[] #[.pointer (some ⟨q, 0, none⟩)]], .agg #[.int .i64 7, .int .i64 n, .slice a m cap], .int .i64 d, .slice ax N cx] W (GivesOwn .u64 23 R W)) :
    Calls Tryz.prog 138 #[.agg #[.func (.func 107) #[] #[.pointer (some ⟨q, 0, none⟩)]], .agg #[.int .i64 7, .int .i64 n, .slice a m cap], .int .i64 d, .slice ax N cx] w (GivesOwn .u64 23 R w) := by
  have HC := Lib.hid hc
  clear hc
  obtain ⟨W1, hW1, hb1, x0, x1⟩ := two_boxes w #[.func (.func 107) #[] #[.pointer (some ⟨q, 0, none⟩)]] #[.int .i64 7, .int .i64 n, .slice a m cap] 138 48
  have HW1 := Lib.hid hW1
  have HB1 := Lib.hid hb1
  have R0 : W1.cell? ⟨w.heap.size, 0, none⟩ = some (.func (.func 107) #[] #[.pointer (some ⟨q, 0, none⟩)]) := block_cell x0 0
  have D0 : W1.cell? ⟨w.heap.size + 1, 0, none⟩ = some (.int .i64 7) := block_cell x1 0
  have D1 : W1.cell? ⟨w.heap.size + 1, 1, none⟩ = some (.int .i64 n) := block_cell x1 1
  have D2 : W1.cell? ⟨w.heap.size + 1, 2, none⟩ = some (.slice a m cap) := block_cell x1 2
  clear hW1 hb1 x0 x1
  go_enter Tryz.func138, Tryz.ntmps138
  go_wp2_with fail
  rw [HW1.out]
  refine (HC.out _ HB1.out).mono ?_; rintro e w2 ⟨a2, cap2, rfl, ho2, hf2, hl2, hb2⟩
  have hg : GivesOwn .u64 23 R w (.returned (.slice a2 R.length cap2)) w2 := ⟨a2, cap2, rfl, own_base ho2 HB1.out.size, hf2, hl2, chain HB1.out hb2⟩
  have HG := Lib.hid hg
  clear R0 D0 D1 D2 ho2 hf2 hl2 hb2 hg
  go_wp2_with fail
  go_ret
  exact HG.out
set_option maxHeartbeats 4000000 in
/-- Any plan does the transform. -/
theorem exec_node (S : Nat) : ∀ (t : Tr) (q : Nat) (w0 : World) (ns : List Nm) (k n : Int) (a : Option Addr) (m cap : Nat) (d : Int) (w : World) (F : Nat → Prop) (ax : Option Addr) (N cx : Nat) (xs : List Int),
    t.size ≤ S → IsT w F k n a m cap t → t.allOk → d = 0 ∨ d = 1 → LookAt q w0 ns → Below w0.heap.size w0 w → (∀ x ∈ t.names d, x ∈ ns) → Row .u64 w ax xs → xs.length = N → n = (N : Int) →
    Calls Tryz.prog 138 #[.agg #[.func (.func 107) #[] #[.pointer (some ⟨q, 0, none⟩)]], .agg #[.int .i64 k, .int .i64 n, .slice a m cap], .int .i64 d, .slice ax N cx] w (GivesOwn .u64 23 (dftL xs (dirRt N d)) w) := by
  induction S with
  | zero => intro t q w0 ns k n a m cap d w F ax N cx xs h; have := Tr.size_pos t; omega
  | succ S ih =>
    intro t q w0 ns k n a m cap d w F ax N cx xs hs hT hok hd hL hb0 hns hx hxl hn
    have hok2 := (Tr.allOk_iff t).1 hok
    have hnd := hok2.1
    unfold nodeOk at hnd
    rw [← hT.ek, ← hT.en, ← hT.em] at hnd
    have hown : ∀ x ∈ nmOwn k n (Tr.kid t.kids 0).num d, x ∈ ns := fun x hx => hns x (by rw [Tr.names_kids, List.mem_append, ← hT.ek, ← hT.en]; exact Or.inl hx)
    have hm := hT.em
    -- the call of a kid
    have hkid : ∀ j, j < m → ∃ b off k' n' a' m' c', a = some ⟨b, off, none⟩ ∧ w.cell? ⟨b, off + j * 3, none⟩ = some (.int .i64 k') ∧ w.cell? ⟨b, off + j * 3 + 1, none⟩ = some (.int .i64 n') ∧ w.cell? ⟨b, off + j * 3 + 2, none⟩ = some (.slice a' m' c') ∧ n' = (Tr.kid t.kids j).num ∧
        ∀ (M : Nat), n' = (M : Int) → ∀ W (ax : Option Addr) (cx : Nat) (xs : List Int), Below w.heap.size w W → Row .u64 W ax xs → xs.length = M → Calls Tryz.prog 138 #[.agg #[.func (.func 107) #[] #[.pointer (some ⟨q, 0, none⟩)]], .agg #[.int .i64 k', .int .i64 M, .slice a' m' c'], .int .i64 (nmBelow k d), .slice ax M cx] W (GivesOwn .u64 23 (dftL xs (dirRt M (nmBelow k d))) W) := fun j hj => by
      have hj2 : j < t.kids.length := by omega
      obtain ⟨b, off, k', n', a', m', c', e1, hF, hbl, h0, h1, h2, hT'⟩ := hT.kid j hj
      refine ⟨b, off, k', n', a', m', c', e1, h0, h1, h2, hT'.en, fun M hM W ax cx xs hW hx hxl => ?_⟩
      have hsz := Tr.size_kid t j hj2
      have := ih (Tr.kid t.kids j) q w0 ns k' n' a' m' c' (nmBelow k d) W F ax M cx xs (by omega) (hT'.below hW) (hok2.2 j hj2) (below_dir k d hd) hL (chain hb0 hW) (fun x hx => hns x (Tr.kid_names hj2 (by rw [← hT.ek]; exact hx))) hx hxl hM
      rwa [hM] at this
    subst hn
    unfold nodeB at hnd
    by_cases h1 : k = 1
    · rw [if_pos h1] at hnd
      subst h1
      simp only [Bool.and_eq_true, decide_eq_true_eq] at hnd
      exact node_naive q N d a ax m cap N cx _ w fun W hW => exec_naive q w0 ns hL N 1 d a ax m cap cx xs W (hx.below hW) hxl hd (chain hb0 hW) (hown _ (by unfold nmOwn; simp)) hnd.2 (by omega)
    rw [if_neg h1] at hnd
    by_cases h2 : k = 2
    · rw [if_pos h2] at hnd
      subst h2
      simp only [decide_eq_true_eq] at hnd
      exact node_little q N d a ax m cap N cx _ w fun W hW => exec_little q N 2 d a ax m cap cx xs W (hx.below hW) hxl hd (by omega) (by omega)
    rw [if_neg h2] at hnd
    by_cases h3 : k = 3
    · rw [if_pos h3] at hnd
      subst h3
      simp only [Bool.and_eq_true, decide_eq_true_eq] at hnd
      obtain ⟨j, hj, he⟩ := (hasP2_iff _).1 hnd.2
      exact node_passes q N d a ax m cap N cx _ w fun W hW => exec_passes q w0 ns hL N 3 d a ax m cap cx xs W (hx.below hW) hxl hd (chain hb0 hW) (hown _ (by unfold nmOwn; simp)) j hj (by omega)
    rw [if_neg h3] at hnd
    by_cases h4 : k = 4 ∨ k = 5
    · have hsd : sidesB N m (Tr.kid t.kids 0).num (Tr.kid t.kids 1).num = true ∧ (k = 5 → gcdI (Tr.kid t.kids 0).num (Tr.kid t.kids 1).num = 1) := by
        rcases h4 with h4 | h4
        · rw [if_pos h4] at hnd; exact ⟨hnd, fun h => by omega⟩
        · rw [if_neg (by omega), if_pos h4] at hnd
          simp only [Bool.and_eq_true, decide_eq_true_eq] at hnd
          exact ⟨hnd.1, fun _ => hnd.2⟩
      obtain ⟨⟨hm2, s0, s1, s2, s3, s4⟩, s5⟩ := sides_iff.1 hsd.1
      subst hm2
      have hD : nmBelow k d = d := by unfold nmBelow; rw [if_neg (by omega)]
      obtain ⟨b, off, k0, n0, a0, m0, c0, e0, c00, c01, c02, hn0, hC0⟩ := hkid 0 (by omega)
      obtain ⟨b', off', k1, n1, a1, m1, c1, e1, c10, c11, c12, hn1, hC1⟩ := hkid 1 (by omega)
      rw [e0] at e1
      simp only [Option.some.injEq, Addr.mk.injEq, and_true] at e1
      obtain ⟨rfl, rfl⟩ := e1
      subst e0
      rw [← hn0, ← hn1] at s4
      rw [← hn0] at s0 s2
      rw [← hn1] at s1 s3
      obtain ⟨A, rfl⟩ := Int.eq_ofNat_of_zero_le (show 0 ≤ n0 by omega)
      obtain ⟨B, rfl⟩ := Int.eq_ofNat_of_zero_le (show 0 ≤ n1 by omega)
      have hAB : N = A * B := by have : ((A * B : Nat) : Int) = (N : Int) := by rw [Int.natCast_mul]; exact s4
                                 omega
      have hD0 := hC0 A rfl
      have hD1 := hC1 B rfl
      rw [hD] at hD0 hD1
      clear hC0 hC1
      simp only [Nat.zero_mul, Nat.add_zero] at c00 c01 c02
      rw [Nat.one_mul] at c10 c11 c12
      rcases h4 with h4 | h4
      · subst h4
        exact node_split q N d _ ax 2 cap N cx _ w fun W hW => by
          have bl : b < w.heap.size := World.block_lt_of_cell? _ _ c00
          exact exec_split q w0 ns hL N A B b off cap cx 4 d k0 k1 a0 a1 ax m0 c0 m1 c1 xs W (hx.below hW) hxl hAB (by omega) (by omega) s5 (chain hb0 hW) (hown _ (by unfold nmOwn; simp))
            ((hW.cell (p := ⟨b, off, none⟩) bl).trans c00) ((hW.cell (p := ⟨b, off + 1, none⟩) bl).trans c01) ((hW.cell (p := ⟨b, off + 2, none⟩) bl).trans c02)
            ((hW.cell (p := ⟨b, off + 3, none⟩) bl).trans c10) ((hW.cell (p := ⟨b, off + 4, none⟩) bl).trans c11) ((hW.cell (p := ⟨b, off + 5, none⟩) bl).trans c12)
            (fun V ax cx xs hV hx hxl => hD0 V ax cx xs (chain hW hV) hx hxl) (fun V ax cx xs hV hx hxl => hD1 V ax cx xs (chain hW hV) hx hxl)
      · subst h4
        have hg : Nat.gcd A B = 1 := by
          have := hsd.2 rfl
          rw [← hn0, ← hn1] at this
          unfold gcdI at this
          rw [if_neg (by omega)] at this
          simp only [Int.toNat_natCast] at this
          omega
        exact node_good q N d _ ax 2 cap N cx _ w fun W hW => by
          have bl : b < w.heap.size := World.block_lt_of_cell? _ _ c00
          exact exec_good q N A B b off cap cx 5 d k0 k1 a0 a1 ax m0 c0 m1 c1 xs W (hx.below hW) hxl hAB (by omega) (by omega) s5 hg
            ((hW.cell (p := ⟨b, off, none⟩) bl).trans c00) ((hW.cell (p := ⟨b, off + 1, none⟩) bl).trans c01) ((hW.cell (p := ⟨b, off + 2, none⟩) bl).trans c02)
            ((hW.cell (p := ⟨b, off + 3, none⟩) bl).trans c10) ((hW.cell (p := ⟨b, off + 4, none⟩) bl).trans c11) ((hW.cell (p := ⟨b, off + 5, none⟩) bl).trans c12)
            (fun V ax cx xs hV hx hxl => hD0 V ax cx xs (chain hW hV) hx hxl) (fun V ax cx xs hV hx hxl => hD1 V ax cx xs (chain hW hV) hx hxl)
    rw [if_neg (fun e => h4 (Or.inl e)), if_neg (fun e => h4 (Or.inr e))] at hnd
    by_cases h6 : k = 6
    · rw [if_pos h6] at hnd
      subst h6
      simp only [Bool.and_eq_true, decide_eq_true_eq] at hnd
      obtain ⟨⟨⟨hm1, s0, s1⟩, s2⟩, s3⟩ := hnd
      subst hm1
      have hD : nmBelow 6 d = 0 := by unfold nmBelow; rw [if_pos (by simp)]
      obtain ⟨b, off, k0, n0, a0, m0, c0, e0, c00, c01, c02, hn0, hC0⟩ := hkid 0 (by omega)
      subst e0
      rw [← hn0] at s1
      have hq := fq_of s2 s3 (by omega)
      obtain ⟨M, rfl⟩ := Int.eq_ofNat_of_zero_le (show 0 ≤ n0 by omega)
      have hC0 := hC0 M rfl
      rw [hD] at hC0
      simp only [Nat.zero_mul, Nat.add_zero] at c00 c01 c02
      exact node_rader q N d _ ax 1 cap N cx _ w fun W hW => by
        have bl : b < w.heap.size := World.block_lt_of_cell? _ _ c00
        exact exec_rader q w0 ns hL N M b off cap cx 6 d k0 a0 ax m0 c0 xs W (hx.below hW) hxl hq s2 (by omega) (chain hb0 hW) (hown _ (by unfold nmOwn; simp))
          ((hW.cell (p := ⟨b, off, none⟩) bl).trans c00) ((hW.cell (p := ⟨b, off + 1, none⟩) bl).trans c01) ((hW.cell (p := ⟨b, off + 2, none⟩) bl).trans c02)
          (fun V ax cx xs hV hx hxl => hC0 V ax cx xs (chain hW hV) hx hxl)
    rw [if_neg h6] at hnd
    by_cases h7 : k = 7
    · rw [if_pos h7] at hnd
      subst h7
      simp only [Bool.and_eq_true, decide_eq_true_eq] at hnd
      obtain ⟨⟨⟨hm1, s0, s1⟩, s2⟩, s3⟩ := hnd
      subst hm1
      have hD : nmBelow 7 d = 0 := by unfold nmBelow; rw [if_pos (by simp)]
      obtain ⟨b, off, k0, n0, a0, m0, c0, e0, c00, c01, c02, hn0, hC0⟩ := hkid 0 (by omega)
      subst e0
      have hin2 := hown (2, (N : Int), 0, d) (by unfold nmOwn; simp)
      have hin4 := hown (4, (N : Int), (Tr.kid t.kids 0).num, d) (by unfold nmOwn; simp)
      rw [← hn0] at s1 s3 hin4
      obtain ⟨M, rfl⟩ := Int.eq_ofNat_of_zero_le (show 0 ≤ n0 by omega)
      obtain ⟨j, hj, he⟩ := (hasP2_iff _).1 s3
      have hsM : hasSz (M : Int) = true := by rw [he]; exact hasSz_pow j hj
      have hC0 := hC0 M rfl
      rw [hD] at hC0
      simp only [Nat.zero_mul, Nat.add_zero] at c00 c01 c02
      exact node_blue q N d _ ax 1 cap N cx _ w fun W hW => by
        have bl : b < w.heap.size := World.block_lt_of_cell? _ _ c00
        exact exec_blue q w0 ns hL N M b off cap cx 7 d k0 a0 ax m0 c0 xs W (hx.below hW) hxl hd s2 hsM (by omega) (by omega) (chain hb0 hW) hin2 hin4
          ((hW.cell (p := ⟨b, off, none⟩) bl).trans c00) ((hW.cell (p := ⟨b, off + 1, none⟩) bl).trans c01) ((hW.cell (p := ⟨b, off + 2, none⟩) bl).trans c02)
          (fun V ax cx xs hV hx hxl => hC0 V ax cx xs (chain hW hV) hx hxl)
    rw [if_neg h7] at hnd
    cases hnd
end Go.Proofs.YtlnlijeamflpiaaGreat

namespace Go.Proofs.YtlnlijeamflpiaaGreat
open Go.RowKit Sm
set_option linter.unusedVariables false
set_option linter.unusedSimpArgs false
set_option maxRecDepth 100000
theorem Row.put {k : IntKind} {w : World} {a : Option Addr} {xs : List Int} {b : Nat} {o : Obj} {l : List (Value × Value)} (h : Row k w a xs) (hb : w.heap[b]? = some (mapObj l)) : Row k (w.putObj b o) a xs := by
  refine ⟨h.len, h.wf, ?_⟩
  rcases h.lies with h1 | ⟨b', off, h1, h2⟩
  · exact Or.inl h1
  · refine Or.inr ⟨b', off, h1, fun i hi => ?_⟩
    have h3 := h2 i hi
    have hne : b' ≠ b := fun e => by
      subst e
      simp [World.cell?, hb, mapObj] at h3
    rw [← h3]
    exact World.cell?_of_block (World.putObj_heap_other hne)
/-- The teller's map, in block mb; the cell that holds it, in block q; the names that it has, and their tables. -/
structure Made (q mb : Nat) (xs : List Nm) (W : World) : Prop where
  cell : W.heap[q]? = some (.cells #[.map (some mb)] 110 (0, 0))
  ents : ∃ l : List (Value × Value), W.heap[mb]? = some (mapObj l) ∧ l.map (·.1) = xs.map nv ∧ ∀ (i : Nat) (x : Nm), xs[i]? = some x → ∃ (a : Option Addr) (cap : Nat), l[i]? = some (nv x, .slice a (tblN x).length cap) ∧ Row .u64 W a (tblN x) ∧ OkCap a (tblN x).length cap
  nodup : xs.Nodup
theorem Made.ne {q mb : Nat} {xs : List Nm} {W : World} (h : Made q mb xs W) : q ≠ mb := by
  obtain ⟨l, hl, _⟩ := h.ents
  intro e
  have := h.cell
  rw [e, hl] at this
  simp [mapObj] at this
theorem Made.later {q mb : Nat} {xs : List Nm} {W W' : World} (h : Made q mb xs W) (hb : Below W.heap.size W W') : Made q mb xs W' := by
  obtain ⟨l, hl, hk, he⟩ := h.ents
  exact ⟨(hb.block _ (block_lt h.cell)).trans h.cell, ⟨l, (hb.block _ (block_lt hl)).trans hl, hk, fun i x hx => by
    obtain ⟨a, cap, h1, h2, h3⟩ := he i x hx
    exact ⟨a, cap, h1, h2.below hb, h3⟩⟩, h.nodup⟩
theorem nv_nodup {xs : List Nm} (h : xs.Nodup) : (xs.map nv).Nodup := by
  unfold List.Nodup at *
  exact List.Pairwise.map nv (fun a b hab e => hab (nv_inj e)) h
theorem keys_isNv {l : List (Value × Value)} {xs : List Nm} (h : l.map (·.1) = xs.map nv) : ∀ p ∈ l, isNv p.1 := by
  intro p hp
  have h1 : p.1 ∈ l.map (·.1) := List.mem_map_of_mem hp
  rw [h] at h1
  obtain ⟨x, _, hx⟩ := List.mem_map.1 h1
  exact ⟨x, hx.symm⟩
theorem keys_no {l : List (Value × Value)} {xs : List Nm} (h : l.map (·.1) = xs.map nv) {x : Nm} (hx : x ∉ xs) : ∀ p ∈ l, p.1 ≠ nv x := by
  intro p hp e
  have h1 : p.1 ∈ l.map (·.1) := List.mem_map_of_mem hp
  rw [h] at h1
  obtain ⟨y, hy, hxy⟩ := List.mem_map.1 h1
  exact hx (by rw [← nv_inj (hxy.trans e)]; exact hy)
theorem zero_row (W : World) : (zeroValue 22).run Tryz.prog W = .ok (.slice none 0 0) W := by kernel_rfl
set_option maxHeartbeats 2000000 in
theorem tell_yes (q mb : Nat) (xs : List Nm) (x : Nm) (W : World) (h : Made q mb xs W) (hx : x ∈ xs) :
    Calls Tryz.prog 107 #[.agg #[.int .i64 x.1, .int .i64 x.2.1, .int .i64 x.2.2.1, .int .i64 x.2.2.2], .pointer (some ⟨q, 0, none⟩)] W (GivesRow .u64 (tblN x) W) := by
  obtain ⟨l, hl, hk, he⟩ := h.ents
  obtain ⟨i, hil, hi⟩ := List.getElem_of_mem hx
  obtain ⟨a, cap, h1, h2, h3⟩ := he i x (by rw [List.getElem?_eq_getElem hil, hi])
  obtain ⟨W0, hW0, hb0, x0⟩ := box_any W #[.int .i64 x.1, .int .i64 x.2.1, .int .i64 x.2.2.1, .int .i64 x.2.2.2] 112
  have hl0 : W0.heap[mb]? = some (mapObj l) := (hb0.block _ (block_lt hl)).trans hl
  have hnd : (l.map (·.1)).Nodup := by rw [hk]; exact nv_nodup h.nodup
  have r1 := name_keys.lookup_yes Tryz.underlying110 hl0 (keys_isNv hk) (k := nv x) ⟨x, rfl⟩ hnd h1 true
  have r2 := name_keys.lookup_yes Tryz.underlying110 hl0 (keys_isNv hk) (k := nv x) ⟨x, rfl⟩ hnd h1 false
  simp only [nv, if_true, Bool.false_eq_true, if_false] at r1 r2
  have q0 : W0.cell? ⟨q, 0, none⟩ = some (.map (some mb)) := block_cell ((hb0.block _ (block_lt h.cell)).trans h.cell) 0
  have hr0 := h2.below hb0
  obtain ⟨k, n, m, d⟩ := x
  simp only at r1 r2 x0 hW0 ⊢
  obtain ⟨T, hT⟩ : ∃ T, tblN (k, n, m, d) = T := ⟨_, rfl⟩
  rw [hT] at r1 r2 hr0 h3 ⊢
  obtain ⟨L, hL⟩ : ∃ L, T.length = L := ⟨_, rfl⟩
  have HL := Lib.hid hL
  rw [hL] at r1 r2 h3
  have HW0 := Lib.hid hW0
  have HB := Lib.hid hb0
  have HR := Lib.hid hr0
  have D0 : W0.cell? ⟨W.heap.size, 0, none⟩ = some (.int .i64 k) := block_cell x0 0
  have D1 : W0.cell? ⟨W.heap.size, 1, none⟩ = some (.int .i64 n) := block_cell x0 1
  have D2 : W0.cell? ⟨W.heap.size, 2, none⟩ = some (.int .i64 m) := block_cell x0 2
  have D3 : W0.cell? ⟨W.heap.size, 3, none⟩ = some (.int .i64 d) := block_cell x0 3
  rw [← hW0] at r1 r2 q0 D0 D1 D2 D3
  clear hl hk he hil hi h1 h2 hl0 hnd hr0 x0 hW0 hb0 hT hL h hx
  go_enter Tryz.func107, Tryz.ntmps107
  go_wp2_with fail
  go_ret
  rw [HW0.out]
  exact ⟨a, cap, by simp [HL.out], HR.out, by rw [HL.out]; exact h3, HB.out⟩
theorem right_ok {x : Nm} (h : rightB x = true) : NmOk x ∧ x.2.1 = (x.2.1.toNat : Nat) ∧ x.2.2.1 = (x.2.2.1.toNat : Nat) ∧ roomN x = ((tblN x).length : Nat) ∧ (tblN x).length ≤ 16777216 ∧ 0 < (tblN x).length := by
  obtain ⟨k, n, m, d⟩ := x
  obtain ⟨N', hN, hs, hd, hc⟩ := right_cases h
  have hb := hasSz_iff.1 hs
  have hm : 0 ≤ m ∧ m ≤ 16777216 := by
    rcases hc with ⟨_, rfl⟩ | ⟨_, rfl⟩ | ⟨_, rfl, _⟩ | ⟨_, M', lg, hM, _, hlg, he, _⟩
    · omega
    · omega
    · omega
    · have := (hasSz_iff.1 (hasSz_pow lg hlg)).2.1
      rw [← he] at this
      omega
  have hk : 1 ≤ k ∧ k ≤ 4 := by rcases hc with ⟨h, _⟩ | ⟨h, _⟩ | ⟨h, _⟩ | ⟨h, _⟩ <;> omega
  have h1 : n = (n.toNat : Nat) := by omega
  have h2 : m = (m.toNat : Nat) := by omega
  have hr := room_right h n.toNat m.toNat h1 h2
  have hp : 0 < roomN (k, n, m, d) := by
    unfold roomN
    rw [if_neg (by rw [h]; simp)]
    simp only
    rcases hc with ⟨rfl, _⟩ | ⟨rfl, _⟩ | ⟨rfl, _, hq⟩ | ⟨rfl, M', lg, hM, q2, hlg, he, hle⟩
    · rw [if_neg (by omega), if_neg (by omega)]; omega
    · rw [if_neg (by omega), if_neg (by omega)]; omega
    · have := fq_bd hq
      rw [if_pos rfl]; omega
    · rw [if_neg (by omega), if_pos rfl]; omega
  have hl : 0 < (tblN (k, n, m, d)).length := by
    have h3 := hr.1
    show 0 < (tblL k n.toNat m.toNat d).length
    omega
  clear hc
  refine ⟨?_, h1, h2, hr.1, hr.2, hl⟩
  unfold NmOk
  simp only
  omega
theorem table_MakeN (k n m d : Int) (W : World) (h : rightB (k, n, m, d) = true) :
    Calls Tryz.prog 108 #[.agg #[.int .i64 k, .int .i64 n, .int .i64 m, .int .i64 d]] W (GivesRowE .u64 (tblN (k, n, m, d)) 0 W) := by
  obtain ⟨h1, h2, h3, _⟩ := right_ok h
  exact table_Make k n m d n.toNat m.toNat W h1 h h2 h3
theorem grown_put {W z : World} (hb : Below W.heap.size W z) (b : Nat) (o : Obj) : W.grownBy (z.putObj b o) (some b) :=
  ⟨hb.os, hb.tape, hb.output, Nat.le_trans hb.size (Nat.le_of_eq World.putObj_size.symm), fun k hk hne => (World.putObj_heap_other (fun e => hne (by rw [e]))).trans (hb.block k hk)⟩
theorem made_more {q mb : Nat} {xs : List Nm} {x : Nm} {z : World} {l : List (Value × Value)} {a : Option Addr} {cap : Nat} (hc : z.heap[q]? = some (.cells #[.map (some mb)] 110 (0, 0))) (hn : xs.Nodup) (hx : x ∉ xs) (hk : l.map (·.1) = xs.map nv)
    (he : ∀ (i : Nat) (x : Nm), xs[i]? = some x → ∃ (a : Option Addr) (cap : Nat), l[i]? = some (nv x, .slice a (tblN x).length cap) ∧ Row .u64 z a (tblN x) ∧ OkCap a (tblN x).length cap) (hm : z.heap[mb]? = some (mapObj l)) (hne : q ≠ mb) (hr : Row .u64 z a (tblN x)) (hoc : OkCap a (tblN x).length cap) :
    Made q mb (xs ++ [x]) (z.putObj mb (mapObj (l ++ [(nv x, .slice a (tblN x).length cap)]))) := by
  have hlen : l.length = xs.length := by have := congrArg List.length hk; simpa using this
  refine ⟨(World.putObj_heap_other hne).trans hc, ⟨l ++ [(nv x, .slice a (tblN x).length cap)], World.putObj_heap_same (block_lt hm), by simp [hk], fun i y hy => ?_⟩, ?_⟩
  · by_cases hi : i < xs.length
    · rw [List.getElem?_append_left hi] at hy
      obtain ⟨a', cap', h1, h2, h3⟩ := he i y hy
      exact ⟨a', cap', by rw [List.getElem?_append_left (by rw [hlen]; exact hi)]; exact h1, h2.put hm, h3⟩
    · have hi2 : i = xs.length := by
        have := (List.getElem?_eq_some_iff.1 hy).1
        simp at this; omega
      subst hi2
      simp at hy
      subst hy
      exact ⟨a, cap, by rw [← hlen]; simp, hr.put hm, hoc⟩
  · rw [List.nodup_append]
    exact ⟨hn, by simp, fun a ha b hb => by simp at hb; subst hb; exact fun e => hx (e ▸ ha)⟩
set_option maxHeartbeats 4000000 in
theorem tell_no (q mb : Nat) (xs : List Nm) (k n m d : Int) (W : World) (h : Made q mb xs W) (hx : (k, n, m, d) ∉ xs) (hr : rightB (k, n, m, d) = true) :
    Calls Tryz.prog 107 #[.agg #[.int .i64 k, .int .i64 n, .int .i64 m, .int .i64 d], .pointer (some ⟨q, 0, none⟩)] W fun e w' => ∃ (a : Option Addr) (cap : Nat), e = .returned (.slice a (tblN (k, n, m, d)).length cap) ∧ Row .u64 w' a (tblN (k, n, m, d)) ∧ Made q mb (xs ++ [(k, n, m, d)]) w' ∧ W.grownBy w' (some mb) := by
  have CM : Hid (∀ W, Calls Tryz.prog 108 #[.agg #[.int .i64 k, .int .i64 n, .int .i64 m, .int .i64 d]] W (GivesRowE .u64 (tblN (k, n, m, d)) 0 W)) := fun W => table_MakeN k n m d W hr
  have hne := h.ne
  obtain ⟨l, hl, hk, he⟩ := h.ents
  have hkn := keys_no hk hx
  have hkv := keys_isNv hk
  obtain ⟨W0, hW0, hb0, x0⟩ := box_any W #[.int .i64 k, .int .i64 n, .int .i64 m, .int .i64 d] 112
  have hl0 : W0.heap[mb]? = some (mapObj l) := (hb0.block _ (block_lt hl)).trans hl
  have r1 := name_keys.lookup_no Tryz.underlying110 hl0 hkv (k := nv (k, n, m, d)) ⟨_, rfl⟩ zero_row hkn true
  have HU : Hid (∀ (V : World) (v : Value), V.heap[mb]? = some (mapObj l) → (Instr.mapUpdate 110 (.map (some mb)) (nv (k, n, m, d)) v).run Tryz.prog V = .ok () (V.putObj mb (mapObj (l ++ [(nv (k, n, m, d), v)])))) := fun V v hV => name_keys.update_no Tryz.underlying110 hV hkv ⟨_, rfl⟩ hkn
  have HLK : Hid (∀ (V : World) (v : Value), V.heap[mb]? = some (mapObj (l ++ [(nv (k, n, m, d), v)])) → (Instr.lookup 110 (.map (some mb)) (nv (k, n, m, d)) false).run Tryz.prog V = .ok v V) := fun V v hV => by
    have hk2 : (l ++ [(nv (k, n, m, d), v)]).map (·.1) = (xs ++ [(k, n, m, d)]).map nv := by simp [hk]
    have hnd2 : (xs ++ [(k, n, m, d)]).Nodup := by
      rw [List.nodup_append]
      exact ⟨h.nodup, by simp, fun a ha b hb => by simp at hb; subst hb; exact fun e => hx (e ▸ ha)⟩
    have := name_keys.lookup_yes Tryz.underlying110 hV (keys_isNv hk2) (k := nv (k, n, m, d)) ⟨_, rfl⟩ (by rw [hk2]; exact nv_nodup hnd2) (j := l.length) (v := v) (by simp) false
    simpa using this
  simp only [nv, if_true] at r1
  have s0 := (hb0.block _ (block_lt h.cell)).trans h.cell
  have q0 : W0.cell? ⟨q, 0, none⟩ = some (.map (some mb)) := block_cell s0 0
  have HH := Lib.hid (h.later hb0)
  have HE := Lib.hid he
  have HK := Lib.hid hk
  have HXX := Lib.hid hx
  have HL0 := Lib.hid hl0
  have HQ0 := Lib.hid s0
  have hmbl := block_lt hl0
  have hql := block_lt s0
  have hbl0 := block_lt x0
  have hnb : W.heap.size ≠ mb := fun e => by have := block_lt hl; omega
  obtain ⟨T, hT⟩ : ∃ T, tblN (k, n, m, d) = T := ⟨_, rfl⟩
  rw [hT] at CM ⊢
  have HT := Lib.hid hT
  obtain ⟨L, hL⟩ : ∃ L, T.length = L := ⟨_, rfl⟩
  have HL := Lib.hid hL
  have HW0 := Lib.hid hW0
  have HB := Lib.hid hb0
  have X0 := Lib.hid x0
  have D0 : W0.cell? ⟨W.heap.size, 0, none⟩ = some (.int .i64 k) := block_cell x0 0
  have D1 : W0.cell? ⟨W.heap.size, 1, none⟩ = some (.int .i64 n) := block_cell x0 1
  have D2 : W0.cell? ⟨W.heap.size, 2, none⟩ = some (.int .i64 m) := block_cell x0 2
  have D3 : W0.cell? ⟨W.heap.size, 3, none⟩ = some (.int .i64 d) := block_cell x0 3
  have Q0 := q0
  have E0 := D0
  have E1 := D1
  have E2 := D2
  have E3 := D3
  rw [← hW0] at r1 q0 D0 D1 D2 D3
  clear h hl hk he hkn hkv hl0 x0 hW0 hb0 hT hL hx s0 hr
  go_enter Tryz.func107, Tryz.ntmps107
  go_wp2_with fail
  rw [HW0.out]
  clear r1 q0 D0 D1 D2 D3
  have hb : Below W0.heap.size W0 W0.drew := (Below.refl _ _).drew
  go_region_held3 (fun w' => w'.cell? ⟨q, 0, none⟩ = some (.map (some mb)) ∧ w'.cell? ⟨W.heap.size, 0, none⟩ = some (.int .i64 k) ∧ w'.cell? ⟨W.heap.size, 1, none⟩ = some (.int .i64 n) ∧ w'.cell? ⟨W.heap.size, 2, none⟩ = some (.int .i64 m) ∧ w'.cell? ⟨W.heap.size, 3, none⟩ = some (.int .i64 d))
    (first | exact ⟨Q0, E0, E1, E2, E3⟩ | exact ⟨(hb.cell (p := ⟨q, 0, none⟩) hql).trans Q0, (hb.cell (p := ⟨W.heap.size, 0, none⟩) hbl0).trans E0, (hb.cell (p := ⟨W.heap.size, 1, none⟩) hbl0).trans E1, (hb.cell (p := ⟨W.heap.size, 2, none⟩) hbl0).trans E2, (hb.cell (p := ⟨W.heap.size, 3, none⟩) hbl0).trans E3⟩ | exact ⟨(World.cell?_of_block (World.putObj_heap_other hne)).trans ((hb.cell (p := ⟨q, 0, none⟩) hql).trans Q0), (World.cell?_of_block (World.putObj_heap_other hnb)).trans ((hb.cell (p := ⟨W.heap.size, 0, none⟩) hbl0).trans E0), (World.cell?_of_block (World.putObj_heap_other hnb)).trans ((hb.cell (p := ⟨W.heap.size, 1, none⟩) hbl0).trans E1), (World.cell?_of_block (World.putObj_heap_other hnb)).trans ((hb.cell (p := ⟨W.heap.size, 2, none⟩) hbl0).trans E2), (World.cell?_of_block (World.putObj_heap_other hnb)).trans ((hb.cell (p := ⟨W.heap.size, 3, none⟩) hbl0).trans E3)⟩ | fail)
    ((first
      | (go_at_call 108; ((with_reducible refine (CM.out _).mono ?_); rintro e z1 ⟨a1, cap1, rfl, hr1, hcap1, hc⟩; have hb := chain hb hc; have r3 := HU.out z1 (.slice a1 T.length cap1) ((hb.block _ hmbl).trans HL0.out); simp only [nv, HL.out] at r3 hcap1 ⊢))
      | fail))
  have hbw := chain HB.out hb
  have hmz := (hb.block _ hmbl).trans HL0.out
  have hmade := made_more (q := q) (mb := mb) (a := a1) (cap := cap1) (x := (k, n, m, d)) (((hb.block _ hql)).trans HQ0.out) HH.out.nodup HXX.out HK.out (fun i y hy => by
    obtain ⟨a', cap', h1, h2, h3⟩ := HE.out i y hy
    exact ⟨a', cap', h1, h2.below hbw, h3⟩) hmz hne (by rw [HT.out]; exact hr1) (by rw [HT.out, HL.out]; exact hcap1)
  have hgr := grown_put hbw mb (mapObj (l ++ [(nv (k, n, m, d), .slice a1 L cap1)]))
  rw [HT.out, HL.out] at hmade
  have hr9 := hr1.put (o := mapObj (l ++ [(nv (k, n, m, d), .slice a1 L cap1)])) hmz
  have hlt : mb < z1.heap.size := block_lt hmz
  have r4 := HLK.out (z1.putObj mb (mapObj (l ++ [(nv (k, n, m, d), .slice a1 L cap1)]))) (.slice a1 L cap1) (World.putObj_heap_same hlt)
  have q9 : (z1.putObj mb (mapObj (l ++ [(nv (k, n, m, d), .slice a1 L cap1)]))).cell? ⟨q, 0, none⟩ = some (.map (some mb)) := (World.cell?_of_block (World.putObj_heap_other hne)).trans ((hb.cell (p := ⟨q, 0, none⟩) hql).trans Q0)
  have f0 : (z1.putObj mb (mapObj (l ++ [(nv (k, n, m, d), .slice a1 L cap1)]))).cell? ⟨W.heap.size, 0, none⟩ = some (.int .i64 k) := (World.cell?_of_block (World.putObj_heap_other hnb)).trans ((hb.cell (p := ⟨W.heap.size, 0, none⟩) hbl0).trans E0)
  have f1 : (z1.putObj mb (mapObj (l ++ [(nv (k, n, m, d), .slice a1 L cap1)]))).cell? ⟨W.heap.size, 1, none⟩ = some (.int .i64 n) := (World.cell?_of_block (World.putObj_heap_other hnb)).trans ((hb.cell (p := ⟨W.heap.size, 1, none⟩) hbl0).trans E1)
  have f2 : (z1.putObj mb (mapObj (l ++ [(nv (k, n, m, d), .slice a1 L cap1)]))).cell? ⟨W.heap.size, 2, none⟩ = some (.int .i64 m) := (World.cell?_of_block (World.putObj_heap_other hnb)).trans ((hb.cell (p := ⟨W.heap.size, 2, none⟩) hbl0).trans E2)
  have f3 : (z1.putObj mb (mapObj (l ++ [(nv (k, n, m, d), .slice a1 L cap1)]))).cell? ⟨W.heap.size, 3, none⟩ = some (.int .i64 d) := (World.cell?_of_block (World.putObj_heap_other hnb)).trans ((hb.cell (p := ⟨W.heap.size, 3, none⟩) hbl0).trans E3)
  obtain ⟨V3, hV3⟩ : ∃ V3, z1.putObj mb (mapObj (l ++ [(nv (k, n, m, d), .slice a1 L cap1)])) = V3 := ⟨_, rfl⟩
  rw [hV3] at hmade hgr hr9 r4 q9 f0 f1 f2 f3
  have hV3' : z1.putObj mb (mapObj (l ++ [(.agg #[.int .i64 k, .int .i64 n, .int .i64 m, .int .i64 d], .slice a1 L cap1)])) = V3 := hV3
  rw [hV3']
  simp only [nv] at r4
  have HMD := Lib.hid hmade
  have HGR := Lib.hid hgr
  have HR9 := Lib.hid hr9
  clear hV3 hV3' hmade hgr hr9 hmz hbw hb hc r3 Q0 E0 E1 E2 E3 hr1
  go_wp2_with fail
  go_ret
  exact ⟨a1, cap1, by simp [HL.out], HR9.out, HMD.out, HGR.out⟩
end Go.Proofs.YtlnlijeamflpiaaGreat

namespace Go.Proofs.YtlnlijeamflpiaaGreat
open Go.RowKit Sm
set_option linter.unusedVariables false
set_option linter.unusedSimpArgs false
set_option maxRecDepth 100000
theorem look_nil (q : Nat) (W : World) : (binOp BinOp.eql 135 (.func (.func 107) #[] #[.pointer (some ⟨q, 0, none⟩)]) Value.nilFunc).run Tryz.prog W = .ok (.bool false) W := by kernel_rfl
theorem grown_of_below {W w' : World} (hb : Below W.heap.size W w') (r : Option Nat) : W.grownBy w' r := ⟨hb.os, hb.tape, hb.output, hb.size, fun k hk _ => hb.block k hk⟩
theorem tell (q mb : Nat) (xs : List Nm) (k n m d : Int) (W : World) (h : Made q mb xs W) (hr : rightB (k, n, m, d) = true) :
    Calls Tryz.prog 107 #[.agg #[.int .i64 k, .int .i64 n, .int .i64 m, .int .i64 d], .pointer (some ⟨q, 0, none⟩)] W fun e w' => ∃ (a : Option Addr) (cap : Nat) (ys : List Nm), e = .returned (.slice a (tblN (k, n, m, d)).length cap) ∧ Made q mb ys w' ∧ (∀ y ∈ xs, y ∈ ys) ∧ (k, n, m, d) ∈ ys ∧ W.grownBy w' (some mb) := by
  by_cases hx : (k, n, m, d) ∈ xs
  · refine (tell_yes q mb xs (k, n, m, d) W h hx).mono ?_
    rintro e w' ⟨a, cap, rfl, _, _, hb⟩
    exact ⟨a, cap, xs, rfl, h.later hb, fun y hy => hy, hx, grown_of_below hb _⟩
  · refine (tell_no q mb xs k n m d W h hx hr).mono ?_
    rintro e w' ⟨a, cap, rfl, _, hm, hg⟩
    exact ⟨a, cap, _, rfl, hm, fun y hy => List.mem_append_left _ hy, List.mem_append_right _ (by simp), hg⟩
/-- The error's number of a plan, a direction and so many numbers. -/
def errX (t : Tr) (d n : Int) (N : Nat) : Int := if errN t d ≠ 0 then errN t d else if (N : Int) ≠ n then 5 else 0
theorem errX_zero {t : Tr} {d n : Int} {N : Nat} (h : errX t d n N = 0) : errN t d = 0 ∧ n = (N : Int) := by
  unfold errX at h
  by_cases h1 : errN t d = 0
  · rw [if_neg (fun e => e h1)] at h
    by_cases h2 : (N : Int) = n
    · exact ⟨h1, h2.symm⟩
    · rw [if_pos h2] at h; omega
  · rw [if_pos h1] at h; exact absurd h h1
set_option maxHeartbeats 8000000 in
theorem exec_check (t : Tr) (q mb : Nat) (k n : Int) (a : Option Addr) (m cap : Nat) (d : Int) (ax : Option Addr) (N cx : Nat) (W : World) (F : Nat → Prop) (hs : t.size ≤ 4194304) (hT : IsT W F k n a m cap t) (hM : Made q mb [] W) (hN : N ≤ 9223372036854775807) :
    Calls Tryz.prog 136 #[.agg #[.int .i64 k, .int .i64 n, .slice a m cap], .int .i64 d, .slice ax N cx, .func (.func 107) #[] #[.pointer (some ⟨q, 0, none⟩)]] W fun e w' => e = .returned (.int .i64 (errX t d n N)) ∧ W.grownBy w' (some mb) ∧ (errX t d n N = 0 → ∃ ys, Made q mb ys w' ∧ ∀ x ∈ t.names d, x ∈ ys) := by
  have CT : Hid (∀ V, Below W.heap.size W V → Calls Tryz.prog 152 #[.agg #[.int .i64 k, .int .i64 n, .slice a m cap], .int .i64 d] V (GivesTab (errN t d) (once (namesB t d)) V)) := fun V hV => need_Tables t k n a m cap d V F hs (hT.below hV)
  have hright : errN t d = 0 → ∀ x ∈ t.names d, rightB x = true := fun h => by
    obtain ⟨h1, h2, _⟩ := errN_zero h
    exact names_right t.size t d (Nat.le_refl _) (chk_zero.1 h2).2 h1
  have hfn := hT.fn
  obtain ⟨W1, hW1, hb1, x0⟩ := box_any W #[.int .i64 k, .int .i64 n, .slice a m cap] 48
  have D0 : W1.cell? ⟨W.heap.size, 0, none⟩ = some (.int .i64 k) := block_cell x0 0
  have D1 : W1.cell? ⟨W.heap.size, 1, none⟩ = some (.int .i64 n) := block_cell x0 1
  have D2 : W1.cell? ⟨W.heap.size, 2, none⟩ = some (.slice a m cap) := block_cell x0 2
  have HW1 := Lib.hid hW1
  have HB1 := Lib.hid hb1
  have HM1 := Lib.hid (hM.later hb1)
  have hmb : mb < W.heap.size := by obtain ⟨l, hl, _⟩ := hM.ents; exact block_lt hl
  have X0 := Lib.hid x0
  by_cases hC : errN t d = 0
  case neg =>
    have hX : errX t d n N = errN t d := by unfold errX; rw [if_pos hC]
    have t1 : (errN t d != 0) = true := bdiff hC
    have HX : Hid (errX t d n N = errN t d) := hX
    rw [hX]
    obtain ⟨C, hCC⟩ : ∃ C, errN t d = C := ⟨_, rfl⟩
    rw [hCC] at CT t1 hC ⊢
    have HCn := Lib.hid hC
    clear hright hT hM hs hX hCC hC hW1 hb1 x0
    go_enter Tryz.func136, Tryz.ntmps136
    go_wp2_with fail
    rw [HW1.out]
    refine (CT.out _ HB1.out).mono ?_; rintro e w2 ⟨a2, c2, rfl, ho2, hb2⟩
    have HG := Lib.hid (grown_of_below (chain HB1.out hb2) (some mb))
    obtain ⟨L, hL⟩ : ∃ L, (once (namesB t d)).length = L := ⟨_, rfl⟩
    rw [hL]
    clear ho2 hb2 D0 D1 D2 hL
    go_wp2_with fail
    go_ret
    exact ⟨rfl, HG.out, fun h => absurd h HCn.out⟩
  have hnm := (errN_zero hC).2.2
  have hright := hright hC
  rw [hC, hnm] at CT
  by_cases hN2 : (N : Int) = n
  case neg =>
    have hX : errX t d n N = 5 := by unfold errX; rw [if_neg (fun e => e hC), if_pos hN2]
    have t1 : ((N : Int) != n) = true := bdiff hN2
    rw [hX]
    clear hright hT hM hs hX hC hW1 hb1 x0 hnm hN2
    go_enter Tryz.func136, Tryz.ntmps136
    go_wp2_with fail
    rw [HW1.out]
    refine (CT.out _ HB1.out).mono ?_; rintro e w2 ⟨a2, c2, rfl, ho2, hb2⟩
    have HG := Lib.hid (grown_of_below (chain HB1.out hb2) (some mb))
    have d1 : w2.cell? ⟨W.heap.size, 1, none⟩ = some (.int .i64 n) := (hb2.cell (p := ⟨W.heap.size, 1, none⟩) (block_lt X0.out)).trans D1
    obtain ⟨L, hL⟩ : ∃ L, (once (t.names d)).length = L := ⟨_, rfl⟩
    rw [hL]
    clear ho2 hb2 D0 D1 D2 hL
    go_wp2_with fail
    go_ret
    exact ⟨rfl, HG.out, fun h => by omega⟩
  have hX : errX t d n N = 0 := by unfold errX; rw [if_neg (fun e => e hC), if_neg (fun e => e hN2)]
  rw [hX]
  subst hN2
  have t1 : ((N : Int) != (N : Int)) = false := bfalse' rfl
  have HRT : Hid (∀ x ∈ once (t.names d), rightB x = true) := fun x hx => hright x ((mem_once _ _).1 hx)
  have HMEM : Hid (∀ x, x ∈ once (t.names d) ↔ x ∈ t.names d) := fun x => mem_once _ x
  obtain ⟨ns, hns⟩ : ∃ ns, once (t.names d) = ns := ⟨_, rfl⟩
  rw [hns] at CT HRT HMEM
  clear hright hT hM hs hX hC hW1 hb1 x0 hnm hns
  go_enter Tryz.func136, Tryz.ntmps136
  go_wp2_with fail
  rw [HW1.out]
  refine (CT.out _ HB1.out).mono ?_; rintro e w2 ⟨a2, c2, rfl, ho2, hb2⟩
  have d1 : w2.cell? ⟨W.heap.size, 1, none⟩ = some (.int .i64 N) := (hb2.cell (p := ⟨W.heap.size, 1, none⟩) (block_lt X0.out)).trans D1
  have HO2 := Lib.hid ho2
  have HB2 := Lib.hid (chain HB1.out hb2)
  have HM2 := Lib.hid (HM1.out.later hb2)
  have hs1 := HB1.out.size
  obtain ⟨L, hL⟩ : ∃ L, ns.length = L := ⟨_, rfl⟩
  have HL := Lib.hid hL
  rw [hL] at HO2 ⊢
  have hLb : L ≤ 9223372036854775807 := by
    rcases HO2.out.2 with ⟨_, h0⟩ | ⟨g, cap, cur, hv, _, _, h1, h2, _⟩
    · omega
    · unfold maxLen at h2; omega
  have hln := look_nil q w2
  clear ho2 hb2 D0 D1 D2 hL
  go_wp2_with fail
  go_loopw [34] (fun iv wr => ∃ (j : Nat) (ys : List Nm), j ≤ L ∧ iv = .int .i64 j ∧ Made q mb ys wr ∧ Hid (∀ i, i < j → nmAt ns i ∈ ys) ∧ w2.grownBy wr (some mb)) (fun iv _ => L - (intOf iv).toNat)
  case atStart => exact ⟨0, [], Nat.zero_le _, rfl, HM2.out, fun i hi => absurd hi (by omega), World.grownBy.refl _ _⟩
  case round =>
    obtain ⟨j, ys, hj, rfl, hMd, HI, hgr⟩ := hrel
    by_cases hlt : j < L
    · have hok := HO2.out.kept hgr (.inr (fun e => by have := (HO2.out.lt mb e).1; omega))
      have hRN : RowN wr a2 ns := RowN.of_own hok HL.out
      obtain ⟨b, off, rfl, hbl, c0, c1, c2', c3⟩ := hRN.at j (by rw [HL.out]; exact hlt)
      have hmem : nmAt ns j ∈ ns := nmAt_mem (by rw [HL.out]; exact hlt)
      have hrx := HRT.out _ hmem
      obtain ⟨x, hx⟩ : ∃ x, nmAt ns j = x := ⟨_, rfl⟩
      have HXJ := Lib.hid hx
      rw [hx] at c0 c1 c2' c3 hrx
      obtain ⟨k', n', m', d'⟩ := x
      simp only at c0 c1 c2' c3
      have hro := right_ok hrx
      have hnok := hro.1
      have hroom := hro.2.2.2.1
      clear hro
      have CRo : Hid (∀ V, Calls Tryz.prog 153 #[.agg #[.int .i64 k', .int .i64 n', .int .i64 m', .int .i64 d']] V fun e w' => e = .returned (.int .i64 ((tblN (k', n', m', d')).length : Nat)) ∧ Below V.heap.size V w') := fun V => by rw [← hroom]; exact need_Room k' n' m' d' V hnok
      obtain ⟨Z, hZ, hbZ, z0⟩ := box_any wr #[.int .i64 k', .int .i64 n', .int .i64 m', .int .i64 d'] 112
      have HZ := Lib.hid hZ
      have Z0 := Lib.hid z0
      have hMZ := hMd.later hbZ
      have CTe : Hid (∀ V, Below Z.heap.size Z V → Calls Tryz.prog 107 #[.agg #[.int .i64 k', .int .i64 n', .int .i64 m', .int .i64 d'], .pointer (some ⟨q, 0, none⟩)] V fun e w' => ∃ (a : Option Addr) (cap : Nat) (zs : List Nm), e = .returned (.slice a (tblN (k', n', m', d')).length cap) ∧ Made q mb zs w' ∧ (∀ y ∈ ys, y ∈ zs) ∧ (k', n', m', d') ∈ zs ∧ V.grownBy w' (some mb)) := fun V hV => tell q mb ys k' n' m' d' V (hMZ.later hV) hrx
      obtain ⟨Ln, hLn⟩ : ∃ Ln, (tblN (k', n', m', d')).length = Ln := ⟨_, rfl⟩
      rw [hLn] at CRo CTe
      have hq : ((Ln : Int) != (Ln : Int)) = false := bfalse' rfl
      have g1 : (0 : Int) ≤ (j : Int) := by omega
      have g2 : (j : Int) < (L : Int) := by omega
      have E0 : Z.cell? ⟨wr.heap.size, 0, none⟩ = some (.int .i64 k') := block_cell z0 0
      have E1 : Z.cell? ⟨wr.heap.size, 1, none⟩ = some (.int .i64 n') := block_cell z0 1
      have E2 : Z.cell? ⟨wr.heap.size, 2, none⟩ = some (.int .i64 m') := block_cell z0 2
      have E3 : Z.cell? ⟨wr.heap.size, 3, none⟩ = some (.int .i64 d') := block_cell z0 3
      have lz := block_lt z0
      have hmw : mb < wr.heap.size := by obtain ⟨l, hl, _⟩ := hMd.ents; exact block_lt hl
      have hnz : (some wr.heap.size : Option Nat) ≠ some mb := fun e => by simp only [Option.some.injEq] at e; omega
      have HGZ := Lib.hid (hgr.trans (grown_of_below hbZ (some mb)))
      clear hok hRN hmem hrx hx hroom hnok hZ hbZ z0 hMZ hMd hgr hLn
      go_wp2_with fail
      rw [HZ.out]
      clear c0 c1 c2' c3
      have hb : Below Z.heap.size Z Z.drew := (Below.refl _ _).drew
      go_region_held3 (fun w' => w'.cell? ⟨wr.heap.size, 0, none⟩ = some (.int .i64 k') ∧ w'.cell? ⟨wr.heap.size, 1, none⟩ = some (.int .i64 n') ∧ w'.cell? ⟨wr.heap.size, 2, none⟩ = some (.int .i64 m') ∧ w'.cell? ⟨wr.heap.size, 3, none⟩ = some (.int .i64 d'))
        (first | exact ⟨E0, E1, E2, E3⟩ | exact ⟨hg1.cell (a := ⟨wr.heap.size, 0, none⟩) E0 hnz, hg1.cell (a := ⟨wr.heap.size, 1, none⟩) E1 hnz, hg1.cell (a := ⟨wr.heap.size, 2, none⟩) E2 hnz, hg1.cell (a := ⟨wr.heap.size, 3, none⟩) E3 hnz⟩ | exact ⟨(hb9.cell (p := ⟨wr.heap.size, 0, none⟩) l9).trans (hg1.cell (a := ⟨wr.heap.size, 0, none⟩) E0 hnz), (hb9.cell (p := ⟨wr.heap.size, 1, none⟩) l9).trans (hg1.cell (a := ⟨wr.heap.size, 1, none⟩) E1 hnz), (hb9.cell (p := ⟨wr.heap.size, 2, none⟩) l9).trans (hg1.cell (a := ⟨wr.heap.size, 2, none⟩) E2 hnz), (hb9.cell (p := ⟨wr.heap.size, 3, none⟩) l9).trans (hg1.cell (a := ⟨wr.heap.size, 3, none⟩) E3 hnz)⟩ | fail)
        ((first
          | (go_at_call 107; ((with_reducible refine (CTe.out _ hb).mono ?_); rintro e z1 ⟨a5, cap5, zs, rfl, hMz, hsub, hin, hg1⟩; have l9 : wr.heap.size < z1.heap.size := Nat.lt_of_lt_of_le lz hg1.size))
          | (go_at_call 153; ((with_reducible refine (CRo.out _).mono ?_); rintro e z2 ⟨rfl, hb9⟩))
          | fail))
      have HMD := Lib.hid (hMz.later hb9)
      have HGF := Lib.hid (HGZ.out.trans ((grown_of_drew hg1).trans (grown_of_below hb9 (some mb))))
      have HIJ : Hid (∀ i, i < j + 1 → nmAt ns i ∈ zs) := fun i hi => by
        by_cases h : i = j
        · rw [h, HXJ.out]; exact hin
        · exact hsub _ (HI.out i (by omega))
      clear E0 E1 E2 E3 hMz hsub hin hg1 hb9 hb
      go_wp2_with fail
      go_roundw
      case rel => exact ⟨j + 1, zs, by omega, by go_num, HMD.out, HIJ.out, HGF.out⟩
      case measure => simp [intOf]; omega
    · have hjL : j = L := by omega
      have hres : Hid (W.grownBy wr (some mb) ∧ ∃ ys, Made q mb ys wr ∧ ∀ x ∈ t.names d, x ∈ ys) := ⟨(grown_of_below HB2.out (some mb)).trans hgr, ys, hMd, fun x hx => by
        obtain ⟨i, hi, he⟩ := List.getElem_of_mem ((HMEM.out x).2 hx)
        have h9 := HI.out i (by have := HL.out; omega)
        rw [nmAt_get hi, he] at h9
        exact h9⟩
      clear hMd hgr
      go_wp2_with fail
      go_ret
      exact ⟨rfl, hres.out.1, fun _ => hres.out.2⟩
end Go.Proofs.YtlnlijeamflpiaaGreat

namespace Go.Proofs.YtlnlijeamflpiaaGreat
open Go.RowKit Sm
set_option linter.unusedVariables false
set_option linter.unusedSimpArgs false
set_option maxRecDepth 100000
theorem Row.kept {k : IntKind} {w w' : World} {a : Option Addr} {xs : List Int} {b : Nat} {l : List (Value × Value)} (h : Row k w a xs) (hb : w.heap[b]? = some (mapObj l)) (hg : w.grownBy w' (some b)) : Row k w' a xs := by
  refine ⟨h.len, h.wf, ?_⟩
  rcases h.lies with h1 | ⟨b', off, h1, h2⟩
  · exact Or.inl h1
  · refine Or.inr ⟨b', off, h1, fun i hi => ?_⟩
    have h3 := h2 i hi
    exact hg.cell h3 (fun e => by
      have e : b' = b := Option.some.inj e
      subst e
      simp [World.cell?, hb, mapObj] at h3)
theorem nil_nil (W : World) : (binOp BinOp.eql 1 Value.nilFunc Value.nilFunc).run Tryz.prog W = .ok (.bool true) W := by kernel_rfl
set_option maxHeartbeats 1000000 in
theorem exec_pause (w : World) : Calls Tryz.prog 137 #[] w fun e w' => e = .returned (.tuple #[]) ∧ Below w.heap.size w w' := by
  go_enter Tryz.func137, Tryz.ntmps137
  go_wp2_with fail
  go_end0
  exact ⟨rfl, Below.refl _ _⟩
theorem pause_enters : ∀ args w, (callFunc 137 args).run Tryz.prog w = .ok (.enter 137 args) w := enters_of Tryz.func137 (by kernel_rfl) rfl
/-- What the whole of it gives. -/
def GivesX (err : Int) (N : Nat) (ys : List Int) (e : Ending) (w' : World) : Prop :=
  (err = 0 → ∃ a cap, e = .returned (.tuple #[.slice a N cap, .int .i64 0]) ∧ Row .u64 w' a ys ∧ OkCap a N cap) ∧ (err ≠ 0 → e = .returned (.tuple #[.slice none 0 0, .int .i64 err]))
set_option maxHeartbeats 8000000 in
theorem exec_Run (t : Tr) (q mb : Nat) (k n : Int) (a : Option Addr) (m cap : Nat) (d : Int) (ax : Option Addr) (N cx : Nat) (xs : List Int) (W : World) (F : Nat → Prop) (hF : ∀ b, F b → b ≠ mb) (hs : t.size ≤ 4194304) (hT : IsT W F k n a m cap t) (hM : Made q mb [] W) (hx : Row .u64 W ax xs) (hxl : xs.length = N) (hN : N ≤ 16777216) :
    Calls Tryz.prog 109 #[.agg #[.int .i64 k, .int .i64 n, .slice a m cap], .int .i64 d, .slice ax N cx, .func (.func 107) #[] #[.pointer (some ⟨q, 0, none⟩)], Value.nilFunc] W fun e w' => GivesX (errX t d n N) N (dftL xs (dirRt N d)) e w' ∧ W.grownBy w' (some mb) := by
  obtain ⟨W1, hW1, hb1, x0⟩ := box_any W #[.int .i64 k, .int .i64 n, .slice a m cap] 48
  have D0 : W1.cell? ⟨W.heap.size, 0, none⟩ = some (.int .i64 k) := block_cell x0 0
  have D1 : W1.cell? ⟨W.heap.size, 1, none⟩ = some (.int .i64 n) := block_cell x0 1
  have D2 : W1.cell? ⟨W.heap.size, 2, none⟩ = some (.slice a m cap) := block_cell x0 2
  have CC : Hid (∀ V, Below W.heap.size W V → Calls Tryz.prog 136 #[.agg #[.int .i64 k, .int .i64 n, .slice a m cap], .int .i64 d, .slice ax N cx, .func (.func 107) #[] #[.pointer (some ⟨q, 0, none⟩)]] V fun e w' => e = .returned (.int .i64 (errX t d n N)) ∧ V.grownBy w' (some mb) ∧ (errX t d n N = 0 → ∃ ys, Made q mb ys w' ∧ ∀ x ∈ t.names d, x ∈ ys)) := fun V hV => exec_check t q mb k n a m cap d ax N cx V F hs (hT.below hV) (hM.later hV) (by omega)
  have hmb : mb < W.heap.size := by obtain ⟨l, hl, _⟩ := hM.ents; exact block_lt hl
  have HW1 := Lib.hid hW1
  have HB1 := Lib.hid hb1
  have X0 := Lib.hid x0
  have hs1 : W.heap.size < W1.heap.size := block_lt x0
  have HZ := Lib.hid (@errX_zero t d n N)
  have HT1 := Lib.hid (hT.below hb1)
  have HX1 := Lib.hid (hx.below hb1)
  have HM1 := Lib.hid (hM.later hb1)
  have HF := Lib.hid hF
  have hne : (some W.heap.size : Option Nat) ≠ some mb := fun e => by simp only [Option.some.injEq] at e; omega
  have HXL := Lib.hid hxl
  have hnn := nil_nil
  have hpe := pause_enters
  have CP := Lib.hid exec_pause
  obtain ⟨C, hC⟩ : ∃ C, errX t d n N = C := ⟨_, rfl⟩
  rw [hC] at CC HZ ⊢
  clear hT hM hx hF hW1 hb1 x0 hC hxl
  by_cases hc : C = 0
  case neg =>
    have t1 : (C != 0) = true := bdiff hc
    go_enter Tryz.func109, Tryz.ntmps109
    go_wp2_with fail
    rw [HW1.out]
    refine (CC.out _ HB1.out).mono ?_; rintro e w2 ⟨rfl, hg2, _⟩
    have HG := Lib.hid ((grown_of_below HB1.out (some mb)).trans hg2)
    have HC := Lib.hid hc
    clear hg2 D0 D1 D2 hc
    go_wp2_with fail
    go_ret2
    exact ⟨⟨fun h => absurd h HC.out, fun _ => rfl⟩, HG.out⟩
  subst hc
  obtain ⟨hE, hn⟩ := HZ.out rfl
  subst hn
  obtain ⟨hd, hck, _⟩ := errN_zero hE
  have HOK := Lib.hid (chk_zero.1 hck).2
  have HD := Lib.hid hd
  have hrd := Lib.hid (red_id (red_dft xs (dirRt N d)))
  have HRL : Hid ((dftL xs (dirRt N d)).length = N) := (dftL_len xs (dirRt N d)).trans HXL.out
  obtain ⟨Y, hY⟩ : ∃ Y, dftL xs (dirRt N d) = Y := ⟨_, rfl⟩
  have HY := Lib.hid hY
  rw [hY] at hrd HRL ⊢
  clear hE hck hd HZ hY
  go_enter Tryz.func109, Tryz.ntmps109
  go_wp2_with fail
  rw [HW1.out]
  refine (CC.out _ HB1.out).mono ?_; rintro e w2 ⟨rfl, hg2, hm2⟩
  obtain ⟨ys, hM2, hsub⟩ := hm2 (by first | rfl | trivial)
  have E0 := hg2.cell D0 hne
  have E1 := hg2.cell D1 hne
  have E2 := hg2.cell D2 hne
  obtain ⟨l1, hl1, _⟩ := HM1.out.ents
  have hX2 : Row .u64 w2 ax xs := HX1.out.kept hl1 hg2
  have hT2 := HT1.out.stay fun b hFb hlt => hg2.block b hlt (fun e => HF.out b hFb (Option.some.inj e))
  have hLK : LookAt q w2 ys := fun V hV x hx => tell_yes q mb ys x V (hM2.later hV) hx
  have CNd : Hid (∀ V, Below w2.heap.size w2 V → Calls Tryz.prog 138 #[.agg #[.func (.func 107) #[] #[.pointer (some ⟨q, 0, none⟩)]], .agg #[.int .i64 k, .int .i64 N, .slice a m cap], .int .i64 d, .slice ax N cx] V (GivesOwn .u64 23 (dftL xs (dirRt N d)) V)) := fun V hV =>
    exec_node t.size t q w2 ys k N a m cap d V F ax N cx xs (Nat.le_refl _) (hT2.below hV) HOK.out HD.out hLK hV hsub (hX2.below hV) HXL.out rfl
  have HG2 := Lib.hid ((grown_of_below HB1.out (some mb)).trans hg2)
  have hs2 : W.heap.size < w2.heap.size := Nat.lt_of_lt_of_le hs1 hg2.size
  rw [HY.out] at CNd
  clear hm2 hg2 hM2 hsub hX2 hT2 hLK hl1 D0 D1 D2
  go_wp2_with fail
  refine (CP.out _).mono ?_; rintro e w3 ⟨rfl, hb3⟩
  have F0 := (hb3.cell (p := ⟨W.heap.size, 0, none⟩) hs2).trans E0
  have F1 := (hb3.cell (p := ⟨W.heap.size, 1, none⟩) hs2).trans E1
  have F2 := (hb3.cell (p := ⟨W.heap.size, 2, none⟩) hs2).trans E2
  have HB3 := Lib.hid hb3
  clear E0 E1 E2 hb3
  go_wp2_with fail
  refine (CNd.out _ HB3.out).mono ?_; rintro e w4 ⟨a4, cap4, rfl, ho4, hf4, hl4, hb4⟩
  have hr4 := (GivesOwn.row ⟨a4, cap4, rfl, ho4, hf4, hl4, hb4⟩)
  obtain ⟨a5, cap5, h5, hr5, _⟩ := hr4
  simp only [Ending.returned.injEq, Value.slice.injEq] at h5
  obtain ⟨rfl, _, _⟩ := h5
  have HR4 := Lib.hid hr5
  have HB4 := Lib.hid (chain HB3.out hb4)
  clear ho4 hf4 hl4 hb4 hr5 F0 F1 F2
  go_wp2_with fail
  refine (CP.out _).mono ?_; rintro e w5 ⟨rfl, hb5⟩
  have HR5 := Lib.hid (HR4.out.below hb5)
  have HB5 := Lib.hid (chain HB4.out hb5)
  clear hb5
  go_wp2_with fail
  refine (vec_RedN2 a4 _ _ Y _ HR5.out rfl (by rw [HRL.out]; exact hN)).mono ?_; rintro e w6 ⟨a6, cap6, rfl, hr6, ho6, hb6⟩
  rw [hrd.out] at hr6
  simp only [List.length_map] at ho6 ⊢
  rw [HRL.out] at ho6 ⊢
  have HG := Lib.hid (HG2.out.trans (grown_of_below (chain HB5.out hb6) (some mb)))
  have HR6 := Lib.hid hr6
  clear hb6 hr6
  go_wp2_with fail
  go_ret2
  exact ⟨⟨fun _ => ⟨_, _, rfl, HR6.out, ho6⟩, fun h => absurd rfl h⟩, HG.out⟩
end Go.Proofs.YtlnlijeamflpiaaGreat

namespace Go.Proofs.YtlnlijeamflpiaaGreat
open Go.RowKit Sm
set_option linter.unusedVariables false
set_option linter.unusedSimpArgs false
set_option maxRecDepth 100000
theorem do_boxes (w : World) (os : Array Value) (T M : TypeId) : ∃ W0, ((w.alloc (.cells os T)).alloc (.map #[] 0)).alloc (.cells #[.map (some (w.heap.size + 1))] M) = W0 ∧ Below w.heap.size w W0 ∧
      W0.heap[w.heap.size]? = some (.cells os T (0, 0)) ∧ W0.heap[w.heap.size + 1]? = some (.map #[] 0) ∧ W0.heap[w.heap.size + 1 + 1]? = some (.cells #[.map (some (w.heap.size + 1))] M (0, 0)) :=
  ⟨_, rfl, (((Below.refl _ _).alloc (Nat.le_refl _) _).alloc (by simp) _).alloc (by simp <;> omega) _, block_old (by simp <;> omega) (block_old (by simp) (block_new rfl)), block_old (by simp) (block_new (by simp)), block_new (by simp)⟩
set_option maxHeartbeats 4000000 in
theorem exec_Do (t : Tr) (k n : Int) (a : Option Addr) (m cap : Nat) (d : Int) (ax : Option Addr) (N cx : Nat) (xs : List Int) (w : World) (F : Nat → Prop) (hs : t.size ≤ 4194304) (hT : IsT w F k n a m cap t) (hx : Row .u64 w ax xs) (hxl : xs.length = N) (hN : N ≤ 16777216) :
    Calls Tryz.prog 81 #[.agg #[.int .i64 k, .int .i64 n, .slice a m cap], .int .i64 d, .slice ax N cx] w fun e w' => GivesX (errX t d n N) N (dftL xs (dirRt N d)) e w' ∧ Below w.heap.size w w' := by
  have hmm := @run_makeMap Tryz.prog
  obtain ⟨W1, hW1, hb1, x0, x1, x2⟩ := do_boxes w #[.int .i64 k, .int .i64 n, .slice a m cap] 48 110
  have D0 : W1.cell? ⟨w.heap.size, 0, none⟩ = some (.int .i64 k) := block_cell x0 0
  have D1 : W1.cell? ⟨w.heap.size, 1, none⟩ = some (.int .i64 n) := block_cell x0 1
  have D2 : W1.cell? ⟨w.heap.size, 2, none⟩ = some (.slice a m cap) := block_cell x0 2
  have hMade : Made (w.heap.size + 1 + 1) (w.heap.size + 1) [] W1 := ⟨x2, ⟨[], x1, rfl, fun i x hx => by simp at hx⟩, List.nodup_nil⟩
  have CR : Hid (Calls Tryz.prog 109 #[.agg #[.int .i64 k, .int .i64 n, .slice a m cap], .int .i64 d, .slice ax N cx, .func (.func 107) #[] #[.pointer (some ⟨w.heap.size + 1 + 1, 0, none⟩)], Value.nilFunc] W1 fun e w' => GivesX (errX t d n N) N (dftL xs (dirRt N d)) e w' ∧ W1.grownBy w' (some (w.heap.size + 1))) :=
    exec_Run t (w.heap.size + 1 + 1) (w.heap.size + 1) k n a m cap d ax N cx xs W1 (Lt w.heap.size) (fun b hb e => by have : b < w.heap.size := hb; omega) hs (hT.lt.below hb1) hMade (hx.below hb1) hxl hN
  have HW1 := Lib.hid hW1
  have HB1 := Lib.hid hb1
  have hsz : w.heap.size ≤ W1.heap.size := hb1.size
  obtain ⟨Y, hY⟩ : ∃ Y, dftL xs (dirRt N d) = Y := ⟨_, rfl⟩
  obtain ⟨C, hC⟩ : ∃ C, errX t d n N = C := ⟨_, rfl⟩
  rw [hY, hC] at CR ⊢
  rw [← hW1] at D0 D1 D2
  clear hT hx hW1 hb1 x0 x1 x2 hMade hY hC hxl
  go_enter Tryz.func81, Tryz.ntmps81
  go_wp2_with fail
  rw [HW1.out]
  refine CR.out.mono ?_; rintro e w2 ⟨hg2, hgr⟩
  have HB : Hid (Below w.heap.size w w2) := HB1.out.grown hgr hsz (fun k hk => by have := Option.some.inj hk; omega)
  clear D0 D1 D2 hgr
  by_cases hc : C = 0
  · obtain ⟨a2, cap2, rfl, hr2, ho2⟩ := hg2.1 hc
    go_wp2_with fail
    go_ret2
    exact ⟨⟨fun _ => ⟨_, _, rfl, hr2, ho2⟩, fun h => absurd hc h⟩, HB.out⟩
  · obtain rfl := hg2.2 hc
    go_wp2_with fail
    go_ret2
    exact ⟨⟨fun h => absurd h hc, fun _ => rfl⟩, HB.out⟩
end Go.Proofs.YtlnlijeamflpiaaGreat

