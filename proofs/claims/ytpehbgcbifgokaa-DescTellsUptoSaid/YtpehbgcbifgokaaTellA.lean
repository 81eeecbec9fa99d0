/- The law of nodes of trees: the walk of the main way. -/
import Derived.Test.YtpehbgcbifgokaaTreeX
import Derived.Test.YtpehbgcbifgokaaTreeL
import Derived.Test.YtpehbgcbifgokaaRoundR
import Derived.Deep.RegionHeld3
import Derived.Laws.Closers25b
import Derived.Deep.Cut
namespace Go.Proofs.Ytpehbgcbifgokaa
open Go.RowKit Go.Shelf
set_option linter.unusedVariables false
set_option linter.unusedSimpArgs false
set_option maxRecDepth 20000
attribute [local go_sem] Oper.semAt_some

theorem box_any (W : World) (cs : Array Value) (T : TypeId) : ∃ W', W.alloc (.cells cs T) = W' ∧ Below W.heap.size W W' ∧ W'.heap[W.heap.size]? = some (.cells cs T (0, 0)) :=
  ⟨_, rfl, (Below.refl _ _).alloc (Nat.le_refl _) _, block_new rfl⟩
/-- A result: a new row of q trees that reads as ts; what is below them lies in F. -/
def GivesL (F : Nat → Prop) (q : Nat) (ts : List Tr) (w : World) (e : Ending) (w' : World) : Prop :=
  ∃ g cap xs, e = .returned (.slice (some ⟨g, 0, none⟩) q cap) ∧ w'.ownsRow w.heap.size 24 3 (.slice (some ⟨g, 0, none⟩) q cap) q xs ∧ CellsT w' F xs ts ∧ Below w.heap.size w w'

theorem seq_not_nil (f : Nat) (b : Nat) : ∀ u : World, (binOp .eql 29 (.func (.func f) #[] #[.pointer (some ⟨b, 0, none⟩)]) .nilFunc).run Try.prog u = .ok (.bool false) u := fun _ => by kernel_rfl

theorem nat_xor_one (x : Nat) : (x ^^^ 1) % 2 = 1 - x % 2 := by
  have h := Nat.testBit_xor x 1 0
  simp only [Nat.testBit_zero] at h
  rcases Nat.mod_two_eq_zero_or_one x with hx | hx <;> rcases Nat.mod_two_eq_zero_or_one (x ^^^ 1) with hy | hy <;> rw [hx, hy] at h <;> simp at h <;> omega
theorem wrap_two (y : Int) : IntKind.i64.wrap y = y % 2 ^ 64 - 2 ^ 64 ∨ IntKind.i64.wrap y = y % 2 ^ 64 := by
  unfold IntKind.wrap
  dsimp only
  split
  · exact .inl rfl
  · exact .inr rfl
theorem wrap_parity (n : Int) (x : Nat) (e : x % 2 = 1 - (n % 2).toNat) (h2 : IntKind.i64.wrap (x : Int) % 2 = n % 2) : False := by
  rcases wrap_two (x : Int) with h | h <;> rw [h] at h2 <;> omega
theorem xor_one_ne (n : Int) : bits .xor .i64 n 1 ≠ n := by
  intro h
  have h2 : bits .xor .i64 n 1 % 2 = n % 2 := by rw [h]
  have e : (BitVec.ofInt 64 n ^^^ BitVec.ofInt 64 1).toNat % 2 = 1 - (n % 2).toNat := by
    rw [BitVec.toNat_xor, show (BitVec.ofInt 64 1).toNat = 1 from by decide, nat_xor_one, BitVec.toNat_ofInt]
    omega
  exact wrap_parity n _ e h2
theorem xor_one_fits (n : Int) : fits .i64 (bits .xor .i64 n 1) := by
  have h1 := bits_lo_i64 .xor n 1
  have h2 := bits_hi_i64 .xor n 1
  exact fits_i64.2 (by omega)

namespace Tr
theorem nodes_size' (N : Nat) : ∀ t : Tr, t.size ≤ N → ∀ u ∈ t.nodes, u.size ≤ t.size := by
  induction N with
  | zero => intro t h; have := size_pos t; omega
  | succ N ih =>
    intro t h u hu
    rw [nodes_kids] at hu
    rcases List.mem_cons.1 hu with rfl | hu
    · exact Nat.le_refl _
    · have hk : ∀ ks : List Tr, sizeL ks ≤ N → u ∈ nodesL ks → u.size ≤ sizeL ks := by
        intro ks
        induction ks with
        | nil => intro _ h; simp [nodesL] at h
        | cons x r ih2 =>
          intro hs hu
          simp only [nodesL, List.mem_append] at hu
          simp only [sizeL] at hs ⊢
          rcases hu with hu | hu
          · have := ih x (by omega) u hu; omega
          · have := ih2 (by omega) hu; omega
      rw [size_kids t] at h ⊢
      have := hk t.kids (by omega) hu
      omega
theorem nodes_size (t : Tr) : ∀ u ∈ t.nodes, u.size ≤ t.size := nodes_size' _ t (Nat.le_refl _)
end Tr

/-- What holds ahead of a round. -/
def tellsI (p s : Nat) (V : World) (pre : List Value) (W : World) : Prop := (W.heap[p]? = some (.cells #[.int .i64 (pre.length : Nat)] 3 (0, 0)) ∧ Below p V W) ∧ pre.length ≤ s
/-- What holds behind a break. -/
def tellsX (p s : Nat) (V : World) (c : Code) (pre : List Value) (W : World) : Prop := (W.heap[p]? = some (.cells #[.int .i64 ((s : Int) + 1)] 3 (0, 0)) ∧ Below p V W) ∧ c = .exit 0
/-- What the body finds. -/
def tellsA (p s : Nat) (V : World) (ts : List Tr) (pre : List Value) (x : Value) (b : Nat) (W : World) : Prop :=
  ∃ k n a m c t, W.heap[b]? = some (.cells #[.int .i64 k, .int .i64 n, .slice a m c] 24 (0, 0)) ∧ IsT W (fun b => b ≠ p) k n a m c t ∧ ts[pre.length]? = some t ∧ tellsI p s V pre W
theorem tellsI_own (p s B : Nat) (V : World) (hp : p ≤ V.heap.size) (hB : p ≤ B) : OwnFrom B (tellsI p s V) :=
  OwnFrom.and (OwnFrom.and (block_from _ _ (fun pre : List Value => .cells #[.int .i64 (pre.length : Nat)] 3 (0, 0)) (fun _ => rfl)) (ownFrom_below hp hB)) (fun _ _ _ _ h _ _ => h)
theorem tellsX_own (p s B : Nat) (V : World) (hp : p ≤ V.heap.size) (hB : p ≤ B) (c : Code) : OwnFrom B (tellsX p s V c) :=
  OwnFrom.and (OwnFrom.and (block_from _ _ (fun pre : List Value => .cells #[.int .i64 ((s : Int) + 1)] 3 (0, 0)) (fun _ => rfl)) (ownFrom_below hp hB)) (fun _ _ _ _ h _ _ => h)
theorem tellsA_own (p s B : Nat) (V : World) (ts : List Tr) (hp : p ≤ V.heap.size) (hB : p ≤ B) : ∀ pre x b W l o o', tellsA p s V ts pre x b W → W.heap[l]? = some o → o.isCells = false → B ≤ l → tellsA p s V ts pre x b (W.putObj l o') := by
  rintro pre x b W l o o' ⟨k, n, a, m, c, t, h0, h1, h2, h3⟩ hl ho hB'
  refine ⟨k, n, a, m, c, t, ?_, h1.keeps (KeepsBut.putObj W l o o' hl ho), h2, (tellsI_own p s B V hp hB).putObj o' h3 hB' hl ho⟩
  exact (grownBy_keeps_cells (grownBy_putObj' W l o') (fun r e => by cases e; exact ⟨o, hl, ho⟩) h0 rfl).trans h0

set_option maxHeartbeats 4000000 in
theorem descTells_ok (td : Tr) (k n : Int) (a : Option Addr) (m c st : Nat) (w : World) (hs : td.size ≤ 80) (hst : st < 256) (hT : IsT w (Lt w.heap.size) k n a m c td) :
    Calls Try.prog 3 #[.agg #[.int .i64 k, .int .i64 n, .slice a m c], .int .u8 (st : Int)] w fun e w' => e = .returned (.bool true) ∧ Below w.heap.size w w' := by
  obtain ⟨q, hq⟩ : ∃ q, td.size = q := ⟨_, rfl⟩
  have hnl : td.nodes.length = q := by rw [Tr.nodes_len _ td (Nat.le_refl _), hq]
  have CA : Hid (∀ W, Below w.heap.size w W → Calls Try.prog 12 #[.agg #[.int .i64 k, .int .i64 n, .slice a m c]] W fun e w' => e = .returned (.bool false) ∧ Below W.heap.size W w') := fun W hb => by
    have := ref_Much td _ _ _ _ _ W w.heap.size (by omega) (hT.below hb) hb.size
    rwa [show decide (80 < td.size) = false by simp; omega] at this
  have CL : Hid (∀ W, Below w.heap.size w W → Calls Try.prog 14 #[.agg #[.int .i64 k, .int .i64 n, .slice a m c]] W (GivesL (Lt w.heap.size) q td.nodes W)) := fun W hb => by
    have := ref_List 4194304 w.heap.size (by omega) td k n a m c W (by omega) (hT.below hb) hb.size
    unfold GivesT at this
    rw [hnl] at this
    exact this
  have CN : Hid (∀ W, Below w.heap.size w W → Calls Try.prog 16 #[.agg #[.int .i64 k, .int .i64 n, .slice a m c]] W fun e w' => e = .returned (.int .i64 (q : Int)) ∧ Below W.heap.size W w') := fun W hb => by
    have := desc_Nodes td k n a m c W _ (by omega) (hT.below hb)
    rwa [hq] at this
  have CD : Hid (∀ W, Below w.heap.size w W → Calls Try.prog 17 #[.agg #[.int .i64 k, .int .i64 n, .slice a m c]] W fun e w' => e = .returned (.int .i64 (td.depth : Int)) ∧ Below W.heap.size W w') := fun W hb => desc_Depth 4194304 (by omega) td k n a m c W _ (by omega) (hT.below hb)
  have CRD : Hid (∀ W, Below w.heap.size w W → Calls Try.prog 18 #[.agg #[.int .i64 k, .int .i64 n, .slice a m c]] W fun e w' => e = .returned (.int .i64 (td.depth : Int)) ∧ Below W.heap.size W w') := fun W hb => ref13_Depth 4194304 (by omega) td k n a m c W _ (by omega) (hT.below hb)
  have CC : Hid (∀ W, Below w.heap.size w W → Calls Try.prog 20 #[.agg #[.int .i64 k, .int .i64 n, .slice a m c]] W (GivesS td W)) := fun W hb => desc_Clone 4194304 (by omega) td k n a m c W _ (by omega) (hT.below hb)
  have CSS : Hid (∀ (t : Tr) (W : World) k n a m c k' n' a' m' c' (F G : Nat → Prop), t.size ≤ 160 → IsT W F k n a m c t → IsT W G k' n' a' m' c' t → Calls Try.prog 19 #[.agg #[.int .i64 k, .int .i64 n, .slice a m c], .agg #[.int .i64 k', .int .i64 n', .slice a' m' c']] W fun e w' => e = .returned (.bool true) ∧ Below W.heap.size W w') := fun t W k n a m c k' n' a' m' c' F G hs h1 h2 => by
    have := ref13_Same t t k n a m c k' n' a' m' c' W F G (by omega) (by omega) h1 h2
    rwa [show decide (Tr.cmp t t = 0) = true by rw [Tr.cmp_self]; rfl] at this
  have CSN : Hid (∀ (t u : Tr) (W : World) k n a m c k' n' a' m' c' (F G : Nat → Prop), t ≠ u → t.size ≤ 160 → u.size ≤ 160 → IsT W F k n a m c t → IsT W G k' n' a' m' c' u → Calls Try.prog 19 #[.agg #[.int .i64 k, .int .i64 n, .slice a m c], .agg #[.int .i64 k', .int .i64 n', .slice a' m' c']] W fun e w' => e = .returned (.bool false) ∧ Below W.heap.size W w') := fun t u W k n a m c k' n' a' m' c' F G hne hs hu h1 h2 => by
    have := ref13_Same t u k n a m c k' n' a' m' c' W F G (by omega) (by omega) h1 h2
    rwa [show decide (Tr.cmp t u = 0) = false by simp; exact fun h => hne (Tr.eq_of_cmp h)] at this
  have HS := Lib.hid hs
  have HQ := Lib.hid hq
  have HNL := Lib.hid hnl
  have hq80 : q ≤ 80 := by omega
  have TT := Lib.hid hT
  clear hT hs hq hnl
  obtain ⟨w0, hW0, hb0, x0, x1, x2⟩ := tells_boxes w k n a m c (st : Int) 24 5 4
  have HB := Lib.hid hb0
  have HW0 := Lib.hid hW0
  have XD := Lib.hid x0
  have XS := Lib.hid x1
  have XR := Lib.hid x2
  clear hb0 hW0 x0 x1 x2
  have TT := Lib.hid (TT.out.below HB.out)
  refine (callsIn_wide (n := 8)).1 ?_
  refine callsIn_of_wp_marks Try.func3 rfl trivial ?_ rfl
  simp only [Try.ntmps3, List.size_toArray, List.length_cons, List.length_nil, Nat.reduceAdd, Nat.reduceSub, Array.replicate_succ, Array.replicate_zero, List.push_toArray, List.append_toArray, List.nil_append, List.cons_append]
  refine wpIn_wide.2 ?_
  go_wp2_with fail
  rw [HW0.out]
  refine (CA.out _ HB.out).mono ?_; rintro e v1 ⟨rfl, hb1⟩
  have XD := Lib.hid ((hb1.block _ (block_lt XD.out)).trans XD.out)
  have XS := Lib.hid ((hb1.block _ (block_lt XS.out)).trans XS.out)
  have XR := Lib.hid ((hb1.block _ (block_lt XR.out)).trans XR.out)
  have TT := Lib.hid (TT.out.below hb1)
  have HB := Lib.hid (chain HB.out hb1)
  clear hb1
  have D0 : v1.cell? ⟨w.heap.size, 0, none⟩ = some (.int .i64 k) := block_cell XD.out 0
  have D1 : v1.cell? ⟨w.heap.size, 1, none⟩ = some (.int .i64 n) := block_cell XD.out 1
  have D2 : v1.cell? ⟨w.heap.size, 2, none⟩ = some (.slice a m c) := block_cell XD.out 2
  go_wp2_with fail
  refine (CL.out _ HB.out).mono ?_; rintro e v2 ⟨g, cp, xs, rfl, ho, hcT, hb2⟩
  clear D0 D1 D2
  have XD := Lib.hid ((hb2.block _ (block_lt XD.out)).trans XD.out)
  have XS := Lib.hid ((hb2.block _ (block_lt XS.out)).trans XS.out)
  have XR := Lib.hid ((hb2.block _ (block_lt XR.out)).trans XR.out)
  have TT := Lib.hid (TT.out.below hb2)
  have HB := Lib.hid (chain HB.out hb2)
  have OW := Lib.hid ho
  have CT := Lib.hid hcT
  clear ho hcT
  clear hb2
  go_upto_region 4 with fail
  obtain ⟨y3, hW, hbx, hx⟩ := box_any v2 #[(.slice (some ⟨g, 0, none⟩) q cp)] 22
  rw [hW]
  clear hW
  have XD := Lib.hid ((hbx.block _ (block_lt XD.out)).trans XD.out)
  have XS := Lib.hid ((hbx.block _ (block_lt XS.out)).trans XS.out)
  have XR := Lib.hid ((hbx.block _ (block_lt XR.out)).trans XR.out)
  have TT := Lib.hid (TT.out.below hbx)
  have OW := Lib.hid (own_later3 OW.out hbx)
  have CT := Lib.hid (CT.out.later hbx)
  have HB := Lib.hid (chain HB.out hbx)
  have XL := Lib.hid hx
  clear hx hbx
  have D0 : y3.cell? ⟨w.heap.size, 0, none⟩ = some (.int .i64 k) := block_cell XD.out 0
  have D1 : y3.cell? ⟨w.heap.size, 1, none⟩ = some (.int .i64 n) := block_cell XD.out 1
  have D2 : y3.cell? ⟨w.heap.size, 2, none⟩ = some (.slice a m c) := block_cell XD.out 2
  go_wp2_with fail
  refine (callsIn_wide.1 (desc_All 8 (.bool true) _ _ _ _ _ _)).mono ?_; rintro e u0 ⟨rfl, rfl⟩
  clear D0 D1 D2
  obtain ⟨y4, hW, hbx, hx⟩ := box_any y3 #[(.int .i64 k), (.int .i64 n), (.slice a m c)] 24
  rw [hW]
  clear hW
  have XD := Lib.hid ((hbx.block _ (block_lt XD.out)).trans XD.out)
  have XS := Lib.hid ((hbx.block _ (block_lt XS.out)).trans XS.out)
  have XR := Lib.hid ((hbx.block _ (block_lt XR.out)).trans XR.out)
  have XL := Lib.hid ((hbx.block _ (block_lt XL.out)).trans XL.out)
  have TT := Lib.hid (TT.out.below hbx)
  have OW := Lib.hid (own_later3 OW.out hbx)
  have CT := Lib.hid (CT.out.later hbx)
  have HB := Lib.hid (chain HB.out hbx)
  have XF := Lib.hid hx
  clear hx hbx
  go_wp2_with fail
  have hnil := seq_not_nil 55 y3.heap.size
  have D0 : y4.cell? ⟨w.heap.size, 0, none⟩ = some (.int .i64 k) := block_cell XD.out 0
  have D1 : y4.cell? ⟨w.heap.size, 1, none⟩ = some (.int .i64 n) := block_cell XD.out 1
  have D2 : y4.cell? ⟨w.heap.size, 2, none⟩ = some (.slice a m c) := block_cell XD.out 2
  have L0 : y4.cell? ⟨v2.heap.size, 0, none⟩ = some (.slice (some ⟨g, 0, none⟩) q cp) := block_cell XL.out 0
  have lD := block_lt XD.out
  have lL := block_lt XL.out
  have hb : Below y4.heap.size y4 y4.drew := (Below.refl _ _).drew
  go_region_held3 (fun w' => (w'.cell? ⟨w.heap.size, 0, none⟩ = some (.int .i64 k) ∧ w'.cell? ⟨w.heap.size, 1, none⟩ = some (.int .i64 n) ∧ w'.cell? ⟨w.heap.size, 2, none⟩ = some (.slice a m c)) ∧ (w'.cell? ⟨v2.heap.size, 0, none⟩ = some (.slice (some ⟨g, 0, none⟩) q cp))) (first | exact ⟨⟨D0, D1, D2⟩, L0⟩ | exact ⟨⟨(hb.cell (p := ⟨w.heap.size, 0, none⟩) lD).trans D0, (hb.cell (p := ⟨w.heap.size, 1, none⟩) lD).trans D1, (hb.cell (p := ⟨w.heap.size, 2, none⟩) lD).trans D2⟩, (hb.cell (p := ⟨v2.heap.size, 0, none⟩) lL).trans L0⟩) ((first | (go_at_call 16; ((with_reducible refine (CN.out _ (chain HB.out hb)).mono ?_); rintro e z5 ⟨rfl, hc⟩; have hb := chain hb hc)) | (go_at_call 17; ((with_reducible refine (CD.out _ (chain HB.out hb)).mono ?_); rintro e z5 ⟨rfl, hc⟩; have hb := chain hb hc)) | (go_at_call 18; ((with_reducible refine (CRD.out _ (chain HB.out hb)).mono ?_); rintro e z5 ⟨rfl, hc⟩; have hb := chain hb hc))))
  clear lD lL
  clear D0 D1 D2 L0
  have XD := Lib.hid ((hb.block _ (block_lt XD.out)).trans XD.out)
  have XS := Lib.hid ((hb.block _ (block_lt XS.out)).trans XS.out)
  have XR := Lib.hid ((hb.block _ (block_lt XR.out)).trans XR.out)
  have XL := Lib.hid ((hb.block _ (block_lt XL.out)).trans XL.out)
  have XF := Lib.hid ((hb.block _ (block_lt XF.out)).trans XF.out)
  have TT := Lib.hid (TT.out.below hb)
  have OW := Lib.hid (own_later3 OW.out hb)
  have CT := Lib.hid (CT.out.later hb)
  have HB := Lib.hid (chain HB.out hb)
  clear hb
  clear hnil
  have QD := XD
  have QS := XS
  have QR := XR
  have QL := XL
  have QOW := OW
  have QCT := CT
  have QTT := TT
  have QB := HB
  go_upto_region 8 with fail
  obtain ⟨y6, hW, hbx, hx⟩ := box_any z5 #[(.int .i64 0)] 3
  rw [hW]
  clear hW
  have HNX := Lib.hid hbx
  have XD := Lib.hid ((hbx.block _ (block_lt XD.out)).trans XD.out)
  have XS := Lib.hid ((hbx.block _ (block_lt XS.out)).trans XS.out)
  have XR := Lib.hid ((hbx.block _ (block_lt XR.out)).trans XR.out)
  have XL := Lib.hid ((hbx.block _ (block_lt XL.out)).trans XL.out)
  have XF := Lib.hid ((hbx.block _ (block_lt XF.out)).trans XF.out)
  have TT := Lib.hid (TT.out.below hbx)
  have OW := Lib.hid (own_later3 OW.out hbx)
  have CT := Lib.hid (CT.out.later hbx)
  have HB := Lib.hid (chain HB.out hbx)
  have XN := Lib.hid hx
  clear hx hbx
  go_wp2_with fail
  refine (wpIn_wide (n := 8)).1 ?_
  have hlN := block_lt XN.out
  have hwV := QB.out.size
  have hseq : SeqTells Try.prog 7 55 #[.pointer (some ⟨y3.heap.size, 0, none⟩)] z5.heap.size q (NextT z5.heap.size td.nodes) y6 := by
    have := all1_tells 7 z5.heap.size y3.heap.size td k n a m c y6 (by have := HS.out; omega) (TT.out.mono fun b hb => by unfold Lt at hb; omega) hlN XF.out
    rwa [HQ.out] at this
  refine wp_range_tells2 (gf := 55) (lb := #[.pointer (some ⟨y3.heap.size, 0, none⟩)]) rfl (enters_of Try.func55 (by kernel_rfl) rfl) z5.heap.size q (NextT z5.heap.size td.nodes) (nextT_putObj _ _) hseq (tellsI z5.heap.size st z5) (tellsX z5.heap.size st z5) (fun t b => t.setIfInBounds 8 (.pointer (some ⟨b, 0, none⟩))) (tellsA z5.heap.size st z5 td.nodes) (tellsI_own _ _ _ _ (Nat.le_refl _) (Nat.le_of_lt hlN)) (tellsX_own _ _ _ _ (Nat.le_refl _) (Nat.le_of_lt hlN)) (tellsA_own _ _ _ _ _ (Nat.le_refl _) (Nat.le_of_lt hlN)) ⟨⟨XN.out, HNX.out⟩, Nat.zero_le _⟩ ?assign ?body ?done ?stop
  clear hseq
  case assign =>
    rintro l pre x W hI hlen ⟨k1, n1, a1, m1, c1, t, rfl, hT1, hi1⟩
    have HI := Lib.hid hI
    have HT1 := Lib.hid hT1
    have HI1 := Lib.hid hi1
    clear hI hT1 hi1
    gi_wp2
    have hbw : Below W.heap.size W (W.alloc (.cells #[.int .i64 k1, .int .i64 n1, .slice a1 m1 c1] 24)) := (Below.refl _ _).alloc (Nat.le_refl _) _
    exact ⟨W.heap.size, rfl, (KeepsOthers.alloc _ _).from _, KeepsBut.of_below hbw, k1, n1, a1, m1, c1, t, block_new rfl, HT1.out.keeps (KeepsBut.of_below hbw), HI1.out, (tellsI_own _ _ y6.heap.size _ (Nat.le_refl _) (Nat.le_of_lt hlN)).alloc _ HI.out⟩
  case body =>
    rintro l pre x b W hlen ⟨k1, n1, a1, m1, c1, t, hb1, hT1, hi1, ⟨hN1, hbel⟩, hls⟩
    obtain ⟨k2, n2, a2, m2, c2, e0, e1, e2, hT2⟩ := own_cells (own_later3 QOW.out hbel) (QCT.out.later hbel) HNL.out pre.length hlen
    have hkid : Tr.kid td.nodes pre.length = t := by simp [Tr.kid, hi1]
    rw [hkid] at hT2
    have hts : t.size ≤ 80 := Nat.le_trans (Tr.nodes_size td _ (List.mem_of_getElem? hi1)) HS.out
    obtain ⟨i, hi⟩ : ∃ i, pre.length = i := ⟨_, rfl⟩
    rw [hi] at hN1 e0 e1 e2 hls hlen
    have xl := (hbel.block _ (block_lt QL.out)).trans QL.out
    have xs := (hbel.block _ (block_lt QS.out)).trans QS.out
    have L0 : W.cell? ⟨v2.heap.size, 0, none⟩ = some (.slice (some ⟨g, 0, none⟩) q cp) := block_cell xl 0
    have N0 : W.cell? ⟨z5.heap.size, 0, none⟩ = some (.int .i64 (i : Int)) := block_cell hN1 0
    have c0 : W.cell? ⟨b, 0, none⟩ = some (.int .i64 k1) := block_cell hb1 0
    have c1' : W.cell? ⟨b, 1, none⟩ = some (.int .i64 n1) := block_cell hb1 1
    have c2' : W.cell? ⟨b, 2, none⟩ = some (.slice a1 m1 c1) := block_cell hb1 2
    have CK : Hid (∀ W', Below W.heap.size W W' → Calls Try.prog 19 #[.agg #[.int .i64 k1, .int .i64 n1, .slice a1 m1 c1], .agg #[.int .i64 k2, .int .i64 n2, .slice a2 m2 c2]] W' fun e w' => e = .returned (.bool true) ∧ Below W'.heap.size W' w') := fun W' hb => CSS.out t W' _ _ _ _ _ _ _ _ _ _ _ _ (by omega) (hT1.below hb) (hT2.below hb)
    have HBL := Lib.hid hbel
    have HI := Lib.hid hi
    have HN1 := Lib.hid hN1
    have XS1 := Lib.hid xs
    have g0 : (0 : Int) ≤ (i : Int) := by omega
    have g1 : (i : Int) < (q : Int) := by omega
    have g2 : decide ((q : Int) ≤ (i : Int)) = false := by simp; omega
    have g4 : decide (q ≤ i) = false := by simp; omega
    simp only [Nat.zero_add] at e0 e1 e2
    have g3 : decide ((i : Int) ≥ (q : Int)) = false := by simp; omega
    have hmx : Try.prog.follows .mixedOrders = true := by kernel_rfl
    clear hb1 hT1 hi1 hN1 hbel hT2 hkid hts xl xs hi
    gi_wp2
    refine still_tail_round 10 hmx (by kernel_rfl) (by kernel_rfl) (by rintro ⟨_, _, h⟩; exact h) ?_
    simp only [List.take_succ_cons, List.take_zero, List.drop_succ_cons, List.drop_zero]
    repeat still_step
    try refine wpStill_nil ?_
    go_wp2_with fail
    refine (CK.out _ (Below.refl _ _).drew).mono ?_; rintro e z ⟨rfl, hz⟩
    have hWz : Below W.heap.size W z := chain (Below.refl _ _).drew hz
    have HZ := Lib.hid hWz
    have hn2 := (hWz.block _ (block_lt HN1.out)).trans HN1.out
    have hs2 := (hWz.block _ (block_lt XS1.out)).trans XS1.out
    have n0 : z.cell? ⟨z5.heap.size, 0, none⟩ = some (.int .i64 (i : Int)) := block_cell hn2 0
    have nf : z.frozen? ⟨z5.heap.size, 0, none⟩ = false := block_free hn2 0
    have s0 : z.cell? ⟨w.heap.size + 1, 0, none⟩ = some (.int .u8 (st : Int)) := block_cell hs2 0
    have HN2 := Lib.hid hn2
    have hsne : w.heap.size + 1 ≠ z5.heap.size := by have := block_lt QS.out; omega
    have s1 : (z.setCell ⟨z5.heap.size, 0, none⟩ (.int .i64 ((i : Int) + 1))).cell? ⟨w.heap.size + 1, 0, none⟩ = some (.int .u8 (st : Int)) := (cell_other z z5.heap.size 0 (w.heap.size + 1) 0 _ (fun h => hsne h.1)).trans s0
    have hkf : KeepsFrom y6.heap.size W (z.setCell ⟨z5.heap.size, 0, none⟩ (.int .i64 ((i : Int) + 1))) := (⟨hWz.size, fun k o _ hk _ => (hWz.block k (block_lt hk)).trans hk⟩ : KeepsFrom y6.heap.size W z).trans ((KeepsOthers.setCell _ _ _).from _)
    have hkb : KeepsBut z5.heap.size W (z.setCell ⟨z5.heap.size, 0, none⟩ (.int .i64 ((i : Int) + 1))) := (KeepsBut.of_below hWz).trans (KeepsBut.setCell _ _ _)
    have hbz : Below z5.heap.size z5 (z.setCell ⟨z5.heap.size, 0, none⟩ (.int .i64 ((i : Int) + 1))) := (chain HBL.out hWz).setCell (p := ⟨z5.heap.size, 0, none⟩) (Nat.le_refl _) _
    have hbx := block_set hn2 0 (.int .i64 ((i : Int) + 1))
    have HKF := Lib.hid hkf
    have HKB := Lib.hid hkb
    have HBZ := Lib.hid hbz
    have HBX := Lib.hid hbx
    clear hkf hkb hbz hbx hz hWz hn2 hs2 L0 N0 c0 c1' c2' e0 e1 e2 g2 g3 g4
    have hlen1 : Hid ((pre ++ [x]).length = i + 1) := by unfold Hid; rw [List.length_append, HI.out]; rfl
    by_cases hbrk : i = st
    · subst hbrk
      have t1 : decide ((i : Int) + 1 > (i : Int)) = true := by simp; omega
      have t2 : ((i : Int) < (i : Int) + 1) = True := by simp; omega
      go_wp2_with fail
      gi_wp2
      exact ⟨HKF.out, ⟨HBX.out, HBZ.out⟩, rfl⟩
    · have t1 : decide ((i : Int) + 1 > (st : Int)) = false := by simp; omega
      have t2 : ¬ ((st : Int) < (i : Int) + 1) := by omega
      go_wp2_with fail
      gi_wp2
      exact ⟨HKF.out, HKB.out, ⟨by rw [hlen1.out]; exact HBX.out, HBZ.out⟩, by rw [hlen1.out]; omega⟩
  
  case done =>
    rintro D xs1 W hD hxl ⟨⟨hn, hbel⟩, hls⟩ hK
    rw [hxl] at hn hls
    have hKl := block_lt hK
    have hsW := hbel.size
    have XD := Lib.hid ((hbel.block _ (block_lt QD.out)).trans QD.out)
    have XS := Lib.hid ((hbel.block _ (block_lt QS.out)).trans QS.out)
    have XR := Lib.hid ((hbel.block _ (block_lt QR.out)).trans QR.out)
    have XL := Lib.hid ((hbel.block _ (block_lt QL.out)).trans QL.out)
    have TT := Lib.hid (QTT.out.below hbel)
    have HB := Lib.hid (chain QB.out hbel)
    have XN := Lib.hid hn
    have XK := Lib.hid hK
    clear hn hbel hK
    have N0 : W.cell? ⟨z5.heap.size, 0, none⟩ = some (.int .i64 (q : Int)) := block_cell XN.out 0
    have L0 : W.cell? ⟨v2.heap.size, 0, none⟩ = some (.slice (some ⟨g, 0, none⟩) q cp) := block_cell XL.out 0
    have S0 : W.cell? ⟨w.heap.size + 1, 0, none⟩ = some (.int .u8 (st : Int)) := block_cell XS.out 0
    have D0 : W.cell? ⟨w.heap.size, 0, none⟩ = some (.int .i64 k) := block_cell XD.out 0
    have D1 : W.cell? ⟨w.heap.size, 1, none⟩ = some (.int .i64 n) := block_cell XD.out 1
    have D2 : W.cell? ⟨w.heap.size, 2, none⟩ = some (.slice a m c) := block_cell XD.out 2
    go_wp2_with fail
    refine (CC.out _ HB.out).mono ?_; rintro e v7 ⟨k6, n6, a6, m6, c6, rfl, hS6, hb7⟩
    clear N0 L0 S0 D0 D1 D2
    have XD := Lib.hid ((hb7.block _ (block_lt XD.out)).trans XD.out)
    have XS := Lib.hid ((hb7.block _ (block_lt XS.out)).trans XS.out)
    have XR := Lib.hid ((hb7.block _ (block_lt XR.out)).trans XR.out)
    have XL := Lib.hid ((hb7.block _ (block_lt XL.out)).trans XL.out)
    have XN := Lib.hid ((hb7.block _ (block_lt XN.out)).trans XN.out)
    have XK := Lib.hid ((hb7.block _ (block_lt XK.out)).trans XK.out)
    have TT := Lib.hid (TT.out.below hb7)
    have HB := Lib.hid (chain HB.out hb7)
    have S6 := Lib.hid hS6
    have T6 := Lib.hid hS6.tree
    obtain rfl : m = m6 := by rw [hS6.em, TT.out.em]
    clear hS6
    clear hb7
    go_upto_region 17 with fail
    obtain ⟨y8, hW, hbx, hx⟩ := box_any v7 #[(.int .i64 k6), (.int .i64 n6), (.slice a6 m c6)] 24
    rw [hW]
    clear hW
    have XD := Lib.hid ((hbx.block _ (block_lt XD.out)).trans XD.out)
    have XS := Lib.hid ((hbx.block _ (block_lt XS.out)).trans XS.out)
    have XR := Lib.hid ((hbx.block _ (block_lt XR.out)).trans XR.out)
    have XL := Lib.hid ((hbx.block _ (block_lt XL.out)).trans XL.out)
    have XN := Lib.hid ((hbx.block _ (block_lt XN.out)).trans XN.out)
    have XK := Lib.hid ((hbx.block _ (block_lt XK.out)).trans XK.out)
    have TT := Lib.hid (TT.out.below hbx)
    have T6 := Lib.hid (T6.out.below hbx)
    have S6 := Lib.hid (S6.out.later hbx)
    have HB := Lib.hid (chain HB.out hbx)
    have XC := Lib.hid hx
    clear hx hbx
    have C0 : y8.cell? ⟨v7.heap.size, 0, none⟩ = some (.int .i64 k6) := block_cell XC.out 0
    have C1 : y8.cell? ⟨v7.heap.size, 1, none⟩ = some (.int .i64 n6) := block_cell XC.out 1
    have C2 : y8.cell? ⟨v7.heap.size, 2, none⟩ = some (.slice a6 m c6) := block_cell XC.out 2
    have D0 : y8.cell? ⟨w.heap.size, 0, none⟩ = some (.int .i64 k) := block_cell XD.out 0
    have D1 : y8.cell? ⟨w.heap.size, 1, none⟩ = some (.int .i64 n) := block_cell XD.out 1
    have D2 : y8.cell? ⟨w.heap.size, 2, none⟩ = some (.slice a m c) := block_cell XD.out 2
    go_wp2_with fail
    refine (CSS.out td _ _ _ _ _ _ _ _ _ _ _ _ _ (by have := HS.out; omega) T6.out TT.out).mono ?_; rintro e v9 ⟨rfl, hb9⟩
    clear C0 C1 C2 D0 D1 D2
    have XD := Lib.hid ((hb9.block _ (block_lt XD.out)).trans XD.out)
    have XS := Lib.hid ((hb9.block _ (block_lt XS.out)).trans XS.out)
    have XR := Lib.hid ((hb9.block _ (block_lt XR.out)).trans XR.out)
    have XL := Lib.hid ((hb9.block _ (block_lt XL.out)).trans XL.out)
    have XN := Lib.hid ((hb9.block _ (block_lt XN.out)).trans XN.out)
    have XK := Lib.hid ((hb9.block _ (block_lt XK.out)).trans XK.out)
    have XC := Lib.hid ((hb9.block _ (block_lt XC.out)).trans XC.out)
    have TT := Lib.hid (TT.out.below hb9)
    have T6 := Lib.hid (T6.out.below hb9)
    have S6 := Lib.hid (S6.out.later hb9)
    have HB := Lib.hid (chain HB.out hb9)
    clear hb9
    have D0 : v9.cell? ⟨w.heap.size, 0, none⟩ = some (.int .i64 k) := block_cell XD.out 0
    have D1 : v9.cell? ⟨w.heap.size, 1, none⟩ = some (.int .i64 n) := block_cell XD.out 1
    have D2 : v9.cell? ⟨w.heap.size, 2, none⟩ = some (.slice a m c) := block_cell XD.out 2
    by_cases hm : m = 0
    · skip
      have t9 : decide ((m : Int) > 0) = false := by simp; omega
      have t8 : ¬ ((0 : Int) < (m : Int)) := by omega
      have t7 : ¬ (0 < m) := by omega
      go_wp2_with fail
      refine (live13 _).mono ?_; rintro e v10 ⟨rfl, hb10⟩
      clear D0 D1 D2
      have XD := Lib.hid ((hb10.block _ (block_lt XD.out)).trans XD.out)
      have XS := Lib.hid ((hb10.block _ (block_lt XS.out)).trans XS.out)
      have XR := Lib.hid ((hb10.block _ (block_lt XR.out)).trans XR.out)
      have XL := Lib.hid ((hb10.block _ (block_lt XL.out)).trans XL.out)
      have XN := Lib.hid ((hb10.block _ (block_lt XN.out)).trans XN.out)
      have XK := Lib.hid ((hb10.block _ (block_lt XK.out)).trans XK.out)
      have XC := Lib.hid ((hb10.block _ (block_lt XC.out)).trans XC.out)
      have TT := Lib.hid (TT.out.below hb10)
      have T6 := Lib.hid (T6.out.below hb10)
      have S6 := Lib.hid (S6.out.later hb10)
      have HB := Lib.hid (chain HB.out hb10)
      clear hb10
      have r0 : v10.cell? ⟨w.heap.size + 1 + 1, 0, none⟩ = some (.bool false) := block_cell XR.out 0
      have rf : v10.frozen? ⟨w.heap.size + 1 + 1, 0, none⟩ = false := block_free XR.out 0
      have hw3 := World.cell?_setCell_same v10 ⟨w.heap.size + 1 + 1, 0, none⟩ (.bool true) r0
      have hbe := HB.out.setCell (p := ⟨w.heap.size + 1 + 1, 0, none⟩) (by show w.heap.size ≤ w.heap.size + 1 + 1; omega) (.bool true)
      have hke := (set_far v10 ⟨w.heap.size + 1 + 1, 0, none⟩ (.bool true) D (by have := block_lt QR.out; show D ≠ w.heap.size + 1 + 1; omega)).trans XK.out
      have HKE := Lib.hid hke
      have HBE := Lib.hid hbe
      clear hke hbe
      have hne : D ≠ w.heap.size + 1 + 1 := by have := block_lt QR.out; omega
      have hcl : ((v10.setCell ⟨w.heap.size + 1 + 1, 0, none⟩ (.bool true)).putObj D (.deferred none)).cell? ⟨w.heap.size + 1 + 1, 0, none⟩ = some (.bool true) := (World.cell?_of_block (World.putObj_heap_other (by first | exact hne | exact Ne.symm hne))).trans hw3
      go_wp2_with fail
      refine ⟨by simp, .inl ⟨_, _, rfl, run_takeDeferred HKE.out, ?_⟩⟩
      have hbe2 : Below w.heap.size w ((v10.setCell ⟨w.heap.size + 1 + 1, 0, none⟩ (.bool true)).putObj D (.deferred none)) := HBE.out.trans (belowK_b (w := w) (Nat.le_refl _) _ D _ _ (by have := QB.out.size; omega) HKE.out rfl rfl)
      clear HKE HBE
      refine ⟨.bool true, ?_, rfl, hbe2⟩
      simp [results, Try.results3, go_sem, hcl]
    · skip
      have t9 : decide ((m : Int) > 0) = true := by simp; omega
      have t8 : ((0 : Int) < (m : Int)) := by omega
      have t7 : (0 < m) := by omega
      go_wp2_with fail
      clear D0 D1 D2
      have C0 : v9.cell? ⟨v7.heap.size, 0, none⟩ = some (.int .i64 k6) := block_cell XC.out 0
      have C1 : v9.cell? ⟨v7.heap.size, 1, none⟩ = some (.int .i64 n6) := block_cell XC.out 1
      have C2 : v9.cell? ⟨v7.heap.size, 2, none⟩ = some (.slice a6 m c6) := block_cell XC.out 2
      obtain ⟨g6, n7, rfl, hF6, hfz, hg6, hf7, htch⟩ := touched (Z := fun _ => True) (v7.heap.size) S6.out (fun h => by have := h.2; omega) (fun _ _ => trivial) C0 C1 C2 t7
      go_still_tail 10, (by kernel_rfl)
      go_upto_region 22 with fail
      obtain ⟨T, hTne, hTs, hTT⟩ := htch (bits .xor .i64 n7 1) (xor_one_fits n7) (xor_one_ne n7)
      have hlo : W.heap.size ≤ g6 := hF6.1
      have hhi := hF6.2
      have hwz := QB.out.size
      have XD := Lib.hid ((set_far v9 ⟨g6, 1, none⟩ (.int .i64 (bits .xor .i64 n7 1)) _ (by have := block_lt QD.out; show _ ≠ g6; omega)).trans XD.out)
      have XR := Lib.hid ((set_far v9 ⟨g6, 1, none⟩ (.int .i64 (bits .xor .i64 n7 1)) _ (by have := block_lt QR.out; show _ ≠ g6; omega)).trans XR.out)
      have XK := Lib.hid ((set_far v9 ⟨g6, 1, none⟩ (.int .i64 (bits .xor .i64 n7 1)) _ (by show _ ≠ g6; omega)).trans XK.out)
      have XC := Lib.hid ((set_far v9 ⟨g6, 1, none⟩ (.int .i64 (bits .xor .i64 n7 1)) _ (by show _ ≠ g6; omega)).trans XC.out)
      have TT : Hid (IsT (v9.setCell ⟨g6, 1, none⟩ (.int .i64 (bits .xor .i64 n7 1))).drew (Lt w.heap.size) k n a m c td) := TT.out.stay fun b hb _ => set_far v9 ⟨g6, 1, none⟩ (.int .i64 (bits .xor .i64 n7 1)) b (by unfold Lt at hb; show b ≠ g6; omega)
      have TN : Hid (IsT (v9.setCell ⟨g6, 1, none⟩ (.int .i64 (bits .xor .i64 n7 1))).drew (fun _ => True) k6 n6 (some ⟨g6, 0, none⟩) m c6 T) := hTT.stay fun b _ _ => rfl
      have HB : Hid (Below w.heap.size w (v9.setCell ⟨g6, 1, none⟩ (.int .i64 (bits .xor .i64 n7 1))).drew) := (HB.out.setCell (p := ⟨g6, 1, none⟩) (by show _ ≤ g6; omega) _).drew
      clear hTT htch C0 C1 C2 hg6 hfz
      obtain ⟨y9, hy9⟩ : ∃ y9, (v9.setCell ⟨g6, 1, none⟩ (.int .i64 (bits .xor .i64 n7 1))).drew = y9 := ⟨_, rfl⟩
      have XD : Hid (y9.heap[(w.heap.size : Nat)]? = some (.cells #[.int .i64 k, .int .i64 n, .slice a m c] 24 (0, 0))) := by rw [← hy9]; exact XD.out
      have XR : Hid (y9.heap[(w.heap.size + 1 + 1 : Nat)]? = some (.cells #[.bool false] 4 (0, 0))) := by rw [← hy9]; exact XR.out
      have XC : Hid (y9.heap[(v7.heap.size : Nat)]? = some (.cells #[.int .i64 k6, .int .i64 n6, .slice (some ⟨g6, 0, none⟩) m c6] 24 (0, 0))) := by rw [← hy9]; exact XC.out
      have XK : Hid (y9.heap[D]? = some (.deferred (some []))) := by rw [← hy9]; exact XK.out
      rw [hy9] at TT TN HB ⊢
      clear hy9
      have C0 : y9.cell? ⟨v7.heap.size, 0, none⟩ = some (.int .i64 k6) := block_cell XC.out 0
      have C1 : y9.cell? ⟨v7.heap.size, 1, none⟩ = some (.int .i64 n6) := block_cell XC.out 1
      have C2 : y9.cell? ⟨v7.heap.size, 2, none⟩ = some (.slice (some ⟨g6, 0, none⟩) m c6) := block_cell XC.out 2
      have D0 : y9.cell? ⟨w.heap.size, 0, none⟩ = some (.int .i64 k) := block_cell XD.out 0
      have D1 : y9.cell? ⟨w.heap.size, 1, none⟩ = some (.int .i64 n) := block_cell XD.out 1
      have D2 : y9.cell? ⟨w.heap.size, 2, none⟩ = some (.slice a m c) := block_cell XD.out 2
      go_wp2_with fail
      refine (CSN.out T td _ _ _ _ _ _ _ _ _ _ _ _ _ hTne (by have := HS.out; omega) (by have := HS.out; omega) TN.out TT.out).mono ?_; rintro e v10 ⟨rfl, hb10⟩
      clear C0 C1 C2 D0 D1 D2
      have XD := Lib.hid ((hb10.block _ (block_lt XD.out)).trans XD.out)
      have XR := Lib.hid ((hb10.block _ (block_lt XR.out)).trans XR.out)
      have XK := Lib.hid ((hb10.block _ (block_lt XK.out)).trans XK.out)
      have XC := Lib.hid ((hb10.block _ (block_lt XC.out)).trans XC.out)
      have TT := Lib.hid (TT.out.below hb10)
      have TN := Lib.hid (TN.out.below hb10)
      have HB := Lib.hid (chain HB.out hb10)
      clear hb10
      go_wp2_with fail
      refine (live13 _).mono ?_; rintro e v11 ⟨rfl, hb11⟩
      have XD := Lib.hid ((hb11.block _ (block_lt XD.out)).trans XD.out)
      have XR := Lib.hid ((hb11.block _ (block_lt XR.out)).trans XR.out)
      have XK := Lib.hid ((hb11.block _ (block_lt XK.out)).trans XK.out)
      have XC := Lib.hid ((hb11.block _ (block_lt XC.out)).trans XC.out)
      have TT := Lib.hid (TT.out.below hb11)
      have TN := Lib.hid (TN.out.below hb11)
      have HB := Lib.hid (chain HB.out hb11)
      clear hb11
      have r0 : v11.cell? ⟨w.heap.size + 1 + 1, 0, none⟩ = some (.bool false) := block_cell XR.out 0
      have rf : v11.frozen? ⟨w.heap.size + 1 + 1, 0, none⟩ = false := block_free XR.out 0
      have hw3 := World.cell?_setCell_same v11 ⟨w.heap.size + 1 + 1, 0, none⟩ (.bool true) r0
      have hbe := HB.out.setCell (p := ⟨w.heap.size + 1 + 1, 0, none⟩) (by show w.heap.size ≤ w.heap.size + 1 + 1; omega) (.bool true)
      have hke := (set_far v11 ⟨w.heap.size + 1 + 1, 0, none⟩ (.bool true) D (by have := block_lt QR.out; show D ≠ w.heap.size + 1 + 1; omega)).trans XK.out
      have HKE := Lib.hid hke
      have HBE := Lib.hid hbe
      clear hke hbe
      have hne : D ≠ w.heap.size + 1 + 1 := by have := block_lt QR.out; omega
      have hcl : ((v11.setCell ⟨w.heap.size + 1 + 1, 0, none⟩ (.bool true)).putObj D (.deferred none)).cell? ⟨w.heap.size + 1 + 1, 0, none⟩ = some (.bool true) := (World.cell?_of_block (World.putObj_heap_other (by first | exact hne | exact Ne.symm hne))).trans hw3
      go_wp2_with fail
      refine ⟨by simp, .inl ⟨_, _, rfl, run_takeDeferred HKE.out, ?_⟩⟩
      have hbe2 : Below w.heap.size w ((v11.setCell ⟨w.heap.size + 1 + 1, 0, none⟩ (.bool true)).putObj D (.deferred none)) := HBE.out.trans (belowK_b (w := w) (Nat.le_refl _) _ D _ _ (by have := QB.out.size; omega) HKE.out rfl rfl)
      clear HKE HBE
      refine ⟨.bool true, ?_, rfl, hbe2⟩
      simp [results, Try.results3, go_sem, hcl]
  case stop =>
    rintro D cc pre W hD ⟨⟨hn, hbel⟩, rfl⟩ hK
    refine wpIn_wide.2 (wp_exit ?_)
    by_cases hsq : (st : Int) + 1 = (q : Int)
    · rw [hsq] at hn
      have hKl := block_lt hK
      have hsW := hbel.size
      have XD := Lib.hid ((hbel.block _ (block_lt QD.out)).trans QD.out)
      have XS := Lib.hid ((hbel.block _ (block_lt QS.out)).trans QS.out)
      have XR := Lib.hid ((hbel.block _ (block_lt QR.out)).trans QR.out)
      have XL := Lib.hid ((hbel.block _ (block_lt QL.out)).trans QL.out)
      have TT := Lib.hid (QTT.out.below hbel)
      have HB := Lib.hid (chain QB.out hbel)
      have XN := Lib.hid hn
      have XK := Lib.hid hK
      clear hn hbel hK
      have N0 : W.cell? ⟨z5.heap.size, 0, none⟩ = some (.int .i64 (q : Int)) := block_cell XN.out 0
      have L0 : W.cell? ⟨v2.heap.size, 0, none⟩ = some (.slice (some ⟨g, 0, none⟩) q cp) := block_cell XL.out 0
      have S0 : W.cell? ⟨w.heap.size + 1, 0, none⟩ = some (.int .u8 (st : Int)) := block_cell XS.out 0
      have D0 : W.cell? ⟨w.heap.size, 0, none⟩ = some (.int .i64 k) := block_cell XD.out 0
      have D1 : W.cell? ⟨w.heap.size, 1, none⟩ = some (.int .i64 n) := block_cell XD.out 1
      have D2 : W.cell? ⟨w.heap.size, 2, none⟩ = some (.slice a m c) := block_cell XD.out 2
      go_wp2_with fail
      refine (CC.out _ HB.out).mono ?_; rintro e v12 ⟨k6, n6, a6, m6, c6, rfl, hS6, hb12⟩
      clear N0 L0 S0 D0 D1 D2
      have XD := Lib.hid ((hb12.block _ (block_lt XD.out)).trans XD.out)
      have XS := Lib.hid ((hb12.block _ (block_lt XS.out)).trans XS.out)
      have XR := Lib.hid ((hb12.block _ (block_lt XR.out)).trans XR.out)
      have XL := Lib.hid ((hb12.block _ (block_lt XL.out)).trans XL.out)
      have XN := Lib.hid ((hb12.block _ (block_lt XN.out)).trans XN.out)
      have XK := Lib.hid ((hb12.block _ (block_lt XK.out)).trans XK.out)
      have TT := Lib.hid (TT.out.below hb12)
      have HB := Lib.hid (chain HB.out hb12)
      have S6 := Lib.hid hS6
      have T6 := Lib.hid hS6.tree
      obtain rfl : m = m6 := by rw [hS6.em, TT.out.em]
      clear hS6
      clear hb12
      go_upto_region 17 with fail
      obtain ⟨y13, hW, hbx, hx⟩ := box_any v12 #[(.int .i64 k6), (.int .i64 n6), (.slice a6 m c6)] 24
      rw [hW]
      clear hW
      have XD := Lib.hid ((hbx.block _ (block_lt XD.out)).trans XD.out)
      have XS := Lib.hid ((hbx.block _ (block_lt XS.out)).trans XS.out)
      have XR := Lib.hid ((hbx.block _ (block_lt XR.out)).trans XR.out)
      have XL := Lib.hid ((hbx.block _ (block_lt XL.out)).trans XL.out)
      have XN := Lib.hid ((hbx.block _ (block_lt XN.out)).trans XN.out)
      have XK := Lib.hid ((hbx.block _ (block_lt XK.out)).trans XK.out)
      have TT := Lib.hid (TT.out.below hbx)
      have T6 := Lib.hid (T6.out.below hbx)
      have S6 := Lib.hid (S6.out.later hbx)
      have HB := Lib.hid (chain HB.out hbx)
      have XC := Lib.hid hx
      clear hx hbx
      have C0 : y13.cell? ⟨v12.heap.size, 0, none⟩ = some (.int .i64 k6) := block_cell XC.out 0
      have C1 : y13.cell? ⟨v12.heap.size, 1, none⟩ = some (.int .i64 n6) := block_cell XC.out 1
      have C2 : y13.cell? ⟨v12.heap.size, 2, none⟩ = some (.slice a6 m c6) := block_cell XC.out 2
      have D0 : y13.cell? ⟨w.heap.size, 0, none⟩ = some (.int .i64 k) := block_cell XD.out 0
      have D1 : y13.cell? ⟨w.heap.size, 1, none⟩ = some (.int .i64 n) := block_cell XD.out 1
      have D2 : y13.cell? ⟨w.heap.size, 2, none⟩ = some (.slice a m c) := block_cell XD.out 2
      go_wp2_with fail
      refine (CSS.out td _ _ _ _ _ _ _ _ _ _ _ _ _ (by have := HS.out; omega) T6.out TT.out).mono ?_; rintro e v14 ⟨rfl, hb14⟩
      clear C0 C1 C2 D0 D1 D2
      have XD := Lib.hid ((hb14.block _ (block_lt XD.out)).trans XD.out)
      have XS := Lib.hid ((hb14.block _ (block_lt XS.out)).trans XS.out)
      have XR := Lib.hid ((hb14.block _ (block_lt XR.out)).trans XR.out)
      have XL := Lib.hid ((hb14.block _ (block_lt XL.out)).trans XL.out)
      have XN := Lib.hid ((hb14.block _ (block_lt XN.out)).trans XN.out)
      have XK := Lib.hid ((hb14.block _ (block_lt XK.out)).trans XK.out)
      have XC := Lib.hid ((hb14.block _ (block_lt XC.out)).trans XC.out)
      have TT := Lib.hid (TT.out.below hb14)
      have T6 := Lib.hid (T6.out.below hb14)
      have S6 := Lib.hid (S6.out.later hb14)
      have HB := Lib.hid (chain HB.out hb14)
      clear hb14
      have D0 : v14.cell? ⟨w.heap.size, 0, none⟩ = some (.int .i64 k) := block_cell XD.out 0
      have D1 : v14.cell? ⟨w.heap.size, 1, none⟩ = some (.int .i64 n) := block_cell XD.out 1
      have D2 : v14.cell? ⟨w.heap.size, 2, none⟩ = some (.slice a m c) := block_cell XD.out 2
      by_cases hm : m = 0
      · skip
        have t9 : decide ((m : Int) > 0) = false := by simp; omega
        have t8 : ¬ ((0 : Int) < (m : Int)) := by omega
        have t7 : ¬ (0 < m) := by omega
        go_wp2_with fail
        refine (live13 _).mono ?_; rintro e v15 ⟨rfl, hb15⟩
        clear D0 D1 D2
        have XD := Lib.hid ((hb15.block _ (block_lt XD.out)).trans XD.out)
        have XS := Lib.hid ((hb15.block _ (block_lt XS.out)).trans XS.out)
        have XR := Lib.hid ((hb15.block _ (block_lt XR.out)).trans XR.out)
        have XL := Lib.hid ((hb15.block _ (block_lt XL.out)).trans XL.out)
        have XN := Lib.hid ((hb15.block _ (block_lt XN.out)).trans XN.out)
        have XK := Lib.hid ((hb15.block _ (block_lt XK.out)).trans XK.out)
        have XC := Lib.hid ((hb15.block _ (block_lt XC.out)).trans XC.out)
        have TT := Lib.hid (TT.out.below hb15)
        have T6 := Lib.hid (T6.out.below hb15)
        have S6 := Lib.hid (S6.out.later hb15)
        have HB := Lib.hid (chain HB.out hb15)
        clear hb15
        have r0 : v15.cell? ⟨w.heap.size + 1 + 1, 0, none⟩ = some (.bool false) := block_cell XR.out 0
        have rf : v15.frozen? ⟨w.heap.size + 1 + 1, 0, none⟩ = false := block_free XR.out 0
        have hw3 := World.cell?_setCell_same v15 ⟨w.heap.size + 1 + 1, 0, none⟩ (.bool true) r0
        have hbe := HB.out.setCell (p := ⟨w.heap.size + 1 + 1, 0, none⟩) (by show w.heap.size ≤ w.heap.size + 1 + 1; omega) (.bool true)
        have hke := (set_far v15 ⟨w.heap.size + 1 + 1, 0, none⟩ (.bool true) D (by have := block_lt QR.out; show D ≠ w.heap.size + 1 + 1; omega)).trans XK.out
        have HKE := Lib.hid hke
        have HBE := Lib.hid hbe
        clear hke hbe
        have hne : D ≠ w.heap.size + 1 + 1 := by have := block_lt QR.out; omega
        have hcl : ((v15.setCell ⟨w.heap.size + 1 + 1, 0, none⟩ (.bool true)).putObj D (.deferred none)).cell? ⟨w.heap.size + 1 + 1, 0, none⟩ = some (.bool true) := (World.cell?_of_block (World.putObj_heap_other (by first | exact hne | exact Ne.symm hne))).trans hw3
        go_wp2_with fail
        refine ⟨by simp, .inl ⟨_, _, rfl, run_takeDeferred HKE.out, ?_⟩⟩
        have hbe2 : Below w.heap.size w ((v15.setCell ⟨w.heap.size + 1 + 1, 0, none⟩ (.bool true)).putObj D (.deferred none)) := HBE.out.trans (belowK_b (w := w) (Nat.le_refl _) _ D _ _ (by have := QB.out.size; omega) HKE.out rfl rfl)
        clear HKE HBE
        refine ⟨.bool true, ?_, rfl, hbe2⟩
        simp [results, Try.results3, go_sem, hcl]
      · skip
        have t9 : decide ((m : Int) > 0) = true := by simp; omega
        have t8 : ((0 : Int) < (m : Int)) := by omega
        have t7 : (0 < m) := by omega
        go_wp2_with fail
        clear D0 D1 D2
        have C0 : v14.cell? ⟨v12.heap.size, 0, none⟩ = some (.int .i64 k6) := block_cell XC.out 0
        have C1 : v14.cell? ⟨v12.heap.size, 1, none⟩ = some (.int .i64 n6) := block_cell XC.out 1
        have C2 : v14.cell? ⟨v12.heap.size, 2, none⟩ = some (.slice a6 m c6) := block_cell XC.out 2
        obtain ⟨g6, n7, rfl, hF6, hfz, hg6, hf7, htch⟩ := touched (Z := fun _ => True) (v12.heap.size) S6.out (fun h => by have := h.2; omega) (fun _ _ => trivial) C0 C1 C2 t7
        go_still_tail 10, (by kernel_rfl)
        go_upto_region 22 with fail
        obtain ⟨T, hTne, hTs, hTT⟩ := htch (bits .xor .i64 n7 1) (xor_one_fits n7) (xor_one_ne n7)
        have hlo : W.heap.size ≤ g6 := hF6.1
        have hhi := hF6.2
        have hwz := QB.out.size
        have XD := Lib.hid ((set_far v14 ⟨g6, 1, none⟩ (.int .i64 (bits .xor .i64 n7 1)) _ (by have := block_lt QD.out; show _ ≠ g6; omega)).trans XD.out)
        have XR := Lib.hid ((set_far v14 ⟨g6, 1, none⟩ (.int .i64 (bits .xor .i64 n7 1)) _ (by have := block_lt QR.out; show _ ≠ g6; omega)).trans XR.out)
        have XK := Lib.hid ((set_far v14 ⟨g6, 1, none⟩ (.int .i64 (bits .xor .i64 n7 1)) _ (by show _ ≠ g6; omega)).trans XK.out)
        have XC := Lib.hid ((set_far v14 ⟨g6, 1, none⟩ (.int .i64 (bits .xor .i64 n7 1)) _ (by show _ ≠ g6; omega)).trans XC.out)
        have TT : Hid (IsT (v14.setCell ⟨g6, 1, none⟩ (.int .i64 (bits .xor .i64 n7 1))).drew (Lt w.heap.size) k n a m c td) := TT.out.stay fun b hb _ => set_far v14 ⟨g6, 1, none⟩ (.int .i64 (bits .xor .i64 n7 1)) b (by unfold Lt at hb; show b ≠ g6; omega)
        have TN : Hid (IsT (v14.setCell ⟨g6, 1, none⟩ (.int .i64 (bits .xor .i64 n7 1))).drew (fun _ => True) k6 n6 (some ⟨g6, 0, none⟩) m c6 T) := hTT.stay fun b _ _ => rfl
        have HB : Hid (Below w.heap.size w (v14.setCell ⟨g6, 1, none⟩ (.int .i64 (bits .xor .i64 n7 1))).drew) := (HB.out.setCell (p := ⟨g6, 1, none⟩) (by show _ ≤ g6; omega) _).drew
        clear hTT htch C0 C1 C2 hg6 hfz
        obtain ⟨y9, hy9⟩ : ∃ y9, (v14.setCell ⟨g6, 1, none⟩ (.int .i64 (bits .xor .i64 n7 1))).drew = y9 := ⟨_, rfl⟩
        have XD : Hid (y9.heap[(w.heap.size : Nat)]? = some (.cells #[.int .i64 k, .int .i64 n, .slice a m c] 24 (0, 0))) := by rw [← hy9]; exact XD.out
        have XR : Hid (y9.heap[(w.heap.size + 1 + 1 : Nat)]? = some (.cells #[.bool false] 4 (0, 0))) := by rw [← hy9]; exact XR.out
        have XC : Hid (y9.heap[(v12.heap.size : Nat)]? = some (.cells #[.int .i64 k6, .int .i64 n6, .slice (some ⟨g6, 0, none⟩) m c6] 24 (0, 0))) := by rw [← hy9]; exact XC.out
        have XK : Hid (y9.heap[D]? = some (.deferred (some []))) := by rw [← hy9]; exact XK.out
        rw [hy9] at TT TN HB ⊢
        clear hy9
        have C0 : y9.cell? ⟨v12.heap.size, 0, none⟩ = some (.int .i64 k6) := block_cell XC.out 0
        have C1 : y9.cell? ⟨v12.heap.size, 1, none⟩ = some (.int .i64 n6) := block_cell XC.out 1
        have C2 : y9.cell? ⟨v12.heap.size, 2, none⟩ = some (.slice (some ⟨g6, 0, none⟩) m c6) := block_cell XC.out 2
        have D0 : y9.cell? ⟨w.heap.size, 0, none⟩ = some (.int .i64 k) := block_cell XD.out 0
        have D1 : y9.cell? ⟨w.heap.size, 1, none⟩ = some (.int .i64 n) := block_cell XD.out 1
        have D2 : y9.cell? ⟨w.heap.size, 2, none⟩ = some (.slice a m c) := block_cell XD.out 2
        go_wp2_with fail
        refine (CSN.out T td _ _ _ _ _ _ _ _ _ _ _ _ _ hTne (by have := HS.out; omega) (by have := HS.out; omega) TN.out TT.out).mono ?_; rintro e v15 ⟨rfl, hb15⟩
        clear C0 C1 C2 D0 D1 D2
        have XD := Lib.hid ((hb15.block _ (block_lt XD.out)).trans XD.out)
        have XR := Lib.hid ((hb15.block _ (block_lt XR.out)).trans XR.out)
        have XK := Lib.hid ((hb15.block _ (block_lt XK.out)).trans XK.out)
        have XC := Lib.hid ((hb15.block _ (block_lt XC.out)).trans XC.out)
        have TT := Lib.hid (TT.out.below hb15)
        have TN := Lib.hid (TN.out.below hb15)
        have HB := Lib.hid (chain HB.out hb15)
        clear hb15
        go_wp2_with fail
        refine (live13 _).mono ?_; rintro e v16 ⟨rfl, hb16⟩
        have XD := Lib.hid ((hb16.block _ (block_lt XD.out)).trans XD.out)
        have XR := Lib.hid ((hb16.block _ (block_lt XR.out)).trans XR.out)
        have XK := Lib.hid ((hb16.block _ (block_lt XK.out)).trans XK.out)
        have XC := Lib.hid ((hb16.block _ (block_lt XC.out)).trans XC.out)
        have TT := Lib.hid (TT.out.below hb16)
        have TN := Lib.hid (TN.out.below hb16)
        have HB := Lib.hid (chain HB.out hb16)
        clear hb16
        have r0 : v16.cell? ⟨w.heap.size + 1 + 1, 0, none⟩ = some (.bool false) := block_cell XR.out 0
        have rf : v16.frozen? ⟨w.heap.size + 1 + 1, 0, none⟩ = false := block_free XR.out 0
        have hw3 := World.cell?_setCell_same v16 ⟨w.heap.size + 1 + 1, 0, none⟩ (.bool true) r0
        have hbe := HB.out.setCell (p := ⟨w.heap.size + 1 + 1, 0, none⟩) (by show w.heap.size ≤ w.heap.size + 1 + 1; omega) (.bool true)
        have hke := (set_far v16 ⟨w.heap.size + 1 + 1, 0, none⟩ (.bool true) D (by have := block_lt QR.out; show D ≠ w.heap.size + 1 + 1; omega)).trans XK.out
        have HKE := Lib.hid hke
        have HBE := Lib.hid hbe
        clear hke hbe
        have hne : D ≠ w.heap.size + 1 + 1 := by have := block_lt QR.out; omega
        have hcl : ((v16.setCell ⟨w.heap.size + 1 + 1, 0, none⟩ (.bool true)).putObj D (.deferred none)).cell? ⟨w.heap.size + 1 + 1, 0, none⟩ = some (.bool true) := (World.cell?_of_block (World.putObj_heap_other (by first | exact hne | exact Ne.symm hne))).trans hw3
        go_wp2_with fail
        refine ⟨by simp, .inl ⟨_, _, rfl, run_takeDeferred HKE.out, ?_⟩⟩
        have hbe2 : Below w.heap.size w ((v16.setCell ⟨w.heap.size + 1 + 1, 0, none⟩ (.bool true)).putObj D (.deferred none)) := HBE.out.trans (belowK_b (w := w) (Nat.le_refl _) _ D _ _ (by have := QB.out.size; omega) HKE.out rfl rfl)
        clear HKE HBE
        refine ⟨.bool true, ?_, rfl, hbe2⟩
        simp [results, Try.results3, go_sem, hcl]
    · skip
      have hKl := block_lt hK
      have hsW := hbel.size
      have XD := Lib.hid ((hbel.block _ (block_lt QD.out)).trans QD.out)
      have XS := Lib.hid ((hbel.block _ (block_lt QS.out)).trans QS.out)
      have XR := Lib.hid ((hbel.block _ (block_lt QR.out)).trans QR.out)
      have XL := Lib.hid ((hbel.block _ (block_lt QL.out)).trans QL.out)
      have TT := Lib.hid (QTT.out.below hbel)
      have HB := Lib.hid (chain QB.out hbel)
      have XN := Lib.hid hn
      have XK := Lib.hid hK
      clear hn hbel hK
      have N0 : W.cell? ⟨z5.heap.size, 0, none⟩ = some (.int .i64 ((st : Int) + 1)) := block_cell XN.out 0
      have L0 : W.cell? ⟨v2.heap.size, 0, none⟩ = some (.slice (some ⟨g, 0, none⟩) q cp) := block_cell XL.out 0
      have S0 : W.cell? ⟨w.heap.size + 1, 0, none⟩ = some (.int .u8 (st : Int)) := block_cell XS.out 0
      have D0 : W.cell? ⟨w.heap.size, 0, none⟩ = some (.int .i64 k) := block_cell XD.out 0
      have D1 : W.cell? ⟨w.heap.size, 1, none⟩ = some (.int .i64 n) := block_cell XD.out 1
      have D2 : W.cell? ⟨w.heap.size, 2, none⟩ = some (.slice a m c) := block_cell XD.out 2
      have t5 : (((st : Int) + 1) == (q : Int)) = false := by simp; omega
      have t6 : (((st : Int) + 1) != (q : Int)) = true := by simp; omega
      go_wp2_with fail
      refine (CC.out _ HB.out).mono ?_; rintro e v17 ⟨k6, n6, a6, m6, c6, rfl, hS6, hb17⟩
      clear N0 L0 S0 D0 D1 D2
      have XD := Lib.hid ((hb17.block _ (block_lt XD.out)).trans XD.out)
      have XS := Lib.hid ((hb17.block _ (block_lt XS.out)).trans XS.out)
      have XR := Lib.hid ((hb17.block _ (block_lt XR.out)).trans XR.out)
      have XL := Lib.hid ((hb17.block _ (block_lt XL.out)).trans XL.out)
      have XN := Lib.hid ((hb17.block _ (block_lt XN.out)).trans XN.out)
      have XK := Lib.hid ((hb17.block _ (block_lt XK.out)).trans XK.out)
      have TT := Lib.hid (TT.out.below hb17)
      have HB := Lib.hid (chain HB.out hb17)
      have S6 := Lib.hid hS6
      have T6 := Lib.hid hS6.tree
      obtain rfl : m = m6 := by rw [hS6.em, TT.out.em]
      clear hS6
      clear hb17
      go_upto_region 17 with fail
      obtain ⟨y18, hW, hbx, hx⟩ := box_any v17 #[(.int .i64 k6), (.int .i64 n6), (.slice a6 m c6)] 24
      rw [hW]
      clear hW
      have XD := Lib.hid ((hbx.block _ (block_lt XD.out)).trans XD.out)
      have XS := Lib.hid ((hbx.block _ (block_lt XS.out)).trans XS.out)
      have XR := Lib.hid ((hbx.block _ (block_lt XR.out)).trans XR.out)
      have XL := Lib.hid ((hbx.block _ (block_lt XL.out)).trans XL.out)
      have XN := Lib.hid ((hbx.block _ (block_lt XN.out)).trans XN.out)
      have XK := Lib.hid ((hbx.block _ (block_lt XK.out)).trans XK.out)
      have TT := Lib.hid (TT.out.below hbx)
      have T6 := Lib.hid (T6.out.below hbx)
      have S6 := Lib.hid (S6.out.later hbx)
      have HB := Lib.hid (chain HB.out hbx)
      have XC := Lib.hid hx
      clear hx hbx
      have C0 : y18.cell? ⟨v17.heap.size, 0, none⟩ = some (.int .i64 k6) := block_cell XC.out 0
      have C1 : y18.cell? ⟨v17.heap.size, 1, none⟩ = some (.int .i64 n6) := block_cell XC.out 1
      have C2 : y18.cell? ⟨v17.heap.size, 2, none⟩ = some (.slice a6 m c6) := block_cell XC.out 2
      have D0 : y18.cell? ⟨w.heap.size, 0, none⟩ = some (.int .i64 k) := block_cell XD.out 0
      have D1 : y18.cell? ⟨w.heap.size, 1, none⟩ = some (.int .i64 n) := block_cell XD.out 1
      have D2 : y18.cell? ⟨w.heap.size, 2, none⟩ = some (.slice a m c) := block_cell XD.out 2
      go_wp2_with fail
      refine (CSS.out td _ _ _ _ _ _ _ _ _ _ _ _ _ (by have := HS.out; omega) T6.out TT.out).mono ?_; rintro e v19 ⟨rfl, hb19⟩
      clear C0 C1 C2 D0 D1 D2
      have XD := Lib.hid ((hb19.block _ (block_lt XD.out)).trans XD.out)
      have XS := Lib.hid ((hb19.block _ (block_lt XS.out)).trans XS.out)
      have XR := Lib.hid ((hb19.block _ (block_lt XR.out)).trans XR.out)
      have XL := Lib.hid ((hb19.block _ (block_lt XL.out)).trans XL.out)
      have XN := Lib.hid ((hb19.block _ (block_lt XN.out)).trans XN.out)
      have XK := Lib.hid ((hb19.block _ (block_lt XK.out)).trans XK.out)
      have XC := Lib.hid ((hb19.block _ (block_lt XC.out)).trans XC.out)
      have TT := Lib.hid (TT.out.below hb19)
      have T6 := Lib.hid (T6.out.below hb19)
      have S6 := Lib.hid (S6.out.later hb19)
      have HB := Lib.hid (chain HB.out hb19)
      clear hb19
      have D0 : v19.cell? ⟨w.heap.size, 0, none⟩ = some (.int .i64 k) := block_cell XD.out 0
      have D1 : v19.cell? ⟨w.heap.size, 1, none⟩ = some (.int .i64 n) := block_cell XD.out 1
      have D2 : v19.cell? ⟨w.heap.size, 2, none⟩ = some (.slice a m c) := block_cell XD.out 2
      by_cases hm : m = 0
      · skip
        have t9 : decide ((m : Int) > 0) = false := by simp; omega
        have t8 : ¬ ((0 : Int) < (m : Int)) := by omega
        have t7 : ¬ (0 < m) := by omega
        go_wp2_with fail
        refine (live13 _).mono ?_; rintro e v20 ⟨rfl, hb20⟩
        clear D0 D1 D2
        have XD := Lib.hid ((hb20.block _ (block_lt XD.out)).trans XD.out)
        have XS := Lib.hid ((hb20.block _ (block_lt XS.out)).trans XS.out)
        have XR := Lib.hid ((hb20.block _ (block_lt XR.out)).trans XR.out)
        have XL := Lib.hid ((hb20.block _ (block_lt XL.out)).trans XL.out)
        have XN := Lib.hid ((hb20.block _ (block_lt XN.out)).trans XN.out)
        have XK := Lib.hid ((hb20.block _ (block_lt XK.out)).trans XK.out)
        have XC := Lib.hid ((hb20.block _ (block_lt XC.out)).trans XC.out)
        have TT := Lib.hid (TT.out.below hb20)
        have T6 := Lib.hid (T6.out.below hb20)
        have S6 := Lib.hid (S6.out.later hb20)
        have HB := Lib.hid (chain HB.out hb20)
        clear hb20
        have r0 : v20.cell? ⟨w.heap.size + 1 + 1, 0, none⟩ = some (.bool false) := block_cell XR.out 0
        have rf : v20.frozen? ⟨w.heap.size + 1 + 1, 0, none⟩ = false := block_free XR.out 0
        have hw3 := World.cell?_setCell_same v20 ⟨w.heap.size + 1 + 1, 0, none⟩ (.bool true) r0
        have hbe := HB.out.setCell (p := ⟨w.heap.size + 1 + 1, 0, none⟩) (by show w.heap.size ≤ w.heap.size + 1 + 1; omega) (.bool true)
        have hke := (set_far v20 ⟨w.heap.size + 1 + 1, 0, none⟩ (.bool true) D (by have := block_lt QR.out; show D ≠ w.heap.size + 1 + 1; omega)).trans XK.out
        have HKE := Lib.hid hke
        have HBE := Lib.hid hbe
        clear hke hbe
        have hne : D ≠ w.heap.size + 1 + 1 := by have := block_lt QR.out; omega
        have hcl : ((v20.setCell ⟨w.heap.size + 1 + 1, 0, none⟩ (.bool true)).putObj D (.deferred none)).cell? ⟨w.heap.size + 1 + 1, 0, none⟩ = some (.bool true) := (World.cell?_of_block (World.putObj_heap_other (by first | exact hne | exact Ne.symm hne))).trans hw3
        go_wp2_with fail
        refine ⟨by simp, .inl ⟨_, _, rfl, run_takeDeferred HKE.out, ?_⟩⟩
        have hbe2 : Below w.heap.size w ((v20.setCell ⟨w.heap.size + 1 + 1, 0, none⟩ (.bool true)).putObj D (.deferred none)) := HBE.out.trans (belowK_b (w := w) (Nat.le_refl _) _ D _ _ (by have := QB.out.size; omega) HKE.out rfl rfl)
        clear HKE HBE
        refine ⟨.bool true, ?_, rfl, hbe2⟩
        simp [results, Try.results3, go_sem, hcl]
      · skip
        have t9 : decide ((m : Int) > 0) = true := by simp; omega
        have t8 : ((0 : Int) < (m : Int)) := by omega
        have t7 : (0 < m) := by omega
        go_wp2_with fail
        clear D0 D1 D2
        have C0 : v19.cell? ⟨v17.heap.size, 0, none⟩ = some (.int .i64 k6) := block_cell XC.out 0
        have C1 : v19.cell? ⟨v17.heap.size, 1, none⟩ = some (.int .i64 n6) := block_cell XC.out 1
        have C2 : v19.cell? ⟨v17.heap.size, 2, none⟩ = some (.slice a6 m c6) := block_cell XC.out 2
        obtain ⟨g6, n7, rfl, hF6, hfz, hg6, hf7, htch⟩ := touched (Z := fun _ => True) (v17.heap.size) S6.out (fun h => by have := h.2; omega) (fun _ _ => trivial) C0 C1 C2 t7
        go_still_tail 10, (by kernel_rfl)
        go_upto_region 22 with fail
        obtain ⟨T, hTne, hTs, hTT⟩ := htch (bits .xor .i64 n7 1) (xor_one_fits n7) (xor_one_ne n7)
        have hlo : W.heap.size ≤ g6 := hF6.1
        have hhi := hF6.2
        have hwz := QB.out.size
        have XD := Lib.hid ((set_far v19 ⟨g6, 1, none⟩ (.int .i64 (bits .xor .i64 n7 1)) _ (by have := block_lt QD.out; show _ ≠ g6; omega)).trans XD.out)
        have XR := Lib.hid ((set_far v19 ⟨g6, 1, none⟩ (.int .i64 (bits .xor .i64 n7 1)) _ (by have := block_lt QR.out; show _ ≠ g6; omega)).trans XR.out)
        have XK := Lib.hid ((set_far v19 ⟨g6, 1, none⟩ (.int .i64 (bits .xor .i64 n7 1)) _ (by show _ ≠ g6; omega)).trans XK.out)
        have XC := Lib.hid ((set_far v19 ⟨g6, 1, none⟩ (.int .i64 (bits .xor .i64 n7 1)) _ (by show _ ≠ g6; omega)).trans XC.out)
        have TT : Hid (IsT (v19.setCell ⟨g6, 1, none⟩ (.int .i64 (bits .xor .i64 n7 1))).drew (Lt w.heap.size) k n a m c td) := TT.out.stay fun b hb _ => set_far v19 ⟨g6, 1, none⟩ (.int .i64 (bits .xor .i64 n7 1)) b (by unfold Lt at hb; show b ≠ g6; omega)
        have TN : Hid (IsT (v19.setCell ⟨g6, 1, none⟩ (.int .i64 (bits .xor .i64 n7 1))).drew (fun _ => True) k6 n6 (some ⟨g6, 0, none⟩) m c6 T) := hTT.stay fun b _ _ => rfl
        have HB : Hid (Below w.heap.size w (v19.setCell ⟨g6, 1, none⟩ (.int .i64 (bits .xor .i64 n7 1))).drew) := (HB.out.setCell (p := ⟨g6, 1, none⟩) (by show _ ≤ g6; omega) _).drew
        clear hTT htch C0 C1 C2 hg6 hfz
        obtain ⟨y9, hy9⟩ : ∃ y9, (v19.setCell ⟨g6, 1, none⟩ (.int .i64 (bits .xor .i64 n7 1))).drew = y9 := ⟨_, rfl⟩
        have XD : Hid (y9.heap[(w.heap.size : Nat)]? = some (.cells #[.int .i64 k, .int .i64 n, .slice a m c] 24 (0, 0))) := by rw [← hy9]; exact XD.out
        have XR : Hid (y9.heap[(w.heap.size + 1 + 1 : Nat)]? = some (.cells #[.bool false] 4 (0, 0))) := by rw [← hy9]; exact XR.out
        have XC : Hid (y9.heap[(v17.heap.size : Nat)]? = some (.cells #[.int .i64 k6, .int .i64 n6, .slice (some ⟨g6, 0, none⟩) m c6] 24 (0, 0))) := by rw [← hy9]; exact XC.out
        have XK : Hid (y9.heap[D]? = some (.deferred (some []))) := by rw [← hy9]; exact XK.out
        rw [hy9] at TT TN HB ⊢
        clear hy9
        have C0 : y9.cell? ⟨v17.heap.size, 0, none⟩ = some (.int .i64 k6) := block_cell XC.out 0
        have C1 : y9.cell? ⟨v17.heap.size, 1, none⟩ = some (.int .i64 n6) := block_cell XC.out 1
        have C2 : y9.cell? ⟨v17.heap.size, 2, none⟩ = some (.slice (some ⟨g6, 0, none⟩) m c6) := block_cell XC.out 2
        have D0 : y9.cell? ⟨w.heap.size, 0, none⟩ = some (.int .i64 k) := block_cell XD.out 0
        have D1 : y9.cell? ⟨w.heap.size, 1, none⟩ = some (.int .i64 n) := block_cell XD.out 1
        have D2 : y9.cell? ⟨w.heap.size, 2, none⟩ = some (.slice a m c) := block_cell XD.out 2
        go_wp2_with fail
        refine (CSN.out T td _ _ _ _ _ _ _ _ _ _ _ _ _ hTne (by have := HS.out; omega) (by have := HS.out; omega) TN.out TT.out).mono ?_; rintro e v20 ⟨rfl, hb20⟩
        clear C0 C1 C2 D0 D1 D2
        have XD := Lib.hid ((hb20.block _ (block_lt XD.out)).trans XD.out)
        have XR := Lib.hid ((hb20.block _ (block_lt XR.out)).trans XR.out)
        have XK := Lib.hid ((hb20.block _ (block_lt XK.out)).trans XK.out)
        have XC := Lib.hid ((hb20.block _ (block_lt XC.out)).trans XC.out)
        have TT := Lib.hid (TT.out.below hb20)
        have TN := Lib.hid (TN.out.below hb20)
        have HB := Lib.hid (chain HB.out hb20)
        clear hb20
        go_wp2_with fail
        refine (live13 _).mono ?_; rintro e v21 ⟨rfl, hb21⟩
        have XD := Lib.hid ((hb21.block _ (block_lt XD.out)).trans XD.out)
        have XR := Lib.hid ((hb21.block _ (block_lt XR.out)).trans XR.out)
        have XK := Lib.hid ((hb21.block _ (block_lt XK.out)).trans XK.out)
        have XC := Lib.hid ((hb21.block _ (block_lt XC.out)).trans XC.out)
        have TT := Lib.hid (TT.out.below hb21)
        have TN := Lib.hid (TN.out.below hb21)
        have HB := Lib.hid (chain HB.out hb21)
        clear hb21
        have r0 : v21.cell? ⟨w.heap.size + 1 + 1, 0, none⟩ = some (.bool false) := block_cell XR.out 0
        have rf : v21.frozen? ⟨w.heap.size + 1 + 1, 0, none⟩ = false := block_free XR.out 0
        have hw3 := World.cell?_setCell_same v21 ⟨w.heap.size + 1 + 1, 0, none⟩ (.bool true) r0
        have hbe := HB.out.setCell (p := ⟨w.heap.size + 1 + 1, 0, none⟩) (by show w.heap.size ≤ w.heap.size + 1 + 1; omega) (.bool true)
        have hke := (set_far v21 ⟨w.heap.size + 1 + 1, 0, none⟩ (.bool true) D (by have := block_lt QR.out; show D ≠ w.heap.size + 1 + 1; omega)).trans XK.out
        have HKE := Lib.hid hke
        have HBE := Lib.hid hbe
        clear hke hbe
        have hne : D ≠ w.heap.size + 1 + 1 := by have := block_lt QR.out; omega
        have hcl : ((v21.setCell ⟨w.heap.size + 1 + 1, 0, none⟩ (.bool true)).putObj D (.deferred none)).cell? ⟨w.heap.size + 1 + 1, 0, none⟩ = some (.bool true) := (World.cell?_of_block (World.putObj_heap_other (by first | exact hne | exact Ne.symm hne))).trans hw3
        go_wp2_with fail
        refine ⟨by simp, .inl ⟨_, _, rfl, run_takeDeferred HKE.out, ?_⟩⟩
        have hbe2 : Below w.heap.size w ((v21.setCell ⟨w.heap.size + 1 + 1, 0, none⟩ (.bool true)).putObj D (.deferred none)) := HBE.out.trans (belowK_b (w := w) (Nat.le_refl _) _ D _ _ (by have := QB.out.size; omega) HKE.out rfl rfl)
        clear HKE HBE
        refine ⟨.bool true, ?_, rfl, hbe2⟩
        simp [results, Try.results3, go_sem, hcl]

theorem descTellsW (t0 : Tr) (k0 n0 : Int) (a0 : Option Addr) (m0 c0 : Nat) (a1 : Int) (w : World) (s0 : t0.size ≤ 1048576) (h0 : IsT w (fun _ => True) k0 n0 a0 m0 c0 t0) (h1 : fits .u8 a1) :
    Calls Try.prog 3 #[.agg #[.int .i64 k0, .int .i64 n0, .slice a0 m0 c0], .int .u8 a1] w fun e w' => e = .returned (.bool true) ∧ Below w.heap.size w w' := by
  have hf : 0 ≤ a1 ∧ a1 < 256 := by
    unfold fits at h1
    simp [Lit.wf, IntKind.min, IntKind.max, IntKind.bits, IntKind.signed] at h1
    omega
  obtain ⟨s, rfl⟩ := Int.eq_ofNat_of_zero_le hf.1
  by_cases h : t0.size ≤ 80
  · exact descTells_ok t0 k0 n0 a0 m0 c0 s w h (by omega) h0.lt
  · exact descTells_big t0 k0 n0 a0 m0 c0 s w (by omega) h0.lt (by omega)
end Go.Proofs.Ytpehbgcbifgokaa
