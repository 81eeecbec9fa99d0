/- The law of rounds and signs, as a call that returns true. -/
import Derived.Test.YtpehbgcbifgokaaSignE
import Derived.BigQuiet
namespace Go.Proofs.Ytpehbgcbifgokaa
open Go.RowKit Sm
set_option linter.unusedVariables false
set_option linter.unusedSimpArgs false
set_option maxRecDepth 20000

def rowI (l : List Nat) : List Int := l.map fun x : Nat => (x : Int)
theorem rowI_len (l : List Nat) : (rowI l).length = l.length := by simp [rowI]
theorem nth_rowI (l : List Nat) (j : Nat) (h : j < l.length) : nth (rowI l) j = (lk l j : Int) := by simp [nth, rowI, lk, h]
theorem rowI_fits (l : List Nat) (h : ∀ x ∈ l, x < 100) : ∀ x ∈ rowI l, fits .i64 x := fun x hx => by
  obtain ⟨y, hy, rfl⟩ := List.mem_map.1 hx
  have := h y hy
  exact fits_i64.2 (by omega)
theorem intL_rowI (l : List Nat) : intL l = (rowI l).map (Value.int .i64) := by simp [intL, rowI, Function.comp_def]

def ind (l : List Nat) (v : Nat) : Int := if v ∈ l then 1 else 0
def inds (cs : List (List Nat)) (k v : Nat) : Int := ((cs.take k).map fun l => ind l v).sum
theorem inds_succ (cs : List (List Nat)) (k v : Nat) (hk : k < cs.length) : inds cs (k + 1) v = inds cs k v + ind (cs.getD k []) v := by
  unfold inds
  rw [List.take_add_one, List.map_append, List.sum_append]
  congr 1
  simp [List.getD, hk]
theorem ind_01 (l : List Nat) (v : Nat) : 0 ≤ ind l v ∧ ind l v ≤ 1 := by unfold ind; split <;> omega
theorem sum_01 (L : List (List Nat)) (v : Nat) : 0 ≤ (L.map fun l => ind l v).sum ∧ (L.map fun l => ind l v).sum ≤ L.length := by
  induction L with
  | nil => simp
  | cons l L ih =>
    have := ind_01 l v
    simp only [List.map_cons, List.sum_cons, List.length_cons]
    omega
theorem inds_le (cs : List (List Nat)) (k v : Nat) : 0 ≤ inds cs k v ∧ inds cs k v ≤ cs.length := by
  have h := sum_01 (cs.take k) v
  have := List.length_take_le k cs
  have := List.length_take_le' k cs
  unfold inds
  omega
theorem ind_step (l : List Nat) (hn : l.Nodup) (j : Nat) (hj : j < l.length) (v : Nat) : ind (l.take (j + 1)) v = ind (l.take j) v + if v = lk l j then 1 else 0 := by
  have e : lk l j = l[j] := by simp [lk, hj]
  have hni : lk l j ∉ l.take j := fun h => by
    have h1 := hn
    rw [← List.take_append_drop j l] at h1
    have h2 : lk l j ∈ l.drop j := by rw [e, List.drop_eq_getElem_cons hj]; exact List.mem_cons_self
    exact (List.nodup_append.1 h1).2.2 _ h _ h2 rfl
  unfold ind
  rw [List.take_add_one, List.getElem?_eq_getElem hj, ← e]
  by_cases h : v = lk l j
  · subst h; rw [if_neg hni]; simp
  · by_cases h2 : v ∈ l.take j <;> simp [h, h2]

theorem own_len {w : World} {B : Nat} {e : TypeId} {v : Value} {n : Nat} {xs : List Value} (h : w.ownsRow B e 1 v n xs) : n ≤ 9223372036854775807 := by
  rcases h.2 with ⟨_, h⟩ | ⟨_, _, _, _, _, _, h1, h2, _⟩
  · omega
  · unfold maxLen at h2; omega

def leastAt (cs : List (List Nat)) (k : Nat) : Int := if k = 0 then -1 else (lk (cs.getD (k - 1) []) 0 : Int)

theorem isPerm_mvL (p q : List Int) (hpq : p.length = q.length) (hp : IsPerm p) (hq : IsPerm q) : IsPerm (mvL q p) := by
  unfold IsPerm
  rw [mvL_len]
  refine ⟨fun i hi => ?_, fun i j hij hj => ?_⟩
  · rw [nth_mvL _ _ _ hi]
    have h := permF_lt q hq i (by omega)
    exact hp.1 _ (by omega)
  · rw [nth_mvL _ _ _ (by omega), nth_mvL _ _ _ hj]
    have h1 := permF_lt q hq i (by omega)
    have h2 := permF_lt q hq j (by omega)
    have h3 := permF_inj q hq i j hij (by omega)
    rcases Nat.lt_or_gt_of_ne h3 with h | h
    · exact hp.2 _ _ h (by omega)
    · exact (hp.2 _ _ h (by omega)).symm
theorem sgn_mvL (p q : List Int) (n : Nat) (hn : p.length = n) (hm : q.length = n) (hp : IsPerm p) (hq : IsPerm q) : sgn (turns n (pf (mvL q p))) = sgn (turns n (pf p)) * sgn (turns n (pf q)) := by
  have o1 := ord_of hp
  have o2 := ord_of hq
  rw [hn] at o1
  rw [hm] at o2
  obtain ⟨z, hz⟩ := turns_join n _ _ _ _ o1 o2
  have e : turns n (pf (mvL q p)) = turns n (fun j => pf p (pf q j)) := by
    unfold turns H
    refine S_congr fun i hi => S_congr fun k hk => ?_
    have f1 : ∀ i, i < n → pf (mvL q p) i = pf p (pf q i) := fun i hi => by
      unfold pf; rw [nth_mvL _ _ _ (by omega)]
    unfold tw
    rw [f1 i hi, f1 k (by omega)]
  rw [e, hz, sgn_join]

theorem permRounds_big (a0 a1 : Option Addr) (n m c0 c1 : Nat) (w : World) (h : 60 < n ∨ (n ≤ 60 ∧ 60 < m)) (hn : n ≤ 9223372036854775807) (hm : m ≤ 9223372036854775807) :
    Calls Try.prog 9 #[.slice a0 n c0, .slice a1 m c1] w fun e w' => e = .returned (.bool true) ∧ Below w.heap.size w w' := by
  rcases h with h1 | ⟨h1, h2⟩
  all_goals
    go_enter Try.func9, Try.ntmps9
    go_wp2_with fail
    refine (live08 _).mono ?_
    rintro e w7 ⟨rfl, hb7⟩
    go_wp2_with fail
    go_ret
    exact ⟨rfl, hb7⟩

theorem permRounds_no (a0 a1 : Option Addr) (n m c0 c1 : Nat) (p : List Int) (w : World) (hp : Row .i64 w a0 p) (hn : p.length = n) (h1 : n ≤ 60) (h2 : m ≤ 60) (hpm : ¬ IsPerm p) :
    Calls Try.prog 9 #[.slice a0 n c0, .slice a1 m c1] w fun e w' => e = .returned (.bool true) ∧ Below w.heap.size w w' := by
  have HP := Lib.hid hp
  have HM := Lib.hid hpm
  have HN := Lib.hid hn
  clear hp hpm hn
  go_enter Try.func9, Try.ntmps9
  go_wp2_with fail
  refine (perm_Cycles_no a0 n c0 p _ HP.out HN.out (by omega) HM.out).mono ?_
  rintro e w1 ⟨rfl, hb1⟩
  go_wp2_with fail
  refine (refRight_no a0 n c0 p _ (HP.out.below hb1) HN.out (by omega) HM.out).mono ?_; rintro e w' ⟨rfl, rfl⟩
  go_wp2_with fail
  refine (perm_Sign_no a0 n c0 p _ (HP.out.below hb1) HN.out (by omega) HM.out).mono ?_
  rintro e w2 ⟨rfl, hb2⟩
  have hbl := chain hb1 hb2
  go_wp2_with fail
  refine (live08 _).mono ?_
  rintro e w7 ⟨rfl, hb7⟩
  go_wp2_with fail
  go_ret
  exact ⟨rfl, chain hbl hb7⟩

set_option maxHeartbeats 4000000 in
theorem permRounds_yes (a0 a1 : Option Addr) (n m c0 c1 : Nat) (p q : List Int) (w : World) (hp : Row .i64 w a0 p) (hq : Row .i64 w a1 q) (hn : p.length = n) (hm : q.length = m) (h1 : n ≤ 60) (h2 : m ≤ 60) (hpm : IsPerm p) (hc0 : a0 = none → c0 = 0) :
    Calls Try.prog 9 #[.slice a0 n c0, .slice a1 m c1] w fun e w' => e = .returned (.bool true) ∧ Below w.heap.size w w' := by
  obtain ⟨i0, hi, hz0, hz1, hz2⟩ := info_parts info_int
  obtain ⟨d, hd⟩ : ∃ d, turns n (pf p) % 2 = d := ⟨_, rfl⟩
  have hd0 : 0 ≤ d := by omega
  have hd1 : d ≤ 1 := by omega
  have hds : sgn (turns n (pf p)) = 1 - 2 * d := by unfold sgn; rw [hd]
  have HCY : Hid (Calls Try.prog 45 #[.slice a0 n c0] w (CycEnds n (pf p) w)) := perm_Cycles a0 n c0 p w hp hn h1 hpm
  have HRI : Hid (∀ W, Below w.heap.size w W → Calls Try.prog 33 #[.slice a0 n c0] W fun e w' => e = .returned (.bool true) ∧ W = w') := fun W hb => refRight_yes a0 n c0 p W (hp.below hb) hn (by omega) hpm
  have HS1 : Hid (∀ W, Below w.heap.size w W → Calls Try.prog 46 #[.slice a0 n c0] W fun e w' => e = .returned (.int .i64 (1 - 2 * d)) ∧ Below W.heap.size W w') := fun W hb => by
    have := perm_Sign a0 n c0 p W (hp.below hb) hn h1 hpm
    rwa [hds] at this
  have HTU : Hid (∀ W, Below w.heap.size w W → Calls Try.prog 47 #[.slice a0 n c0] W fun e w' => ∃ t : Nat, e = .returned (.int .i64 t) ∧ (t : Int) % 2 = d ∧ t ≤ 3600 ∧ Below W.heap.size W w') := fun W hb => (ref_Turns a0 n c0 p W (hp.below hb) hn h1 hpm).mono (by
    rintro e w' ⟨t, rfl, ht, hl, hb⟩
    exact ⟨t, rfl, by omega, hl, hb⟩)
  have AF : Hid ((n = m ∧ IsPerm q) ∨ ∃ ec : Int, 2 ≤ ec ∧ ec ≤ 5 ∧ ∀ W, Below w.heap.size w W → Calls Try.prog 37 #[.slice a0 n c0, .slice a1 m c1] W fun e w' => e = .returned (.tuple #[.slice none 0 0, .int .i64 ec]) ∧ Below W.heap.size W w') := by
    by_cases hqm : IsPerm q
    · by_cases hnm : n = m
      · exact .inl ⟨hnm, hqm⟩
      · exact .inr ⟨5, by omega, by omega, fun W hb => permAfter_len a0 a1 n m c0 c1 p q W (hp.below hb) (hq.below hb) hn hm (by omega) (by omega) hpm hqm hnm⟩
    · exact .inr ⟨2, by omega, by omega, fun W hb => permAfter_no2 a0 a1 n m c0 c1 p q W (hp.below hb) (hq.below hb) hn hm (by omega) (by omega) hpm hqm⟩
  have AOK : Hid (n = m → IsPerm q → ∀ W, Below w.heap.size w W → Calls Try.prog 37 #[.slice a0 n c0, .slice a1 m c1] W (GivesRowE .i64 (mvL q p) 0 W)) := fun hnm hqm W hb =>
    permAfter_ok a0 a1 n m c0 c1 p q W (hp.below hb) (hq.below hb) hn hm hnm (by omega) hpm hqm hc0
  have HP := Lib.hid hp
  have HQ := Lib.hid hq
  have HN := Lib.hid hn
  have HM := Lib.hid hm
  have HPM := Lib.hid hpm
  clear hp hq hn hm hpm hd hds hc0
  go_enter Try.func9, Try.ntmps9
  go_wp2_with fail
  refine HCY.out.mono ?_
  rintro e w1 ⟨cs, s, t, B, v, vs, rfl, hR, hB, hV, hC, hb1⟩
  obtain ⟨av, cv, rfl, _⟩ := own_slice hV
  have HRM : cs.length ≤ 60 := by have := hR.room; omega
  have HAT : Hid (∀ k, k < cs.length → ∃ g a3 c3, av = some ⟨g, 0, none⟩ ∧ g < w1.heap.size ∧ w1.cell? ⟨g, k, none⟩ = some (.slice a3 (cs.getD k []).length c3) ∧ Row .i64 w1 a3 (rowI (cs.getD k []))) := fun k hk => by
    obtain ⟨g, rfl, _, h1⟩ := row_read hV k hk
    obtain ⟨v, h2, h3⟩ := hC.at k (by omega)
    obtain ⟨a3, c3, rfl, _⟩ := own_slice h3
    have hm : cs.getD k [] ∈ cs := by simp [hk]
    have h4 := h3
    rw [intL_rowI] at h4
    refine ⟨g, a3, c3, rfl, World.block_lt_of_cell? w1 _ (h1.trans h2), by rw [h1, h2], Row.of_own (rowI_len _) (own_len h3) (rowI_fits _ (fun x hx => by have := ((hR.each _ hm).2.1 x hx).1; omega)) h4⟩
  have HEA : Hid (∀ k, k < cs.length → 0 < (cs.getD k []).length ∧ (∀ j, j < (cs.getD k []).length → lk (cs.getD k []) j < n ∧ lk (cs.getD k []) 0 ≤ lk (cs.getD k []) j ∧ nth p (lk (cs.getD k []) j) = (lk (cs.getD k []) ((j + 1) % (cs.getD k []).length) : Int)) ∧ (cs.getD k []).Nodup ∧ leastAt cs k < lk (cs.getD k []) 0 ∧ -1 ≤ leastAt cs k ∧ leastAt cs (k + 1) = lk (cs.getD k []) 0) := fun k hk => by
    have hm : cs.getD k [] ∈ cs := by simp [hk]
    obtain ⟨e1, e2, e3, e4, e5⟩ := hR.each _ hm
    refine ⟨e1, fun j hj => ?_, hR.nodup _ hm, ?_, ?_, by simp [leastAt]⟩
    · obtain ⟨f1, f2⟩ := e2 _ (lk_mem hj)
      refine ⟨f1, f2, ?_⟩
      have f3 : pf p (lk (cs.getD k []) j) = lk (cs.getD k []) ((j + 1) % (cs.getD k []).length) := by
        by_cases h : j + 1 < (cs.getD k []).length
        · rw [Nat.mod_eq_of_lt h]; exact e3 j h
        · have h' : j + 1 = (cs.getD k []).length := by omega
          rw [h', Nat.mod_self, show j = (cs.getD k []).length - 1 by omega]; exact e4
      have f4 := (HPM.out.1 (lk (cs.getD k []) j) (by have := HN.out; omega)).1
      unfold pf at f3
      omega
    · unfold leastAt
      by_cases h0 : k = 0
      · rw [if_pos h0]; omega
      · rw [if_neg h0]
        have := hR.rise (k - 1) k (by omega) hk
        omega
    · unfold leastAt; split <;> omega
  have HALL : Hid (∀ v, v < n → inds cs cs.length v = 1) := fun v hv => by
    unfold inds ind
    rw [List.take_length, ← hR.all v hv]
    exact hR.seen v hv hv
  have HIS : Hid (∀ k, k < cs.length → ∀ v, inds cs (k + 1) v = inds cs k v + ind (cs.getD k []) v) := fun k hk v => inds_succ cs k v hk
  have HIL : Hid (∀ k v, 0 ≤ inds cs k v ∧ inds cs k v ≤ 60) := fun k v => by have := inds_le cs k v; omega
  obtain ⟨mc, hmc⟩ : ∃ mc, cs.length = mc := ⟨_, rfl⟩
  rw [hmc] at HAT HEA HRM HALL HIS ⊢
  clear hV hC hR hmc
  have HB1 := Lib.hid hb1
  have hs1 := hb1.size
  clear hb1
  go_wp2_with fail
  refine (HRI.out _ HB1.out).mono ?_; rintro e w' ⟨rfl, rfl⟩
  go_wp2_with (at_make; refine wpList_make_full _ rfl _ _ 35 rfl w1.heap.size 3 i0 (.int .i64 0) 1 Try.underlying35 hi hz0 hz1 .i64 .i64 n n n rfl rfl rfl rfl (by rw [hz2]; omega) (by unfold maxLen; omega) (Nat.le_refl _) ?_)
  intro w2 hown0 hgrow0
  have HO0 : Hid (OwnAt .i64 3 w1 w2 w1.heap.size n (inds cs 0)) := (Own.made hown0 hgrow0).eq (fun v => by simp [inds])
  clear hown0 hgrow0
  go_wp2_with fail
  go_loopw [8, 9] (fun lv iv wr => ∃ (k : Nat) (z : Int), k ≤ mc ∧ iv = .int .i64 (k : Int) ∧ lv = .int .i64 z ∧ Hid (z = leastAt cs k) ∧ Hid (OwnAt .i64 3 w1 wr w1.heap.size n (inds cs k))) (fun _ iv _ => mc - (intOf iv).toNat)
  case atStart => exact ⟨0, -1, by omega, rfl, rfl, by simp [Hid, leastAt], HO0.out⟩
  case round =>
    obtain ⟨k, z, hk, rfl, rfl, HZ, HO⟩ := hrel
    by_cases hlt : k < mc
    · obtain ⟨g, a3, c3, rfl, hg, hc, hrow⟩ := HAT.out k hlt
      obtain ⟨f1, f2, f3, f4, f5, f6⟩ := HEA.out k hlt
      have HIK := Lib.hid (HIS.out k hlt)
      rw [← HZ.out] at f4 f5
      have hc' := (HO.out.below.cell hg).trans hc
      obtain ⟨l, hl⟩ : ∃ l, cs.getD k [] = l := ⟨_, rfl⟩
      rw [hl] at hc' hrow f1 f2 f3 f4 f6 HIK
      have hrl := rowI_len l
      have hrb := hrow.len
      have HROW := Lib.hid hrow
      obtain ⟨lb, lo, rfl, hlc⟩ := (hrow.below HO.out.below).at (by omega)
      have hl0 := hlc 0 (by omega)
      rw [nth_rowI l 0 f1] at hl0
      simp only [Nat.add_zero] at hl0
      obtain ⟨len, hlen⟩ : ∃ len, l.length = len := ⟨_, rfl⟩
      have HLEN := Lib.hid hlen
      rw [hrl] at hrb
      rw [hlen] at hc' f1 f2 hrb
      obtain ⟨z', hz'⟩ : ∃ z', lk l 0 = z' := ⟨_, rfl⟩
      rw [hz'] at hl0 f2 f4 f6
      have hzn : z' < n := by have := (f2 0 f1).1; omega
      have F2 := Lib.hid f2
      have F3 := Lib.hid f3
      have F6 := Lib.hid f6
      have hlz : ((len : Int) == 0) = false := by simp; omega
      have g0 : (0 : Int) ≤ (k : Int) := by omega
      have g1 : (k : Int) < (mc : Int) := by omega
      have g2 : (0 : Int) < (len : Int) := by omega
      obtain ⟨wo, hwo⟩ : ∃ wo : World, wo = wr := ⟨_, rfl⟩
      subst hwo
      clear hc hrow hlc hl hrl hlen hz' f2 f3 f6
      go_wp2_with fail
      go_loopw [11] (fun jv wr => ∃ (j : Nat), j ≤ len ∧ jv = .int .i64 (j : Int) ∧ Hid (OwnAt .i64 3 w1 wr w1.heap.size n (fun v => inds cs k v + ind (l.take j) v))) (fun jv _ => len - (intOf jv).toNat)
      case atStart => exact ⟨0, by omega, rfl, HO.out.eq (fun v => by simp [ind])⟩
      case round =>
        obtain ⟨j, hj, rfl, HO⟩ := hrel
        by_cases hjl : j < len
        · obtain ⟨k1, k2, k3⟩ := F2.out j hjl
          have hbl := HO.out.below
          obtain ⟨lb', lo', he, hlc⟩ := (HROW.out.below hbl).at (by rw [rowI_len, HLEN.out]; omega)
          cases he
          have hr : (j + 1) % len < len := Nat.mod_lt _ (by omega)
          have hlj := hlc j (by rw [rowI_len, HLEN.out]; omega)
          have hlr := hlc ((j + 1) % len) (by rw [rowI_len, HLEN.out]; omega)
          rw [nth_rowI l _ (by rw [HLEN.out]; omega)] at hlj hlr
          obtain ⟨pb, po, rfl, hpc⟩ := (HP.out.below (chain HB1.out hbl)).at (by rw [HN.out]; omega)
          have hpx := hpc (lk l j) (by rw [HN.out]; omega)
          rw [k3] at hpx
          have HNX : Hid (∀ v, ind (l.take (j + 1)) v = ind (l.take j) v + if v = lk l j then 1 else 0) := fun v => ind_step l F3.out j (by rw [HLEN.out]; omega) v
          obtain ⟨r, hre⟩ : ∃ r, (j + 1) % len = r := ⟨_, rfl⟩
          have e0 : (j : Int) + 1 = ((j + 1 : Nat) : Int) := rfl
          have e1 : ((j : Int) + 1).tmod (len : Int) = (r : Int) := by rw [Int.tmod_eq_emod_of_nonneg (by omega), e0, ← Int.natCast_emod, hre]
          have e2 : ((j : Int) + 1) % (len : Int) = (r : Int) := by rw [e0, ← Int.natCast_emod, hre]
          rw [hre] at hr hlr hpx
          obtain ⟨x, hx⟩ : ∃ x, lk l j = x := ⟨_, rfl⟩
          obtain ⟨y, hy⟩ : ∃ y, lk l r = y := ⟨_, rfl⟩
          rw [hx] at hlj hpx k1 k2 HNX
          rw [hy] at hlr hpx
          have d1 : decide ((x : Int) < (z' : Int)) = false := by simp; omega
          have d2 : decide ((x : Int) ≥ (n : Int)) = false := by simp; omega
          have d3 : decide ((n : Int) ≤ (x : Int)) = false := by simp; omega
          have d4 : decide (x < z') = false := by simp; omega
          have d5 : decide (n ≤ x) = false := by simp; omega
          have q0 : (0 : Int) ≤ (j : Int) := by omega
          have q1 : (j : Int) < (len : Int) := by omega
          have q2 : (0 : Int) ≤ (r : Int) := by omega
          have q3 : (r : Int) < (len : Int) := by omega
          have q4 : (0 : Int) ≤ (x : Int) := by omega
          have q5 : (x : Int) < (n : Int) := by omega
          have q6 : ¬ (len : Int) = 0 := by omega
          clear hlc hpc k3 hre hx hy e0
          go_wp2_with fail
          go_quiet (fail)
          have hbq := below_drewN (Below.refl wr.heap.size wr) nq
          obtain ⟨w5, hw5⟩ : ∃ w5, wr.drewN nq = w5 := ⟨_, rfl⟩
          rw [hw5] at hbq ⊢
          have HO5 : Hid (OwnAt .i64 3 w1 w5 w1.heap.size n (fun v => inds cs k v + ind (l.take j) v)) := HO.out.later hbq
          have hlj' := (hbq.cell (World.block_lt_of_cell? wr _ hlj)).trans hlj
          obtain ⟨f, hf⟩ : ∃ f : Int, inds cs k x + ind (l.take j) x = f := ⟨_, rfl⟩
          have hcx := HO5.out.cell x (by omega)
          have hfz := HO5.out.free x
          have hf0 : 0 ≤ f ∧ f ≤ 61 := by have h1 := HIL.out k x; have h2 := ind_01 (l.take j) x; omega
          have hst := HO5.out.store x (by omega) (f + 1) (f' := fun v => inds cs k v + ind (l.take (j + 1)) v) (by show _ + _ = _; rw [HNX.out, if_pos rfl, ← hf]; omega) (fun v hv hne => by show _ + _ = _ + _; rw [HNX.out, if_neg hne]; omega)
          have HST := Lib.hid hst
          simp only [hf] at hcx
          clear hst hlj hlr hpx hw5 hf d1 d2 d3 d4 d5
          go_wp2_with fail
          go_roundw
          case rel => exact ⟨j + 1, by omega, by go_num, HST.out⟩
          case measure => simp [intOf]; omega
        · have hjl' : j = len := by omega
          have HO6 : Hid (OwnAt .i64 3 w1 wr w1.heap.size n (inds cs (k + 1))) := HO.out.eq (fun v => by
            rw [HIK.out v, hjl', ← HLEN.out, List.take_length])
          go_wp2_with fail
          go_roundw
          case rel => exact ⟨k + 1, (z' : Int), by omega, by go_num, by go_num, F6.out.symm, HO6.out⟩
          case measure => simp [intOf]; omega
    · have hkm : k = mc := by omega
      have HO7 : Hid (OwnAt .i64 3 w1 wr w1.heap.size n (inds cs mc)) := by have h := HO.out; rw [hkm] at h; exact h
      obtain ⟨wo, hwo⟩ : ∃ wo : World, wo = wr := ⟨_, rfl⟩
      subst hwo
      clear HO
      go_wp2_with fail
      go_loopw [12] (fun iv wr => ∃ (i : Nat), i ≤ n ∧ iv = .int .i64 (i : Int) ∧ wo = wr) (fun iv _ => n - (intOf iv).toNat)
      case atStart => exact ⟨0, by omega, rfl, rfl⟩
      case round =>
        obtain ⟨i, hi', rfl, rfl⟩ := hrel
        by_cases hin : i < n
        · have hci := HO7.out.cell i hin
          rw [HALL.out i hin] at hci
          have q0 : (0 : Int) ≤ (i : Int) := by omega
          have q1 : (i : Int) < (n : Int) := by omega
          go_wp2_with fail
          go_roundw
          case rel => exact ⟨i + 1, by omega, by go_num, trivial⟩
          case measure => simp [intOf]; omega
        · have hb2 := chain HB1.out HO7.out.below
          have HB2 := Lib.hid hb2
          clear hb2
          go_wp2_with fail
          refine (HS1.out _ HB2.out).mono ?_
          rintro e w3 ⟨rfl, hb3⟩
          have hbl := chain HB2.out hb3
          go_wp2_with fail
          refine (HTU.out _ hbl).mono ?_
          rintro e w4 ⟨tt, rfl, ht2, htl, hb4⟩
          have hbl := chain hbl hb4
          go_wp2_with fail
          rcases AF.out with ⟨hnm, hqm⟩ | ⟨ec, hc1, hc2, hcall⟩
          · refine (AOK.out hnm hqm _ hbl).mono ?_
            rintro e w5 ⟨a5, cap5, rfl, hr5, hcap5, hb5⟩
            have hbl := chain hbl hb5
            have hml : (mvL q p).length = n := by rw [mvL_len, HN.out]
            rw [hml]
            subst hnm
            obtain ⟨x, hx⟩ : ∃ x, sgn (turns n (pf p)) = x := ⟨_, rfl⟩
            obtain ⟨y, hy⟩ : ∃ y, sgn (turns n (pf q)) = y := ⟨_, rfl⟩
            obtain ⟨zz, hzz⟩ : ∃ zz, sgn (turns n (pf (mvL q p))) = zz := ⟨_, rfl⟩
            have hxy : zz = x * y := by rw [← hzz, ← hx, ← hy]; exact sgn_mvL p q n HN.out HM.out HPM.out hqm
            have hw : IntKind.i64.wrap (x * y) = zz := by
              rw [hxy]
              refine IntWalk.i64_in _ ?_
              rcases sgn_cases (turns n (pf p)) with ⟨_, h⟩ | ⟨_, h⟩ <;> rcases sgn_cases (turns n (pf q)) with ⟨_, h'⟩ | ⟨_, h'⟩ <;> rw [h] at hx <;> rw [h'] at hy <;> subst hx <;> subst hy <;> decide
            have CX : Hid (∀ W, Below w.heap.size w W → Calls Try.prog 46 #[.slice a0 n c0] W fun e w' => e = .returned (.int .i64 x) ∧ Below W.heap.size W w') := fun W hb => by
              have := perm_Sign a0 n c0 p W (HP.out.below hb) HN.out h1 HPM.out
              rwa [hx] at this
            have CYY : Hid (∀ W, Below w.heap.size w W → Calls Try.prog 46 #[.slice a1 n c1] W fun e w' => e = .returned (.int .i64 y) ∧ Below W.heap.size W w') := fun W hb => by
              have := perm_Sign a1 n c1 q W (HQ.out.below hb) HM.out h1 hqm
              rwa [hy] at this
            have CZ : Hid (Calls Try.prog 46 #[.slice a5 n cap5] w5 fun e w' => e = .returned (.int .i64 zz) ∧ Below w5.heap.size w5 w') := by
              have := perm_Sign a5 n cap5 (mvL q p) w5 hr5 hml h1 (isPerm_mvL p q (by rw [HN.out, HM.out]) HPM.out hqm)
              rwa [hzz] at this
            clear hx hy hzz hxy hr5 hml
            go_wp2_with fail
            refine CZ.out.mono ?_
            rintro e w6 ⟨rfl, hb6⟩
            have hbl := chain hbl hb6
            go_wp2_with fail
            refine (CX.out _ hbl).mono ?_
            rintro e w7 ⟨rfl, hb7⟩
            have hbl := chain hbl hb7
            go_wp2_with fail
            refine (CYY.out _ hbl).mono ?_
            rintro e w8 ⟨rfl, hb8⟩
            have hbl := chain hbl hb8
            go_wp2_with fail
            refine (live08 _).mono ?_
            rintro e w9 ⟨rfl, hb9⟩
            go_wp2_with fail
            go_ret
            exact ⟨rfl, chain hbl hb9⟩
          · refine (hcall _ hbl).mono ?_
            rintro e w5 ⟨rfl, hb5⟩
            have hbl := chain hbl hb5
            have hne : (ec != 0) = true := by simp; omega
            go_wp2_with fail
            refine (live08 _).mono ?_
            rintro e w9 ⟨rfl, hb9⟩
            go_wp2_with fail
            go_ret
            exact ⟨rfl, chain hbl hb9⟩

theorem permRoundsW (a0 : Option Addr) (c0 : Nat) (x0 : List Int) (a1 : Option Addr) (c1 : Nat) (x1 : List Int) (w : World) (h0 : Row .i64 w a0 x0) (k0 : OkCap a0 x0.length c0) (h1 : Row .i64 w a1 x1) (k1 : OkCap a1 x1.length c1) :
    Calls Try.prog 9 #[.slice a0 x0.length c0, .slice a1 x1.length c1] w fun e w' => e = .returned (.bool true) ∧ Below w.heap.size w w' := by
  by_cases hb : x0.length ≤ 60 ∧ x1.length ≤ 60
  · by_cases hp : IsPerm x0
    · exact permRounds_yes a0 a1 _ _ c0 c1 x0 x1 w h0 h1 rfl rfl hb.1 hb.2 hp k0.2
    · exact permRounds_no a0 a1 _ _ c0 c1 x0 w h0 rfl hb.1 hb.2 hp
  · exact permRounds_big a0 a1 _ _ c0 c1 w (by omega) h0.len h1.len
end Go.Proofs.Ytpehbgcbifgokaa
