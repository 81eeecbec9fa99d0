/- What stands at the places of an order. -/
import Derived.Test.YtpehbgcbifgokaaPermJ
import Derived.Laws.CopyOwn
namespace Go.Proofs.Ytpehbgcbifgokaa
open Go.RowKit
set_option linter.unusedVariables false
set_option linter.unusedSimpArgs false

theorem OwnAt.heap {k : IntKind} {e : TypeId} {w wr : World} {g n : Nat} {f : Nat → Int} (h : OwnAt k e w wr g n f) :
    wr.heap[g]? = some (.cells ((List.range n).map fun j => Value.int k (f j)).toArray e (0, 0)) := by
  obtain ⟨hl, h1 | ⟨g', cap, cur, hv, hg, hc, hcap, hm, hs, ht⟩⟩ := h.own
  · cases h1.1
  · simp only [Value.slice.injEq, Option.some.injEq, Addr.mk.injEq] at hv
    obtain ⟨⟨rfl, _, _⟩, _, rfl⟩ := hv
    rw [hc, ← ht, List.take_of_length_le (by simp; omega)]
theorem OwnAt.of_heap {k : IntKind} {e : TypeId} {w wr : World} {g n : Nat} {f : Nat → Int} (hg : w.heap.size ≤ g) (hm : n ≤ maxLen) (hb : Below w.heap.size w wr)
    (h : wr.heap[g]? = some (.cells ((List.range n).map fun j => Value.int k (f j)).toArray e (0, 0))) : OwnAt k e w wr g n f :=
  ⟨⟨by simp, .inr ⟨g, n, _, rfl, hg, h, Nat.le_refl _, hm, by simp, by rw [List.take_of_length_le (by simp)]⟩⟩, hb⟩

/-- What stands at the places of an order. -/
def mvL (p xs : List Int) : List Int := (List.range xs.length).map fun i => nth xs (nth p i).toNat
theorem mvL_len (p xs : List Int) : (mvL p xs).length = xs.length := by simp [mvL]
theorem nth_mvL (p xs : List Int) (i : Nat) (h : i < xs.length) : nth (mvL p xs) i = nth xs (nth p i).toNat := nth_ofFn _ _ _ h

theorem range_map_eq (k : IntKind) (xs : List Int) : xs.map (Value.int k) = (List.range xs.length).map fun j => Value.int k (nth xs j) := by
  apply List.ext_getElem (by simp)
  intro i h1 h2
  have : i < xs.length := by simpa using h1
  simp [nth, this]
theorem nth_memL (xs : List Int) (t : Nat) (h : t < xs.length) : nth xs t ∈ xs := by
  have e : nth xs t = xs[t] := by simp [nth, h]
  rw [e]; exact List.getElem_mem h
theorem splice_all {α : Type} (L M : List α) (h : L.length = M.length) : splice L 0 M = M := by
  unfold splice; rw [List.take_zero, List.nil_append, Nat.zero_add, ← h, List.drop_length, List.append_nil]

set_option maxHeartbeats 1600000 in
theorem moved_int (a ax : Option Addr) (n m cap capx : Nat) (p xs : List Int) (w : World) (hp : Row .i64 w a p) (hx : Row .i64 w ax xs) (hn : p.length = n) (hm : xs.length = m) (hnm : n = m) (hl : n ≤ 16777216) (hpm : IsPerm p) (hcx : ax = none → capx = 0) :
    Calls Try.prog 64 #[.slice a n cap, .slice ax m capx] w (GivesRow .i64 (mvL p xs) w) := by
  subst hn hm
  obtain ⟨i0, hi, hz0, hz1, hz2⟩ := info_parts info_int
  have HN := Lib.hid hnm
  have HP := Lib.hid hp
  have HX := Lib.hid hx
  have HPM := Lib.hid hpm
  have hfx := hx.wf
  obtain ⟨L, hL⟩ : ∃ L, xs.map (Value.int .i64) = L := ⟨_, rfl⟩
  have HL := Lib.hid hL
  have hLl : L.length = xs.length := by rw [← hL]; simp
  have hl1 : ∀ v ∈ L, v.oneCell' = true := by rw [← hL]; exact ints_oneCell _ _
  have hmin : L.length = Nat.min xs.length xs.length := by rw [hLl]; exact (Nat.min_self _).symm
  have hinfo : (Try.prog.info? 3).map (·.size) = some 1 := by rw [hi]; simp [hz1]
  have HF := Lib.hid hfx
  have HL1 := Lib.hid hl1
  have HLL := Lib.hid hLl
  have HMN := Lib.hid hmin
  clear hp hx hpm hL hl1 hLl hmin hfx hnm
  go_enter Try.func64, Try.ntmps64
  go_wp2_with (at_make; refine wpList_make_full _ rfl _ _ 35 rfl w.heap.size 3 i0 (.int .i64 0) 1 Try.underlying35 hi hz0 hz1 .i64 .i64 xs.length xs.length xs.length rfl rfl rfl rfl (by rw [hz2]; have := HN.out; omega) (by unfold maxLen; have := HN.out; omega) (Nat.le_refl _) ?_)
  intro w1 hown0 hgrow0
  have hown := Own.made hown0 hgrow0
  have HH := Lib.hid hown.heap
  have hsrc : Hid (0 < L.length → ((some ⟨w.heap.size, 0, none⟩ : Option Addr) = some ⟨w.heap.size, 0, none⟩ ∧ ∃ ad, ax = some ad ∧ ∀ j v, L[j]? = some v → w1.cell? (ad.add j) = some v)) := fun h0 => by
    obtain ⟨b, off, rfl, hc⟩ := (HX.out.below hown.below).at (by have := HLL.out; omega)
    refine ⟨rfl, _, rfl, fun j v hj => ?_⟩
    have hjl : j < xs.length := by have := (List.getElem?_eq_some_iff.1 hj).1; have := HLL.out; omega
    have h3 := hc j hjl
    rw [← HL.out] at hj
    have h4 : v = .int .i64 (nth xs j) := by
      simp [hjl] at hj
      rw [← hj]; simp [nth, hjl]
    rw [h4, ← h3]
    by_cases hj0 : j = 0
    · subst hj0; simp [Addr.add]
    · simp [Addr.add, hj0]
  have HB1 := Lib.hid hown.below
  clear hown0 hgrow0 hown
  go_wp2_with (refine wpList_copy_splice rfl _ _ 35 35 rfl 3 Try.underlying35 hinfo (some ⟨w.heap.size, 0, none⟩) ax xs.length xs.length xs.length capx (by rfl) (by rfl) w.heap.size 0 _ 3 HH.out L HMN.out hsrc.out (by have := HLL.out; simp; omega) HL1.out w.heap.size w HB1.out (Nat.le_refl _) ?_)
  intro w2 HG2 hB2
  have hown : OwnAt .i64 3 w w2 w.heap.size xs.length (fun i => nth xs i) := OwnAt.of_heap (Nat.le_refl _) (by unfold maxLen; have := HN.out; omega) hB2 (by have h := HG2.out; rw [splice_all _ _ (by rw [HLL.out]; simp)] at h; rw [h, ← HL.out, range_map_eq])
  clear HG2 hB2
  go_wp2_with fail
  go_loopw [15] (fun i wr => ∃ k : Nat, k ≤ p.length ∧ i = .int .i64 k ∧ OwnAt .i64 3 w wr w.heap.size xs.length (fun i => if i < k then nth xs (nth p i).toNat else nth xs i)) (fun i _ => p.length - (intOf i).toNat)
  case atStart => exact ⟨0, Nat.zero_le _, rfl, OwnAt.eq hown (fun n => by rw [if_neg (by omega)])⟩
  case round =>
    obtain ⟨k, hk, rfl, hown⟩ := hrel
    by_cases hlt : k < p.length
    · have hlx : k < xs.length := by have := HN.out; omega
      obtain ⟨b, off, rfl, hc⟩ := (HP.out.below hown.below).at (by omega)
      obtain ⟨bx, ox, rfl, hcx'⟩ := (HX.out.below hown.below).at (by omega)
      have hck := hc k hlt
      obtain ⟨m, hm⟩ := Int.eq_ofNat_of_zero_le (HPM.out.1 k hlt).1
      have hmlt : m < xs.length := by have := (HPM.out.1 k hlt).2; have := HN.out; omega
      rw [hm] at hck
      have hcm := hcx' m hmlt
      obtain ⟨z, hz⟩ : ∃ z, nth xs m = z := ⟨_, rfl⟩
      rw [hz] at hcm
      have hcell := hown.cell k hlx
      have hfz := hown.free k
      have hnext := hown.store k hlx z (f' := fun i => if i < k + 1 then nth xs (nth p i).toNat else nth xs i) (by show (if k < k + 1 then nth xs (nth p k).toNat else nth xs k) = _; rw [if_pos (by omega), hm, Int.toNat_natCast, hz]) (fun j _ hj => by show (if j < k + 1 then nth xs (nth p j).toNat else nth xs j) = (if j < k then nth xs (nth p j).toNat else nth xs j); by_cases h : j < k; (rw [if_pos h, if_pos (by omega)]); (rw [if_neg h, if_neg (by omega)]))
      have HNX := Lib.hid hnext
      obtain ⟨y, hy⟩ : ∃ y, (if k < k then nth xs (nth p k).toNat else nth xs k) = y := ⟨_, rfl⟩
      rw [hy] at hcell
      have g1 : (0 : Int) ≤ (m : Int) := by omega
      have g2 : (m : Int) < (xs.length : Int) := by omega
      have g3 : (k : Int) < (xs.length : Int) := by omega
      clear hc hcx' hnext hm hz hy hown
      go_wp2_with fail
      go_roundw
      case rel => exact ⟨k + 1, by omega, by go_num, HNX.out⟩
      case measure => simp [intOf]; omega
    · have hres := hown.gives (xs := mvL p xs) (mvL_len p xs) (fun x hx => by
        obtain ⟨i, hi, rfl⟩ := List.mem_map.1 hx
        have hi' : i < xs.length := by simpa using hi
        have h1 := HPM.out.1 i (by have := HN.out; omega)
        have h2 : (nth p i).toNat < xs.length := by have := HN.out; omega
        exact HF.out _ (nth_memL xs _ h2)) (fun i hi => by have h := HN.out; show _ = (if i < k then nth xs (nth p i).toNat else nth xs i); rw [if_pos (by omega)]; exact nth_mvL _ _ _ hi) (by have := HN.out; omega)
      clear hown
      go_wp2_with fail
      go_ret
      exact hres

set_option maxHeartbeats 1600000 in
theorem moved_u64 (a ax : Option Addr) (n m cap capx : Nat) (p xs : List Int) (w : World) (hp : Row .i64 w a p) (hx : Row .u64 w ax xs) (hn : p.length = n) (hm : xs.length = m) (hnm : n = m) (hl : n ≤ 16777216) (hpm : IsPerm p) (hcx : ax = none → capx = 0) :
    Calls Try.prog 65 #[.slice a n cap, .slice ax m capx] w (GivesRow .u64 (mvL p xs) w) := by
  subst hn hm
  obtain ⟨i0, hi, hz0, hz1, hz2⟩ := info_parts info_u64
  have HN := Lib.hid hnm
  have HP := Lib.hid hp
  have HX := Lib.hid hx
  have HPM := Lib.hid hpm
  have hfx := hx.wf
  obtain ⟨L, hL⟩ : ∃ L, xs.map (Value.int .u64) = L := ⟨_, rfl⟩
  have HL := Lib.hid hL
  have hLl : L.length = xs.length := by rw [← hL]; simp
  have hl1 : ∀ v ∈ L, v.oneCell' = true := by rw [← hL]; exact ints_oneCell _ _
  have hmin : L.length = Nat.min xs.length xs.length := by rw [hLl]; exact (Nat.min_self _).symm
  have hinfo : (Try.prog.info? 76).map (·.size) = some 1 := by rw [hi]; simp [hz1]
  have HF := Lib.hid hfx
  have HL1 := Lib.hid hl1
  have HLL := Lib.hid hLl
  have HMN := Lib.hid hmin
  clear hp hx hpm hL hl1 hLl hmin hfx hnm
  go_enter Try.func65, Try.ntmps65
  go_wp2_with (at_make; refine wpList_make_full _ rfl _ _ 50 rfl w.heap.size 76 i0 (.int .u64 0) 1 Try.underlying50 hi hz0 hz1 .i64 .i64 xs.length xs.length xs.length rfl rfl rfl rfl (by rw [hz2]; have := HN.out; omega) (by unfold maxLen; have := HN.out; omega) (Nat.le_refl _) ?_)
  intro w1 hown0 hgrow0
  have hown := Own.made hown0 hgrow0
  have HH := Lib.hid hown.heap
  have hsrc : Hid (0 < L.length → ((some ⟨w.heap.size, 0, none⟩ : Option Addr) = some ⟨w.heap.size, 0, none⟩ ∧ ∃ ad, ax = some ad ∧ ∀ j v, L[j]? = some v → w1.cell? (ad.add j) = some v)) := fun h0 => by
    obtain ⟨b, off, rfl, hc⟩ := (HX.out.below hown.below).at (by have := HLL.out; omega)
    refine ⟨rfl, _, rfl, fun j v hj => ?_⟩
    have hjl : j < xs.length := by have := (List.getElem?_eq_some_iff.1 hj).1; have := HLL.out; omega
    have h3 := hc j hjl
    rw [← HL.out] at hj
    have h4 : v = .int .u64 (nth xs j) := by
      simp [hjl] at hj
      rw [← hj]; simp [nth, hjl]
    rw [h4, ← h3]
    by_cases hj0 : j = 0
    · subst hj0; simp [Addr.add]
    · simp [Addr.add, hj0]
  have HB1 := Lib.hid hown.below
  clear hown0 hgrow0 hown
  go_wp2_with (refine wpList_copy_splice rfl _ _ 50 50 rfl 76 Try.underlying50 hinfo (some ⟨w.heap.size, 0, none⟩) ax xs.length xs.length xs.length capx (by rfl) (by rfl) w.heap.size 0 _ 76 HH.out L HMN.out hsrc.out (by have := HLL.out; simp; omega) HL1.out w.heap.size w HB1.out (Nat.le_refl _) ?_)
  intro w2 HG2 hB2
  have hown : OwnAt .u64 76 w w2 w.heap.size xs.length (fun i => nth xs i) := OwnAt.of_heap (Nat.le_refl _) (by unfold maxLen; have := HN.out; omega) hB2 (by have h := HG2.out; rw [splice_all _ _ (by rw [HLL.out]; simp)] at h; rw [h, ← HL.out, range_map_eq])
  clear HG2 hB2
  go_wp2_with fail
  go_loopw [15] (fun i wr => ∃ k : Nat, k ≤ p.length ∧ i = .int .i64 k ∧ OwnAt .u64 76 w wr w.heap.size xs.length (fun i => if i < k then nth xs (nth p i).toNat else nth xs i)) (fun i _ => p.length - (intOf i).toNat)
  case atStart => exact ⟨0, Nat.zero_le _, rfl, OwnAt.eq hown (fun n => by rw [if_neg (by omega)])⟩
  case round =>
    obtain ⟨k, hk, rfl, hown⟩ := hrel
    by_cases hlt : k < p.length
    · have hlx : k < xs.length := by have := HN.out; omega
      obtain ⟨b, off, rfl, hc⟩ := (HP.out.below hown.below).at (by omega)
      obtain ⟨bx, ox, rfl, hcx'⟩ := (HX.out.below hown.below).at (by omega)
      have hck := hc k hlt
      obtain ⟨m, hm⟩ := Int.eq_ofNat_of_zero_le (HPM.out.1 k hlt).1
      have hmlt : m < xs.length := by have := (HPM.out.1 k hlt).2; have := HN.out; omega
      rw [hm] at hck
      have hcm := hcx' m hmlt
      obtain ⟨z, hz⟩ : ∃ z, nth xs m = z := ⟨_, rfl⟩
      rw [hz] at hcm
      have hcell := hown.cell k hlx
      have hfz := hown.free k
      have hnext := hown.store k hlx z (f' := fun i => if i < k + 1 then nth xs (nth p i).toNat else nth xs i) (by show (if k < k + 1 then nth xs (nth p k).toNat else nth xs k) = _; rw [if_pos (by omega), hm, Int.toNat_natCast, hz]) (fun j _ hj => by show (if j < k + 1 then nth xs (nth p j).toNat else nth xs j) = (if j < k then nth xs (nth p j).toNat else nth xs j); by_cases h : j < k; (rw [if_pos h, if_pos (by omega)]); (rw [if_neg h, if_neg (by omega)]))
      have HNX := Lib.hid hnext
      obtain ⟨y, hy⟩ : ∃ y, (if k < k then nth xs (nth p k).toNat else nth xs k) = y := ⟨_, rfl⟩
      rw [hy] at hcell
      have g1 : (0 : Int) ≤ (m : Int) := by omega
      have g2 : (m : Int) < (xs.length : Int) := by omega
      have g3 : (k : Int) < (xs.length : Int) := by omega
      clear hc hcx' hnext hm hz hy hown
      go_wp2_with fail
      go_roundw
      case rel => exact ⟨k + 1, by omega, by go_num, HNX.out⟩
      case measure => simp [intOf]; omega
    · have hres := hown.gives (xs := mvL p xs) (mvL_len p xs) (fun x hx => by
        obtain ⟨i, hi, rfl⟩ := List.mem_map.1 hx
        have hi' : i < xs.length := by simpa using hi
        have h1 := HPM.out.1 i (by have := HN.out; omega)
        have h2 : (nth p i).toNat < xs.length := by have := HN.out; omega
        exact HF.out _ (nth_memL xs _ h2)) (fun i hi => by have h := HN.out; show _ = (if i < k then nth xs (nth p i).toNat else nth xs i); rw [if_pos (by omega)]; exact nth_mvL _ _ _ hi) (by have := HN.out; omega)
      clear hown
      go_wp2_with fail
      go_ret
      exact hres
end Go.Proofs.Ytpehbgcbifgokaa
