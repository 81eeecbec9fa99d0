/- Trees: another node at a place: plain laws, and what a store at a node's place does. -/
import Derived.Test.YtncikklhchimdaaTreeJ
namespace Go.Proofs.Ytncikklhchimdaa
open Go.RowKit
set_option linter.unusedVariables false
set_option linter.unusedSimpArgs false
set_option maxRecDepth 100000

namespace Tr
/-- Another kid at a place. -/
def setKid (t : Tr) (i : Nat) (u : Tr) : Tr := node t.kind t.num (t.kids.set i u)
/-- Another node at a place. -/
def put (t : Tr) : List Int → Tr → Tr
  | [], u => u
  | i :: p, u => setKid t i.toNat (put (kid t.kids i.toNat) p u)
theorem kid_set (ks : List Tr) (i j : Nat) (u : Tr) (hi : i < ks.length) : kid (ks.set i u) j = if j = i then u else kid ks j := by
  unfold kid
  by_cases h : j = i
  · subst h; rw [if_pos rfl]; simp [hi]
  · rw [if_neg h]; simp [List.getD, List.getElem?_set_ne (Ne.symm h)]
theorem put_snoc {t s : Tr} : ∀ {q : List Int} (i : Int) (u : Tr), at? t q = some s → put t (q ++ [i]) u = put t q (setKid s i.toNat u) := by
  intro q
  induction q generalizing t with
  | nil => intro i u h; unfold at? at h; cases h; rfl
  | cons j q ih =>
    intro i u h
    obtain ⟨h0, h1, h2⟩ := at_yes h
    show setKid t j.toNat (put (kid t.kids j.toNat) (q ++ [i]) u) = setKid t j.toNat (put (kid t.kids j.toNat) q (setKid s i.toNat u))
    rw [ih i u h2]
theorem at_snoc {t s : Tr} : ∀ {q : List Int} (i : Nat), at? t q = some s → i < s.kids.length → at? t (q ++ [(i : Int)]) = some (kid s.kids i) := by
  intro q
  induction q generalizing t with
  | nil =>
    intro i h hi
    unfold at? at h; cases h
    show at? s [(i : Int)] = _
    rw [at_in (by omega) (by omega)]
    simp [at?]
  | cons j q ih =>
    intro i h hi
    obtain ⟨h0, h1, h2⟩ := at_yes h
    show at? t (j :: (q ++ [(i : Int)])) = _
    rw [at_in h0 h1]
    exact ih i h2 hi
theorem at_drop {t s v : Tr} : ∀ {q p : List Int}, at? t q = some s → at? t (q ++ p) = some v → at? s p = some v := by
  intro q
  induction q generalizing t with
  | nil => intro p h h2; unfold at? at h; cases h; exact h2
  | cons j q ih =>
    intro p h h2
    obtain ⟨h0, h1, h3⟩ := at_yes h
    have h2' : at? t (j :: (q ++ p)) = some v := h2
    rw [at_in h0 h1] at h2'
    exact ih h3 h2'
theorem at_put {t s : Tr} (u : Tr) : ∀ {p : List Int}, at? t p = some s → at? (put t p u) p = some u := by
  intro p
  induction p generalizing t with
  | nil => intro _; rfl
  | cons i p ih =>
    intro h
    obtain ⟨h0, h1, h2⟩ := at_yes h
    have hi : i.toNat < t.kids.length := by omega
    show at? (setKid t i.toNat (put (kid t.kids i.toNat) p u)) (i :: p) = some u
    have hk : (setKid t i.toNat (put (kid t.kids i.toNat) p u)).kids = t.kids.set i.toNat (put (kid t.kids i.toNat) p u) := rfl
    rw [at_in h0 (by rw [hk, List.length_set]; exact h1), hk, kid_set _ _ _ _ hi, if_pos rfl]
    exact ih h2
theorem sizeL_set (ks : List Tr) (i : Nat) (u : Tr) : sizeL (ks.set i u) ≤ sizeL ks + u.size := by
  induction ks generalizing i with
  | nil => simp [sizeL]
  | cons t ts ih =>
    cases i with
    | zero => simp only [List.set_cons_zero, sizeL]; omega
    | succ i => simp only [List.set_cons_succ, sizeL]; have := ih i; omega
theorem sizeL_set_kid (ks : List Tr) (i : Nat) (u : Tr) (hi : i < ks.length) : sizeL (ks.set i u) + (kid ks i).size = sizeL ks + u.size := by
  induction ks generalizing i with
  | nil => simp at hi
  | cons t ts ih =>
    cases i with
    | zero => simp only [List.set_cons_zero, sizeL, kid, List.getD_cons_zero]; omega
    | succ i =>
      simp only [List.set_cons_succ, sizeL]
      have := ih i (by simpa using hi)
      simp only [kid, List.getD_cons_succ] at this ⊢
      omega
theorem put_size {t s : Tr} (u : Tr) : ∀ {p : List Int}, at? t p = some s → (put t p u).size ≤ t.size + u.size := by
  intro p
  induction p generalizing t with
  | nil => intro _; show u.size ≤ _; omega
  | cons i p ih =>
    intro h
    obtain ⟨h0, h1, h2⟩ := at_yes h
    have hi : i.toNat < t.kids.length := by omega
    have h3 := ih h2
    show (setKid t i.toNat (put (kid t.kids i.toNat) p u)).size ≤ _
    rw [size_kids, size_kids t]
    show sizeL (t.kids.set i.toNat (put (kid t.kids i.toNat) p u)) + 1 ≤ _
    have := sizeL_set_kid t.kids i.toNat (put (kid t.kids i.toNat) p u) hi
    omega
theorem okL_set {ks : List Tr} (h : OkL ks) (i : Nat) {u : Tr} (hu : u.Ok) : OkL (ks.set i u) :=
  okL_of fun t ht => by
    rcases List.mem_or_eq_of_mem_set ht with h1 | rfl
    · exact ok_mem h1 h
    · exact hu
theorem setKid_ok {t u : Tr} (h : t.Ok) (i : Nat) (hu : u.Ok) : (setKid t i u).Ok := by
  unfold setKid
  simp only [Ok]
  exact ⟨ok_kind h, ok_num h, okL_set (ok_kids h) i hu⟩
theorem put_ok {t s u : Tr} : ∀ {p : List Int}, at? t p = some s → t.Ok → u.Ok → (put t p u).Ok := by
  intro p
  induction p generalizing t with
  | nil => intro _ _ hu; exact hu
  | cons i p ih =>
    intro h ht hu
    obtain ⟨h0, h1, h2⟩ := at_yes h
    exact setKid_ok ht _ (ih h2 (ok_mem (kid_mem (by omega)) (ok_kids ht)) hu)
end Tr

/-- The three cells at a place read as a tree; what is below lies in Z. -/
def Slot (Z : Nat → Prop) (w : World) (b o : Nat) (t : Tr) : Prop :=
  ∃ k n a m c, w.cell? ⟨b, o, none⟩ = some (.int .i64 k) ∧ w.cell? ⟨b, o + 1, none⟩ = some (.int .i64 n) ∧ w.cell? ⟨b, o + 2, none⟩ = some (.slice a m c) ∧ IsT w Z k n a m c t
/-- Cells stay, but for the blocks in F and the three cells at the place. -/
def KeepsHole (F : Nat → Prop) (b o : Nat) (w w' : World) : Prop :=
  ∀ (x y : Nat) (v : Value), ¬ F x → ¬ (x = b ∧ o ≤ y ∧ y < o + 3) → w.cell? ⟨x, y, none⟩ = some v → w'.cell? ⟨x, y, none⟩ = some v
/-- Whatever is put at the place (b', o'), the root reads as with that node at the path q. -/
def Ctx (Z : Nat → Prop) (w : World) (b o : Nat) (t : Tr) (q : List Int) (F' : Nat → Prop) (b' o' : Nat) : Prop :=
  ∀ (w' : World) (u : Tr), KeepsHole F' b' o' w w' → Slot Z w' b' o' u → Slot Z w' b o (t.put q u)

theorem Kids.stayS {w w' : World} {F : Nat → Prop} {a : Option Addr} {cap : Nat} {ks : List Tr} (h : Kids w F a cap ks) (hs : ∀ x y v, F x → w.cell? ⟨x, y, none⟩ = some v → w'.cell? ⟨x, y, none⟩ = some v) : Kids w' F a cap ks := by
  induction h with
  | nil => exact .nil
  | empty a cap => exact .empty a cap
  | row b off cap ks A C hpos hl hF h0 h1 h2 _ ih =>
    exact .row b off cap ks A C hpos hl hF (fun i hi => hs _ _ _ hF (h0 i hi)) (fun i hi => hs _ _ _ hF (h1 i hi)) (fun i hi => hs _ _ _ hF (h2 i hi)) ih

theorem Ctx.start (Z : Nat → Prop) (w : World) (b o : Nat) (t : Tr) (F : Nat → Prop) : Ctx Z w b o t [] F b o := fun w' u _ h => h

/-- One step down: the i-th kid of the node at the place. -/
theorem Ctx.step {Z : Nat → Prop} {w : World} {b o : Nat} {t s : Tr} {q : List Int} {F' : Nat → Prop} {b' o' : Nat} {k n : Int} {a : Option Addr} {m c : Nat} (h : Ctx Z w b o t q F' b' o') (hat : Tr.at? t q = some s) (hS : IsS w F' k n a m c s) (hb' : ¬ F' b') (hZ : ∀ x, F' x → Z x)
    (c0 : w.cell? ⟨b', o', none⟩ = some (.int .i64 k)) (c1 : w.cell? ⟨b', o' + 1, none⟩ = some (.int .i64 n)) (c2 : w.cell? ⟨b', o' + 2, none⟩ = some (.slice a m c)) (i : Nat) (hi : i < m) :
    ∃ g k2 n2 a2 m2 c2 G, a = some ⟨g, 0, none⟩ ∧ F' g ∧ (∀ o, w.frozen? ⟨g, o, none⟩ = false) ∧ w.cell? ⟨g, i * 3, none⟩ = some (.int .i64 k2) ∧ w.cell? ⟨g, i * 3 + 1, none⟩ = some (.int .i64 n2) ∧ w.cell? ⟨g, i * 3 + 2, none⟩ = some (.slice a2 m2 c2) ∧
      IsS w G k2 n2 a2 m2 c2 (Tr.kid s.kids i) ∧ ¬ G g ∧ (∀ x, G x → F' x) ∧ Ctx Z w b o t (q ++ [(i : Int)]) G g (i * 3) ∧ Tr.at? t (q ++ [(i : Int)]) = some (Tr.kid s.kids i) := by
  have hi' := hi
  rw [hS.em] at hi'
  obtain ⟨ek, en, em, hok, hsep⟩ := hS
  cases s with
  | node ks' kn kk =>
    simp only [Tr.kids, Tr.kind, Tr.num] at ek en em hi' hsep ⊢
    cases hsep with
    | nil => simp at hi'
    | empty => simp at hi'
    | row _ g cap _ A C G hpos hl hF hG hd hfz h0 h1 h2 hk =>
      have hokk := Tr.ok_mem (Tr.kid_mem hi') (Tr.ok_kids hok)
      refine ⟨g, _, _, _, _, _, G i, rfl, hF, hfz, h0 i hi', h1 i hi', h2 i hi', ⟨rfl, rfl, rfl, hokk, hk i hi'⟩, fun hg => (hG i g hi' hg).2 rfl, fun x hx => (hG i x hi' hx).1, ?_, Tr.at_snoc i hat hi'⟩
      intro w' u hkeep hslot
      have hne : b' ≠ g := fun e => hb' (e ▸ hF)
      rw [Tr.put_snoc (i : Int) u hat, Int.toNat_natCast]
      obtain ⟨ku, nu, au, mu, cu, u0, u1, u2, hU⟩ := hslot
      refine h w' _ (fun x y v hx hxy hv => hkeep x y v (fun hg => hx (hG i x hi' hg).1) (fun hh => hx (hh.1 ▸ hF)) hv) ⟨k, n, some ⟨g, 0, none⟩, m, c, ?_, ?_, ?_, ?_⟩
      · exact hkeep _ _ _ (fun hg => hb' (hG i b' hi' hg).1) (fun hh => hne hh.1) c0
      · exact hkeep _ _ _ (fun hg => hb' (hG i b' hi' hg).1) (fun hh => hne hh.1) c1
      · exact hkeep _ _ _ (fun hg => hb' (hG i b' hi' hg).1) (fun hh => hne hh.1) c2
      · refine ⟨ek, en, ?_, Tr.setKid_ok hok i hU.ok, ?_⟩
        · rw [em]; simp [Tr.setKid, Tr.kids]
        · show Kids w' _ (some ⟨g, 0, none⟩) c (kk.set i u)
          have hln : (kk.set i u).length = kk.length := List.length_set
          refine .row g 0 c _ (fun j => if j = i then au else A j) (fun j => if j = i then cu else C j) (by rw [hln]; exact hpos) (by rw [hln]; exact hl) (hZ g hF) (fun j hj => ?_) (fun j hj => ?_) (fun j hj => ?_) (fun j hj => ?_)
          all_goals rw [hln] at hj
          all_goals rw [Tr.kid_set kk i j u hi']
          all_goals by_cases hji : j = i
          · subst hji; rw [if_pos rfl, Nat.zero_add, ← hU.ek]; exact u0
          · rw [if_neg hji, Nat.zero_add]; exact hkeep _ _ _ (fun hg => (hG i g hi' hg).2 rfl) (fun hh => by omega) (h0 j hj)
          · subst hji; rw [if_pos rfl, Nat.zero_add, ← hU.en]; exact u1
          · rw [if_neg hji, Nat.zero_add]; exact hkeep _ _ _ (fun hg => (hG i g hi' hg).2 rfl) (fun hh => by omega) (h1 j hj)
          · subst hji; simp only [if_true]; rw [Nat.zero_add, ← hU.em]; exact u2
          · simp only [if_neg hji]; rw [Nat.zero_add]; exact hkeep _ _ _ (fun hg => (hG i g hi' hg).2 rfl) (fun hh => by omega) (h2 j hj)
          · subst hji; simp only [if_true]; exact hU.kids
          · simp only [if_neg hji]
            exact ((hk j hj).kids.stayS fun x y v hx hv => hkeep x y v (fun hg => hji (hd j i x hj hi' hx hg)) (fun hh => (hG j x hj hx).2 hh.1) hv).mono fun x hx => hZ x (hG j x hj hx).1
end Go.Proofs.Ytncikklhchimdaa
