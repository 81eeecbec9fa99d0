/- A range over a function whose body is told what each element reads as. No function of the program is named. -/
import Derived.Test.YtncikklhchimdaaTreeJ
namespace Go.Proofs.Ytncikklhchimdaa
open Go.RowKit Go.Shelf
set_option linter.unusedVariables false
set_option linter.unusedSimpArgs false
set_option maxRecDepth 100000

/-- How a round may be left: what is no cells stays (from B on), and the caller's word holds. -/
def roundWord (B b0 : Nat) (I : List Value → World → Prop) (Ix : Code → List Value → World → Prop) (xs : List Value) (W : World) : Exit → Act → World → Prop
  | .normal, _, W' => KeepsFrom B W W' ∧ KeepsBut b0 W W' ∧ I xs W'
  | .ret, _, W' => KeepsFrom B W W' ∧ Ix .ret xs W'
  | .exit id, _, W' => KeepsFrom B W W' ∧ Ix (.exit id) xs W'
  | _, _, _ => False

/-- The record of the loop. -/
def recOf (fn : FuncId) (a : Act) (p : Tmp) (assign body : Code) (D : Nat) (s : LoopState) (c : Option Code) : Loop :=
  { state := s, pending := c, fn, tmps := a.tmps, params := #[p], assign, body, defers := D }

/-- What the loop's own two blocks hold ahead of a round; and when a round has left the loop by c. -/
def Ready (R : LoopState → Option Code → Loop) (D : Nat) (W : World) : Prop := W.heap[D + 1]? = some (.loop (R .ready none)) ∧ W.heap[D]? = some (.deferred (some []))
def Left (R : LoopState → Option Code → Loop) (D : Nat) (c : Code) (W : World) : Prop := W.heap[D + 1]? = some (.loop (R .done (some c))) ∧ W.heap[D]? = some (.deferred (some []))

theorem two_grown {A B : World} {row : Option Nat} {k : Nat} {o : Obj} (hg : A.grownBy B row) (hr : ∀ r, row = some r → ∃ o : Obj, A.heap[r]? = some o ∧ o.isWalk = true) (h : A.heap[k]? = some o) (ho : o.isWalk = false) : B.heap[k]? = some o :=
  (grownBy_keeps hg hr h ho).trans h

/-- One round's end, by the jump that it leaves. -/
theorem round_end {P : Program} {R : LoopState → Option Code → Loop} (hR : ∀ s c s' c', ({ R s c with state := s', pending := c' } : Loop) = R s' c') {D : Nat} {W2 W3 : World} (hl2 : W2.heap[D + 1]? = some (.loop (R .busy none))) (hk2 : W2.heap[D]? = some (.deferred (some []))) (hk : KeepsFrom D W2 W3) (jump : Option Code) :
    ∃ W4, (Instr.endRound (D + 1) jump).run P W3 = .ok (.bool jump.isNone) W4 ∧ W4 = W3.putObj (D + 1) (.loop (R (if jump.isNone then .ready else .done) jump)) ∧ W3.heap[D + 1]? = some (.loop (R .busy none)) ∧
      W4.heap[D + 1]? = some (.loop (R (if jump.isNone then .ready else .done) jump)) ∧ W4.heap[D]? = some (.deferred (some [])) := by
  have hl3 := hk.same _ _ (by omega) hl2 rfl
  have hk3 := hk.same _ _ (Nat.le_refl _) hk2 rfl
  have hrun := run_endRound (P := P) jump hl3
  rw [hR] at hrun
  exact ⟨_, hrun, rfl, hl3, World.putObj_heap_same (Array.getElem?_eq_some_iff.1 hl3).1, (World.putObj_heap_other (by omega)).trans hk3⟩

/-- The iterator's contract: it yields N values; of each the word G holds. -/
def SeqTells (P : Program) (n gf : Nat) (lb : Array Value) (b0 N : Nat) (G : List Value → Value → World → Prop) (w : World) : Prop :=
  ∀ (l : Nat) (J Jx : List Value → World → Prop) (W : World), Below w.heap.size w W → AbidesFrom W.heap.size J →
    (∀ pre x W1, J pre W1 → pre.length < N → G pre x W1 → YieldAt Fence.wide 0 P l #[x] W1 fun e W' => (e = .returned (.bool true) ∧ J (pre ++ [x]) W' ∧ KeepsBut b0 W1 W') ∨ (e = .returned (.bool false) ∧ Jx (pre ++ [x]) W')) →
    J [] W → CallsIn Fence.wide n P gf (#[.func (.yield l) #[] #[]] ++ lb) W fun e W' => (∃ v, e = .returned v) ∧ ((∃ xs, xs.length = N ∧ J xs W') ∨ (∃ pre, Jx pre W'))

theorem wp_range_tells {P : Program} {n : Nat} {g : Operand} {p : Tmp} {assign body : Code} {Q : Exit → Act → World → Prop} {a : Act} {w : World} {gf : Nat} {lb : Array Value} (hg : a.eval g = .func (.func gf) #[] lb)
    (eg : ∀ args w, (callFunc gf args).run P w = .ok (.enter gf args) w) (b0 N : Nat) (G : List Value → Value → World → Prop) (hG : ∀ pre x W l o o', G pre x W → W.heap[l]? = some o → o.isCells = false → G pre x (W.putObj l o'))
    (hseq : SeqTells P (n - 1) gf lb b0 N G w) (I : List Value → World → Prop) (Ix : Code → List Value → World → Prop) (hI : OwnFrom w.heap.size I) (hIx : ∀ c, OwnFrom w.heap.size (Ix c)) (h0 : I [] w) (a₁ : Value → Act)
    (hassign : ∀ (l : Nat) (x : Value) (W : World) (K : Act → World → Prop), K (a₁ x) W → assign.wpIn (Fence.wide.inRound l) 0 P (Exit.then K (fun _ _ _ => False)) { tmps := a.tmps.setIfInBounds p x, defers := [] } W)
    (hbody : ∀ (l : Nat) (pre : List Value) (x : Value) (W : World), I pre W → pre.length < N → G pre x W → body.wpIn (Fence.wide.inRound l) 0 P (roundWord w.heap.size b0 I Ix (pre ++ [x]) W) (a₁ x) W)
    (hdone : ∀ (D : Nat) (xs : List Value) (W : World), w.heap.size ≤ D → xs.length = N → I xs W → W.heap[D]? = some (.deferred (some [])) → Q .normal { a with defers := { target := .collected D, args := #[] } :: a.defers } W)
    (hstop : ∀ (D : Nat) (c : Code) (pre : List Value) (W : World), w.heap.size ≤ D → Ix c pre W → W.heap[D]? = some (.deferred (some [])) → c.wpIn Fence.wide n P Q { a with defers := { target := .collected D, args := #[] } :: a.defers } W) :
    (Code.rangeFunc g #[p] assign body).wpIn Fence.wide n P Q a w := by
  refine wpIn_rangeFunc fun fn hfn => ?_
  obtain ⟨D, hD⟩ : ∃ D, w.heap.size = D := ⟨_, rfl⟩
  obtain ⟨R, hR⟩ : ∃ R, recOf fn a p assign body D = R := ⟨_, rfl⟩
  have hRs : ∀ s c s' c', ({ R s c with state := s', pending := c' } : Loop) = R s' c' := fun s c s' c' => by rw [← hR]; rfl
  obtain ⟨W1, hW1⟩ : ∃ W1, (w.alloc (.deferred (some []))).alloc (.loop (R .ready none)) = W1 := ⟨_, rfl⟩
  have hb1 : Below w.heap.size w W1 := by rw [← hW1]; exact ((Below.refl _ w).alloc (Nat.le_refl _) _).alloc (by simp) _
  have hs1 : W1.heap.size = D + 2 := by rw [← hW1, ← hD]; simp
  have hready : Ready R D W1 := by
    rw [← hW1, ← hD]
    exact ⟨block_new (by simp), block_old (by simp) (block_new rfl)⟩
  rw [hD] at hI hIx hbody hdone hstop
  have hI1 : I [] W1 := by rw [← hW1]; exact hI.alloc _ (hI.alloc _ h0)
  refine ⟨D + 1, [{ target := .collected D, args := #[] }], W1, { target := .fn (.func gf) lb, args := #[.func (.yield (D + 1)) #[] #[]] }, W1, gf, #[.func (.yield (D + 1)) #[] #[]] ++ lb, W1, ?_, ?_, fun _ _ => trivial, ?_, (fun h => by cases h), ?_⟩
  · have h := run_enterLoop_outer (P := P) fn a.tmps #[p] assign body (w := w)
    rw [← hW1, ← hR, ← hD]
    exact h
  · simp only [resolve, hg]
    simp [go_sem]
  · simp [invoke, go_sem, eg]
  have hD1 : ∀ {A : World} {row : Option Nat}, (∀ r, row = some r → W1.heap.size ≤ r ∧ ∃ o : Obj, A.heap[r]? = some o ∧ o.isWalk = true) → (∀ r, row = some r → D ≤ r ∧ ∃ o : Obj, A.heap[r]? = some o ∧ o.isCells = false) := fun hr r e => by
    obtain ⟨h1, o, h2, h3⟩ := hr r e
    exact ⟨by omega, o, h2, Obj.not_cells_of_walk h3⟩
  refine (hseq (D + 1) (fun pre W => I pre W ∧ Ready R D W) (fun pre W => ∃ c, Ix c pre W ∧ Left R D c W) W1 hb1 (fun s A B row hs hgr hr => ?_) (fun pre x W hJ hlen hGx => ?_) ⟨hI1, hready⟩).mono ?_
  · exact ⟨hI s A B row hs.1 hgr (hD1 hr), two_grown hgr (fun r e => (hr r e).2) hs.2.1 rfl, two_grown hgr (fun r e => (hr r e).2) hs.2.2 rfl⟩
  · -- a round
    obtain ⟨hi, hl, hk⟩ := hJ
    have hlt := (Array.getElem?_eq_some_iff.1 hl).1
    have hy := run_yield (P := P) (args := #[x]) hl (by rw [← hR]; rfl)
    have hbeg := run_beginRound (P := P) hl (by rw [← hR]; rfl)
    have hRb : ({ R .ready none with state := .busy } : Loop) = R .busy none := by rw [← hR]; rfl
    rw [hRb] at hbeg
    have hl2 : (W.putObj (D + 1) (.loop (R .busy none))).heap[D + 1]? = some (.loop (R .busy none)) := World.putObj_heap_same hlt
    have hk2 : (W.putObj (D + 1) (.loop (R .busy none))).heap[D]? = some (.deferred (some [])) := (World.putObj_heap_other (by omega)).trans hk
    have hkb : KeepsBut b0 W (W.putObj (D + 1) (.loop (R .busy none))) := KeepsBut.putObj W _ _ _ hl rfl
    refine ⟨fn, a.tmps.setIfInBounds p x, assign, body, ?_, roundIn_of_wpIn trivial (hassign _ x W _ ⟨_, hbeg, wpIn_mono (hbody _ pre x _ (hI.putObj _ hi (by omega) hl rfl) hlen (hG _ _ _ _ _ _ hGx hl rfl)) ?_⟩)⟩
    · rw [← hR] at hy
      simpa [recOf] using hy
    · rintro e a3 W3 hp
      cases e with
      | normal =>
        obtain ⟨hk3, hkb3, hi3⟩ := hp
        obtain ⟨W4, hr, rfl, hl3, hl4, hk4⟩ := round_end (P := P) hRs hl2 hk2 hk3 none
        exact ⟨_, _, hr, .inl ⟨rfl, ⟨hI.putObj _ hi3 (by omega) hl3 rfl, hl4, hk4⟩, (hkb.trans hkb3).trans (KeepsBut.putObj _ _ _ _ hl3 rfl)⟩⟩
      | ret =>
        obtain ⟨hk3, hi3⟩ := hp
        obtain ⟨W4, hr, rfl, hl3, hl4, hk4⟩ := round_end (P := P) hRs hl2 hk2 hk3 (some .ret)
        exact ⟨_, _, hr, .inr ⟨rfl, .ret, (hIx _).putObj _ hi3 (by omega) hl3 rfl, hl4, hk4⟩⟩
      | exit id =>
        obtain ⟨hk3, hi3⟩ := hp
        obtain ⟨W4, hr, rfl, hl3, hl4, hk4⟩ := round_end (P := P) hRs hl2 hk2 hk3 (some (.exit id))
        exact ⟨_, _, hr, .inr ⟨rfl, .exit id, (hIx _).putObj _ hi3 (by omega) hl3 rfl, hl4, hk4⟩⟩
      | goto t => exact hp.elim
      | panic ch => exact hp.elim
      | outgrown => exact hp.elim
  · -- behind it
    rintro e W2 ⟨⟨v, rfl⟩, ⟨xs, hxl, hi, hl, hk⟩ | ⟨pre, c, hi, hl, hk⟩⟩
    · have hr := run_endLoop (P := P) hl (by rw [← hR]; simp [recOf])
      rw [← hR] at hr hl
      exact ⟨none, _, hr, hdone D xs _ (Nat.le_refl _) hxl (hI.putObj _ hi (by omega) hl rfl) ((World.putObj_heap_other (by omega)).trans hk)⟩
    · have hr := run_endLoop (P := P) hl (by rw [← hR]; simp [recOf])
      rw [← hR] at hr hl
      exact ⟨some c, _, hr, hstop D c pre _ (Nat.le_refl _) ((hIx c).putObj _ hi (by omega) hl rfl) ((World.putObj_heap_other (by omega)).trans hk)⟩
end Go.Proofs.Ytncikklhchimdaa
