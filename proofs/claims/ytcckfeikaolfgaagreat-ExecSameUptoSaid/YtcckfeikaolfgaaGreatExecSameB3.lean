/- The contracts and plain laws that the statement ExecSame needs, part 3 of 8: Sums ConvB Roots RootW VecD VecE DftA DftB VecF DftC DftL ConvL StockL SmallL ChirpL GenL PermA PermB PermC PermL ExecL RowZeros VecO RootP GenA RoundR StockB. -/
import Derived.Test.YtcckfeikaolfgaaGreatExecSameB2
namespace Go.Proofs.YtcckfeikaolfgaaGreat.Sm
/-- The same modulo P. -/
def Eqm (a b : Int) : Prop := a % 18446744069414584321 = b % 18446744069414584321
theorem rfl' (a : Int) : Eqm a a := rfl
theorem Eqm.symm {a b : Int} (h : Eqm a b) : Eqm b a := by unfold Eqm at *; exact h.symm
theorem Eqm.trans {a b c : Int} (h : Eqm a b) (k : Eqm b c) : Eqm a c := by unfold Eqm at *; exact h.trans k
theorem Eqm.mod (a : Int) : Eqm (a % 18446744069414584321) a := by unfold Eqm; exact Int.emod_emod _ _
theorem Eqm.add {a b c d : Int} (h : Eqm a b) (k : Eqm c d) : Eqm (a + c) (b + d) := by
  unfold Eqm at *; omega
theorem Eqm.sub {a b c d : Int} (h : Eqm a b) (k : Eqm c d) : Eqm (a - c) (b - d) := by
  unfold Eqm at *; omega
theorem Eqm.mul {a b c d : Int} (h : Eqm a b) (k : Eqm c d) : Eqm (a * c) (b * d) := by
  unfold Eqm at *
  rw [Int.mul_emod, h, k, ← Int.mul_emod]
theorem Eqm.pow {a b : Int} (h : Eqm a b) (n : Nat) : Eqm (a ^ n) (b ^ n) := by
  induction n with
  | zero => rw [Int.pow_zero, Int.pow_zero]; exact rfl' _
  | succ n ih => rw [Int.pow_succ, Int.pow_succ]; exact ih.mul h
/-- The sum of the first n. -/
def S : Nat → (Nat → Int) → Int
  | 0, _ => 0
  | n + 1, f => S n f + f n
theorem S_congr {n : Nat} {f g : Nat → Int} (h : ∀ i, i < n → f i = g i) : S n f = S n g := by
  induction n with
  | zero => rfl
  | succ n ih => simp only [S]; rw [ih (fun i hi => h i (by omega)), h n (by omega)]
theorem S_eqm {n : Nat} {f g : Nat → Int} (h : ∀ i, i < n → Eqm (f i) (g i)) : Eqm (S n f) (S n g) := by
  induction n with
  | zero => exact rfl' _
  | succ n ih => exact (ih (fun i hi => h i (by omega))).add (h n (by omega))
theorem S_add (n : Nat) (f g : Nat → Int) : S n (fun i => f i + g i) = S n f + S n g := by
  induction n with
  | zero => rfl
  | succ n ih => simp only [S, ih]; omega
theorem S_mul (n : Nat) (c : Int) (f : Nat → Int) : S n (fun i => c * f i) = c * S n f := by
  induction n with
  | zero => simp [S]
  | succ n ih => simp only [S, ih, Int.mul_add]
theorem S_mul_r (n : Nat) (c : Int) (f : Nat → Int) : S n (fun i => f i * c) = S n f * c := by
  induction n with
  | zero => simp [S]
  | succ n ih => simp only [S, ih, Int.add_mul]
theorem S_zero (n : Nat) : S n (fun _ => 0) = 0 := by
  induction n with
  | zero => rfl
  | succ n ih => simp only [S, ih]; rfl
theorem S_const (n : Nat) (c : Int) : S n (fun _ => c) = n * c := by
  induction n with
  | zero => simp [S]
  | succ n ih => simp only [S, ih]; rw [Int.natCast_succ, Int.add_mul, Int.one_mul]
theorem S_swap (n m : Nat) (f : Nat → Nat → Int) : S n (fun i => S m (fun j => f i j)) = S m (fun j => S n (fun i => f i j)) := by
  induction n with
  | zero => simp only [S]; rw [S_zero]
  | succ n ih => simp only [S, ih]; rw [← S_add]
/-- A sum with one place that counts. -/
theorem S_one (n k : Nat) (f : Nat → Int) (hk : k < n) (h : ∀ i, i < n → i ≠ k → Eqm (f i) 0) : Eqm (S n f) (f k) := by
  induction n with
  | zero => omega
  | succ n ih =>
    simp only [S]
    by_cases hkn : k = n
    · subst hkn
      have : Eqm (S k f) (S k (fun _ => 0)) := S_eqm (fun i hi => h i (by omega) (by omega))
      rw [S_zero] at this
      have := this.add (rfl' (f k))
      rwa [Int.zero_add] at this
    · have := (ih (by omega) (fun i hi hik => h i (by omega) hik)).add (h n (by omega) (fun e => hkn e.symm))
      rwa [Int.add_zero] at this
/-- The first one apart. -/
theorem S_head (n : Nat) (f : Nat → Int) : S (n + 1) f = f 0 + S n (fun i => f (i + 1)) := by
  induction n with
  | zero => simp [S]
  | succ n ih => rw [S, ih]; simp only [S]; omega
theorem pow_mul' (a b : Int) (n : Nat) : (a * b) ^ n = a ^ n * b ^ n := by
  induction n with
  | zero => simp
  | succ n ih => rw [Int.pow_succ, Int.pow_succ, Int.pow_succ, ih]; simp only [Int.mul_assoc, Int.mul_comm, Int.mul_left_comm]
theorem geo (z : Int) (n : Nat) : (z - 1) * S n (fun i => z ^ i) = z ^ n - 1 := by
  induction n with
  | zero => simp [S]
  | succ n ih => simp only [S, Int.mul_add, ih]; rw [Int.pow_succ, Int.sub_mul, Int.one_mul, Int.mul_comm]; omega
/-- A number that P does not divide can be struck. -/
theorem strike (a b : Int) (h0 : 0 ≤ a) (ha : ¬ Eqm a 0) (h : Eqm (a * b) 0) : Eqm b 0 := by
  obtain ⟨n, rfl⟩ := Int.eq_ofNat_of_zero_le h0
  have h1 : n % Fld.pn ≠ 0 := by
    intro e; apply ha
    unfold Eqm; unfold Fld.pn at e; omega
  have h2 := Fld.fermat n h1
  have h3 : ((n ^ (Fld.pn - 1) % Fld.pn : Nat) : Int) = 1 := by rw [h2]; rfl
  obtain ⟨m, hm⟩ : ∃ m, Fld.pn - 1 = m + 1 := ⟨18446744069414584319, rfl⟩
  rw [hm, Int.natCast_emod, Int.natCast_pow, Int.pow_succ] at h3
  have hp : ((Fld.pn : Nat) : Int) = 18446744069414584321 := rfl
  rw [hp] at h3
  have h4 : Eqm ((n : Int) ^ m * ((n : Int) * b)) ((n : Int) ^ m * 0) := (rfl' _).mul h
  rw [← Int.mul_assoc, Int.mul_zero] at h4
  have h5 : Eqm ((n : Int) ^ m * (n : Int) * b) (1 * b) := Eqm.mul (by unfold Eqm; rw [h3]; rfl) (rfl' b)
  rw [Int.one_mul] at h5
  exact h5.symm.trans h4
theorem strike' (a b : Int) (ha : ¬ Eqm a 0) (h : Eqm (a * b) 0) : Eqm b 0 :=
  strike (a % 18446744069414584321) b (Int.emod_nonneg _ (by omega)) (fun e => ha ((Eqm.mod a).symm.trans e)) (((Eqm.mod a).mul (rfl' b)).trans h)
theorem geo_zero (z : Int) (n : Nat) (h1 : ¬ Eqm z 1) (hn : Eqm (z ^ n) 1) : Eqm (S n (fun i => z ^ i)) 0 := by
  refine strike' (z - 1) _ (fun h => h1 ?_) ?_
  · have := h.add (rfl' 1)
    rwa [Int.sub_add_cancel, Int.zero_add] at this
  · rw [geo]
    have := hn.sub (rfl' 1)
    rwa [Int.sub_self] at this
/-- w is a root of unity of order n, and u its inverse. -/
structure IsRoot (w u : Int) (n : Nat) : Prop where
  pos : 0 < n
  one : Eqm (w ^ n) 1
  least : ∀ m, 0 < m → m < n → ¬ Eqm (w ^ m) 1
  inv : Eqm (w * u) 1
theorem IsRoot.inv_pow {w u : Int} {n : Nat} (h : IsRoot w u n) (i : Nat) : Eqm (w ^ i * u ^ i) 1 := by
  rw [← pow_mul']
  have := h.inv.pow i
  rwa [Int.one_pow] at this
theorem IsRoot.oneU {w u : Int} {n : Nat} (h : IsRoot w u n) : Eqm (u ^ n) 1 := by
  have h1 := h.inv_pow n
  have h2 := h.one.mul (rfl' (u ^ n))
  rw [Int.one_mul] at h2
  exact h2.symm.trans h1
theorem IsRoot.back {w u : Int} {n : Nat} (h : IsRoot w u n) : IsRoot u w n := by
  refine ⟨h.pos, h.oneU, fun m h0 h1 e => h.least m h0 h1 ?_, by rw [Int.mul_comm]; exact h.inv⟩
  have h2 := (rfl' (w ^ m)).mul e
  rw [Int.mul_one] at h2
  exact h2.symm.trans (h.inv_pow m)
theorem IsRoot.times {w u : Int} {n : Nat} (h : IsRoot w u n) (i : Nat) : Eqm (w ^ (n * i)) 1 := by
  rw [Int.pow_mul]
  have := h.one.pow i
  rwa [Int.one_pow] at this
theorem IsRoot.pow_mod {w u : Int} {n : Nat} (h : IsRoot w u n) (i : Nat) : Eqm (w ^ (i % n)) (w ^ i) := by
  have e : i = n * (i / n) + i % n := (Nat.div_add_mod i n).symm
  have h1 : w ^ i = w ^ (n * (i / n)) * w ^ (i % n) := by rw [← Int.pow_add, ← e]
  rw [h1]
  have := (h.times (i / n)).mul (rfl' (w ^ (i % n)))
  rw [Int.one_mul] at this
  exact this.symm
theorem pow_jk (w u : Int) (j i k : Nat) : w ^ (j * i) * u ^ (j * k) = (w ^ i * u ^ k) ^ j := by
  rw [pow_mul', ← Int.pow_mul, ← Int.pow_mul, Nat.mul_comm j i, Nat.mul_comm j k]
/-- Sums of powers of a root. -/
theorem orth {w u : Int} {n : Nat} (h : IsRoot w u n) (i k : Nat) (hi : i < n) (hk : k < n) : Eqm (S n (fun j => w ^ (j * i) * u ^ (j * k))) (if i = k then n else 0) := by
  have e : S n (fun j => w ^ (j * i) * u ^ (j * k)) = S n (fun j => (w ^ i * u ^ k) ^ j) := S_congr (fun j _ => pow_jk w u j i k)
  rw [e]
  by_cases hik : i = k
  · subst hik
    rw [if_pos rfl]
    have h1 : Eqm (S n (fun j => (w ^ i * u ^ i) ^ j)) (S n (fun _ => 1)) := S_eqm (fun j _ => by
      have := (h.inv_pow i).pow j
      rwa [Int.one_pow] at this)
    rwa [S_const, Int.mul_one] at h1
  · rw [if_neg hik]
    refine geo_zero _ n ?_ ?_
    · intro hz
      by_cases hlt : k < i
      · refine h.least (i - k) (by omega) (by omega) ?_
        have e1 : w ^ i * u ^ k = w ^ (i - k) * (w ^ k * u ^ k) := by
          rw [← Int.mul_assoc, ← Int.pow_add, show i - k + k = i by omega]
        rw [e1] at hz
        have h2 := (rfl' (w ^ (i - k))).mul (h.inv_pow k)
        rw [Int.mul_one] at h2
        exact h2.symm.trans hz
      · refine h.back.least (k - i) (by omega) (by omega) ?_
        have e1 : w ^ i * u ^ k = (w ^ i * u ^ i) * u ^ (k - i) := by
          rw [Int.mul_assoc, ← Int.pow_add, show i + (k - i) = k by omega]
        rw [e1] at hz
        have h2 := (h.inv_pow i).mul (rfl' (u ^ (k - i)))
        rw [Int.one_mul] at h2
        exact h2.symm.trans hz
    · rw [pow_mul', ← Int.pow_mul, ← Int.pow_mul, Nat.mul_comm i n, Nat.mul_comm k n]
      have := (h.times i).mul (h.back.times k)
      rwa [Int.one_mul] at this
/-- The transform of X at k. -/
def T (n : Nat) (w : Int) (X : Nat → Int) (k : Nat) : Int := S n (fun i => X i * w ^ (i * k))
theorem T_eqm {n : Nat} {w w' : Int} {X Y : Nat → Int} (hw : Eqm w w') (h : ∀ i, i < n → Eqm (X i) (Y i)) (k : Nat) : Eqm (T n w X k) (T n w' Y k) :=
  S_eqm (fun i hi => (h i hi).mul (hw.pow _))
theorem T_back {w u : Int} {n : Nat} (h : IsRoot w u n) (X : Nat → Int) (k : Nat) (hk : k < n) : Eqm (T n u (T n w X) k) (n * X k) := by
  have e1 : T n u (T n w X) k = S n (fun i => X i * S n (fun j => w ^ (j * i) * u ^ (j * k))) := by
    unfold T
    have : S n (fun j => S n (fun i => X i * w ^ (i * j)) * u ^ (j * k)) = S n (fun j => S n (fun i => X i * (w ^ (j * i) * u ^ (j * k)))) := S_congr (fun j _ => by
      rw [← S_mul_r]; exact S_congr (fun i _ => by rw [Int.mul_assoc, Nat.mul_comm i j]))
    rw [this, S_swap]
    exact S_congr (fun i _ => S_mul n (X i) _)
  rw [e1]
  refine (S_one n k _ hk (fun i hi hik => ?_)).trans ?_
  · have := (rfl' (X i)).mul (orth h i k hi hk)
    rwa [if_neg hik, Int.mul_zero] at this
  · have := (rfl' (X k)).mul (orth h k k hk hk)
    rw [if_pos rfl] at this
    rw [Int.mul_comm (n : Int)]
    exact this
/-- Twice there: backwards, times the length. -/
theorem T_twice {w u : Int} {n : Nat} (h : IsRoot w u n) (X : Nat → Int) (k : Nat) (hk : k < n) : Eqm (T n w (T n w X) k) (n * X ((n - k) % n)) := by
  have h1 : Eqm (T n w (T n w X) k) (T n u (T n w X) ((n - k) % n)) := by
    refine S_eqm (fun i _ => (rfl' _).mul ?_)
    have h2 : Eqm (w ^ k) (u ^ ((n - k) % n)) := by
      refine Eqm.trans ?_ (h.back.pow_mod (n - k)).symm
      have h3 := (h.inv_pow k)
      have h4 := h3.mul (rfl' (u ^ (n - k)))
      rw [Int.mul_assoc, ← Int.pow_add, show k + (n - k) = n by omega, Int.one_mul] at h4
      have h5 := (rfl' (w ^ k)).mul h.oneU
      rw [Int.mul_one] at h5
      exact h5.symm.trans h4
    rw [Nat.mul_comm i k, Nat.mul_comm i, Int.pow_mul, Int.pow_mul]
    exact h2.pow i
  exact h1.trans (T_back h X _ (Nat.mod_lt _ h.pos))
end Go.Proofs.YtcckfeikaolfgaaGreat.Sm

namespace Go.Proofs.YtcckfeikaolfgaaGreat
open Go.RowKit Go.Shelf Sm
set_option linter.unusedVariables false
set_option linter.unusedSimpArgs false
set_option maxRecDepth 100000
/-- One product, if it belongs to the place. -/
def cvT (xs ys : List Int) (n t i j : Nat) : Int := if (i + j) % n = t then nth xs i * nth ys j else 0
def cvS (xs ys : List Int) (n t : Nat) : Int := S xs.length (fun i => S ys.length (fun j => cvT xs ys n t i j))
def cvL (xs ys : List Int) (n : Nat) : List Int := (List.range n).map fun t => cvS xs ys n t % 18446744069414584321
theorem cvL_len (xs ys : List Int) (n : Nat) : (cvL xs ys n).length = n := by simp [cvL]
theorem nth_cvL (xs ys : List Int) (n t : Nat) (h : t < n) : nth (cvL xs ys n) t = cvS xs ys n t % 18446744069414584321 := nth_ofFn _ _ _ h
theorem cvL_fits (xs ys : List Int) (n : Nat) : ∀ x ∈ cvL xs ys n, fits .u64 x := modL_fits _
theorem OwnAt.heap {k : IntKind} {e : TypeId} {w wr : World} {g n : Nat} {f : Nat → Int} (h : OwnAt k e w wr g n f) :
    wr.heap[g]? = some (.cells ((List.range n).map fun j => Value.int k (f j)).toArray e (0, 0)) := by
  obtain ⟨hl, h1 | ⟨g', cap, cur, hv, hg, hc, hcap, hm, hs, ht⟩⟩ := h.own
  · cases h1.1
  · simp only [Value.slice.injEq, Option.some.injEq, Addr.mk.injEq] at hv
    obtain ⟨⟨rfl, _, _⟩, _, rfl⟩ := hv
    rw [hc, ← ht, List.take_of_length_le (by simp; omega)]
theorem OwnAt.of_heap {k : IntKind} {e : TypeId} {w wr : World} {g n : Nat} {f : Nat → Int} (hg : w.heap.size ≤ g) (hm : n ≤ maxLen) (hb : Below w.heap.size w wr)
    (h : wr.heap[g]? = some (.cells ((List.range n).map fun j => Value.int k (f j)).toArray e (0, 0))) : OwnAt k e w wr g n f :=
  ⟨⟨by simp, .inr ⟨g, n, _, rfl, hg, h, Nat.le_refl _, hm, by simp, by rw [List.take_of_length_le (by simp)]⟩⟩, hb⟩
theorem OwnAt.made {k : IntKind} {e : TypeId} {w wx w1 : World} {g n : Nat} (hb : Below w.heap.size w wx) (h : w1.ownsRow w.heap.size e 1 (.slice (some ⟨g, 0, none⟩) n n) n (madeCells #[Value.int k 0] n).toList) (hg : wx.grownBy w1 none) :
    OwnAt k e w w1 g n (fun _ => 0) := by
  refine ⟨?_, hb.grown hg hb.size (by simp)⟩
  have e1 : (madeCells #[Value.int k 0] n).toList = (List.range n).map fun j => Value.int k 0 := by
    rw [toList_madeCells_one]
    apply List.ext_getElem (by simp)
    intro i h1 h2
    simp
  rw [e1] at h
  exact h
end Go.Proofs.YtcckfeikaolfgaaGreat

namespace Go.Proofs.YtcckfeikaolfgaaGreat
open Sm
theorem root_one (n q : Nat) (hq : q * n = Fld.pn - 1) : (7 ^ q) ^ n % Fld.pn = 1 := by
  rw [← Nat.pow_mul, hq]; exact Fld.fermat 7 (by decide)
theorem root_least (n q m : Nat) (hq : q * n = Fld.pn - 1) (h0 : 0 < m) (hm : m < n) : (7 ^ q) ^ m % Fld.pn ≠ 1 := by
  intro h
  rw [← Nat.pow_mul] at h
  have h1 := Fld.seven (q * m) h
  have hq0 : 0 < q := Nat.pos_of_ne_zero (fun e => by subst e; rw [Nat.zero_mul] at hq; exact absurd hq (by decide))
  have h2 : 0 < q * m := Nat.mul_pos hq0 h0
  have h3 := Nat.le_of_dvd h2 h1
  have h4 : q * m < q * n := Nat.mul_lt_mul_of_pos_left hm hq0
  omega
/-- The root of the size n; its inverse. -/
def rtExp (n : Nat) : Nat := 18446744069414584320 / n
def rt (n : Nat) : Int := pw 7 (rtExp n)
def bk (n : Nat) : Int := pw (rt n) 18446744069414584319
def dirRt (n : Nat) (d : Int) : Int := if d = 1 then bk n else rt n
def dirBk (n : Nat) (d : Int) : Int := if d = 1 then rt n else bk n
theorem rtExp_mul (n : Nat) (h : hasSz n = true) : rtExp n * n = Fld.pn - 1 := by
  obtain ⟨h1, _, h3⟩ := hasSz_iff.1 h
  have h4 : 18446744069414584320 % n = 0 := by
    have h5 : ((18446744069414584320 % n : Nat) : Int) = 0 := by rw [Int.natCast_emod]; exact h3
    omega
  exact Nat.div_mul_cancel (Nat.dvd_of_mod_eq_zero h4)
theorem pw_eqm (a : Int) (n : Nat) : Eqm (pw a n) (a ^ n) := by
  unfold pw; exact Eqm.mod _
theorem cast_pow_mod (a e p : Nat) (q : Int) (hq : (p : Int) = q) : ((a ^ e % p : Nat) : Int) = (a : Int) ^ e % q := by
  rw [Int.natCast_emod, Int.natCast_pow, hq]
theorem eqm_pow_one (q n : Nat) : Eqm (((7 : Int) ^ q) ^ n) 1 ↔ (7 ^ q) ^ n % Fld.pn = 1 := by
  have h : ((((7 ^ q) ^ n % Fld.pn : Nat)) : Int) = (((7 ^ q : Nat) : Int)) ^ n % 18446744069414584321 := cast_pow_mod _ _ Fld.pn _ rfl
  rw [Int.natCast_pow] at h
  unfold Eqm
  have h7 : ((7 : Nat) : Int) = 7 := rfl
  rw [h7] at h
  rw [← h, show (1 : Int) % 18446744069414584321 = 1 from rfl]
  omega
theorem rt_pow (n m : Nat) : Eqm (rt n ^ m) (((7 : Int) ^ rtExp n) ^ m) := (pw_eqm 7 _).pow m
theorem rt_range (n : Nat) : 0 ≤ rt n ∧ rt n < 18446744069414584321 := pw_range _ _
theorem bk_range (n : Nat) : 0 ≤ bk n ∧ bk n < 18446744069414584321 := pw_range _ _
theorem dirRt_range (n : Nat) (d : Int) : 0 ≤ dirRt n d ∧ dirRt n d < 18446744069414584321 := by
  unfold dirRt; split
  · exact bk_range n
  · exact rt_range n
theorem isRoot_rt (n : Nat) (h : hasSz n = true) : IsRoot (rt n) (bk n) n := by
  have hm := rtExp_mul n h
  have hn := (hasSz_iff.1 h).1
  have h1 : Eqm (rt n ^ n) 1 := (rt_pow n n).trans ((eqm_pow_one _ _).2 (root_one n _ hm))
  refine ⟨by omega, h1, fun m h0 hlt e => root_least n _ m hm h0 hlt ((eqm_pow_one _ _).1 ((rt_pow n m).symm.trans e)), ?_⟩
  have hz : rt n % 18446744069414584321 ≠ 0 := by
    intro e
    have e0 : Eqm (rt n) 0 := by unfold Eqm; rw [e]; rfl
    obtain ⟨k, hk⟩ : ∃ k, n = k + 1 := ⟨n - 1, by omega⟩
    have h2 := (rfl' (rt n ^ k)).mul e0
    rw [← Int.pow_succ, Nat.succ_eq_add_one, ← hk, Int.mul_zero] at h2
    have h3 := h1.symm.trans h2
    exact absurd h3 (by unfold Eqm; decide)
  have := pw_inv (rt n) (rt_range n).1 hz
  unfold Eqm bk
  rw [this]; rfl
theorem isRoot_dir (n : Nat) (d : Int) (h : hasSz n = true) : IsRoot (dirRt n d) (dirBk n d) n := by
  unfold dirRt dirBk
  split
  · exact (isRoot_rt n h).back
  · exact isRoot_rt n h
end Go.Proofs.YtcckfeikaolfgaaGreat

namespace Go.Proofs.YtcckfeikaolfgaaGreat
open Go.RowKit
set_option linter.unusedVariables false
set_option linter.unusedSimpArgs false
set_option maxRecDepth 100000
theorem quo_bd (n : Int) (h : 1 ≤ n) : 0 ≤ 18446744069414584320 / n ∧ 18446744069414584320 / n ≤ 18446744069414584320 :=
  ⟨Int.ediv_nonneg (by omega) (by omega), Int.ediv_le_self _ (by omega)⟩
theorem toNat_quo (n : Nat) : (18446744069414584320 / (n : Int)).toNat = rtExp n := by
  unfold rtExp
  have h : (18446744069414584320 / (n : Int)) = ((18446744069414584320 / n : Nat) : Int) := by rw [Int.natCast_ediv]; rfl
  rw [h, Int.toNat_natCast]
set_option maxHeartbeats 400000 in
theorem rootRoot_yes (n : Nat) (w : World) (h : hasSz n = true) :
    Calls Tryz.prog 69 #[.int .i64 n] w fun e w' => e = .returned (.tuple #[.int .u64 (rt n), .int .i64 0]) ∧ w = w' := by
  obtain ⟨h1, h2, h3⟩ := hasSz_iff.1 h
  have hq := quo_bd (n : Int) h1
  have h0 : ((n : Int) == 0) = false := bno (by omega)
  have ht := Lib.hid (toNat_quo n)
  have H := Lib.hid h
  clear h h3
  go_enter Tryz.func69, Tryz.ntmps69
  go_wp2_with fail
  refine (rootHas_yes _ _ H.out).mono ?_; rintro e w' ⟨rfl, rfl⟩
  go_wp2_with (go_at_call 93; refine (gold_Pow _ _ _ (by omega) (by omega) (by omega) (by omega)).mono ?_; rintro e w' ⟨rfl, rfl⟩)
  go_ret2
  exact ⟨by rw [ht.out]; rfl, rfl⟩
theorem rootBack_yes (n : Nat) (w : World) (h : hasSz n = true) :
    Calls Tryz.prog 70 #[.int .i64 n] w fun e w' => e = .returned (.tuple #[.int .u64 (bk n), .int .i64 0]) ∧ w = w' := by
  have H := Lib.hid h
  have hr := rt_range n
  clear h
  go_enter Tryz.func70, Tryz.ntmps70
  go_wp2_with fail
  refine (rootRoot_yes _ _ H.out).mono ?_; rintro e w' ⟨rfl, rfl⟩
  go_wp2_with (go_at_call 94; refine (gold_Inv _ _ (by omega) (by omega)).mono ?_; rintro e w' ⟨rfl, rfl⟩)
  go_ret2
  exact ⟨rfl, rfl⟩
def powL (a : Int) (n : Nat) : List Int := (List.range n).map fun i => pw a i
theorem powL_len (a : Int) (n : Nat) : (powL a n).length = n := by simp [powL]
theorem powL_fits (a : Int) (n : Nat) : ∀ x ∈ powL a n, fits .u64 x := by
  intro x hx; obtain ⟨i, _, rfl⟩ := List.mem_map.1 hx
  have := pw_range a i
  exact fits_u64.2 (by omega)
theorem pw_succ (a : Int) (i : Nat) : pw a i * a % 18446744069414584321 = pw a (i + 1) := by
  unfold pw; rw [modmul_l, ← Int.pow_succ]
theorem pw_0 (a : Int) : pw a 0 = 1 := by unfold pw; simp
end Go.Proofs.YtcckfeikaolfgaaGreat

namespace Go.Proofs.YtcckfeikaolfgaaGreat
open Go.RowKit
set_option linter.unusedVariables false
set_option linter.unusedSimpArgs false
set_option maxRecDepth 100000
set_option maxHeartbeats 400000 in
theorem vec_Mul (a b : Option Addr) (n m ca cb : Nat) (xs ys : List Int) (w : World) (hx : Row .u64 w a xs) (hy : Row .u64 w b ys) (hn : xs.length = n) (hm : ys.length = m) (hl : n = m) (hs : n ≤ 16777216) :
    Calls Tryz.prog 108 #[.slice a n ca, .slice b m cb] w (GivesRowE .u64 (mulL xs ys) 0 w) := by
  subst hn hm
  have hent : ∀ args w, (callFunc 68 args).run Tryz.prog w = .ok (.enter 68 args) w := enters_of Tryz.func68 (by kernel_rfl) rfl
  have hop : IsOp 68 (fun x y => x * y) := fun a b w a0 a1 b0 b1 => gold_Mul a b w a0 a1 b0 b1
  have HOP := Lib.hid hop
  have HL := Lib.hid hl
  have HX := Lib.hid hx
  have HY := Lib.hid hy
  clear hop hl hx hy
  go_enter Tryz.func108, Tryz.ntmps108
  go_wp2_with fail
  refine (vec_both 68 (fun x y => x * y) hent HOP.out a b ca cb xs ys _ HX.out HY.out HL.out (by omega)).mono ?_
  rintro e w' ⟨a', cap', rfl, hr, hnil, hb⟩
  go_wp2_with fail
  go_ret2
  exact ⟨a', cap', rfl, hr, hnil, hb⟩
end Go.Proofs.YtcckfeikaolfgaaGreat

namespace Go.Proofs.YtcckfeikaolfgaaGreat
open Go.RowKit
set_option linter.unusedVariables false
set_option linter.unusedSimpArgs false
set_option maxRecDepth 100000
def scaleL (xs : List Int) (c : Int) : List Int := (List.range xs.length).map fun i => nth xs i * c % 18446744069414584321
theorem mul_quiet (a b : Int) (w : World) (n : Nat) (h0 : 0 ≤ a) (h1 : a < 18446744073709551616) (h2 : 0 ≤ b) (h3 : b < 18446744073709551616) :
    Calls Tryz.prog 68 #[.int .u64 a, .int .u64 b] (w.drewN n) fun e w' => e = .returned (.int .u64 (a * b % 18446744069414584321)) ∧ ∃ m, w' = w.drewN m :=
  Calls.quiet_of_same ((gold_Mul a b _ h0 h1 h2 h3).mono fun e w' ⟨x, y⟩ => ⟨x, y.symm⟩)
set_option maxHeartbeats 400000 in
theorem vec_Scale1 (i : Nat) (a : Option Addr) (cap : Nat) (xs : List Int) (c : Int) (p q : Nat) (w : World) (hi : i < xs.length) (hc : w.cell? ⟨p, 0, none⟩ = some (.slice a xs.length cap)) (hc2 : w.cell? ⟨q, 0, none⟩ = some (.int .u64 c)) (h0 : 0 ≤ c) (h1 : c < 18446744073709551616) (hx : Row .u64 w a xs) :
    Calls Tryz.prog 124 #[.int .i64 i, .pointer (some ⟨p, 0, none⟩), .pointer (some ⟨q, 0, none⟩)] w fun e w' => e = .returned (.int .u64 (nth xs i * c % 18446744069414584321)) ∧ Below w.heap.size w w' := by
  have hl := hx.len
  obtain ⟨b, off, rfl, hcs⟩ := hx.at (by omega)
  have hck := hcs _ hi
  have hf := fits_u64.1 (hx.wf _ (nth_mem hi))
  have j0 : (0 : Int) ≤ (i : Int) := by omega
  have j1 : (i : Int) < (xs.length : Int) := by omega
  clear hcs hx
  go_enter Tryz.func124, Tryz.ntmps124
  go_wp2_with fail
  go_quiet ((go_at_call 68; exact mul_quiet _ _ _ _ hf.1 hf.2 h0 h1))
  go_wp2_with fail
  go_ret
  exact ⟨rfl, below_drewN (Below.refl _ _) _⟩
set_option maxHeartbeats 400000 in
theorem vec_Scale (a : Option Addr) (cap : Nat) (xs : List Int) (c : Int) (w : World) (hx : Row .u64 w a xs) (hl : xs.length ≤ 16777216) (h0 : 0 ≤ c) (h1 : c < 18446744073709551616) :
    Calls Tryz.prog 109 #[.slice a xs.length cap, .int .u64 c] w (GivesRow .u64 (scaleL xs c) w) := by
  have hent : ∀ args w, (callFunc 124 args).run Tryz.prog w = .ok (.enter 124 args) w := enters_of Tryz.func124 (by kernel_rfl) rfl
  obtain ⟨W, hW⟩ : ∃ W : World, W = (w.alloc (.cells #[.slice a xs.length cap] 25)).alloc (.cells #[.int .u64 c] 38) := ⟨_, rfl⟩
  have hWb : Below w.heap.size w W := hW ▸ ((Below.refl _ _).alloc (Nat.le_refl _) _).alloc (by simp) _
  have hc0 : W.cell? ⟨w.heap.size, 0, none⟩ = some (.slice a xs.length cap) := by subst hW; simp
  have hc1 : W.cell? ⟨w.heap.size + 1, 0, none⟩ = some (.int .u64 c) := by subst hW; simp
  have hsz : w.heap.size + 2 = W.heap.size := by subst hW; simp
  have hf : ∀ (i : Nat) (wr : World), i < xs.length → Below W.heap.size W wr →
      Calls Tryz.prog 124 (#[.int .i64 i] ++ #[.pointer (some ⟨w.heap.size, 0, none⟩), .pointer (some ⟨w.heap.size + 1, 0, none⟩)]) wr fun e w' => e = .returned (.int .u64 (nth xs i * c % 18446744069414584321)) ∧ Below wr.heap.size wr w' :=
    fun i wr hi hb => vec_Scale1 i a cap xs c w.heap.size (w.heap.size + 1) wr hi (by rw [hb.cell (by show w.heap.size < W.heap.size; omega)]; exact hc0) (by rw [hb.cell (by show w.heap.size + 1 < W.heap.size; omega)]; exact hc1) h0 h1 ((hx.below hWb).below hb)
  have HF := Lib.hid hf
  have HB := Lib.hid hWb
  clear hf hx hWb hc0 hc1 hsz
  subst hW
  go_enter Tryz.func109, Tryz.ntmps109
  go_wp2_with fail
  refine (vec_each xs.length (fun i => nth xs i * c % 18446744069414584321) _ _ _ hl (modfits _) hent HF.out).mono ?_
  rintro e w' ⟨a', cap', rfl, hr, hnil, hb⟩
  go_wp2_with fail
  go_ret
  exact ⟨a', cap', by simp [scaleL], hr, hnil, HB.out.trans (hb.mono HB.out.size)⟩
end Go.Proofs.YtcckfeikaolfgaaGreat

namespace Go.Proofs.YtcckfeikaolfgaaGreat
open Go.RowKit Sm
set_option linter.unusedVariables false
set_option linter.unusedSimpArgs false
set_option maxRecDepth 100000
/-- The sum of a row times the powers of a number. -/
def pt (xs : List Int) (st : Int) : Int := S xs.length (fun i => nth xs i * st ^ i) % 18446744069414584321
theorem pt_range (xs : List Int) (st : Int) : 0 ≤ pt xs st ∧ pt xs st < 18446744069414584321 := by unfold pt; omega
end Go.Proofs.YtcckfeikaolfgaaGreat

namespace Go.Proofs.YtcckfeikaolfgaaGreat
open Go.RowKit Sm
set_option linter.unusedVariables false
set_option linter.unusedSimpArgs false
set_option maxRecDepth 100000
def dftL (xs : List Int) (z : Int) : List Int := (List.range xs.length).map fun k => pt xs (pw z k)
theorem dftL_len (xs : List Int) (z : Int) : (dftL xs z).length = xs.length := by simp [dftL]
theorem dftL_fits (xs : List Int) (z : Int) : ∀ x ∈ dftL xs z, fits .u64 x := by
  intro x hx; obtain ⟨i, _, rfl⟩ := List.mem_map.1 hx
  have := pt_range xs (pw z i)
  exact fits_u64.2 (by omega)
end Go.Proofs.YtcckfeikaolfgaaGreat

namespace Go.Proofs.YtcckfeikaolfgaaGreat
open Go.RowKit
set_option linter.unusedVariables false
set_option linter.unusedSimpArgs false
set_option maxRecDepth 100000
theorem scaleL_len (xs : List Int) (c : Int) : (scaleL xs c).length = xs.length := by simp [scaleL]
end Go.Proofs.YtcckfeikaolfgaaGreat

namespace Go.Proofs.YtcckfeikaolfgaaGreat
open Go.RowKit Sm
set_option linter.unusedVariables false
set_option linter.unusedSimpArgs false
set_option maxRecDepth 100000
theorem vec_ScaleN (a : Option Addr) (n cap : Nat) (xs : List Int) (c : Int) (w : World) (hx : Row .u64 w a xs) (hn : xs.length = n) (hl : xs.length ≤ 16777216) (h0 : 0 ≤ c) (h1 : c < 18446744073709551616) :
    Calls Tryz.prog 109 #[.slice a n cap, .int .u64 c] w (GivesRow .u64 (scaleL xs c) w) := by
  subst hn; exact vec_Scale a cap xs c w hx hl h0 h1
theorem GivesRow.step {k : IntKind} {xs : List Int} {w w1 w2 : World} {e : Ending} (h : GivesRow k xs w1 e w2) (hb : Below w.heap.size w w1) : GivesRow k xs w e w2 := by
  obtain ⟨a, cap, he, hr, hc, hb2⟩ := h
  exact ⟨a, cap, he, hr, hc, chain hb hb2⟩
def invN (n : Nat) : Int := pw (n : Int) 18446744069414584319
theorem invN_range (n : Nat) : 0 ≤ invN n ∧ invN n < 18446744069414584321 := pw_range _ _
end Go.Proofs.YtcckfeikaolfgaaGreat

namespace Go.Proofs.YtcckfeikaolfgaaGreat
open Sm
set_option linter.unusedVariables false
set_option linter.unusedSimpArgs false
set_option maxRecDepth 100000
theorem eq_of_eqm {a b : Int} (h : Eqm a b) (a0 : 0 ≤ a) (a1 : a < 18446744069414584321) (b0 : 0 ≤ b) (b1 : b < 18446744069414584321) : a = b := by
  unfold Eqm at h
  rwa [Int.emod_eq_of_lt a0 a1, Int.emod_eq_of_lt b0 b1] at h
theorem pt_T (xs : List Int) (z : Int) (k : Nat) : Eqm (pt xs (pw z k)) (T xs.length z (nth xs) k) := by
  unfold pt T
  refine (Eqm.mod _).trans (S_eqm fun i _ => (rfl' _).mul ?_)
  rw [Nat.mul_comm, Int.pow_mul]
  exact (pw_eqm z k).pow i
theorem nth_dftL (xs : List Int) (z : Int) (k : Nat) (h : k < xs.length) : nth (dftL xs z) k = pt xs (pw z k) := nth_ofFn _ _ _ h
theorem dftL_T (xs : List Int) (z : Int) (k : Nat) (h : k < xs.length) : Eqm (nth (dftL xs z) k) (T xs.length z (nth xs) k) := by
  rw [nth_dftL xs z k h]; exact pt_T xs z k
theorem nth_scaleL (xs : List Int) (c : Int) (k : Nat) (h : k < xs.length) : nth (scaleL xs c) k = nth xs k * c % 18446744069414584321 := nth_ofFn _ _ _ h
theorem inv_n (n : Nat) (h1 : 1 ≤ n) (h2 : n ≤ 16777216) : Eqm ((n : Int) * invN n) 1 := by
  have := pw_inv (n : Int) (by omega) (by omega)
  unfold Eqm invN
  rw [this]; rfl
theorem dir_swap (n : Nat) (d : Int) (hd : d = 0 ∨ d = 1) : dirRt n (1 - d) = dirBk n d := by
  unfold dirRt dirBk
  rcases hd with h | h
  · rw [if_pos (by omega), if_neg (by omega)]
  · rw [if_neg (by omega), if_pos h]
theorem dft_twice (xs : List Int) (d : Int) (hs : hasSz xs.length = true) : dftL (dftL xs (dirRt xs.length d)) (dirRt xs.length d) = scaleL (revL xs) xs.length := by
  have hr := isRoot_dir xs.length d hs
  apply ext_nth (by rw [dftL_len, dftL_len, scaleL_len, revL_len])
  intro k hk
  have hk' : k < xs.length := by rwa [dftL_len, dftL_len] at hk
  have hku : k < (dftL xs (dirRt xs.length d)).length := by rwa [dftL_len]
  have e1 := dftL_T (dftL xs (dirRt xs.length d)) (dirRt xs.length d) k hku
  rw [dftL_len] at e1
  have e2 := (T_eqm (rfl' (dirRt xs.length d)) (fun i hi => dftL_T xs (dirRt xs.length d) i hi) k).trans (T_twice hr (nth xs) k hk')
  rw [nth_scaleL _ _ _ (by rw [revL_len]; exact hk')]
  have e3 : nth (revL xs) k = nth xs (revAt xs.length k) % 18446744069414584321 := nth_ofFn _ _ _ hk'
  rw [e3]
  refine eq_of_eqm ((e1.trans e2).trans ?_) ?_ ?_ (by omega) (by omega)
  · rw [Int.mul_comm]
    exact (((Eqm.mod _).symm).mul (rfl' _)).trans (Eqm.mod _).symm
  · rw [nth_dftL _ _ _ hku]; exact (pt_range _ _).1
  · rw [nth_dftL _ _ _ hku]; exact (pt_range _ _).2
end Go.Proofs.YtcckfeikaolfgaaGreat

namespace Go.Proofs.YtcckfeikaolfgaaGreat
open Sm
set_option linter.unusedVariables false
set_option linter.unusedSimpArgs false
set_option maxRecDepth 100000
/-- Where the other number stands, around n places. -/
def othAt (n k i : Nat) : Nat := (k + n - i) % n
theorem othAt_lt (n k i : Nat) (h : 0 < n) : othAt n k i < n := Nat.mod_lt _ h
theorem othAt_sum (n k i : Nat) (hi : i < n) (hk : k < n) : (i + othAt n k i) % n = k := by
  unfold othAt
  rw [Nat.add_mod_mod, show i + (k + n - i) = k + n by omega, Nat.add_mod_right, Nat.mod_eq_of_lt hk]
theorem othAt_of (n k i j : Nat) (hi : i < n) (hj : j < n) (h : (i + j) % n = k) : j = othAt n k i := by
  unfold othAt
  by_cases hlt : i + j < n
  · rw [Nat.mod_eq_of_lt hlt] at h
    rw [show k + n - i = j + n by omega, Nat.add_mod_right, Nat.mod_eq_of_lt hj]
  · have e : (i + j) % n = i + j - n := by
      rw [Nat.mod_eq_sub_mod (by omega), Nat.mod_eq_of_lt (by omega)]
    rw [e] at h
    rw [show k + n - i = j by omega, Nat.mod_eq_of_lt hj]
theorem emod_of_eqm {a b : Int} (h : Eqm a b) : a % 18446744069414584321 = b % 18446744069414584321 := h
theorem cyc_at (xs ys : List Int) (n k : Nat) (hx : xs.length = n) (hy : ys.length = n) (hk : k < n) :
    cvS xs ys n k % 18446744069414584321 = S n (fun i => nth xs i * nth ys (othAt n k i)) % 18446744069414584321 := by
  refine emod_of_eqm ?_
  unfold cvS
  rw [hx, hy]
  refine S_eqm fun i hi => ?_
  have h := S_one n (othAt n k i) (fun j => cvT xs ys n k i j) (othAt_lt n k i (by omega)) (fun j hj hne => by
    unfold cvT; rw [if_neg (fun e => hne (othAt_of n k i j hi hj e))]; exact rfl' _)
  refine h.trans ?_
  show Eqm (cvT xs ys n k i (othAt n k i)) _
  unfold cvT; rw [if_pos (othAt_sum n k i hi hk)]; exact rfl' _
theorem nth_out (xs : List Int) (i : Nat) (h : xs.length ≤ i) : nth xs i = 0 := by simp [nth, h]
/-- The transform of a product around. -/
theorem T_conv (w u : Int) (n : Nat) (h : IsRoot w u n) (xs ys : List Int) (hx : xs.length = n) (hy : ys.length = n) (k : Nat) : Eqm (T n w (fun t => cvS xs ys n t) k) (T n w (nth xs) k * T n w (nth ys) k) := by
  have e1 : T n w (fun t => cvS xs ys n t) k = S n (fun i => S n (fun j => S n (fun t => cvT xs ys n t i j * w ^ (t * k)))) := by
    unfold T cvS
    rw [hx, hy]
    have e2 : S n (fun t => S n (fun i => S n (fun j => cvT xs ys n t i j)) * w ^ (t * k)) = S n (fun t => S n (fun i => S n (fun j => cvT xs ys n t i j * w ^ (t * k)))) := S_congr fun t _ => by
      rw [← S_mul_r]; exact S_congr fun i _ => by rw [← S_mul_r]
    rw [e2, S_swap]
    exact S_congr fun i _ => S_swap _ _ _
  have e3 : T n w (nth xs) k * T n w (nth ys) k = S n (fun i => S n (fun j => (nth xs i * w ^ (i * k)) * (nth ys j * w ^ (j * k)))) := by
    unfold T
    rw [← S_mul_r]
    exact S_congr fun i _ => by rw [← S_mul]
  rw [e1, e3]
  refine S_eqm fun i hi => S_eqm fun j hj => ?_
  have h1 := S_one n ((i + j) % n) (fun t => cvT xs ys n t i j * w ^ (t * k)) (Nat.mod_lt _ (by omega)) (fun t ht hne => by
    show Eqm (cvT xs ys n t i j * w ^ (t * k)) 0
    unfold cvT; rw [if_neg (fun e => hne e.symm), Int.zero_mul]; exact rfl' _)
  refine h1.trans ?_
  show Eqm (cvT xs ys n ((i + j) % n) i j * w ^ ((i + j) % n * k)) _
  unfold cvT
  rw [if_pos rfl]
  have h2 : Eqm (w ^ ((i + j) % n * k)) (w ^ (i * k) * w ^ (j * k)) := by
    rw [Int.pow_mul, ← Int.pow_add, ← Nat.add_mul, show w ^ ((i + j) * k) = (w ^ (i + j)) ^ k from Int.pow_mul]
    exact (h.pow_mod (i + j)).pow k
  have e4 : nth xs i * w ^ (i * k) * (nth ys j * w ^ (j * k)) = nth xs i * nth ys j * (w ^ (i * k) * w ^ (j * k)) := by
    simp only [Int.mul_assoc, Int.mul_left_comm, Int.mul_comm]
  rw [e4]
  exact (rfl' _).mul h2
theorem nth_mulL (xs ys : List Int) (k : Nat) (h : k < xs.length) : nth (mulL xs ys) k = nth xs k * nth ys k % 18446744069414584321 := nth_ofFn _ _ _ h
theorem dft_conv (xs ys : List Int) (n : Nat) (z u : Int) (hr : IsRoot z u n) (hx : xs.length = n) (hy : ys.length = n) : dftL (cvL xs ys n) z = mulL (dftL xs z) (dftL ys z) := by
  apply ext_nth (by rw [dftL_len, cvL_len, show (mulL (dftL xs z) (dftL ys z)).length = (dftL xs z).length from zipL_len _ _ _, dftL_len, hx])
  intro k hk
  rw [dftL_len, cvL_len] at hk
  rw [nth_mulL _ _ _ (by rw [dftL_len]; omega), nth_dftL _ _ _ (by rw [cvL_len]; exact hk), nth_dftL _ _ _ (by omega), nth_dftL _ _ _ (by omega)]
  have h1 := pt_T (cvL xs ys n) z k
  rw [cvL_len] at h1
  have h2 : Eqm (T n z (nth (cvL xs ys n)) k) (T n z (fun t => cvS xs ys n t) k) := T_eqm (rfl' z) (fun t ht => by rw [nth_cvL _ _ _ _ ht]; exact Eqm.mod _) k
  have h3 := T_conv z u n hr xs ys hx hy k
  have h4 := (pt_T xs z k).mul (pt_T ys z k)
  rw [hx, hy] at h4
  have h5 := ((h1.trans h2).trans h3).trans h4.symm
  have b := pt_range (cvL xs ys n) (pw z k)
  unfold Eqm at h5
  rw [Int.emod_eq_of_lt b.1 b.2] at h5
  exact h5
end Go.Proofs.YtcckfeikaolfgaaGreat

namespace Go.Proofs.YtcckfeikaolfgaaGreat
open Sm
set_option linter.unusedVariables false
set_option linter.unusedSimpArgs false
set_option maxRecDepth 100000
def passAt (xs ws : List Int) (s k : Nat) : Int :=
  if k / s % 2 = 0 then (nth xs (k % s + s * (k / s / 2)) + nth xs (k % s + s * (k / s / 2) + xs.length / 2)) % 18446744069414584321
  else (nth xs (k % s + s * (k / s / 2)) - nth xs (k % s + s * (k / s / 2) + xs.length / 2)) * nth ws (k / s / 2 * s) % 18446744069414584321
def passL (xs ws : List Int) (s : Nat) : List Int := (List.range xs.length).map (passAt xs ws s)
def withTo (xs ws : List Int) : Nat → List Int
  | 0 => xs.map (· % 18446744069414584321)
  | j + 1 => passL (withTo xs ws j) ws (2 ^ j)
theorem passL_len (xs ws : List Int) (s : Nat) : (passL xs ws s).length = xs.length := by simp [passL]
theorem nth_passL (xs ws : List Int) (s k : Nat) (h : k < xs.length) : nth (passL xs ws s) k = passAt xs ws s k := nth_ofFn _ _ _ h
theorem passAt_range (xs ws : List Int) (s k : Nat) : 0 ≤ passAt xs ws s k ∧ passAt xs ws s k < 18446744069414584321 := by unfold passAt; split <;> omega
theorem passL_fits (xs ws : List Int) (s : Nat) : ∀ x ∈ passL xs ws s, fits .u64 x := by
  intro x hx
  obtain ⟨k, _, rfl⟩ := List.mem_map.1 hx
  have := passAt_range xs ws s k
  exact fits_u64.2 (by omega)
theorem withTo_len (xs ws : List Int) (j : Nat) : (withTo xs ws j).length = xs.length := by
  induction j with
  | zero => simp [withTo]
  | succ j ih => simp only [withTo]; rw [passL_len, ih]
theorem withTo_range (xs ws : List Int) (j k : Nat) (hk : k < xs.length) : 0 ≤ nth (withTo xs ws j) k ∧ nth (withTo xs ws j) k < 18446744069414584321 := by
  cases j with
  | zero => simp only [withTo]; rw [nth_map _ _ _ hk]; omega
  | succ j => simp only [withTo]; rw [nth_passL _ _ _ _ (by rw [withTo_len]; exact hk)]; exact passAt_range _ _ _ _
theorem S_double (n : Nat) (f : Nat → Int) : S (2 * n) f = S n (fun i => f (2 * i)) + S n (fun i => f (2 * i + 1)) := by
  induction n with
  | zero => rfl
  | succ n ih =>
    rw [show 2 * (n + 1) = 2 * n + 1 + 1 by omega]
    simp only [S, ih]
    omega
theorem fft_step (w : Int) (s h : Nat) (hs : 0 < s) (hm1 : Eqm (w ^ (s * h)) (-1)) (X Y Z : Nat → Int)
    (hY : ∀ q t, q < s → t < 2 * h → Eqm (Y (q + s * t)) (S s (fun i => X (t + i * (2 * h)) * w ^ (q * (t + i * (2 * h))))))
    (hZ0 : ∀ q p, q < s → p < h → Eqm (Z (q + 2 * s * p)) (Y (q + s * p) + Y (q + s * (p + h))))
    (hZ1 : ∀ q p, q < s → p < h → Eqm (Z (q + s + 2 * s * p)) ((Y (q + s * p) - Y (q + s * (p + h))) * w ^ (p * s))) :
    ∀ Q p, Q < 2 * s → p < h → Eqm (Z (Q + 2 * s * p)) (S (2 * s) (fun i => X (p + i * h) * w ^ (Q * (p + i * h)))) := by
  intro Q p hQ hp
  have e0 : ∀ i, 2 * i * h = i * (2 * h) := fun i => by rw [Nat.mul_comm 2 i, Nat.mul_assoc]
  have e1 : ∀ i, (2 * i + 1) * h = i * (2 * h) + h := fun i => by rw [Nat.add_mul, e0, Nat.one_mul]
  by_cases hlt : Q < s
  · refine (hZ0 Q p hlt hp).trans ?_
    rw [S_double]
    refine ((hY Q p hlt (by omega)).add (hY Q (p + h) hlt (by omega))).trans ?_
    have a1 : S s (fun i => X (p + h + i * (2 * h)) * w ^ (Q * (p + h + i * (2 * h)))) = S s (fun i => X (p + (2 * i + 1) * h) * w ^ (Q * (p + (2 * i + 1) * h))) := S_congr fun i _ => by
      rw [e1, show p + h + i * (2 * h) = p + (i * (2 * h) + h) by omega]
    have a0 : S s (fun i => X (p + i * (2 * h)) * w ^ (Q * (p + i * (2 * h)))) = S s (fun i => X (p + 2 * i * h) * w ^ (Q * (p + 2 * i * h))) := S_congr fun i _ => by rw [e0]
    rw [a0, a1]; exact rfl' _
  · obtain ⟨q, rfl⟩ : ∃ q, Q = q + s := ⟨Q - s, by omega⟩
    refine (hZ1 q p (by omega) hp).trans ?_
    rw [S_double]
    refine (((hY q p (by omega) (by omega)).sub (hY q (p + h) (by omega) (by omega))).mul (rfl' _)).trans ?_
    rw [Int.sub_mul, ← S_mul_r, ← S_mul_r]
    have hpow : ∀ i, Eqm ((w ^ (s * h)) ^ (2 * i)) 1 := fun i => by
      rw [Int.pow_mul]
      have h1 := (hm1.pow 2).pow i
      rw [show ((-1 : Int)) ^ 2 = 1 from rfl, Int.one_pow] at h1
      exact h1
    have t0 : ∀ i, Eqm (w ^ (q * (p + i * (2 * h))) * w ^ (p * s)) (w ^ ((q + s) * (p + 2 * i * h))) := fun i => by
      have h2 : w ^ ((q + s) * (p + 2 * i * h)) = (w ^ (q * (p + i * (2 * h))) * w ^ (p * s)) * (w ^ (s * h)) ^ (2 * i) := by
        rw [← Int.pow_add, ← Int.pow_mul, ← Int.pow_add]
        congr 1
        rw [e0]; grind
      rw [h2]
      have h3 := (rfl' (w ^ (q * (p + i * (2 * h))) * w ^ (p * s))).mul (hpow i)
      rw [Int.mul_one] at h3
      exact h3.symm
    have t1 : ∀ i, Eqm (-(w ^ (q * (p + h + i * (2 * h))) * w ^ (p * s))) (w ^ ((q + s) * (p + (2 * i + 1) * h))) := fun i => by
      have h2 : w ^ ((q + s) * (p + (2 * i + 1) * h)) = (w ^ (q * (p + h + i * (2 * h))) * w ^ (p * s)) * ((w ^ (s * h)) ^ (2 * i) * w ^ (s * h)) := by
        rw [← Int.pow_add, ← Int.pow_mul, ← Int.pow_add, ← Int.pow_add]
        congr 1
        rw [e1]; grind
      rw [h2]
      have h3 := (rfl' (w ^ (q * (p + h + i * (2 * h))) * w ^ (p * s))).mul ((hpow i).mul hm1)
      rw [show (1 : Int) * -1 = -1 from rfl, Int.mul_neg, Int.mul_one] at h3
      exact h3.symm
    have b0 : Eqm (S s (fun i => X (p + i * (2 * h)) * w ^ (q * (p + i * (2 * h))) * w ^ (p * s))) (S s (fun i => X (p + 2 * i * h) * w ^ ((q + s) * (p + 2 * i * h)))) := S_eqm fun i _ => by
      rw [Int.mul_assoc, e0 i]; have := t0 i; rw [e0 i] at this; exact (rfl' _).mul this
    have b1 : Eqm (-(S s (fun i => X (p + h + i * (2 * h)) * w ^ (q * (p + h + i * (2 * h))) * w ^ (p * s)))) (S s (fun i => X (p + (2 * i + 1) * h) * w ^ ((q + s) * (p + (2 * i + 1) * h)))) := by
      have e : -(S s (fun i => X (p + h + i * (2 * h)) * w ^ (q * (p + h + i * (2 * h))) * w ^ (p * s))) = S s (fun i => -1 * (X (p + h + i * (2 * h)) * w ^ (q * (p + h + i * (2 * h))) * w ^ (p * s))) := by
        rw [S_mul]; omega
      rw [e]
      refine S_eqm fun i _ => ?_
      have := t1 i
      rw [e1 i] at this ⊢
      rw [show p + h + i * (2 * h) = p + (i * (2 * h) + h) by omega] at *
      rw [show -1 * (X (p + (i * (2 * h) + h)) * w ^ (q * (p + (i * (2 * h) + h))) * w ^ (p * s)) = X (p + (i * (2 * h) + h)) * -(w ^ (q * (p + (i * (2 * h) + h))) * w ^ (p * s)) by grind]
      exact (rfl' _).mul this
    rw [Int.sub_eq_add_neg]
    exact b0.add b1
theorem root_half {w u : Int} {n : Nat} (hr : IsRoot w u n) (h : Nat) (hn : n = 2 * h) (h0 : 0 < h) : Eqm (w ^ h) (-1) := by
  have h1 : Eqm ((w ^ h - 1) * (w ^ h + 1)) 0 := by
    have e : (w ^ h - 1) * (w ^ h + 1) = w ^ n - 1 := by
      rw [hn, show w ^ (2 * h) = w ^ h * w ^ h by rw [← Int.pow_add]; congr 1; omega]; grind
    rw [e]
    have := hr.one.sub (rfl' 1)
    rwa [Int.sub_self] at this
  have h2 := strike' _ _ (fun e => hr.least h h0 (by omega) (by
    have := e.add (rfl' 1)
    rwa [Int.sub_add_cancel, Int.zero_add] at this)) h1
  have := h2.sub (rfl' 1)
  rw [show w ^ h + 1 - 1 = w ^ h by omega, show (0 : Int) - 1 = -1 from rfl] at this
  exact this
/-- Behind j passes. -/
theorem fft_to (xs ws : List Int) (w u : Int) (m : Nat) (hr : IsRoot w u (2 ^ m)) (hx : xs.length = 2 ^ m) (hw : ∀ i, i < 2 ^ m → Eqm (nth ws i) (w ^ i)) :
    ∀ j h, 2 ^ m = 2 ^ j * h → ∀ q t, q < 2 ^ j → t < h → Eqm (nth (withTo xs ws j) (q + 2 ^ j * t)) (S (2 ^ j) (fun i => nth xs (t + i * h) * w ^ (q * (t + i * h)))) := by
  intro j
  induction j with
  | zero =>
    intro h hh q t hq ht
    rw [Nat.pow_zero] at hh hq ⊢
    have hq0 : q = 0 := by omega
    subst hq0
    rw [Nat.one_mul] at hh
    simp only [withTo, S, Nat.zero_add, Nat.one_mul, Nat.zero_mul, Nat.add_zero, Int.pow_zero, Int.mul_one, Int.zero_add]
    rw [nth_map _ _ _ (by omega)]
    exact Eqm.mod _
  | succ j ih =>
    intro h hh
    have hs : 0 < 2 ^ j := Nat.pow_pos (by omega)
    have e : 2 ^ m = 2 ^ j * (2 * h) := by rw [hh, Nat.pow_succ, Nat.mul_assoc]
    have h0 : 0 < h := Nat.pos_of_ne_zero (fun e0 => by subst e0; have : 0 < 2 ^ m := Nat.pow_pos (by omega); omega)
    have hY := ih (2 * h) e
    have hl : (withTo xs ws j).length = 2 ^ m := by rw [withTo_len, hx]
    have e2 : 2 ^ m = 2 * (2 ^ j * h) := by rw [e]; grind
    have hm1 := root_half hr (2 ^ j * h) e2 (Nat.mul_pos hs h0)
    have hhalf : 2 ^ m / 2 = 2 ^ j * h := by omega
    rw [Nat.pow_succ, Nat.mul_comm (2 ^ j) 2]
    have place : ∀ q p r, q < 2 ^ j → r < 2 → (q + 2 ^ j * r + 2 * 2 ^ j * p) % 2 ^ j = q ∧ (q + 2 ^ j * r + 2 * 2 ^ j * p) / 2 ^ j = r + 2 * p := fun q p r hq hr => by
      have e3 : q + 2 ^ j * r + 2 * 2 ^ j * p = q + 2 ^ j * (r + 2 * p) := by grind
      rw [e3]
      exact ⟨by rw [Nat.add_mul_mod_self_left, Nat.mod_eq_of_lt hq], by rw [Nat.add_mul_div_left _ _ hs, Nat.div_eq_of_lt hq, Nat.zero_add]⟩
    have inside : ∀ q p r, q < 2 ^ j → r < 2 → p < h → q + 2 ^ j * r + 2 * 2 ^ j * p < 2 ^ m := fun q p r hq hr hp => by
      have e3 : q + 2 ^ j * r + 2 * 2 ^ j * p = q + 2 ^ j * (r + 2 * p) := by grind
      have h4 : 2 ^ j * (r + 2 * p + 1) ≤ 2 ^ j * (2 * h) := Nat.mul_le_mul_left _ (by omega)
      rw [Nat.mul_add, Nat.mul_one] at h4
      omega
    refine fft_step w (2 ^ j) h hs hm1 (nth xs) (nth (withTo xs ws j)) (nth (withTo xs ws (j + 1))) hY (fun q p hq hp => ?_) (fun q p hq hp => ?_)
    · have h1 := place q p 0 hq (by omega)
      have h2 := inside q p 0 hq (by omega) hp
      rw [Nat.mul_zero, Nat.add_zero] at h1 h2
      simp only [withTo]
      rw [nth_passL _ _ _ _ (by rw [hl]; exact h2)]
      unfold passAt
      rw [h1.1, h1.2, hl, hhalf, if_pos (by omega), show (0 + 2 * p) / 2 = p by omega]
      rw [show q + 2 ^ j * p + 2 ^ j * h = q + 2 ^ j * (p + h) by rw [Nat.mul_add]; omega]
      exact Eqm.mod _
    · have h1 := place q p 1 hq (by omega)
      have h2 := inside q p 1 hq (by omega) hp
      rw [Nat.mul_one] at h1 h2
      simp only [withTo]
      rw [nth_passL _ _ _ _ (by rw [hl]; exact h2)]
      unfold passAt
      rw [h1.1, h1.2, hl, hhalf, if_neg (by omega), show (1 + 2 * p) / 2 = p by omega]
      rw [show q + 2 ^ j * p + 2 ^ j * h = q + 2 ^ j * (p + h) by rw [Nat.mul_add]; omega]
      refine (Eqm.mod _).trans ((rfl' _).mul (hw (p * 2 ^ j) ?_))
      have h5 : 2 ^ j * (p + 1) ≤ 2 ^ j * (2 * h) := Nat.mul_le_mul_left _ (by omega)
      rw [Nat.mul_add, Nat.mul_one] at h5
      rw [Nat.mul_comm p]
      omega
theorem fft_all (xs : List Int) (z u : Int) (m : Nat) (hr : IsRoot z u (2 ^ m)) (hx : xs.length = 2 ^ m) : withTo xs (powL z (2 ^ m)) m = dftL xs z := by
  apply ext_nth (by rw [withTo_len, dftL_len])
  intro k hk
  rw [withTo_len] at hk
  have h1 := fft_to xs (powL z (2 ^ m)) z u m hr hx (fun i hi => by rw [show nth (powL z (2 ^ m)) i = pw z i from nth_ofFn _ _ _ hi]; exact pw_eqm z i) m 1 (by omega) k 0 (by omega) (by omega)
  rw [Nat.mul_zero, Nat.add_zero] at h1
  have h2 := pt_T xs z k
  rw [hx] at h2
  have e : S (2 ^ m) (fun i => nth xs (0 + i * 1) * z ^ (k * (0 + i * 1))) = T (2 ^ m) z (nth xs) k := by
    unfold T
    exact S_congr fun i _ => by rw [Nat.zero_add, Nat.mul_one, Nat.mul_comm k i]
  rw [e] at h1
  rw [nth_dftL _ _ _ hk]
  have b1 := withTo_range xs (powL z (2 ^ m)) m k hk
  have b2 := pt_range xs (pw z k)
  exact eq_of_eqm (h1.trans h2.symm) b1.1 b1.2 b2.1 b2.2
theorem hasSz_pow (m : Nat) (h : m ≤ 24) : hasSz ((2 ^ m : Nat) : Int) = true := by
  have : ∀ m ∈ List.range 25, hasSz ((2 ^ m : Nat) : Int) = true := by decide
  exact this m (by simp; omega)
end Go.Proofs.YtcckfeikaolfgaaGreat

namespace Go.Proofs.YtcckfeikaolfgaaGreat
open Sm
set_option linter.unusedVariables false
set_option linter.unusedSimpArgs false
set_option maxRecDepth 100000
theorem eqm_of (a b q : Int) (h : a = b + 18446744069414584321 * q) : Eqm a b := by
  unfold Eqm; rw [h, Int.add_mul_emod_self_left]
theorem eqm_wit {a b : Int} (h : Eqm a b) : ∃ m, a = b + 18446744069414584321 * m := by
  unfold Eqm at h
  exact ⟨a / 18446744069414584321 - b / 18446744069414584321, by omega⟩
theorem dft_of (xs ys : List Int) (z u : Int) (hr : IsRoot z u xs.length) (hl : ys.length = xs.length)
    (h : ∀ k, k < xs.length → 0 ≤ nth ys k ∧ nth ys k < 18446744069414584321 ∧ Eqm (nth ys k) (S xs.length (fun i => nth xs i * z ^ (i * k % xs.length)))) : ys = dftL xs z := by
  apply ext_nth (by rw [dftL_len, hl])
  intro k hk
  rw [hl] at hk
  rw [nth_dftL _ _ _ hk]
  obtain ⟨h1, h2, h3⟩ := h k hk
  have h4 : Eqm (S xs.length (fun i => nth xs i * z ^ (i * k % xs.length))) (T xs.length z (nth xs) k) := S_eqm fun i _ => (rfl' _).mul (hr.pow_mod (i * k))
  have b := pt_range xs (pw z k)
  exact eq_of_eqm ((h3.trans h4).trans (pt_T xs z k).symm) h1 h2 b.1 b.2
theorem ipow1 (z : Int) : z ^ 1 = z := by rw [Int.pow_succ, Int.pow_zero, Int.one_mul]
theorem two_eq (a b z u v0 v1 : Int) (hr : IsRoot z u 2) (r0 : 0 ≤ v0 ∧ v0 < 18446744069414584321) (r1 : 0 ≤ v1 ∧ v1 < 18446744069414584321) (e0 : Eqm v0 (a + b)) (e1 : Eqm v1 (a + b * z)) : [v0, v1] = dftL [a, b] z := by
  refine dft_of [a, b] [v0, v1] z u hr rfl fun k hk => ?_
  have : k = 0 ∨ k = 1 := by simp at hk; omega
  rcases this with rfl | rfl
  · exact ⟨r0.1, r0.2, by simpa [S, nth, ipow1] using e0⟩
  · exact ⟨r1.1, r1.2, by simpa [S, nth, ipow1] using e1⟩
theorem three_eq (a b c z u v0 v1 v2 : Int) (hr : IsRoot z u 3) (r0 : 0 ≤ v0 ∧ v0 < 18446744069414584321) (r1 : 0 ≤ v1 ∧ v1 < 18446744069414584321) (r2 : 0 ≤ v2 ∧ v2 < 18446744069414584321)
    (e0 : Eqm v0 (a + b + c)) (e1 : Eqm v1 (a + b * z + c * z ^ 2)) (e2 : Eqm v2 (a + b * z ^ 2 + c * z)) : [v0, v1, v2] = dftL [a, b, c] z := by
  refine dft_of [a, b, c] [v0, v1, v2] z u hr rfl fun k hk => ?_
  have : k = 0 ∨ k = 1 ∨ k = 2 := by simp at hk; omega
  rcases this with rfl | rfl | rfl
  · exact ⟨r0.1, r0.2, by simpa [S, nth, ipow1] using e0⟩
  · exact ⟨r1.1, r1.2, by simpa [S, nth, ipow1] using e1⟩
  · exact ⟨r2.1, r2.2, by simpa [S, nth, ipow1] using e2⟩
theorem four_eq (a b c d z u v0 v1 v2 v3 : Int) (hr : IsRoot z u 4) (r0 : 0 ≤ v0 ∧ v0 < 18446744069414584321) (r1 : 0 ≤ v1 ∧ v1 < 18446744069414584321) (r2 : 0 ≤ v2 ∧ v2 < 18446744069414584321) (r3 : 0 ≤ v3 ∧ v3 < 18446744069414584321)
    (e0 : Eqm v0 (a + b + c + d)) (e1 : Eqm v1 (a + b * z + c * z ^ 2 + d * z ^ 3)) (e2 : Eqm v2 (a + b * z ^ 2 + c + d * z ^ 2)) (e3 : Eqm v3 (a + b * z ^ 3 + c * z ^ 2 + d * z)) : [v0, v1, v2, v3] = dftL [a, b, c, d] z := by
  refine dft_of [a, b, c, d] [v0, v1, v2, v3] z u hr rfl fun k hk => ?_
  have : k = 0 ∨ k = 1 ∨ k = 2 ∨ k = 3 := by simp at hk; omega
  rcases this with rfl | rfl | rfl | rfl
  · exact ⟨r0.1, r0.2, by simpa [S, nth, ipow1] using e0⟩
  · exact ⟨r1.1, r1.2, by simpa [S, nth, ipow1] using e1⟩
  · exact ⟨r2.1, r2.2, by simpa [S, nth, ipow1] using e2⟩
  · exact ⟨r3.1, r3.2, by simpa [S, nth, ipow1] using e3⟩
theorem five_eq (a b c d e z u v0 v1 v2 v3 v4 : Int) (hr : IsRoot z u 5) (r0 : 0 ≤ v0 ∧ v0 < 18446744069414584321) (r1 : 0 ≤ v1 ∧ v1 < 18446744069414584321) (r2 : 0 ≤ v2 ∧ v2 < 18446744069414584321) (r3 : 0 ≤ v3 ∧ v3 < 18446744069414584321) (r4 : 0 ≤ v4 ∧ v4 < 18446744069414584321)
    (e0 : Eqm v0 (a + b + c + d + e)) (e1 : Eqm v1 (a + b * z + c * z ^ 2 + d * z ^ 3 + e * z ^ 4)) (e2 : Eqm v2 (a + b * z ^ 2 + c * z ^ 4 + d * z + e * z ^ 3))
    (e3 : Eqm v3 (a + b * z ^ 3 + c * z + d * z ^ 4 + e * z ^ 2)) (e4 : Eqm v4 (a + b * z ^ 4 + c * z ^ 3 + d * z ^ 2 + e * z)) : [v0, v1, v2, v3, v4] = dftL [a, b, c, d, e] z := by
  refine dft_of [a, b, c, d, e] [v0, v1, v2, v3, v4] z u hr rfl fun k hk => ?_
  have : k = 0 ∨ k = 1 ∨ k = 2 ∨ k = 3 ∨ k = 4 := by simp at hk; omega
  rcases this with rfl | rfl | rfl | rfl | rfl
  · exact ⟨r0.1, r0.2, by simpa [S, nth, ipow1] using e0⟩
  · exact ⟨r1.1, r1.2, by simpa [S, nth, ipow1] using e1⟩
  · exact ⟨r2.1, r2.2, by simpa [S, nth, ipow1] using e2⟩
  · exact ⟨r3.1, r3.2, by simpa [S, nth, ipow1] using e3⟩
  · exact ⟨r4.1, r4.2, by simpa [S, nth, ipow1] using e4⟩
theorem one_eq (xs : List Int) (z u : Int) (hr : IsRoot z u xs.length) (hl : xs.length = 1) : xs.map (· % 18446744069414584321) = dftL xs z := by
  refine dft_of xs _ z u hr (by simp) fun k hk => ?_
  rw [nth_map (· % 18446744069414584321) xs k hk]
  refine ⟨by omega, by omega, ?_⟩
  have : k = 0 := by omega
  subst this
  rw [hl]
  simp only [S, Nat.zero_mul, Nat.zero_mod, Int.pow_zero, Int.mul_one, Int.zero_add]
  exact Eqm.mod _
def hf : Int := 9223372034707292161
theorem hf2 : 2 * hf = 18446744069414584321 + 1 := rfl
end Go.Proofs.YtcckfeikaolfgaaGreat

namespace Go.Proofs.YtcckfeikaolfgaaGreat
open Sm
set_option linter.unusedVariables false
set_option linter.unusedSimpArgs false
set_option maxRecDepth 100000
def triT (i : Nat) : Nat := i * (i - 1) / 2
theorem triT_succ (k : Nat) : triT (k + 1) = triT k + k := by
  unfold triT
  cases k with
  | zero => rfl
  | succ j =>
    have e : (j + 1 + 1) * (j + 1 + 1 - 1) = (j + 1) * (j + 1 - 1) + 2 * (j + 1) := by
      rw [show j + 1 + 1 - 1 = j + 1 by omega, show j + 1 - 1 = j by omega]; grind
    rw [e]; omega
theorem triT_add (a b : Nat) : triT (a + b) = triT a + triT b + a * b := by
  induction b with
  | zero => rw [Nat.add_zero, Nat.mul_zero]; rfl
  | succ b ih => rw [← Nat.add_assoc, triT_succ, triT_succ, ih, Nat.mul_succ]; omega
def triN (n i : Nat) : Nat := triT i % n
theorem triN_lt (n i : Nat) (h : 0 < n) : triN n i < n := Nat.mod_lt _ h
def rowT (z : Int) (n many : Nat) : List Int := (List.range many).map fun j => pw z (triN n j)
theorem rowT_len (z : Int) (n m : Nat) : (rowT z n m).length = m := by simp [rowT]
theorem nth_rowT (z : Int) (n m i : Nat) (h : i < m) : nth (rowT z n m) i = pw z (triN n i) := nth_ofFn _ _ _ h
theorem rowT_fits (z : Int) (n m : Nat) : ∀ x ∈ rowT z n m, fits .u64 x := by
  intro x hx; obtain ⟨i, _, rfl⟩ := List.mem_map.1 hx
  have := pw_range z (triN n i)
  exact fits_u64.2 (by omega)
/-- Backwards, and turned. -/
def foreL (xs : List Int) (u : Int) (n : Nat) : List Int := (List.range n).map fun i => nth xs (n - 1 - i) * pw u (triN n (n - 1 - i)) % 18446744069414584321
theorem foreL_len (xs : List Int) (u : Int) (n : Nat) : (foreL xs u n).length = n := by simp [foreL]
theorem nth_foreL (xs : List Int) (u : Int) (n i : Nat) (h : i < n) : nth (foreL xs u n) i = nth xs (n - 1 - i) * pw u (triN n (n - 1 - i)) % 18446744069414584321 := nth_ofFn _ _ _ h
theorem foreL_fits (xs : List Int) (u : Int) (n : Nat) : ∀ x ∈ foreL xs u n, fits .u64 x := modL_fits _
/-- What is there, turned. -/
def aftL (cs : List Int) (u : Int) (n : Nat) : List Int := (List.range n).map fun k => nth cs (n - 1 + k) * pw u (triN n k) % 18446744069414584321
theorem aftL_len (cs : List Int) (u : Int) (n : Nat) : (aftL cs u n).length = n := by simp [aftL]
theorem nth_aftL (cs : List Int) (u : Int) (n k : Nat) (h : k < n) : nth (aftL cs u n) k = nth cs (n - 1 + k) * pw u (triN n k) % 18446744069414584321 := nth_ofFn _ _ _ h
/-- Noughts behind. -/
def zeroL (xs : List Int) (m : Nat) : List Int := xs ++ List.replicate (m - xs.length) 0
theorem zeroL_len (xs : List Int) (m : Nat) (h : xs.length ≤ m) : (zeroL xs m).length = m := by simp [zeroL]; omega
theorem zeroL_fits (xs : List Int) (m : Nat) (h : ∀ x ∈ xs, fits .u64 x) : ∀ x ∈ zeroL xs m, fits .u64 x := by
  intro x hx
  rcases List.mem_append.1 hx with h1 | h1
  · exact h x h1
  · rw [(List.mem_replicate.1 h1).2]; exact fits_u64.2 (by omega)
theorem zeroL_cells (xs : List Int) (m : Nat) : xs.map (Value.int .u64) ++ List.replicate (m - xs.length) (Value.int .u64 0) = (zeroL xs m).map (Value.int .u64) := by
  simp [zeroL, List.map_append]
theorem nth_zeroL (xs : List Int) (m i : Nat) : nth (zeroL xs m) i = nth xs i := by
  by_cases h : i < xs.length
  · exact nth_append_left h
  · unfold zeroL
    rw [nth_append_right (by omega), nth_out xs i (by omega)]
    simp only [nth, List.getD_eq_getElem?_getD, List.getElem?_replicate]
    split <;> rfl
theorem S_rev (n : Nat) (f : Nat → Int) : S n (fun i => f (n - 1 - i)) = S n f := by
  induction n with
  | zero => rfl
  | succ n ih =>
    rw [S_head]
    show f (n + 1 - 1 - 0) + _ = S n f + f n
    rw [← ih, show n + 1 - 1 - 0 = n by omega, Int.add_comm]
    congr 1
    exact S_congr fun i hi => by rw [show n + 1 - 1 - (i + 1) = n - 1 - i by omega]
/-- Where the further terms are noughts. -/
theorem S_short (n m : Nat) (f : Nat → Int) (h : n ≤ m) (h0 : ∀ i, n ≤ i → f i = 0) : S m f = S n f := by
  induction m with
  | zero => rw [show n = 0 by omega]
  | succ m ih =>
    by_cases he : n = m + 1
    · rw [he]
    · show S m f + f m = S n f
      rw [ih (by omega), h0 m (by omega), Int.add_zero]
theorem pw_tri {z u : Int} {n : Nat} (hr : IsRoot z u n) (i : Nat) : Eqm (pw z (triN n i)) (z ^ triT i) :=
  (pw_eqm z _).trans (hr.pow_mod (triT i))
theorem blue (xs : List Int) (z u : Int) (n m : Nat) (hr : IsRoot z u n) (hx : xs.length = n) (hn : 1 ≤ n) (hm : 2 * n - 1 ≤ m) :
    aftL (cvL (zeroL (foreL xs u n) m) (zeroL (rowT z n (2 * n - 1)) m) m) u n = dftL xs z := by
  have hxl := hx
  refine dft_of xs _ z u (by rw [hx]; exact hr) (by rw [aftL_len, hx]) fun k hk => ?_
  rw [hx] at hk ⊢
  rw [nth_aftL _ _ _ _ hk]
  refine ⟨by omega, by omega, ?_⟩
  have ht : n - 1 + k < m := by omega
  rw [nth_cvL _ _ _ _ ht, cyc_at _ _ m _ (zeroL_len _ _ (by rw [foreL_len]; omega)) (zeroL_len _ _ (by rw [rowT_len]; exact hm)) ht]
  refine (Eqm.mod _).trans ?_
  have e1 : Eqm (S m (fun i => nth (zeroL (foreL xs u n) m) i * nth (zeroL (rowT z n (2 * n - 1)) m) (othAt m (n - 1 + k) i)) % 18446744069414584321) (S n (fun j => nth xs j * (u ^ triT j * z ^ triT (j + k)))) := by
    refine (Eqm.mod _).trans ?_
    rw [S_short n m _ (by omega) (fun i hi => by rw [nth_zeroL, nth_out _ _ (by rw [foreL_len]; exact hi), Int.zero_mul]), ← S_rev n (fun j => nth xs j * (u ^ triT j * z ^ triT (j + k)))]
    refine S_eqm fun i hi => ?_
    have ho : othAt m (n - 1 + k) i = n - 1 - i + k := by
      unfold othAt; rw [show n - 1 + k + m - i = (n - 1 - i + k) + m by omega, Nat.add_mod_right, Nat.mod_eq_of_lt (by omega)]
    rw [ho, nth_zeroL, nth_zeroL, nth_foreL _ _ _ _ hi, nth_rowT _ _ _ _ (by omega)]
    have := ((Eqm.mod _).trans ((rfl' (nth xs (n - 1 - i))).mul (pw_tri hr.back (n - 1 - i)))).mul (pw_tri hr (n - 1 - i + k))
    rw [Int.mul_assoc] at this
    exact this
  refine (e1.mul (pw_tri hr.back k)).trans ?_
  rw [← S_mul_r]
  refine S_eqm fun j hj => ?_
  have i1 := hr.inv_pow (triT j)
  have i2 := hr.inv_pow (triT k)
  have i3 := (hr.pow_mod (j * k)).symm
  have e2 : z ^ triT (j + k) = z ^ triT j * z ^ triT k * z ^ (j * k) := by rw [triT_add, Int.pow_add, Int.pow_add]
  have e3 : nth xs j * (u ^ triT j * z ^ triT (j + k)) * u ^ triT k = nth xs j * ((z ^ triT j * u ^ triT j) * (z ^ triT k * u ^ triT k) * z ^ (j * k)) := by rw [e2]; grind
  rw [e3]
  have e4 := (rfl' (nth xs j)).mul ((i1.mul i2).mul i3)
  rw [Int.mul_one, Int.one_mul] at e4
  exact e4
end Go.Proofs.YtcckfeikaolfgaaGreat

namespace Go.Proofs.YtcckfeikaolfgaaGreat
open Sm
set_option linter.unusedVariables false
set_option linter.unusedSimpArgs false
set_option maxRecDepth 100000
def IsFq (q : Nat) : Prop := q = 3 ∨ q = 5 ∨ q = 17 ∨ q = 257 ∨ q = 65537
def gq (q : Nat) : Nat := if q = 3 ∨ q = 5 then 2 else 3
@[irreducible] def gp (q i : Nat) : Nat := gq q ^ i % q
theorem fq_bd {q : Nat} (h : IsFq q) : 3 ≤ q ∧ q ≤ 65537 := by unfold IsFq at h; omega
theorem fq_log {q : Nat} (h : IsFq q) : ∃ m, 1 ≤ m ∧ m ≤ 16 ∧ q - 1 = 2 ^ m := by
  rcases h with h | h | h | h | h <;> subst h
  · exact ⟨1, by decide, by decide, by decide⟩
  · exact ⟨2, by decide, by decide, by decide⟩
  · exact ⟨4, by decide, by decide, by decide⟩
  · exact ⟨8, by decide, by decide, by decide⟩
  · exact ⟨16, by decide, by decide, by decide⟩
theorem gq_bd {q : Nat} (h : IsFq q) : 2 ≤ gq q ∧ gq q ≤ 3 ∧ gq q < q := by
  rcases h with h | h | h | h | h <;> subst h <;> decide
theorem gp_lt (q i : Nat) (h : 0 < q) : gp q i < q := by unfold gp; exact Nat.mod_lt _ h
theorem gp_zero {q : Nat} (h : IsFq q) : gp q 0 = 1 := by
  have := fq_bd h
  unfold gp; rw [Nat.pow_zero]; exact Nat.mod_eq_of_lt (by omega)
theorem gp_add (q i j : Nat) : gp q (i + j) = gp q i * gp q j % q := by
  unfold gp; rw [Nat.pow_add, Nat.mul_mod]
theorem gp_succ (q i : Nat) : gp q (i + 1) = gp q i * gq q % q := by
  unfold gp; rw [Nat.pow_succ, Nat.mod_mul_mod]
theorem gp_all {q : Nat} (h : IsFq q) : gp q (q - 1) = 1 := by
  unfold gp
  rw [← Fld.pm_eq q 17 (gq q) (q - 1) (by have := fq_bd h; omega)]
  rcases h with h | h | h | h | h <;> subst h <;> decide +kernel
theorem gp_half {q : Nat} (h : IsFq q) : gp q ((q - 1) / 2) ≠ 1 := by
  unfold gp
  rw [← Fld.pm_eq q 17 (gq q) ((q - 1) / 2) (by have := fq_bd h; omega)]
  rcases h with h | h | h | h | h <;> subst h <;> decide +kernel
theorem gp_mul {q : Nat} (h : IsFq q) (k : Nat) : gp q ((q - 1) * k) = 1 := by
  have h1 := gp_all h
  have := fq_bd h
  unfold gp at *
  exact Fld.pow_mul_one _ _ _ _ (by omega) h1
theorem gp_past {q : Nat} (h : IsFq q) (i : Nat) : gp q ((q - 1) + i) = gp q i := by
  have := fq_bd h
  rw [gp_add, gp_all h, Nat.one_mul, Nat.mod_eq_of_lt (gp_lt q i (by omega))]
theorem gp_mod {q : Nat} (h : IsFq q) (i : Nat) : gp q (i % (q - 1)) = gp q i := by
  have := fq_bd h
  have e : gp q i = gp q ((q - 1) * (i / (q - 1)) + i % (q - 1)) := by rw [Nat.div_add_mod]
  rw [e, gp_add, gp_mul h, Nat.one_mul, Nat.mod_eq_of_lt (gp_lt q _ (by omega))]
theorem gp_pos {q : Nat} (h : IsFq q) (i : Nat) : 0 < gp q i := by
  have hb := fq_bd h
  apply Nat.pos_of_ne_zero
  intro e
  have h1 : i ≤ (q - 1) * i := Nat.le_mul_of_pos_left i (by omega)
  have h2 := gp_mul h i
  rw [show (q - 1) * i = i + ((q - 1) * i - i) by omega, gp_add, e, Nat.zero_mul, Nat.zero_mod] at h2
  omega
theorem gp_inj {q : Nat} (h : IsFq q) (i j : Nat) (hij : i < j) (hj : j < q - 1) : gp q i ≠ gp q j := by
  intro e
  have hb := fq_bd h
  obtain ⟨m, hm1, hm2, hm⟩ := fq_log h
  have h1 : gp q (j - i) = 1 := by
    have e1 := gp_add q (q - 1 - i) j
    rw [← e, ← gp_add, show q - 1 - i + i = q - 1 by omega, gp_all h, show q - 1 - i + j = (q - 1) + (j - i) by omega, gp_past h] at e1
    exact e1
  have h2 := gp_all h
  have h3 := gp_half h
  unfold gp at h1 h2 h3
  have hg := Fld.pow_gcd_one (gq q) q (by omega) (j - i) (q - 1) h1 h2
  have hd : Nat.gcd (j - i) (q - 1) ∣ 2 ^ m := by rw [← hm]; exact Nat.gcd_dvd_right _ _
  obtain ⟨k, hk⟩ := dvd_two m _ hd
  have hle : Nat.gcd (j - i) (q - 1) ≤ j - i := Nat.le_of_dvd (by omega) (Nat.gcd_dvd_left _ _)
  have hlt : 2 ^ k < 2 ^ m := by omega
  have hkm : k < m := (Nat.pow_lt_pow_iff_right (by omega)).1 hlt
  have he : (q - 1) / 2 = 2 ^ k * 2 ^ (m - 1 - k) := by
    rw [← Nat.pow_add, show k + (m - 1 - k) = m - 1 by omega, hm, show m = m - 1 + 1 by omega, Nat.pow_succ]
    simp
  apply h3
  rw [he, ← hk]
  exact Fld.pow_mul_one _ _ _ _ (by omega) hg
theorem gp_onto {q : Nat} (h : IsFq q) (b : Nat) (h1 : 1 ≤ b) (h2 : b < q) : ∃ i, i < q - 1 ∧ gp q i = b := by
  have hb := fq_bd h
  obtain ⟨i, hi, he⟩ := Fld.onto (q - 1) (fun i => gp q i - 1) (fun i _ => by
      have := gp_lt q i (by omega)
      show gp q i - 1 < q - 1
      omega) (fun i j hij hj => by
      have a := gp_pos h i
      have b := gp_pos h j
      have c := gp_inj h i j hij hj
      show gp q i - 1 ≠ gp q j - 1
      omega) (b - 1) (by omega)
  refine ⟨i, hi, ?_⟩
  have he' : gp q i - 1 = b - 1 := he
  have := gp_pos h i
  omega
/-- A size that is a prime from 3 on. -/
theorem fq_of {n : Nat} (h : hasSz n = true) (hp : isPr (n : Int) = true) (h3 : 3 ≤ n) : IsFq n := by
  obtain ⟨a1, a2, a3⟩ := hasSz_iff.1 h
  have hN := (isPr_iff n (by omega) (by omega)).1 hp
  have hdv : n ∣ 18446744069414584320 := by
    have h5 : ((18446744069414584320 % n : Nat) : Int) = 0 := by rw [Int.natCast_emod]; exact a3
    exact Nat.dvd_of_mod_eq_zero (by omega)
  obtain ⟨g, hg, j, hj, rfl⟩ := size_form n (by omega) (by omega) hdv
  cases j with
  | succ j =>
    exfalso
    have e : 2 ^ (j + 1) * g = 2 * (2 ^ j * g) := by rw [Nat.pow_succ]; rw [Nat.mul_comm (2 ^ j) 2, Nat.mul_assoc]
    have := hN.2 2 (Nat.le_refl _) (by omega)
    omega
  | zero =>
    rw [Nat.pow_zero, Nat.one_mul] at *
    have key : ∀ g ∈ oddL, g < 3 ∨ (g = 3 ∨ g = 5 ∨ g = 17 ∨ g = 257 ∨ g = 65537) ∨ (9 ≤ g ∧ g % 3 = 0) ∨ (25 ≤ g ∧ g % 5 = 0) ∨ (289 ≤ g ∧ g % 17 = 0) ∨ (66049 ≤ g ∧ g % 257 = 0) := by decide +kernel
    rcases key g hg with h1 | h1 | h1 | h1 | h1 | h1
    · omega
    · exact h1
    · exact absurd h1.2 (hN.2 3 (by omega) (by omega))
    · exact absurd h1.2 (hN.2 5 (by omega) (by omega))
    · exact absurd h1.2 (hN.2 17 (by omega) (by omega))
    · exact absurd h1.2 (hN.2 257 (by omega) (by omega))
theorem pr_of_fq {n : Nat} (h : IsFq n) : isPr (n : Int) = true := by
  have hb := fq_bd h
  rw [isPr_iff n (by omega) (by omega)]
  refine ⟨by omega, fun k h2 hk => ?_⟩
  have hk2 : k ≤ 256 := by
    apply Nat.le_of_not_lt; intro hc
    have : 257 * 257 ≤ k * k := Nat.mul_le_mul hc hc
    omega
  have key : ∀ q ∈ [3, 5, 17, 257, 65537], ∀ k ∈ List.range 257, k < 2 ∨ q < k * k ∨ q % k ≠ 0 := by decide +kernel
  have hq : n ∈ [3, 5, 17, 257, 65537] := by unfold IsFq at h; simp; exact h
  rcases key n hq k (by simp; omega) with h1 | h1 | h1
  · omega
  · omega
  · exact h1
/-- The powers of the generator, one by one; Rader's row. -/
def genL (q : Nat) : List Int := (List.range (q - 1)).map fun i => ((gp q i : Nat) : Int)
theorem genL_len (q : Nat) : (genL q).length = q - 1 := by simp [genL]
theorem nth_genL (q i : Nat) (h : i < q - 1) : nth (genL q) i = (gp q i : Nat) := nth_ofFn _ _ _ h
def radAt (q i : Nat) : Nat := gp q ((q - 1 - i) % (q - 1))
def radL (z : Int) (q : Nat) : List Int := (List.range (q - 1)).map fun i => pw z (radAt q i)
theorem radL_len (z : Int) (q : Nat) : (radL z q).length = q - 1 := by simp [radL]
theorem nth_radL (z : Int) (q i : Nat) (h : i < q - 1) : nth (radL z q) i = pw z (radAt q i) := nth_ofFn _ _ _ h
theorem radL_fits (z : Int) (q : Nat) : ∀ x ∈ radL z q, fits .u64 x := by
  intro x hx; obtain ⟨i, _, rfl⟩ := List.mem_map.1 hx
  have := pw_range z (radAt q i)
  exact fits_u64.2 (by omega)
theorem radAt_eq {q : Nat} (h : IsFq q) (i : Nat) (hi : i < q - 1) : radAt q i = gp q (q - 1 - i) := by
  unfold radAt; exact gp_mod h _
theorem radAt_zero {q : Nat} (h : IsFq q) : radAt q 0 = 1 := by
  unfold radAt; rw [Nat.sub_zero, Nat.mod_self, gp_zero h]
end Go.Proofs.YtcckfeikaolfgaaGreat

namespace Go.Proofs.YtcckfeikaolfgaaGreat
open Go.RowKit
set_option linter.unusedVariables false
set_option linter.unusedSimpArgs false
set_option maxRecDepth 100000
theorem sides1_yes (n : Int) (w : World) (h1 : 1 ≤ n) (h2 : n ≤ 16777216) :
    Calls Tryz.prog 132 #[.int .i64 n] w fun e w' => e = .returned (.bool true) ∧ w = w' := by
  go_enter Tryz.func132, Tryz.ntmps132
  go_wp2_with fail
  go_ret
  exact ⟨rfl, rfl⟩
/-- May there be a table of such sides? -/
def Sides (a b : Int) : Prop := 1 ≤ a ∧ a ≤ 16777216 ∧ 1 ≤ b ∧ b ≤ 16777216 ∧ a * b ≤ 16777216
instance (a b : Int) : Decidable (Sides a b) := by unfold Sides; infer_instance
theorem mul_bd (a b : Int) (h1 : 1 ≤ a) (h2 : a ≤ 16777216) (h3 : 1 ≤ b) (h4 : b ≤ 16777216) : 1 ≤ a * b ∧ a * b ≤ 281474976710656 := by
  constructor
  · have := Int.mul_le_mul h1 h3 (by omega) (by omega : (0 : Int) ≤ a); omega
  · have := Int.mul_le_mul h2 h4 (by omega) (by omega : (0 : Int) ≤ 16777216); omega
theorem permSides_yes (a b : Int) (w : World) (h : Sides a b) :
    Calls Tryz.prog 121 #[.int .i64 a, .int .i64 b] w fun e w' => e = .returned (.bool true) ∧ w = w' := by
  obtain ⟨h1, h2, h3, h4, h5⟩ := h
  have hm := mul_bd a b h1 h2 h3 h4
  go_enter Tryz.func121, Tryz.ntmps121
  go_wp2_with (go_at_call 132; refine (sides1_yes _ _ (by omega) (by omega)).mono ?_; rintro e w' ⟨rfl, rfl⟩)
  go_ret
  exact ⟨rfl, rfl⟩
/-- A table, row by row. -/
def tabL (a b : Nat) (g : Nat → Nat → Int) : List Int := (List.range (a * b)).map fun k => g (k / b) (k % b)
theorem tabL_len (a b : Nat) (g : Nat → Nat → Int) : (tabL a b g).length = a * b := by simp [tabL]
theorem row_at (b i j : Nat) (hj : j < b) : (i * b + j) / b = i ∧ (i * b + j) % b = j := by
  have h0 : 0 < b := by omega
  constructor
  · rw [Nat.add_comm, Nat.add_mul_div_right _ _ h0, Nat.div_eq_of_lt hj, Nat.zero_add]
  · rw [Nat.add_comm, Nat.add_mul_mod_self_right, Nat.mod_eq_of_lt hj]
theorem row_bd (a b i j : Nat) (hi : i < a) (hj : j < b) : i * b + j < a * b := by
  have h1 : (i + 1) * b ≤ a * b := Nat.mul_le_mul_right b hi
  rw [Nat.add_mul, Nat.one_mul] at h1
  omega
set_option maxHeartbeats 1600000 in
theorem permTable (a b : Nat) (g : Nat → Nat → Int) (fid : Nat) (caps : Array Value) (w : World) (hab : a * b ≤ 16777216) (ha : a ≤ 16777216) (hb : b ≤ 16777216) (hg : ∀ i j, i < a → j < b → fits .i64 (g i j))
    (hent : ∀ args w, (callFunc fid args).run Tryz.prog w = .ok (.enter fid args) w)
    (hf : ∀ (i j : Nat) (wr : World), i < a → j < b → Below w.heap.size w wr → Calls Tryz.prog fid (#[.int .i64 i, .int .i64 j] ++ caps) wr fun e w' => e = .returned (.int .i64 (g i j)) ∧ Below wr.heap.size wr w') :
    Calls Tryz.prog 104 #[.int .i64 a, .int .i64 b, .func (.func fid) #[] caps] w (GivesRow .i64 (tabL a b g) w) := by
  obtain ⟨i0, hi, hz0, hz1, hz2⟩ := info_parts info_int
  have HF := Lib.hid hf
  have HG := Lib.hid hg
  have hmul : (a : Int) * (b : Int) = ((a * b : Nat) : Int) := (Int.natCast_mul a b).symm
  have hw : IntKind.i64.wrap ((a : Int) * (b : Int)) = ((a * b : Nat) : Int) := by rw [hmul]; exact IntWalk.i64_in _ (by omega)
  obtain ⟨N, hN⟩ : ∃ N, a * b = N := ⟨_, rfl⟩
  rw [hN] at hw
  have HN := Lib.hid hN
  have HM := Lib.hid hmul
  have hNM : N ≤ 16777216 := by omega
  clear hf hg hN hmul hab
  go_enter Tryz.func104, Tryz.ntmps104
  go_wp2_with (at_make; refine wpList_make_own _ rfl _ _ 71 rfl w.heap.size 3 i0 (.int .i64 0) 1 Tryz.underlying71 hi hz0 hz1 .i64 .i64 N N rfl rfl rfl (by rw [hz2]; omega) (by unfold maxLen; omega) (Nat.le_refl _) ?_)
  intro w1 hown0 hgrow0
  have hown : Own .i64 3 w w1 (.slice (some ⟨w.heap.size, 0, none⟩) 0 N) 0 (fun k => g (k / b) (k % b)) := ⟨hown0, (Below.refl _ _).grown hgrow0 (Nat.le_refl _) (by simp)⟩
  clear hown0 hgrow0
  go_wp2_with fail
  go_loopw [7, 15] (fun v i wr => ∃ (k n : Nat), k ≤ a ∧ n = k * b ∧ i = .int .i64 k ∧ Own .i64 3 w wr v n (fun k => g (k / b) (k % b))) (fun _ i _ => a - (intOf i).toNat)
  case atStart => exact ⟨0, 0, Nat.zero_le _, by simp, rfl, hown⟩
  case round =>
    obtain ⟨k, n, hk, hn, rfl, hown⟩ := hrel
    have HK := Lib.hid hn
    clear hn
    by_cases hlt : k < a
    · obtain ⟨wo, hwo⟩ : ∃ wo : World, wo = wr := ⟨_, rfl⟩
      subst hwo
      go_wp2_with fail
      go_loopw [7, 19] (fun v i wr => ∃ (j n : Nat), j ≤ b ∧ Hid (n = k * b + j) ∧ i = .int .i64 j ∧ Own .i64 3 w wr v n (fun k => g (k / b) (k % b))) (fun _ i _ => b - (intOf i).toNat)
      case atStart => exact ⟨0, n, Nat.zero_le _, by have := HK.out; unfold Hid; omega, rfl, hown⟩
      case round =>
        obtain ⟨j, n', hj, HJ, rfl, hown⟩ := hrel
        by_cases hjb : j < b
        · have hcall := HF.out k j wr hlt hjb hown.below
          have HC := Lib.hid hcall
          have hnb : n' < N := by have := row_bd a b k j hlt hjb; have := HJ.out; have := HN.out; omega
          have hfit : fits .i64 (g k j) := HG.out k j hlt hjb
          have HFT := Lib.hid hfit
          clear hcall hfit
          go_wp2_with fail
          refine HC.out.mono ?_
          rintro e w' ⟨rfl, hb'⟩
          have hown := hown.later hb'
          go_wp2_with (at_builtin; refine wpList_append_own _ rfl _ _ 71 rfl w.heap.size 3 i0 (.int .i64 0) 1 8 Tryz.underlying71 hi hz0 hz1 hz2 rfl (by decide) _ _ _ rfl (hown.own.alloc _) ⟨w'.heap.size, 0, none⟩ 1 1 [.int .i64 (g k j)] rfl rfl (cell_one_new _ _ _) (one_cell _ _) (by unfold maxLen; omega) (by omega) (size_alloc_le hown.below _) ?_)
          intro v' w2 hown' hgrow _
          have hnext := hown.push (g k j) (by have := row_at b k j hjb; rw [HJ.out, this.1, this.2]) hown' hgrow
          clear hown' hgrow
          go_wp2_with fail
          go_roundw
          case rel => exact ⟨j + 1, n' + 1, by omega, by have := HJ.out; unfold Hid; omega, by go_num, hnext⟩
          case measure => simp [intOf]; omega
        · have hjj : j = b := by omega
          have HJJ := Lib.hid hjj
          clear hjj
          go_wp2_with fail
          go_roundw
          case rel => exact ⟨k + 1, n', by omega, by have h1 := HJ.out; have h2 := HJJ.out; rw [Nat.add_mul, Nat.one_mul]; omega, by go_num, hown⟩
          case measure => simp [intOf]; omega
    · have hka : k = a := by omega
      have hres := hown.gives (xs := tabL a b g) (by rw [tabL_len]; have := HK.out; rw [hka] at this; omega) (fun x hx => by
        obtain ⟨i, hi, rfl⟩ := List.mem_map.1 hx
        have hi' : i < a * b := by simpa using hi
        have hb0 : 0 < b := Nat.pos_of_ne_zero (fun e => by subst e; omega)
        exact HG.out _ _ (Nat.div_lt_of_lt_mul (by rw [Nat.mul_comm]; exact hi')) (Nat.mod_lt _ hb0)) (fun i hi => nth_ofFn _ _ _ (by have := HK.out; rw [hka] at this; omega)) (by have := HK.out; have := HN.out; rw [hka] at *; omega)
      clear hown
      go_wp2_with fail
      go_ret
      exact hres
end Go.Proofs.YtcckfeikaolfgaaGreat

namespace Go.Proofs.YtcckfeikaolfgaaGreat
open Go.RowKit
set_option linter.unusedVariables false
set_option linter.unusedSimpArgs false
set_option maxRecDepth 100000
theorem fits_nat {n : Nat} (h : n ≤ 1000000000) : fits .i64 (n : Int) := fits_i64.2 (by omega)
end Go.Proofs.YtcckfeikaolfgaaGreat

namespace Go.Proofs.YtcckfeikaolfgaaGreat
open Go.RowKit
set_option linter.unusedVariables false
set_option linter.unusedSimpArgs false
set_option maxRecDepth 100000
/-- All in range, no number twice. -/
def IsPerm (p : List Int) : Prop := (∀ i, i < p.length → 0 ≤ nth p i ∧ nth p i < p.length) ∧ ∀ i j, i < j → j < p.length → nth p i ≠ nth p j
/-- Is n among the first k? -/
def among (p : List Int) (k : Nat) (n : Nat) : Int := if ∃ i, i < k ∧ nth p i = n then 1 else 0
theorem among_zero (p : List Int) (n : Nat) : among p 0 n = 0 := by
  unfold among; rw [if_neg (by rintro ⟨i, h, _⟩; omega)]
theorem among_new (p : List Int) (k n : Nat) (h : nth p k = n) : among p (k + 1) n = 1 := by
  unfold among; rw [if_pos ⟨k, by omega, h⟩]
theorem among_old (p : List Int) (k n : Nat) (h : nth p k ≠ n) : among p (k + 1) n = among p k n := by
  unfold among
  by_cases h1 : ∃ i, i < k ∧ nth p i = n
  · obtain ⟨i, hi, e⟩ := h1
    rw [if_pos ⟨i, by omega, e⟩, if_pos ⟨i, hi, e⟩]
  · rw [if_neg h1, if_neg]
    rintro ⟨i, hi, e⟩
    by_cases hik : i = k
    · subst hik; exact h e
    · exact h1 ⟨i, by omega, e⟩
theorem among_not (p : List Int) (k n : Nat) (h : ∀ i, i < k → nth p i ≠ n) : among p k n = 0 := by
  unfold among; rw [if_neg (by rintro ⟨i, hi, e⟩; exact h i hi e)]
theorem OwnAt.eq {k : IntKind} {e : TypeId} {w wr : World} {g n : Nat} {f f' : Nat → Int} (h : OwnAt k e w wr g n f) (he : ∀ n, f' n = f n) : OwnAt k e w wr g n f' := by
  rw [show f' = f from funext he]; exact h
set_option maxHeartbeats 1600000 in
theorem permRight_yes (a : Option Addr) (n cap : Nat) (p : List Int) (w : World) (hx : Row .i64 w a p) (hn : p.length = n) (hl : n ≤ 16777216) (hp : IsPerm p) :
    Calls Tryz.prog 106 #[.slice a n cap] w fun e w' => e = .returned (.bool true) ∧ Below w.heap.size w w' := by
  subst hn
  obtain ⟨i0, hi, hz0, hz1, hz2⟩ := info_parts info_int
  have HX := Lib.hid hx
  have HP := Lib.hid hp
  clear hx hp
  go_enter Tryz.func106, Tryz.ntmps106
  go_wp2_with (at_make; refine wpList_make_full _ rfl _ _ 71 rfl w.heap.size 3 i0 (.int .i64 0) 1 Tryz.underlying71 hi hz0 hz1 .i64 .i64 p.length p.length p.length rfl rfl rfl rfl (by rw [hz2]; omega) (by unfold maxLen; omega) (Nat.le_refl _) ?_)
  intro w1 hown0 hgrow0
  have hown := Own.made hown0 hgrow0
  clear hown0 hgrow0
  go_wp2_with fail
  go_loopw [11] (fun i wr => ∃ k : Nat, k ≤ p.length ∧ i = .int .i64 k ∧ OwnAt .i64 3 w wr w.heap.size p.length (among p k)) (fun i _ => p.length - (intOf i).toNat)
  case atStart => exact ⟨0, Nat.zero_le _, rfl, OwnAt.eq hown (fun n => among_zero p n)⟩
  case round =>
    obtain ⟨k, hk, rfl, hown⟩ := hrel
    by_cases hlt : k < p.length
    · obtain ⟨b, off, rfl, hc⟩ := (HX.out.below hown.below).at (by omega)
      have hck := hc k hlt
      obtain ⟨m, hm⟩ := Int.eq_ofNat_of_zero_le (HP.out.1 k hlt).1
      have hmlt : m < p.length := by have := (HP.out.1 k hlt).2; omega
      rw [hm] at hck
      have hcell := hown.cell m hmlt
      rw [among_not p k m (fun i hik e => HP.out.2 i k hik hlt (by rw [e, hm]))] at hcell
      have hfz := hown.free m
      have hnext := hown.store m hmlt 1 (f' := among p (k + 1)) (among_new p k m hm) (fun j _ hj => among_old p k j (by rw [hm]; omega))
      have HN := Lib.hid hnext
      clear hc hnext hm
      have g1 : (0 : Int) ≤ (m : Int) := by omega
      have g2 : (m : Int) < (p.length : Int) := by omega
      go_wp2_with fail
      go_roundw
      case rel => exact ⟨k + 1, by omega, by go_num, HN.out⟩
      case measure => simp [intOf]; omega
    · have hb := hown.below
      clear hown
      go_wp2_with fail
      go_ret
      exact ⟨rfl, hb⟩
end Go.Proofs.YtcckfeikaolfgaaGreat

namespace Go.Proofs.YtcckfeikaolfgaaGreat
set_option linter.unusedVariables false
set_option linter.unusedSimpArgs false
set_option maxRecDepth 100000
/-- A list out of a map of places. -/
def mapL (N : Nat) (f : Nat → Nat) : List Int := (List.range N).map fun k => ((f k : Nat) : Int)
theorem mapL_len (N : Nat) (f : Nat → Nat) : (mapL N f).length = N := by simp [mapL]
theorem nth_mapL (N : Nat) (f : Nat → Nat) (k : Nat) (h : k < N) : nth (mapL N f) k = f k := nth_ofFn _ _ _ h
theorem isPerm_mapL (N : Nat) (f : Nat → Nat) (hf : ∀ k, k < N → f k < N) (hi : ∀ i j, i < j → j < N → f i ≠ f j) : IsPerm (mapL N f) := by
  unfold IsPerm
  rw [mapL_len]
  refine ⟨fun i h => ?_, fun i j hij hj => ?_⟩
  · rw [nth_mapL N f i h]; have := hf i h; omega
  · rw [nth_mapL N f i (by omega), nth_mapL N f j hj]; have := hi i j hij hj; omega
/-- Where a map of places has p. -/
noncomputable def invOf (N : Nat) (f : Nat → Nat) (p : Nat) : Nat := by
  classical exact if h : ∃ t, t < N ∧ f t = p then h.choose else 0
theorem invOf_spec (N : Nat) (f : Nat → Nat) (p : Nat) (h : ∃ t, t < N ∧ f t = p) : invOf N f p < N ∧ f (invOf N f p) = p := by
  unfold invOf; rw [dif_pos h]; exact h.choose_spec
theorem inj_of (N : Nat) (f : Nat → Nat) (hi : ∀ i j, i < j → j < N → f i ≠ f j) (a b : Nat) (ha : a < N) (hb : b < N) (h : f a = f b) : a = b := by
  rcases Nat.lt_trichotomy a b with h1 | h1 | h1
  · exact absurd h (hi a b h1 hb)
  · exact h1
  · exact absurd h.symm (hi b a h1 ha)
theorem invOf_of (N : Nat) (f : Nat → Nat) (hi : ∀ i j, i < j → j < N → f i ≠ f j) (t : Nat) (ht : t < N) : invOf N f (f t) = t := by
  have h := invOf_spec N f (f t) ⟨t, ht, rfl⟩
  exact inj_of N f hi _ _ h.1 ht h.2
theorem invOf_lt (N : Nat) (f : Nat → Nat) (hf : ∀ k, k < N → f k < N) (hi : ∀ i j, i < j → j < N → f i ≠ f j) (p : Nat) (hp : p < N) : invOf N f p < N ∧ f (invOf N f p) = p := by
  obtain ⟨t, ht, e⟩ := Fld.onto N f hf hi p hp
  exact invOf_spec N f p ⟨t, ht, e⟩
def gooF (a b k : Nat) : Nat := (k / b * b + k % b * a) % (a * b)
def crtF (a b k : Nat) : Nat := k % a * b + k % b
theorem dvd_sub_of (c x y : Nat) (h : x % c = y % c) : c ∣ y - x := Nat.dvd_of_mod_eq_zero (Nat.sub_mod_eq_zero_of_mod_eq h.symm)
theorem mod_inj (a b x y : Nat) (h : Nat.gcd a b = 1) (hx : x < a * b) (hy : y < a * b) (h1 : x % a = y % a) (h2 : x % b = y % b) : x = y := by
  rcases Nat.le_total x y with hle | hle
  · have d1 : a ∣ y - x := dvd_sub_of _ _ _ h1
    have d2 : b ∣ y - x := dvd_sub_of _ _ _ h2
    have d3 := Nat.Coprime.mul_dvd_of_dvd_of_dvd h d1 d2
    have := Nat.eq_zero_of_dvd_of_lt d3 (by omega)
    omega
  · have d1 : a ∣ x - y := dvd_sub_of _ _ _ h1.symm
    have d2 : b ∣ x - y := dvd_sub_of _ _ _ h2.symm
    have d3 := Nat.Coprime.mul_dvd_of_dvd_of_dvd h d1 d2
    have := Nat.eq_zero_of_dvd_of_lt d3 (by omega)
    omega
theorem crtF_lt (a b k : Nat) (h : k < a * b) : crtF a b k < a * b := by
  have ha : 0 < a := Nat.pos_of_ne_zero (fun e => by subst e; omega)
  have hb : 0 < b := Nat.pos_of_ne_zero (fun e => by subst e; omega)
  exact row_bd a b (k % a) (k % b) (Nat.mod_lt _ ha) (Nat.mod_lt _ hb)
theorem crtF_at (a b k : Nat) (hb : 0 < b) : crtF a b k / b = k % a ∧ crtF a b k % b = k % b := row_at b (k % a) (k % b) (Nat.mod_lt _ hb)
theorem crtF_inj (a b : Nat) (h : Nat.gcd a b = 1) : ∀ i j, i < j → j < a * b → crtF a b i ≠ crtF a b j := by
  intro i j hij hj e
  have hb : 0 < b := Nat.pos_of_ne_zero (fun e => by subst e; omega)
  have h1 := crtF_at a b i hb
  have h2 := crtF_at a b j hb
  rw [e] at h1
  have := mod_inj a b i j h (by omega) hj (h1.1.symm.trans h2.1) (h1.2.symm.trans h2.2)
  omega
theorem gooF_lt (a b k : Nat) (h : k < a * b) : gooF a b k < a * b := Nat.mod_lt _ (by omega)
theorem gooF_inj (a b : Nat) (h : Nat.gcd a b = 1) : ∀ i j, i < j → j < a * b → gooF a b i ≠ gooF a b j := by
  intro i j hij hj e
  have ha : 0 < a := Nat.pos_of_ne_zero (fun e => by subst e; omega)
  have hb : 0 < b := Nat.pos_of_ne_zero (fun e => by subst e; omega)
  unfold gooF at e
  -- what is left by a
  have ea : (i / b * b) % a = (j / b * b) % a := by
    have h1 := congrArg (· % a) e
    simp only [Nat.mod_mul_right_mod, Nat.add_mul_mod_self_right] at h1
    exact h1
  have eb : (i % b * a) % b = (j % b * a) % b := by
    have h1 := congrArg (· % b) e
    simp only [Nat.mod_mul_left_mod] at h1
    rw [Nat.add_comm (i / b * b), Nat.add_comm (j / b * b), Nat.add_mul_mod_self_right, Nat.add_mul_mod_self_right] at h1
    exact h1
  have hi1 : i / b < a := Nat.div_lt_of_lt_mul (by rw [Nat.mul_comm]; omega)
  have hj1 : j / b < a := Nat.div_lt_of_lt_mul (by rw [Nat.mul_comm]; omega)
  have h1 : i / b = j / b := strike_mod (i / b) (j / b) b a (by rw [Nat.gcd_comm]; rw [Nat.gcd_comm]; exact h) hi1 hj1 ea
  have h2 : i % b = j % b := strike_mod (i % b) (j % b) a b (by rw [Nat.gcd_comm]; exact h) (Nat.mod_lt _ hb) (Nat.mod_lt _ hb) eb
  have h3 := Nat.div_add_mod i b
  have h4 := Nat.div_add_mod j b
  rw [h1, h2] at h3
  omega
where
  strike_mod (x y c m : Nat) (hc : Nat.gcd m c = 1) (hx : x < m) (hy : y < m) (h : x * c % m = y * c % m) : x = y := by
    rcases Nat.le_total x y with hle | hle
    · have d := dvd_sub_of _ _ _ h
      rw [← Nat.sub_mul] at d
      have d2 : m ∣ y - x := Nat.Coprime.dvd_of_dvd_mul_right hc d
      have := Nat.eq_zero_of_dvd_of_lt d2 (by omega)
      omega
    · have d := dvd_sub_of _ _ _ h.symm
      rw [← Nat.sub_mul] at d
      have d2 : m ∣ x - y := Nat.Coprime.dvd_of_dvd_mul_right hc d
      have := Nat.eq_zero_of_dvd_of_lt d2 (by omega)
      omega
def gooL (a b : Nat) : List Int := mapL (a * b) (gooF a b)
noncomputable def crtL (a b : Nat) : List Int := mapL (a * b) (invOf (a * b) (crtF a b))
theorem isPerm_goo (a b : Nat) (h : Nat.gcd a b = 1) : IsPerm (gooL a b) := isPerm_mapL _ _ (gooF_lt a b) (gooF_inj a b h)
end Go.Proofs.YtcckfeikaolfgaaGreat

namespace Go.Proofs.YtcckfeikaolfgaaGreat
open Sm
set_option linter.unusedVariables false
set_option linter.unusedSimpArgs false
set_option maxRecDepth 100000
theorem S_append (n m : Nat) (f : Nat → Int) : S (n + m) f = S n f + S m (fun j => f (n + j)) := by
  induction m with
  | zero => rw [Nat.add_zero]; simp only [S]; omega
  | succ m ih => rw [← Nat.add_assoc]; simp only [S]; rw [ih]; omega
theorem S_grid (a b : Nat) (f : Nat → Int) : S (a * b) f = S a (fun i => S b (fun j => f (i * b + j))) := by
  induction a with
  | zero => rw [Nat.zero_mul]; rfl
  | succ a ih => rw [Nat.succ_mul, S_append, ih]; rfl
theorem S_strike (n : Nat) : ∀ (t : Nat) (f : Nat → Int), t ≤ n → S (n + 1) f = S n (fun i => f (if i < t then i else i + 1)) + f t := by
  induction n with
  | zero => intro t f h; rw [show t = 0 by omega]; rfl
  | succ n ih =>
    intro t f h
    by_cases ht : t = n + 1
    · subst ht
      show S (n + 1) f + f (n + 1) = _
      congr 1
      exact S_congr fun i hi => by rw [if_pos hi]
    · have h1 := ih t f (by omega)
      show S (n + 1) f + f (n + 1) = S n _ + f (if n < t then n else n + 1) + f t
      rw [h1, if_neg (by omega)]
      omega
theorem S_perm (n : Nat) : ∀ (f : Nat → Int) (s : Nat → Nat), (∀ i, i < n → s i < n) → (∀ i j, i < j → j < n → s i ≠ s j) → S n (fun i => f (s i)) = S n f := by
  induction n with
  | zero => intro f s _ _; rfl
  | succ n ih =>
    intro f s hs hi
    obtain ⟨t, ht⟩ : ∃ t, s n = t := ⟨_, rfl⟩
    have htn : t < n + 1 := by rw [← ht]; exact hs n (by omega)
    have hne : ∀ i, i < n → s i ≠ t := fun i h => by rw [← ht]; exact hi i n h (by omega)
    have h1 := ih (fun i => f (if i < t then i else i + 1)) (fun i => if s i < t then s i else s i - 1) (fun i h => by
        have a := hs i (by omega)
        have b := hne i h
        show (if s i < t then s i else s i - 1) < n
        split <;> omega) (fun i j hij hj => by
        have a := hi i j hij (by omega)
        have b := hne i (by omega)
        have c := hne j hj
        show (if s i < t then s i else s i - 1) ≠ (if s j < t then s j else s j - 1)
        split <;> split <;> omega)
    rw [S_strike n t f (by omega), ← h1]
    show S n (fun i => f (s i)) + f (s n) = _
    rw [ht]
    congr 1
    refine S_congr fun i h => ?_
    have b := hne i h
    show f (s i) = f (if (if s i < t then s i else s i - 1) < t then (if s i < t then s i else s i - 1) else (if s i < t then s i else s i - 1) + 1)
    congr 1
    by_cases hc : s i < t
    · rw [if_pos hc, if_pos hc]
    · rw [if_neg hc, if_neg (by omega)]; omega
theorem nth_revL (xs : List Int) (k : Nat) (h : k < xs.length) : nth (revL xs) k = nth xs (revAt xs.length k) % 18446744069414584321 := nth_ofFn _ _ _ h
theorem dft_ofT (xs ys : List Int) (z : Int) (hl : ys.length = xs.length)
    (h : ∀ k, k < xs.length → 0 ≤ nth ys k ∧ nth ys k < 18446744069414584321 ∧ Eqm (nth ys k) (T xs.length z (nth xs) k)) : ys = dftL xs z := by
  apply ext_nth (by rw [dftL_len, hl])
  intro k hk
  rw [hl] at hk
  rw [nth_dftL _ _ _ hk]
  obtain ⟨h1, h2, h3⟩ := h k hk
  have b := pt_range xs (pw z k)
  exact eq_of_eqm (h3.trans (pt_T xs z k).symm) h1 h2 b.1 b.2
theorem sz_part {a b : Nat} (h : hasSz ((a * b : Nat) : Int) = true) : hasSz (a : Int) = true ∧ hasSz (b : Int) = true := by
  obtain ⟨h1, h2, h3⟩ := hasSz_iff.1 h
  have h5 : ((18446744069414584320 % (a * b) : Nat) : Int) = 0 := by rw [Int.natCast_emod]; exact h3
  have hd : a * b ∣ 18446744069414584320 := Nat.dvd_of_mod_eq_zero (by omega)
  have ha : 0 < a := Nat.pos_of_ne_zero (fun e => by subst e; rw [Nat.zero_mul] at h1; omega)
  have hb : 0 < b := Nat.pos_of_ne_zero (fun e => by subst e; rw [Nat.mul_zero] at h1; omega)
  have la : a ≤ a * b := Nat.le_mul_of_pos_right a hb
  have lb : b ≤ a * b := Nat.le_mul_of_pos_left b ha
  have da : 18446744069414584320 % a = 0 := Nat.mod_eq_zero_of_dvd (Nat.dvd_trans ⟨b, rfl⟩ hd)
  have db : 18446744069414584320 % b = 0 := Nat.mod_eq_zero_of_dvd (Nat.dvd_trans ⟨a, Nat.mul_comm a b⟩ hd)
  have ea : ((18446744069414584320 % a : Nat) : Int) = 0 := by rw [da]; rfl
  have eb : ((18446744069414584320 % b : Nat) : Int) = 0 := by rw [db]; rfl
  rw [Int.natCast_emod] at ea eb
  exact ⟨hasSz_iff.2 ⟨by omega, by omega, ea⟩, hasSz_iff.2 ⟨by omega, by omega, eb⟩⟩
theorem inv_uniq {x y u v : Int} (h1 : Eqm (x * u) 1) (h2 : Eqm (y * v) 1) (h : Eqm x y) : Eqm u v := by
  have a := h1.mul (rfl' v)
  have b := h2.mul (rfl' u)
  rw [Int.one_mul] at a b
  have c : Eqm (x * u * v) (y * v * u) := by
    have := (h.mul (rfl' u)).mul (rfl' v)
    rwa [Int.mul_assoc y u v, Int.mul_comm u v, ← Int.mul_assoc] at this
  exact b.symm.trans (c.symm.trans a)
theorem rtExp_part {a b : Nat} (h : hasSz ((a * b : Nat) : Int) = true) : rtExp (a * b) * b = rtExp a := by
  have h1 := rtExp_mul (a * b) h
  have h2 := rtExp_mul a (sz_part h).1
  have ha : 0 < a := by have := (hasSz_iff.1 (sz_part h).1).1; omega
  have : rtExp (a * b) * b * a = rtExp a * a := by
    rw [h2, ← h1, Nat.mul_assoc, Nat.mul_comm b a]
  exact Nat.eq_of_mul_eq_mul_right ha this
theorem rt_part {a b : Nat} (h : hasSz ((a * b : Nat) : Int) = true) : Eqm (rt (a * b) ^ b) (rt a) := by
  refine (rt_pow (a * b) b).trans ?_
  rw [← Int.pow_mul, rtExp_part h]
  exact (pw_eqm 7 (rtExp a)).symm
theorem dirRt_part {a b : Nat} (d : Int) (h : hasSz ((a * b : Nat) : Int) = true) : Eqm (dirRt (a * b) d ^ b) (dirRt a d) := by
  have h1 := rt_part h
  unfold dirRt
  split
  · exact inv_uniq ((isRoot_rt (a * b) h).inv_pow b) (isRoot_rt a (sz_part h).1).inv h1
  · exact h1
theorem dirRt_part2 {a b : Nat} (d : Int) (h : hasSz ((a * b : Nat) : Int) = true) : Eqm (dirRt (a * b) d ^ a) (dirRt b d) := by
  have h2 : hasSz ((b * a : Nat) : Int) = true := by rw [Nat.mul_comm]; exact h
  have := dirRt_part (a := b) (b := a) d h2
  rwa [Nat.mul_comm b a] at this
def colL (xs : List Int) (a b j : Nat) : List Int := (List.range a).map fun i => nth xs (i * b + j)
theorem colL_len (xs : List Int) (a b j : Nat) : (colL xs a b j).length = a := by simp [colL]
theorem nth_colL (xs : List Int) (a b j i : Nat) (h : i < a) : nth (colL xs a b j) i = nth xs (i * b + j) := nth_ofFn _ _ _ h
def gtL (xs : List Int) (a b : Nat) (za : Int) (tw : Nat → Nat → Int) : List Int := (List.range (a * b)).map fun k => nth (dftL (colL xs a b (k % b)) za) (k / b) * tw (k / b) (k % b) % 18446744069414584321
theorem gtL_len (xs : List Int) (a b : Nat) (za : Int) (tw : Nat → Nat → Int) : (gtL xs a b za tw).length = a * b := by simp [gtL]
theorem nth_gtL (xs : List Int) (a b : Nat) (za : Int) (tw : Nat → Nat → Int) (k : Nat) (h : k < a * b) : nth (gtL xs a b za tw) k = nth (dftL (colL xs a b (k % b)) za) (k / b) * tw (k / b) (k % b) % 18446744069414584321 := nth_ofFn _ _ _ h
theorem gtL_fits (xs : List Int) (a b : Nat) (za : Int) (tw : Nat → Nat → Int) : ∀ x ∈ gtL xs a b za tw, fits .u64 x := modL_fits _
def rowL (ts : List Int) (b i : Nat) : List Int := (List.range b).map fun j => nth ts (i * b + j)
theorem rowL_len (ts : List Int) (b i : Nat) : (rowL ts b i).length = b := by simp [rowL]
theorem nth_rowL (ts : List Int) (b i j : Nat) (h : j < b) : nth (rowL ts b i) j = nth ts (i * b + j) := nth_ofFn _ _ _ h
def grL (ts : List Int) (a b : Nat) (zb : Int) : List Int := (List.range (a * b)).map fun k => nth (dftL (rowL ts b (k / b)) zb) (k % b)
theorem grL_len (ts : List Int) (a b : Nat) (zb : Int) : (grL ts a b zb).length = a * b := by simp [grL]
theorem nth_grL (ts : List Int) (a b : Nat) (zb : Int) (k : Nat) (h : k < a * b) : nth (grL ts a b zb) k = nth (dftL (rowL ts b (k / b)) zb) (k % b) := nth_ofFn _ _ _ h
theorem dftL_range (xs : List Int) (z : Int) (k : Nat) (h : k < xs.length) : 0 ≤ nth (dftL xs z) k ∧ nth (dftL xs z) k < 18446744069414584321 := by
  rw [nth_dftL xs z k h]; exact pt_range _ _
theorem grL_range (ts : List Int) (a b : Nat) (zb : Int) (k : Nat) (h : k < a * b) : 0 ≤ nth (grL ts a b zb) k ∧ nth (grL ts a b zb) k < 18446744069414584321 := by
  have hb : 0 < b := Nat.pos_of_ne_zero (fun e => by subst e; omega)
  rw [nth_grL _ _ _ _ _ h]
  exact dftL_range _ _ _ (by rw [rowL_len]; exact Nat.mod_lt _ hb)
theorem at_row {b i j : Nat} (hj : j < b) : (i * b + j) / b = i ∧ (i * b + j) % b = j := by
  have hb : 0 < b := by omega
  constructor
  · rw [Nat.mul_comm, Nat.mul_add_div hb, Nat.div_eq_of_lt hj, Nat.add_zero]
  · rw [Nat.mul_comm, Nat.mul_add_mod, Nat.mod_eq_of_lt hj]
theorem row_in {a b i j : Nat} (hi : i < a) (hj : j < b) : i * b + j < a * b := by
  have : (i + 1) * b ≤ a * b := Nat.mul_le_mul_right b (by omega)
  rw [Nat.succ_mul] at this
  omega
/-- What the grid holds at a place, as a sum over rows and columns. -/
theorem grid_at (xs : List Int) (a b : Nat) (za zb : Int) (tw : Nat → Nat → Int) (i j : Nat) (hi : i < a) (hj : j < b) :
    Eqm (nth (grL (gtL xs a b za tw) a b zb) (i * b + j)) (S b (fun v => S a (fun u => nth xs (u * b + v) * za ^ (u * i)) * tw i v * zb ^ (v * j))) := by
  rw [nth_grL _ _ _ _ _ (row_in hi hj), (at_row hj).1, (at_row hj).2]
  refine (dftL_T _ _ j (by rw [rowL_len]; exact hj)).trans ?_
  rw [rowL_len]
  unfold T
  refine S_eqm fun v hv => ?_
  rw [nth_rowL _ _ _ _ hv, nth_gtL _ _ _ _ _ _ (row_in hi hv), (at_row hv).1, (at_row hv).2]
  refine ((Eqm.mod _).trans ?_).mul (rfl' _)
  refine Eqm.mul ?_ (rfl' _)
  refine (dftL_T _ _ i (by rw [colL_len]; exact hi)).trans ?_
  rw [colL_len]
  unfold T
  exact S_eqm fun u hu => by rw [nth_colL _ _ _ _ _ hu]; exact rfl' _
/-- Cooley and Tukey's way. -/
def splL (xs : List Int) (a b : Nat) (za zb z : Int) : List Int :=
  (List.range (a * b)).map fun k => nth (grL (gtL xs a b za (fun i j => pw z (i * j % (a * b)))) a b zb) (k % a * b + k / a)
theorem split_eq (xs : List Int) (a b : Nat) (d : Int) (hx : xs.length = a * b) (h : hasSz ((a * b : Nat) : Int) = true) :
    splL xs a b (dirRt a d) (dirRt b d) (dirRt (a * b) d) = dftL xs (dirRt (a * b) d) := by
  have hr := isRoot_dir (a * b) d h
  have ea := dirRt_part d h
  have eb := dirRt_part2 d h
  obtain ⟨z, hz⟩ : ∃ z, dirRt (a * b) d = z := ⟨_, rfl⟩
  obtain ⟨u, hu⟩ : ∃ u, dirBk (a * b) d = u := ⟨_, rfl⟩
  rw [hz, hu] at hr
  rw [hz] at ea eb ⊢
  have ha : 0 < a := by have := (hasSz_iff.1 (sz_part h).1).1; omega
  have hb : 0 < b := by have := (hasSz_iff.1 (sz_part h).2).1; omega
  refine dft_ofT xs _ z (by rw [hx]; simp [splL]) fun k hk => ?_
  rw [hx] at hk ⊢
  have hk1 : k % a < a := Nat.mod_lt _ ha
  have hk2 : k / a < b := Nat.div_lt_of_lt_mul hk
  have e0 : nth (splL xs a b (dirRt a d) (dirRt b d) z) k = nth (grL (gtL xs a b (dirRt a d) (fun i j => pw z (i * j % (a * b)))) a b (dirRt b d)) (k % a * b + k / a) := nth_ofFn _ _ _ hk
  rw [e0]
  have hb1 := grL_range (gtL xs a b (dirRt a d) (fun i j => pw z (i * j % (a * b)))) a b (dirRt b d) _ (row_in hk1 hk2)
  refine ⟨hb1.1, hb1.2, (grid_at xs a b _ _ _ _ _ hk1 hk2).trans ?_⟩
  obtain ⟨p, hp⟩ : ∃ p, k % a = p := ⟨_, rfl⟩
  obtain ⟨q, hq⟩ : ∃ q, k / a = q := ⟨_, rfl⟩
  have hkk : k = p + a * q := by rw [← hp, ← hq]; exact (Nat.mod_add_div k a).symm
  rw [hp, hq]
  unfold T
  rw [S_grid]
  refine Eqm.trans ?_ (by rw [S_swap]; exact rfl' _)
  refine S_eqm fun v hv => ?_
  rw [← S_mul_r, ← S_mul_r]
  refine S_eqm fun s hs => ?_
  have t1 : Eqm ((dirRt a d) ^ (s * p)) (z ^ (b * (s * p))) := by
    exact (ea.symm.pow _).trans (by rw [← Int.pow_mul]; exact rfl' _)
  have t2 : Eqm ((dirRt b d) ^ (v * q)) (z ^ (a * (v * q))) := by
    exact (eb.symm.pow _).trans (by rw [← Int.pow_mul]; exact rfl' _)
  have t3 : Eqm (pw z (p * v % (a * b))) (z ^ (p * v)) := (pw_eqm _ _).trans (hr.pow_mod _)
  have t4 := hr.times (s * q)
  have key : Eqm (nth xs (s * b + v) * (dirRt a d) ^ (s * p) * pw z (p * v % (a * b)) * (dirRt b d) ^ (v * q)) (nth xs (s * b + v) * z ^ (b * (s * p)) * z ^ (p * v) * z ^ (a * (v * q))) :=
    ((((rfl' _).mul t1).mul t3).mul t2)
  refine key.trans ?_
  have ex : (s * b + v) * k = b * (s * p) + p * v + a * (v * q) + a * b * (s * q) := by rw [hkk]; grind
  have e5 : nth xs (s * b + v) * z ^ ((s * b + v) * k) = nth xs (s * b + v) * z ^ (b * (s * p)) * z ^ (p * v) * z ^ (a * (v * q)) * z ^ (a * b * (s * q)) := by
    rw [ex, Int.pow_add, Int.pow_add, Int.pow_add]; simp only [Int.mul_assoc]
  rw [e5]
  have := (rfl' (nth xs (s * b + v) * z ^ (b * (s * p)) * z ^ (p * v) * z ^ (a * (v * q)))).mul t4
  rw [Int.mul_one] at this
  exact this.symm
/-- Good and Thomas's way. -/
def gdIn (xs : List Int) (a b : Nat) : List Int := (List.range (a * b)).map fun k => nth xs (gooF a b k)
theorem gdIn_len (xs : List Int) (a b : Nat) : (gdIn xs a b).length = a * b := by simp [gdIn]
theorem nth_gdIn (xs : List Int) (a b k : Nat) (h : k < a * b) : nth (gdIn xs a b) k = nth xs (gooF a b k) := nth_ofFn _ _ _ h
def gdL (xs : List Int) (a b : Nat) (za zb : Int) : List Int :=
  (List.range (a * b)).map fun k => nth (grL (gtL (gdIn xs a b) a b za (fun _ _ => 1)) a b zb) (crtF a b k)
theorem good_eq (xs : List Int) (a b : Nat) (d : Int) (hx : xs.length = a * b) (h : hasSz ((a * b : Nat) : Int) = true) (hg : Nat.gcd a b = 1) :
    gdL xs a b (dirRt a d) (dirRt b d) = dftL xs (dirRt (a * b) d) := by
  have hr := isRoot_dir (a * b) d h
  have ea := dirRt_part d h
  have eb := dirRt_part2 d h
  obtain ⟨z, hz⟩ : ∃ z, dirRt (a * b) d = z := ⟨_, rfl⟩
  obtain ⟨u, hu⟩ : ∃ u, dirBk (a * b) d = u := ⟨_, rfl⟩
  rw [hz, hu] at hr
  rw [hz] at ea eb ⊢
  have ha : 0 < a := by have := (hasSz_iff.1 (sz_part h).1).1; omega
  have hb : 0 < b := by have := (hasSz_iff.1 (sz_part h).2).1; omega
  refine dft_ofT xs _ z (by rw [hx]; simp [gdL]) fun k hk => ?_
  rw [hx] at hk ⊢
  have hk1 : k % a < a := Nat.mod_lt _ ha
  have hk2 : k % b < b := Nat.mod_lt _ hb
  have e0 : nth (gdL xs a b (dirRt a d) (dirRt b d)) k = nth (grL (gtL (gdIn xs a b) a b (dirRt a d) (fun _ _ => 1)) a b (dirRt b d)) (k % a * b + k % b) := nth_ofFn _ _ _ hk
  rw [e0]
  have hb1 := grL_range (gtL (gdIn xs a b) a b (dirRt a d) (fun _ _ => 1)) a b (dirRt b d) _ (row_in hk1 hk2)
  refine ⟨hb1.1, hb1.2, (grid_at (gdIn xs a b) a b _ _ _ _ _ hk1 hk2).trans ?_⟩
  unfold T
  rw [← S_perm (a * b) (fun i => nth xs i * z ^ (i * k)) (gooF a b) (gooF_lt a b) (gooF_inj a b hg), S_grid]
  refine Eqm.trans ?_ (by rw [S_swap]; exact rfl' _)
  refine S_eqm fun v hv => ?_
  rw [Int.mul_one, ← S_mul_r]
  refine S_eqm fun s hs => ?_
  rw [nth_gdIn _ _ _ _ (row_in hs hv)]
  have t1 : Eqm ((dirRt a d) ^ (s * (k % a))) (z ^ (b * (s * k))) := by
    refine (ea.symm.pow _).trans ?_
    rw [← Int.pow_mul]
    have hx : b * (s * k) = b * (s * (k % a)) + a * b * (s * (k / a)) := by
      have := Nat.mod_add_div k a
      obtain ⟨p, hp⟩ : ∃ p, k % a = p := ⟨_, rfl⟩
      obtain ⟨q, hq⟩ : ∃ q, k / a = q := ⟨_, rfl⟩
      rw [hp, hq] at this ⊢
      rw [← this]; grind
    rw [hx, Int.pow_add]
    have := (rfl' (z ^ (b * (s * (k % a))))).mul (hr.times (s * (k / a)))
    rw [Int.mul_one] at this
    exact this.symm
  have t2 : Eqm ((dirRt b d) ^ (v * (k % b))) (z ^ (a * (v * k))) := by
    refine (eb.symm.pow _).trans ?_
    rw [← Int.pow_mul]
    have hx : a * (v * k) = a * (v * (k % b)) + a * b * (v * (k / b)) := by
      have := Nat.mod_add_div k b
      obtain ⟨p, hp⟩ : ∃ p, k % b = p := ⟨_, rfl⟩
      obtain ⟨q, hq⟩ : ∃ q, k / b = q := ⟨_, rfl⟩
      rw [hp, hq] at this ⊢
      rw [← this]; grind
    rw [hx, Int.pow_add]
    have := (rfl' (z ^ (a * (v * (k % b))))).mul (hr.times (v * (k / b)))
    rw [Int.mul_one] at this
    exact this.symm
  refine (((rfl' _).mul t1).mul t2).trans ?_
  have e2 : gooF a b (s * b + v) = (s * b + v * a) % (a * b) := by unfold gooF; rw [(at_row hv).1, (at_row hv).2]
  rw [Int.mul_assoc, ← Int.pow_add]
  refine (rfl' _).mul ?_
  rw [e2, show b * (s * k) + a * (v * k) = (s * b + v * a) * k by grind, Int.pow_mul, Int.pow_mul]
  exact (hr.pow_mod _).symm.pow k
def arL (xs ts : List Int) (m : Nat) : List Int := scaleL (revL (dftL (mulL (dftL xs (dirRt m 0)) ts) (dirRt m 0))) (invN m)
theorem around_eq (xs rs : List Int) (m : Nat) (hx : xs.length = m) (hr : rs.length = m) (h : hasSz (m : Int) = true) :
    arL xs (dftL rs (dirRt m 0)) m = cvL xs rs m := by
  have hro := isRoot_dir m 0 h
  unfold arL
  rw [← dft_conv xs rs m _ _ hro hx hr]
  have ht := dft_twice (cvL xs rs m) 0 (by rw [cvL_len]; exact h)
  rw [cvL_len] at ht
  rw [ht]
  have hb := hasSz_iff.1 h
  apply ext_nth (by rw [scaleL_len, revL_len, scaleL_len, revL_len])
  intro k hk
  rw [scaleL_len, revL_len, scaleL_len, revL_len, cvL_len] at hk
  have hl1 : (scaleL (revL (cvL xs rs m)) (m : Int)).length = m := by rw [scaleL_len, revL_len, cvL_len]
  rw [nth_scaleL _ _ _ (by rw [revL_len, hl1]; exact hk)]
  have e1 : nth (revL (scaleL (revL (cvL xs rs m)) (m : Int))) k = nth (scaleL (revL (cvL xs rs m)) (m : Int)) (revAt m k) % 18446744069414584321 := by
    rw [nth_revL _ _ (by rw [hl1]; exact hk), hl1]
  have hrv := revAt_lt hk
  rw [e1, nth_scaleL _ _ _ (by rw [revL_len, cvL_len]; exact hrv)]
  have e2 : nth (revL (cvL xs rs m)) (revAt m k) = nth (cvL xs rs m) (revAt m (revAt m k)) % 18446744069414584321 := by
    rw [nth_revL _ _ (by rw [cvL_len]; exact hrv), cvL_len]
  have e3 : revAt m (revAt m k) = k := by
    unfold revAt
    by_cases h0 : k = 0
    · subst h0; simp
    · rw [Nat.mod_eq_of_lt (show m - k < m by omega), show m - (m - k) = k by omega, Nat.mod_eq_of_lt hk]
  rw [e2, e3, nth_cvL _ _ _ _ hk]
  obtain ⟨c, hc⟩ : ∃ c, cvS xs rs m k = c := ⟨_, rfl⟩
  rw [hc]
  refine eq_of_eqm ?_ (by omega) (by omega) (by omega) (by omega)
  refine (Eqm.mod _).trans ?_
  have s1 : Eqm (c % 18446744069414584321 % 18446744069414584321 * (m : Int) % 18446744069414584321 % 18446744069414584321 * invN m) (c % 18446744069414584321 * (m : Int) * invN m) :=
    ((Eqm.mod _).trans ((Eqm.mod _).trans ((Eqm.mod _).mul (rfl' _)))).mul (rfl' _)
  refine s1.trans ?_
  rw [Int.mul_assoc]
  have := (rfl' (c % 18446744069414584321)).mul (inv_n m (by omega) (by omega))
  rwa [Int.mul_one] at this
def radIn (xs : List Int) (q : Nat) : List Int := (List.range (q - 1)).map fun i => nth xs (gp q i)
theorem radIn_len (xs : List Int) (q : Nat) : (radIn xs q).length = q - 1 := by simp [radIn]
theorem nth_radIn (xs : List Int) (q i : Nat) (h : i < q - 1) : nth (radIn xs q) i = nth xs (gp q i) := nth_ofFn _ _ _ h
theorem radAt_lt {q : Nat} (h : IsFq q) (i : Nat) : radAt q i < q := gp_lt q _ (by have := fq_bd h; omega)
theorem radAt_pos {q : Nat} (h : IsFq q) (i : Nat) : 0 < radAt q i := gp_pos h _
theorem radAt_inj {q : Nat} (h : IsFq q) (i j : Nat) (hij : i < j) (hj : j < q - 1) : radAt q i ≠ radAt q j := by
  have hb := fq_bd h
  unfold radAt
  by_cases h0 : i = 0
  · subst h0
    rw [Nat.sub_zero, Nat.mod_self, Nat.mod_eq_of_lt (show q - 1 - j < q - 1 by omega)]
    exact gp_inj h _ _ (by omega) (by omega)
  · rw [Nat.mod_eq_of_lt (show q - 1 - i < q - 1 by omega), Nat.mod_eq_of_lt (show q - 1 - j < q - 1 by omega)]
    exact fun e => gp_inj h _ _ (by omega) (by omega) e.symm
theorem radAt_onto {q : Nat} (h : IsFq q) (b : Nat) (h1 : 1 ≤ b) (h2 : b < q) : ∃ i, i < q - 1 ∧ radAt q i = b := by
  have hb := fq_bd h
  obtain ⟨i, hi, he⟩ := gp_onto h b h1 h2
  by_cases h0 : i = 0
  · exact ⟨0, by omega, by rw [radAt_zero h, ← he, h0, gp_zero h]⟩
  · exact ⟨q - 1 - i, by omega, by rw [radAt_eq h _ (by omega), show q - 1 - (q - 1 - i) = i by omega]; exact he⟩
theorem sumP_S (n : Nat) (f : Nat → Int) : sumP ((List.range n).map f) = S n f % 18446744069414584321 := by
  induction n with
  | zero => rfl
  | succ n ih => rw [List.range_succ, List.map_append, List.map_singleton, sumP_snoc, ih, Int.emod_add_emod]; rfl
theorem list_nth (xs : List Int) : xs = (List.range xs.length).map (nth xs) :=
  ext_nth (by simp) fun i hi => (nth_ofFn _ _ _ hi).symm
theorem sumP_nth (xs : List Int) : sumP xs = S xs.length (nth xs) % 18446744069414584321 := by
  have := sumP_S xs.length (nth xs)
  rwa [← list_nth] at this
theorem rader_eq (xs ys : List Int) (q : Nat) (d : Int) (hq : IsFq q) (hs : hasSz (q : Int) = true) (hx : xs.length = q) (hy : ys.length = q)
    (h0 : nth ys 0 = sumP xs) (h : ∀ i, i < q - 1 → nth ys (radAt q i) = (nth xs 0 + nth (cvL (radIn xs q) (radL (dirRt q d) q) (q - 1)) i) % 18446744069414584321) : ys = dftL xs (dirRt q d) := by
  have hr := isRoot_dir q d hs
  have hb := fq_bd hq
  obtain ⟨z, hz⟩ : ∃ z, dirRt q d = z := ⟨_, rfl⟩
  rw [hz] at hr h ⊢
  refine dft_ofT xs ys z (by rw [hx, hy]) fun k hk => ?_
  rw [hx] at hk ⊢
  by_cases hk0 : k = 0
  · subst hk0
    rw [h0]
    have hbd := sumP_range xs
    refine ⟨hbd.1, hbd.2, ?_⟩
    rw [sumP_nth, hx]
    refine (Eqm.mod _).trans ?_
    unfold T
    exact S_eqm fun i _ => by rw [Nat.mul_zero, Int.pow_zero, Int.mul_one]; exact rfl' _
  · obtain ⟨i, hi, rfl⟩ := radAt_onto hq k (by omega) hk
    rw [h i hi]
    refine ⟨by omega, by omega, (Eqm.mod _).trans ?_⟩
    obtain ⟨κ, hκ⟩ : ∃ κ, radAt q i = κ := ⟨_, rfl⟩
    rw [hκ]
    have e1 : T q z (nth xs) κ = nth xs 0 + S (q - 1) (fun t => nth xs (t + 1) * z ^ ((t + 1) * κ)) := by
      unfold T
      rw [show q = (q - 1) + 1 by omega, S_head, Nat.zero_mul, Int.pow_zero, Int.mul_one]
      rfl
    rw [e1]
    refine (rfl' _).add ?_
    have e2 := S_perm (q - 1) (fun t => nth xs (t + 1) * z ^ ((t + 1) * κ)) (fun t => gp q t - 1) (fun t _ => by
        have := gp_lt q t (by omega)
        show gp q t - 1 < q - 1
        omega) (fun t v htv hv => by
        have a := gp_pos hq t
        have b := gp_pos hq v
        have c := gp_inj hq t v htv hv
        show gp q t - 1 ≠ gp q v - 1
        omega)
    rw [← e2, nth_cvL _ _ _ _ hi, cyc_at _ _ (q - 1) i (radIn_len _ _) (radL_len _ _) hi]
    refine (Eqm.mod _).trans (S_eqm fun t ht => ?_)
    have hgt := gp_pos hq t
    have ho := othAt_lt (q - 1) i t (by omega)
    rw [nth_radIn _ _ _ ht, nth_radL _ _ _ ho, show gp q t - 1 + 1 = gp q t by omega]
    refine (rfl' _).mul ?_
    refine (pw_eqm _ _).trans ?_
    have e3 : radAt q (othAt (q - 1) i t) = gp q t * κ % q := by
      rw [← hκ]
      unfold radAt
      rw [gp_mod hq (q - 1 - i), ← gp_add]
      have e4 : (q - 1 - othAt (q - 1) i t) % (q - 1) = (t + (q - 1 - i)) % (q - 1) := by
        unfold othAt
        obtain ⟨m, hm⟩ : ∃ m, q - 1 = m := ⟨_, rfl⟩
        rw [hm] at hi ht ⊢
        by_cases hti : t ≤ i
        · rw [show i + m - t = (i - t) + m by omega, Nat.add_mod_right, Nat.mod_eq_of_lt (show i - t < m by omega), show m - (i - t) = t + (m - i) by omega]
        · rw [Nat.mod_eq_of_lt (show i + m - t < m by omega), show m - (i + m - t) = t - i by omega, show t + (m - i) = (t - i) + m by omega, Nat.add_mod_right]
      rw [e4, gp_mod hq]
    rw [e3]
    exact hr.pow_mod _
end Go.Proofs.YtcckfeikaolfgaaGreat

namespace Go.Proofs.YtcckfeikaolfgaaGreat
open Go.RowKit
set_option linter.unusedVariables false
set_option linter.unusedSimpArgs false
set_option maxRecDepth 100000
/-- A result: a new row, of the call's own. -/
def GivesOwn (k : IntKind) (t : TypeId) (xs : List Int) (w : World) (e : Ending) (w' : World) : Prop :=
  ∃ a cap, e = .returned (.slice a xs.length cap) ∧ w'.ownsRow w.heap.size t 1 (.slice a xs.length cap) xs.length (xs.map (Value.int k)) ∧ (∀ x ∈ xs, fits k x) ∧ xs.length ≤ 16777216 ∧ Below w.heap.size w w'
theorem GivesOwn.row {k : IntKind} {t : TypeId} {xs : List Int} {w w' : World} {e : Ending} (h : GivesOwn k t xs w e w') : GivesRow k xs w e w' := by
  obtain ⟨a, cap, rfl, ho, hf, hl, hb⟩ := h
  exact gives_of_own ho hb rfl rfl hf hl
theorem Own.givesO {k : IntKind} {e : TypeId} {w wr : World} {v : Value} {n : Nat} {f : Nat → Int} (h : Own k e w wr v n f) {xs : List Int} (hn : xs.length = n) (hw : ∀ x ∈ xs, fits k x) (hf : ∀ i, i < n → nth xs i = f i) (hl : n ≤ 16777216) :
    GivesOwn k e xs w (.returned v) wr := by
  obtain ⟨a, cap, rfl, hnil⟩ := own_slice h.own
  have e1 : xs.map (Value.int k) = (List.range n).map fun j => Value.int k (f j) := by
    apply List.ext_getElem (by simp [hn])
    intro i h1 h2
    have h3 : i < n := by simpa [hn] using h1
    have := hf i h3
    simp only [List.getElem_map, List.getElem_range]
    rw [← this]
    simp [nth, show i < xs.length by omega]
  refine ⟨a, cap, by rw [hn], ?_, hw, by omega, h.below⟩
  rw [hn, e1]
  exact h.own
theorem OwnAt.givesO {k : IntKind} {e : TypeId} {w wr : World} {g n : Nat} {f : Nat → Int} (h : OwnAt k e w wr g n f) {xs : List Int} (hn : xs.length = n) (hw : ∀ x ∈ xs, fits k x) (hf : ∀ i, i < n → nth xs i = f i) (hl : n ≤ 16777216) :
    GivesOwn k e xs w (.returned (.slice (some ⟨g, 0, none⟩) n n)) wr :=
  Own.givesO (e := e) ⟨h.own, h.below⟩ hn hw hf hl
theorem zeros_list (x : Value) (n : Nat) : (Builtin.zeroCells #[x] n).toList = List.replicate n x := by
  have hs := size_zeroCells #[x] n
  apply List.ext_getElem
  · simp [hs]
  · intro i h1 h2
    simp [Builtin.zeroCells, Nat.mod_one]
theorem run_append_zeros_own {P : Program} (w : World) (base : Nat) (t tn ty e : TypeId) (i : TypeInfo) (k kq kn : IntKind) (ht : P.underlying t = some (.slice e)) (htn : P.underlying tn = some (.int kn)) (hi : P.info? e = some i) (hz : i.zero = some (.int k 0)) (hz1 : i.size = 1) (hz2 : i.bytes = 8)
    (v : Value) (n : Nat) (xs : List Value) (hown : w.ownsRow base e 1 v n xs) (m : Nat) (hlen : n + m ≤ 100000000) (hbase : base ≤ w.heap.size) :
    ∃ v' w', (Builtin.append_ #[t, tn] ty #[v, .int kq m]).run P w = .ok v' w' ∧ w'.ownsRow base e 1 v' (n + m) (xs ++ List.replicate m (.int k 0)) ∧ w.grownBy w' v.ownBlock := by
  have hxl : xs.length = n := by rw [hown.1, Nat.mul_one]
  have hw : IntKind.i64.wrap (m : Int) = m := IntWalk.i64_in _ (by omega)
  have hw0 : IntKind.i64.wrap 0 = 0 := rfl
  have hneg : ¬ ((m : Int) < 0) := by omega
  have h48 : ¬ (281474976710656 < (m : Int) * 8) := by omega
  have hlen2 : (xs ++ List.replicate m (Value.int k 0)).length = (n + m) * 1 := by simp [hxl]
  have hZ : (Value.int k 0).cells = #[Value.int k 0] := rfl
  have grown : ∀ (old : Nat) (row : Option Nat), old < n + m →
      (w.drew.alloc (.cells (xs.toArray ++ Builtin.zeroCells #[Value.int k 0] m ++ Builtin.zeroCells #[Value.int k 0] (grownCap w (n + m) old e - (n + m))) e)).ownsRow base e 1
        (.slice (some ⟨w.heap.size, 0, none⟩) (n + m) (grownCap w (n + m) old e)) (n + m) (xs ++ List.replicate m (.int k 0)) ∧
      w.grownBy (w.drew.alloc (.cells (xs.toArray ++ Builtin.zeroCells #[Value.int k 0] m ++ Builtin.zeroCells #[Value.int k 0] (grownCap w (n + m) old e - (n + m))) e)) row := by
    intro old row ho
    have hge := grownCap_ge w (n + m) old e
    have hcm : grownCap w (n + m) old e ≤ maxLen := grownCap_le_maxLen w (n + m) old e (by unfold maxLen; omega)
    refine ⟨⟨hlen2, .inr ⟨w.heap.size, _, _, rfl, hbase, heap_alloc_new w.drew _, hge, hcm, ?_, ?_⟩⟩, ⟨rfl, rfl, rfl, by simp, fun j hj _ => heap_alloc_old w.drew _ hj⟩⟩
    · simp only [Array.size_append, List.size_toArray, size_zeroCells, hxl]
      simp
      omega
    · simp only [Array.toList_append, zeros_list]
      rw [← hlen2]
      exact List.take_left
  rcases hown.2 with ⟨rfl, rfl⟩ | ⟨g, cap, cur, rfl, hbg, hg, hnc, hcm, hcs, htake⟩
  · have hx : xs = [] := List.eq_nil_of_length_eq_zero hxl
    subst hx
    by_cases hm : m = 0
    · subst hm
      refine ⟨.slice none 0 0, w, ?_, World.ownsRow_nil w base e 1, World.grownBy.refl _ _⟩
      simp [Builtin.append_, run_underlying ht, run_underlying htn, sizeOf, typeInfo, hi, asInt, asIntOf, hw0]
    · have hr := Lib.run_append_nil_zeros (P := P) w t tn ty e i (.int k 0) kq kn ht htn hi hz m (by omega) (by omega) (by omega) (by rw [hz2]; omega)
      have hgr := grown 0 (Value.ownBlock (.slice none 0 0)) (by omega)
      rw [hZ] at hr
      simp only [Nat.zero_add, List.nil_append, Array.empty_append] at hgr ⊢
      exact ⟨_, _, hr, hgr.1, hgr.2⟩
  · by_cases hroom : n + m ≤ cap
    · have hcs' : cur.size = cap := by rw [hcs, Nat.mul_one]
      have hst := run_storeCells_at P g n e (List.replicate m (.int k 0)) 0 cur w hg (by simp; omega) (by intro u hu; rw [List.eq_of_mem_replicate hu]; rfl)
      refine ⟨_, w.setRow g (cur.toList.take n ++ List.replicate m (Value.int k 0) ++ cur.toList.drop (n + m)).toArray, ?_, ⟨hlen2, .inr ⟨g, cap, _, rfl, hbg, setRow_heap w g cur _ e _ hg, hroom, hcm, ?_, ?_⟩⟩, ⟨rfl, rfl, rfl, by simp, fun j _ hj => setRow_other w g j _ (fun e => hj (by simp [Value.ownBlock, e]))⟩⟩
      · by_cases hm : m = 0
        · subst hm
          have hself : w.setRow g (cur.toList.take n ++ List.replicate 0 (Value.int k 0) ++ cur.toList.drop (n + 0)).toArray = w := by
            simp only [List.replicate_zero, List.append_nil, Nat.add_zero, List.take_append_drop, Array.toArray_toList]
            exact setRow_self w g cur e (0, 0) hg
          rw [hself]
          simp [Builtin.append_, run_underlying ht, run_underlying htn, sizeOf, typeInfo, hi, asInt, asIntOf, hnc, hw0, storeCells]
        · have hns : ¬ (m * i.size = 0) := by rw [hz1]; omega
          simp only [Nat.add_zero, List.length_replicate] at hst
          simp [Builtin.append_, run_underlying ht, run_underlying htn, sizeOf, typeInfo, zeroValue, hi, hz, hz1, hz2, asInt, asIntOf, hw, hneg, h48, hroom, hm, zeros_list, Value.cells, Addr.add_lit, hst]
      · simp only [List.size_toArray, List.length_append, List.length_take, List.length_drop, Array.length_toList, List.length_replicate]
        omega
      · rw [Nat.mul_one] at htake
        rw [htake, ← hlen2]
        exact List.take_left
    · have holds : ∀ j u, xs[j]? = some u → w.cell? ((⟨g, 0, none⟩ : Addr).add j) = some u := hown.cells (g := g) rfl
      have hfo := run_firstCells_some (P := P) w.drew i.size n ⟨g, 0, none⟩ n cap xs (by rw [hz1, hxl, Nat.mul_one]) (by simpa using holds)
      by_cases hm : m = 0
      · omega
      · have hfit : Builtin.nextslicecap (n + m) cap * i.bytes ≤ 281474976710656 := growslice_fits (by omega) (by rw [hz2]; omega)
        have hr := Lib.run_append_grow_zeros (P := P) w t tn ty e i (.int k 0) kq kn ht htn hi hz (some ⟨g, 0, none⟩) n cap xs hfo m (by omega) (by omega) (by omega) (by omega) (by rw [hz2]; omega) hfit
        have hgr := grown cap (Value.ownBlock (.slice (some ⟨g, 0, none⟩) n cap)) (by omega)
        rw [hZ] at hr
        exact ⟨_, _, hr, hgr.1, hgr.2⟩
/-- append(own, make([]T, m)...) in a walk. -/
theorem wpList_append_zeros {P : Program} (w : World) {ops : Array Oper} {rest : List Oper} {o : Oper} {a : Act} {Q : Exit → Act → World → Prop} (hgd : o.guard = none) (s x : Operand) (t tn : TypeId)
    (ho : o.op = .call { callee := .builtin .append, args := #[s, x], argTypes := #[t, tn] }) (base : Nat) (e : TypeId) (i : TypeInfo) (k kq kn : IntKind) (ht : P.underlying t = some (.slice e)) (htn : P.underlying tn = some (.int kn)) (hi : P.info? e = some i) (hz : i.zero = some (.int k 0)) (hz1 : i.size = 1) (hz2 : i.bytes = 8)
    (v : Value) (n : Nat) (xs : List Value) (hs : a.eval s = v) (hown : w.ownsRow base e 1 v n xs) (m : Nat) (hx : a.eval x = .int kq m) (hlen : n + m ≤ 100000000) (hbase : base ≤ w.heap.size)
    (h : ∀ v' w', w'.ownsRow base e 1 v' (n + m) (xs ++ List.replicate m (.int k 0)) → w.grownBy w' v.ownBlock → wpList P ops Q rest (a.put o.dst v') w') : wpList P ops Q (o :: rest) a w := by
  obtain ⟨v', w', hr, h1, h2⟩ := run_append_zeros_own (P := P) w base t tn o.type e i k kq kn ht htn hi hz hz1 hz2 v n xs hown m hlen hbase
  exact Lib.wpList_append_run w hgd s x t tn ho v (.int kq m) hs hx v' w' hr (h v' w' h1 h2)
end Go.Proofs.YtcckfeikaolfgaaGreat

namespace Go.Proofs.YtcckfeikaolfgaaGreat
open Go.RowKit
set_option linter.unusedVariables false
set_option linter.unusedSimpArgs false
set_option maxRecDepth 100000
set_option maxHeartbeats 400000 in
theorem vec_eachO (n : Nat) (g : Nat → Int) (fid : Nat) (caps : Array Value) (w : World) (hn : n ≤ 16777216) (hg : ∀ i, i < n → fits .u64 (g i)) 
    (hent : ∀ args w, (callFunc fid args).run Tryz.prog w = .ok (.enter fid args) w)
    (hf : ∀ (i : Nat) (wr : World), i < n → Below w.heap.size w wr → Calls Tryz.prog fid (#[.int .i64 i] ++ caps) wr fun e w' => e = .returned (.int .u64 (g i)) ∧ Below wr.heap.size wr w') :
    Calls Tryz.prog 51 #[.int .i64 n, .func (.func fid) #[] caps] w (GivesOwn .u64 38 ((List.range n).map g) w) := by
  obtain ⟨i0, hi, hz0, hz1, hz2⟩ := info_parts info_u64
  have HF := Lib.hid hf
  have HG := Lib.hid hg
  clear hf hg
  go_enter Tryz.func51, Tryz.ntmps51
  go_wp2_with (at_make; refine wpList_make_full _ rfl _ _ 25 rfl w.heap.size 38 i0 (.int .u64 0) 1 Tryz.underlying25 hi hz0 hz1 .i64 .i64 n n n rfl rfl rfl rfl (by rw [hz2]; omega) (by unfold maxLen; omega) (Nat.le_refl _) ?_)
  intro w1 hown0 hgrow0
  have hown := Own.made hown0 hgrow0
  clear hown0 hgrow0
  go_wp2_with fail
  go_loopw [11] (fun i wr => ∃ k : Nat, k ≤ n ∧ i = .int .i64 k ∧ OwnAt .u64 38 w wr w.heap.size n (fun j => if j < k then g j else 0)) (fun i _ => n - (intOf i).toNat)
  case atStart => exact ⟨0, Nat.zero_le _, rfl, by simpa using hown⟩
  case round =>
    obtain ⟨k, hk, rfl, hown⟩ := hrel
    by_cases hlt : k < n
    · have hcall := HF.out k wr hlt hown.below
      go_wp2_with fail
      refine hcall.mono ?_
      rintro e w' ⟨rfl, hb'⟩
      have hown2 := hown.later hb'
      have hc := hown2.cell k hlt
      rw [if_neg (Nat.lt_irrefl k)] at hc
      have hfz := hown2.free k
      have hnext := hown2.store k hlt (g k) (f' := fun j => if j < k + 1 then g j else 0) (by simp) (fun j _ hj => by
        by_cases h1 : j < k
        · simp [h1, show j < k + 1 by omega]
        · simp [h1, show ¬ j < k + 1 by omega])
      have HN := Lib.hid hnext
      clear hnext hcall hown hown2 hb'
      go_wp2_with fail
      go_roundw
      case rel => exact ⟨k + 1, by omega, by go_num, HN.out⟩
      case measure => simp [intOf]; omega
    · have hres := hown.givesO (xs := (List.range n).map g) (by simp) (fun x hx => by obtain ⟨i, hi, rfl⟩ := List.mem_map.1 hx; exact HG.out i (by simpa using hi)) (fun i hi => by rw [nth_ofFn _ _ _ hi, if_pos (by omega)]) hn
      clear hown
      go_wp2_with fail
      go_ret
      exact hres
theorem own_base {w : World} {B B' : Nat} {e : TypeId} {v : Value} {n : Nat} {xs : List Value} (h : w.ownsRow B e 1 v n xs) (hB : B' ≤ B) : w.ownsRow B' e 1 v n xs := by
  obtain ⟨h1, h2 | ⟨g, cap, cur, h3, h4, h5⟩⟩ := h
  · exact ⟨h1, .inl h2⟩
  · exact ⟨h1, .inr ⟨g, cap, cur, h3, Nat.le_trans hB h4, h5⟩⟩
set_option maxHeartbeats 400000 in
theorem vec_RedO (a : Option Addr) (cap : Nat) (xs : List Int) (w : World) (hx : Row .u64 w a xs) (hl : xs.length ≤ 16777216) :
    Calls Tryz.prog 31 #[.slice a xs.length cap] w (GivesOwn .u64 38 (xs.map (· % 18446744069414584321)) w) := by
  have hent : ∀ args w, (callFunc 52 args).run Tryz.prog w = .ok (.enter 52 args) w := enters_of Tryz.func52 (by kernel_rfl) rfl
  have HX : Hid (Row .u64 w a xs) := hx
  clear hx
  have hc0 := one_new w (.slice a xs.length cap) 25
  have hf : ∀ (i : Nat) (wr : World), i < xs.length → Below (w.alloc (.cells #[.slice a xs.length cap] 25)).heap.size (w.alloc (.cells #[.slice a xs.length cap] 25)) wr →
      Calls Tryz.prog 52 (#[.int .i64 i] ++ #[.pointer (some ⟨w.heap.size, 0, none⟩)]) wr fun e w' => e = .returned (.int .u64 (nth xs i % 18446744069414584321)) ∧ Below wr.heap.size wr w' :=
    fun i wr hi hb => (vec_Red1 i a cap xs w.heap.size wr hi (by rw [hb.cell (by simp)]; exact hc0) ((HX.out.below ((Below.refl _ _).alloc (Nat.le_refl _) _)).below hb)).mono fun e w' ⟨he, hw⟩ => ⟨he, hw ▸ Below.refl _ _⟩
  have HF := Lib.hid hf
  clear hf
  go_enter Tryz.func31, Tryz.ntmps31
  go_wp2_with fail
  refine (vec_eachO xs.length (fun i => nth xs i % 18446744069414584321) _ _ _ hl (modfits _) hent (HF.out)).mono ?_
  rintro e w' ⟨a', cap', rfl, hr, hfit, hle, hb⟩
  have HR := Lib.hid hr
  have HFIT := Lib.hid hfit
  clear hr hfit
  go_wp2_with fail
  go_ret
  refine ⟨a', cap', by simp, ?_, by rw [map_nth (· % 18446744069414584321) xs]; exact HFIT.out, by simpa using hle, ((Below.refl _ _).alloc (Nat.le_refl _) _).trans (hb.mono (by simp))⟩
  have h := HR.out
  rw [← map_nth (· % 18446744069414584321) xs] at h
  exact own_base h (by simp)
end Go.Proofs.YtcckfeikaolfgaaGreat

namespace Go.Proofs.YtcckfeikaolfgaaGreat
open Go.RowKit Sm
set_option linter.unusedVariables false
set_option linter.unusedSimpArgs false
set_option maxRecDepth 100000
theorem own_eqz {k : IntKind} {e : TypeId} {w wr : World} {g n : Nat} {f f' : Nat → Int} (h : OwnAt k e w wr g n f) (he : ∀ n, f' n = f n) : OwnAt k e w wr g n f' := by
  rw [show f' = f from funext he]; exact h
set_option maxHeartbeats 800000 in
theorem rootPowers (a : Int) (n : Nat) (w : World) (h0 : 0 ≤ a) (h1 : a < 18446744073709551616) (hn : n ≤ 16777216) :
    Calls Tryz.prog 45 #[.int .u64 a, .int .i64 n] w (GivesRowE .u64 (powL a n) 0 w) := by
  obtain ⟨i0, hi, hz0, hz1, hz2⟩ := info_parts info_u64
  go_enter Tryz.func45, Tryz.ntmps45
  go_wp2_with (at_make; refine wpList_make_full _ rfl _ _ 25 rfl w.heap.size 38 i0 (.int .u64 0) 1 Tryz.underlying25 hi hz0 hz1 .i64 .i64 n n n rfl rfl rfl rfl (by rw [hz2]; omega) (by unfold maxLen; omega) (Nat.le_refl _) ?_)
  intro w1 hown0 hgrow0
  have hown := Own.made hown0 hgrow0
  clear hown0 hgrow0
  go_wp2_with fail
  go_loopw [7, 19] (fun p i wr => ∃ (k : Nat) (v : Int), k ≤ n ∧ i = .int .i64 k ∧ p = .int .u64 v ∧ Hid (v = pw a k) ∧ 0 ≤ v ∧ v < 18446744069414584321 ∧ OwnAt .u64 38 w wr w.heap.size n (fun j => if j < k then pw a j else 0)) (fun _ i _ => n - (intOf i).toNat)
  case atStart => exact ⟨0, 1, Nat.zero_le _, rfl, rfl, (pw_0 a).symm, by omega, by omega, own_eqz hown (fun j => if_neg (by omega))⟩
  case round =>
    obtain ⟨k, v, hk, rfl, rfl, HV, hv0, hv1, hown⟩ := hrel
    by_cases hlt : k < n
    · have hcell := hown.cell k hlt
      rw [if_neg (Nat.lt_irrefl k)] at hcell
      have hfz := hown.free k
      have hnext := hown.store k hlt v (f' := fun j => if j < k + 1 then pw a j else 0) (by rw [if_pos (by omega)]; exact HV.out.symm) (fun j _ hj => by
        by_cases h : j < k
        · rw [if_pos h, if_pos (by omega)]
        · rw [if_neg h, if_neg (by omega)])
      have HN := Lib.hid hnext
      have HM : Hid (v * a % 18446744069414584321 = pw a (k + 1)) := by unfold Hid; rw [HV.out]; exact pw_succ a k
      clear hown hnext
      go_wp2_with (first | (go_at_call 68; refine (gold_Mul _ _ _ (by omega) (by omega) (by omega) (by omega)).mono ?_; rintro e w' ⟨rfl, rfl⟩))
      go_roundw
      case rel => exact ⟨k + 1, _, by omega, by go_num, rfl, HM.out, by omega, by omega, HN.out⟩
      case measure => simp [intOf]; omega
    · have hkn : k = n := by omega
      have hrow := hown.row (xs := powL a n) (powL_len a n) (powL_fits a n) (fun i hi => by rw [show nth (powL a n) i = pw a i from nth_ofFn _ _ _ hi, if_pos (by omega)]) hn
      have hb := hown.below
      have HR := Lib.hid hrow
      have HL := Lib.hid (powL_len a n)
      clear hown hrow
      go_wp2_with fail
      go_ret2
      exact ⟨some ⟨w.heap.size, 0, none⟩, n, by simp [HL.out], HR.out, by rw [HL.out]; exact ⟨Nat.le_refl _, fun h => by cases h⟩, hb⟩
end Go.Proofs.YtcckfeikaolfgaaGreat

namespace Go.Proofs.YtcckfeikaolfgaaGreat
open Go.RowKit
set_option linter.unusedVariables false
set_option linter.unusedSimpArgs false
set_option maxRecDepth 100000
@[irreducible] def pmo (a n q : Nat) : Nat := a ^ n % q
theorem pmo_step1 {p a n q V : Nat} (h1 : n % 2 = 1) (H : p * a ^ n % q = V) : (p * a % q) * (a * a % q) ^ (n / 2) % q = V := by
  rw [Nat.mod_mul_mod, Nat.mul_mod, ← Nat.pow_mod, ← Nat.mul_mod, ← Nat.pow_two, ← Nat.pow_mul, Nat.mul_assoc, ← Nat.pow_succ', Nat.succ_eq_add_one, show 2 * (n / 2) + 1 = n by omega]
  exact H
theorem pmo_step0 {p a n q V : Nat} (h1 : n % 2 = 0) (H : p * a ^ n % q = V) : p * (a * a % q) ^ (n / 2) % q = V := by
  rw [Nat.mul_mod, ← Nat.pow_mod, ← Nat.mul_mod, ← Nat.pow_two, ← Nat.pow_mul, show 2 * (n / 2) = n by omega]
  exact H
theorem mulN (a b s : Nat) (h : a * b = s) : (a : Int) * (b : Int) = (s : Int) := by rw [← h]; simp
theorem modN (s q r : Nat) (h : s % q = r) : (s : Int).tmod (q : Int) = (r : Int) ∧ (s : Int) % (q : Int) = (r : Int) := by
  subst h
  exact ⟨by rw [Int.tmod_eq_emod_of_nonneg (by omega), Int.natCast_emod], by rw [← Int.natCast_emod]⟩
theorem divN (s q r : Nat) (h : s / q = r) : (s : Int).tdiv (q : Int) = (r : Int) ∧ (s : Int) / (q : Int) = (r : Int) := by
  subst h
  exact ⟨by rw [Int.tdiv_eq_ediv_of_nonneg (by omega), Int.natCast_ediv], by rw [← Int.natCast_ediv]⟩
theorem prod_bd {a b q : Nat} (ha : a < q) (hb : b < q) (hq : q ≤ 131072) : a * b ≤ 131072 * 131072 := Nat.mul_le_mul (by omega) (by omega)
set_option maxHeartbeats 1000000 in
theorem gen_power (a n q : Nat) (w : World) (hq1 : 2 ≤ q) (hq2 : q ≤ 131072) (ha : a < q) (hn : n ≤ 131072) :
    Calls Tryz.prog 96 #[.int .i64 a, .int .i64 n, .int .i64 q] w fun e w' => e = .returned (.int .i64 (pmo a n q : Nat)) ∧ w = w' := by
  obtain ⟨V, hV⟩ : ∃ V, a ^ n % q = V := ⟨_, rfl⟩
  have HV : Hid (1 * a ^ n % q = V) := by unfold Hid; rw [Nat.one_mul]; exact hV
  have HP : Hid (pmo a n q = V) := by unfold Hid pmo; exact hV
  have z1 : ((q : Int) == 0) = false := bno (by omega)
  have z2 : ¬ (q : Int) = 0 := by omega
  have o1 := (modN 1 q 1 (Nat.mod_eq_of_lt (by omega))).1
  have o2 := (modN 1 q 1 (Nat.mod_eq_of_lt (by omega))).2
  clear hV
  simp only [Int.natCast_one] at o1 o2
  go_enter Tryz.func96, Tryz.ntmps96
  go_wp2_with fail
  go_loop [0, 1, 7] (fun x y z => ∃ b m p : Nat, x = .int .i64 b ∧ y = .int .i64 m ∧ z = .int .i64 p ∧ b < q ∧ m ≤ 131072 ∧ p < q ∧ Hid (p * b ^ m % q = V)) (fun x y z => (intOf y).toNat)
  case atStart => exact ⟨a, n, 1, rfl, rfl, rfl, ha, hn, by omega, HV.out⟩
  case round =>
    obtain ⟨b, m, p, rfl, rfl, rfl, hb, hm, hp, H⟩ := hrel
    by_cases h0 : m = 0
    · subst h0
      go_wp2_with fail
      go_ret
      refine ⟨ret_int ?_, rfl⟩
      have h := H.out
      rw [Nat.pow_zero, Nat.mul_one, Nat.mod_eq_of_lt hp] at h
      rw [HP.out, h]
    · have hpos : (0 : Int) < (m : Int) := by omega
      obtain ⟨k, hk⟩ : ∃ k, m / 2 = k := ⟨_, rfl⟩
      have d1 : (m : Int).tdiv 2 = (k : Int) := (divN m 2 k hk).1
      have d2 : (m : Int) / 2 = (k : Int) := (divN m 2 k hk).2
      obtain ⟨s, hs⟩ : ∃ s, b * b = s := ⟨_, rfl⟩
      have hs1 := prod_bd hb hb hq2
      rw [hs] at hs1
      have m1 := mulN b b s hs
      obtain ⟨r, hr⟩ : ∃ r, s % q = r := ⟨_, rfl⟩
      have r1 := (modN s q r hr).1
      have r2 := (modN s q r hr).2
      have hrq : r < q := by rw [← hr]; exact Nat.mod_lt _ (by omega)
      have hkm : k < m := by omega
      by_cases h1 : m % 2 = 1
      · have e1 : (m : Int).tmod 2 = 1 := (modN m 2 1 h1).1
        have e2 : (m : Int) % 2 = 1 := (modN m 2 1 h1).2
        obtain ⟨t, ht⟩ : ∃ t, p * b = t := ⟨_, rfl⟩
        have ht1 := prod_bd hp hb hq2
        rw [ht] at ht1
        have n1 := mulN p b t ht
        obtain ⟨u, hu⟩ : ∃ u, t % q = u := ⟨_, rfl⟩
        have u1 := (modN t q u hu).1
        have u2 := (modN t q u hu).2
        have huq : u < q := by rw [← hu]; exact Nat.mod_lt _ (by omega)
        have H2 : Hid (u * r ^ k % q = V) := by
          unfold Hid; rw [← hu, ← hr, ← ht, ← hs, ← hk]; exact pmo_step1 h1 H.out
        clear hk hs hr ht hu h1
        go_wp2_with fail
        go_round
        case rel => exact ⟨r, k, u, rfl, rfl, rfl, hrq, by omega, huq, H2.out⟩
        case measure => simp [intOf]; omega
      · have h10 : m % 2 = 0 := by omega
        have e1 : (m : Int).tmod 2 = 0 := (modN m 2 0 h10).1
        have e2 : (m : Int) % 2 = 0 := (modN m 2 0 h10).2
        have H2 : Hid (p * r ^ k % q = V) := by
          unfold Hid; rw [← hr, ← hs, ← hk]; exact pmo_step0 h10 H.out
        clear hk hs hr h1 h10
        go_wp2_with fail
        go_round
        case rel => exact ⟨r, k, p, rfl, rfl, rfl, hrq, by omega, hp, H2.out⟩
        case measure => simp [intOf]; omega
theorem fac_fq {q : Nat} (h : IsFq q) : ∃ m, facL (q - 1) = [(2, m)] := by
  rcases h with h | h | h | h | h <;> subst h
  · exact ⟨1, by decide +kernel⟩
  · exact ⟨2, by decide +kernel⟩
  · exact ⟨4, by decide +kernel⟩
  · exact ⟨8, by decide +kernel⟩
  · exact ⟨16, by decide +kernel⟩
theorem gen_less {q : Nat} (h : IsFq q) (i : Nat) (h1 : 1 ≤ i) (h2 : i < gq q) : pmo i ((q - 1) / 2) q = 1 := by
  unfold pmo
  rw [← Fld.pm_eq q 17 i ((q - 1) / 2) (by have := fq_bd h; omega)]
  have hb := gq_bd h
  have hi : i = 1 ∨ i = 2 := by omega
  rcases h with h | h | h | h | h <;> subst h <;> rcases hi with hi | hi <;> subst hi <;> revert h2 <;> decide +kernel
theorem gen_at {q : Nat} (h : IsFq q) : pmo (gq q) ((q - 1) / 2) q ≠ 1 := by
  have := gp_half h
  unfold gp at this
  unfold pmo; exact this
theorem gen_there {q : Nat} (w : World) (h : IsFq q) :
    Calls Tryz.prog 95 #[.int .i64 q] w fun e w' => e = .returned (.bool true) ∧ Below w.heap.size w w' := by
  have hb := fq_bd h
  have C1 : Hid (∀ W, Calls Tryz.prog 43 #[.int .i64 q] W fun e w' => e = .returned (.bool true) ∧ Below W.heap.size W w') := fun W => by
    have := fact_Prime (q : Int) W (by omega)
    rw [pr_of_fq h] at this; exact this
  clear h
  go_enter Tryz.func95, Tryz.ntmps95
  go_wp2_with fail
  refine (C1.out _).mono ?_; rintro e w1 ⟨rfl, hb1⟩
  go_wp2_with fail
  go_ret
  exact ⟨rfl, hb1⟩
set_option maxHeartbeats 2000000 in
theorem gen_Gen {q : Nat} (w : World) (h : IsFq q) :
    Calls Tryz.prog 74 #[.int .i64 q] w fun e w' => e = .returned (.tuple #[.int .i64 (gq q : Nat), .int .i64 0]) ∧ Below w.heap.size w w' := by
  have hb := fq_bd h
  have hg := gq_bd h
  obtain ⟨fm, hfm⟩ := fac_fq h
  have C0 : Hid (∀ W, Calls Tryz.prog 95 #[.int .i64 q] W fun e w' => e = .returned (.bool true) ∧ Below W.heap.size W w') := fun W => gen_there W h
  obtain ⟨q1, hq1⟩ : ∃ q1, q - 1 = q1 := ⟨_, rfl⟩
  have hqi : (q : Int) - 1 = (q1 : Int) := by omega
  have C1 : Hid (∀ W, Calls Tryz.prog 66 #[.int .i64 q1] W (GivesP [(2, fm)] W)) := fun W => by
    have := fact_Factors (q - 1) W (by omega) (by omega)
    rw [hfm, hq1] at this; exact this
  obtain ⟨hf, hhf⟩ : ∃ hf, q1 / 2 = hf := ⟨_, rfl⟩
  have v1 : (q1 : Int).tdiv 2 = (hf : Int) := (divN q1 2 hf hhf).1
  have v2 : (q1 : Int) / 2 = (hf : Int) := (divN q1 2 hf hhf).2
  have HL : Hid (∀ i, 1 ≤ i → i < gq q → pmo i hf q = 1) := fun i h1 h2 => by have := gen_less h i h1 h2; rw [hq1, hhf] at this; exact this
  have HA : Hid (pmo (gq q) hf q ≠ 1) := by have := gen_at h; rw [hq1, hhf] at this; exact this
  obtain ⟨G, hG⟩ : ∃ G, gq q = G := ⟨_, rfl⟩
  rw [hG] at HL HA hg ⊢
  have hf2 : hf ≤ 131072 := by omega
  have hq3 : G < q := by omega
  clear h hfm hhf hG
  go_enter Tryz.func74, Tryz.ntmps74
  go_wp2_with fail
  go_step3
  go_wp2_with fail
  refine (C0.out _).mono ?_; rintro e w1 ⟨rfl, hb1⟩
  go_wp2_with fail
  refine (C1.out _).mono ?_; rintro e w2 ⟨v, rfl, hown, hb2⟩
  obtain ⟨a, cap, rfl, hcap, hgs⟩ := own_slice2 hown
  obtain ⟨g, rfl⟩ := hgs (by simp)
  have c0 : w2.cell? ⟨g, 0, none⟩ = some (.int .i64 2) := hown.cellAt 0 (by simp)
  have c1 : w2.cell? ⟨g, 1, none⟩ = some (.int .i64 fm) := hown.cellAt 1 (by simp)
  have hgl : g < w2.heap.size := World.block_lt_of_cell? _ _ c0
  have K0 := Lib.hid c0
  have K1 := Lib.hid c1
  have hbl := chain hb1 hb2
  have HBL := Lib.hid hbl
  simp only [List.length_singleton]
  clear hown hcap hgs c0 c1 hb1 hb2 hbl
  go_wp2_with fail
  go_step3
  go_wp2_with fail
  go_loopw [6] (fun x wr => ∃ j : Nat, j < G ∧ x = .int .i64 j ∧ Below w2.heap.size w2 wr) (fun x _ => G - (intOf x).toNat)
  case atStart => exact ⟨0, by omega, rfl, Below.refl _ _⟩
  case round =>
    obtain ⟨j, hj, rfl, hbel⟩ := hrel
    have hlt : (j : Int) < (q1 : Int) := by omega
    obtain ⟨wo, rfl⟩ : ∃ wo : World, wo = wr := ⟨_, rfl⟩
    go_wp2_with fail
    go_loopw [26] (fun x wi => (x = .int .i64 0 ∧ Below wo.heap.size wo wi) ∨ (x = .int .i64 1 ∧ j + 1 = G ∧ Below wo.heap.size wo wi)) (fun x _ => 1 - (intOf x).toNat)
    case atStart => exact Or.inl ⟨rfl, Below.refl _ _⟩
    case round =>
      rcases hrel with ⟨rfl, hbi⟩ | ⟨rfl, hjG, hbi⟩
      · have hb3 := chain hbel hbi
        have c0 := (hb3.cell (p := ⟨g, 0, none⟩) hgl).trans K0.out
        have c1 := (hb3.cell (p := ⟨g, 1, none⟩) hgl).trans K1.out
        obtain ⟨V, hV⟩ : ∃ V, pmo (j + 1) hf q = V := ⟨_, rfl⟩
        have C2 : Hid (∀ W, Calls Tryz.prog 96 #[.int .i64 ((j : Int) + 1), .int .i64 hf, .int .i64 q] W fun e w' => e = .returned (.int .i64 (V : Nat)) ∧ W = w') := fun W => by
          have := gen_power (j + 1) hf q W (by omega) (by omega) (by omega) hf2
          rw [hV] at this; simpa using this
        have HBI : Hid (Below wo.heap.size wo (wr.alloc (.cells #[.int .i64 2, .int .i64 fm] 84))) := hbi.alloc hbi.size _
        by_cases hlast : j + 1 = G
        · have hV1 : V ≠ 1 := by rw [← hV, hlast]; exact HA.out
          have t1 : ((V : Int) == 1) = false := bno (by omega)
          clear hV
          go_wp2_with fail
          refine (C2.out _).mono ?_; rintro e w' ⟨rfl, rfl⟩
          go_wp2_with fail
          go_roundw
          case rel => exact Or.inr ⟨rfl, hlast, HBI.out⟩
          case measure => simp [intOf]
        · have hV1 : V = 1 := by rw [← hV]; exact HL.out _ (by omega) (by omega)
          subst hV1
          clear hV
          have HB4 := Lib.hid (chain hbel HBI.out)
          have h9 : j + 1 < G := by omega
          go_wp2_with fail
          refine (C2.out _).mono ?_; rintro e w' ⟨rfl, rfl⟩
          go_wp2_with fail
          go_roundw
          case rel => exact ⟨j + 1, h9, by go_num, HB4.out⟩
          case measure => simp [intOf]; omega
      · have hb3 := Lib.hid (chain HBL.out (chain hbel hbi))
        have HR : Hid ((j : Int) + 1 = (G : Int)) := by unfold Hid; omega
        clear hbi hbel
        go_wp2_with fail
        rw [Exit.noGoto_ret]
        go_ret2
        exact ⟨by simp [HR.out], hb3.out⟩
theorem genL_fits {q : Nat} (h : IsFq q) : ∀ x ∈ genL q, fits .i64 x := by
  intro x hx; obtain ⟨i, _, rfl⟩ := List.mem_map.1 hx
  have hb := fq_bd h
  have := gp_lt q i (by omega)
  exact fits_i64.2 (by omega)
set_option maxHeartbeats 1000000 in
theorem gen_Powers {q : Nat} (w : World) (h : IsFq q) :
    Calls Tryz.prog 48 #[.int .i64 q] w (GivesRowE .i64 (genL q) 0 w) := by
  have hb := fq_bd h
  have hg := gq_bd h
  have C0 : Hid (∀ W, Calls Tryz.prog 74 #[.int .i64 q] W fun e w' => e = .returned (.tuple #[.int .i64 (gq q : Nat), .int .i64 0]) ∧ Below W.heap.size W w') := fun W => gen_Gen W h
  have H0 : Hid (gp q 0 = 1) := gp_zero h
  have HS : Hid (∀ i, gp q i * gq q % q = gp q (i + 1)) := fun i => (gp_succ q i).symm
  have HLT : Hid (∀ i, gp q i < q) := fun i => gp_lt q i (by omega)
  have HF := Lib.hid (genL_fits h)
  obtain ⟨G, hG⟩ : ∃ G, gq q = G := ⟨_, rfl⟩
  rw [hG] at C0 HS hg
  obtain ⟨n, hn⟩ : ∃ n, q - 1 = n := ⟨_, rfl⟩
  have hqi : (q : Int) - 1 = (n : Int) := by omega
  have HN := Lib.hid hn
  have z1 : ((q : Int) == 0) = false := bno (by omega)
  have z2 : ¬ (q : Int) = 0 := by omega
  obtain ⟨i0, hi, hz0, hz1, hz2⟩ := info_parts info_int
  clear hG h
  go_enter Tryz.func48, Tryz.ntmps48
  go_wp2_with fail
  refine (C0.out _).mono ?_; rintro e w1 ⟨rfl, hb1⟩
  go_wp2_with (at_make; refine wpList_make_full _ rfl _ _ 71 rfl w1.heap.size 3 i0 (.int .i64 0) 1 Tryz.underlying71 hi hz0 hz1 .i64 .i64 n n n rfl rfl rfl rfl (by rw [hz2]; omega) (by unfold maxLen; omega) (Nat.le_refl _) ?_)
  intro w2 hown0 hgrow0
  have hown := Own.made hown0 hgrow0
  clear hown0 hgrow0
  go_wp2_with fail
  go_loopw [7, 22] (fun p i wr => ∃ (k v : Nat), k ≤ n ∧ i = .int .i64 k ∧ p = .int .i64 v ∧ Hid (v = gp q k) ∧ v < q ∧ OwnAt .i64 3 w1 wr w1.heap.size n (fun j => if j < k then (gp q j : Nat) else 0)) (fun _ i _ => n - (intOf i).toNat)
  case atStart => exact ⟨0, 1, Nat.zero_le _, rfl, rfl, H0.out.symm, by omega, own_eqz hown (fun j => if_neg (by omega))⟩
  case round =>
    obtain ⟨k, v, hk, rfl, rfl, HV, hv, hown⟩ := hrel
    by_cases hlt : k < n
    · have hcell := hown.cell k hlt
      rw [if_neg (Nat.lt_irrefl k)] at hcell
      have hfz := hown.free k
      have hnext := hown.store k hlt v (f' := fun j => if j < k + 1 then (gp q j : Nat) else 0) (by rw [if_pos (by omega), HV.out]) (fun j _ hj => by
        by_cases h : j < k
        · rw [if_pos h, if_pos (by omega)]
        · rw [if_neg h, if_neg (by omega)])
      have HNX := Lib.hid hnext
      obtain ⟨s, hs⟩ : ∃ s, v * G = s := ⟨_, rfl⟩
      have hs1 : s ≤ 131072 * 131072 := by rw [← hs]; exact Nat.mul_le_mul (by omega) (by omega)
      have m1 := mulN v G s hs
      obtain ⟨r, hr⟩ : ∃ r, s % q = r := ⟨_, rfl⟩
      have r1 := (modN s q r hr).1
      have r2 := (modN s q r hr).2
      have HM : Hid (r = gp q (k + 1)) := by unfold Hid; rw [← hr, ← hs, HV.out]; exact HS.out k
      have hrq : r < q := by rw [HM.out]; exact HLT.out _
      clear hown hnext hr hs
      go_wp2_with fail
      go_roundw
      case rel => exact ⟨k + 1, r, by omega, by go_num, rfl, HM.out, hrq, HNX.out⟩
      case measure => simp [intOf]; omega
    · have hkn : k = n := by omega
      have hrow := hown.row (xs := genL q) (by rw [genL_len]; exact HN.out) HF.out (fun i hi => by rw [nth_genL q i (by rw [HN.out]; exact hi), if_pos (by omega)]) (by omega)
      have hb2 := Lib.hid (chain hb1 hown.below)
      have HR := Lib.hid hrow
      have HL : Hid ((genL q).length = n) := (genL_len q).trans HN.out
      clear hown hrow hb1
      go_wp2_with fail
      go_ret2
      exact ⟨some ⟨w1.heap.size, 0, none⟩, n, by simp [HL.out], HR.out, by rw [HL.out]; exact ⟨Nat.le_refl _, fun h => by cases h⟩, hb2.out⟩
end Go.Proofs.YtcckfeikaolfgaaGreat

namespace Go.Proofs.YtcckfeikaolfgaaGreat
open Go.RowKit
set_option linter.unusedVariables false
set_option linter.unusedSimpArgs false
set_option maxRecDepth 100000
theorem flipW {P : Program} {f : FuncId} {args : Array Value} {w : World} {x : Ending} (h : Calls P f args w fun e w' => e = x ∧ w = w') : Calls P f args w fun e w' => e = x ∧ w' = w := h.mono fun _ _ ⟨h1, h2⟩ => ⟨h1, h2.symm⟩
end Go.Proofs.YtcckfeikaolfgaaGreat

namespace Go.Proofs.YtcckfeikaolfgaaGreat
open Go.RowKit Sm
set_option linter.unusedVariables false
set_option linter.unusedSimpArgs false
set_option maxRecDepth 100000
theorem cellFar (W : World) (g r b i : Nat) (v : Value) (h : g ≠ b) : ((W.setCell ⟨g, r, none⟩ v).drew).cell? ⟨b, i, none⟩ = W.cell? ⟨b, i, none⟩ :=
  World.cell?_setCell_other W ⟨g, r, none⟩ ⟨b, i, none⟩ v (fun e => h (by cases e; rfl))
/-- What a call leaves that writes block g alone. -/
def Kept (g : Nat) (W W' : World) : Prop := W.heap.size ≤ W'.heap.size ∧ ∀ b i, b ≠ g → b < W.heap.size → W'.cell? ⟨b, i, none⟩ = W.cell? ⟨b, i, none⟩
theorem Kept.trans {g : Nat} {A B C : World} (h : Kept g A B) (k : Kept g B C) : Kept g A C := ⟨Nat.le_trans h.1 k.1, fun b i hb hl => (k.2 b i hb (Nat.lt_of_lt_of_le hl h.1)).trans (h.2 b i hb hl)⟩
set_option maxHeartbeats 1000000 in
theorem stock_one1 (a b s d t n g px py pw : Nat) (ax aw : Option Addr) (cx cw : Nat) (xs ws : List Int) (f : Nat → Int) (w W : World)
    (hx : Row .u64 w ax xs) (hw : Row .u64 w aw ws) (hxl : xs.length = n) (hwl : ws.length = n) (hn : n ≤ 16777216)
    (hpx : W.cell? ⟨px, 0, none⟩ = some (.slice ax n cx)) (hpy : W.cell? ⟨py, 0, none⟩ = some (.slice (some ⟨g, 0, none⟩) n n)) (hpw : W.cell? ⟨pw, 0, none⟩ = some (.slice aw n cw))
    (n1 : g ≠ px) (n2 : g ≠ py) (n3 : g ≠ pw) (hown : OwnAt .u64 38 w W g n f) (ha : a < n) (hb : b < n) (hs : s < n) (hd : d < n) (ht : t < n) :
    Calls Tryz.prog 112 #[.int .i64 a, .int .i64 b, .int .i64 s, .int .i64 d, .int .i64 t, .pointer (some ⟨px, 0, none⟩), .pointer (some ⟨py, 0, none⟩), .pointer (some ⟨pw, 0, none⟩)] W
      fun e W' => (∃ v, e = .returned v) ∧ Kept g W W' ∧ OwnAt .u64 38 w W' g n (fun j => if j = d then (nth xs a - nth xs b) * nth ws t % 18446744069414584321 else if j = s then (nth xs a + nth xs b) % 18446744069414584321 else f j) := by
  have bx := World.block_lt_of_cell? W _ hpx
  have by' := World.block_lt_of_cell? W _ hpy
  have bw := World.block_lt_of_cell? W _ hpw
  obtain ⟨xb, xo, rfl, hcx⟩ := (hx.below hown.below).at (by omega)
  obtain ⟨wb, wo, rfl, hcw⟩ := (hw.below hown.below).at (by omega)
  have hxa := hcx a (by omega)
  have hxb := hcx b (by omega)
  have hwt := hcw t (by omega)
  have fa := fits_u64.1 (hx.wf _ (nth_mem (show a < xs.length by omega)))
  have fb := fits_u64.1 (hx.wf _ (nth_mem (show b < xs.length by omega)))
  have ft := fits_u64.1 (hw.wf _ (nth_mem (show t < ws.length by omega)))
  -- the rows lie ahead of the call's own block
  have hxg : xb < w.heap.size := by
    rcases hx.lies with h1 | ⟨b', o', h1, h2⟩
    · subst h1; simp at hxl; omega
    · cases h1; exact World.block_lt_of_cell? w _ (h2 0 (by omega))
  have hwg : wb < w.heap.size := by
    rcases hw.lies with h1 | ⟨b', o', h1, h2⟩
    · subst h1; simp at hwl; omega
    · cases h1; exact World.block_lt_of_cell? w _ (h2 0 (by omega))
  have hbase := hown.base
  have hst1 := (hown.store s hs ((nth xs a + nth xs b) % 18446744069414584321) (f' := fun j => if j = s then (nth xs a + nth xs b) % 18446744069414584321 else f j) (if_pos rfl) (fun j _ hj => if_neg hj)).later (Below.refl _ _).drew
  have hst2 := (hst1.store d hd ((nth xs a - nth xs b) * nth ws t % 18446744069414584321) (f' := fun j => if j = d then (nth xs a - nth xs b) * nth ws t % 18446744069414584321 else if j = s then (nth xs a + nth xs b) % 18446744069414584321 else f j) (if_pos rfl) (fun j _ hj => if_neg hj)).later (Below.refl _ _).drew
  obtain ⟨x, hxx⟩ : ∃ x, nth xs a = x := ⟨_, rfl⟩
  obtain ⟨y, hyy⟩ : ∃ y, nth xs b = y := ⟨_, rfl⟩
  obtain ⟨z, hzz⟩ : ∃ z, nth ws t = z := ⟨_, rfl⟩
  rw [hxx, hyy, hzz] at hst2
  rw [hxx, hyy] at hst1
  rw [hxx] at hxa fa
  rw [hyy] at hxb fb
  rw [hzz] at hwt ft
  rw [hxx, hyy, hzz]
  have hc1 := hown.cell s hs
  have hf1 := hown.free s
  have hc2 := hst1.cell d hd
  have hf2 := hst1.free d
  obtain ⟨v1, hv1⟩ : ∃ v1, f s = v1 := ⟨_, rfl⟩
  rw [hv1] at hc1
  obtain ⟨v2, hv2⟩ : ∃ v2, (if d = s then (x + y) % 18446744069414584321 else f d) = v2 := ⟨_, rfl⟩
  rw [hv2] at hc2
  have hsub : 0 ≤ (x - y) % 18446744069414584321 ∧ (x - y) % 18446744069414584321 < 18446744069414584321 := by omega
  have hmul : (x - y) % 18446744069414584321 * z % 18446744069414584321 = (x - y) * z % 18446744069414584321 := modmul_l _ _ _
  have HM := Lib.hid hmul
  have hkeep : Kept g W (((((W.setCell ⟨g, s, none⟩ (.int .u64 ((x + y) % 18446744069414584321))).drew).setCell ⟨g, d, none⟩ (.int .u64 ((x - y) * z % 18446744069414584321))).drew)) := ⟨by simp, fun b' i hb' _ => by
    rw [cellFar _ _ _ _ _ _ (Ne.symm hb'), cellFar _ _ _ _ _ _ (Ne.symm hb')]⟩
  have HK := Lib.hid hkeep
  have HST := Lib.hid hst2
  have m1 : ∀ i : Nat, ((W.setCell ⟨g, s, none⟩ (.int .u64 ((x + y) % 18446744069414584321))).drew).cell? ⟨px, 0, none⟩ = some (.slice (some ⟨xb, xo, none⟩) n cx) := fun i => (cellFar _ _ _ _ _ _ n1).trans hpx
  have q1 := m1 0
  have q2 := (cellFar W g s py 0 (.int .u64 ((x + y) % 18446744069414584321)) n2).trans hpy
  have q3 := (cellFar W g s pw 0 (.int .u64 ((x + y) % 18446744069414584321)) n3).trans hpw
  have q4 := (cellFar W g s xb (xo + a) (.int .u64 ((x + y) % 18446744069414584321)) (by omega)).trans hxa
  have q5 := (cellFar W g s xb (xo + b) (.int .u64 ((x + y) % 18446744069414584321)) (by omega)).trans hxb
  have q6 := (cellFar W g s wb (wo + t) (.int .u64 ((x + y) % 18446744069414584321)) (by omega)).trans hwt
  have hlt1 : W.heap.size ≤ ((W.setCell ⟨g, s, none⟩ (.int .u64 ((x + y) % 18446744069414584321))).drew).heap.size := by simp
  obtain ⟨W1, hW1⟩ : ∃ W1, (W.setCell ⟨g, s, none⟩ (.int .u64 ((x + y) % 18446744069414584321))).drew = W1 := ⟨_, rfl⟩
  rw [hW1] at q1 q2 q3 q4 q5 q6 hc2 hf2 HK HST
  have HW1 := Lib.hid hW1
  have g1 : (0 : Int) ≤ (a : Int) := by omega
  have g2 : (a : Int) < (n : Int) := by omega
  have g3 : (0 : Int) ≤ (b : Int) := by omega
  have g4 : (b : Int) < (n : Int) := by omega
  have g5 : (0 : Int) ≤ (s : Int) := by omega
  have g6 : (s : Int) < (n : Int) := by omega
  have g7 : (0 : Int) ≤ (d : Int) := by omega
  have g8 : (d : Int) < (n : Int) := by omega
  have g9 : (0 : Int) ≤ (t : Int) := by omega
  have g10 : (t : Int) < (n : Int) := by omega
  clear hx hw hxl hwl hcx hcw hst1 hst2 hxx hyy hzz hv1 hv2 hmul hkeep m1 hown hW1 hlt1
  go_enter Tryz.func112, Tryz.ntmps112
  go_wp2_with fail
  refine wp_region_still_tail 11 (by kernel_rfl) (by kernel_rfl) ?_; simp only [List.take_succ_cons, List.take_zero, List.drop_succ_cons, List.drop_zero]
  repeat still_step
  still_call (flipW (gold_Add x y _ (by omega) (by omega) (by omega) (by omega)))
  try refine wpStill_nil ?_
  go_wp2_with fail
  rw [HW1.out]
  refine wp_region_still_tail 16 (by kernel_rfl) (by kernel_rfl) ?_; simp only [List.take_succ_cons, List.take_zero, List.drop_succ_cons, List.drop_zero]
  repeat still_step
  still_call (flipW (gold_Sub x y _ (by omega) (by omega) (by omega) (by omega)))
  repeat still_step
  still_call (flipW (gold_Mul ((x - y) % 18446744069414584321) z _ (by omega) (by omega) (by omega) (by omega)))
  try refine wpStill_nil ?_
  rw [HM.out]
  go_wp2_with fail
  refine bodyPost_end (results_none rfl _ _ _) rfl ?_
  exact ⟨⟨_, rfl⟩, HK.out, HST.out⟩
end Go.Proofs.YtcckfeikaolfgaaGreat

