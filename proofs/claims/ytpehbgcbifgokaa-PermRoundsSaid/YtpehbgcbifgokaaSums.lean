/- Plain laws: sums modulo P; roots of unity; transforms there and back. No program in sight. -/
import Derived.PlainAid
import Derived.Test.YtpehbgcbifgokaaField
namespace Go.Proofs.Ytpehbgcbifgokaa.Sm

/-- The same modulo P. -/
def Eqm (a b : Int) : Prop := a % 18446744069414584321 = b % 18446744069414584321

theorem rfl' (a : Int) : Eqm a a := rfl
theorem Eqm.symm {a b : Int} (h : Eqm a b) : Eqm b a := by unfold Eqm at *; exact h.symm
theorem Eqm.trans {a b c : Int} (h : Eqm a b) (k : Eqm b c) : Eqm a c := by unfold Eqm at *; exact h.trans k
theorem Eqm.mod (a : Int) : Eqm (a % 18446744069414584321) a := by unfold Eqm; exact Int.emod_emod _ _
theorem Eqm.add {a b c d : Int} (h : Eqm a b) (k : Eqm c d) : Eqm (a + c) (b + d) := by
  unfold Eqm at *; omega
theorem Eqm.sub {a b c d : Int} (h : Eqm a b) (k : Eqm c d) : Eqm (a - c) (b - d) := by
  unfold Eqm at *; omega
theorem Eqm.mul {a b c d : Int} (h : Eqm a b) (k : Eqm c d) : Eqm (a * c) (b * d) := by
  unfold Eqm at *
  rw [Int.mul_emod, h, k, ← Int.mul_emod]
theorem Eqm.pow {a b : Int} (h : Eqm a b) (n : Nat) : Eqm (a ^ n) (b ^ n) := by
  induction n with
  | zero => rw [Int.pow_zero, Int.pow_zero]; exact rfl' _
  | succ n ih => rw [Int.pow_succ, Int.pow_succ]; exact ih.mul h

/-- The sum of the first n. -/
def S : Nat → (Nat → Int) → Int
  | 0, _ => 0
  | n + 1, f => S n f + f n

theorem S_congr {n : Nat} {f g : Nat → Int} (h : ∀ i, i < n → f i = g i) : S n f = S n g := by
  induction n with
  | zero => rfl
  | succ n ih => simp only [S]; rw [ih (fun i hi => h i (by omega)), h n (by omega)]
theorem S_eqm {n : Nat} {f g : Nat → Int} (h : ∀ i, i < n → Eqm (f i) (g i)) : Eqm (S n f) (S n g) := by
  induction n with
  | zero => exact rfl' _
  | succ n ih => exact (ih (fun i hi => h i (by omega))).add (h n (by omega))
theorem S_add (n : Nat) (f g : Nat → Int) : S n (fun i => f i + g i) = S n f + S n g := by
  induction n with
  | zero => rfl
  | succ n ih => simp only [S, ih]; omega
theorem S_mul (n : Nat) (c : Int) (f : Nat → Int) : S n (fun i => c * f i) = c * S n f := by
  induction n with
  | zero => simp [S]
  | succ n ih => simp only [S, ih, Int.mul_add]
theorem S_mul_r (n : Nat) (c : Int) (f : Nat → Int) : S n (fun i => f i * c) = S n f * c := by
  induction n with
  | zero => simp [S]
  | succ n ih => simp only [S, ih, Int.add_mul]
theorem S_zero (n : Nat) : S n (fun _ => 0) = 0 := by
  induction n with
  | zero => rfl
  | succ n ih => simp only [S, ih]; rfl
theorem S_const (n : Nat) (c : Int) : S n (fun _ => c) = n * c := by
  induction n with
  | zero => simp [S]
  | succ n ih => simp only [S, ih]; rw [Int.natCast_succ, Int.add_mul, Int.one_mul]
theorem S_swap (n m : Nat) (f : Nat → Nat → Int) : S n (fun i => S m (fun j => f i j)) = S m (fun j => S n (fun i => f i j)) := by
  induction n with
  | zero => simp only [S]; rw [S_zero]
  | succ n ih => simp only [S, ih]; rw [← S_add]
/-- A sum with one place that counts. -/
theorem S_one (n k : Nat) (f : Nat → Int) (hk : k < n) (h : ∀ i, i < n → i ≠ k → Eqm (f i) 0) : Eqm (S n f) (f k) := by
  induction n with
  | zero => omega
  | succ n ih =>
    simp only [S]
    by_cases hkn : k = n
    · subst hkn
      have : Eqm (S k f) (S k (fun _ => 0)) := S_eqm (fun i hi => h i (by omega) (by omega))
      rw [S_zero] at this
      have := this.add (rfl' (f k))
      rwa [Int.zero_add] at this
    · have := (ih (by omega) (fun i hi hik => h i (by omega) hik)).add (h n (by omega) (fun e => hkn e.symm))
      rwa [Int.add_zero] at this
/-- The first one apart. -/
theorem S_head (n : Nat) (f : Nat → Int) : S (n + 1) f = f 0 + S n (fun i => f (i + 1)) := by
  induction n with
  | zero => simp [S]
  | succ n ih => rw [S, ih]; simp only [S]; omega

theorem pow_mul' (a b : Int) (n : Nat) : (a * b) ^ n = a ^ n * b ^ n := by
  induction n with
  | zero => simp
  | succ n ih => rw [Int.pow_succ, Int.pow_succ, Int.pow_succ, ih]; simp only [Int.mul_assoc, Int.mul_comm, Int.mul_left_comm]

theorem geo (z : Int) (n : Nat) : (z - 1) * S n (fun i => z ^ i) = z ^ n - 1 := by
  induction n with
  | zero => simp [S]
  | succ n ih => simp only [S, Int.mul_add, ih]; rw [Int.pow_succ, Int.sub_mul, Int.one_mul, Int.mul_comm]; omega

/-- A number that P does not divide can be struck. -/
theorem strike (a b : Int) (h0 : 0 ≤ a) (ha : ¬ Eqm a 0) (h : Eqm (a * b) 0) : Eqm b 0 := by
  obtain ⟨n, rfl⟩ := Int.eq_ofNat_of_zero_le h0
  have h1 : n % Fld.pn ≠ 0 := by
    intro e; apply ha
    unfold Eqm; unfold Fld.pn at e; omega
  have h2 := Fld.fermat n h1
  have h3 : ((n ^ (Fld.pn - 1) % Fld.pn : Nat) : Int) = 1 := by rw [h2]; rfl
  obtain ⟨m, hm⟩ : ∃ m, Fld.pn - 1 = m + 1 := ⟨18446744069414584319, rfl⟩
  rw [hm, Int.natCast_emod, Int.natCast_pow, Int.pow_succ] at h3
  have hp : ((Fld.pn : Nat) : Int) = 18446744069414584321 := rfl
  rw [hp] at h3
  have h4 : Eqm ((n : Int) ^ m * ((n : Int) * b)) ((n : Int) ^ m * 0) := (rfl' _).mul h
  rw [← Int.mul_assoc, Int.mul_zero] at h4
  have h5 : Eqm ((n : Int) ^ m * (n : Int) * b) (1 * b) := Eqm.mul (by unfold Eqm; rw [h3]; rfl) (rfl' b)
  rw [Int.one_mul] at h5
  exact h5.symm.trans h4

theorem strike' (a b : Int) (ha : ¬ Eqm a 0) (h : Eqm (a * b) 0) : Eqm b 0 :=
  strike (a % 18446744069414584321) b (Int.emod_nonneg _ (by omega)) (fun e => ha ((Eqm.mod a).symm.trans e)) (((Eqm.mod a).mul (rfl' b)).trans h)

theorem geo_zero (z : Int) (n : Nat) (h1 : ¬ Eqm z 1) (hn : Eqm (z ^ n) 1) : Eqm (S n (fun i => z ^ i)) 0 := by
  refine strike' (z - 1) _ (fun h => h1 ?_) ?_
  · have := h.add (rfl' 1)
    rwa [Int.sub_add_cancel, Int.zero_add] at this
  · rw [geo]
    have := hn.sub (rfl' 1)
    rwa [Int.sub_self] at this

/-- w is a root of unity of order n, and u its inverse. -/
structure IsRoot (w u : Int) (n : Nat) : Prop where
  pos : 0 < n
  one : Eqm (w ^ n) 1
  least : ∀ m, 0 < m → m < n → ¬ Eqm (w ^ m) 1
  inv : Eqm (w * u) 1

theorem one_pow' (n : Nat) : (1 : Int) ^ n = 1 := Int.one_pow

theorem IsRoot.inv_pow {w u : Int} {n : Nat} (h : IsRoot w u n) (i : Nat) : Eqm (w ^ i * u ^ i) 1 := by
  rw [← pow_mul']
  have := h.inv.pow i
  rwa [Int.one_pow] at this

theorem IsRoot.oneU {w u : Int} {n : Nat} (h : IsRoot w u n) : Eqm (u ^ n) 1 := by
  have h1 := h.inv_pow n
  have h2 := h.one.mul (rfl' (u ^ n))
  rw [Int.one_mul] at h2
  exact h2.symm.trans h1

theorem IsRoot.back {w u : Int} {n : Nat} (h : IsRoot w u n) : IsRoot u w n := by
  refine ⟨h.pos, h.oneU, fun m h0 h1 e => h.least m h0 h1 ?_, by rw [Int.mul_comm]; exact h.inv⟩
  have h2 := (rfl' (w ^ m)).mul e
  rw [Int.mul_one] at h2
  exact h2.symm.trans (h.inv_pow m)

theorem IsRoot.times {w u : Int} {n : Nat} (h : IsRoot w u n) (i : Nat) : Eqm (w ^ (n * i)) 1 := by
  rw [Int.pow_mul]
  have := h.one.pow i
  rwa [Int.one_pow] at this
theorem IsRoot.pow_mod {w u : Int} {n : Nat} (h : IsRoot w u n) (i : Nat) : Eqm (w ^ (i % n)) (w ^ i) := by
  have e : i = n * (i / n) + i % n := (Nat.div_add_mod i n).symm
  have h1 : w ^ i = w ^ (n * (i / n)) * w ^ (i % n) := by rw [← Int.pow_add, ← e]
  rw [h1]
  have := (h.times (i / n)).mul (rfl' (w ^ (i % n)))
  rw [Int.one_mul] at this
  exact this.symm

theorem pow_jk (w u : Int) (j i k : Nat) : w ^ (j * i) * u ^ (j * k) = (w ^ i * u ^ k) ^ j := by
  rw [pow_mul', ← Int.pow_mul, ← Int.pow_mul, Nat.mul_comm j i, Nat.mul_comm j k]

/-- Sums of powers of a root. -/
theorem orth {w u : Int} {n : Nat} (h : IsRoot w u n) (i k : Nat) (hi : i < n) (hk : k < n) : Eqm (S n (fun j => w ^ (j * i) * u ^ (j * k))) (if i = k then n else 0) := by
  have e : S n (fun j => w ^ (j * i) * u ^ (j * k)) = S n (fun j => (w ^ i * u ^ k) ^ j) := S_congr (fun j _ => pow_jk w u j i k)
  rw [e]
  by_cases hik : i = k
  · subst hik
    rw [if_pos rfl]
    have h1 : Eqm (S n (fun j => (w ^ i * u ^ i) ^ j)) (S n (fun _ => 1)) := S_eqm (fun j _ => by
      have := (h.inv_pow i).pow j
      rwa [Int.one_pow] at this)
    rwa [S_const, Int.mul_one] at h1
  · rw [if_neg hik]
    refine geo_zero _ n ?_ ?_
    · intro hz
      by_cases hlt : k < i
      · refine h.least (i - k) (by omega) (by omega) ?_
        have e1 : w ^ i * u ^ k = w ^ (i - k) * (w ^ k * u ^ k) := by
          rw [← Int.mul_assoc, ← Int.pow_add, show i - k + k = i by omega]
        rw [e1] at hz
        have h2 := (rfl' (w ^ (i - k))).mul (h.inv_pow k)
        rw [Int.mul_one] at h2
        exact h2.symm.trans hz
      · refine h.back.least (k - i) (by omega) (by omega) ?_
        have e1 : w ^ i * u ^ k = (w ^ i * u ^ i) * u ^ (k - i) := by
          rw [Int.mul_assoc, ← Int.pow_add, show i + (k - i) = k by omega]
        rw [e1] at hz
        have h2 := (h.inv_pow i).mul (rfl' (u ^ (k - i)))
        rw [Int.one_mul] at h2
        exact h2.symm.trans hz
    · rw [pow_mul', ← Int.pow_mul, ← Int.pow_mul, Nat.mul_comm i n, Nat.mul_comm k n]
      have := (h.times i).mul (h.back.times k)
      rwa [Int.one_mul] at this

/-- The transform of X at k. -/
def T (n : Nat) (w : Int) (X : Nat → Int) (k : Nat) : Int := S n (fun i => X i * w ^ (i * k))

theorem T_eqm {n : Nat} {w w' : Int} {X Y : Nat → Int} (hw : Eqm w w') (h : ∀ i, i < n → Eqm (X i) (Y i)) (k : Nat) : Eqm (T n w X k) (T n w' Y k) :=
  S_eqm (fun i hi => (h i hi).mul (hw.pow _))

theorem T_back {w u : Int} {n : Nat} (h : IsRoot w u n) (X : Nat → Int) (k : Nat) (hk : k < n) : Eqm (T n u (T n w X) k) (n * X k) := by
  have e1 : T n u (T n w X) k = S n (fun i => X i * S n (fun j => w ^ (j * i) * u ^ (j * k))) := by
    unfold T
    have : S n (fun j => S n (fun i => X i * w ^ (i * j)) * u ^ (j * k)) = S n (fun j => S n (fun i => X i * (w ^ (j * i) * u ^ (j * k)))) := S_congr (fun j _ => by
      rw [← S_mul_r]; exact S_congr (fun i _ => by rw [Int.mul_assoc, Nat.mul_comm i j]))
    rw [this, S_swap]
    exact S_congr (fun i _ => S_mul n (X i) _)
  rw [e1]
  refine (S_one n k _ hk (fun i hi hik => ?_)).trans ?_
  · have := (rfl' (X i)).mul (orth h i k hi hk)
    rwa [if_neg hik, Int.mul_zero] at this
  · have := (rfl' (X k)).mul (orth h k k hk hk)
    rw [if_pos rfl] at this
    rw [Int.mul_comm (n : Int)]
    exact this

/-- Twice there: backwards, times the length. -/
theorem T_twice {w u : Int} {n : Nat} (h : IsRoot w u n) (X : Nat → Int) (k : Nat) (hk : k < n) : Eqm (T n w (T n w X) k) (n * X ((n - k) % n)) := by
  have h1 : Eqm (T n w (T n w X) k) (T n u (T n w X) ((n - k) % n)) := by
    refine S_eqm (fun i _ => (rfl' _).mul ?_)
    have h2 : Eqm (w ^ k) (u ^ ((n - k) % n)) := by
      refine Eqm.trans ?_ (h.back.pow_mod (n - k)).symm
      have h3 := (h.inv_pow k)
      have h4 := h3.mul (rfl' (u ^ (n - k)))
      rw [Int.mul_assoc, ← Int.pow_add, show k + (n - k) = n by omega, Int.one_mul] at h4
      have h5 := (rfl' (w ^ k)).mul h.oneU
      rw [Int.mul_one] at h5
      exact h5.symm.trans h4
    rw [Nat.mul_comm i k, Nat.mul_comm i, Int.pow_mul, Int.pow_mul]
    exact h2.pow i
  exact h1.trans (T_back h X _ (Nat.mod_lt _ h.pos))

theorem S_turn1 (n : Nat) (g : Nat → Int) : S n (fun i => g ((i + 1) % n)) = S n g := by
  cases n with
  | zero => rfl
  | succ n =>
    rw [S_head n g]
    have e : S (n + 1) (fun i => g ((i + 1) % (n + 1))) = S n (fun i => g (i + 1)) + g 0 := by
      rw [S]
      congr 1
      · exact S_congr (fun i hi => by rw [Nat.mod_eq_of_lt (by omega)])
      · rw [Nat.mod_self]
    rw [e]; omega
theorem S_turn (n m : Nat) (g : Nat → Int) : S n (fun i => g ((i + m) % n)) = S n g := by
  induction m with
  | zero => exact S_congr (fun i hi => by rw [Nat.add_zero, Nat.mod_eq_of_lt hi])
  | succ m ih =>
    rw [← ih, ← S_turn1 n (fun i => g ((i + m) % n))]
    exact S_congr (fun i hi => by
      show g _ = g _
      rw [Nat.mod_add_mod, show i + (m + 1) = i + 1 + m by omega])

/-- A turned row. -/
theorem T_turn {w u : Int} {n : Nat} (h : IsRoot w u n) (X : Nat → Int) (m k : Nat) : Eqm (T n w (fun i => X ((i + m) % n)) k) (T n w X k * u ^ (m * k)) := by
  unfold T
  rw [← S_mul_r, ← S_turn n m (fun i => X i * w ^ (i * k) * u ^ (m * k))]
  refine S_eqm (fun i _ => ?_)
  have h1 : Eqm (w ^ (((i + m) % n) * k) * u ^ (m * k)) (w ^ (i * k)) := by
    rw [Int.pow_mul, show u ^ (m * k) = (u ^ m) ^ k from Int.pow_mul]
    have h2 := ((h.pow_mod (i + m)).pow k).mul (rfl' ((u ^ m) ^ k))
    refine h2.trans ?_
    rw [← pow_mul', show w ^ (i * k) = (w ^ i) ^ k from Int.pow_mul]
    refine Eqm.pow ?_ k
    rw [Int.pow_add, Int.mul_assoc]
    have := (rfl' (w ^ i)).mul (h.inv_pow m)
    rwa [Int.mul_one] at this
  show Eqm (X ((i + m) % n) * w ^ (i * k)) (X ((i + m) % n) * w ^ ((i + m) % n * k) * u ^ (m * k))
  rw [Int.mul_assoc]
  exact (rfl' _).mul h1.symm
#print axioms T_turn
end Go.Proofs.Ytpehbgcbifgokaa.Sm
