/- Plain laws of tables and of what is left by two numbers. -/
import Derived.Test.YtpehbgcbifgokaaPermC
namespace Go.Proofs.Ytpehbgcbifgokaa
set_option linter.unusedVariables false
set_option linter.unusedSimpArgs false

/-- A list out of a map of places. -/
def mapL (N : Nat) (f : Nat → Nat) : List Int := (List.range N).map fun k => ((f k : Nat) : Int)
theorem mapL_len (N : Nat) (f : Nat → Nat) : (mapL N f).length = N := by simp [mapL]
theorem nth_mapL (N : Nat) (f : Nat → Nat) (k : Nat) (h : k < N) : nth (mapL N f) k = f k := nth_ofFn _ _ _ h
theorem mapL_fits (N : Nat) (f : Nat → Nat) (hf : ∀ k, k < N → f k < N) (hN : N ≤ 1000000000) : ∀ x ∈ mapL N f, fits .i64 x := by
  intro x hx; obtain ⟨i, hi, rfl⟩ := List.mem_map.1 hx
  have := hf i (by simpa using hi)
  exact fits_nat (by omega)
theorem isPerm_mapL (N : Nat) (f : Nat → Nat) (hf : ∀ k, k < N → f k < N) (hi : ∀ i j, i < j → j < N → f i ≠ f j) : IsPerm (mapL N f) := by
  unfold IsPerm
  rw [mapL_len]
  refine ⟨fun i h => ?_, fun i j hij hj => ?_⟩
  · rw [nth_mapL N f i h]; have := hf i h; omega
  · rw [nth_mapL N f i (by omega), nth_mapL N f j hj]; have := hi i j hij hj; omega

/-- Where a map of places has p. -/
noncomputable def invOf (N : Nat) (f : Nat → Nat) (p : Nat) : Nat := by
  classical exact if h : ∃ t, t < N ∧ f t = p then h.choose else 0
theorem invOf_spec (N : Nat) (f : Nat → Nat) (p : Nat) (h : ∃ t, t < N ∧ f t = p) : invOf N f p < N ∧ f (invOf N f p) = p := by
  unfold invOf; rw [dif_pos h]; exact h.choose_spec
theorem inj_of (N : Nat) (f : Nat → Nat) (hi : ∀ i j, i < j → j < N → f i ≠ f j) (a b : Nat) (ha : a < N) (hb : b < N) (h : f a = f b) : a = b := by
  rcases Nat.lt_trichotomy a b with h1 | h1 | h1
  · exact absurd h (hi a b h1 hb)
  · exact h1
  · exact absurd h.symm (hi b a h1 ha)
theorem invOf_of (N : Nat) (f : Nat → Nat) (hi : ∀ i j, i < j → j < N → f i ≠ f j) (t : Nat) (ht : t < N) : invOf N f (f t) = t := by
  have h := invOf_spec N f (f t) ⟨t, ht, rfl⟩
  exact inj_of N f hi _ _ h.1 ht h.2
theorem invOf_lt (N : Nat) (f : Nat → Nat) (hf : ∀ k, k < N → f k < N) (hi : ∀ i j, i < j → j < N → f i ≠ f j) (p : Nat) (hp : p < N) : invOf N f p < N ∧ f (invOf N f p) = p := by
  obtain ⟨t, ht, e⟩ := Fld.onto N f hf hi p hp
  exact invOf_spec N f p ⟨t, ht, e⟩
theorem invOf_inj (N : Nat) (f : Nat → Nat) (hf : ∀ k, k < N → f k < N) (hi : ∀ i j, i < j → j < N → f i ≠ f j) : ∀ i j, i < j → j < N → invOf N f i ≠ invOf N f j := by
  intro i j hij hj e
  have h1 := (invOf_lt N f hf hi i (by omega)).2
  have h2 := (invOf_lt N f hf hi j hj).2
  rw [e, h2] at h1
  omega

/-! ### Tables by columns -/
def strF (a b k : Nat) : Nat := k % a * b + k / a
theorem strL_map (a b : Nat) : strL a b = mapL (a * b) (strF a b) := rfl
theorem strF_lt (a b k : Nat) (h : k < a * b) : strF a b k < a * b := str_bd a b k h
theorem strF_back (a b k : Nat) (h : k < a * b) : strF b a (strF a b k) = k := by
  unfold strF
  have ha : 0 < a := Nat.pos_of_ne_zero (fun e => by subst e; omega)
  have h1 : k / a < b := Nat.div_lt_of_lt_mul h
  obtain ⟨e1, e2⟩ := row_at b (k % a) (k / a) h1
  rw [e1, e2, Nat.mul_comm (k / a) a]
  exact Nat.div_add_mod k a
theorem strF_inj (a b : Nat) : ∀ i j, i < j → j < a * b → strF a b i ≠ strF a b j := by
  intro i j hij hj e
  have h1 := strF_back a b i (by omega)
  rw [e, strF_back a b j hj] at h1
  omega
theorem isPerm_str (a b : Nat) : IsPerm (strL a b) := by
  rw [strL_map]; exact isPerm_mapL _ _ (strF_lt a b) (strF_inj a b)
theorem str_back (a b : Nat) : ∀ i, i < a * b → nth (strL b a) (nth (strL a b) i).toNat = i := by
  intro i hi
  rw [strL_map, strL_map, nth_mapL _ _ _ hi, Int.toNat_natCast, nth_mapL _ _ _ (by rw [Nat.mul_comm]; exact strF_lt a b i hi), strF_back a b i hi]

/-! ### Without a common divisor -/
def gooF (a b k : Nat) : Nat := (k / b * b + k % b * a) % (a * b)
def crtF (a b k : Nat) : Nat := k % a * b + k % b

theorem dvd_sub_of (c x y : Nat) (h : x % c = y % c) : c ∣ y - x := Nat.dvd_of_mod_eq_zero (Nat.sub_mod_eq_zero_of_mod_eq h.symm)

theorem mod_inj (a b x y : Nat) (h : Nat.gcd a b = 1) (hx : x < a * b) (hy : y < a * b) (h1 : x % a = y % a) (h2 : x % b = y % b) : x = y := by
  rcases Nat.le_total x y with hle | hle
  · have d1 : a ∣ y - x := dvd_sub_of _ _ _ h1
    have d2 : b ∣ y - x := dvd_sub_of _ _ _ h2
    have d3 := Nat.Coprime.mul_dvd_of_dvd_of_dvd h d1 d2
    have := Nat.eq_zero_of_dvd_of_lt d3 (by omega)
    omega
  · have d1 : a ∣ x - y := dvd_sub_of _ _ _ h1.symm
    have d2 : b ∣ x - y := dvd_sub_of _ _ _ h2.symm
    have d3 := Nat.Coprime.mul_dvd_of_dvd_of_dvd h d1 d2
    have := Nat.eq_zero_of_dvd_of_lt d3 (by omega)
    omega

theorem crtF_lt (a b k : Nat) (h : k < a * b) : crtF a b k < a * b := by
  have ha : 0 < a := Nat.pos_of_ne_zero (fun e => by subst e; omega)
  have hb : 0 < b := Nat.pos_of_ne_zero (fun e => by subst e; omega)
  exact row_bd a b (k % a) (k % b) (Nat.mod_lt _ ha) (Nat.mod_lt _ hb)
theorem crtF_at (a b k : Nat) (hb : 0 < b) : crtF a b k / b = k % a ∧ crtF a b k % b = k % b := row_at b (k % a) (k % b) (Nat.mod_lt _ hb)
theorem crtF_inj (a b : Nat) (h : Nat.gcd a b = 1) : ∀ i j, i < j → j < a * b → crtF a b i ≠ crtF a b j := by
  intro i j hij hj e
  have hb : 0 < b := Nat.pos_of_ne_zero (fun e => by subst e; omega)
  have h1 := crtF_at a b i hb
  have h2 := crtF_at a b j hb
  rw [e] at h1
  have := mod_inj a b i j h (by omega) hj (h1.1.symm.trans h2.1) (h1.2.symm.trans h2.2)
  omega

theorem gooF_lt (a b k : Nat) (h : k < a * b) : gooF a b k < a * b := Nat.mod_lt _ (by omega)
theorem gooF_inj (a b : Nat) (h : Nat.gcd a b = 1) : ∀ i j, i < j → j < a * b → gooF a b i ≠ gooF a b j := by
  intro i j hij hj e
  have ha : 0 < a := Nat.pos_of_ne_zero (fun e => by subst e; omega)
  have hb : 0 < b := Nat.pos_of_ne_zero (fun e => by subst e; omega)
  unfold gooF at e
  -- what is left by a
  have ea : (i / b * b) % a = (j / b * b) % a := by
    have h1 := congrArg (· % a) e
    simp only [Nat.mod_mul_right_mod, Nat.add_mul_mod_self_right] at h1
    exact h1
  have eb : (i % b * a) % b = (j % b * a) % b := by
    have h1 := congrArg (· % b) e
    simp only [Nat.mod_mul_left_mod] at h1
    rw [Nat.add_comm (i / b * b), Nat.add_comm (j / b * b), Nat.add_mul_mod_self_right, Nat.add_mul_mod_self_right] at h1
    exact h1
  have hi1 : i / b < a := Nat.div_lt_of_lt_mul (by rw [Nat.mul_comm]; omega)
  have hj1 : j / b < a := Nat.div_lt_of_lt_mul (by rw [Nat.mul_comm]; omega)
  have h1 : i / b = j / b := strike_mod (i / b) (j / b) b a (by rw [Nat.gcd_comm]; rw [Nat.gcd_comm]; exact h) hi1 hj1 ea
  have h2 : i % b = j % b := strike_mod (i % b) (j % b) a b (by rw [Nat.gcd_comm]; exact h) (Nat.mod_lt _ hb) (Nat.mod_lt _ hb) eb
  have h3 := Nat.div_add_mod i b
  have h4 := Nat.div_add_mod j b
  rw [h1, h2] at h3
  omega
where
  strike_mod (x y c m : Nat) (hc : Nat.gcd m c = 1) (hx : x < m) (hy : y < m) (h : x * c % m = y * c % m) : x = y := by
    rcases Nat.le_total x y with hle | hle
    · have d := dvd_sub_of _ _ _ h
      rw [← Nat.sub_mul] at d
      have d2 : m ∣ y - x := Nat.Coprime.dvd_of_dvd_mul_right hc d
      have := Nat.eq_zero_of_dvd_of_lt d2 (by omega)
      omega
    · have d := dvd_sub_of _ _ _ h.symm
      rw [← Nat.sub_mul] at d
      have d2 : m ∣ x - y := Nat.Coprime.dvd_of_dvd_mul_right hc d
      have := Nat.eq_zero_of_dvd_of_lt d2 (by omega)
      omega

def gooL (a b : Nat) : List Int := mapL (a * b) (gooF a b)
noncomputable def crtL (a b : Nat) : List Int := mapL (a * b) (invOf (a * b) (crtF a b))
theorem isPerm_goo (a b : Nat) (h : Nat.gcd a b = 1) : IsPerm (gooL a b) := isPerm_mapL _ _ (gooF_lt a b) (gooF_inj a b h)
theorem isPerm_crt (a b : Nat) (h : Nat.gcd a b = 1) : IsPerm (crtL a b) :=
  isPerm_mapL _ _ (fun k hk => (invOf_lt _ _ (crtF_lt a b) (crtF_inj a b h) k hk).1) (invOf_inj _ _ (crtF_lt a b) (crtF_inj a b h))
#print axioms isPerm_goo
end Go.Proofs.Ytpehbgcbifgokaa
