/- The contracts of the plain transform: the checks, the transform, what undoes it. -/
import Derived.Test.YtlgklkhijmeldaaDftA
namespace Go.Proofs.Ytlgklkhijmeldaa
open Go.RowKit Sm
set_option linter.unusedVariables false
set_option linter.unusedSimpArgs false
set_option maxRecDepth 100000

/-- What is wrong with a size and a direction. -/
def chk (n d : Int) : Int := if d < 0 ∨ 1 < d then 2 else if hasSz n = false then 4 else if 4096 < n then 12 else 0

theorem chk_ok {n d : Int} (h : chk n d = 0) : (d = 0 ∨ d = 1) ∧ hasSz n = true ∧ n ≤ 4096 := by
  unfold chk at h
  by_cases h1 : d < 0 ∨ 1 < d
  · rw [if_pos h1] at h; omega
  · rw [if_neg h1] at h
    by_cases h2 : hasSz n = false
    · rw [if_pos h2] at h; omega
    · rw [if_neg h2] at h
      by_cases h3 : 4096 < n
      · rw [if_pos h3] at h; omega
      · exact ⟨by omega, by cases hh : hasSz n; exact absurd hh h2; rfl, by omega⟩

theorem chk_mk {n d : Int} (hd : d = 0 ∨ d = 1) (hs : hasSz n = true) (hn : n ≤ 4096) : chk n d = 0 := by
  unfold chk; rw [if_neg (by omega), if_neg (by rw [hs]; simp), if_neg (by omega)]

def dftL (xs : List Int) (z : Int) : List Int := (List.range xs.length).map fun k => pt xs (pw z k)
theorem dftL_len (xs : List Int) (z : Int) : (dftL xs z).length = xs.length := by simp [dftL]
theorem dftL_fits (xs : List Int) (z : Int) : ∀ x ∈ dftL xs z, fits .u64 x := by
  intro x hx; obtain ⟨i, _, rfl⟩ := List.mem_map.1 hx
  have := pt_range xs (pw z i)
  exact fits_u64.2 (by omega)

end Go.Proofs.Ytlgklkhijmeldaa
