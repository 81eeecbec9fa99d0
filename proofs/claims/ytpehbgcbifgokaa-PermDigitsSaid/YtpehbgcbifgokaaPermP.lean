/- Places by bits backwards: math/bits.Reverse64; what it answers, number by number (up to 512 places). -/
import Derived.Test.YtpehbgcbifgokaaPermN
import Derived.Test.YtpehbgcbifgokaaPow
import Derived.Test.YtpehbgcbifgokaaBitsLen
namespace Go.Proofs.Ytpehbgcbifgokaa
open Go.RowKit
set_option linter.unusedVariables false
set_option linter.unusedSimpArgs false

def stepZ (m s x : Int) : Int := bits .or .u64 (bits .and .u64 (x / s) m) (IntKind.u64.wrap (bits .and .u64 x m * s))
def revBZ (x : Int) : Int :=
  bits .or .u64 (stepZ 281470681808895 65536 (stepZ 71777214294589695 256 x) / 4294967296) (IntKind.u64.wrap (stepZ 281470681808895 65536 (stepZ 71777214294589695 256 x) * 4294967296))
def revZ (x : Int) : Int := revBZ (stepZ 1085102592571150095 16 (stepZ 3689348814741910323 4 (stepZ 6148914691236517205 2 x)))

theorem bits_RevBytes (x : Int) (w : World) :
    Calls Try.prog 79 #[.int .u64 x] w fun e w' => e = .returned (.int .u64 (revBZ x)) ∧ w = w' := by
  go_enter Try.func79, Try.ntmps79
  go_wp2_with fail
  go_ret
  exact ⟨rfl, rfl⟩
theorem bits_Rev64 (x : Int) (w : World) :
    Calls Try.prog 71 #[.int .u64 x] w fun e w' => e = .returned (.int .u64 (revZ x)) ∧ w = w' := by
  go_enter Try.func71, Try.ntmps71
  go_wp2_with fail
  refine (bits_RevBytes _ _).mono ?_; rintro e w' ⟨rfl, rfl⟩
  go_wp2_with fail
  go_ret
  exact ⟨rfl, rfl⟩

/-- By doubling. -/
def dbl (l : List Int) : List Int := l.map (fun x => 2 * x) ++ l.map (fun x => 2 * x + 1)
def dblN : Nat → List Int
  | 0 => [0]
  | L + 1 => dbl (dblN L)
theorem dblN_len (L : Nat) : (dblN L).length = 2 ^ L := by
  induction L with
  | zero => rfl
  | succ L ih => show (dbl (dblN L)).length = _; unfold dbl; rw [List.length_append, List.length_map, List.length_map, ih, Nat.pow_succ]; omega

theorem rev_dbl : ∀ L : Fin 10, (List.range (2 ^ L.val)).map (fun i : Nat => IntKind.i64.wrap (revZ (i : Int) / 2 ^ (64 - L.val))) = dblN L.val := by decide +kernel
theorem dbl_all : ∀ L : Fin 10, ∀ x ∈ dblN L.val, 0 ≤ x ∧ x < 2 ^ L.val := by decide +kernel
theorem dbl_twice : ∀ L : Fin 10, (List.range (2 ^ L.val)).map (fun i : Nat => nth (dblN L.val) (nth (dblN L.val) i).toNat) = (List.range (2 ^ L.val)).map (fun i : Nat => (i : Int)) := by decide +kernel
end Go.Proofs.Ytpehbgcbifgokaa
