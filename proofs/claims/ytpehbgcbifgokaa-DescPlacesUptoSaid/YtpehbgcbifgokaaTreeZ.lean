/- The law of places of trees, joined. -/
import Derived.Test.YtpehbgcbifgokaaTreeV
import Derived.Test.YtpehbgcbifgokaaTreeY
import Derived.Test.YtpehbgcbifgokaaTreeR
namespace Go.Proofs.Ytpehbgcbifgokaa
open Go.RowKit
set_option linter.unusedVariables false
set_option linter.unusedSimpArgs false

theorem descPlacesW (t0 : Tr) (k0 n0 : Int) (a0 : Option Addr) (m0 c0 : Nat) (a1 : Option Addr) (c1 : Nat) (x1 : List Int) (t2 : Tr) (k2 n2 : Int) (a2 : Option Addr) (m2 c2 : Nat) (w : World)
    (s0 : t0.size ≤ 1048576) (h0 : IsT w (fun _ => True) k0 n0 a0 m0 c0 t0) (h1 : Row .i64 w a1 x1) (o1 : OkCap a1 x1.length c1) (s2 : t2.size ≤ 1048576) (h2 : IsT w (fun _ => True) k2 n2 a2 m2 c2 t2) :
    Calls Try.prog 4 #[.agg #[.int .i64 k0, .int .i64 n0, .slice a0 m0 c0], .slice a1 x1.length c1, .agg #[.int .i64 k2, .int .i64 n2, .slice a2 m2 c2]] w fun e w' => e = .returned (.bool true) ∧ Below w.heap.size w w' := by
  by_cases h : t0.size ≤ 80 ∧ t2.size ≤ 80 ∧ x1.length ≤ 100
  · rcases hat : Tr.at? t0 x1 with _ | s
    · exact descPlaces_no t0 t2 k0 n0 a0 m0 c0 a1 _ c1 k2 n2 a2 m2 c2 w x1 h.1 h.2.1 h.2.2 o1.1 h0.lt h2.lt h1 rfl hat
    · exact descPlaces_yes t0 t2 k0 n0 a0 m0 c0 a1 _ c1 k2 n2 a2 m2 c2 w x1 s h.1 h.2.1 h.2.2 o1.1 h0.lt h2.lt h1 rfl hat (fun W hb => ref13_Put w.heap.size x1 t0 t2 s k0 n0 a0 m0 c0 a1 _ c1 k2 n2 a2 m2 c2 W (by omega) (h0.lt.below hb) (h2.lt.below hb) (h1.below hb) rfl o1.1 hb.size hat)
  · exact descPlaces_big t0 t2 k0 n0 a0 m0 c0 a1 _ c1 k2 n2 a2 m2 c2 w (by omega) (by omega) h1.len h0.lt h2.lt (by omega)
end Go.Proofs.Ytpehbgcbifgokaa
