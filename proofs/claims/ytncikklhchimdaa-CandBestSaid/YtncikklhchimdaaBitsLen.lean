/- math/bits.Len off the shelf. -/
import Derived.Shelf.Lay
import Derived.Shelf.LaySoft
import Derived.Shelf.Small.Bits
import Derived.Ground.Names2Prog
import Derived.Test.YtncikklhchimdaaMem
namespace Go.Proofs.Ytncikklhchimdaa
open Go.Proofs
open Go.Shelf Go.RowKit
set_option linter.unusedVariables false
shelf_lay Lays.n125 Nm 125 at Try as Try.lays125
theorem bits_Len (x : Int) (w : World) (h0 : 0 ≤ x) (h1 : x ≤ 18446744073709551615) :
    Calls Try.prog 104 #[.int .u64 x] w fun e w' => e = .returned (.int .i64 (Lib.bitLen x.toNat)) ∧ w = w' :=
  (Any.bits_Len Try.lays125 x w h0 h1).mono fun e w' ⟨h, h2⟩ => ⟨h, h2.symm⟩
end Go.Proofs.Ytncikklhchimdaa
