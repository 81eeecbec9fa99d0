/- Sums of the products of two rows, by places modulo n: the walk. -/
import Derived.Test.YtlgklkhijmeldaaConvB
import Derived.Test.YtlgklkhijmeldaaRoundR
namespace Go.Proofs.Ytlgklkhijmeldaa
open Go.RowKit Go.Shelf Sm
set_option linter.unusedVariables false
set_option linter.unusedSimpArgs false
set_option maxRecDepth 100000
attribute [local go_sem] Oper.semAt_some

theorem info_u64' : (Try.prog.info? 45).map (fun i => (i.zero, i.size, i.bytes)) = some (some (.int .u64 0), 1, 8) := by kernel_rfl

theorem cell_far (W : World) (g r b : Nat) (v : Value) (h : g ≠ b) : ((W.setCell ⟨g, r, none⟩ v).drew).cell? ⟨b, 0, none⟩ = W.cell? ⟨b, 0, none⟩ :=
  World.cell?_setCell_far W ⟨g, r, none⟩ ⟨b, 0, none⟩ v h

end Go.Proofs.Ytlgklkhijmeldaa
