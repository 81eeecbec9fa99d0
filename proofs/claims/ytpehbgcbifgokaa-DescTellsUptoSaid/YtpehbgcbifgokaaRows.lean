/-
  NARROWER THAN 'FOR EVERY INPUT', by the rows' own cells (each row's printed sentence says how): DescTells: loops · DescPlaces: loops · DescOrders: loops.
  DERIVED. THE GIVEN ROWS OF THIS SEAT. 9 by the template 'for every input the law returns true; each argument reads behind the call as it read before'; 0 by the template 'total and deterministic' (their statements: YtpehbgcbifgokaaTotals.lean).
  GIVEN WITH THE SEED: the statements are not yours to turn. If you find one false, say at which input.
  Laid BY PROGRAM, IN A SANDBOX (cutbox-rows.mjs): the forced cells as the released guide's own fill.sh prints them over the translation 7be61e80f8b1efbd… (all of the seat's roots in one cut). By AI agents, Wed Nov 11 2026. No macro, syntax, notation, axiom, sorry.
-/
import Derived.Test.YtpehbgcbifgokaaChecked
import GoSem.Claim
import GoSem.ClaimJoined
import GoSem.ClaimMapViews
import Derived.JoinedTies
import Derived.KernelRfl
namespace Go.Proofs.Ytpehbgcbifgokaa
/- THE CELL 'sum', in the pinned program and in every row, IS THE sha256 OF THE DUMP (.gsa) THAT YtpehbgcbifgokaaProg.lean LOADS. Nothing in Lean hashes anything: it is a label: what it is worth is what the hold of that sum in a sandbox is worth. -/
noncomputable def Try.pinned : Pinned := { name := "ytpehbgcbifgokaa", sum := "7be61e80f8b1efbd31fd3525126112789596d5399d81ecbc00a69a657f0713f8", checked := Try.checked }
namespace Rows
def none {H : Type} : Left H := { results := [], args := [] }

/-- 'dulcimerlaw13.DescTells': WHATEVER THE INPUT: true; the input reads as it did. -/
def descTellsSpec : ChangeSpec := { name := "descTells", fn := fun _ => fun
  | [d1, d2] => { results := [.lit (.bool true)], args := [d1, d2] }
  | _ => none }
def descTellsRow : OpenClaim := { program := "ytpehbgcbifgokaa", sum := "7be61e80f8b1efbd31fd3525126112789596d5399d81ecbc00a69a657f0713f8", func := "dulcimer/dulcimerlaw13.DescTells", spec := "descTells", unfollowed := true, recurses := true, loops := true, apart := false }
def DescTellsSaid : Prop := descTellsRow.holds Try.pinned (OpenSpec.ofChange descTellsSpec)

/-- ITS FALSE NEIGHBOUR: 'it returns false'. Refute it at one input. -/
def descTellsWrong : ChangeSpec := { name := "descTells", fn := fun _ => fun
  | [d1, d2] => { results := [.lit (.bool false)], args := [d1, d2] }
  | _ => none }
def DescTellsWrongFalsely : Prop := descTellsRow.holds Try.pinned (OpenSpec.ofChange descTellsWrong)

/-- 'dulcimerlaw13.DescPlaces': WHATEVER THE INPUT: true; the input reads as it did. -/
def descPlacesSpec : ChangeSpec := { name := "descPlaces", fn := fun _ => fun
  | [d1, d2, d3] => { results := [.lit (.bool true)], args := [d1, d2, d3] }
  | _ => none }
def descPlacesRow : OpenClaim := { program := "ytpehbgcbifgokaa", sum := "7be61e80f8b1efbd31fd3525126112789596d5399d81ecbc00a69a657f0713f8", func := "dulcimer/dulcimerlaw13.DescPlaces", spec := "descPlaces", unfollowed := true, recurses := true, loops := true, apart := false }
def DescPlacesSaid : Prop := descPlacesRow.holds Try.pinned (OpenSpec.ofChange descPlacesSpec)

/-- ITS FALSE NEIGHBOUR: 'it returns false'. Refute it at one input. -/
def descPlacesWrong : ChangeSpec := { name := "descPlaces", fn := fun _ => fun
  | [d1, d2, d3] => { results := [.lit (.bool false)], args := [d1, d2, d3] }
  | _ => none }
def DescPlacesWrongFalsely : Prop := descPlacesRow.holds Try.pinned (OpenSpec.ofChange descPlacesWrong)

/-- 'dulcimerlaw08.PermCoprime': WHATEVER THE INPUT: true; the input reads as it did. -/
def permCoprimeSpec : ChangeSpec := { name := "permCoprime", fn := fun _ => fun
  | [d1, d2] => { results := [.lit (.bool true)], args := [d1, d2] }
  | _ => none }
def permCoprimeRow : OpenClaim := { program := "ytpehbgcbifgokaa", sum := "7be61e80f8b1efbd31fd3525126112789596d5399d81ecbc00a69a657f0713f8", func := "dulcimer/dulcimerlaw08.PermCoprime", spec := "permCoprime", unfollowed := true, recurses := true, apart := false }
def PermCoprimeSaid : Prop := permCoprimeRow.holds Try.pinned (OpenSpec.ofChange permCoprimeSpec)

/-- ITS FALSE NEIGHBOUR: 'it returns false'. Refute it at one input. -/
def permCoprimeWrong : ChangeSpec := { name := "permCoprime", fn := fun _ => fun
  | [d1, d2] => { results := [.lit (.bool false)], args := [d1, d2] }
  | _ => none }
def PermCoprimeWrongFalsely : Prop := permCoprimeRow.holds Try.pinned (OpenSpec.ofChange permCoprimeWrong)

/-- 'dulcimerlaw08.PermTables': WHATEVER THE INPUT: true; the input reads as it did. -/
def permTablesSpec : ChangeSpec := { name := "permTables", fn := fun _ => fun
  | [d1, d2] => { results := [.lit (.bool true)], args := [d1, d2] }
  | _ => none }
def permTablesRow : OpenClaim := { program := "ytpehbgcbifgokaa", sum := "7be61e80f8b1efbd31fd3525126112789596d5399d81ecbc00a69a657f0713f8", func := "dulcimer/dulcimerlaw08.PermTables", spec := "permTables", unfollowed := true, recurses := true, apart := false }
def PermTablesSaid : Prop := permTablesRow.holds Try.pinned (OpenSpec.ofChange permTablesSpec)

/-- ITS FALSE NEIGHBOUR: 'it returns false'. Refute it at one input. -/
def permTablesWrong : ChangeSpec := { name := "permTables", fn := fun _ => fun
  | [d1, d2] => { results := [.lit (.bool false)], args := [d1, d2] }
  | _ => none }
def PermTablesWrongFalsely : Prop := permTablesRow.holds Try.pinned (OpenSpec.ofChange permTablesWrong)

/-- 'dulcimerlaw08.PermTells': WHATEVER THE INPUT: true; the input reads as it did. -/
def permTellsSpec : ChangeSpec := { name := "permTells", fn := fun _ => fun
  | [d1, d2, d3] => { results := [.lit (.bool true)], args := [d1, d2, d3] }
  | _ => none }
def permTellsRow : OpenClaim := { program := "ytpehbgcbifgokaa", sum := "7be61e80f8b1efbd31fd3525126112789596d5399d81ecbc00a69a657f0713f8", func := "dulcimer/dulcimerlaw08.PermTells", spec := "permTells", unfollowed := true, recurses := true, apart := false }
def PermTellsSaid : Prop := permTellsRow.holds Try.pinned (OpenSpec.ofChange permTellsSpec)

/-- ITS FALSE NEIGHBOUR: 'it returns false'. Refute it at one input. -/
def permTellsWrong : ChangeSpec := { name := "permTells", fn := fun _ => fun
  | [d1, d2, d3] => { results := [.lit (.bool false)], args := [d1, d2, d3] }
  | _ => none }
def PermTellsWrongFalsely : Prop := permTellsRow.holds Try.pinned (OpenSpec.ofChange permTellsWrong)

/-- 'dulcimerlaw13.DescOrders': WHATEVER THE INPUT: true; the input reads as it did. -/
def descOrdersSpec : ChangeSpec := { name := "descOrders", fn := fun _ => fun
  | [d1, d2, d3] => { results := [.lit (.bool true)], args := [d1, d2, d3] }
  | _ => none }
def descOrdersRow : OpenClaim := { program := "ytpehbgcbifgokaa", sum := "7be61e80f8b1efbd31fd3525126112789596d5399d81ecbc00a69a657f0713f8", func := "dulcimer/dulcimerlaw13.DescOrders", spec := "descOrders", unfollowed := true, recurses := true, loops := true, apart := false }
def DescOrdersSaid : Prop := descOrdersRow.holds Try.pinned (OpenSpec.ofChange descOrdersSpec)

/-- ITS FALSE NEIGHBOUR: 'it returns false'. Refute it at one input. -/
def descOrdersWrong : ChangeSpec := { name := "descOrders", fn := fun _ => fun
  | [d1, d2, d3] => { results := [.lit (.bool false)], args := [d1, d2, d3] }
  | _ => none }
def DescOrdersWrongFalsely : Prop := descOrdersRow.holds Try.pinned (OpenSpec.ofChange descOrdersWrong)

/-- 'dulcimerlaw08.PermRounds': WHATEVER THE INPUT: true; the input reads as it did. -/
def permRoundsSpec : ChangeSpec := { name := "permRounds", fn := fun _ => fun
  | [d1, d2] => { results := [.lit (.bool true)], args := [d1, d2] }
  | _ => none }
def permRoundsRow : OpenClaim := { program := "ytpehbgcbifgokaa", sum := "7be61e80f8b1efbd31fd3525126112789596d5399d81ecbc00a69a657f0713f8", func := "dulcimer/dulcimerlaw08.PermRounds", spec := "permRounds", unfollowed := true, recurses := true, apart := false }
def PermRoundsSaid : Prop := permRoundsRow.holds Try.pinned (OpenSpec.ofChange permRoundsSpec)

/-- ITS FALSE NEIGHBOUR: 'it returns false'. Refute it at one input. -/
def permRoundsWrong : ChangeSpec := { name := "permRounds", fn := fun _ => fun
  | [d1, d2] => { results := [.lit (.bool false)], args := [d1, d2] }
  | _ => none }
def PermRoundsWrongFalsely : Prop := permRoundsRow.holds Try.pinned (OpenSpec.ofChange permRoundsWrong)

/-- 'dulcimerlaw08.PermBits': WHATEVER THE INPUT: true; the input reads as it did. -/
def permBitsSpec : ChangeSpec := { name := "permBits", fn := fun _ => fun
  | [d1, d2] => { results := [.lit (.bool true)], args := [d1, d2] }
  | _ => none }
def permBitsRow : OpenClaim := { program := "ytpehbgcbifgokaa", sum := "7be61e80f8b1efbd31fd3525126112789596d5399d81ecbc00a69a657f0713f8", func := "dulcimer/dulcimerlaw08.PermBits", spec := "permBits", unfollowed := true, recurses := true, apart := false }
def PermBitsSaid : Prop := permBitsRow.holds Try.pinned (OpenSpec.ofChange permBitsSpec)

/-- ITS FALSE NEIGHBOUR: 'it returns false'. Refute it at one input. -/
def permBitsWrong : ChangeSpec := { name := "permBits", fn := fun _ => fun
  | [d1, d2] => { results := [.lit (.bool false)], args := [d1, d2] }
  | _ => none }
def PermBitsWrongFalsely : Prop := permBitsRow.holds Try.pinned (OpenSpec.ofChange permBitsWrong)

/-- 'dulcimerlaw08.PermDigits': WHATEVER THE INPUT: true; the input reads as it did. -/
def permDigitsSpec : ChangeSpec := { name := "permDigits", fn := fun _ => fun
  | [d] => { results := [.lit (.bool true)], args := [d] }
  | _ => none }
def permDigitsRow : OpenClaim := { program := "ytpehbgcbifgokaa", sum := "7be61e80f8b1efbd31fd3525126112789596d5399d81ecbc00a69a657f0713f8", func := "dulcimer/dulcimerlaw08.PermDigits", spec := "permDigits", unfollowed := true, recurses := true, apart := false }
def PermDigitsSaid : Prop := permDigitsRow.holds Try.pinned (OpenSpec.ofChange permDigitsSpec)

/-- ITS FALSE NEIGHBOUR: 'it returns false'. Refute it at one input. -/
def permDigitsWrong : ChangeSpec := { name := "permDigits", fn := fun _ => fun
  | [d] => { results := [.lit (.bool false)], args := [d] }
  | _ => none }
def PermDigitsWrongFalsely : Prop := permDigitsRow.holds Try.pinned (OpenSpec.ofChange permDigitsWrong)

/- THE SECOND FORM. 'bulk': how many values and letters a reading holds, each counted each time it is reached (what is shared counts as often as it is met; a slice's spare places count too). A statement '..UptoSaid' is the law's where the arguments, and the package variables that the reading takes, are together of bulk at most 1048576: NARROWER than '..Said'. Prove '..Said' where nothing that the law and all that it calls make is longer than what came in: it says more and counts as full. Else prove '..UptoSaid'. A law counts once. -/
mutual
def uptoBulk {H : Type} : DataW H → Nat
  | .lit (.string bytes) => bytes.length + 1
  | .lit _ => 1
  | .nil => 1
  | .ptr d => uptoBulk d + 1
  | .slice elems spare => uptoBulkAll elems + uptoBulkAll spare + 1
  | .agg parts => uptoBulkAll parts + 1
  | .iface _ d => uptoBulk d + 1
  | .map entries => uptoBulkEntries entries + 1
  | .held _ => 1
def uptoBulkAll {H : Type} : List (DataW H) → Nat
  | [] => 0
  | d :: r => uptoBulk d + uptoBulkAll r
def uptoBulkEntries {H : Type} : List (Lit × DataW H) → Nat
  | [] => 0
  | x :: r => uptoBulkEntry x + uptoBulkEntries r
def uptoBulkEntry {H : Type} : Lit × DataW H → Nat
  | (.string bytes, d) => bytes.length + uptoBulk d + 1
  | (_, d) => uptoBulk d + 1
 end
def uptoSmall : (H : Type) → List (DataW H) → Bool := fun _ ds => decide (uptoBulkAll ds ≤ 1048576)
def OpenSpec.upto (s : _root_.Go.ChangeSpec) : _root_.Go.OpenSpec := { _root_.Go.OpenSpec.ofChange s with cond := some uptoSmall }

/-- 'dulcimerlaw13.DescTells', WHERE WHAT IT READS IS OF BULK AT MOST 1048576: true; the input reads as it did. -/
def descTellsUptoRow : OpenClaim := { program := "ytpehbgcbifgokaa", sum := "7be61e80f8b1efbd31fd3525126112789596d5399d81ecbc00a69a657f0713f8", func := "dulcimer/dulcimerlaw13.DescTells", spec := "descTells", unfollowed := true, recurses := true, loops := true, apart := false, narrowed := true }
def DescTellsUptoSaid : Prop := descTellsUptoRow.holds Try.pinned (OpenSpec.upto descTellsSpec)

/-- 'dulcimerlaw13.DescPlaces', WHERE WHAT IT READS IS OF BULK AT MOST 1048576: true; the input reads as it did. -/
def descPlacesUptoRow : OpenClaim := { program := "ytpehbgcbifgokaa", sum := "7be61e80f8b1efbd31fd3525126112789596d5399d81ecbc00a69a657f0713f8", func := "dulcimer/dulcimerlaw13.DescPlaces", spec := "descPlaces", unfollowed := true, recurses := true, loops := true, apart := false, narrowed := true }
def DescPlacesUptoSaid : Prop := descPlacesUptoRow.holds Try.pinned (OpenSpec.upto descPlacesSpec)

/-- 'dulcimerlaw08.PermCoprime', WHERE WHAT IT READS IS OF BULK AT MOST 1048576: true; the input reads as it did. -/
def permCoprimeUptoRow : OpenClaim := { program := "ytpehbgcbifgokaa", sum := "7be61e80f8b1efbd31fd3525126112789596d5399d81ecbc00a69a657f0713f8", func := "dulcimer/dulcimerlaw08.PermCoprime", spec := "permCoprime", unfollowed := true, recurses := true, apart := false, narrowed := true }
def PermCoprimeUptoSaid : Prop := permCoprimeUptoRow.holds Try.pinned (OpenSpec.upto permCoprimeSpec)

/-- 'dulcimerlaw08.PermTables', WHERE WHAT IT READS IS OF BULK AT MOST 1048576: true; the input reads as it did. -/
def permTablesUptoRow : OpenClaim := { program := "ytpehbgcbifgokaa", sum := "7be61e80f8b1efbd31fd3525126112789596d5399d81ecbc00a69a657f0713f8", func := "dulcimer/dulcimerlaw08.PermTables", spec := "permTables", unfollowed := true, recurses := true, apart := false, narrowed := true }
def PermTablesUptoSaid : Prop := permTablesUptoRow.holds Try.pinned (OpenSpec.upto permTablesSpec)

/-- 'dulcimerlaw08.PermTells', WHERE WHAT IT READS IS OF BULK AT MOST 1048576: true; the input reads as it did. -/
def permTellsUptoRow : OpenClaim := { program := "ytpehbgcbifgokaa", sum := "7be61e80f8b1efbd31fd3525126112789596d5399d81ecbc00a69a657f0713f8", func := "dulcimer/dulcimerlaw08.PermTells", spec := "permTells", unfollowed := true, recurses := true, apart := false, narrowed := true }
def PermTellsUptoSaid : Prop := permTellsUptoRow.holds Try.pinned (OpenSpec.upto permTellsSpec)

/-- 'dulcimerlaw13.DescOrders', WHERE WHAT IT READS IS OF BULK AT MOST 1048576: true; the input reads as it did. -/
def descOrdersUptoRow : OpenClaim := { program := "ytpehbgcbifgokaa", sum := "7be61e80f8b1efbd31fd3525126112789596d5399d81ecbc00a69a657f0713f8", func := "dulcimer/dulcimerlaw13.DescOrders", spec := "descOrders", unfollowed := true, recurses := true, loops := true, apart := false, narrowed := true }
def DescOrdersUptoSaid : Prop := descOrdersUptoRow.holds Try.pinned (OpenSpec.upto descOrdersSpec)

/-- 'dulcimerlaw08.PermRounds', WHERE WHAT IT READS IS OF BULK AT MOST 1048576: true; the input reads as it did. -/
def permRoundsUptoRow : OpenClaim := { program := "ytpehbgcbifgokaa", sum := "7be61e80f8b1efbd31fd3525126112789596d5399d81ecbc00a69a657f0713f8", func := "dulcimer/dulcimerlaw08.PermRounds", spec := "permRounds", unfollowed := true, recurses := true, apart := false, narrowed := true }
def PermRoundsUptoSaid : Prop := permRoundsUptoRow.holds Try.pinned (OpenSpec.upto permRoundsSpec)

/-- 'dulcimerlaw08.PermBits', WHERE WHAT IT READS IS OF BULK AT MOST 1048576: true; the input reads as it did. -/
def permBitsUptoRow : OpenClaim := { program := "ytpehbgcbifgokaa", sum := "7be61e80f8b1efbd31fd3525126112789596d5399d81ecbc00a69a657f0713f8", func := "dulcimer/dulcimerlaw08.PermBits", spec := "permBits", unfollowed := true, recurses := true, apart := false, narrowed := true }
def PermBitsUptoSaid : Prop := permBitsUptoRow.holds Try.pinned (OpenSpec.upto permBitsSpec)

/-- 'dulcimerlaw08.PermDigits', WHERE WHAT IT READS IS OF BULK AT MOST 1048576: true; the input reads as it did. -/
def permDigitsUptoRow : OpenClaim := { program := "ytpehbgcbifgokaa", sum := "7be61e80f8b1efbd31fd3525126112789596d5399d81ecbc00a69a657f0713f8", func := "dulcimer/dulcimerlaw08.PermDigits", spec := "permDigits", unfollowed := true, recurses := true, apart := false, narrowed := true }
def PermDigitsUptoSaid : Prop := permDigitsUptoRow.holds Try.pinned (OpenSpec.upto permDigitsSpec)

end Rows
end Go.Proofs.Ytpehbgcbifgokaa
