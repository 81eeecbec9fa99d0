/-
  No cell of these rows narrows 'for every input' (looked for: loops, veiled, ifaces, maps, wideKeys, modest, calm, conditions, laid).
  DERIVED. THE GIVEN ROWS OF THIS SEAT. 15 by the template 'for every input the law returns true; each argument reads behind the call as it read before'; 0 by the template 'total and deterministic' (their statements: YtfoodnmcilogjaaTotals.lean).
  GIVEN WITH THE SEED: the statements are not yours to turn. If you find one false, say at which input.
  Laid BY PROGRAM, IN A SANDBOX (cutbox-rows.mjs): the forced cells as the released guide's own fill.sh prints them over the translation 796d495baf46c10e… (all of the seat's roots in one cut). By AI agents, Wed Nov 11 2026. No macro, syntax, notation, axiom, sorry.
-/
import Derived.Test.YtfoodnmcilogjaaChecked
import GoSem.Claim
import GoSem.ClaimJoined
import GoSem.ClaimMapViews
import Derived.JoinedTies
import Derived.KernelRfl
namespace Go.Proofs.Ytfoodnmcilogjaa
/- THE CELL 'sum', in the pinned program and in every row, IS THE sha256 OF THE DUMP (.gsa) THAT YtfoodnmcilogjaaProg.lean LOADS. Nothing in Lean hashes anything: it is a label: what it is worth is what the hold of that sum in a sandbox is worth. -/
noncomputable def Try.pinned : Pinned := { name := "ytfoodnmcilogjaa", sum := "796d495baf46c10e976e3f16435755674670a3ec1d7f930e98c7a637ed9fd32f", checked := Try.checked }
namespace Rows
def none {H : Type} : Left H := { results := [], args := [] }

/-- 'dulcimerlaw05.VecTurns': WHATEVER THE INPUT: true; the input reads as it did. -/
def vecTurnsSpec : ChangeSpec := { name := "vecTurns", fn := fun _ => fun
  | [d1, d2, d3] => { results := [.lit (.bool true)], args := [d1, d2, d3] }
  | _ => none }
def vecTurnsRow : OpenClaim := { program := "ytfoodnmcilogjaa", sum := "796d495baf46c10e976e3f16435755674670a3ec1d7f930e98c7a637ed9fd32f", func := "dulcimer/dulcimerlaw05.VecTurns", spec := "vecTurns", unfollowed := true, recurses := true, apart := false }
def VecTurnsSaid : Prop := vecTurnsRow.holds Try.pinned (OpenSpec.ofChange vecTurnsSpec)

/-- ITS FALSE NEIGHBOUR: 'it returns false'. Refute it at one input. -/
def vecTurnsWrong : ChangeSpec := { name := "vecTurns", fn := fun _ => fun
  | [d1, d2, d3] => { results := [.lit (.bool false)], args := [d1, d2, d3] }
  | _ => none }
def VecTurnsWrongFalsely : Prop := vecTurnsRow.holds Try.pinned (OpenSpec.ofChange vecTurnsWrong)

/-- 'dulcimerlaw02.GoldPowers': WHATEVER THE INPUT: true; the input reads as it did. -/
def goldPowersSpec : ChangeSpec := { name := "goldPowers", fn := fun _ => fun
  | [d1, d2] => { results := [.lit (.bool true)], args := [d1, d2] }
  | _ => none }
def goldPowersRow : OpenClaim := { program := "ytfoodnmcilogjaa", sum := "796d495baf46c10e976e3f16435755674670a3ec1d7f930e98c7a637ed9fd32f", func := "dulcimer/dulcimerlaw02.GoldPowers", spec := "goldPowers", inPlace := ["math/bits.Sub64", "math/bits.Add64"], apart := false }
def GoldPowersSaid : Prop := goldPowersRow.holds Try.pinned (OpenSpec.ofChange goldPowersSpec)

/-- ITS FALSE NEIGHBOUR: 'it returns false'. Refute it at one input. -/
def goldPowersWrong : ChangeSpec := { name := "goldPowers", fn := fun _ => fun
  | [d1, d2] => { results := [.lit (.bool false)], args := [d1, d2] }
  | _ => none }
def GoldPowersWrongFalsely : Prop := goldPowersRow.holds Try.pinned (OpenSpec.ofChange goldPowersWrong)

/-- 'dulcimerlaw02.GoldField': WHATEVER THE INPUT: true; the input reads as it did. -/
def goldFieldSpec : ChangeSpec := { name := "goldField", fn := fun _ => fun
  | [d1, d2, d3] => { results := [.lit (.bool true)], args := [d1, d2, d3] }
  | _ => none }
def goldFieldRow : OpenClaim := { program := "ytfoodnmcilogjaa", sum := "796d495baf46c10e976e3f16435755674670a3ec1d7f930e98c7a637ed9fd32f", func := "dulcimer/dulcimerlaw02.GoldField", spec := "goldField", inPlace := ["math/bits.Add64", "math/bits.Sub64"], apart := false }
def GoldFieldSaid : Prop := goldFieldRow.holds Try.pinned (OpenSpec.ofChange goldFieldSpec)

/-- ITS FALSE NEIGHBOUR: 'it returns false'. Refute it at one input. -/
def goldFieldWrong : ChangeSpec := { name := "goldField", fn := fun _ => fun
  | [d1, d2, d3] => { results := [.lit (.bool false)], args := [d1, d2, d3] }
  | _ => none }
def GoldFieldWrongFalsely : Prop := goldFieldRow.holds Try.pinned (OpenSpec.ofChange goldFieldWrong)

/-- 'dulcimerlaw02.GoldWide': WHATEVER THE INPUT: true; the input reads as it did. -/
def goldWideSpec : ChangeSpec := { name := "goldWide", fn := fun _ => fun
  | [d1, d2] => { results := [.lit (.bool true)], args := [d1, d2] }
  | _ => none }
def goldWideRow : OpenClaim := { program := "ytfoodnmcilogjaa", sum := "796d495baf46c10e976e3f16435755674670a3ec1d7f930e98c7a637ed9fd32f", func := "dulcimer/dulcimerlaw02.GoldWide", spec := "goldWide", inPlace := ["math/bits.Sub64", "math/bits.Add64"], apart := false }
def GoldWideSaid : Prop := goldWideRow.holds Try.pinned (OpenSpec.ofChange goldWideSpec)

/-- ITS FALSE NEIGHBOUR: 'it returns false'. Refute it at one input. -/
def goldWideWrong : ChangeSpec := { name := "goldWide", fn := fun _ => fun
  | [d1, d2] => { results := [.lit (.bool false)], args := [d1, d2] }
  | _ => none }
def GoldWideWrongFalsely : Prop := goldWideRow.holds Try.pinned (OpenSpec.ofChange goldWideWrong)

/-- 'dulcimerlaw02.GoldTells': WHATEVER THE INPUT: true; the input reads as it did. -/
def goldTellsSpec : ChangeSpec := { name := "goldTells", fn := fun _ => fun
  | [d1, d2] => { results := [.lit (.bool true)], args := [d1, d2] }
  | _ => none }
def goldTellsRow : OpenClaim := { program := "ytfoodnmcilogjaa", sum := "796d495baf46c10e976e3f16435755674670a3ec1d7f930e98c7a637ed9fd32f", func := "dulcimer/dulcimerlaw02.GoldTells", spec := "goldTells", inPlace := ["math/bits.Add64", "math/bits.Sub64"], apart := false }
def GoldTellsSaid : Prop := goldTellsRow.holds Try.pinned (OpenSpec.ofChange goldTellsSpec)

/-- ITS FALSE NEIGHBOUR: 'it returns false'. Refute it at one input. -/
def goldTellsWrong : ChangeSpec := { name := "goldTells", fn := fun _ => fun
  | [d1, d2] => { results := [.lit (.bool false)], args := [d1, d2] }
  | _ => none }
def GoldTellsWrongFalsely : Prop := goldTellsRow.holds Try.pinned (OpenSpec.ofChange goldTellsWrong)

/-- 'dulcimerlaw07.ConvTells': WHATEVER THE INPUT: true; the input reads as it did. -/
def convTellsSpec : ChangeSpec := { name := "convTells", fn := fun _ => fun
  | [d1, d2] => { results := [.lit (.bool true)], args := [d1, d2] }
  | _ => none }
def convTellsRow : OpenClaim := { program := "ytfoodnmcilogjaa", sum := "796d495baf46c10e976e3f16435755674670a3ec1d7f930e98c7a637ed9fd32f", func := "dulcimer/dulcimerlaw07.ConvTells", spec := "convTells", inPlace := ["math/bits.Sub64", "math/bits.Add64"], unfollowed := true, recurses := true, apart := false }
def ConvTellsSaid : Prop := convTellsRow.holds Try.pinned (OpenSpec.ofChange convTellsSpec)

/-- ITS FALSE NEIGHBOUR: 'it returns false'. Refute it at one input. -/
def convTellsWrong : ChangeSpec := { name := "convTells", fn := fun _ => fun
  | [d1, d2] => { results := [.lit (.bool false)], args := [d1, d2] }
  | _ => none }
def ConvTellsWrongFalsely : Prop := convTellsRow.holds Try.pinned (OpenSpec.ofChange convTellsWrong)

/-- 'dulcimerlaw07.ConvBig': WHATEVER THE INPUT: true; the input reads as it did. -/
def convBigSpec : ChangeSpec := { name := "convBig", fn := fun _ => fun
  | [d1, d2] => { results := [.lit (.bool true)], args := [d1, d2] }
  | _ => none }
def convBigRow : OpenClaim := { program := "ytfoodnmcilogjaa", sum := "796d495baf46c10e976e3f16435755674670a3ec1d7f930e98c7a637ed9fd32f", func := "dulcimer/dulcimerlaw07.ConvBig", spec := "convBig", inPlace := ["math/bits.Sub64", "math/bits.Add64"], unfollowed := true, recurses := true, apart := false }
def ConvBigSaid : Prop := convBigRow.holds Try.pinned (OpenSpec.ofChange convBigSpec)

/-- ITS FALSE NEIGHBOUR: 'it returns false'. Refute it at one input. -/
def convBigWrong : ChangeSpec := { name := "convBig", fn := fun _ => fun
  | [d1, d2] => { results := [.lit (.bool false)], args := [d1, d2] }
  | _ => none }
def ConvBigWrongFalsely : Prop := convBigRow.holds Try.pinned (OpenSpec.ofChange convBigWrong)

/-- 'dulcimerlaw05.VecUnits': WHATEVER THE INPUT: true; the input reads as it did. -/
def vecUnitsSpec : ChangeSpec := { name := "vecUnits", fn := fun _ => fun
  | [d1, d2, d3] => { results := [.lit (.bool true)], args := [d1, d2, d3] }
  | _ => none }
def vecUnitsRow : OpenClaim := { program := "ytfoodnmcilogjaa", sum := "796d495baf46c10e976e3f16435755674670a3ec1d7f930e98c7a637ed9fd32f", func := "dulcimer/dulcimerlaw05.VecUnits", spec := "vecUnits", inPlace := ["math/bits.Sub64", "math/bits.Add64"], unfollowed := true, recurses := true, apart := false }
def VecUnitsSaid : Prop := vecUnitsRow.holds Try.pinned (OpenSpec.ofChange vecUnitsSpec)

/-- ITS FALSE NEIGHBOUR: 'it returns false'. Refute it at one input. -/
def vecUnitsWrong : ChangeSpec := { name := "vecUnits", fn := fun _ => fun
  | [d1, d2, d3] => { results := [.lit (.bool false)], args := [d1, d2, d3] }
  | _ => none }
def VecUnitsWrongFalsely : Prop := vecUnitsRow.holds Try.pinned (OpenSpec.ofChange vecUnitsWrong)

/-- 'dulcimerlaw06.DftLinear': WHATEVER THE INPUT: true; the input reads as it did. -/
def dftLinearSpec : ChangeSpec := { name := "dftLinear", fn := fun _ => fun
  | [d1, d2, d3] => { results := [.lit (.bool true)], args := [d1, d2, d3] }
  | _ => none }
def dftLinearRow : OpenClaim := { program := "ytfoodnmcilogjaa", sum := "796d495baf46c10e976e3f16435755674670a3ec1d7f930e98c7a637ed9fd32f", func := "dulcimer/dulcimerlaw06.DftLinear", spec := "dftLinear", inPlace := ["math/bits.Sub64", "math/bits.Add64"], unfollowed := true, recurses := true, apart := false }
def DftLinearSaid : Prop := dftLinearRow.holds Try.pinned (OpenSpec.ofChange dftLinearSpec)

/-- ITS FALSE NEIGHBOUR: 'it returns false'. Refute it at one input. -/
def dftLinearWrong : ChangeSpec := { name := "dftLinear", fn := fun _ => fun
  | [d1, d2, d3] => { results := [.lit (.bool false)], args := [d1, d2, d3] }
  | _ => none }
def DftLinearWrongFalsely : Prop := dftLinearRow.holds Try.pinned (OpenSpec.ofChange dftLinearWrong)

/-- 'dulcimerlaw06.DftUnits': WHATEVER THE INPUT: true; the input reads as it did. -/
def dftUnitsSpec : ChangeSpec := { name := "dftUnits", fn := fun _ => fun
  | [d1, d2] => { results := [.lit (.bool true)], args := [d1, d2] }
  | _ => none }
def dftUnitsRow : OpenClaim := { program := "ytfoodnmcilogjaa", sum := "796d495baf46c10e976e3f16435755674670a3ec1d7f930e98c7a637ed9fd32f", func := "dulcimer/dulcimerlaw06.DftUnits", spec := "dftUnits", inPlace := ["math/bits.Sub64", "math/bits.Add64"], unfollowed := true, recurses := true, apart := false }
def DftUnitsSaid : Prop := dftUnitsRow.holds Try.pinned (OpenSpec.ofChange dftUnitsSpec)

/-- ITS FALSE NEIGHBOUR: 'it returns false'. Refute it at one input. -/
def dftUnitsWrong : ChangeSpec := { name := "dftUnits", fn := fun _ => fun
  | [d1, d2] => { results := [.lit (.bool false)], args := [d1, d2] }
  | _ => none }
def DftUnitsWrongFalsely : Prop := dftUnitsRow.holds Try.pinned (OpenSpec.ofChange dftUnitsWrong)

/-- 'dulcimerlaw05.VecTells': WHATEVER THE INPUT: true; the input reads as it did. -/
def vecTellsSpec : ChangeSpec := { name := "vecTells", fn := fun _ => fun
  | [d1, d2, d3] => { results := [.lit (.bool true)], args := [d1, d2, d3] }
  | _ => none }
def vecTellsRow : OpenClaim := { program := "ytfoodnmcilogjaa", sum := "796d495baf46c10e976e3f16435755674670a3ec1d7f930e98c7a637ed9fd32f", func := "dulcimer/dulcimerlaw05.VecTells", spec := "vecTells", inPlace := ["math/bits.Add64", "math/bits.Sub64"], unfollowed := true, recurses := true, apart := false }
def VecTellsSaid : Prop := vecTellsRow.holds Try.pinned (OpenSpec.ofChange vecTellsSpec)

/-- ITS FALSE NEIGHBOUR: 'it returns false'. Refute it at one input. -/
def vecTellsWrong : ChangeSpec := { name := "vecTells", fn := fun _ => fun
  | [d1, d2, d3] => { results := [.lit (.bool false)], args := [d1, d2, d3] }
  | _ => none }
def VecTellsWrongFalsely : Prop := vecTellsRow.holds Try.pinned (OpenSpec.ofChange vecTellsWrong)

/-- 'dulcimerlaw07.ConvWraps': WHATEVER THE INPUT: true; the input reads as it did. -/
def convWrapsSpec : ChangeSpec := { name := "convWraps", fn := fun _ => fun
  | [d1, d2] => { results := [.lit (.bool true)], args := [d1, d2] }
  | _ => none }
def convWrapsRow : OpenClaim := { program := "ytfoodnmcilogjaa", sum := "796d495baf46c10e976e3f16435755674670a3ec1d7f930e98c7a637ed9fd32f", func := "dulcimer/dulcimerlaw07.ConvWraps", spec := "convWraps", inPlace := ["math/bits.Sub64", "math/bits.Add64"], unfollowed := true, recurses := true, apart := false }
def ConvWrapsSaid : Prop := convWrapsRow.holds Try.pinned (OpenSpec.ofChange convWrapsSpec)

/-- ITS FALSE NEIGHBOUR: 'it returns false'. Refute it at one input. -/
def convWrapsWrong : ChangeSpec := { name := "convWraps", fn := fun _ => fun
  | [d1, d2] => { results := [.lit (.bool false)], args := [d1, d2] }
  | _ => none }
def ConvWrapsWrongFalsely : Prop := convWrapsRow.holds Try.pinned (OpenSpec.ofChange convWrapsWrong)

/-- 'dulcimerlaw06.DftTells': WHATEVER THE INPUT: true; the input reads as it did. -/
def dftTellsSpec : ChangeSpec := { name := "dftTells", fn := fun _ => fun
  | [d1, d2, d3] => { results := [.lit (.bool true)], args := [d1, d2, d3] }
  | _ => none }
def dftTellsRow : OpenClaim := { program := "ytfoodnmcilogjaa", sum := "796d495baf46c10e976e3f16435755674670a3ec1d7f930e98c7a637ed9fd32f", func := "dulcimer/dulcimerlaw06.DftTells", spec := "dftTells", inPlace := ["math/bits.Sub64", "math/bits.Add64"], unfollowed := true, recurses := true, apart := false }
def DftTellsSaid : Prop := dftTellsRow.holds Try.pinned (OpenSpec.ofChange dftTellsSpec)

/-- ITS FALSE NEIGHBOUR: 'it returns false'. Refute it at one input. -/
def dftTellsWrong : ChangeSpec := { name := "dftTells", fn := fun _ => fun
  | [d1, d2, d3] => { results := [.lit (.bool false)], args := [d1, d2, d3] }
  | _ => none }
def DftTellsWrongFalsely : Prop := dftTellsRow.holds Try.pinned (OpenSpec.ofChange dftTellsWrong)

/-- 'dulcimerlaw06.DftBack': WHATEVER THE INPUT: true; the input reads as it did. -/
def dftBackSpec : ChangeSpec := { name := "dftBack", fn := fun _ => fun
  | [d1, d2] => { results := [.lit (.bool true)], args := [d1, d2] }
  | _ => none }
def dftBackRow : OpenClaim := { program := "ytfoodnmcilogjaa", sum := "796d495baf46c10e976e3f16435755674670a3ec1d7f930e98c7a637ed9fd32f", func := "dulcimer/dulcimerlaw06.DftBack", spec := "dftBack", inPlace := ["math/bits.Sub64", "math/bits.Add64"], unfollowed := true, recurses := true, apart := false }
def DftBackSaid : Prop := dftBackRow.holds Try.pinned (OpenSpec.ofChange dftBackSpec)

/-- ITS FALSE NEIGHBOUR: 'it returns false'. Refute it at one input. -/
def dftBackWrong : ChangeSpec := { name := "dftBack", fn := fun _ => fun
  | [d1, d2] => { results := [.lit (.bool false)], args := [d1, d2] }
  | _ => none }
def DftBackWrongFalsely : Prop := dftBackRow.holds Try.pinned (OpenSpec.ofChange dftBackWrong)

/-- 'dulcimerlaw07.ConvTheorem': WHATEVER THE INPUT: true; the input reads as it did. -/
def convTheoremSpec : ChangeSpec := { name := "convTheorem", fn := fun _ => fun
  | [d1, d2] => { results := [.lit (.bool true)], args := [d1, d2] }
  | _ => none }
def convTheoremRow : OpenClaim := { program := "ytfoodnmcilogjaa", sum := "796d495baf46c10e976e3f16435755674670a3ec1d7f930e98c7a637ed9fd32f", func := "dulcimer/dulcimerlaw07.ConvTheorem", spec := "convTheorem", inPlace := ["math/bits.Sub64", "math/bits.Add64"], unfollowed := true, recurses := true, apart := false }
def ConvTheoremSaid : Prop := convTheoremRow.holds Try.pinned (OpenSpec.ofChange convTheoremSpec)

/-- ITS FALSE NEIGHBOUR: 'it returns false'. Refute it at one input. -/
def convTheoremWrong : ChangeSpec := { name := "convTheorem", fn := fun _ => fun
  | [d1, d2] => { results := [.lit (.bool false)], args := [d1, d2] }
  | _ => none }
def ConvTheoremWrongFalsely : Prop := convTheoremRow.holds Try.pinned (OpenSpec.ofChange convTheoremWrong)

/- THE SECOND FORM. 'bulk': how many values and letters a reading holds, each counted each time it is reached (what is shared counts as often as it is met; a slice's spare places count too). A statement '..UptoSaid' is the law's where the arguments, and the package variables that the reading takes, are together of bulk at most 1048576: NARROWER than '..Said'. Prove '..Said' where nothing that the law and all that it calls make is longer than what came in: it says more and counts as full. Else prove '..UptoSaid'. A law counts once. -/
mutual
def uptoBulk {H : Type} : DataW H → Nat
  | .lit (.string bytes) => bytes.length + 1
  | .lit _ => 1
  | .nil => 1
  | .ptr d => uptoBulk d + 1
  | .slice elems spare => uptoBulkAll elems + uptoBulkAll spare + 1
  | .agg parts => uptoBulkAll parts + 1
  | .iface _ d => uptoBulk d + 1
  | .map entries => uptoBulkEntries entries + 1
  | .held _ => 1
def uptoBulkAll {H : Type} : List (DataW H) → Nat
  | [] => 0
  | d :: r => uptoBulk d + uptoBulkAll r
def uptoBulkEntries {H : Type} : List (Lit × DataW H) → Nat
  | [] => 0
  | x :: r => uptoBulkEntry x + uptoBulkEntries r
def uptoBulkEntry {H : Type} : Lit × DataW H → Nat
  | (.string bytes, d) => bytes.length + uptoBulk d + 1
  | (_, d) => uptoBulk d + 1
 end
def uptoSmall : (H : Type) → List (DataW H) → Bool := fun _ ds => decide (uptoBulkAll ds ≤ 1048576)
def OpenSpec.upto (s : _root_.Go.ChangeSpec) : _root_.Go.OpenSpec := { _root_.Go.OpenSpec.ofChange s with cond := some uptoSmall }

/-- 'dulcimerlaw05.VecTurns', WHERE WHAT IT READS IS OF BULK AT MOST 1048576: true; the input reads as it did. -/
def vecTurnsUptoRow : OpenClaim := { program := "ytfoodnmcilogjaa", sum := "796d495baf46c10e976e3f16435755674670a3ec1d7f930e98c7a637ed9fd32f", func := "dulcimer/dulcimerlaw05.VecTurns", spec := "vecTurns", unfollowed := true, recurses := true, apart := false, narrowed := true }
def VecTurnsUptoSaid : Prop := vecTurnsUptoRow.holds Try.pinned (OpenSpec.upto vecTurnsSpec)

/-- 'dulcimerlaw02.GoldPowers', WHERE WHAT IT READS IS OF BULK AT MOST 1048576: true; the input reads as it did. -/
def goldPowersUptoRow : OpenClaim := { program := "ytfoodnmcilogjaa", sum := "796d495baf46c10e976e3f16435755674670a3ec1d7f930e98c7a637ed9fd32f", func := "dulcimer/dulcimerlaw02.GoldPowers", spec := "goldPowers", inPlace := ["math/bits.Sub64", "math/bits.Add64"], apart := false, narrowed := true }
def GoldPowersUptoSaid : Prop := goldPowersUptoRow.holds Try.pinned (OpenSpec.upto goldPowersSpec)

/-- 'dulcimerlaw02.GoldField', WHERE WHAT IT READS IS OF BULK AT MOST 1048576: true; the input reads as it did. -/
def goldFieldUptoRow : OpenClaim := { program := "ytfoodnmcilogjaa", sum := "796d495baf46c10e976e3f16435755674670a3ec1d7f930e98c7a637ed9fd32f", func := "dulcimer/dulcimerlaw02.GoldField", spec := "goldField", inPlace := ["math/bits.Add64", "math/bits.Sub64"], apart := false, narrowed := true }
def GoldFieldUptoSaid : Prop := goldFieldUptoRow.holds Try.pinned (OpenSpec.upto goldFieldSpec)

/-- 'dulcimerlaw02.GoldWide', WHERE WHAT IT READS IS OF BULK AT MOST 1048576: true; the input reads as it did. -/
def goldWideUptoRow : OpenClaim := { program := "ytfoodnmcilogjaa", sum := "796d495baf46c10e976e3f16435755674670a3ec1d7f930e98c7a637ed9fd32f", func := "dulcimer/dulcimerlaw02.GoldWide", spec := "goldWide", inPlace := ["math/bits.Sub64", "math/bits.Add64"], apart := false, narrowed := true }
def GoldWideUptoSaid : Prop := goldWideUptoRow.holds Try.pinned (OpenSpec.upto goldWideSpec)

/-- 'dulcimerlaw02.GoldTells', WHERE WHAT IT READS IS OF BULK AT MOST 1048576: true; the input reads as it did. -/
def goldTellsUptoRow : OpenClaim := { program := "ytfoodnmcilogjaa", sum := "796d495baf46c10e976e3f16435755674670a3ec1d7f930e98c7a637ed9fd32f", func := "dulcimer/dulcimerlaw02.GoldTells", spec := "goldTells", inPlace := ["math/bits.Add64", "math/bits.Sub64"], apart := false, narrowed := true }
def GoldTellsUptoSaid : Prop := goldTellsUptoRow.holds Try.pinned (OpenSpec.upto goldTellsSpec)

/-- 'dulcimerlaw07.ConvTells', WHERE WHAT IT READS IS OF BULK AT MOST 1048576: true; the input reads as it did. -/
def convTellsUptoRow : OpenClaim := { program := "ytfoodnmcilogjaa", sum := "796d495baf46c10e976e3f16435755674670a3ec1d7f930e98c7a637ed9fd32f", func := "dulcimer/dulcimerlaw07.ConvTells", spec := "convTells", inPlace := ["math/bits.Sub64", "math/bits.Add64"], unfollowed := true, recurses := true, apart := false, narrowed := true }
def ConvTellsUptoSaid : Prop := convTellsUptoRow.holds Try.pinned (OpenSpec.upto convTellsSpec)

/-- 'dulcimerlaw07.ConvBig', WHERE WHAT IT READS IS OF BULK AT MOST 1048576: true; the input reads as it did. -/
def convBigUptoRow : OpenClaim := { program := "ytfoodnmcilogjaa", sum := "796d495baf46c10e976e3f16435755674670a3ec1d7f930e98c7a637ed9fd32f", func := "dulcimer/dulcimerlaw07.ConvBig", spec := "convBig", inPlace := ["math/bits.Sub64", "math/bits.Add64"], unfollowed := true, recurses := true, apart := false, narrowed := true }
def ConvBigUptoSaid : Prop := convBigUptoRow.holds Try.pinned (OpenSpec.upto convBigSpec)

/-- 'dulcimerlaw05.VecUnits', WHERE WHAT IT READS IS OF BULK AT MOST 1048576: true; the input reads as it did. -/
def vecUnitsUptoRow : OpenClaim := { program := "ytfoodnmcilogjaa", sum := "796d495baf46c10e976e3f16435755674670a3ec1d7f930e98c7a637ed9fd32f", func := "dulcimer/dulcimerlaw05.VecUnits", spec := "vecUnits", inPlace := ["math/bits.Sub64", "math/bits.Add64"], unfollowed := true, recurses := true, apart := false, narrowed := true }
def VecUnitsUptoSaid : Prop := vecUnitsUptoRow.holds Try.pinned (OpenSpec.upto vecUnitsSpec)

/-- 'dulcimerlaw06.DftLinear', WHERE WHAT IT READS IS OF BULK AT MOST 1048576: true; the input reads as it did. -/
def dftLinearUptoRow : OpenClaim := { program := "ytfoodnmcilogjaa", sum := "796d495baf46c10e976e3f16435755674670a3ec1d7f930e98c7a637ed9fd32f", func := "dulcimer/dulcimerlaw06.DftLinear", spec := "dftLinear", inPlace := ["math/bits.Sub64", "math/bits.Add64"], unfollowed := true, recurses := true, apart := false, narrowed := true }
def DftLinearUptoSaid : Prop := dftLinearUptoRow.holds Try.pinned (OpenSpec.upto dftLinearSpec)

/-- 'dulcimerlaw06.DftUnits', WHERE WHAT IT READS IS OF BULK AT MOST 1048576: true; the input reads as it did. -/
def dftUnitsUptoRow : OpenClaim := { program := "ytfoodnmcilogjaa", sum := "796d495baf46c10e976e3f16435755674670a3ec1d7f930e98c7a637ed9fd32f", func := "dulcimer/dulcimerlaw06.DftUnits", spec := "dftUnits", inPlace := ["math/bits.Sub64", "math/bits.Add64"], unfollowed := true, recurses := true, apart := false, narrowed := true }
def DftUnitsUptoSaid : Prop := dftUnitsUptoRow.holds Try.pinned (OpenSpec.upto dftUnitsSpec)

/-- 'dulcimerlaw05.VecTells', WHERE WHAT IT READS IS OF BULK AT MOST 1048576: true; the input reads as it did. -/
def vecTellsUptoRow : OpenClaim := { program := "ytfoodnmcilogjaa", sum := "796d495baf46c10e976e3f16435755674670a3ec1d7f930e98c7a637ed9fd32f", func := "dulcimer/dulcimerlaw05.VecTells", spec := "vecTells", inPlace := ["math/bits.Add64", "math/bits.Sub64"], unfollowed := true, recurses := true, apart := false, narrowed := true }
def VecTellsUptoSaid : Prop := vecTellsUptoRow.holds Try.pinned (OpenSpec.upto vecTellsSpec)

/-- 'dulcimerlaw07.ConvWraps', WHERE WHAT IT READS IS OF BULK AT MOST 1048576: true; the input reads as it did. -/
def convWrapsUptoRow : OpenClaim := { program := "ytfoodnmcilogjaa", sum := "796d495baf46c10e976e3f16435755674670a3ec1d7f930e98c7a637ed9fd32f", func := "dulcimer/dulcimerlaw07.ConvWraps", spec := "convWraps", inPlace := ["math/bits.Sub64", "math/bits.Add64"], unfollowed := true, recurses := true, apart := false, narrowed := true }
def ConvWrapsUptoSaid : Prop := convWrapsUptoRow.holds Try.pinned (OpenSpec.upto convWrapsSpec)

/-- 'dulcimerlaw06.DftTells', WHERE WHAT IT READS IS OF BULK AT MOST 1048576: true; the input reads as it did. -/
def dftTellsUptoRow : OpenClaim := { program := "ytfoodnmcilogjaa", sum := "796d495baf46c10e976e3f16435755674670a3ec1d7f930e98c7a637ed9fd32f", func := "dulcimer/dulcimerlaw06.DftTells", spec := "dftTells", inPlace := ["math/bits.Sub64", "math/bits.Add64"], unfollowed := true, recurses := true, apart := false, narrowed := true }
def DftTellsUptoSaid : Prop := dftTellsUptoRow.holds Try.pinned (OpenSpec.upto dftTellsSpec)

/-- 'dulcimerlaw06.DftBack', WHERE WHAT IT READS IS OF BULK AT MOST 1048576: true; the input reads as it did. -/
def dftBackUptoRow : OpenClaim := { program := "ytfoodnmcilogjaa", sum := "796d495baf46c10e976e3f16435755674670a3ec1d7f930e98c7a637ed9fd32f", func := "dulcimer/dulcimerlaw06.DftBack", spec := "dftBack", inPlace := ["math/bits.Sub64", "math/bits.Add64"], unfollowed := true, recurses := true, apart := false, narrowed := true }
def DftBackUptoSaid : Prop := dftBackUptoRow.holds Try.pinned (OpenSpec.upto dftBackSpec)

/-- 'dulcimerlaw07.ConvTheorem', WHERE WHAT IT READS IS OF BULK AT MOST 1048576: true; the input reads as it did. -/
def convTheoremUptoRow : OpenClaim := { program := "ytfoodnmcilogjaa", sum := "796d495baf46c10e976e3f16435755674670a3ec1d7f930e98c7a637ed9fd32f", func := "dulcimer/dulcimerlaw07.ConvTheorem", spec := "convTheorem", inPlace := ["math/bits.Sub64", "math/bits.Add64"], unfollowed := true, recurses := true, apart := false, narrowed := true }
def ConvTheoremUptoSaid : Prop := convTheoremUptoRow.holds Try.pinned (OpenSpec.upto convTheoremSpec)

end Rows
end Go.Proofs.Ytfoodnmcilogjaa
