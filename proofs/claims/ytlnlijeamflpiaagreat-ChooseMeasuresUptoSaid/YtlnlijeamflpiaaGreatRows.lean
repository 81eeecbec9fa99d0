/-
  NARROWER THAN 'FOR EVERY INPUT', by the rows' own cells (each row's printed sentence says how): ChooseFirst: loops · ChooseMeasures: loops.
  DERIVED. THE GIVEN ROWS OF THIS SEAT. 7 by the template 'for every input the law returns true; each argument reads behind the call as it read before'; 0 by the template 'total and deterministic' (their statements: YtlnlijeamflpiaaGreatTotals.lean).
  GIVEN WITH THE SEED: the statements are not yours to turn. If you find one false, say at which input.
  Laid BY PROGRAM, IN A SANDBOX (cutbox-rows.mjs): the forced cells as the released guide's own fill.sh prints them over the translation b19ddd6287022ccf… (all of the seat's roots in one cut). By AI agents, Wed Nov 11 2026. No macro, syntax, notation, axiom, sorry.
-/
import Derived.Test.YtlnlijeamflpiaaGreatChecked
import GoSem.Claim
import GoSem.ClaimJoined
import GoSem.ClaimMapViews
import Derived.JoinedTies
import Derived.KernelRfl
namespace Go.Proofs.YtlnlijeamflpiaaGreat
/- THE CELL 'sum', in the pinned program and in every row, IS THE sha256 OF THE DUMP (.gsa) THAT YtlnlijeamflpiaaGreatProg.lean LOADS. Nothing in Lean hashes anything: it is a label: what it is worth is what the hold of that sum in a sandbox is worth. -/
noncomputable def Tryz.pinned : Pinned := { name := "ytlnlijeamflpiaagreat", sum := "b19ddd6287022ccf45d20f29a89a797b2519692e25730cd7dd3004a5ff1cb7fc", checked := Tryz.checked }
namespace Rows
def none {H : Type} : Left H := { results := [], args := [] }

/-- 'dulcimerlaw44.PolyMuls': WHATEVER THE INPUT: true; the input reads as it did. -/
def polyMulsSpec : ChangeSpec := { name := "polyMuls", fn := fun _ => fun
  | [d1, d2, d3] => { results := [.lit (.bool true)], args := [d1, d2, d3] }
  | _ => none }
def polyMulsRow : OpenClaim := { program := "ytlnlijeamflpiaagreat", sum := "b19ddd6287022ccf45d20f29a89a797b2519692e25730cd7dd3004a5ff1cb7fc", func := "dulcimer/dulcimerlaw44.PolyMuls", spec := "polyMuls", inPlace := ["math/bits.Sub64", "math/bits.Add64"], unfollowed := true, recurses := true, plainKeys := false, apart := false }
def PolyMulsSaid : Prop := polyMulsRow.holds Tryz.pinned (OpenSpec.ofChange polyMulsSpec)

/-- ITS FALSE NEIGHBOUR: 'it returns false'. Refute it at one input. -/
def polyMulsWrong : ChangeSpec := { name := "polyMuls", fn := fun _ => fun
  | [d1, d2, d3] => { results := [.lit (.bool false)], args := [d1, d2, d3] }
  | _ => none }
def PolyMulsWrongFalsely : Prop := polyMulsRow.holds Tryz.pinned (OpenSpec.ofChange polyMulsWrong)

/-- 'dulcimerlaw44.PolySizes': WHATEVER THE INPUT: true; the input reads as it did. -/
def polySizesSpec : ChangeSpec := { name := "polySizes", fn := fun _ => fun
  | [d1, d2] => { results := [.lit (.bool true)], args := [d1, d2] }
  | _ => none }
def polySizesRow : OpenClaim := { program := "ytlnlijeamflpiaagreat", sum := "b19ddd6287022ccf45d20f29a89a797b2519692e25730cd7dd3004a5ff1cb7fc", func := "dulcimer/dulcimerlaw44.PolySizes", spec := "polySizes", inPlace := ["math/bits.Add64", "math/bits.Sub64"], unfollowed := true, recurses := true, plainKeys := false, apart := false }
def PolySizesSaid : Prop := polySizesRow.holds Tryz.pinned (OpenSpec.ofChange polySizesSpec)

/-- ITS FALSE NEIGHBOUR: 'it returns false'. Refute it at one input. -/
def polySizesWrong : ChangeSpec := { name := "polySizes", fn := fun _ => fun
  | [d1, d2] => { results := [.lit (.bool false)], args := [d1, d2] }
  | _ => none }
def PolySizesWrongFalsely : Prop := polySizesRow.holds Tryz.pinned (OpenSpec.ofChange polySizesWrong)

/-- 'dulcimerlaw44.PolyPowers': WHATEVER THE INPUT: true; the input reads as it did. -/
def polyPowersSpec : ChangeSpec := { name := "polyPowers", fn := fun _ => fun
  | [d1, d2, d3] => { results := [.lit (.bool true)], args := [d1, d2, d3] }
  | _ => none }
def polyPowersRow : OpenClaim := { program := "ytlnlijeamflpiaagreat", sum := "b19ddd6287022ccf45d20f29a89a797b2519692e25730cd7dd3004a5ff1cb7fc", func := "dulcimer/dulcimerlaw44.PolyPowers", spec := "polyPowers", inPlace := ["math/bits.Sub64", "math/bits.Add64"], unfollowed := true, recurses := true, plainKeys := false, apart := false }
def PolyPowersSaid : Prop := polyPowersRow.holds Tryz.pinned (OpenSpec.ofChange polyPowersSpec)

/-- ITS FALSE NEIGHBOUR: 'it returns false'. Refute it at one input. -/
def polyPowersWrong : ChangeSpec := { name := "polyPowers", fn := fun _ => fun
  | [d1, d2, d3] => { results := [.lit (.bool false)], args := [d1, d2, d3] }
  | _ => none }
def PolyPowersWrongFalsely : Prop := polyPowersRow.holds Tryz.pinned (OpenSpec.ofChange polyPowersWrong)

/-- 'dulcimerlaw44.PolyBig': WHATEVER THE INPUT: true; the input reads as it did. -/
def polyBigSpec : ChangeSpec := { name := "polyBig", fn := fun _ => fun
  | [d1, d2] => { results := [.lit (.bool true)], args := [d1, d2] }
  | _ => none }
def polyBigRow : OpenClaim := { program := "ytlnlijeamflpiaagreat", sum := "b19ddd6287022ccf45d20f29a89a797b2519692e25730cd7dd3004a5ff1cb7fc", func := "dulcimer/dulcimerlaw44.PolyBig", spec := "polyBig", inPlace := ["math/bits.Sub64", "math/bits.Add64"], unfollowed := true, recurses := true, plainKeys := false, apart := false }
def PolyBigSaid : Prop := polyBigRow.holds Tryz.pinned (OpenSpec.ofChange polyBigSpec)

/-- ITS FALSE NEIGHBOUR: 'it returns false'. Refute it at one input. -/
def polyBigWrong : ChangeSpec := { name := "polyBig", fn := fun _ => fun
  | [d1, d2] => { results := [.lit (.bool false)], args := [d1, d2] }
  | _ => none }
def PolyBigWrongFalsely : Prop := polyBigRow.holds Tryz.pinned (OpenSpec.ofChange polyBigWrong)

/-- 'dulcimerlaw21.ChooseFirst': WHATEVER THE INPUT: true; the input reads as it did. -/
def chooseFirstSpec : ChangeSpec := { name := "chooseFirst", fn := fun _ => fun
  | [d1, d2] => { results := [.lit (.bool true)], args := [d1, d2] }
  | _ => none }
def chooseFirstRow : OpenClaim := { program := "ytlnlijeamflpiaagreat", sum := "b19ddd6287022ccf45d20f29a89a797b2519692e25730cd7dd3004a5ff1cb7fc", func := "dulcimer/dulcimerlaw21.ChooseFirst", spec := "chooseFirst", inPlace := ["math/bits.Sub64", "math/bits.Add64"], unfollowed := true, recurses := true, loops := true, plainKeys := false, apart := false }
def ChooseFirstSaid : Prop := chooseFirstRow.holds Tryz.pinned (OpenSpec.ofChange chooseFirstSpec)

/-- ITS FALSE NEIGHBOUR: 'it returns false'. Refute it at one input. -/
def chooseFirstWrong : ChangeSpec := { name := "chooseFirst", fn := fun _ => fun
  | [d1, d2] => { results := [.lit (.bool false)], args := [d1, d2] }
  | _ => none }
def ChooseFirstWrongFalsely : Prop := chooseFirstRow.holds Tryz.pinned (OpenSpec.ofChange chooseFirstWrong)

/-- 'dulcimerlaw21.ChooseMeasures': WHATEVER THE INPUT: true; the input reads as it did. -/
def chooseMeasuresSpec : ChangeSpec := { name := "chooseMeasures", fn := fun _ => fun
  | [d1, d2, d3] => { results := [.lit (.bool true)], args := [d1, d2, d3] }
  | _ => none }
def chooseMeasuresRow : OpenClaim := { program := "ytlnlijeamflpiaagreat", sum := "b19ddd6287022ccf45d20f29a89a797b2519692e25730cd7dd3004a5ff1cb7fc", func := "dulcimer/dulcimerlaw21.ChooseMeasures", spec := "chooseMeasures", inPlace := ["math/bits.Sub64", "math/bits.Add64"], unfollowed := true, recurses := true, loops := true, plainKeys := false, apart := false }
def ChooseMeasuresSaid : Prop := chooseMeasuresRow.holds Tryz.pinned (OpenSpec.ofChange chooseMeasuresSpec)

/-- ITS FALSE NEIGHBOUR: 'it returns false'. Refute it at one input. -/
def chooseMeasuresWrong : ChangeSpec := { name := "chooseMeasures", fn := fun _ => fun
  | [d1, d2, d3] => { results := [.lit (.bool false)], args := [d1, d2, d3] }
  | _ => none }
def ChooseMeasuresWrongFalsely : Prop := chooseMeasuresRow.holds Tryz.pinned (OpenSpec.ofChange chooseMeasuresWrong)

/-- 'dulcimerlaw21.ChooseBest': WHATEVER THE INPUT: true; the input reads as it did. -/
def chooseBestSpec : ChangeSpec := { name := "chooseBest", fn := fun _ => fun
  | [d1, d2] => { results := [.lit (.bool true)], args := [d1, d2] }
  | _ => none }
def chooseBestRow : OpenClaim := { program := "ytlnlijeamflpiaagreat", sum := "b19ddd6287022ccf45d20f29a89a797b2519692e25730cd7dd3004a5ff1cb7fc", func := "dulcimer/dulcimerlaw21.ChooseBest", spec := "chooseBest", inPlace := ["math/bits.Sub64", "math/bits.Add64"], unfollowed := true, recurses := true, plainKeys := false, apart := false }
def ChooseBestSaid : Prop := chooseBestRow.holds Tryz.pinned (OpenSpec.ofChange chooseBestSpec)

/-- ITS FALSE NEIGHBOUR: 'it returns false'. Refute it at one input. -/
def chooseBestWrong : ChangeSpec := { name := "chooseBest", fn := fun _ => fun
  | [d1, d2] => { results := [.lit (.bool false)], args := [d1, d2] }
  | _ => none }
def ChooseBestWrongFalsely : Prop := chooseBestRow.holds Tryz.pinned (OpenSpec.ofChange chooseBestWrong)

/- THE SECOND FORM. 'bulk': how many values and letters a reading holds, each counted each time it is reached (what is shared counts as often as it is met; a slice's spare places count too). A statement '..UptoSaid' is the law's where the arguments, and the package variables that the reading takes, are together of bulk at most 1048576: NARROWER than '..Said'. Prove '..Said' where nothing that the law and all that it calls make is longer than what came in: it says more and counts as full. Else prove '..UptoSaid'. A law counts once. -/
mutual
def uptoBulk {H : Type} : DataW H → Nat
  | .lit (.string bytes) => bytes.length + 1
  | .lit _ => 1
  | .nil => 1
  | .ptr d => uptoBulk d + 1
  | .slice elems spare => uptoBulkAll elems + uptoBulkAll spare + 1
  | .agg parts => uptoBulkAll parts + 1
  | .iface _ d => uptoBulk d + 1
  | .map entries => uptoBulkEntries entries + 1
  | .held _ => 1
def uptoBulkAll {H : Type} : List (DataW H) → Nat
  | [] => 0
  | d :: r => uptoBulk d + uptoBulkAll r
def uptoBulkEntries {H : Type} : List (Lit × DataW H) → Nat
  | [] => 0
  | x :: r => uptoBulkEntry x + uptoBulkEntries r
def uptoBulkEntry {H : Type} : Lit × DataW H → Nat
  | (.string bytes, d) => bytes.length + uptoBulk d + 1
  | (_, d) => uptoBulk d + 1
 end
def uptoSmall : (H : Type) → List (DataW H) → Bool := fun _ ds => decide (uptoBulkAll ds ≤ 1048576)
def OpenSpec.upto (s : _root_.Go.ChangeSpec) : _root_.Go.OpenSpec := { _root_.Go.OpenSpec.ofChange s with cond := some uptoSmall }

/-- 'dulcimerlaw44.PolyMuls', WHERE WHAT IT READS IS OF BULK AT MOST 1048576: true; the input reads as it did. -/
def polyMulsUptoRow : OpenClaim := { program := "ytlnlijeamflpiaagreat", sum := "b19ddd6287022ccf45d20f29a89a797b2519692e25730cd7dd3004a5ff1cb7fc", func := "dulcimer/dulcimerlaw44.PolyMuls", spec := "polyMuls", inPlace := ["math/bits.Sub64", "math/bits.Add64"], unfollowed := true, recurses := true, plainKeys := false, apart := false, narrowed := true }
def PolyMulsUptoSaid : Prop := polyMulsUptoRow.holds Tryz.pinned (OpenSpec.upto polyMulsSpec)

/-- 'dulcimerlaw44.PolySizes', WHERE WHAT IT READS IS OF BULK AT MOST 1048576: true; the input reads as it did. -/
def polySizesUptoRow : OpenClaim := { program := "ytlnlijeamflpiaagreat", sum := "b19ddd6287022ccf45d20f29a89a797b2519692e25730cd7dd3004a5ff1cb7fc", func := "dulcimer/dulcimerlaw44.PolySizes", spec := "polySizes", inPlace := ["math/bits.Add64", "math/bits.Sub64"], unfollowed := true, recurses := true, plainKeys := false, apart := false, narrowed := true }
def PolySizesUptoSaid : Prop := polySizesUptoRow.holds Tryz.pinned (OpenSpec.upto polySizesSpec)

/-- 'dulcimerlaw44.PolyPowers', WHERE WHAT IT READS IS OF BULK AT MOST 1048576: true; the input reads as it did. -/
def polyPowersUptoRow : OpenClaim := { program := "ytlnlijeamflpiaagreat", sum := "b19ddd6287022ccf45d20f29a89a797b2519692e25730cd7dd3004a5ff1cb7fc", func := "dulcimer/dulcimerlaw44.PolyPowers", spec := "polyPowers", inPlace := ["math/bits.Sub64", "math/bits.Add64"], unfollowed := true, recurses := true, plainKeys := false, apart := false, narrowed := true }
def PolyPowersUptoSaid : Prop := polyPowersUptoRow.holds Tryz.pinned (OpenSpec.upto polyPowersSpec)

/-- 'dulcimerlaw44.PolyBig', WHERE WHAT IT READS IS OF BULK AT MOST 1048576: true; the input reads as it did. -/
def polyBigUptoRow : OpenClaim := { program := "ytlnlijeamflpiaagreat", sum := "b19ddd6287022ccf45d20f29a89a797b2519692e25730cd7dd3004a5ff1cb7fc", func := "dulcimer/dulcimerlaw44.PolyBig", spec := "polyBig", inPlace := ["math/bits.Sub64", "math/bits.Add64"], unfollowed := true, recurses := true, plainKeys := false, apart := false, narrowed := true }
def PolyBigUptoSaid : Prop := polyBigUptoRow.holds Tryz.pinned (OpenSpec.upto polyBigSpec)

/-- 'dulcimerlaw21.ChooseFirst', WHERE WHAT IT READS IS OF BULK AT MOST 1048576: true; the input reads as it did. -/
def chooseFirstUptoRow : OpenClaim := { program := "ytlnlijeamflpiaagreat", sum := "b19ddd6287022ccf45d20f29a89a797b2519692e25730cd7dd3004a5ff1cb7fc", func := "dulcimer/dulcimerlaw21.ChooseFirst", spec := "chooseFirst", inPlace := ["math/bits.Sub64", "math/bits.Add64"], unfollowed := true, recurses := true, loops := true, plainKeys := false, apart := false, narrowed := true }
def ChooseFirstUptoSaid : Prop := chooseFirstUptoRow.holds Tryz.pinned (OpenSpec.upto chooseFirstSpec)

/-- 'dulcimerlaw21.ChooseMeasures', WHERE WHAT IT READS IS OF BULK AT MOST 1048576: true; the input reads as it did. -/
def chooseMeasuresUptoRow : OpenClaim := { program := "ytlnlijeamflpiaagreat", sum := "b19ddd6287022ccf45d20f29a89a797b2519692e25730cd7dd3004a5ff1cb7fc", func := "dulcimer/dulcimerlaw21.ChooseMeasures", spec := "chooseMeasures", inPlace := ["math/bits.Sub64", "math/bits.Add64"], unfollowed := true, recurses := true, loops := true, plainKeys := false, apart := false, narrowed := true }
def ChooseMeasuresUptoSaid : Prop := chooseMeasuresUptoRow.holds Tryz.pinned (OpenSpec.upto chooseMeasuresSpec)

/-- 'dulcimerlaw21.ChooseBest', WHERE WHAT IT READS IS OF BULK AT MOST 1048576: true; the input reads as it did. -/
def chooseBestUptoRow : OpenClaim := { program := "ytlnlijeamflpiaagreat", sum := "b19ddd6287022ccf45d20f29a89a797b2519692e25730cd7dd3004a5ff1cb7fc", func := "dulcimer/dulcimerlaw21.ChooseBest", spec := "chooseBest", inPlace := ["math/bits.Sub64", "math/bits.Add64"], unfollowed := true, recurses := true, plainKeys := false, apart := false, narrowed := true }
def ChooseBestUptoSaid : Prop := chooseBestUptoRow.holds Tryz.pinned (OpenSpec.upto chooseBestSpec)

end Rows
end Go.Proofs.YtlnlijeamflpiaaGreat
