/-
  NARROWER THAN 'FOR EVERY INPUT', by the rows' own cells (each row's printed sentence says how): ValidBelow: loops · ValidTells: loops · NeedBelow: loops · CostTells: loops · NeedTables: loops · CostOrders: loops · CostLeast: loops.
  DERIVED. THE GIVEN ROWS OF THIS SEAT. 11 by the template 'for every input the law returns true; each argument reads behind the call as it read before'; 0 by the template 'total and deterministic' (their statements: YtncikklhchimdaaTotals.lean).
  GIVEN WITH THE SEED: the statements are not yours to turn. If you find one false, say at which input.
  Laid BY PROGRAM, IN A SANDBOX (cutbox-rows.mjs): the forced cells as the released guide's own fill.sh prints them over the translation e77e56c8760a9316… (all of the seat's roots in one cut). By AI agents, Wed Nov 11 2026. No macro, syntax, notation, axiom, sorry.
-/
import Derived.Test.YtncikklhchimdaaChecked
import GoSem.Claim
import GoSem.ClaimJoined
import GoSem.ClaimMapViews
import Derived.JoinedTies
import Derived.KernelRfl
namespace Go.Proofs.Ytncikklhchimdaa
/- THE CELL 'sum', in the pinned program and in every row, IS THE sha256 OF THE DUMP (.gsa) THAT YtncikklhchimdaaProg.lean LOADS. Nothing in Lean hashes anything: it is a label: what it is worth is what the hold of that sum in a sandbox is worth. -/
noncomputable def Try.pinned : Pinned := { name := "ytncikklhchimdaa", sum := "e77e56c8760a9316a7881d7af80ccbf9af4bb611c4349df764966e23266b99a3", checked := Try.checked }
namespace Rows
def none {H : Type} : Left H := { results := [], args := [] }

/-- 'dulcimerlaw14.ValidBelow': WHATEVER THE INPUT: true; the input reads as it did. -/
def validBelowSpec : ChangeSpec := { name := "validBelow", fn := fun _ => fun
  | [d1, d2, d3] => { results := [.lit (.bool true)], args := [d1, d2, d3] }
  | _ => none }
def validBelowRow : OpenClaim := { program := "ytncikklhchimdaa", sum := "e77e56c8760a9316a7881d7af80ccbf9af4bb611c4349df764966e23266b99a3", func := "dulcimer/dulcimerlaw14.ValidBelow", spec := "validBelow", unfollowed := true, recurses := true, loops := true, plainKeys := false, apart := false }
def ValidBelowSaid : Prop := validBelowRow.holds Try.pinned (OpenSpec.ofChange validBelowSpec)

/-- ITS FALSE NEIGHBOUR: 'it returns false'. Refute it at one input. -/
def validBelowWrong : ChangeSpec := { name := "validBelow", fn := fun _ => fun
  | [d1, d2, d3] => { results := [.lit (.bool false)], args := [d1, d2, d3] }
  | _ => none }
def ValidBelowWrongFalsely : Prop := validBelowRow.holds Try.pinned (OpenSpec.ofChange validBelowWrong)

/-- 'dulcimerlaw14.ValidTells': WHATEVER THE INPUT: true; the input reads as it did. -/
def validTellsSpec : ChangeSpec := { name := "validTells", fn := fun _ => fun
  | [d1, d2] => { results := [.lit (.bool true)], args := [d1, d2] }
  | _ => none }
def validTellsRow : OpenClaim := { program := "ytncikklhchimdaa", sum := "e77e56c8760a9316a7881d7af80ccbf9af4bb611c4349df764966e23266b99a3", func := "dulcimer/dulcimerlaw14.ValidTells", spec := "validTells", unfollowed := true, recurses := true, loops := true, plainKeys := false, apart := false }
def ValidTellsSaid : Prop := validTellsRow.holds Try.pinned (OpenSpec.ofChange validTellsSpec)

/-- ITS FALSE NEIGHBOUR: 'it returns false'. Refute it at one input. -/
def validTellsWrong : ChangeSpec := { name := "validTells", fn := fun _ => fun
  | [d1, d2] => { results := [.lit (.bool false)], args := [d1, d2] }
  | _ => none }
def ValidTellsWrongFalsely : Prop := validTellsRow.holds Try.pinned (OpenSpec.ofChange validTellsWrong)

/-- 'dulcimerlaw19.CandTells': WHATEVER THE INPUT: true; the input reads as it did. -/
def candTellsSpec : ChangeSpec := { name := "candTells", fn := fun _ => fun
  | [d] => { results := [.lit (.bool true)], args := [d] }
  | _ => none }
def candTellsRow : OpenClaim := { program := "ytncikklhchimdaa", sum := "e77e56c8760a9316a7881d7af80ccbf9af4bb611c4349df764966e23266b99a3", func := "dulcimer/dulcimerlaw19.CandTells", spec := "candTells", recurses := true, plainKeys := false, apart := false }
def CandTellsSaid : Prop := candTellsRow.holds Try.pinned (OpenSpec.ofChange candTellsSpec)

/-- ITS FALSE NEIGHBOUR: 'it returns false'. Refute it at one input. -/
def candTellsWrong : ChangeSpec := { name := "candTells", fn := fun _ => fun
  | [d] => { results := [.lit (.bool false)], args := [d] }
  | _ => none }
def CandTellsWrongFalsely : Prop := candTellsRow.holds Try.pinned (OpenSpec.ofChange candTellsWrong)

/-- 'dulcimerlaw19.CandRight': WHATEVER THE INPUT: true; the input reads as it did. -/
def candRightSpec : ChangeSpec := { name := "candRight", fn := fun _ => fun
  | [d] => { results := [.lit (.bool true)], args := [d] }
  | _ => none }
def candRightRow : OpenClaim := { program := "ytncikklhchimdaa", sum := "e77e56c8760a9316a7881d7af80ccbf9af4bb611c4349df764966e23266b99a3", func := "dulcimer/dulcimerlaw19.CandRight", spec := "candRight", recurses := true, plainKeys := false, apart := false }
def CandRightSaid : Prop := candRightRow.holds Try.pinned (OpenSpec.ofChange candRightSpec)

/-- ITS FALSE NEIGHBOUR: 'it returns false'. Refute it at one input. -/
def candRightWrong : ChangeSpec := { name := "candRight", fn := fun _ => fun
  | [d] => { results := [.lit (.bool false)], args := [d] }
  | _ => none }
def CandRightWrongFalsely : Prop := candRightRow.holds Try.pinned (OpenSpec.ofChange candRightWrong)

/-- 'dulcimerlaw15.NeedBelow': WHATEVER THE INPUT: true; the input reads as it did. -/
def needBelowSpec : ChangeSpec := { name := "needBelow", fn := fun _ => fun
  | [d1, d2] => { results := [.lit (.bool true)], args := [d1, d2] }
  | _ => none }
def needBelowRow : OpenClaim := { program := "ytncikklhchimdaa", sum := "e77e56c8760a9316a7881d7af80ccbf9af4bb611c4349df764966e23266b99a3", func := "dulcimer/dulcimerlaw15.NeedBelow", spec := "needBelow", unfollowed := true, recurses := true, loops := true, plainKeys := false, apart := false }
def NeedBelowSaid : Prop := needBelowRow.holds Try.pinned (OpenSpec.ofChange needBelowSpec)

/-- ITS FALSE NEIGHBOUR: 'it returns false'. Refute it at one input. -/
def needBelowWrong : ChangeSpec := { name := "needBelow", fn := fun _ => fun
  | [d1, d2] => { results := [.lit (.bool false)], args := [d1, d2] }
  | _ => none }
def NeedBelowWrongFalsely : Prop := needBelowRow.holds Try.pinned (OpenSpec.ofChange needBelowWrong)

/-- 'dulcimerlaw18.CostTells': WHATEVER THE INPUT: true; the input reads as it did. -/
def costTellsSpec : ChangeSpec := { name := "costTells", fn := fun _ => fun
  | [d] => { results := [.lit (.bool true)], args := [d] }
  | _ => none }
def costTellsRow : OpenClaim := { program := "ytncikklhchimdaa", sum := "e77e56c8760a9316a7881d7af80ccbf9af4bb611c4349df764966e23266b99a3", func := "dulcimer/dulcimerlaw18.CostTells", spec := "costTells", unfollowed := true, recurses := true, loops := true, plainKeys := false, apart := false }
def CostTellsSaid : Prop := costTellsRow.holds Try.pinned (OpenSpec.ofChange costTellsSpec)

/-- ITS FALSE NEIGHBOUR: 'it returns false'. Refute it at one input. -/
def costTellsWrong : ChangeSpec := { name := "costTells", fn := fun _ => fun
  | [d] => { results := [.lit (.bool false)], args := [d] }
  | _ => none }
def CostTellsWrongFalsely : Prop := costTellsRow.holds Try.pinned (OpenSpec.ofChange costTellsWrong)

/-- 'dulcimerlaw15.NeedTables': WHATEVER THE INPUT: true; the input reads as it did. -/
def needTablesSpec : ChangeSpec := { name := "needTables", fn := fun _ => fun
  | [d1, d2, d3] => { results := [.lit (.bool true)], args := [d1, d2, d3] }
  | _ => none }
def needTablesRow : OpenClaim := { program := "ytncikklhchimdaa", sum := "e77e56c8760a9316a7881d7af80ccbf9af4bb611c4349df764966e23266b99a3", func := "dulcimer/dulcimerlaw15.NeedTables", spec := "needTables", unfollowed := true, recurses := true, loops := true, plainKeys := false, apart := false }
def NeedTablesSaid : Prop := needTablesRow.holds Try.pinned (OpenSpec.ofChange needTablesSpec)

/-- ITS FALSE NEIGHBOUR: 'it returns false'. Refute it at one input. -/
def needTablesWrong : ChangeSpec := { name := "needTables", fn := fun _ => fun
  | [d1, d2, d3] => { results := [.lit (.bool false)], args := [d1, d2, d3] }
  | _ => none }
def NeedTablesWrongFalsely : Prop := needTablesRow.holds Try.pinned (OpenSpec.ofChange needTablesWrong)

/-- 'dulcimerlaw15.NeedNames': WHATEVER THE INPUT: true; the input reads as it did. -/
def needNamesSpec : ChangeSpec := { name := "needNames", fn := fun _ => fun
  | [d1, d2] => { results := [.lit (.bool true)], args := [d1, d2] }
  | _ => none }
def needNamesRow : OpenClaim := { program := "ytncikklhchimdaa", sum := "e77e56c8760a9316a7881d7af80ccbf9af4bb611c4349df764966e23266b99a3", func := "dulcimer/dulcimerlaw15.NeedNames", spec := "needNames", unfollowed := true, recurses := true, plainKeys := false, apart := false }
def NeedNamesSaid : Prop := needNamesRow.holds Try.pinned (OpenSpec.ofChange needNamesSpec)

/-- ITS FALSE NEIGHBOUR: 'it returns false'. Refute it at one input. -/
def needNamesWrong : ChangeSpec := { name := "needNames", fn := fun _ => fun
  | [d1, d2] => { results := [.lit (.bool false)], args := [d1, d2] }
  | _ => none }
def NeedNamesWrongFalsely : Prop := needNamesRow.holds Try.pinned (OpenSpec.ofChange needNamesWrong)

/-- 'dulcimerlaw18.CostOrders': WHATEVER THE INPUT: true; the input reads as it did. -/
def costOrdersSpec : ChangeSpec := { name := "costOrders", fn := fun _ => fun
  | [d1, d2] => { results := [.lit (.bool true)], args := [d1, d2] }
  | _ => none }
def costOrdersRow : OpenClaim := { program := "ytncikklhchimdaa", sum := "e77e56c8760a9316a7881d7af80ccbf9af4bb611c4349df764966e23266b99a3", func := "dulcimer/dulcimerlaw18.CostOrders", spec := "costOrders", unfollowed := true, recurses := true, loops := true, plainKeys := false, apart := false }
def CostOrdersSaid : Prop := costOrdersRow.holds Try.pinned (OpenSpec.ofChange costOrdersSpec)

/-- ITS FALSE NEIGHBOUR: 'it returns false'. Refute it at one input. -/
def costOrdersWrong : ChangeSpec := { name := "costOrders", fn := fun _ => fun
  | [d1, d2] => { results := [.lit (.bool false)], args := [d1, d2] }
  | _ => none }
def CostOrdersWrongFalsely : Prop := costOrdersRow.holds Try.pinned (OpenSpec.ofChange costOrdersWrong)

/-- 'dulcimerlaw18.CostLeast': WHATEVER THE INPUT: true; the input reads as it did. -/
def costLeastSpec : ChangeSpec := { name := "costLeast", fn := fun _ => fun
  | [d] => { results := [.lit (.bool true)], args := [d] }
  | _ => none }
def costLeastRow : OpenClaim := { program := "ytncikklhchimdaa", sum := "e77e56c8760a9316a7881d7af80ccbf9af4bb611c4349df764966e23266b99a3", func := "dulcimer/dulcimerlaw18.CostLeast", spec := "costLeast", unfollowed := true, recurses := true, loops := true, plainKeys := false, apart := false }
def CostLeastSaid : Prop := costLeastRow.holds Try.pinned (OpenSpec.ofChange costLeastSpec)

/-- ITS FALSE NEIGHBOUR: 'it returns false'. Refute it at one input. -/
def costLeastWrong : ChangeSpec := { name := "costLeast", fn := fun _ => fun
  | [d] => { results := [.lit (.bool false)], args := [d] }
  | _ => none }
def CostLeastWrongFalsely : Prop := costLeastRow.holds Try.pinned (OpenSpec.ofChange costLeastWrong)

/-- 'dulcimerlaw19.CandBest': WHATEVER THE INPUT: true; the input reads as it did. -/
def candBestSpec : ChangeSpec := { name := "candBest", fn := fun _ => fun
  | [d] => { results := [.lit (.bool true)], args := [d] }
  | _ => none }
def candBestRow : OpenClaim := { program := "ytncikklhchimdaa", sum := "e77e56c8760a9316a7881d7af80ccbf9af4bb611c4349df764966e23266b99a3", func := "dulcimer/dulcimerlaw19.CandBest", spec := "candBest", unfollowed := true, recurses := true, plainKeys := false, apart := false }
def CandBestSaid : Prop := candBestRow.holds Try.pinned (OpenSpec.ofChange candBestSpec)

/-- ITS FALSE NEIGHBOUR: 'it returns false'. Refute it at one input. -/
def candBestWrong : ChangeSpec := { name := "candBest", fn := fun _ => fun
  | [d] => { results := [.lit (.bool false)], args := [d] }
  | _ => none }
def CandBestWrongFalsely : Prop := candBestRow.holds Try.pinned (OpenSpec.ofChange candBestWrong)

/- THE SECOND FORM. 'bulk': how many values and letters a reading holds, each counted each time it is reached (what is shared counts as often as it is met; a slice's spare places count too). A statement '..UptoSaid' is the law's where the arguments, and the package variables that the reading takes, are together of bulk at most 1048576: NARROWER than '..Said'. Prove '..Said' where nothing that the law and all that it calls make is longer than what came in: it says more and counts as full. Else prove '..UptoSaid'. A law counts once. -/
mutual
def uptoBulk {H : Type} : DataW H → Nat
  | .lit (.string bytes) => bytes.length + 1
  | .lit _ => 1
  | .nil => 1
  | .ptr d => uptoBulk d + 1
  | .slice elems spare => uptoBulkAll elems + uptoBulkAll spare + 1
  | .agg parts => uptoBulkAll parts + 1
  | .iface _ d => uptoBulk d + 1
  | .map entries => uptoBulkEntries entries + 1
  | .held _ => 1
def uptoBulkAll {H : Type} : List (DataW H) → Nat
  | [] => 0
  | d :: r => uptoBulk d + uptoBulkAll r
def uptoBulkEntries {H : Type} : List (Lit × DataW H) → Nat
  | [] => 0
  | x :: r => uptoBulkEntry x + uptoBulkEntries r
def uptoBulkEntry {H : Type} : Lit × DataW H → Nat
  | (.string bytes, d) => bytes.length + uptoBulk d + 1
  | (_, d) => uptoBulk d + 1
 end
def uptoSmall : (H : Type) → List (DataW H) → Bool := fun _ ds => decide (uptoBulkAll ds ≤ 1048576)
def OpenSpec.upto (s : _root_.Go.ChangeSpec) : _root_.Go.OpenSpec := { _root_.Go.OpenSpec.ofChange s with cond := some uptoSmall }

/-- 'dulcimerlaw14.ValidBelow', WHERE WHAT IT READS IS OF BULK AT MOST 1048576: true; the input reads as it did. -/
def validBelowUptoRow : OpenClaim := { program := "ytncikklhchimdaa", sum := "e77e56c8760a9316a7881d7af80ccbf9af4bb611c4349df764966e23266b99a3", func := "dulcimer/dulcimerlaw14.ValidBelow", spec := "validBelow", unfollowed := true, recurses := true, loops := true, plainKeys := false, apart := false, narrowed := true }
def ValidBelowUptoSaid : Prop := validBelowUptoRow.holds Try.pinned (OpenSpec.upto validBelowSpec)

/-- 'dulcimerlaw14.ValidTells', WHERE WHAT IT READS IS OF BULK AT MOST 1048576: true; the input reads as it did. -/
def validTellsUptoRow : OpenClaim := { program := "ytncikklhchimdaa", sum := "e77e56c8760a9316a7881d7af80ccbf9af4bb611c4349df764966e23266b99a3", func := "dulcimer/dulcimerlaw14.ValidTells", spec := "validTells", unfollowed := true, recurses := true, loops := true, plainKeys := false, apart := false, narrowed := true }
def ValidTellsUptoSaid : Prop := validTellsUptoRow.holds Try.pinned (OpenSpec.upto validTellsSpec)

/-- 'dulcimerlaw19.CandTells', WHERE WHAT IT READS IS OF BULK AT MOST 1048576: true; the input reads as it did. -/
def candTellsUptoRow : OpenClaim := { program := "ytncikklhchimdaa", sum := "e77e56c8760a9316a7881d7af80ccbf9af4bb611c4349df764966e23266b99a3", func := "dulcimer/dulcimerlaw19.CandTells", spec := "candTells", recurses := true, plainKeys := false, apart := false, narrowed := true }
def CandTellsUptoSaid : Prop := candTellsUptoRow.holds Try.pinned (OpenSpec.upto candTellsSpec)

/-- 'dulcimerlaw19.CandRight', WHERE WHAT IT READS IS OF BULK AT MOST 1048576: true; the input reads as it did. -/
def candRightUptoRow : OpenClaim := { program := "ytncikklhchimdaa", sum := "e77e56c8760a9316a7881d7af80ccbf9af4bb611c4349df764966e23266b99a3", func := "dulcimer/dulcimerlaw19.CandRight", spec := "candRight", recurses := true, plainKeys := false, apart := false, narrowed := true }
def CandRightUptoSaid : Prop := candRightUptoRow.holds Try.pinned (OpenSpec.upto candRightSpec)

/-- 'dulcimerlaw15.NeedBelow', WHERE WHAT IT READS IS OF BULK AT MOST 1048576: true; the input reads as it did. -/
def needBelowUptoRow : OpenClaim := { program := "ytncikklhchimdaa", sum := "e77e56c8760a9316a7881d7af80ccbf9af4bb611c4349df764966e23266b99a3", func := "dulcimer/dulcimerlaw15.NeedBelow", spec := "needBelow", unfollowed := true, recurses := true, loops := true, plainKeys := false, apart := false, narrowed := true }
def NeedBelowUptoSaid : Prop := needBelowUptoRow.holds Try.pinned (OpenSpec.upto needBelowSpec)

/-- 'dulcimerlaw18.CostTells', WHERE WHAT IT READS IS OF BULK AT MOST 1048576: true; the input reads as it did. -/
def costTellsUptoRow : OpenClaim := { program := "ytncikklhchimdaa", sum := "e77e56c8760a9316a7881d7af80ccbf9af4bb611c4349df764966e23266b99a3", func := "dulcimer/dulcimerlaw18.CostTells", spec := "costTells", unfollowed := true, recurses := true, loops := true, plainKeys := false, apart := false, narrowed := true }
def CostTellsUptoSaid : Prop := costTellsUptoRow.holds Try.pinned (OpenSpec.upto costTellsSpec)

/-- 'dulcimerlaw15.NeedTables', WHERE WHAT IT READS IS OF BULK AT MOST 1048576: true; the input reads as it did. -/
def needTablesUptoRow : OpenClaim := { program := "ytncikklhchimdaa", sum := "e77e56c8760a9316a7881d7af80ccbf9af4bb611c4349df764966e23266b99a3", func := "dulcimer/dulcimerlaw15.NeedTables", spec := "needTables", unfollowed := true, recurses := true, loops := true, plainKeys := false, apart := false, narrowed := true }
def NeedTablesUptoSaid : Prop := needTablesUptoRow.holds Try.pinned (OpenSpec.upto needTablesSpec)

/-- 'dulcimerlaw15.NeedNames', WHERE WHAT IT READS IS OF BULK AT MOST 1048576: true; the input reads as it did. -/
def needNamesUptoRow : OpenClaim := { program := "ytncikklhchimdaa", sum := "e77e56c8760a9316a7881d7af80ccbf9af4bb611c4349df764966e23266b99a3", func := "dulcimer/dulcimerlaw15.NeedNames", spec := "needNames", unfollowed := true, recurses := true, plainKeys := false, apart := false, narrowed := true }
def NeedNamesUptoSaid : Prop := needNamesUptoRow.holds Try.pinned (OpenSpec.upto needNamesSpec)

/-- 'dulcimerlaw18.CostOrders', WHERE WHAT IT READS IS OF BULK AT MOST 1048576: true; the input reads as it did. -/
def costOrdersUptoRow : OpenClaim := { program := "ytncikklhchimdaa", sum := "e77e56c8760a9316a7881d7af80ccbf9af4bb611c4349df764966e23266b99a3", func := "dulcimer/dulcimerlaw18.CostOrders", spec := "costOrders", unfollowed := true, recurses := true, loops := true, plainKeys := false, apart := false, narrowed := true }
def CostOrdersUptoSaid : Prop := costOrdersUptoRow.holds Try.pinned (OpenSpec.upto costOrdersSpec)

/-- 'dulcimerlaw18.CostLeast', WHERE WHAT IT READS IS OF BULK AT MOST 1048576: true; the input reads as it did. -/
def costLeastUptoRow : OpenClaim := { program := "ytncikklhchimdaa", sum := "e77e56c8760a9316a7881d7af80ccbf9af4bb611c4349df764966e23266b99a3", func := "dulcimer/dulcimerlaw18.CostLeast", spec := "costLeast", unfollowed := true, recurses := true, loops := true, plainKeys := false, apart := false, narrowed := true }
def CostLeastUptoSaid : Prop := costLeastUptoRow.holds Try.pinned (OpenSpec.upto costLeastSpec)

/-- 'dulcimerlaw19.CandBest', WHERE WHAT IT READS IS OF BULK AT MOST 1048576: true; the input reads as it did. -/
def candBestUptoRow : OpenClaim := { program := "ytncikklhchimdaa", sum := "e77e56c8760a9316a7881d7af80ccbf9af4bb611c4349df764966e23266b99a3", func := "dulcimer/dulcimerlaw19.CandBest", spec := "candBest", unfollowed := true, recurses := true, plainKeys := false, apart := false, narrowed := true }
def CandBestUptoSaid : Prop := candBestUptoRow.holds Try.pinned (OpenSpec.upto candBestSpec)

end Rows
end Go.Proofs.Ytncikklhchimdaa
