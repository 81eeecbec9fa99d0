/-
  NARROWER THAN 'FOR EVERY INPUT', by the rows' own cells (each row's printed sentence says how): ExecDoes: loops · ExecSame: loops.
  DERIVED. THE GIVEN ROWS OF THIS SEAT. 2 by the template 'for every input the law returns true; each argument reads behind the call as it read before'; 0 by the template 'total and deterministic' (their statements: YtcckfeikaolfgaaGreatTotals.lean).
  GIVEN WITH THE SEED: the statements are not yours to turn. If you find one false, say at which input.
  Laid BY PROGRAM, IN A SANDBOX (cutbox-rows.mjs): the forced cells as the released guide's own fill.sh prints them over the translation cafaebdebe36a59d… (all of the seat's roots in one cut). By AI agents, Wed Nov 11 2026. No macro, syntax, notation, axiom, sorry.
-/
import Derived.Test.YtcckfeikaolfgaaGreatChecked
import GoSem.Claim
import GoSem.ClaimJoined
import GoSem.ClaimMapViews
import Derived.JoinedTies
import Derived.KernelRfl
namespace Go.Proofs.YtcckfeikaolfgaaGreat
/- THE CELL 'sum', in the pinned program and in every row, IS THE sha256 OF THE DUMP (.gsa) THAT YtcckfeikaolfgaaGreatProg.lean LOADS. Nothing in Lean hashes anything: it is a label: what it is worth is what the hold of that sum in a sandbox is worth. -/
noncomputable def Tryz.pinned : Pinned := { name := "ytcckfeikaolfgaagreat", sum := "cafaebdebe36a59d0aa593e4284b1b30979f29578100e188be7e054e23d8ead0", checked := Tryz.checked }
namespace Rows
def none {H : Type} : Left H := { results := [], args := [] }

/-- 'dulcimerlaw17.ExecDoes': WHATEVER THE INPUT: true; the input reads as it did. -/
def execDoesSpec : ChangeSpec := { name := "execDoes", fn := fun _ => fun
  | [d1, d2, d3] => { results := [.lit (.bool true)], args := [d1, d2, d3] }
  | _ => none }
def execDoesRow : OpenClaim := { program := "ytcckfeikaolfgaagreat", sum := "cafaebdebe36a59d0aa593e4284b1b30979f29578100e188be7e054e23d8ead0", func := "dulcimer/dulcimerlaw17.ExecDoes", spec := "execDoes", inPlace := ["math/bits.Sub64", "math/bits.Add64"], unfollowed := true, recurses := true, loops := true, plainKeys := false, apart := false }
def ExecDoesSaid : Prop := execDoesRow.holds Tryz.pinned (OpenSpec.ofChange execDoesSpec)

/-- ITS FALSE NEIGHBOUR: 'it returns false'. Refute it at one input. -/
def execDoesWrong : ChangeSpec := { name := "execDoes", fn := fun _ => fun
  | [d1, d2, d3] => { results := [.lit (.bool false)], args := [d1, d2, d3] }
  | _ => none }
def ExecDoesWrongFalsely : Prop := execDoesRow.holds Tryz.pinned (OpenSpec.ofChange execDoesWrong)

/-- 'dulcimerlaw17.ExecSame': WHATEVER THE INPUT: true; the input reads as it did. -/
def execSameSpec : ChangeSpec := { name := "execSame", fn := fun _ => fun
  | [d1, d2, d3] => { results := [.lit (.bool true)], args := [d1, d2, d3] }
  | _ => none }
def execSameRow : OpenClaim := { program := "ytcckfeikaolfgaagreat", sum := "cafaebdebe36a59d0aa593e4284b1b30979f29578100e188be7e054e23d8ead0", func := "dulcimer/dulcimerlaw17.ExecSame", spec := "execSame", inPlace := ["math/bits.Sub64", "math/bits.Add64"], unfollowed := true, recurses := true, loops := true, plainKeys := false, apart := false }
def ExecSameSaid : Prop := execSameRow.holds Tryz.pinned (OpenSpec.ofChange execSameSpec)

/-- ITS FALSE NEIGHBOUR: 'it returns false'. Refute it at one input. -/
def execSameWrong : ChangeSpec := { name := "execSame", fn := fun _ => fun
  | [d1, d2, d3] => { results := [.lit (.bool false)], args := [d1, d2, d3] }
  | _ => none }
def ExecSameWrongFalsely : Prop := execSameRow.holds Tryz.pinned (OpenSpec.ofChange execSameWrong)

/- THE SECOND FORM. 'bulk': how many values and letters a reading holds, each counted each time it is reached (what is shared counts as often as it is met; a slice's spare places count too). A statement '..UptoSaid' is the law's where the arguments, and the package variables that the reading takes, are together of bulk at most 1048576: NARROWER than '..Said'. Prove '..Said' where nothing that the law and all that it calls make is longer than what came in: it says more and counts as full. Else prove '..UptoSaid'. A law counts once. -/
mutual
def uptoBulk {H : Type} : DataW H → Nat
  | .lit (.string bytes) => bytes.length + 1
  | .lit _ => 1
  | .nil => 1
  | .ptr d => uptoBulk d + 1
  | .slice elems spare => uptoBulkAll elems + uptoBulkAll spare + 1
  | .agg parts => uptoBulkAll parts + 1
  | .iface _ d => uptoBulk d + 1
  | .map entries => uptoBulkEntries entries + 1
  | .held _ => 1
def uptoBulkAll {H : Type} : List (DataW H) → Nat
  | [] => 0
  | d :: r => uptoBulk d + uptoBulkAll r
def uptoBulkEntries {H : Type} : List (Lit × DataW H) → Nat
  | [] => 0
  | x :: r => uptoBulkEntry x + uptoBulkEntries r
def uptoBulkEntry {H : Type} : Lit × DataW H → Nat
  | (.string bytes, d) => bytes.length + uptoBulk d + 1
  | (_, d) => uptoBulk d + 1
 end
def uptoSmall : (H : Type) → List (DataW H) → Bool := fun _ ds => decide (uptoBulkAll ds ≤ 1048576)
def OpenSpec.upto (s : _root_.Go.ChangeSpec) : _root_.Go.OpenSpec := { _root_.Go.OpenSpec.ofChange s with cond := some uptoSmall }

/-- 'dulcimerlaw17.ExecDoes', WHERE WHAT IT READS IS OF BULK AT MOST 1048576: true; the input reads as it did. -/
def execDoesUptoRow : OpenClaim := { program := "ytcckfeikaolfgaagreat", sum := "cafaebdebe36a59d0aa593e4284b1b30979f29578100e188be7e054e23d8ead0", func := "dulcimer/dulcimerlaw17.ExecDoes", spec := "execDoes", inPlace := ["math/bits.Sub64", "math/bits.Add64"], unfollowed := true, recurses := true, loops := true, plainKeys := false, apart := false, narrowed := true }
def ExecDoesUptoSaid : Prop := execDoesUptoRow.holds Tryz.pinned (OpenSpec.upto execDoesSpec)

/-- 'dulcimerlaw17.ExecSame', WHERE WHAT IT READS IS OF BULK AT MOST 1048576: true; the input reads as it did. -/
def execSameUptoRow : OpenClaim := { program := "ytcckfeikaolfgaagreat", sum := "cafaebdebe36a59d0aa593e4284b1b30979f29578100e188be7e054e23d8ead0", func := "dulcimer/dulcimerlaw17.ExecSame", spec := "execSame", inPlace := ["math/bits.Sub64", "math/bits.Add64"], unfollowed := true, recurses := true, loops := true, plainKeys := false, apart := false, narrowed := true }
def ExecSameUptoSaid : Prop := execSameUptoRow.holds Tryz.pinned (OpenSpec.upto execSameSpec)

end Rows
end Go.Proofs.YtcckfeikaolfgaaGreat
