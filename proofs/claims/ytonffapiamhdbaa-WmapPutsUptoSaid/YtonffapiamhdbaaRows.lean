/-
  NARROWER THAN 'FOR EVERY INPUT', by the rows' own cells (each row's printed sentence says how): WmapPuts: loops · WmapMerges: loops · WmapNils: loops.
  DERIVED. THE GIVEN ROWS OF THIS SEAT. 3 by the template 'for every input the law returns true; each argument reads behind the call as it read before'; 0 by the template 'total and deterministic' (their statements: YtonffapiamhdbaaTotals.lean).
  GIVEN WITH THE SEED: the statements are not yours to turn. If you find one false, say at which input.
  Laid BY PROGRAM, IN A SANDBOX (cutbox-rows.mjs): the forced cells as the released guide's own fill.sh prints them over the translation dd3c99bcb0e80885… (all of the seat's roots in one cut). By AI agents, Wed Nov 11 2026. No macro, syntax, notation, axiom, sorry.
-/
import Derived.Test.YtonffapiamhdbaaChecked
import GoSem.Claim
import GoSem.ClaimJoined
import GoSem.ClaimMapViews
import Derived.JoinedTies
import Derived.KernelRfl
namespace Go.Proofs.Ytonffapiamhdbaa
/- THE CELL 'sum', in the pinned program and in every row, IS THE sha256 OF THE DUMP (.gsa) THAT YtonffapiamhdbaaProg.lean LOADS. Nothing in Lean hashes anything: it is a label: what it is worth is what the hold of that sum in a sandbox is worth. -/
noncomputable def Try.pinned : Pinned := { name := "ytonffapiamhdbaa", sum := "dd3c99bcb0e8088557513dcf91720f150a6c1a2ff265cc4a20e2e090faab4bb6", checked := Try.checked }
namespace Rows
def none {H : Type} : Left H := { results := [], args := [] }

/-- 'dulcimerlaw26.WmapPuts': WHATEVER THE INPUT: true; the input reads as it did. -/
def wmapPutsSpec : ChangeSpec := { name := "wmapPuts", fn := fun _ => fun
  | [d1, d2] => { results := [.lit (.bool true)], args := [d1, d2] }
  | _ => none }
def wmapPutsRow : OpenClaim := { program := "ytonffapiamhdbaa", sum := "dd3c99bcb0e8088557513dcf91720f150a6c1a2ff265cc4a20e2e090faab4bb6", func := "dulcimer/dulcimerlaw26.WmapPuts", spec := "wmapPuts", unfollowed := true, recurses := true, loops := true, plainKeys := false, apart := false }
def WmapPutsSaid : Prop := wmapPutsRow.holds Try.pinned (OpenSpec.ofChange wmapPutsSpec)

/-- ITS FALSE NEIGHBOUR: 'it returns false'. Refute it at one input. -/
def wmapPutsWrong : ChangeSpec := { name := "wmapPuts", fn := fun _ => fun
  | [d1, d2] => { results := [.lit (.bool false)], args := [d1, d2] }
  | _ => none }
def WmapPutsWrongFalsely : Prop := wmapPutsRow.holds Try.pinned (OpenSpec.ofChange wmapPutsWrong)

/-- 'dulcimerlaw26.WmapMerges': WHATEVER THE INPUT: true; the input reads as it did. -/
def wmapMergesSpec : ChangeSpec := { name := "wmapMerges", fn := fun _ => fun
  | [d1, d2] => { results := [.lit (.bool true)], args := [d1, d2] }
  | _ => none }
def wmapMergesRow : OpenClaim := { program := "ytonffapiamhdbaa", sum := "dd3c99bcb0e8088557513dcf91720f150a6c1a2ff265cc4a20e2e090faab4bb6", func := "dulcimer/dulcimerlaw26.WmapMerges", spec := "wmapMerges", unfollowed := true, recurses := true, loops := true, plainKeys := false, apart := false }
def WmapMergesSaid : Prop := wmapMergesRow.holds Try.pinned (OpenSpec.ofChange wmapMergesSpec)

/-- ITS FALSE NEIGHBOUR: 'it returns false'. Refute it at one input. -/
def wmapMergesWrong : ChangeSpec := { name := "wmapMerges", fn := fun _ => fun
  | [d1, d2] => { results := [.lit (.bool false)], args := [d1, d2] }
  | _ => none }
def WmapMergesWrongFalsely : Prop := wmapMergesRow.holds Try.pinned (OpenSpec.ofChange wmapMergesWrong)

/-- 'dulcimerlaw26.WmapNils': WHATEVER THE INPUT: true; the input reads as it did. -/
def wmapNilsSpec : ChangeSpec := { name := "wmapNils", fn := fun _ => fun
  | [d] => { results := [.lit (.bool true)], args := [d] }
  | _ => none }
def wmapNilsRow : OpenClaim := { program := "ytonffapiamhdbaa", sum := "dd3c99bcb0e8088557513dcf91720f150a6c1a2ff265cc4a20e2e090faab4bb6", func := "dulcimer/dulcimerlaw26.WmapNils", spec := "wmapNils", unfollowed := true, recurses := true, loops := true, plainKeys := false, apart := false }
def WmapNilsSaid : Prop := wmapNilsRow.holds Try.pinned (OpenSpec.ofChange wmapNilsSpec)

/-- ITS FALSE NEIGHBOUR: 'it returns false'. Refute it at one input. -/
def wmapNilsWrong : ChangeSpec := { name := "wmapNils", fn := fun _ => fun
  | [d] => { results := [.lit (.bool false)], args := [d] }
  | _ => none }
def WmapNilsWrongFalsely : Prop := wmapNilsRow.holds Try.pinned (OpenSpec.ofChange wmapNilsWrong)

/- THE SECOND FORM. 'bulk': how many values and letters a reading holds, each counted each time it is reached (what is shared counts as often as it is met; a slice's spare places count too). A statement '..UptoSaid' is the law's where the arguments, and the package variables that the reading takes, are together of bulk at most 1048576: NARROWER than '..Said'. Prove '..Said' where nothing that the law and all that it calls make is longer than what came in: it says more and counts as full. Else prove '..UptoSaid'. A law counts once. -/
mutual
def uptoBulk {H : Type} : DataW H → Nat
  | .lit (.string bytes) => bytes.length + 1
  | .lit _ => 1
  | .nil => 1
  | .ptr d => uptoBulk d + 1
  | .slice elems spare => uptoBulkAll elems + uptoBulkAll spare + 1
  | .agg parts => uptoBulkAll parts + 1
  | .iface _ d => uptoBulk d + 1
  | .map entries => uptoBulkEntries entries + 1
  | .held _ => 1
def uptoBulkAll {H : Type} : List (DataW H) → Nat
  | [] => 0
  | d :: r => uptoBulk d + uptoBulkAll r
def uptoBulkEntries {H : Type} : List (Lit × DataW H) → Nat
  | [] => 0
  | x :: r => uptoBulkEntry x + uptoBulkEntries r
def uptoBulkEntry {H : Type} : Lit × DataW H → Nat
  | (.string bytes, d) => bytes.length + uptoBulk d + 1
  | (_, d) => uptoBulk d + 1
 end
def uptoSmall : (H : Type) → List (DataW H) → Bool := fun _ ds => decide (uptoBulkAll ds ≤ 1048576)
def OpenSpec.upto (s : _root_.Go.ChangeSpec) : _root_.Go.OpenSpec := { _root_.Go.OpenSpec.ofChange s with cond := some uptoSmall }

/-- 'dulcimerlaw26.WmapPuts', WHERE WHAT IT READS IS OF BULK AT MOST 1048576: true; the input reads as it did. -/
def wmapPutsUptoRow : OpenClaim := { program := "ytonffapiamhdbaa", sum := "dd3c99bcb0e8088557513dcf91720f150a6c1a2ff265cc4a20e2e090faab4bb6", func := "dulcimer/dulcimerlaw26.WmapPuts", spec := "wmapPuts", unfollowed := true, recurses := true, loops := true, plainKeys := false, apart := false, narrowed := true }
def WmapPutsUptoSaid : Prop := wmapPutsUptoRow.holds Try.pinned (OpenSpec.upto wmapPutsSpec)

/-- 'dulcimerlaw26.WmapMerges', WHERE WHAT IT READS IS OF BULK AT MOST 1048576: true; the input reads as it did. -/
def wmapMergesUptoRow : OpenClaim := { program := "ytonffapiamhdbaa", sum := "dd3c99bcb0e8088557513dcf91720f150a6c1a2ff265cc4a20e2e090faab4bb6", func := "dulcimer/dulcimerlaw26.WmapMerges", spec := "wmapMerges", unfollowed := true, recurses := true, loops := true, plainKeys := false, apart := false, narrowed := true }
def WmapMergesUptoSaid : Prop := wmapMergesUptoRow.holds Try.pinned (OpenSpec.upto wmapMergesSpec)

/-- 'dulcimerlaw26.WmapNils', WHERE WHAT IT READS IS OF BULK AT MOST 1048576: true; the input reads as it did. -/
def wmapNilsUptoRow : OpenClaim := { program := "ytonffapiamhdbaa", sum := "dd3c99bcb0e8088557513dcf91720f150a6c1a2ff265cc4a20e2e090faab4bb6", func := "dulcimer/dulcimerlaw26.WmapNils", spec := "wmapNils", unfollowed := true, recurses := true, loops := true, plainKeys := false, apart := false, narrowed := true }
def WmapNilsUptoSaid : Prop := wmapNilsUptoRow.holds Try.pinned (OpenSpec.upto wmapNilsSpec)

end Rows
end Go.Proofs.Ytonffapiamhdbaa
