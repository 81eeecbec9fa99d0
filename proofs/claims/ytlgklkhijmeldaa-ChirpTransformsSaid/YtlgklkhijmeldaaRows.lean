/-
  No cell of these rows narrows 'for every input' (looked for: loops, veiled, ifaces, maps, wideKeys, modest, calm, conditions, laid).
  DERIVED. THE GIVEN ROWS OF THIS SEAT. 9 by the template 'for every input the law returns true; each argument reads behind the call as it read before'; 0 by the template 'total and deterministic' (their statements: YtlgklkhijmeldaaTotals.lean).
  GIVEN WITH THE SEED: the statements are not yours to turn. If you find one false, say at which input.
  Laid BY PROGRAM, IN A SANDBOX (cutbox-rows.mjs): the forced cells as the released guide's own fill.sh prints them over the translation dac4be722d213061… (all of the seat's roots in one cut). By AI agents, Wed Nov 11 2026. No macro, syntax, notation, axiom, sorry.
-/
import Derived.Test.YtlgklkhijmeldaaChecked
import GoSem.Claim
import GoSem.ClaimJoined
import GoSem.ClaimMapViews
import Derived.JoinedTies
import Derived.KernelRfl
namespace Go.Proofs.Ytlgklkhijmeldaa
/- THE CELL 'sum', in the pinned program and in every row, IS THE sha256 OF THE DUMP (.gsa) THAT YtlgklkhijmeldaaProg.lean LOADS. Nothing in Lean hashes anything: it is a label: what it is worth is what the hold of that sum in a sandbox is worth. -/
noncomputable def Try.pinned : Pinned := { name := "ytlgklkhijmeldaa", sum := "dac4be722d21306158f5214ff2e04c102d77ba58bf6a8f629ac42c6406909ac5", checked := Try.checked }
namespace Rows
def none {H : Type} : Left H := { results := [], args := [] }

/-- 'dulcimerlaw11.StockWith': WHATEVER THE INPUT: true; the input reads as it did. -/
def stockWithSpec : ChangeSpec := { name := "stockWith", fn := fun _ => fun
  | [d1, d2] => { results := [.lit (.bool true)], args := [d1, d2] }
  | _ => none }
def stockWithRow : OpenClaim := { program := "ytlgklkhijmeldaa", sum := "dac4be722d21306158f5214ff2e04c102d77ba58bf6a8f629ac42c6406909ac5", func := "dulcimer/dulcimerlaw11.StockWith", spec := "stockWith", inPlace := ["math/bits.Add64", "math/bits.Sub64"], unfollowed := true, recurses := true, apart := false }
def StockWithSaid : Prop := stockWithRow.holds Try.pinned (OpenSpec.ofChange stockWithSpec)

/-- ITS FALSE NEIGHBOUR: 'it returns false'. Refute it at one input. -/
def stockWithWrong : ChangeSpec := { name := "stockWith", fn := fun _ => fun
  | [d1, d2] => { results := [.lit (.bool false)], args := [d1, d2] }
  | _ => none }
def StockWithWrongFalsely : Prop := stockWithRow.holds Try.pinned (OpenSpec.ofChange stockWithWrong)

/-- 'dulcimerlaw11.StockDoes': WHATEVER THE INPUT: true; the input reads as it did. -/
def stockDoesSpec : ChangeSpec := { name := "stockDoes", fn := fun _ => fun
  | [d1, d2] => { results := [.lit (.bool true)], args := [d1, d2] }
  | _ => none }
def stockDoesRow : OpenClaim := { program := "ytlgklkhijmeldaa", sum := "dac4be722d21306158f5214ff2e04c102d77ba58bf6a8f629ac42c6406909ac5", func := "dulcimer/dulcimerlaw11.StockDoes", spec := "stockDoes", inPlace := ["math/bits.Add64", "math/bits.Sub64"], unfollowed := true, recurses := true, apart := false }
def StockDoesSaid : Prop := stockDoesRow.holds Try.pinned (OpenSpec.ofChange stockDoesSpec)

/-- ITS FALSE NEIGHBOUR: 'it returns false'. Refute it at one input. -/
def stockDoesWrong : ChangeSpec := { name := "stockDoes", fn := fun _ => fun
  | [d1, d2] => { results := [.lit (.bool false)], args := [d1, d2] }
  | _ => none }
def StockDoesWrongFalsely : Prop := stockDoesRow.holds Try.pinned (OpenSpec.ofChange stockDoesWrong)

/-- 'dulcimerlaw12.ChirpRows': WHATEVER THE INPUT: true; the input reads as it did. -/
def chirpRowsSpec : ChangeSpec := { name := "chirpRows", fn := fun _ => fun
  | [d1, d2, d3] => { results := [.lit (.bool true)], args := [d1, d2, d3] }
  | _ => none }
def chirpRowsRow : OpenClaim := { program := "ytlgklkhijmeldaa", sum := "dac4be722d21306158f5214ff2e04c102d77ba58bf6a8f629ac42c6406909ac5", func := "dulcimer/dulcimerlaw12.ChirpRows", spec := "chirpRows", inPlace := ["math/bits.Sub64", "math/bits.Add64"], apart := false }
def ChirpRowsSaid : Prop := chirpRowsRow.holds Try.pinned (OpenSpec.ofChange chirpRowsSpec)

/-- ITS FALSE NEIGHBOUR: 'it returns false'. Refute it at one input. -/
def chirpRowsWrong : ChangeSpec := { name := "chirpRows", fn := fun _ => fun
  | [d1, d2, d3] => { results := [.lit (.bool false)], args := [d1, d2, d3] }
  | _ => none }
def ChirpRowsWrongFalsely : Prop := chirpRowsRow.holds Try.pinned (OpenSpec.ofChange chirpRowsWrong)

/-- 'dulcimerlaw12.ChirpRooms': WHATEVER THE INPUT: true; the input reads as it did. -/
def chirpRoomsSpec : ChangeSpec := { name := "chirpRooms", fn := fun _ => fun
  | [d1, d2, d3] => { results := [.lit (.bool true)], args := [d1, d2, d3] }
  | _ => none }
def chirpRoomsRow : OpenClaim := { program := "ytlgklkhijmeldaa", sum := "dac4be722d21306158f5214ff2e04c102d77ba58bf6a8f629ac42c6406909ac5", func := "dulcimer/dulcimerlaw12.ChirpRooms", spec := "chirpRooms", inPlace := ["math/bits.Sub64", "math/bits.Add64"], apart := false }
def ChirpRoomsSaid : Prop := chirpRoomsRow.holds Try.pinned (OpenSpec.ofChange chirpRoomsSpec)

/-- ITS FALSE NEIGHBOUR: 'it returns false'. Refute it at one input. -/
def chirpRoomsWrong : ChangeSpec := { name := "chirpRooms", fn := fun _ => fun
  | [d1, d2, d3] => { results := [.lit (.bool false)], args := [d1, d2, d3] }
  | _ => none }
def ChirpRoomsWrongFalsely : Prop := chirpRoomsRow.holds Try.pinned (OpenSpec.ofChange chirpRoomsWrong)

/-- 'dulcimerlaw12.ChirpEnds': WHATEVER THE INPUT: true; the input reads as it did. -/
def chirpEndsSpec : ChangeSpec := { name := "chirpEnds", fn := fun _ => fun
  | [d1, d2, d3] => { results := [.lit (.bool true)], args := [d1, d2, d3] }
  | _ => none }
def chirpEndsRow : OpenClaim := { program := "ytlgklkhijmeldaa", sum := "dac4be722d21306158f5214ff2e04c102d77ba58bf6a8f629ac42c6406909ac5", func := "dulcimer/dulcimerlaw12.ChirpEnds", spec := "chirpEnds", inPlace := ["math/bits.Sub64", "math/bits.Add64"], apart := false }
def ChirpEndsSaid : Prop := chirpEndsRow.holds Try.pinned (OpenSpec.ofChange chirpEndsSpec)

/-- ITS FALSE NEIGHBOUR: 'it returns false'. Refute it at one input. -/
def chirpEndsWrong : ChangeSpec := { name := "chirpEnds", fn := fun _ => fun
  | [d1, d2, d3] => { results := [.lit (.bool false)], args := [d1, d2, d3] }
  | _ => none }
def ChirpEndsWrongFalsely : Prop := chirpEndsRow.holds Try.pinned (OpenSpec.ofChange chirpEndsWrong)

/-- 'dulcimerlaw10.SmallDoes': WHATEVER THE INPUT: true; the input reads as it did. -/
def smallDoesSpec : ChangeSpec := { name := "smallDoes", fn := fun _ => fun
  | [d1, d2] => { results := [.lit (.bool true)], args := [d1, d2] }
  | _ => none }
def smallDoesRow : OpenClaim := { program := "ytlgklkhijmeldaa", sum := "dac4be722d21306158f5214ff2e04c102d77ba58bf6a8f629ac42c6406909ac5", func := "dulcimer/dulcimerlaw10.SmallDoes", spec := "smallDoes", inPlace := ["math/bits.Sub64", "math/bits.Add64"], unfollowed := true, recurses := true, apart := false }
def SmallDoesSaid : Prop := smallDoesRow.holds Try.pinned (OpenSpec.ofChange smallDoesSpec)

/-- ITS FALSE NEIGHBOUR: 'it returns false'. Refute it at one input. -/
def smallDoesWrong : ChangeSpec := { name := "smallDoes", fn := fun _ => fun
  | [d1, d2] => { results := [.lit (.bool false)], args := [d1, d2] }
  | _ => none }
def SmallDoesWrongFalsely : Prop := smallDoesRow.holds Try.pinned (OpenSpec.ofChange smallDoesWrong)

/-- 'dulcimerlaw10.SmallTwists': WHATEVER THE INPUT: true; the input reads as it did. -/
def smallTwistsSpec : ChangeSpec := { name := "smallTwists", fn := fun _ => fun
  | [d1, d2, d3] => { results := [.lit (.bool true)], args := [d1, d2, d3] }
  | _ => none }
def smallTwistsRow : OpenClaim := { program := "ytlgklkhijmeldaa", sum := "dac4be722d21306158f5214ff2e04c102d77ba58bf6a8f629ac42c6406909ac5", func := "dulcimer/dulcimerlaw10.SmallTwists", spec := "smallTwists", inPlace := ["math/bits.Sub64", "math/bits.Add64"], unfollowed := true, recurses := true, apart := false }
def SmallTwistsSaid : Prop := smallTwistsRow.holds Try.pinned (OpenSpec.ofChange smallTwistsSpec)

/-- ITS FALSE NEIGHBOUR: 'it returns false'. Refute it at one input. -/
def smallTwistsWrong : ChangeSpec := { name := "smallTwists", fn := fun _ => fun
  | [d1, d2, d3] => { results := [.lit (.bool false)], args := [d1, d2, d3] }
  | _ => none }
def SmallTwistsWrongFalsely : Prop := smallTwistsRow.holds Try.pinned (OpenSpec.ofChange smallTwistsWrong)

/-- 'dulcimerlaw10.SmallRows': WHATEVER THE INPUT: true; the input reads as it did. -/
def smallRowsSpec : ChangeSpec := { name := "smallRows", fn := fun _ => fun
  | [d1, d2, d3] => { results := [.lit (.bool true)], args := [d1, d2, d3] }
  | _ => none }
def smallRowsRow : OpenClaim := { program := "ytlgklkhijmeldaa", sum := "dac4be722d21306158f5214ff2e04c102d77ba58bf6a8f629ac42c6406909ac5", func := "dulcimer/dulcimerlaw10.SmallRows", spec := "smallRows", inPlace := ["math/bits.Sub64", "math/bits.Add64"], unfollowed := true, recurses := true, apart := false }
def SmallRowsSaid : Prop := smallRowsRow.holds Try.pinned (OpenSpec.ofChange smallRowsSpec)

/-- ITS FALSE NEIGHBOUR: 'it returns false'. Refute it at one input. -/
def smallRowsWrong : ChangeSpec := { name := "smallRows", fn := fun _ => fun
  | [d1, d2, d3] => { results := [.lit (.bool false)], args := [d1, d2, d3] }
  | _ => none }
def SmallRowsWrongFalsely : Prop := smallRowsRow.holds Try.pinned (OpenSpec.ofChange smallRowsWrong)

/-- 'dulcimerlaw12.ChirpTransforms': WHATEVER THE INPUT: true; the input reads as it did. -/
def chirpTransformsSpec : ChangeSpec := { name := "chirpTransforms", fn := fun _ => fun
  | [d1, d2, d3] => { results := [.lit (.bool true)], args := [d1, d2, d3] }
  | _ => none }
def chirpTransformsRow : OpenClaim := { program := "ytlgklkhijmeldaa", sum := "dac4be722d21306158f5214ff2e04c102d77ba58bf6a8f629ac42c6406909ac5", func := "dulcimer/dulcimerlaw12.ChirpTransforms", spec := "chirpTransforms", inPlace := ["math/bits.Sub64", "math/bits.Add64"], apart := false }
def ChirpTransformsSaid : Prop := chirpTransformsRow.holds Try.pinned (OpenSpec.ofChange chirpTransformsSpec)

/-- ITS FALSE NEIGHBOUR: 'it returns false'. Refute it at one input. -/
def chirpTransformsWrong : ChangeSpec := { name := "chirpTransforms", fn := fun _ => fun
  | [d1, d2, d3] => { results := [.lit (.bool false)], args := [d1, d2, d3] }
  | _ => none }
def ChirpTransformsWrongFalsely : Prop := chirpTransformsRow.holds Try.pinned (OpenSpec.ofChange chirpTransformsWrong)

/- THE SECOND FORM. 'bulk': how many values and letters a reading holds, each counted each time it is reached (what is shared counts as often as it is met; a slice's spare places count too). A statement '..UptoSaid' is the law's where the arguments, and the package variables that the reading takes, are together of bulk at most 1048576: NARROWER than '..Said'. Prove '..Said' where nothing that the law and all that it calls make is longer than what came in: it says more and counts as full. Else prove '..UptoSaid'. A law counts once. -/
mutual
def uptoBulk {H : Type} : DataW H → Nat
  | .lit (.string bytes) => bytes.length + 1
  | .lit _ => 1
  | .nil => 1
  | .ptr d => uptoBulk d + 1
  | .slice elems spare => uptoBulkAll elems + uptoBulkAll spare + 1
  | .agg parts => uptoBulkAll parts + 1
  | .iface _ d => uptoBulk d + 1
  | .map entries => uptoBulkEntries entries + 1
  | .held _ => 1
def uptoBulkAll {H : Type} : List (DataW H) → Nat
  | [] => 0
  | d :: r => uptoBulk d + uptoBulkAll r
def uptoBulkEntries {H : Type} : List (Lit × DataW H) → Nat
  | [] => 0
  | x :: r => uptoBulkEntry x + uptoBulkEntries r
def uptoBulkEntry {H : Type} : Lit × DataW H → Nat
  | (.string bytes, d) => bytes.length + uptoBulk d + 1
  | (_, d) => uptoBulk d + 1
 end
def uptoSmall : (H : Type) → List (DataW H) → Bool := fun _ ds => decide (uptoBulkAll ds ≤ 1048576)
def OpenSpec.upto (s : _root_.Go.ChangeSpec) : _root_.Go.OpenSpec := { _root_.Go.OpenSpec.ofChange s with cond := some uptoSmall }

/-- 'dulcimerlaw11.StockWith', WHERE WHAT IT READS IS OF BULK AT MOST 1048576: true; the input reads as it did. -/
def stockWithUptoRow : OpenClaim := { program := "ytlgklkhijmeldaa", sum := "dac4be722d21306158f5214ff2e04c102d77ba58bf6a8f629ac42c6406909ac5", func := "dulcimer/dulcimerlaw11.StockWith", spec := "stockWith", inPlace := ["math/bits.Add64", "math/bits.Sub64"], unfollowed := true, recurses := true, apart := false, narrowed := true }
def StockWithUptoSaid : Prop := stockWithUptoRow.holds Try.pinned (OpenSpec.upto stockWithSpec)

/-- 'dulcimerlaw11.StockDoes', WHERE WHAT IT READS IS OF BULK AT MOST 1048576: true; the input reads as it did. -/
def stockDoesUptoRow : OpenClaim := { program := "ytlgklkhijmeldaa", sum := "dac4be722d21306158f5214ff2e04c102d77ba58bf6a8f629ac42c6406909ac5", func := "dulcimer/dulcimerlaw11.StockDoes", spec := "stockDoes", inPlace := ["math/bits.Add64", "math/bits.Sub64"], unfollowed := true, recurses := true, apart := false, narrowed := true }
def StockDoesUptoSaid : Prop := stockDoesUptoRow.holds Try.pinned (OpenSpec.upto stockDoesSpec)

/-- 'dulcimerlaw12.ChirpRows', WHERE WHAT IT READS IS OF BULK AT MOST 1048576: true; the input reads as it did. -/
def chirpRowsUptoRow : OpenClaim := { program := "ytlgklkhijmeldaa", sum := "dac4be722d21306158f5214ff2e04c102d77ba58bf6a8f629ac42c6406909ac5", func := "dulcimer/dulcimerlaw12.ChirpRows", spec := "chirpRows", inPlace := ["math/bits.Sub64", "math/bits.Add64"], apart := false, narrowed := true }
def ChirpRowsUptoSaid : Prop := chirpRowsUptoRow.holds Try.pinned (OpenSpec.upto chirpRowsSpec)

/-- 'dulcimerlaw12.ChirpRooms', WHERE WHAT IT READS IS OF BULK AT MOST 1048576: true; the input reads as it did. -/
def chirpRoomsUptoRow : OpenClaim := { program := "ytlgklkhijmeldaa", sum := "dac4be722d21306158f5214ff2e04c102d77ba58bf6a8f629ac42c6406909ac5", func := "dulcimer/dulcimerlaw12.ChirpRooms", spec := "chirpRooms", inPlace := ["math/bits.Sub64", "math/bits.Add64"], apart := false, narrowed := true }
def ChirpRoomsUptoSaid : Prop := chirpRoomsUptoRow.holds Try.pinned (OpenSpec.upto chirpRoomsSpec)

/-- 'dulcimerlaw12.ChirpEnds', WHERE WHAT IT READS IS OF BULK AT MOST 1048576: true; the input reads as it did. -/
def chirpEndsUptoRow : OpenClaim := { program := "ytlgklkhijmeldaa", sum := "dac4be722d21306158f5214ff2e04c102d77ba58bf6a8f629ac42c6406909ac5", func := "dulcimer/dulcimerlaw12.ChirpEnds", spec := "chirpEnds", inPlace := ["math/bits.Sub64", "math/bits.Add64"], apart := false, narrowed := true }
def ChirpEndsUptoSaid : Prop := chirpEndsUptoRow.holds Try.pinned (OpenSpec.upto chirpEndsSpec)

/-- 'dulcimerlaw10.SmallDoes', WHERE WHAT IT READS IS OF BULK AT MOST 1048576: true; the input reads as it did. -/
def smallDoesUptoRow : OpenClaim := { program := "ytlgklkhijmeldaa", sum := "dac4be722d21306158f5214ff2e04c102d77ba58bf6a8f629ac42c6406909ac5", func := "dulcimer/dulcimerlaw10.SmallDoes", spec := "smallDoes", inPlace := ["math/bits.Sub64", "math/bits.Add64"], unfollowed := true, recurses := true, apart := false, narrowed := true }
def SmallDoesUptoSaid : Prop := smallDoesUptoRow.holds Try.pinned (OpenSpec.upto smallDoesSpec)

/-- 'dulcimerlaw10.SmallTwists', WHERE WHAT IT READS IS OF BULK AT MOST 1048576: true; the input reads as it did. -/
def smallTwistsUptoRow : OpenClaim := { program := "ytlgklkhijmeldaa", sum := "dac4be722d21306158f5214ff2e04c102d77ba58bf6a8f629ac42c6406909ac5", func := "dulcimer/dulcimerlaw10.SmallTwists", spec := "smallTwists", inPlace := ["math/bits.Sub64", "math/bits.Add64"], unfollowed := true, recurses := true, apart := false, narrowed := true }
def SmallTwistsUptoSaid : Prop := smallTwistsUptoRow.holds Try.pinned (OpenSpec.upto smallTwistsSpec)

/-- 'dulcimerlaw10.SmallRows', WHERE WHAT IT READS IS OF BULK AT MOST 1048576: true; the input reads as it did. -/
def smallRowsUptoRow : OpenClaim := { program := "ytlgklkhijmeldaa", sum := "dac4be722d21306158f5214ff2e04c102d77ba58bf6a8f629ac42c6406909ac5", func := "dulcimer/dulcimerlaw10.SmallRows", spec := "smallRows", inPlace := ["math/bits.Sub64", "math/bits.Add64"], unfollowed := true, recurses := true, apart := false, narrowed := true }
def SmallRowsUptoSaid : Prop := smallRowsUptoRow.holds Try.pinned (OpenSpec.upto smallRowsSpec)

/-- 'dulcimerlaw12.ChirpTransforms', WHERE WHAT IT READS IS OF BULK AT MOST 1048576: true; the input reads as it did. -/
def chirpTransformsUptoRow : OpenClaim := { program := "ytlgklkhijmeldaa", sum := "dac4be722d21306158f5214ff2e04c102d77ba58bf6a8f629ac42c6406909ac5", func := "dulcimer/dulcimerlaw12.ChirpTransforms", spec := "chirpTransforms", inPlace := ["math/bits.Sub64", "math/bits.Add64"], apart := false, narrowed := true }
def ChirpTransformsUptoSaid : Prop := chirpTransformsUptoRow.holds Try.pinned (OpenSpec.upto chirpTransformsSpec)

end Rows
end Go.Proofs.Ytlgklkhijmeldaa
