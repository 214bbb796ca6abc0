/-
  No cell of these rows narrows 'for every input' (looked for: loops, veiled, ifaces, maps, wideKeys, modest, calm, conditions, laid).
  DERIVED. THE GIVEN ROWS OF THIS SEAT. 9 by the template 'for every input the law returns true; each argument reads behind the call as it read before'; 0 by the template 'total and deterministic' (their statements: YtpgbapbmikneiaaTotals.lean).
  GIVEN WITH THE SEED: the statements are not yours to turn. If you find one false, say at which input.
  Laid BY PROGRAM, IN A SANDBOX (cutbox-rows.mjs): the forced cells as the released guide's own fill.sh prints them over the translation c524e9bb715269e4… (all of the seat's roots in one cut). By AI agents, Wed Nov 11 2026. No macro, syntax, notation, axiom, sorry.
-/
import Derived.Test.YtpgbapbmikneiaaChecked
import GoSem.Claim
import GoSem.ClaimJoined
import GoSem.ClaimMapViews
import Derived.JoinedTies
import Derived.KernelRfl
namespace Go.Proofs.Ytpgbapbmikneiaa
/- THE CELL 'sum', in the pinned program and in every row, IS THE sha256 OF THE DUMP (.gsa) THAT YtpgbapbmikneiaaProg.lean LOADS. Nothing in Lean hashes anything: it is a label: what it is worth is what the hold of that sum in a sandbox is worth. -/
noncomputable def Try.pinned : Pinned := { name := "ytpgbapbmikneiaa", sum := "c524e9bb715269e419dff4a9e5ccc2c39a28f8f591e4e11942a98b9a779bed11", checked := Try.checked }
namespace Rows
def none {H : Type} : Left H := { results := [], args := [] }

/-- 'foliolaw0.Names': WHATEVER THE INPUT: true; the input reads as it did. -/
def namesSpec : ChangeSpec := { name := "names", fn := fun _ => fun
  | [] => { results := [.lit (.bool true)], args := [] }
  | _ => none }
def namesRow : OpenClaim := { program := "ytpgbapbmikneiaa", sum := "c524e9bb715269e419dff4a9e5ccc2c39a28f8f591e4e11942a98b9a779bed11", func := "folio/foliolaw0.Names", spec := "names", apart := false }
def NamesSaid : Prop := namesRow.holds Try.pinned (OpenSpec.ofChange namesSpec)

/-- ITS FALSE NEIGHBOUR: 'it returns false'. Refute it at one input. -/
def namesWrong : ChangeSpec := { name := "names", fn := fun _ => fun
  | [] => { results := [.lit (.bool false)], args := [] }
  | _ => none }
def NamesWrongFalsely : Prop := namesRow.holds Try.pinned (OpenSpec.ofChange namesWrong)

/-- 'foliolaw4.FrontAll': WHATEVER THE INPUT: true; the input reads as it did. -/
def frontAllSpec : ChangeSpec := { name := "frontAll", fn := fun _ => fun
  | [d] => { results := [.lit (.bool true)], args := [d] }
  | _ => none }
def frontAllRow : OpenClaim := { program := "ytpgbapbmikneiaa", sum := "c524e9bb715269e419dff4a9e5ccc2c39a28f8f591e4e11942a98b9a779bed11", func := "folio/foliolaw4.FrontAll", spec := "frontAll", apart := false }
def FrontAllSaid : Prop := frontAllRow.holds Try.pinned (OpenSpec.ofChange frontAllSpec)

/-- ITS FALSE NEIGHBOUR: 'it returns false'. Refute it at one input. -/
def frontAllWrong : ChangeSpec := { name := "frontAll", fn := fun _ => fun
  | [d] => { results := [.lit (.bool false)], args := [d] }
  | _ => none }
def FrontAllWrongFalsely : Prop := frontAllRow.holds Try.pinned (OpenSpec.ofChange frontAllWrong)

/-- 'foliolaw4.FrontRuns': WHATEVER THE INPUT: true; the input reads as it did. -/
def frontRunsSpec : ChangeSpec := { name := "frontRuns", fn := fun _ => fun
  | [d] => { results := [.lit (.bool true)], args := [d] }
  | _ => none }
def frontRunsRow : OpenClaim := { program := "ytpgbapbmikneiaa", sum := "c524e9bb715269e419dff4a9e5ccc2c39a28f8f591e4e11942a98b9a779bed11", func := "folio/foliolaw4.FrontRuns", spec := "frontRuns", apart := false }
def FrontRunsSaid : Prop := frontRunsRow.holds Try.pinned (OpenSpec.ofChange frontRunsSpec)

/-- ITS FALSE NEIGHBOUR: 'it returns false'. Refute it at one input. -/
def frontRunsWrong : ChangeSpec := { name := "frontRuns", fn := fun _ => fun
  | [d] => { results := [.lit (.bool false)], args := [d] }
  | _ => none }
def FrontRunsWrongFalsely : Prop := frontRunsRow.holds Try.pinned (OpenSpec.ofChange frontRunsWrong)

/-- 'foliolaw4.FrontEach': WHATEVER THE INPUT: true; the input reads as it did. -/
def frontEachSpec : ChangeSpec := { name := "frontEach", fn := fun _ => fun
  | [d] => { results := [.lit (.bool true)], args := [d] }
  | _ => none }
def frontEachRow : OpenClaim := { program := "ytpgbapbmikneiaa", sum := "c524e9bb715269e419dff4a9e5ccc2c39a28f8f591e4e11942a98b9a779bed11", func := "folio/foliolaw4.FrontEach", spec := "frontEach", apart := false }
def FrontEachSaid : Prop := frontEachRow.holds Try.pinned (OpenSpec.ofChange frontEachSpec)

/-- ITS FALSE NEIGHBOUR: 'it returns false'. Refute it at one input. -/
def frontEachWrong : ChangeSpec := { name := "frontEach", fn := fun _ => fun
  | [d] => { results := [.lit (.bool false)], args := [d] }
  | _ => none }
def FrontEachWrongFalsely : Prop := frontEachRow.holds Try.pinned (OpenSpec.ofChange frontEachWrong)

/-- 'foliolaw4.FrontTail': WHATEVER THE INPUT: true; the input reads as it did. -/
def frontTailSpec : ChangeSpec := { name := "frontTail", fn := fun _ => fun
  | [d1, d2] => { results := [.lit (.bool true)], args := [d1, d2] }
  | _ => none }
def frontTailRow : OpenClaim := { program := "ytpgbapbmikneiaa", sum := "c524e9bb715269e419dff4a9e5ccc2c39a28f8f591e4e11942a98b9a779bed11", func := "folio/foliolaw4.FrontTail", spec := "frontTail", apart := false }
def FrontTailSaid : Prop := frontTailRow.holds Try.pinned (OpenSpec.ofChange frontTailSpec)

/-- ITS FALSE NEIGHBOUR: 'it returns false'. Refute it at one input. -/
def frontTailWrong : ChangeSpec := { name := "frontTail", fn := fun _ => fun
  | [d1, d2] => { results := [.lit (.bool false)], args := [d1, d2] }
  | _ => none }
def FrontTailWrongFalsely : Prop := frontTailRow.holds Try.pinned (OpenSpec.ofChange frontTailWrong)

/-- 'foliolaw2.NumbersAll': WHATEVER THE INPUT: true; the input reads as it did. -/
def numbersAllSpec : ChangeSpec := { name := "numbersAll", fn := fun _ => fun
  | [d1, d2] => { results := [.lit (.bool true)], args := [d1, d2] }
  | _ => none }
def numbersAllRow : OpenClaim := { program := "ytpgbapbmikneiaa", sum := "c524e9bb715269e419dff4a9e5ccc2c39a28f8f591e4e11942a98b9a779bed11", func := "folio/foliolaw2.NumbersAll", spec := "numbersAll", apart := false }
def NumbersAllSaid : Prop := numbersAllRow.holds Try.pinned (OpenSpec.ofChange numbersAllSpec)

/-- ITS FALSE NEIGHBOUR: 'it returns false'. Refute it at one input. -/
def numbersAllWrong : ChangeSpec := { name := "numbersAll", fn := fun _ => fun
  | [d1, d2] => { results := [.lit (.bool false)], args := [d1, d2] }
  | _ => none }
def NumbersAllWrongFalsely : Prop := numbersAllRow.holds Try.pinned (OpenSpec.ofChange numbersAllWrong)

/-- 'foliolaw2.NumbersBytes': WHATEVER THE INPUT: true; the input reads as it did. -/
def numbersBytesSpec : ChangeSpec := { name := "numbersBytes", fn := fun _ => fun
  | [d] => { results := [.lit (.bool true)], args := [d] }
  | _ => none }
def numbersBytesRow : OpenClaim := { program := "ytpgbapbmikneiaa", sum := "c524e9bb715269e419dff4a9e5ccc2c39a28f8f591e4e11942a98b9a779bed11", func := "folio/foliolaw2.NumbersBytes", spec := "numbersBytes", apart := false }
def NumbersBytesSaid : Prop := numbersBytesRow.holds Try.pinned (OpenSpec.ofChange numbersBytesSpec)

/-- ITS FALSE NEIGHBOUR: 'it returns false'. Refute it at one input. -/
def numbersBytesWrong : ChangeSpec := { name := "numbersBytes", fn := fun _ => fun
  | [d] => { results := [.lit (.bool false)], args := [d] }
  | _ => none }
def NumbersBytesWrongFalsely : Prop := numbersBytesRow.holds Try.pinned (OpenSpec.ofChange numbersBytesWrong)

/-- 'foliolaw2.NumbersTight': WHATEVER THE INPUT: true; the input reads as it did. -/
def numbersTightSpec : ChangeSpec := { name := "numbersTight", fn := fun _ => fun
  | [d1, d2] => { results := [.lit (.bool true)], args := [d1, d2] }
  | _ => none }
def numbersTightRow : OpenClaim := { program := "ytpgbapbmikneiaa", sum := "c524e9bb715269e419dff4a9e5ccc2c39a28f8f591e4e11942a98b9a779bed11", func := "folio/foliolaw2.NumbersTight", spec := "numbersTight", apart := false }
def NumbersTightSaid : Prop := numbersTightRow.holds Try.pinned (OpenSpec.ofChange numbersTightSpec)

/-- ITS FALSE NEIGHBOUR: 'it returns false'. Refute it at one input. -/
def numbersTightWrong : ChangeSpec := { name := "numbersTight", fn := fun _ => fun
  | [d1, d2] => { results := [.lit (.bool false)], args := [d1, d2] }
  | _ => none }
def NumbersTightWrongFalsely : Prop := numbersTightRow.holds Try.pinned (OpenSpec.ofChange numbersTightWrong)

/-- 'foliolaw2.NumbersMany': WHATEVER THE INPUT: true; the input reads as it did. -/
def numbersManySpec : ChangeSpec := { name := "numbersMany", fn := fun _ => fun
  | [d1, d2] => { results := [.lit (.bool true)], args := [d1, d2] }
  | _ => none }
def numbersManyRow : OpenClaim := { program := "ytpgbapbmikneiaa", sum := "c524e9bb715269e419dff4a9e5ccc2c39a28f8f591e4e11942a98b9a779bed11", func := "folio/foliolaw2.NumbersMany", spec := "numbersMany", apart := false }
def NumbersManySaid : Prop := numbersManyRow.holds Try.pinned (OpenSpec.ofChange numbersManySpec)

/-- ITS FALSE NEIGHBOUR: 'it returns false'. Refute it at one input. -/
def numbersManyWrong : ChangeSpec := { name := "numbersMany", fn := fun _ => fun
  | [d1, d2] => { results := [.lit (.bool false)], args := [d1, d2] }
  | _ => none }
def NumbersManyWrongFalsely : Prop := numbersManyRow.holds Try.pinned (OpenSpec.ofChange numbersManyWrong)

/- THE SECOND FORM. 'bulk': how many values and letters a reading holds, each counted each time it is reached (what is shared counts as often as it is met; a slice's spare places count too). A statement '..UptoSaid' is the law's where the arguments, and the package variables that the reading takes, are together of bulk at most 1048576: NARROWER than '..Said'. Prove '..Said' where nothing that the law and all that it calls make is longer than what came in: it says more and counts as full. Else prove '..UptoSaid'. A law counts once. -/
mutual
def uptoBulk {H : Type} : DataW H → Nat
  | .lit (.string bytes) => bytes.length + 1
  | .lit _ => 1
  | .nil => 1
  | .ptr d => uptoBulk d + 1
  | .slice elems spare => uptoBulkAll elems + uptoBulkAll spare + 1
  | .agg parts => uptoBulkAll parts + 1
  | .iface _ d => uptoBulk d + 1
  | .map entries => uptoBulkEntries entries + 1
  | .held _ => 1
def uptoBulkAll {H : Type} : List (DataW H) → Nat
  | [] => 0
  | d :: r => uptoBulk d + uptoBulkAll r
def uptoBulkEntries {H : Type} : List (Lit × DataW H) → Nat
  | [] => 0
  | x :: r => uptoBulkEntry x + uptoBulkEntries r
def uptoBulkEntry {H : Type} : Lit × DataW H → Nat
  | (.string bytes, d) => bytes.length + uptoBulk d + 1
  | (_, d) => uptoBulk d + 1
 end
def uptoSmall : (H : Type) → List (DataW H) → Bool := fun _ ds => decide (uptoBulkAll ds ≤ 1048576)
def OpenSpec.upto (s : _root_.Go.ChangeSpec) : _root_.Go.OpenSpec := { _root_.Go.OpenSpec.ofChange s with cond := some uptoSmall }

/-- 'foliolaw0.Names', WHERE WHAT IT READS IS OF BULK AT MOST 1048576: true; the input reads as it did. -/
def namesUptoRow : OpenClaim := { program := "ytpgbapbmikneiaa", sum := "c524e9bb715269e419dff4a9e5ccc2c39a28f8f591e4e11942a98b9a779bed11", func := "folio/foliolaw0.Names", spec := "names", apart := false, narrowed := true }
def NamesUptoSaid : Prop := namesUptoRow.holds Try.pinned (OpenSpec.upto namesSpec)

/-- 'foliolaw4.FrontAll', WHERE WHAT IT READS IS OF BULK AT MOST 1048576: true; the input reads as it did. -/
def frontAllUptoRow : OpenClaim := { program := "ytpgbapbmikneiaa", sum := "c524e9bb715269e419dff4a9e5ccc2c39a28f8f591e4e11942a98b9a779bed11", func := "folio/foliolaw4.FrontAll", spec := "frontAll", apart := false, narrowed := true }
def FrontAllUptoSaid : Prop := frontAllUptoRow.holds Try.pinned (OpenSpec.upto frontAllSpec)

/-- 'foliolaw4.FrontRuns', WHERE WHAT IT READS IS OF BULK AT MOST 1048576: true; the input reads as it did. -/
def frontRunsUptoRow : OpenClaim := { program := "ytpgbapbmikneiaa", sum := "c524e9bb715269e419dff4a9e5ccc2c39a28f8f591e4e11942a98b9a779bed11", func := "folio/foliolaw4.FrontRuns", spec := "frontRuns", apart := false, narrowed := true }
def FrontRunsUptoSaid : Prop := frontRunsUptoRow.holds Try.pinned (OpenSpec.upto frontRunsSpec)

/-- 'foliolaw4.FrontEach', WHERE WHAT IT READS IS OF BULK AT MOST 1048576: true; the input reads as it did. -/
def frontEachUptoRow : OpenClaim := { program := "ytpgbapbmikneiaa", sum := "c524e9bb715269e419dff4a9e5ccc2c39a28f8f591e4e11942a98b9a779bed11", func := "folio/foliolaw4.FrontEach", spec := "frontEach", apart := false, narrowed := true }
def FrontEachUptoSaid : Prop := frontEachUptoRow.holds Try.pinned (OpenSpec.upto frontEachSpec)

/-- 'foliolaw4.FrontTail', WHERE WHAT IT READS IS OF BULK AT MOST 1048576: true; the input reads as it did. -/
def frontTailUptoRow : OpenClaim := { program := "ytpgbapbmikneiaa", sum := "c524e9bb715269e419dff4a9e5ccc2c39a28f8f591e4e11942a98b9a779bed11", func := "folio/foliolaw4.FrontTail", spec := "frontTail", apart := false, narrowed := true }
def FrontTailUptoSaid : Prop := frontTailUptoRow.holds Try.pinned (OpenSpec.upto frontTailSpec)

/-- 'foliolaw2.NumbersAll', WHERE WHAT IT READS IS OF BULK AT MOST 1048576: true; the input reads as it did. -/
def numbersAllUptoRow : OpenClaim := { program := "ytpgbapbmikneiaa", sum := "c524e9bb715269e419dff4a9e5ccc2c39a28f8f591e4e11942a98b9a779bed11", func := "folio/foliolaw2.NumbersAll", spec := "numbersAll", apart := false, narrowed := true }
def NumbersAllUptoSaid : Prop := numbersAllUptoRow.holds Try.pinned (OpenSpec.upto numbersAllSpec)

/-- 'foliolaw2.NumbersBytes', WHERE WHAT IT READS IS OF BULK AT MOST 1048576: true; the input reads as it did. -/
def numbersBytesUptoRow : OpenClaim := { program := "ytpgbapbmikneiaa", sum := "c524e9bb715269e419dff4a9e5ccc2c39a28f8f591e4e11942a98b9a779bed11", func := "folio/foliolaw2.NumbersBytes", spec := "numbersBytes", apart := false, narrowed := true }
def NumbersBytesUptoSaid : Prop := numbersBytesUptoRow.holds Try.pinned (OpenSpec.upto numbersBytesSpec)

/-- 'foliolaw2.NumbersTight', WHERE WHAT IT READS IS OF BULK AT MOST 1048576: true; the input reads as it did. -/
def numbersTightUptoRow : OpenClaim := { program := "ytpgbapbmikneiaa", sum := "c524e9bb715269e419dff4a9e5ccc2c39a28f8f591e4e11942a98b9a779bed11", func := "folio/foliolaw2.NumbersTight", spec := "numbersTight", apart := false, narrowed := true }
def NumbersTightUptoSaid : Prop := numbersTightUptoRow.holds Try.pinned (OpenSpec.upto numbersTightSpec)

/-- 'foliolaw2.NumbersMany', WHERE WHAT IT READS IS OF BULK AT MOST 1048576: true; the input reads as it did. -/
def numbersManyUptoRow : OpenClaim := { program := "ytpgbapbmikneiaa", sum := "c524e9bb715269e419dff4a9e5ccc2c39a28f8f591e4e11942a98b9a779bed11", func := "folio/foliolaw2.NumbersMany", spec := "numbersMany", apart := false, narrowed := true }
def NumbersManyUptoSaid : Prop := numbersManyUptoRow.holds Try.pinned (OpenSpec.upto numbersManySpec)

end Rows
end Go.Proofs.Ytpgbapbmikneiaa
