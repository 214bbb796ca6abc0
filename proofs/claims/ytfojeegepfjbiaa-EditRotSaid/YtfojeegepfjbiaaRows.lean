/-
  No cell of these rows narrows 'for every input' (looked for: loops, veiled, ifaces, maps, wideKeys, modest, calm, conditions, laid).
  DERIVED. THE GIVEN ROWS OF THIS SEAT. 16 by the template 'for every input the law returns true; each argument reads behind the call as it read before'; 0 by the template 'total and deterministic' (their statements: YtfojeegepfjbiaaTotals.lean).
  GIVEN WITH THE SEED: the statements are not yours to turn. If you find one false, say at which input.
  Laid BY PROGRAM, IN A SANDBOX (cutbox-rows.mjs): the forced cells as the released guide's own fill.sh prints them over the translation 9b74023febacbf9e… (all of the seat's roots in one cut). By AI agents, Wed Nov 11 2026. No macro, syntax, notation, axiom, sorry.
-/
import Derived.Test.YtfojeegepfjbiaaChecked
import GoSem.Claim
import GoSem.ClaimJoined
import GoSem.ClaimMapViews
import Derived.JoinedTies
import Derived.KernelRfl
namespace Go.Proofs.Ytfojeegepfjbiaa
/- THE CELL 'sum', in the pinned program and in every row, IS THE sha256 OF THE DUMP (.gsa) THAT YtfojeegepfjbiaaProg.lean LOADS. Nothing in Lean hashes anything: it is a label: what it is worth is what the hold of that sum in a sandbox is worth. -/
noncomputable def Try.pinned : Pinned := { name := "ytfojeegepfjbiaa", sum := "9b74023febacbf9e9d211a9a3cc1a86dd5543e92be2b5a2fe9a05bfdee893197", checked := Try.checked }
namespace Rows
def none {H : Type} : Left H := { results := [], args := [] }

/-- 'foliolaw3.CrcSum': WHATEVER THE INPUT: true; the input reads as it did. -/
def crcSumSpec : ChangeSpec := { name := "crcSum", fn := fun _ => fun
  | [d1, d2, d3] => { results := [.lit (.bool true)], args := [d1, d2, d3] }
  | _ => none }
def crcSumRow : OpenClaim := { program := "ytfojeegepfjbiaa", sum := "9b74023febacbf9e9d211a9a3cc1a86dd5543e92be2b5a2fe9a05bfdee893197", func := "folio/foliolaw3.CrcSum", spec := "crcSum", apart := false }
def CrcSumSaid : Prop := crcSumRow.holds Try.pinned (OpenSpec.ofChange crcSumSpec)

/-- ITS FALSE NEIGHBOUR: 'it returns false'. Refute it at one input. -/
def crcSumWrong : ChangeSpec := { name := "crcSum", fn := fun _ => fun
  | [d1, d2, d3] => { results := [.lit (.bool false)], args := [d1, d2, d3] }
  | _ => none }
def CrcSumWrongFalsely : Prop := crcSumRow.holds Try.pinned (OpenSpec.ofChange crcSumWrong)

/-- 'foliolaw3.CrcSeal': WHATEVER THE INPUT: true; the input reads as it did. -/
def crcSealSpec : ChangeSpec := { name := "crcSeal", fn := fun _ => fun
  | [d] => { results := [.lit (.bool true)], args := [d] }
  | _ => none }
def crcSealRow : OpenClaim := { program := "ytfojeegepfjbiaa", sum := "9b74023febacbf9e9d211a9a3cc1a86dd5543e92be2b5a2fe9a05bfdee893197", func := "folio/foliolaw3.CrcSeal", spec := "crcSeal", apart := false }
def CrcSealSaid : Prop := crcSealRow.holds Try.pinned (OpenSpec.ofChange crcSealSpec)

/-- ITS FALSE NEIGHBOUR: 'it returns false'. Refute it at one input. -/
def crcSealWrong : ChangeSpec := { name := "crcSeal", fn := fun _ => fun
  | [d] => { results := [.lit (.bool false)], args := [d] }
  | _ => none }
def CrcSealWrongFalsely : Prop := crcSealRow.holds Try.pinned (OpenSpec.ofChange crcSealWrong)

/-- 'foliolaw3.CrcScan': WHATEVER THE INPUT: true; the input reads as it did. -/
def crcScanSpec : ChangeSpec := { name := "crcScan", fn := fun _ => fun
  | [d1, d2, d3, d4] => { results := [.lit (.bool true)], args := [d1, d2, d3, d4] }
  | _ => none }
def crcScanRow : OpenClaim := { program := "ytfojeegepfjbiaa", sum := "9b74023febacbf9e9d211a9a3cc1a86dd5543e92be2b5a2fe9a05bfdee893197", func := "folio/foliolaw3.CrcScan", spec := "crcScan", apart := false }
def CrcScanSaid : Prop := crcScanRow.holds Try.pinned (OpenSpec.ofChange crcScanSpec)

/-- ITS FALSE NEIGHBOUR: 'it returns false'. Refute it at one input. -/
def crcScanWrong : ChangeSpec := { name := "crcScan", fn := fun _ => fun
  | [d1, d2, d3, d4] => { results := [.lit (.bool false)], args := [d1, d2, d3, d4] }
  | _ => none }
def CrcScanWrongFalsely : Prop := crcScanRow.holds Try.pinned (OpenSpec.ofChange crcScanWrong)

/-- 'foliolaw3.CrcCut': WHATEVER THE INPUT: true; the input reads as it did. -/
def crcCutSpec : ChangeSpec := { name := "crcCut", fn := fun _ => fun
  | [d1, d2] => { results := [.lit (.bool true)], args := [d1, d2] }
  | _ => none }
def crcCutRow : OpenClaim := { program := "ytfojeegepfjbiaa", sum := "9b74023febacbf9e9d211a9a3cc1a86dd5543e92be2b5a2fe9a05bfdee893197", func := "folio/foliolaw3.CrcCut", spec := "crcCut", apart := false }
def CrcCutSaid : Prop := crcCutRow.holds Try.pinned (OpenSpec.ofChange crcCutSpec)

/-- ITS FALSE NEIGHBOUR: 'it returns false'. Refute it at one input. -/
def crcCutWrong : ChangeSpec := { name := "crcCut", fn := fun _ => fun
  | [d1, d2] => { results := [.lit (.bool false)], args := [d1, d2] }
  | _ => none }
def CrcCutWrongFalsely : Prop := crcCutRow.holds Try.pinned (OpenSpec.ofChange crcCutWrong)

/-- 'foliolaw3.CrcRot': WHATEVER THE INPUT: true; the input reads as it did. -/
def crcRotSpec : ChangeSpec := { name := "crcRot", fn := fun _ => fun
  | [d1, d2, d3] => { results := [.lit (.bool true)], args := [d1, d2, d3] }
  | _ => none }
def crcRotRow : OpenClaim := { program := "ytfojeegepfjbiaa", sum := "9b74023febacbf9e9d211a9a3cc1a86dd5543e92be2b5a2fe9a05bfdee893197", func := "folio/foliolaw3.CrcRot", spec := "crcRot", apart := false }
def CrcRotSaid : Prop := crcRotRow.holds Try.pinned (OpenSpec.ofChange crcRotSpec)

/-- ITS FALSE NEIGHBOUR: 'it returns false'. Refute it at one input. -/
def crcRotWrong : ChangeSpec := { name := "crcRot", fn := fun _ => fun
  | [d1, d2, d3] => { results := [.lit (.bool false)], args := [d1, d2, d3] }
  | _ => none }
def CrcRotWrongFalsely : Prop := crcRotRow.holds Try.pinned (OpenSpec.ofChange crcRotWrong)

/-- 'foliolaw3.CrcThree': WHATEVER THE INPUT: true; the input reads as it did. -/
def crcThreeSpec : ChangeSpec := { name := "crcThree", fn := fun _ => fun
  | [d1, d2, d3] => { results := [.lit (.bool true)], args := [d1, d2, d3] }
  | _ => none }
def crcThreeRow : OpenClaim := { program := "ytfojeegepfjbiaa", sum := "9b74023febacbf9e9d211a9a3cc1a86dd5543e92be2b5a2fe9a05bfdee893197", func := "folio/foliolaw3.CrcThree", spec := "crcThree", apart := false }
def CrcThreeSaid : Prop := crcThreeRow.holds Try.pinned (OpenSpec.ofChange crcThreeSpec)

/-- ITS FALSE NEIGHBOUR: 'it returns false'. Refute it at one input. -/
def crcThreeWrong : ChangeSpec := { name := "crcThree", fn := fun _ => fun
  | [d1, d2, d3] => { results := [.lit (.bool false)], args := [d1, d2, d3] }
  | _ => none }
def CrcThreeWrongFalsely : Prop := crcThreeRow.holds Try.pinned (OpenSpec.ofChange crcThreeWrong)

/-- 'foliolaw3.CrcBurst': WHATEVER THE INPUT: true; the input reads as it did. -/
def crcBurstSpec : ChangeSpec := { name := "crcBurst", fn := fun _ => fun
  | [d1, d2, d3] => { results := [.lit (.bool true)], args := [d1, d2, d3] }
  | _ => none }
def crcBurstRow : OpenClaim := { program := "ytfojeegepfjbiaa", sum := "9b74023febacbf9e9d211a9a3cc1a86dd5543e92be2b5a2fe9a05bfdee893197", func := "folio/foliolaw3.CrcBurst", spec := "crcBurst", apart := false }
def CrcBurstSaid : Prop := crcBurstRow.holds Try.pinned (OpenSpec.ofChange crcBurstSpec)

/-- ITS FALSE NEIGHBOUR: 'it returns false'. Refute it at one input. -/
def crcBurstWrong : ChangeSpec := { name := "crcBurst", fn := fun _ => fun
  | [d1, d2, d3] => { results := [.lit (.bool false)], args := [d1, d2, d3] }
  | _ => none }
def CrcBurstWrongFalsely : Prop := crcBurstRow.holds Try.pinned (OpenSpec.ofChange crcBurstWrong)

/-- 'foliolaw3.CrcMany': WHATEVER THE INPUT: true; the input reads as it did. -/
def crcManySpec : ChangeSpec := { name := "crcMany", fn := fun _ => fun
  | [d1, d2] => { results := [.lit (.bool true)], args := [d1, d2] }
  | _ => none }
def crcManyRow : OpenClaim := { program := "ytfojeegepfjbiaa", sum := "9b74023febacbf9e9d211a9a3cc1a86dd5543e92be2b5a2fe9a05bfdee893197", func := "folio/foliolaw3.CrcMany", spec := "crcMany", apart := false }
def CrcManySaid : Prop := crcManyRow.holds Try.pinned (OpenSpec.ofChange crcManySpec)

/-- ITS FALSE NEIGHBOUR: 'it returns false'. Refute it at one input. -/
def crcManyWrong : ChangeSpec := { name := "crcMany", fn := fun _ => fun
  | [d1, d2] => { results := [.lit (.bool false)], args := [d1, d2] }
  | _ => none }
def CrcManyWrongFalsely : Prop := crcManyRow.holds Try.pinned (OpenSpec.ofChange crcManyWrong)

/-- 'foliolaw14.RecordBytes': WHATEVER THE INPUT: true; the input reads as it did. -/
def recordBytesSpec : ChangeSpec := { name := "recordBytes", fn := fun _ => fun
  | [d1, d2] => { results := [.lit (.bool true)], args := [d1, d2] }
  | _ => none }
def recordBytesRow : OpenClaim := { program := "ytfojeegepfjbiaa", sum := "9b74023febacbf9e9d211a9a3cc1a86dd5543e92be2b5a2fe9a05bfdee893197", func := "folio/foliolaw14.RecordBytes", spec := "recordBytes", apart := false }
def RecordBytesSaid : Prop := recordBytesRow.holds Try.pinned (OpenSpec.ofChange recordBytesSpec)

/-- ITS FALSE NEIGHBOUR: 'it returns false'. Refute it at one input. -/
def recordBytesWrong : ChangeSpec := { name := "recordBytes", fn := fun _ => fun
  | [d1, d2] => { results := [.lit (.bool false)], args := [d1, d2] }
  | _ => none }
def RecordBytesWrongFalsely : Prop := recordBytesRow.holds Try.pinned (OpenSpec.ofChange recordBytesWrong)

/-- 'foliolaw14.RecordScan': WHATEVER THE INPUT: true; the input reads as it did. -/
def recordScanSpec : ChangeSpec := { name := "recordScan", fn := fun _ => fun
  | [d1, d2, d3, d4, d5] => { results := [.lit (.bool true)], args := [d1, d2, d3, d4, d5] }
  | _ => none }
def recordScanRow : OpenClaim := { program := "ytfojeegepfjbiaa", sum := "9b74023febacbf9e9d211a9a3cc1a86dd5543e92be2b5a2fe9a05bfdee893197", func := "folio/foliolaw14.RecordScan", spec := "recordScan", apart := false }
def RecordScanSaid : Prop := recordScanRow.holds Try.pinned (OpenSpec.ofChange recordScanSpec)

/-- ITS FALSE NEIGHBOUR: 'it returns false'. Refute it at one input. -/
def recordScanWrong : ChangeSpec := { name := "recordScan", fn := fun _ => fun
  | [d1, d2, d3, d4, d5] => { results := [.lit (.bool false)], args := [d1, d2, d3, d4, d5] }
  | _ => none }
def RecordScanWrongFalsely : Prop := recordScanRow.holds Try.pinned (OpenSpec.ofChange recordScanWrong)

/-- 'foliolaw14.RecordMany': WHATEVER THE INPUT: true; the input reads as it did. -/
def recordManySpec : ChangeSpec := { name := "recordMany", fn := fun _ => fun
  | [d1, d2] => { results := [.lit (.bool true)], args := [d1, d2] }
  | _ => none }
def recordManyRow : OpenClaim := { program := "ytfojeegepfjbiaa", sum := "9b74023febacbf9e9d211a9a3cc1a86dd5543e92be2b5a2fe9a05bfdee893197", func := "folio/foliolaw14.RecordMany", spec := "recordMany", apart := false }
def RecordManySaid : Prop := recordManyRow.holds Try.pinned (OpenSpec.ofChange recordManySpec)

/-- ITS FALSE NEIGHBOUR: 'it returns false'. Refute it at one input. -/
def recordManyWrong : ChangeSpec := { name := "recordMany", fn := fun _ => fun
  | [d1, d2] => { results := [.lit (.bool false)], args := [d1, d2] }
  | _ => none }
def RecordManyWrongFalsely : Prop := recordManyRow.holds Try.pinned (OpenSpec.ofChange recordManyWrong)

/-- 'foliolaw18.EditBytes': WHATEVER THE INPUT: true; the input reads as it did. -/
def editBytesSpec : ChangeSpec := { name := "editBytes", fn := fun _ => fun
  | [d1, d2] => { results := [.lit (.bool true)], args := [d1, d2] }
  | _ => none }
def editBytesRow : OpenClaim := { program := "ytfojeegepfjbiaa", sum := "9b74023febacbf9e9d211a9a3cc1a86dd5543e92be2b5a2fe9a05bfdee893197", func := "folio/foliolaw18.EditBytes", spec := "editBytes", unfollowed := true, recurses := true, apart := false }
def EditBytesSaid : Prop := editBytesRow.holds Try.pinned (OpenSpec.ofChange editBytesSpec)

/-- ITS FALSE NEIGHBOUR: 'it returns false'. Refute it at one input. -/
def editBytesWrong : ChangeSpec := { name := "editBytes", fn := fun _ => fun
  | [d1, d2] => { results := [.lit (.bool false)], args := [d1, d2] }
  | _ => none }
def EditBytesWrongFalsely : Prop := editBytesRow.holds Try.pinned (OpenSpec.ofChange editBytesWrong)

/-- 'foliolaw18.EditRot': WHATEVER THE INPUT: true; the input reads as it did. -/
def editRotSpec : ChangeSpec := { name := "editRot", fn := fun _ => fun
  | [d1, d2, d3, d4] => { results := [.lit (.bool true)], args := [d1, d2, d3, d4] }
  | _ => none }
def editRotRow : OpenClaim := { program := "ytfojeegepfjbiaa", sum := "9b74023febacbf9e9d211a9a3cc1a86dd5543e92be2b5a2fe9a05bfdee893197", func := "folio/foliolaw18.EditRot", spec := "editRot", unfollowed := true, recurses := true, apart := false }
def EditRotSaid : Prop := editRotRow.holds Try.pinned (OpenSpec.ofChange editRotSpec)

/-- ITS FALSE NEIGHBOUR: 'it returns false'. Refute it at one input. -/
def editRotWrong : ChangeSpec := { name := "editRot", fn := fun _ => fun
  | [d1, d2, d3, d4] => { results := [.lit (.bool false)], args := [d1, d2, d3, d4] }
  | _ => none }
def EditRotWrongFalsely : Prop := editRotRow.holds Try.pinned (OpenSpec.ofChange editRotWrong)

/-- 'foliolaw18.EditAny': WHATEVER THE INPUT: true; the input reads as it did. -/
def editAnySpec : ChangeSpec := { name := "editAny", fn := fun _ => fun
  | [d] => { results := [.lit (.bool true)], args := [d] }
  | _ => none }
def editAnyRow : OpenClaim := { program := "ytfojeegepfjbiaa", sum := "9b74023febacbf9e9d211a9a3cc1a86dd5543e92be2b5a2fe9a05bfdee893197", func := "folio/foliolaw18.EditAny", spec := "editAny", unfollowed := true, recurses := true, apart := false }
def EditAnySaid : Prop := editAnyRow.holds Try.pinned (OpenSpec.ofChange editAnySpec)

/-- ITS FALSE NEIGHBOUR: 'it returns false'. Refute it at one input. -/
def editAnyWrong : ChangeSpec := { name := "editAny", fn := fun _ => fun
  | [d] => { results := [.lit (.bool false)], args := [d] }
  | _ => none }
def EditAnyWrongFalsely : Prop := editAnyRow.holds Try.pinned (OpenSpec.ofChange editAnyWrong)

/-- 'foliolaw18.EditEnds': WHATEVER THE INPUT: true; the input reads as it did. -/
def editEndsSpec : ChangeSpec := { name := "editEnds", fn := fun _ => fun
  | [d1, d2, d3, d4, d5, d6] => { results := [.lit (.bool true)], args := [d1, d2, d3, d4, d5, d6] }
  | _ => none }
def editEndsRow : OpenClaim := { program := "ytfojeegepfjbiaa", sum := "9b74023febacbf9e9d211a9a3cc1a86dd5543e92be2b5a2fe9a05bfdee893197", func := "folio/foliolaw18.EditEnds", spec := "editEnds", unfollowed := true, recurses := true, apart := false }
def EditEndsSaid : Prop := editEndsRow.holds Try.pinned (OpenSpec.ofChange editEndsSpec)

/-- ITS FALSE NEIGHBOUR: 'it returns false'. Refute it at one input. -/
def editEndsWrong : ChangeSpec := { name := "editEnds", fn := fun _ => fun
  | [d1, d2, d3, d4, d5, d6] => { results := [.lit (.bool false)], args := [d1, d2, d3, d4, d5, d6] }
  | _ => none }
def EditEndsWrongFalsely : Prop := editEndsRow.holds Try.pinned (OpenSpec.ofChange editEndsWrong)

/-- 'foliolaw18.EditMany': WHATEVER THE INPUT: true; the input reads as it did. -/
def editManySpec : ChangeSpec := { name := "editMany", fn := fun _ => fun
  | [d1, d2] => { results := [.lit (.bool true)], args := [d1, d2] }
  | _ => none }
def editManyRow : OpenClaim := { program := "ytfojeegepfjbiaa", sum := "9b74023febacbf9e9d211a9a3cc1a86dd5543e92be2b5a2fe9a05bfdee893197", func := "folio/foliolaw18.EditMany", spec := "editMany", unfollowed := true, recurses := true, apart := false }
def EditManySaid : Prop := editManyRow.holds Try.pinned (OpenSpec.ofChange editManySpec)

/-- ITS FALSE NEIGHBOUR: 'it returns false'. Refute it at one input. -/
def editManyWrong : ChangeSpec := { name := "editMany", fn := fun _ => fun
  | [d1, d2] => { results := [.lit (.bool false)], args := [d1, d2] }
  | _ => none }
def EditManyWrongFalsely : Prop := editManyRow.holds Try.pinned (OpenSpec.ofChange editManyWrong)

/- THE SECOND FORM. 'bulk': how many values and letters a reading holds, each counted each time it is reached (what is shared counts as often as it is met; a slice's spare places count too). A statement '..UptoSaid' is the law's where the arguments, and the package variables that the reading takes, are together of bulk at most 1048576: NARROWER than '..Said'. Prove '..Said' where nothing that the law and all that it calls make is longer than what came in: it says more and counts as full. Else prove '..UptoSaid'. A law counts once. -/
mutual
def uptoBulk {H : Type} : DataW H → Nat
  | .lit (.string bytes) => bytes.length + 1
  | .lit _ => 1
  | .nil => 1
  | .ptr d => uptoBulk d + 1
  | .slice elems spare => uptoBulkAll elems + uptoBulkAll spare + 1
  | .agg parts => uptoBulkAll parts + 1
  | .iface _ d => uptoBulk d + 1
  | .map entries => uptoBulkEntries entries + 1
  | .held _ => 1
def uptoBulkAll {H : Type} : List (DataW H) → Nat
  | [] => 0
  | d :: r => uptoBulk d + uptoBulkAll r
def uptoBulkEntries {H : Type} : List (Lit × DataW H) → Nat
  | [] => 0
  | x :: r => uptoBulkEntry x + uptoBulkEntries r
def uptoBulkEntry {H : Type} : Lit × DataW H → Nat
  | (.string bytes, d) => bytes.length + uptoBulk d + 1
  | (_, d) => uptoBulk d + 1
 end
def uptoSmall : (H : Type) → List (DataW H) → Bool := fun _ ds => decide (uptoBulkAll ds ≤ 1048576)
def OpenSpec.upto (s : _root_.Go.ChangeSpec) : _root_.Go.OpenSpec := { _root_.Go.OpenSpec.ofChange s with cond := some uptoSmall }

/-- 'foliolaw3.CrcSum', WHERE WHAT IT READS IS OF BULK AT MOST 1048576: true; the input reads as it did. -/
def crcSumUptoRow : OpenClaim := { program := "ytfojeegepfjbiaa", sum := "9b74023febacbf9e9d211a9a3cc1a86dd5543e92be2b5a2fe9a05bfdee893197", func := "folio/foliolaw3.CrcSum", spec := "crcSum", apart := false, narrowed := true }
def CrcSumUptoSaid : Prop := crcSumUptoRow.holds Try.pinned (OpenSpec.upto crcSumSpec)

/-- 'foliolaw3.CrcSeal', WHERE WHAT IT READS IS OF BULK AT MOST 1048576: true; the input reads as it did. -/
def crcSealUptoRow : OpenClaim := { program := "ytfojeegepfjbiaa", sum := "9b74023febacbf9e9d211a9a3cc1a86dd5543e92be2b5a2fe9a05bfdee893197", func := "folio/foliolaw3.CrcSeal", spec := "crcSeal", apart := false, narrowed := true }
def CrcSealUptoSaid : Prop := crcSealUptoRow.holds Try.pinned (OpenSpec.upto crcSealSpec)

/-- 'foliolaw3.CrcScan', WHERE WHAT IT READS IS OF BULK AT MOST 1048576: true; the input reads as it did. -/
def crcScanUptoRow : OpenClaim := { program := "ytfojeegepfjbiaa", sum := "9b74023febacbf9e9d211a9a3cc1a86dd5543e92be2b5a2fe9a05bfdee893197", func := "folio/foliolaw3.CrcScan", spec := "crcScan", apart := false, narrowed := true }
def CrcScanUptoSaid : Prop := crcScanUptoRow.holds Try.pinned (OpenSpec.upto crcScanSpec)

/-- 'foliolaw3.CrcCut', WHERE WHAT IT READS IS OF BULK AT MOST 1048576: true; the input reads as it did. -/
def crcCutUptoRow : OpenClaim := { program := "ytfojeegepfjbiaa", sum := "9b74023febacbf9e9d211a9a3cc1a86dd5543e92be2b5a2fe9a05bfdee893197", func := "folio/foliolaw3.CrcCut", spec := "crcCut", apart := false, narrowed := true }
def CrcCutUptoSaid : Prop := crcCutUptoRow.holds Try.pinned (OpenSpec.upto crcCutSpec)

/-- 'foliolaw3.CrcRot', WHERE WHAT IT READS IS OF BULK AT MOST 1048576: true; the input reads as it did. -/
def crcRotUptoRow : OpenClaim := { program := "ytfojeegepfjbiaa", sum := "9b74023febacbf9e9d211a9a3cc1a86dd5543e92be2b5a2fe9a05bfdee893197", func := "folio/foliolaw3.CrcRot", spec := "crcRot", apart := false, narrowed := true }
def CrcRotUptoSaid : Prop := crcRotUptoRow.holds Try.pinned (OpenSpec.upto crcRotSpec)

/-- 'foliolaw3.CrcThree', WHERE WHAT IT READS IS OF BULK AT MOST 1048576: true; the input reads as it did. -/
def crcThreeUptoRow : OpenClaim := { program := "ytfojeegepfjbiaa", sum := "9b74023febacbf9e9d211a9a3cc1a86dd5543e92be2b5a2fe9a05bfdee893197", func := "folio/foliolaw3.CrcThree", spec := "crcThree", apart := false, narrowed := true }
def CrcThreeUptoSaid : Prop := crcThreeUptoRow.holds Try.pinned (OpenSpec.upto crcThreeSpec)

/-- 'foliolaw3.CrcBurst', WHERE WHAT IT READS IS OF BULK AT MOST 1048576: true; the input reads as it did. -/
def crcBurstUptoRow : OpenClaim := { program := "ytfojeegepfjbiaa", sum := "9b74023febacbf9e9d211a9a3cc1a86dd5543e92be2b5a2fe9a05bfdee893197", func := "folio/foliolaw3.CrcBurst", spec := "crcBurst", apart := false, narrowed := true }
def CrcBurstUptoSaid : Prop := crcBurstUptoRow.holds Try.pinned (OpenSpec.upto crcBurstSpec)

/-- 'foliolaw3.CrcMany', WHERE WHAT IT READS IS OF BULK AT MOST 1048576: true; the input reads as it did. -/
def crcManyUptoRow : OpenClaim := { program := "ytfojeegepfjbiaa", sum := "9b74023febacbf9e9d211a9a3cc1a86dd5543e92be2b5a2fe9a05bfdee893197", func := "folio/foliolaw3.CrcMany", spec := "crcMany", apart := false, narrowed := true }
def CrcManyUptoSaid : Prop := crcManyUptoRow.holds Try.pinned (OpenSpec.upto crcManySpec)

/-- 'foliolaw14.RecordBytes', WHERE WHAT IT READS IS OF BULK AT MOST 1048576: true; the input reads as it did. -/
def recordBytesUptoRow : OpenClaim := { program := "ytfojeegepfjbiaa", sum := "9b74023febacbf9e9d211a9a3cc1a86dd5543e92be2b5a2fe9a05bfdee893197", func := "folio/foliolaw14.RecordBytes", spec := "recordBytes", apart := false, narrowed := true }
def RecordBytesUptoSaid : Prop := recordBytesUptoRow.holds Try.pinned (OpenSpec.upto recordBytesSpec)

/-- 'foliolaw14.RecordScan', WHERE WHAT IT READS IS OF BULK AT MOST 1048576: true; the input reads as it did. -/
def recordScanUptoRow : OpenClaim := { program := "ytfojeegepfjbiaa", sum := "9b74023febacbf9e9d211a9a3cc1a86dd5543e92be2b5a2fe9a05bfdee893197", func := "folio/foliolaw14.RecordScan", spec := "recordScan", apart := false, narrowed := true }
def RecordScanUptoSaid : Prop := recordScanUptoRow.holds Try.pinned (OpenSpec.upto recordScanSpec)

/-- 'foliolaw14.RecordMany', WHERE WHAT IT READS IS OF BULK AT MOST 1048576: true; the input reads as it did. -/
def recordManyUptoRow : OpenClaim := { program := "ytfojeegepfjbiaa", sum := "9b74023febacbf9e9d211a9a3cc1a86dd5543e92be2b5a2fe9a05bfdee893197", func := "folio/foliolaw14.RecordMany", spec := "recordMany", apart := false, narrowed := true }
def RecordManyUptoSaid : Prop := recordManyUptoRow.holds Try.pinned (OpenSpec.upto recordManySpec)

/-- 'foliolaw18.EditBytes', WHERE WHAT IT READS IS OF BULK AT MOST 1048576: true; the input reads as it did. -/
def editBytesUptoRow : OpenClaim := { program := "ytfojeegepfjbiaa", sum := "9b74023febacbf9e9d211a9a3cc1a86dd5543e92be2b5a2fe9a05bfdee893197", func := "folio/foliolaw18.EditBytes", spec := "editBytes", unfollowed := true, recurses := true, apart := false, narrowed := true }
def EditBytesUptoSaid : Prop := editBytesUptoRow.holds Try.pinned (OpenSpec.upto editBytesSpec)

/-- 'foliolaw18.EditRot', WHERE WHAT IT READS IS OF BULK AT MOST 1048576: true; the input reads as it did. -/
def editRotUptoRow : OpenClaim := { program := "ytfojeegepfjbiaa", sum := "9b74023febacbf9e9d211a9a3cc1a86dd5543e92be2b5a2fe9a05bfdee893197", func := "folio/foliolaw18.EditRot", spec := "editRot", unfollowed := true, recurses := true, apart := false, narrowed := true }
def EditRotUptoSaid : Prop := editRotUptoRow.holds Try.pinned (OpenSpec.upto editRotSpec)

/-- 'foliolaw18.EditAny', WHERE WHAT IT READS IS OF BULK AT MOST 1048576: true; the input reads as it did. -/
def editAnyUptoRow : OpenClaim := { program := "ytfojeegepfjbiaa", sum := "9b74023febacbf9e9d211a9a3cc1a86dd5543e92be2b5a2fe9a05bfdee893197", func := "folio/foliolaw18.EditAny", spec := "editAny", unfollowed := true, recurses := true, apart := false, narrowed := true }
def EditAnyUptoSaid : Prop := editAnyUptoRow.holds Try.pinned (OpenSpec.upto editAnySpec)

/-- 'foliolaw18.EditEnds', WHERE WHAT IT READS IS OF BULK AT MOST 1048576: true; the input reads as it did. -/
def editEndsUptoRow : OpenClaim := { program := "ytfojeegepfjbiaa", sum := "9b74023febacbf9e9d211a9a3cc1a86dd5543e92be2b5a2fe9a05bfdee893197", func := "folio/foliolaw18.EditEnds", spec := "editEnds", unfollowed := true, recurses := true, apart := false, narrowed := true }
def EditEndsUptoSaid : Prop := editEndsUptoRow.holds Try.pinned (OpenSpec.upto editEndsSpec)

/-- 'foliolaw18.EditMany', WHERE WHAT IT READS IS OF BULK AT MOST 1048576: true; the input reads as it did. -/
def editManyUptoRow : OpenClaim := { program := "ytfojeegepfjbiaa", sum := "9b74023febacbf9e9d211a9a3cc1a86dd5543e92be2b5a2fe9a05bfdee893197", func := "folio/foliolaw18.EditMany", spec := "editMany", unfollowed := true, recurses := true, apart := false, narrowed := true }
def EditManyUptoSaid : Prop := editManyUptoRow.holds Try.pinned (OpenSpec.upto editManySpec)

end Rows
end Go.Proofs.Ytfojeegepfjbiaa
