/-
  No cell of these rows narrows 'for every input' (looked for: loops, veiled, ifaces, maps, wideKeys, modest, calm, conditions, laid).
  DERIVED. THE GIVEN ROWS OF THIS SEAT. 9 by the template 'for every input the law returns true; each argument reads behind the call as it read before'; 0 by the template 'total and deterministic' (their statements: YtopclgpimabpcaaTotals.lean).
  GIVEN WITH THE SEED: the statements are not yours to turn. If you find one false, say at which input.
  Laid BY PROGRAM, IN A SANDBOX (cutbox-rows.mjs): the forced cells as the released guide's own fill.sh prints them over the translation 637c19cb077e1b07… (all of the seat's roots in one cut). By AI agents, Wed Nov 11 2026. No macro, syntax, notation, axiom, sorry.
-/
import Derived.Test.YtopclgpimabpcaaChecked
import GoSem.Claim
import GoSem.ClaimJoined
import GoSem.ClaimMapViews
import Derived.JoinedTies
import Derived.KernelRfl
namespace Go.Proofs.Ytopclgpimabpcaa
/- THE CELL 'sum', in the pinned program and in every row, IS THE sha256 OF THE DUMP (.gsa) THAT YtopclgpimabpcaaProg.lean LOADS. Nothing in Lean hashes anything: it is a label: what it is worth is what the hold of that sum in a sandbox is worth. -/
noncomputable def Try.pinned : Pinned := { name := "ytopclgpimabpcaa", sum := "637c19cb077e1b07c6130ef548d265ff0970d63cc2a5639728d44146c13a91dd", checked := Try.checked }
namespace Rows
def none {H : Type} : Left H := { results := [], args := [] }

/-- 'foliolaw22.TaskAll': WHATEVER THE INPUT: true; the input reads as it did. -/
def taskAllSpec : ChangeSpec := { name := "taskAll", fn := fun _ => fun
  | [d] => { results := [.lit (.bool true)], args := [d] }
  | _ => none }
def taskAllRow : OpenClaim := { program := "ytopclgpimabpcaa", sum := "637c19cb077e1b07c6130ef548d265ff0970d63cc2a5639728d44146c13a91dd", func := "folio/foliolaw22.TaskAll", spec := "taskAll", unfollowed := true, recurses := true, apart := false }
def TaskAllSaid : Prop := taskAllRow.holds Try.pinned (OpenSpec.ofChange taskAllSpec)

/-- ITS FALSE NEIGHBOUR: 'it returns false'. Refute it at one input. -/
def taskAllWrong : ChangeSpec := { name := "taskAll", fn := fun _ => fun
  | [d] => { results := [.lit (.bool false)], args := [d] }
  | _ => none }
def TaskAllWrongFalsely : Prop := taskAllRow.holds Try.pinned (OpenSpec.ofChange taskAllWrong)

/-- 'foliolaw22.TaskNone': WHATEVER THE INPUT: true; the input reads as it did. -/
def taskNoneSpec : ChangeSpec := { name := "taskNone", fn := fun _ => fun
  | [] => { results := [.lit (.bool true)], args := [] }
  | _ => none }
def taskNoneRow : OpenClaim := { program := "ytopclgpimabpcaa", sum := "637c19cb077e1b07c6130ef548d265ff0970d63cc2a5639728d44146c13a91dd", func := "folio/foliolaw22.TaskNone", spec := "taskNone", unfollowed := true, recurses := true, apart := false }
def TaskNoneSaid : Prop := taskNoneRow.holds Try.pinned (OpenSpec.ofChange taskNoneSpec)

/-- ITS FALSE NEIGHBOUR: 'it returns false'. Refute it at one input. -/
def taskNoneWrong : ChangeSpec := { name := "taskNone", fn := fun _ => fun
  | [] => { results := [.lit (.bool false)], args := [] }
  | _ => none }
def TaskNoneWrongFalsely : Prop := taskNoneRow.holds Try.pinned (OpenSpec.ofChange taskNoneWrong)

/-- 'foliolaw22.TaskTurns': WHATEVER THE INPUT: true; the input reads as it did. -/
def taskTurnsSpec : ChangeSpec := { name := "taskTurns", fn := fun _ => fun
  | [d] => { results := [.lit (.bool true)], args := [d] }
  | _ => none }
def taskTurnsRow : OpenClaim := { program := "ytopclgpimabpcaa", sum := "637c19cb077e1b07c6130ef548d265ff0970d63cc2a5639728d44146c13a91dd", func := "folio/foliolaw22.TaskTurns", spec := "taskTurns", unfollowed := true, recurses := true, apart := false }
def TaskTurnsSaid : Prop := taskTurnsRow.holds Try.pinned (OpenSpec.ofChange taskTurnsSpec)

/-- ITS FALSE NEIGHBOUR: 'it returns false'. Refute it at one input. -/
def taskTurnsWrong : ChangeSpec := { name := "taskTurns", fn := fun _ => fun
  | [d] => { results := [.lit (.bool false)], args := [d] }
  | _ => none }
def TaskTurnsWrongFalsely : Prop := taskTurnsRow.holds Try.pinned (OpenSpec.ofChange taskTurnsWrong)

/-- 'foliolaw22.TaskForty': WHATEVER THE INPUT: true; the input reads as it did. -/
def taskFortySpec : ChangeSpec := { name := "taskForty", fn := fun _ => fun
  | [d1, d2] => { results := [.lit (.bool true)], args := [d1, d2] }
  | _ => none }
def taskFortyRow : OpenClaim := { program := "ytopclgpimabpcaa", sum := "637c19cb077e1b07c6130ef548d265ff0970d63cc2a5639728d44146c13a91dd", func := "folio/foliolaw22.TaskForty", spec := "taskForty", unfollowed := true, recurses := true, apart := false }
def TaskFortySaid : Prop := taskFortyRow.holds Try.pinned (OpenSpec.ofChange taskFortySpec)

/-- ITS FALSE NEIGHBOUR: 'it returns false'. Refute it at one input. -/
def taskFortyWrong : ChangeSpec := { name := "taskForty", fn := fun _ => fun
  | [d1, d2] => { results := [.lit (.bool false)], args := [d1, d2] }
  | _ => none }
def TaskFortyWrongFalsely : Prop := taskFortyRow.holds Try.pinned (OpenSpec.ofChange taskFortyWrong)

/-- 'foliolaw21.LockAll': WHATEVER THE INPUT: true; the input reads as it did. -/
def lockAllSpec : ChangeSpec := { name := "lockAll", fn := fun _ => fun
  | [d] => { results := [.lit (.bool true)], args := [d] }
  | _ => none }
def lockAllRow : OpenClaim := { program := "ytopclgpimabpcaa", sum := "637c19cb077e1b07c6130ef548d265ff0970d63cc2a5639728d44146c13a91dd", func := "folio/foliolaw21.LockAll", spec := "lockAll", unfollowed := true, recurses := true, apart := false }
def LockAllSaid : Prop := lockAllRow.holds Try.pinned (OpenSpec.ofChange lockAllSpec)

/-- ITS FALSE NEIGHBOUR: 'it returns false'. Refute it at one input. -/
def lockAllWrong : ChangeSpec := { name := "lockAll", fn := fun _ => fun
  | [d] => { results := [.lit (.bool false)], args := [d] }
  | _ => none }
def LockAllWrongFalsely : Prop := lockAllRow.holds Try.pinned (OpenSpec.ofChange lockAllWrong)

/-- 'foliolaw21.LockAlone': WHATEVER THE INPUT: true; the input reads as it did. -/
def lockAloneSpec : ChangeSpec := { name := "lockAlone", fn := fun _ => fun
  | [d] => { results := [.lit (.bool true)], args := [d] }
  | _ => none }
def lockAloneRow : OpenClaim := { program := "ytopclgpimabpcaa", sum := "637c19cb077e1b07c6130ef548d265ff0970d63cc2a5639728d44146c13a91dd", func := "folio/foliolaw21.LockAlone", spec := "lockAlone", unfollowed := true, recurses := true, apart := false }
def LockAloneSaid : Prop := lockAloneRow.holds Try.pinned (OpenSpec.ofChange lockAloneSpec)

/-- ITS FALSE NEIGHBOUR: 'it returns false'. Refute it at one input. -/
def lockAloneWrong : ChangeSpec := { name := "lockAlone", fn := fun _ => fun
  | [d] => { results := [.lit (.bool false)], args := [d] }
  | _ => none }
def LockAloneWrongFalsely : Prop := lockAloneRow.holds Try.pinned (OpenSpec.ofChange lockAloneWrong)

/-- 'foliolaw21.LockNone': WHATEVER THE INPUT: true; the input reads as it did. -/
def lockNoneSpec : ChangeSpec := { name := "lockNone", fn := fun _ => fun
  | [] => { results := [.lit (.bool true)], args := [] }
  | _ => none }
def lockNoneRow : OpenClaim := { program := "ytopclgpimabpcaa", sum := "637c19cb077e1b07c6130ef548d265ff0970d63cc2a5639728d44146c13a91dd", func := "folio/foliolaw21.LockNone", spec := "lockNone", unfollowed := true, recurses := true, apart := false }
def LockNoneSaid : Prop := lockNoneRow.holds Try.pinned (OpenSpec.ofChange lockNoneSpec)

/-- ITS FALSE NEIGHBOUR: 'it returns false'. Refute it at one input. -/
def lockNoneWrong : ChangeSpec := { name := "lockNone", fn := fun _ => fun
  | [] => { results := [.lit (.bool false)], args := [] }
  | _ => none }
def LockNoneWrongFalsely : Prop := lockNoneRow.holds Try.pinned (OpenSpec.ofChange lockNoneWrong)

/-- 'foliolaw21.LockEnds': WHATEVER THE INPUT: true; the input reads as it did. -/
def lockEndsSpec : ChangeSpec := { name := "lockEnds", fn := fun _ => fun
  | [d1, d2] => { results := [.lit (.bool true)], args := [d1, d2] }
  | _ => none }
def lockEndsRow : OpenClaim := { program := "ytopclgpimabpcaa", sum := "637c19cb077e1b07c6130ef548d265ff0970d63cc2a5639728d44146c13a91dd", func := "folio/foliolaw21.LockEnds", spec := "lockEnds", unfollowed := true, recurses := true, apart := false }
def LockEndsSaid : Prop := lockEndsRow.holds Try.pinned (OpenSpec.ofChange lockEndsSpec)

/-- ITS FALSE NEIGHBOUR: 'it returns false'. Refute it at one input. -/
def lockEndsWrong : ChangeSpec := { name := "lockEnds", fn := fun _ => fun
  | [d1, d2] => { results := [.lit (.bool false)], args := [d1, d2] }
  | _ => none }
def LockEndsWrongFalsely : Prop := lockEndsRow.holds Try.pinned (OpenSpec.ofChange lockEndsWrong)

/-- 'foliolaw21.LockQueue': WHATEVER THE INPUT: true; the input reads as it did. -/
def lockQueueSpec : ChangeSpec := { name := "lockQueue", fn := fun _ => fun
  | [d] => { results := [.lit (.bool true)], args := [d] }
  | _ => none }
def lockQueueRow : OpenClaim := { program := "ytopclgpimabpcaa", sum := "637c19cb077e1b07c6130ef548d265ff0970d63cc2a5639728d44146c13a91dd", func := "folio/foliolaw21.LockQueue", spec := "lockQueue", unfollowed := true, recurses := true, apart := false }
def LockQueueSaid : Prop := lockQueueRow.holds Try.pinned (OpenSpec.ofChange lockQueueSpec)

/-- ITS FALSE NEIGHBOUR: 'it returns false'. Refute it at one input. -/
def lockQueueWrong : ChangeSpec := { name := "lockQueue", fn := fun _ => fun
  | [d] => { results := [.lit (.bool false)], args := [d] }
  | _ => none }
def LockQueueWrongFalsely : Prop := lockQueueRow.holds Try.pinned (OpenSpec.ofChange lockQueueWrong)

/- THE SECOND FORM. 'bulk': how many values and letters a reading holds, each counted each time it is reached (what is shared counts as often as it is met; a slice's spare places count too). A statement '..UptoSaid' is the law's where the arguments, and the package variables that the reading takes, are together of bulk at most 1048576: NARROWER than '..Said'. Prove '..Said' where nothing that the law and all that it calls make is longer than what came in: it says more and counts as full. Else prove '..UptoSaid'. A law counts once. -/
mutual
def uptoBulk {H : Type} : DataW H → Nat
  | .lit (.string bytes) => bytes.length + 1
  | .lit _ => 1
  | .nil => 1
  | .ptr d => uptoBulk d + 1
  | .slice elems spare => uptoBulkAll elems + uptoBulkAll spare + 1
  | .agg parts => uptoBulkAll parts + 1
  | .iface _ d => uptoBulk d + 1
  | .map entries => uptoBulkEntries entries + 1
  | .held _ => 1
def uptoBulkAll {H : Type} : List (DataW H) → Nat
  | [] => 0
  | d :: r => uptoBulk d + uptoBulkAll r
def uptoBulkEntries {H : Type} : List (Lit × DataW H) → Nat
  | [] => 0
  | x :: r => uptoBulkEntry x + uptoBulkEntries r
def uptoBulkEntry {H : Type} : Lit × DataW H → Nat
  | (.string bytes, d) => bytes.length + uptoBulk d + 1
  | (_, d) => uptoBulk d + 1
 end
def uptoSmall : (H : Type) → List (DataW H) → Bool := fun _ ds => decide (uptoBulkAll ds ≤ 1048576)
def OpenSpec.upto (s : _root_.Go.ChangeSpec) : _root_.Go.OpenSpec := { _root_.Go.OpenSpec.ofChange s with cond := some uptoSmall }

/-- 'foliolaw22.TaskAll', WHERE WHAT IT READS IS OF BULK AT MOST 1048576: true; the input reads as it did. -/
def taskAllUptoRow : OpenClaim := { program := "ytopclgpimabpcaa", sum := "637c19cb077e1b07c6130ef548d265ff0970d63cc2a5639728d44146c13a91dd", func := "folio/foliolaw22.TaskAll", spec := "taskAll", unfollowed := true, recurses := true, apart := false, narrowed := true }
def TaskAllUptoSaid : Prop := taskAllUptoRow.holds Try.pinned (OpenSpec.upto taskAllSpec)

/-- 'foliolaw22.TaskNone', WHERE WHAT IT READS IS OF BULK AT MOST 1048576: true; the input reads as it did. -/
def taskNoneUptoRow : OpenClaim := { program := "ytopclgpimabpcaa", sum := "637c19cb077e1b07c6130ef548d265ff0970d63cc2a5639728d44146c13a91dd", func := "folio/foliolaw22.TaskNone", spec := "taskNone", unfollowed := true, recurses := true, apart := false, narrowed := true }
def TaskNoneUptoSaid : Prop := taskNoneUptoRow.holds Try.pinned (OpenSpec.upto taskNoneSpec)

/-- 'foliolaw22.TaskTurns', WHERE WHAT IT READS IS OF BULK AT MOST 1048576: true; the input reads as it did. -/
def taskTurnsUptoRow : OpenClaim := { program := "ytopclgpimabpcaa", sum := "637c19cb077e1b07c6130ef548d265ff0970d63cc2a5639728d44146c13a91dd", func := "folio/foliolaw22.TaskTurns", spec := "taskTurns", unfollowed := true, recurses := true, apart := false, narrowed := true }
def TaskTurnsUptoSaid : Prop := taskTurnsUptoRow.holds Try.pinned (OpenSpec.upto taskTurnsSpec)

/-- 'foliolaw22.TaskForty', WHERE WHAT IT READS IS OF BULK AT MOST 1048576: true; the input reads as it did. -/
def taskFortyUptoRow : OpenClaim := { program := "ytopclgpimabpcaa", sum := "637c19cb077e1b07c6130ef548d265ff0970d63cc2a5639728d44146c13a91dd", func := "folio/foliolaw22.TaskForty", spec := "taskForty", unfollowed := true, recurses := true, apart := false, narrowed := true }
def TaskFortyUptoSaid : Prop := taskFortyUptoRow.holds Try.pinned (OpenSpec.upto taskFortySpec)

/-- 'foliolaw21.LockAll', WHERE WHAT IT READS IS OF BULK AT MOST 1048576: true; the input reads as it did. -/
def lockAllUptoRow : OpenClaim := { program := "ytopclgpimabpcaa", sum := "637c19cb077e1b07c6130ef548d265ff0970d63cc2a5639728d44146c13a91dd", func := "folio/foliolaw21.LockAll", spec := "lockAll", unfollowed := true, recurses := true, apart := false, narrowed := true }
def LockAllUptoSaid : Prop := lockAllUptoRow.holds Try.pinned (OpenSpec.upto lockAllSpec)

/-- 'foliolaw21.LockAlone', WHERE WHAT IT READS IS OF BULK AT MOST 1048576: true; the input reads as it did. -/
def lockAloneUptoRow : OpenClaim := { program := "ytopclgpimabpcaa", sum := "637c19cb077e1b07c6130ef548d265ff0970d63cc2a5639728d44146c13a91dd", func := "folio/foliolaw21.LockAlone", spec := "lockAlone", unfollowed := true, recurses := true, apart := false, narrowed := true }
def LockAloneUptoSaid : Prop := lockAloneUptoRow.holds Try.pinned (OpenSpec.upto lockAloneSpec)

/-- 'foliolaw21.LockNone', WHERE WHAT IT READS IS OF BULK AT MOST 1048576: true; the input reads as it did. -/
def lockNoneUptoRow : OpenClaim := { program := "ytopclgpimabpcaa", sum := "637c19cb077e1b07c6130ef548d265ff0970d63cc2a5639728d44146c13a91dd", func := "folio/foliolaw21.LockNone", spec := "lockNone", unfollowed := true, recurses := true, apart := false, narrowed := true }
def LockNoneUptoSaid : Prop := lockNoneUptoRow.holds Try.pinned (OpenSpec.upto lockNoneSpec)

/-- 'foliolaw21.LockEnds', WHERE WHAT IT READS IS OF BULK AT MOST 1048576: true; the input reads as it did. -/
def lockEndsUptoRow : OpenClaim := { program := "ytopclgpimabpcaa", sum := "637c19cb077e1b07c6130ef548d265ff0970d63cc2a5639728d44146c13a91dd", func := "folio/foliolaw21.LockEnds", spec := "lockEnds", unfollowed := true, recurses := true, apart := false, narrowed := true }
def LockEndsUptoSaid : Prop := lockEndsUptoRow.holds Try.pinned (OpenSpec.upto lockEndsSpec)

/-- 'foliolaw21.LockQueue', WHERE WHAT IT READS IS OF BULK AT MOST 1048576: true; the input reads as it did. -/
def lockQueueUptoRow : OpenClaim := { program := "ytopclgpimabpcaa", sum := "637c19cb077e1b07c6130ef548d265ff0970d63cc2a5639728d44146c13a91dd", func := "folio/foliolaw21.LockQueue", spec := "lockQueue", unfollowed := true, recurses := true, apart := false, narrowed := true }
def LockQueueUptoSaid : Prop := lockQueueUptoRow.holds Try.pinned (OpenSpec.upto lockQueueSpec)

end Rows
end Go.Proofs.Ytopclgpimabpcaa
