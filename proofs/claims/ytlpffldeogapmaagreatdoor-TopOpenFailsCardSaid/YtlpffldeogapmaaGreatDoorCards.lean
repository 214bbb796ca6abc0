/-
  DERIVED. GIVEN WITH THE SEED: THE CARDS: each row of YtlpffldeogapmaaGreatDoorRows.lean that lists a variable, with what it lists TIED to the program's text (the seventh form; the later family's looks); each row that meets fmt, with fmt's text TOLD by the authors' own Lean function (tested against real Go, not proved from fmt's source: count such statements apart). THE CARD IS WHAT COUNTS. Prove the row's statement (the work); the ties are given (YtlpffldeogapmaaGreatDoorTie.lean); close each card by the builder's one call (the guide's Derived/Test/ToyasCard.lean, 'card_holds'). Laid BY PROGRAM, IN A SANDBOX (cutbox-door.mjs). By AI agents, Wed Nov 11 2026. No macro, syntax, notation, axiom, sorry.
-/
import Derived.Test.YtlpffldeogapmaaGreatDoorRows
import GoSem.ClaimSeven
namespace Go.Proofs.YtlpffldeogapmaaGreatDoor
namespace Rows

/-- THE TIED CARD OF 'foliotop.TopRepair'. -/
def topRepairCard : Claim7 := { stood := { row := topRepairRow, standIns := [], harness := (true, "cc313198c28669056ec4e5bc5b4093e1c4e0eda491f1af310dd1bc6de3abde2b"), looks := true }, kinds := [], alts := [], laidByText := true, laidKinds := [.data, .data, .data], laidTests := true, laidLooks := .later }
def TopRepairCardSaid : Prop := Claim7.holds Tryz.pinned (.plain (OpenSpec.ofChange topRepairSpec)) topRepairCard

/-- THE TIED CARD OF 'foliotop.TopRot'. -/
def topRotCard : Claim7 := { stood := { row := topRotRow, standIns := [], harness := (true, "cc313198c28669056ec4e5bc5b4093e1c4e0eda491f1af310dd1bc6de3abde2b"), looks := true }, kinds := [], alts := [], laidByText := true, laidKinds := [.data, .data, .data], laidTests := true, laidLooks := .later }
def TopRotCardSaid : Prop := Claim7.holds Tryz.pinned (.plain (OpenSpec.ofChange topRotSpec)) topRotCard

/-- THE TIED CARD OF 'foliotop.TopBusy'. -/
def topBusyCard : Claim7 := { stood := { row := topBusyRow, standIns := [], harness := (true, "cc313198c28669056ec4e5bc5b4093e1c4e0eda491f1af310dd1bc6de3abde2b"), looks := true }, kinds := [], alts := [], laidByText := true, laidKinds := [.data, .data, .data], laidTests := true, laidLooks := .later }
def TopBusyCardSaid : Prop := Claim7.holds Tryz.pinned (.plain (OpenSpec.ofChange topBusySpec)) topBusyCard

/-- THE TIED CARD OF 'foliotop.TopOpenFails'. -/
def topOpenFailsCard : Claim7 := { stood := { row := topOpenFailsRow, standIns := [], harness := (true, "cc313198c28669056ec4e5bc5b4093e1c4e0eda491f1af310dd1bc6de3abde2b"), looks := true }, kinds := [], alts := [], laidByText := true, laidKinds := [.data, .data, .data], laidTests := true, laidLooks := .later }
def TopOpenFailsCardSaid : Prop := Claim7.holds Tryz.pinned (.plain (OpenSpec.ofChange topOpenFailsSpec)) topOpenFailsCard

/-- THE SECOND FORM's CARD OF 'foliotop.TopRepair'. -/
def topRepairUptoCard : Claim7 := { stood := { row := topRepairUptoRow, standIns := [], harness := (true, "cc313198c28669056ec4e5bc5b4093e1c4e0eda491f1af310dd1bc6de3abde2b"), looks := true }, kinds := [], alts := [], laidByText := true, laidKinds := [.data, .data, .data], laidTests := true, laidLooks := .later }
def TopRepairUptoCardSaid : Prop := Claim7.holds Tryz.pinned (.plain (OpenSpec.upto topRepairSpec)) topRepairUptoCard

/-- THE SECOND FORM's CARD OF 'foliotop.TopRot'. -/
def topRotUptoCard : Claim7 := { stood := { row := topRotUptoRow, standIns := [], harness := (true, "cc313198c28669056ec4e5bc5b4093e1c4e0eda491f1af310dd1bc6de3abde2b"), looks := true }, kinds := [], alts := [], laidByText := true, laidKinds := [.data, .data, .data], laidTests := true, laidLooks := .later }
def TopRotUptoCardSaid : Prop := Claim7.holds Tryz.pinned (.plain (OpenSpec.upto topRotSpec)) topRotUptoCard

/-- THE SECOND FORM's CARD OF 'foliotop.TopBusy'. -/
def topBusyUptoCard : Claim7 := { stood := { row := topBusyUptoRow, standIns := [], harness := (true, "cc313198c28669056ec4e5bc5b4093e1c4e0eda491f1af310dd1bc6de3abde2b"), looks := true }, kinds := [], alts := [], laidByText := true, laidKinds := [.data, .data, .data], laidTests := true, laidLooks := .later }
def TopBusyUptoCardSaid : Prop := Claim7.holds Tryz.pinned (.plain (OpenSpec.upto topBusySpec)) topBusyUptoCard

/-- THE SECOND FORM's CARD OF 'foliotop.TopOpenFails'. -/
def topOpenFailsUptoCard : Claim7 := { stood := { row := topOpenFailsUptoRow, standIns := [], harness := (true, "cc313198c28669056ec4e5bc5b4093e1c4e0eda491f1af310dd1bc6de3abde2b"), looks := true }, kinds := [], alts := [], laidByText := true, laidKinds := [.data, .data, .data], laidTests := true, laidLooks := .later }
def TopOpenFailsUptoCardSaid : Prop := Claim7.holds Tryz.pinned (.plain (OpenSpec.upto topOpenFailsSpec)) topOpenFailsUptoCard
end Rows
end Go.Proofs.YtlpffldeogapmaaGreatDoor
