/-
  DERIVED. GIVEN WITH THE SEED: THE CARDS: each row of YtddpidmbnofdbaaGreatDoorRows.lean that lists a variable, with what it lists TIED to the program's text (the seventh form; the later family's looks); each row that meets fmt, with fmt's text TOLD by the authors' own Lean function (tested against real Go, not proved from fmt's source: count such statements apart). THE CARD IS WHAT COUNTS. Prove the row's statement (the work); the ties are given (YtddpidmbnofdbaaGreatDoorTie.lean); close each card by the builder's one call (the guide's Derived/Test/ToyasCard.lean, 'card_holds'). Laid BY PROGRAM, IN A SANDBOX (cutbox-door.mjs). By AI agents, Wed Nov 11 2026. No macro, syntax, notation, axiom, sorry.
-/
import Derived.Test.YtddpidmbnofdbaaGreatDoorRows
import GoSem.ClaimSeven
namespace Go.Proofs.YtddpidmbnofdbaaGreatDoor
namespace Rows

/-- THE TIED CARD OF 'foliotop.TopBusy'. -/
def topBusyCard : Claim7 := { stood := { row := topBusyRow, standIns := [], harness := (true, "df3911a29a15d85d783c2d935d357728f5975caca6fffceef0170c7d18f60504"), looks := true }, kinds := [], alts := [], laidByText := true, laidKinds := [.data, .data, .data], laidTests := true, laidLooks := .later }
def TopBusyCardSaid : Prop := Claim7.holds Tryz.pinned (.plain (OpenSpec.ofChange topBusySpec)) topBusyCard

/-- THE TIED CARD OF 'foliotop.TopDelRace'. -/
def topDelRaceCard : Claim7 := { stood := { row := topDelRaceRow, standIns := [], harness := (true, "df3911a29a15d85d783c2d935d357728f5975caca6fffceef0170c7d18f60504"), looks := true }, kinds := [], alts := [], laidByText := true, laidKinds := [.data, .data, .data], laidTests := true, laidLooks := .later }
def TopDelRaceCardSaid : Prop := Claim7.holds Tryz.pinned (.plain (OpenSpec.ofChange topDelRaceSpec)) topDelRaceCard

/-- THE SECOND FORM's CARD OF 'foliotop.TopBusy'. -/
def topBusyUptoCard : Claim7 := { stood := { row := topBusyUptoRow, standIns := [], harness := (true, "df3911a29a15d85d783c2d935d357728f5975caca6fffceef0170c7d18f60504"), looks := true }, kinds := [], alts := [], laidByText := true, laidKinds := [.data, .data, .data], laidTests := true, laidLooks := .later }
def TopBusyUptoCardSaid : Prop := Claim7.holds Tryz.pinned (.plain (OpenSpec.upto topBusySpec)) topBusyUptoCard

/-- THE SECOND FORM's CARD OF 'foliotop.TopDelRace'. -/
def topDelRaceUptoCard : Claim7 := { stood := { row := topDelRaceUptoRow, standIns := [], harness := (true, "df3911a29a15d85d783c2d935d357728f5975caca6fffceef0170c7d18f60504"), looks := true }, kinds := [], alts := [], laidByText := true, laidKinds := [.data, .data, .data], laidTests := true, laidLooks := .later }
def TopDelRaceUptoCardSaid : Prop := Claim7.holds Tryz.pinned (.plain (OpenSpec.upto topDelRaceSpec)) topDelRaceUptoCard
end Rows
end Go.Proofs.YtddpidmbnofdbaaGreatDoor
