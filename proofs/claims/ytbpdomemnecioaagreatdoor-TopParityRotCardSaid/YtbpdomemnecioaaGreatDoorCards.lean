/-
  DERIVED. GIVEN WITH THE SEED: THE CARDS: each row of YtbpdomemnecioaaGreatDoorRows.lean that lists a variable, with what it lists TIED to the program's text (the seventh form; the later family's looks); each row that meets fmt, with fmt's text TOLD by the authors' own Lean function (tested against real Go, not proved from fmt's source: count such statements apart). THE CARD IS WHAT COUNTS. Prove the row's statement (the work); the ties are given (YtbpdomemnecioaaGreatDoorTie.lean); close each card by the builder's one call (the guide's Derived/Test/ToyasCard.lean, 'card_holds'). Laid BY PROGRAM, IN A SANDBOX (cutbox-door.mjs). By AI agents, Wed Nov 11 2026. No macro, syntax, notation, axiom, sorry.
-/
import Derived.Test.YtbpdomemnecioaaGreatDoorRows
import GoSem.ClaimSeven
namespace Go.Proofs.YtbpdomemnecioaaGreatDoor
namespace Rows

/-- THE TIED CARD OF 'foliotop.TopTwoRot'. -/
def topTwoRotCard : Claim7 := { stood := { row := topTwoRotRow, standIns := [], harness := (true, "f8e87672c4e226210a83f330b26149e279517963a9bb7733283ff07c8f2c7e32"), looks := true }, kinds := [], alts := [], laidByText := true, laidKinds := [.data, .data, .data], laidTests := true, laidLooks := .later }
def TopTwoRotCardSaid : Prop := Claim7.holds Tryz.pinned (.plain (OpenSpec.ofChange topTwoRotSpec)) topTwoRotCard

/-- THE TIED CARD OF 'foliotop.TopParityRot'. -/
def topParityRotCard : Claim7 := { stood := { row := topParityRotRow, standIns := [], harness := (true, "f8e87672c4e226210a83f330b26149e279517963a9bb7733283ff07c8f2c7e32"), looks := true }, kinds := [], alts := [], laidByText := true, laidKinds := [.data, .data, .data], laidTests := true, laidLooks := .later }
def TopParityRotCardSaid : Prop := Claim7.holds Tryz.pinned (.plain (OpenSpec.ofChange topParityRotSpec)) topParityRotCard

/-- THE SECOND FORM's CARD OF 'foliotop.TopTwoRot'. -/
def topTwoRotUptoCard : Claim7 := { stood := { row := topTwoRotUptoRow, standIns := [], harness := (true, "f8e87672c4e226210a83f330b26149e279517963a9bb7733283ff07c8f2c7e32"), looks := true }, kinds := [], alts := [], laidByText := true, laidKinds := [.data, .data, .data], laidTests := true, laidLooks := .later }
def TopTwoRotUptoCardSaid : Prop := Claim7.holds Tryz.pinned (.plain (OpenSpec.upto topTwoRotSpec)) topTwoRotUptoCard

/-- THE SECOND FORM's CARD OF 'foliotop.TopParityRot'. -/
def topParityRotUptoCard : Claim7 := { stood := { row := topParityRotUptoRow, standIns := [], harness := (true, "f8e87672c4e226210a83f330b26149e279517963a9bb7733283ff07c8f2c7e32"), looks := true }, kinds := [], alts := [], laidByText := true, laidKinds := [.data, .data, .data], laidTests := true, laidLooks := .later }
def TopParityRotUptoCardSaid : Prop := Claim7.holds Tryz.pinned (.plain (OpenSpec.upto topParityRotSpec)) topParityRotUptoCard
end Rows
end Go.Proofs.YtbpdomemnecioaaGreatDoor
