/-
  DERIVED. GIVEN WITH THE SEED: THE CARDS: each row of YtibobcjfjnoclaaGreatDoorRows.lean that lists a variable, with what it lists TIED to the program's text (the seventh form; the later family's looks); each row that meets fmt, with fmt's text TOLD by the authors' own Lean function (tested against real Go, not proved from fmt's source: count such statements apart). THE CARD IS WHAT COUNTS. Prove the row's statement (the work); the ties are given (YtibobcjfjnoclaaGreatDoorTie.lean); close each card by the builder's one call (the guide's Derived/Test/ToyasCard.lean, 'card_holds'). Laid BY PROGRAM, IN A SANDBOX (cutbox-door.mjs). By AI agents, Wed Nov 11 2026. No macro, syntax, notation, axiom, sorry.
-/
import Derived.Test.YtibobcjfjnoclaaGreatDoorRows
import GoSem.ClaimSeven
namespace Go.Proofs.YtibobcjfjnoclaaGreatDoor
namespace Rows

/-- THE TIED CARD OF 'lighteragelaw25.OrphAgain'. -/
def orphAgainCard : Claim7 := { stood := { row := orphAgainRow, standIns := [], harness := (true, "6678af8be63528f0a4408513fa20fdf1c01303237ba56e82ae8e4ba224f8a0b6"), looks := false }, kinds := [], alts := [], laidByText := true, laidKinds := [.data, .data], laidTests := true, laidLooks := .later }
def OrphAgainCardSaid : Prop := Claim7.holds Tryz.pinned (.plain (OpenSpec.ofChange orphAgainSpec)) orphAgainCard

/-- THE TIED CARD OF 'lighteragelaw25.OrphFair'. -/
def orphFairCard : Claim7 := { stood := { row := orphFairRow, standIns := [], harness := (true, "6678af8be63528f0a4408513fa20fdf1c01303237ba56e82ae8e4ba224f8a0b6"), looks := false }, kinds := [], alts := [], laidByText := true, laidKinds := [.data, .data], laidTests := true, laidLooks := .later }
def OrphFairCardSaid : Prop := Claim7.holds Tryz.pinned (.plain (OpenSpec.ofChange orphFairSpec)) orphFairCard

/-- THE SECOND FORM's CARD OF 'lighteragelaw25.OrphAgain'. -/
def orphAgainUptoCard : Claim7 := { stood := { row := orphAgainUptoRow, standIns := [], harness := (true, "6678af8be63528f0a4408513fa20fdf1c01303237ba56e82ae8e4ba224f8a0b6"), looks := false }, kinds := [], alts := [], laidByText := true, laidKinds := [.data, .data], laidTests := true, laidLooks := .later }
def OrphAgainUptoCardSaid : Prop := Claim7.holds Tryz.pinned (.plain (OpenSpec.upto orphAgainSpec)) orphAgainUptoCard

/-- THE SECOND FORM's CARD OF 'lighteragelaw25.OrphFair'. -/
def orphFairUptoCard : Claim7 := { stood := { row := orphFairUptoRow, standIns := [], harness := (true, "6678af8be63528f0a4408513fa20fdf1c01303237ba56e82ae8e4ba224f8a0b6"), looks := false }, kinds := [], alts := [], laidByText := true, laidKinds := [.data, .data], laidTests := true, laidLooks := .later }
def OrphFairUptoCardSaid : Prop := Claim7.holds Tryz.pinned (.plain (OpenSpec.upto orphFairSpec)) orphFairUptoCard
end Rows
end Go.Proofs.YtibobcjfjnoclaaGreatDoor
