/-
  DERIVED. GIVEN WITH THE SEED: THE CARDS: each row of YthcgmdmdgpljmaaDoorRows.lean that lists a variable, with what it lists TIED to the program's text (the seventh form; the later family's looks); each row that meets fmt, with fmt's text TOLD by the authors' own Lean function (tested against real Go, not proved from fmt's source: count such statements apart). THE CARD IS WHAT COUNTS. Prove the row's statement (the work); the ties are given (YthcgmdmdgpljmaaDoorTie.lean); close each card by the builder's one call (the guide's Derived/Test/ToyasCard.lean, 'card_holds'). Laid BY PROGRAM, IN A SANDBOX (cutbox-door.mjs). By AI agents, Wed Nov 11 2026. No macro, syntax, notation, axiom, sorry.
-/
import Derived.Test.YthcgmdmdgpljmaaDoorRows
import GoSem.ClaimSeven
namespace Go.Proofs.YthcgmdmdgpljmaaDoor
namespace Rows

/-- THE TIED CARD OF 'lighteragelaw9.CoinBack'. -/
def coinBackCard : Claim7 := { stood := { row := coinBackRow, standIns := [], harness := (true, "014adf6bcb95392ebf0f920bf0c8b827d852d00931106e867b824c247a5e8230"), looks := false }, kinds := [], alts := [], laidByText := true, laidKinds := [.data, .data], laidTests := true, laidLooks := .later }
def CoinBackCardSaid : Prop := Claim7.holds Tryd.pinned (.plain (OpenSpec.ofChange coinBackSpec)) coinBackCard

/-- THE TIED CARD OF 'lighteragelaw9.CoinPart'. -/
def coinPartCard : Claim7 := { stood := { row := coinPartRow, standIns := [], harness := (true, "014adf6bcb95392ebf0f920bf0c8b827d852d00931106e867b824c247a5e8230"), looks := false }, kinds := [], alts := [], laidByText := true, laidKinds := [.data, .data], laidTests := true, laidLooks := .later }
def CoinPartCardSaid : Prop := Claim7.holds Tryd.pinned (.plain (OpenSpec.ofChange coinPartSpec)) coinPartCard

/-- THE TIED CARD OF 'lighteragelaw9.CoinRises'. -/
def coinRisesCard : Claim7 := { stood := { row := coinRisesRow, standIns := [], harness := (true, "014adf6bcb95392ebf0f920bf0c8b827d852d00931106e867b824c247a5e8230"), looks := false }, kinds := [], alts := [], laidByText := true, laidKinds := [.data, .data], laidTests := true, laidLooks := .later }
def CoinRisesCardSaid : Prop := Claim7.holds Tryd.pinned (.plain (OpenSpec.ofChange coinRisesSpec)) coinRisesCard

/-- THE TIED CARD OF 'lighteragelaw9.CoinPlays'. -/
def coinPlaysCard : Claim7 := { stood := { row := coinPlaysRow, standIns := [], harness := (true, "014adf6bcb95392ebf0f920bf0c8b827d852d00931106e867b824c247a5e8230"), looks := false }, kinds := [], alts := [], laidByText := true, laidKinds := [.data, .data], laidTests := true, laidLooks := .later }
def CoinPlaysCardSaid : Prop := Claim7.holds Tryd.pinned (.plain (OpenSpec.ofChange coinPlaysSpec)) coinPlaysCard

/-- THE SECOND FORM's CARD OF 'lighteragelaw9.CoinBack'. -/
def coinBackUptoCard : Claim7 := { stood := { row := coinBackUptoRow, standIns := [], harness := (true, "014adf6bcb95392ebf0f920bf0c8b827d852d00931106e867b824c247a5e8230"), looks := false }, kinds := [], alts := [], laidByText := true, laidKinds := [.data, .data], laidTests := true, laidLooks := .later }
def CoinBackUptoCardSaid : Prop := Claim7.holds Tryd.pinned (.plain (OpenSpec.upto coinBackSpec)) coinBackUptoCard

/-- THE SECOND FORM's CARD OF 'lighteragelaw9.CoinPart'. -/
def coinPartUptoCard : Claim7 := { stood := { row := coinPartUptoRow, standIns := [], harness := (true, "014adf6bcb95392ebf0f920bf0c8b827d852d00931106e867b824c247a5e8230"), looks := false }, kinds := [], alts := [], laidByText := true, laidKinds := [.data, .data], laidTests := true, laidLooks := .later }
def CoinPartUptoCardSaid : Prop := Claim7.holds Tryd.pinned (.plain (OpenSpec.upto coinPartSpec)) coinPartUptoCard

/-- THE SECOND FORM's CARD OF 'lighteragelaw9.CoinRises'. -/
def coinRisesUptoCard : Claim7 := { stood := { row := coinRisesUptoRow, standIns := [], harness := (true, "014adf6bcb95392ebf0f920bf0c8b827d852d00931106e867b824c247a5e8230"), looks := false }, kinds := [], alts := [], laidByText := true, laidKinds := [.data, .data], laidTests := true, laidLooks := .later }
def CoinRisesUptoCardSaid : Prop := Claim7.holds Tryd.pinned (.plain (OpenSpec.upto coinRisesSpec)) coinRisesUptoCard

/-- THE SECOND FORM's CARD OF 'lighteragelaw9.CoinPlays'. -/
def coinPlaysUptoCard : Claim7 := { stood := { row := coinPlaysUptoRow, standIns := [], harness := (true, "014adf6bcb95392ebf0f920bf0c8b827d852d00931106e867b824c247a5e8230"), looks := false }, kinds := [], alts := [], laidByText := true, laidKinds := [.data, .data], laidTests := true, laidLooks := .later }
def CoinPlaysUptoCardSaid : Prop := Claim7.holds Tryd.pinned (.plain (OpenSpec.upto coinPlaysSpec)) coinPlaysUptoCard
end Rows
end Go.Proofs.YthcgmdmdgpljmaaDoor
