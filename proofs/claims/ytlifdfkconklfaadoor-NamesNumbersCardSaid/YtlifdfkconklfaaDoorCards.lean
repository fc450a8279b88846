/-
  DERIVED. GIVEN WITH THE SEED: THE CARDS: each row of YtlifdfkconklfaaDoorRows.lean that lists a variable, with what it lists TIED to the program's text (the seventh form; the later family's looks); each row that meets fmt, with fmt's text TOLD by the authors' own Lean function (tested against real Go, not proved from fmt's source: count such statements apart). THE CARD IS WHAT COUNTS. Prove the row's statement (the work); the ties are given (YtlifdfkconklfaaDoorTie.lean); close each card by the builder's one call (the guide's Derived/Test/ToyasCard.lean, 'card_holds'). Laid BY PROGRAM, IN A SANDBOX (cutbox-door.mjs). By AI agents, Wed Nov 11 2026. No macro, syntax, notation, axiom, sorry.
-/
import Derived.Test.YtlifdfkconklfaaDoorRows
import GoSem.ClaimSeven
namespace Go.Proofs.YtlifdfkconklfaaDoor
namespace Rows

/-- THE TIED CARD OF 'ferrylaw15.NamesReads'. -/
def namesReadsCard : Claim7 := { stood := { row := namesReadsRow, standIns := [], harness := (true, "5f1fe4d94bf1f2d088f4b6b3a417191bf4bcc69df9a5baf16d15435555e4aa8e"), looks := false }, kinds := [], alts := [], laidByText := true, laidKinds := [.data, .pinned], laidTests := true, laidLooks := .later }
def NamesReadsCardSaid : Prop := Claim7.holds Tryd.pinned (.plain (OpenSpec.ofChange namesReadsSpec)) namesReadsCard

/-- THE TIED CARD OF 'ferrylaw15.NamesWrites'. -/
def namesWritesCard : Claim7 := { stood := { row := namesWritesRow, standIns := [], harness := (true, "5f1fe4d94bf1f2d088f4b6b3a417191bf4bcc69df9a5baf16d15435555e4aa8e"), looks := false }, kinds := [], alts := [], laidByText := true, laidKinds := [.data, .pinned], laidTests := true, laidLooks := .later }
def NamesWritesCardSaid : Prop := Claim7.holds Tryd.pinned (.plain (OpenSpec.ofChange namesWritesSpec)) namesWritesCard

/-- THE TIED CARD OF 'ferrylaw15.NamesBack'. -/
def namesBackCard : Claim7 := { stood := { row := namesBackRow, standIns := [], harness := (true, "5f1fe4d94bf1f2d088f4b6b3a417191bf4bcc69df9a5baf16d15435555e4aa8e"), looks := false }, kinds := [], alts := [], laidByText := true, laidKinds := [.data, .pinned], laidTests := true, laidLooks := .later }
def NamesBackCardSaid : Prop := Claim7.holds Tryd.pinned (.plain (OpenSpec.ofChange namesBackSpec)) namesBackCard

/-- THE TIED CARD OF 'ferrylaw15.NamesNumbers'. -/
def namesNumbersCard : Claim7 := { stood := { row := namesNumbersRow, standIns := [], harness := (true, "5f1fe4d94bf1f2d088f4b6b3a417191bf4bcc69df9a5baf16d15435555e4aa8e"), looks := false }, kinds := [], alts := [], laidByText := true, laidKinds := [.data, .pinned], laidTests := true, laidLooks := .later }
def NamesNumbersCardSaid : Prop := Claim7.holds Tryd.pinned (.plain (OpenSpec.ofChange namesNumbersSpec)) namesNumbersCard

/-- THE SECOND FORM's CARD OF 'ferrylaw15.NamesReads'. -/
def namesReadsUptoCard : Claim7 := { stood := { row := namesReadsUptoRow, standIns := [], harness := (true, "5f1fe4d94bf1f2d088f4b6b3a417191bf4bcc69df9a5baf16d15435555e4aa8e"), looks := false }, kinds := [], alts := [], laidByText := true, laidKinds := [.data, .pinned], laidTests := true, laidLooks := .later }
def NamesReadsUptoCardSaid : Prop := Claim7.holds Tryd.pinned (.plain (OpenSpec.upto namesReadsSpec)) namesReadsUptoCard

/-- THE SECOND FORM's CARD OF 'ferrylaw15.NamesWrites'. -/
def namesWritesUptoCard : Claim7 := { stood := { row := namesWritesUptoRow, standIns := [], harness := (true, "5f1fe4d94bf1f2d088f4b6b3a417191bf4bcc69df9a5baf16d15435555e4aa8e"), looks := false }, kinds := [], alts := [], laidByText := true, laidKinds := [.data, .pinned], laidTests := true, laidLooks := .later }
def NamesWritesUptoCardSaid : Prop := Claim7.holds Tryd.pinned (.plain (OpenSpec.upto namesWritesSpec)) namesWritesUptoCard

/-- THE SECOND FORM's CARD OF 'ferrylaw15.NamesBack'. -/
def namesBackUptoCard : Claim7 := { stood := { row := namesBackUptoRow, standIns := [], harness := (true, "5f1fe4d94bf1f2d088f4b6b3a417191bf4bcc69df9a5baf16d15435555e4aa8e"), looks := false }, kinds := [], alts := [], laidByText := true, laidKinds := [.data, .pinned], laidTests := true, laidLooks := .later }
def NamesBackUptoCardSaid : Prop := Claim7.holds Tryd.pinned (.plain (OpenSpec.upto namesBackSpec)) namesBackUptoCard

/-- THE SECOND FORM's CARD OF 'ferrylaw15.NamesNumbers'. -/
def namesNumbersUptoCard : Claim7 := { stood := { row := namesNumbersUptoRow, standIns := [], harness := (true, "5f1fe4d94bf1f2d088f4b6b3a417191bf4bcc69df9a5baf16d15435555e4aa8e"), looks := false }, kinds := [], alts := [], laidByText := true, laidKinds := [.data, .pinned], laidTests := true, laidLooks := .later }
def NamesNumbersUptoCardSaid : Prop := Claim7.holds Tryd.pinned (.plain (OpenSpec.upto namesNumbersSpec)) namesNumbersUptoCard
end Rows
end Go.Proofs.YtlifdfkconklfaaDoor
