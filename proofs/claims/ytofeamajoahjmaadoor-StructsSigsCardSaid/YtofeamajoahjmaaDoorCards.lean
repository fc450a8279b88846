/-
  DERIVED. GIVEN WITH THE SEED: THE CARDS: each row of YtofeamajoahjmaaDoorRows.lean that lists a variable, with what it lists TIED to the program's text (the seventh form; the later family's looks); each row that meets fmt, with fmt's text TOLD by the authors' own Lean function (tested against real Go, not proved from fmt's source: count such statements apart). THE CARD IS WHAT COUNTS. Prove the row's statement (the work); the ties are given (YtofeamajoahjmaaDoorTie.lean); close each card by the builder's one call (the guide's Derived/Test/ToyasCard.lean, 'card_holds'). Laid BY PROGRAM, IN A SANDBOX (cutbox-door.mjs). By AI agents, Wed Nov 11 2026. No macro, syntax, notation, axiom, sorry.
-/
import Derived.Test.YtofeamajoahjmaaDoorRows
import GoSem.ClaimSeven
namespace Go.Proofs.YtofeamajoahjmaaDoor
namespace Rows

/-- THE TIED CARD OF 'ferrylaw26.SigsNext'. -/
def sigsNextCard : Claim7 := { stood := { row := sigsNextRow, standIns := [], harness := (true, "1be6aa51e671abd7dbfeaf41a6ba2cb648920e55eadec95e93f864db932aee60"), looks := false }, kinds := [], alts := [], laidByText := true, laidKinds := [.data], laidTests := true, laidLooks := .later }
def SigsNextCardSaid : Prop := Claim7.holds Tryd.pinned (.plain (OpenSpec.ofChange sigsNextSpec)) sigsNextCard

/-- THE TIED CARD OF 'ferrylaw26.SigsMasks'. -/
def sigsMasksCard : Claim7 := { stood := { row := sigsMasksRow, standIns := [], harness := (true, "1be6aa51e671abd7dbfeaf41a6ba2cb648920e55eadec95e93f864db932aee60"), looks := false }, kinds := [], alts := [], laidByText := true, laidKinds := [.data], laidTests := true, laidLooks := .later }
def SigsMasksCardSaid : Prop := Claim7.holds Tryd.pinned (.plain (OpenSpec.ofChange sigsMasksSpec)) sigsMasksCard

/-- THE TIED CARD OF 'ferrylaw26.SigsEnters'. -/
def sigsEntersCard : Claim7 := { stood := { row := sigsEntersRow, standIns := [], harness := (true, "1be6aa51e671abd7dbfeaf41a6ba2cb648920e55eadec95e93f864db932aee60"), looks := false }, kinds := [], alts := [], laidByText := true, laidKinds := [.data], laidTests := true, laidLooks := .later }
def SigsEntersCardSaid : Prop := Claim7.holds Tryd.pinned (.plain (OpenSpec.ofChange sigsEntersSpec)) sigsEntersCard

/-- THE TIED CARD OF 'ferrylaw25.StructsSigs'. -/
def structsSigsCard : Claim7 := { stood := { row := structsSigsRow, standIns := [], harness := (true, "1be6aa51e671abd7dbfeaf41a6ba2cb648920e55eadec95e93f864db932aee60"), looks := false }, kinds := [], alts := [], laidByText := true, laidKinds := [.data, .pinned], laidTests := true, laidLooks := .later }
def StructsSigsCardSaid : Prop := Claim7.holds Tryd.pinned (.plain (OpenSpec.ofChange structsSigsSpec)) structsSigsCard

/-- THE TIED CARD OF 'ferrylaw25.StructsBack'. -/
def structsBackCard : Claim7 := { stood := { row := structsBackRow, standIns := [], harness := (true, "1be6aa51e671abd7dbfeaf41a6ba2cb648920e55eadec95e93f864db932aee60"), looks := false }, kinds := [], alts := [], laidByText := true, laidKinds := [.data, .pinned], laidTests := true, laidLooks := .later }
def StructsBackCardSaid : Prop := Claim7.holds Tryd.pinned (.plain (OpenSpec.ofChange structsBackSpec)) structsBackCard

/-- THE SECOND FORM's CARD OF 'ferrylaw26.SigsNext'. -/
def sigsNextUptoCard : Claim7 := { stood := { row := sigsNextUptoRow, standIns := [], harness := (true, "1be6aa51e671abd7dbfeaf41a6ba2cb648920e55eadec95e93f864db932aee60"), looks := false }, kinds := [], alts := [], laidByText := true, laidKinds := [.data], laidTests := true, laidLooks := .later }
def SigsNextUptoCardSaid : Prop := Claim7.holds Tryd.pinned (.plain (OpenSpec.upto sigsNextSpec)) sigsNextUptoCard

/-- THE SECOND FORM's CARD OF 'ferrylaw26.SigsMasks'. -/
def sigsMasksUptoCard : Claim7 := { stood := { row := sigsMasksUptoRow, standIns := [], harness := (true, "1be6aa51e671abd7dbfeaf41a6ba2cb648920e55eadec95e93f864db932aee60"), looks := false }, kinds := [], alts := [], laidByText := true, laidKinds := [.data], laidTests := true, laidLooks := .later }
def SigsMasksUptoCardSaid : Prop := Claim7.holds Tryd.pinned (.plain (OpenSpec.upto sigsMasksSpec)) sigsMasksUptoCard

/-- THE SECOND FORM's CARD OF 'ferrylaw26.SigsEnters'. -/
def sigsEntersUptoCard : Claim7 := { stood := { row := sigsEntersUptoRow, standIns := [], harness := (true, "1be6aa51e671abd7dbfeaf41a6ba2cb648920e55eadec95e93f864db932aee60"), looks := false }, kinds := [], alts := [], laidByText := true, laidKinds := [.data], laidTests := true, laidLooks := .later }
def SigsEntersUptoCardSaid : Prop := Claim7.holds Tryd.pinned (.plain (OpenSpec.upto sigsEntersSpec)) sigsEntersUptoCard

/-- THE SECOND FORM's CARD OF 'ferrylaw25.StructsSigs'. -/
def structsSigsUptoCard : Claim7 := { stood := { row := structsSigsUptoRow, standIns := [], harness := (true, "1be6aa51e671abd7dbfeaf41a6ba2cb648920e55eadec95e93f864db932aee60"), looks := false }, kinds := [], alts := [], laidByText := true, laidKinds := [.data, .pinned], laidTests := true, laidLooks := .later }
def StructsSigsUptoCardSaid : Prop := Claim7.holds Tryd.pinned (.plain (OpenSpec.upto structsSigsSpec)) structsSigsUptoCard

/-- THE SECOND FORM's CARD OF 'ferrylaw25.StructsBack'. -/
def structsBackUptoCard : Claim7 := { stood := { row := structsBackUptoRow, standIns := [], harness := (true, "1be6aa51e671abd7dbfeaf41a6ba2cb648920e55eadec95e93f864db932aee60"), looks := false }, kinds := [], alts := [], laidByText := true, laidKinds := [.data, .pinned], laidTests := true, laidLooks := .later }
def StructsBackUptoCardSaid : Prop := Claim7.holds Tryd.pinned (.plain (OpenSpec.upto structsBackSpec)) structsBackUptoCard
end Rows
end Go.Proofs.YtofeamajoahjmaaDoor
