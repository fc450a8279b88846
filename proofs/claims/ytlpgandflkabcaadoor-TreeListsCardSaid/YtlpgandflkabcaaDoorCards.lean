/-
  DERIVED. GIVEN WITH THE SEED: THE CARDS: each row of YtlpgandflkabcaaDoorRows.lean that lists a variable, with what it lists TIED to the program's text (the seventh form; the later family's looks); each row that meets fmt, with fmt's text TOLD by the authors' own Lean function (tested against real Go, not proved from fmt's source: count such statements apart). THE CARD IS WHAT COUNTS. Prove the row's statement (the work); the ties are given (YtlpgandflkabcaaDoorTie.lean); close each card by the builder's one call (the guide's Derived/Test/ToyasCard.lean, 'card_holds'). Laid BY PROGRAM, IN A SANDBOX (cutbox-door.mjs). By AI agents, Wed Nov 11 2026. No macro, syntax, notation, axiom, sorry.
-/
import Derived.Test.YtlpgandflkabcaaDoorRows
import GoSem.ClaimSeven
namespace Go.Proofs.YtlpgandflkabcaaDoor
namespace Rows

/-- THE TIED CARD OF 'ferrylaw21.TreeNorms'. -/
def treeNormsCard : Claim7 := { stood := { row := treeNormsRow, standIns := [], harness := (true, "c5a7c909b00f86e35b064982f7b7a5e504be2e477e7db6e9938cc9beee2946b6"), looks := false }, kinds := [], alts := [], laidByText := true, laidKinds := [.data, .pinned], laidTests := true, laidLooks := .later }
def TreeNormsCardSaid : Prop := Claim7.holds Tryd.pinned (.plain (OpenSpec.ofChange treeNormsSpec)) treeNormsCard

/-- THE TIED CARD OF 'ferrylaw21.TreeLists'. -/
def treeListsCard : Claim7 := { stood := { row := treeListsRow, standIns := [], harness := (true, "c5a7c909b00f86e35b064982f7b7a5e504be2e477e7db6e9938cc9beee2946b6"), looks := false }, kinds := [], alts := [], laidByText := true, laidKinds := [.data, .pinned], laidTests := true, laidLooks := .later }
def TreeListsCardSaid : Prop := Claim7.holds Tryd.pinned (.plain (OpenSpec.ofChange treeListsSpec)) treeListsCard

/-- THE SECOND FORM's CARD OF 'ferrylaw21.TreeNorms'. -/
def treeNormsUptoCard : Claim7 := { stood := { row := treeNormsUptoRow, standIns := [], harness := (true, "c5a7c909b00f86e35b064982f7b7a5e504be2e477e7db6e9938cc9beee2946b6"), looks := false }, kinds := [], alts := [], laidByText := true, laidKinds := [.data, .pinned], laidTests := true, laidLooks := .later }
def TreeNormsUptoCardSaid : Prop := Claim7.holds Tryd.pinned (.plain (OpenSpec.upto treeNormsSpec)) treeNormsUptoCard

/-- THE SECOND FORM's CARD OF 'ferrylaw21.TreeLists'. -/
def treeListsUptoCard : Claim7 := { stood := { row := treeListsUptoRow, standIns := [], harness := (true, "c5a7c909b00f86e35b064982f7b7a5e504be2e477e7db6e9938cc9beee2946b6"), looks := false }, kinds := [], alts := [], laidByText := true, laidKinds := [.data, .pinned], laidTests := true, laidLooks := .later }
def TreeListsUptoCardSaid : Prop := Claim7.holds Tryd.pinned (.plain (OpenSpec.upto treeListsSpec)) treeListsUptoCard
end Rows
end Go.Proofs.YtlpgandflkabcaaDoor
