/-
  No cell of these rows narrows 'for every input' (looked for: loops, veiled, ifaces, maps, wideKeys, modest, calm, conditions, laid).
  DERIVED. THE GIVEN ROWS OF THIS SEAT. 4 by the template 'for every input the law returns true; each argument reads behind the call as it read before'; 0 by the template 'total and deterministic' (their statements: YtofeamajoahjmaaTotals.lean).
  GIVEN WITH THE SEED: the statements are not yours to turn. If you find one false, say at which input.
  Laid BY PROGRAM, IN A SANDBOX (cutbox-rows.mjs): the forced cells as the released guide's own fill.sh prints them over the translation e705e512148e0e9b… (all of the seat's roots in one cut). By AI agents, Wed Nov 11 2026. No macro, syntax, notation, axiom, sorry.
-/
import Derived.Test.YtofeamajoahjmaaChecked
import GoSem.Claim
import GoSem.ClaimJoined
import GoSem.ClaimMapViews
import Derived.JoinedTies
import Derived.KernelRfl
namespace Go.Proofs.Ytofeamajoahjmaa
/- THE CELL 'sum', in the pinned program and in every row, IS THE sha256 OF THE DUMP (.gsa) THAT YtofeamajoahjmaaProg.lean LOADS. Nothing in Lean hashes anything: it is a label: what it is worth is what the hold of that sum in a sandbox is worth. -/
noncomputable def Try.pinned : Pinned := { name := "ytofeamajoahjmaa", sum := "e705e512148e0e9b683b0529e9497e5b33a8c243c83dcfe6594f8c1b2d0624f3", checked := Try.checked }
namespace Rows
def none {H : Type} : Left H := { results := [], args := [] }

/-- 'ferrylaw27.FrameStacks': WHATEVER THE INPUT: true; the input reads as it did. -/
def frameStacksSpec : ChangeSpec := { name := "frameStacks", fn := fun _ => fun
  | [d1, d2, d3] => { results := [.lit (.bool true)], args := [d1, d2, d3] }
  | _ => none }
def frameStacksRow : OpenClaim := { program := "ytofeamajoahjmaa", sum := "e705e512148e0e9b683b0529e9497e5b33a8c243c83dcfe6594f8c1b2d0624f3", func := "ferry/ferrylaw27.FrameStacks", spec := "frameStacks", apart := false }
def FrameStacksSaid : Prop := frameStacksRow.holds Try.pinned (OpenSpec.ofChange frameStacksSpec)

/-- ITS FALSE NEIGHBOUR: 'it returns false'. Refute it at one input. -/
def frameStacksWrong : ChangeSpec := { name := "frameStacks", fn := fun _ => fun
  | [d1, d2, d3] => { results := [.lit (.bool false)], args := [d1, d2, d3] }
  | _ => none }
def FrameStacksWrongFalsely : Prop := frameStacksRow.holds Try.pinned (OpenSpec.ofChange frameStacksWrong)

/-- 'ferrylaw25.StructsTimes': WHATEVER THE INPUT: true; the input reads as it did. -/
def structsTimesSpec : ChangeSpec := { name := "structsTimes", fn := fun _ => fun
  | [d1, d2, d3, d4] => { results := [.lit (.bool true)], args := [d1, d2, d3, d4] }
  | _ => none }
def structsTimesRow : OpenClaim := { program := "ytofeamajoahjmaa", sum := "e705e512148e0e9b683b0529e9497e5b33a8c243c83dcfe6594f8c1b2d0624f3", func := "ferry/ferrylaw25.StructsTimes", spec := "structsTimes", inPlace := ["internal/abi.NoEscape"], unfollowed := true, recurses := true, apart := false }
def StructsTimesSaid : Prop := structsTimesRow.holds Try.pinned (OpenSpec.ofChange structsTimesSpec)

/-- ITS FALSE NEIGHBOUR: 'it returns false'. Refute it at one input. -/
def structsTimesWrong : ChangeSpec := { name := "structsTimes", fn := fun _ => fun
  | [d1, d2, d3, d4] => { results := [.lit (.bool false)], args := [d1, d2, d3, d4] }
  | _ => none }
def StructsTimesWrongFalsely : Prop := structsTimesRow.holds Try.pinned (OpenSpec.ofChange structsTimesWrong)

/-- 'ferrylaw25.StructsSizes': WHATEVER THE INPUT: true; the input reads as it did. -/
def structsSizesSpec : ChangeSpec := { name := "structsSizes", fn := fun _ => fun
  | [d1, d2] => { results := [.lit (.bool true)], args := [d1, d2] }
  | _ => none }
def structsSizesRow : OpenClaim := { program := "ytofeamajoahjmaa", sum := "e705e512148e0e9b683b0529e9497e5b33a8c243c83dcfe6594f8c1b2d0624f3", func := "ferry/ferrylaw25.StructsSizes", spec := "structsSizes", inPlace := ["internal/abi.NoEscape", "internal/bytealg.IndexByteString", "internal/bytealg.IndexString"], unfollowed := true, recurses := true, named := ["internal/bytealg.MaxLen"], apart := false }
def StructsSizesSaid : Prop := structsSizesRow.holds Try.pinned (OpenSpec.ofChange structsSizesSpec)

/-- ITS FALSE NEIGHBOUR: 'it returns false'. Refute it at one input. -/
def structsSizesWrong : ChangeSpec := { name := "structsSizes", fn := fun _ => fun
  | [d1, d2] => { results := [.lit (.bool false)], args := [d1, d2] }
  | _ => none }
def StructsSizesWrongFalsely : Prop := structsSizesRow.holds Try.pinned (OpenSpec.ofChange structsSizesWrong)

/-- 'ferrylaw25.StructsTells': WHATEVER THE INPUT: true; the input reads as it did. -/
def structsTellsSpec : ChangeSpec := { name := "structsTells", fn := fun _ => fun
  | [d1, d2, d3, d4] => { results := [.lit (.bool true)], args := [d1, d2, d3, d4] }
  | _ => none }
def structsTellsRow : OpenClaim := { program := "ytofeamajoahjmaa", sum := "e705e512148e0e9b683b0529e9497e5b33a8c243c83dcfe6594f8c1b2d0624f3", func := "ferry/ferrylaw25.StructsTells", spec := "structsTells", inPlace := ["internal/abi.NoEscape", "internal/bytealg.IndexByteString", "internal/bytealg.IndexString"], unfollowed := true, recurses := true, named := ["internal/bytealg.MaxLen"], apart := false }
def StructsTellsSaid : Prop := structsTellsRow.holds Try.pinned (OpenSpec.ofChange structsTellsSpec)

/-- ITS FALSE NEIGHBOUR: 'it returns false'. Refute it at one input. -/
def structsTellsWrong : ChangeSpec := { name := "structsTells", fn := fun _ => fun
  | [d1, d2, d3, d4] => { results := [.lit (.bool false)], args := [d1, d2, d3, d4] }
  | _ => none }
def StructsTellsWrongFalsely : Prop := structsTellsRow.holds Try.pinned (OpenSpec.ofChange structsTellsWrong)

/- THE SECOND FORM. 'bulk': how many values and letters a reading holds, each counted each time it is reached (what is shared counts as often as it is met; a slice's spare places count too). A statement '..UptoSaid' is the law's where the arguments, and the package variables that the reading takes, are together of bulk at most 1048576: NARROWER than '..Said'. Prove '..Said' where nothing that the law and all that it calls make is longer than what came in: it says more and counts as full. Else prove '..UptoSaid'. A law counts once. -/
mutual
def uptoBulk {H : Type} : DataW H → Nat
  | .lit (.string bytes) => bytes.length + 1
  | .lit _ => 1
  | .nil => 1
  | .ptr d => uptoBulk d + 1
  | .slice elems spare => uptoBulkAll elems + uptoBulkAll spare + 1
  | .agg parts => uptoBulkAll parts + 1
  | .iface _ d => uptoBulk d + 1
  | .map entries => uptoBulkEntries entries + 1
  | .held _ => 1
def uptoBulkAll {H : Type} : List (DataW H) → Nat
  | [] => 0
  | d :: r => uptoBulk d + uptoBulkAll r
def uptoBulkEntries {H : Type} : List (Lit × DataW H) → Nat
  | [] => 0
  | x :: r => uptoBulkEntry x + uptoBulkEntries r
def uptoBulkEntry {H : Type} : Lit × DataW H → Nat
  | (.string bytes, d) => bytes.length + uptoBulk d + 1
  | (_, d) => uptoBulk d + 1
 end
def uptoSmall : (H : Type) → List (DataW H) → Bool := fun _ ds => decide (uptoBulkAll ds ≤ 1048576)
def OpenSpec.upto (s : _root_.Go.ChangeSpec) : _root_.Go.OpenSpec := { _root_.Go.OpenSpec.ofChange s with cond := some uptoSmall }

/-- 'ferrylaw27.FrameStacks', WHERE WHAT IT READS IS OF BULK AT MOST 1048576: true; the input reads as it did. -/
def frameStacksUptoRow : OpenClaim := { program := "ytofeamajoahjmaa", sum := "e705e512148e0e9b683b0529e9497e5b33a8c243c83dcfe6594f8c1b2d0624f3", func := "ferry/ferrylaw27.FrameStacks", spec := "frameStacks", apart := false, narrowed := true }
def FrameStacksUptoSaid : Prop := frameStacksUptoRow.holds Try.pinned (OpenSpec.upto frameStacksSpec)

/-- 'ferrylaw25.StructsTimes', WHERE WHAT IT READS IS OF BULK AT MOST 1048576: true; the input reads as it did. -/
def structsTimesUptoRow : OpenClaim := { program := "ytofeamajoahjmaa", sum := "e705e512148e0e9b683b0529e9497e5b33a8c243c83dcfe6594f8c1b2d0624f3", func := "ferry/ferrylaw25.StructsTimes", spec := "structsTimes", inPlace := ["internal/abi.NoEscape"], unfollowed := true, recurses := true, apart := false, narrowed := true }
def StructsTimesUptoSaid : Prop := structsTimesUptoRow.holds Try.pinned (OpenSpec.upto structsTimesSpec)

/-- 'ferrylaw25.StructsSizes', WHERE WHAT IT READS IS OF BULK AT MOST 1048576: true; the input reads as it did. -/
def structsSizesUptoRow : OpenClaim := { program := "ytofeamajoahjmaa", sum := "e705e512148e0e9b683b0529e9497e5b33a8c243c83dcfe6594f8c1b2d0624f3", func := "ferry/ferrylaw25.StructsSizes", spec := "structsSizes", inPlace := ["internal/abi.NoEscape", "internal/bytealg.IndexByteString", "internal/bytealg.IndexString"], unfollowed := true, recurses := true, named := ["internal/bytealg.MaxLen"], apart := false, narrowed := true }
def StructsSizesUptoSaid : Prop := structsSizesUptoRow.holds Try.pinned (OpenSpec.upto structsSizesSpec)

/-- 'ferrylaw25.StructsTells', WHERE WHAT IT READS IS OF BULK AT MOST 1048576: true; the input reads as it did. -/
def structsTellsUptoRow : OpenClaim := { program := "ytofeamajoahjmaa", sum := "e705e512148e0e9b683b0529e9497e5b33a8c243c83dcfe6594f8c1b2d0624f3", func := "ferry/ferrylaw25.StructsTells", spec := "structsTells", inPlace := ["internal/abi.NoEscape", "internal/bytealg.IndexByteString", "internal/bytealg.IndexString"], unfollowed := true, recurses := true, named := ["internal/bytealg.MaxLen"], apart := false, narrowed := true }
def StructsTellsUptoSaid : Prop := structsTellsUptoRow.holds Try.pinned (OpenSpec.upto structsTellsSpec)

end Rows
end Go.Proofs.Ytofeamajoahjmaa
